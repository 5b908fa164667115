/- What a caller hands in, brought into a ghost heap; the last step of a row that says 'true, and the arguments read as they did'. No condition. -/
import Derived.Test.YtlfnclhkhmkklaaDoorZ6
import Derived.Below
import Derived.ChangeSame
import Derived.ChangeSlices
import Derived.Deep.Slices
import Derived.Deep.Matrix
import Derived.WideKeyArgs
import Derived.MapKept
namespace Go.GL
open Go.RowKit Go.WideShapes Go.ChangeShapes Go.Deep

def GHeap.gap (H : GHeap) : GHeap := ⟨H.objs ++ [none]⟩
@[simp] theorem GHeap.next_gap (H : GHeap) : H.gap.next = H.next + 1 := by simp [GHeap.next, GHeap.gap]
theorem GHeap.get_gap (H : GHeap) (g : Nat) : H.gap.get g = H.get g := by
  unfold GHeap.get GHeap.gap
  simp only
  rcases Nat.lt_or_ge g H.objs.length with hl | hl
  · rw [List.getElem?_append_left hl]
  · rw [List.getElem?_append_right hl, List.getElem?_eq_none hl]
    rcases Nat.eq_zero_or_pos (g - H.objs.length) with e | e
    · rw [e]; rfl
    · rw [List.getElem?_eq_none (by simp; omega)]
theorem GHeap.le_gap (H : GHeap) : H.Le H.gap := ⟨by simp, fun g o h => by rw [GHeap.get_gap]; exact h⟩

section
variable {P : Program} {B : Nat} {w0 : World} {ρ : Place} {H : GHeap} {w : World}

theorem Sim.start (P : Program) (W : World) : Sim P W.heap.size W (fun _ => none) ⟨[]⟩ W :=
  ⟨fun _ _ => rfl, fun g o h => by simp [GHeap.get] at h, fun g g' o o' s s' h => by simp [GHeap.get] at h, Nat.le_refl _, .refl _ _⟩

theorem Sim.gap (hs : Sim P B w0 ρ H w) (s : Spot) : Sim P B w0 (place ρ H.next s) H.gap w ∧ Ext ρ (place ρ H.next s) := by
  have hext : Ext ρ (place ρ H.next s) := place_ext (hs.dom _ (Nat.le_refl _))
  refine ⟨⟨fun g hg => ?_, fun g o hg => ?_, fun g g' o o' t t' h1 h2 h3 h4 h5 h6 h7 => ?_, hs.base, hs.below⟩, hext⟩
  · simp at hg
    unfold place
    rw [if_neg (by omega)]
    exact hs.dom g (by omega)
  · rw [GHeap.get_gap] at hg
    exact (hs.live g o hg).keep hext fun _ _ => rfl
  · rw [GHeap.get_gap] at h1 h2
    have e1 := GHeap.ltg h1
    have e2 := GHeap.ltg h2
    unfold place at h6 h7
    rw [if_neg (by omega)] at h6 h7
    exact hs.apart g g' o o' t t' h1 h2 h3 h4 h5 h6 h7

theorem Sim.look (hs : Sim P B w0 ρ H w) {b : Nat} {C : Array Value} {e : TypeId} {fz : Nat × Nat} (hb : b < B) (hw : w.heap[b]? = some (.cells C e fz)) {off k : Nat} {vs : List Value} (hl : off + vs.length ≤ C.size)
    (hv : ∀ (i : Nat) (v : Value), vs[i]? = some v → ∃ c, C[off + i]? = some c ∧ VRel ρ v c) :
    Sim P B w0 (place ρ H.next ⟨b, off, C.size, k⟩) (H.push (.row vs e false)) w ∧ Ext ρ (place ρ H.next ⟨b, off, C.size, k⟩) := by
  have hext : Ext ρ (place ρ H.next ⟨b, off, C.size, k⟩) := place_ext (hs.dom _ (Nat.le_refl _))
  refine ⟨⟨fun g hg => ?_, fun g o hg => ?_, fun g g' o o' t t' h1 h2 h3 h4 h5 h6 h7 => ?_, hs.base, hs.below⟩, hext⟩
  · simp at hg
    unfold place
    rw [if_neg (by omega)]
    exact hs.dom g (by omega)
  · rcases Nat.lt_or_ge g H.next with hlt | hge
    · rw [GHeap.get_push_lt hlt] at hg
      exact (hs.live g o hg).keep hext fun _ _ => rfl
    · have hg' : g = H.next := by have := GHeap.ltg hg; simp at this; omega
      subst hg'
      rw [GHeap.get_push_new] at hg
      cases hg
      exact ⟨_, C, fz, place_self, hw, rfl, hl, fun i v h => let ⟨c, h1, h2⟩ := hv i v h; ⟨c, h1, h2.mono hext⟩, fun h => (by cases h), fun _ => hb, fun h => (by cases h)⟩
  · have old : ∀ {k' : Nat} {x : GObj}, (H.push (.row vs e false)).get k' = some x → x.isOwn = true → k' < H.next ∧ H.get k' = some x := by
      intro k' x hx ho
      have hk := GHeap.ltg hx
      simp at hk
      rcases Nat.lt_or_ge k' H.next with hlt | hge
      · rw [GHeap.get_push_lt hlt] at hx; exact ⟨hlt, hx⟩
      · obtain rfl : k' = H.next := by omega
        rw [GHeap.get_push_new] at hx
        cases hx
        cases ho
    obtain ⟨a1, a2⟩ := old h1 h3
    obtain ⟨b1, b2⟩ := old h2 h4
    unfold place at h6 h7
    rw [if_neg (by omega)] at h6 h7
    exact hs.apart g g' o o' t t' a2 b2 h3 h4 h5 h6 h7

theorem Sim.list (hs : Sim P B w0 ρ H w) (hB : w.heap.size ≤ B) {a : Addr} {len cap : Nat} {V : Nat → Value} (hl : len ≤ cap) (hm : cap ≤ maxLen) (hcell : ∀ i, i < cap → w.cell? (a.add i) = some (V i)) {f : Nat → Value}
    (hf : ∀ i, i < len → VRel ρ (f i) (V i)) :
    ∃ a' ρ' H', Sim P B w0 ρ' H' w ∧ Ext ρ ρ' ∧ H.Le H' ∧ VRel ρ' (.slice a' len len) (.slice (some a) len cap) ∧ SlA H' a' len f := by
  rcases Nat.eq_zero_or_pos cap with e | hp
  · subst e
    obtain rfl : len = 0 := by omega
    obtain ⟨h1, h2⟩ := hs.gap ⟨0, 0, 0, 0⟩
    exact ⟨some ⟨H.next, 0, none⟩, _, _, h1, h2, H.le_gap, .empty place_self, .inl rfl⟩
  · have h0 := hcell 0 hp
    have hsp := World.cell?_spot h0
    obtain ⟨b, off, sp⟩ := a
    have hadd : ∀ i, (Addr.mk b off none).add i = ⟨b, off + i, none⟩ := fun i => by
      unfold Addr.add
      split
      · rename_i h; subst h; rfl
      · rfl
    obtain rfl : sp = none := by simpa [Addr.add] using hsp
    rw [hadd] at h0
    have hblk : ∃ C e fz, w.heap[b]? = some (.cells C e fz) := by
      unfold World.cell? at h0
      split at h0
      · exact ⟨_, _, _, by assumption⟩
      · cases h0
    obtain ⟨C, e, fz, hC⟩ := hblk
    have hc : ∀ i, i < cap → C[off + i]? = some (V i) := fun i hi => by
      have := hcell i hi
      rw [hadd] at this
      simpa [World.cell?, hC] using this
    have hsz : off + cap ≤ C.size := by
      have := (Array.getElem?_eq_some_iff.1 (hc (cap - 1) (by omega))).1
      omega
    have hbl : b < B := by
      have : b < w.heap.size := (Array.getElem?_eq_some_iff.1 hC).1
      omega
    obtain ⟨h1, h2⟩ := hs.look hbl hC (off := off) (k := 1) (vs := (List.range len).map f) (by simp; omega) (fun i v hv => by
      simp only [List.getElem?_map, Option.map_eq_some_iff] at hv
      obtain ⟨j, hj, rfl⟩ := hv
      have hj' := List.getElem?_eq_some_iff.1 hj
      simp at hj'
      obtain ⟨hi, rfl⟩ := hj'
      exact ⟨_, hc i (by omega), hf i hi⟩)
    refine ⟨some ⟨H.next, 0, none⟩, _, _, h1, h2, GHeap.le_push _ _, ?_, .inr ⟨H.next, 0, rfl, fun i hi => ?_⟩⟩
    · have := VRel.slice (ρ := place ρ H.next ⟨b, off, C.size, 1⟩) (g := H.next) (o := 0) (n := len) (cap := cap) place_self hl (by simp only; omega) hm
      simpa using this
    · rw [GHeap.cell_of (GHeap.get_push_new _ _)]
      simp [hi]
end

def i64T (P : Program) (t : TypeId) : Bool := match P.underlying t with | some (.int .i64) => true | _ => false
def intsT (P : Program) (t : TypeId) : Bool := match P.underlying t with | some (.slice e) => i64T P e && (P.cellsOf e == 1) | _ => false
def intssT (P : Program) (t : TypeId) : Bool := match P.underlying t with | some (.slice e) => intsT P e && (P.cellsOf e == 1) | _ => false
theorem i64T_run {P : Program} {t : TypeId} (h : i64T P t = true) : P.underlying t = some (.int .i64) := by
  unfold i64T at h
  split at h
  · assumption
  · cases h
theorem intsT_run {P : Program} {t : TypeId} (h : intsT P t = true) : ∃ e, P.underlying t = some (.slice e) ∧ P.underlying e = some (.int .i64) ∧ P.cellsOf e = 1 := by
  unfold intsT at h
  split at h
  · simp only [Bool.and_eq_true, beq_iff_eq] at h
    exact ⟨_, by assumption, i64T_run h.1, h.2⟩
  · cases h
theorem intssT_run {P : Program} {t : TypeId} (h : intssT P t = true) : ∃ e, P.underlying t = some (.slice e) ∧ intsT P e = true ∧ P.cellsOf e = 1 := by
  unfold intssT at h
  split at h
  · simp only [Bool.and_eq_true, beq_iff_eq] at h
    exact ⟨_, by assumption, h.1, h.2⟩
  · cases h

def Imports (P : Program) (t : TypeId) (R : Place → GHeap → List Value → Prop) : Prop :=
  ∀ {T : Type} {enc : TypeId × Value → T} {B : Nat} {w0 : World} {ρ : Place} {H : GHeap} {w : World} {held : Bool} {fuel : Nat} {cs : List Value} {x : DataW T × List MemPlace}, Sim P B w0 ρ H w → w.heap.size ≤ B →
    DataW.trod enc P w 0 (fun _ => true) held fuel t cs = some x → ∃ ρ' H', Sim P B w0 ρ' H' w ∧ Ext ρ ρ' ∧ H.Le H' ∧ R ρ' H' cs

def I64 (n : Int) : Prop := -9223372036854775808 ≤ n ∧ n ≤ 9223372036854775807
theorem I64.of_wf {n : Int} (h : (Lit.int .i64 n).wf = true) : I64 n := by
  simp [Lit.wf, IntKind.min, IntKind.max, IntKind.signed, IntKind.bits] at h
  exact ⟨by omega, by omega⟩
def I64s (xs : List Int) : Prop := xs.length ≤ 9223372036854775807 ∧ ∀ i, I64 (xs.getD i 0)

def RInt (_ : Place) (_ : GHeap) (cs : List Value) : Prop := ∃ n, cs = [.int .i64 n] ∧ I64 n
def RInts (ρ : Place) (H : GHeap) (cs : List Value) : Prop := ∃ a xs c, cs = [c] ∧ VRel ρ (.slice a xs.length xs.length) c ∧ Ints H a xs ∧ I64s xs
def RIntss (ρ : Place) (H : GHeap) (cs : List Value) : Prop := ∃ a xss r c, cs = [c] ∧ VRel ρ (.slice a xss.length xss.length) c ∧ Intss H a xss r ∧ xss.length ≤ 9223372036854775807 ∧ ∀ i, I64s (xss.getD i [])

theorem import_int {P : Program} {t : TypeId} (ht : i64T P t = true) : Imports P t RInt := by
  intro T enc B w0 ρ H w held fuel cs x hs hB h
  obtain ⟨n, h1, _, h3⟩ := DataW.trod_int (i64T_run ht) h
  exact ⟨ρ, H, hs, .refl ρ, .refl H, n, h1, .of_wf h3⟩

theorem take_getD (zs : List Int) {n i : Nat} (hi : i < n) : (zs.take n).getD i 0 = zs.getD i 0 := by
  simp [List.getD_eq_getElem?_getD, List.getElem?_take, hi]
theorem I64s.take {zs : List Int} (h : ∀ n ∈ zs, (Lit.int .i64 n).wf = true) {len : Nat} (hl : (zs.take len).length ≤ 9223372036854775807) : I64s (zs.take len) := by
  refine ⟨hl, fun i => ?_⟩
  rw [List.getD_eq_getElem?_getD]
  cases e : (zs.take len)[i]? with
  | none => simp [I64]
  | some n => exact .of_wf (h n (List.mem_of_mem_take (List.mem_of_getElem? e)))

theorem import_ints {P : Program} {t : TypeId} (ht : intsT P t = true) : Imports P t RInts := by
  intro T enc B w0 ρ H w held fuel cs x hs hB h
  obtain ⟨e, h1, h2, h3⟩ := intsT_run ht
  rcases open_ints h1 h2 h3 h with ⟨rfl, _⟩ | ⟨a, len, cap, zs, rfl, _, hl, hm, hz, _, hc, hw⟩
  · exact ⟨ρ, H, hs, .refl ρ, .refl H, none, [], _, rfl, .nilSlice, .inl rfl, by simp, fun i => by simp [I64]⟩
  · simp only [if_true] at hz
    have hlen : (zs.take len).length = len := by simp; omega
    obtain ⟨a', ρ', H', k1, k2, k3, k4, k5⟩ := hs.list hB (f := fun i => .int .i64 ((zs.take len).getD i 0)) hl hm (fun i hi => hc i (by omega)) (fun i hi => by rw [take_getD zs hi]; exact .int _ _)
    refine ⟨ρ', H', k1, k2, k3, a', zs.take len, _, rfl, by rw [hlen]; exact k4, ?_, .take hw (by rw [hlen]; unfold maxLen at hm; omega)⟩
    unfold Ints
    rw [hlen]
    exact k5

theorem import_intss {P : Program} {t : TypeId} (ht : intssT P t = true) : Imports P t RIntss := by
  intro T enc B w0 ρ H w held fuel cs x hs hB h
  obtain ⟨e, h1, h2, h3⟩ := intssT_run ht
  obtain ⟨q, g1, g2, g3⟩ := intsT_run h2
  rcases open_int_rows h1 g1 g2 h3 g3 h with ⟨rfl, _⟩ | ⟨a, len, cap, A, L, C, Z, rfl, _, hl, hm, _, hr⟩
  · exact ⟨ρ, H, hs, .refl ρ, .refl H, none, [], fun _ => none, _, rfl, .nilSlice, ⟨.inl rfl, fun i hi => by simp at hi⟩, by simp, fun i => by simp [I64s, I64]⟩
  · have hlen : ∀ r, r < cap → ((Z r).take (L r)).length = L r := fun r hi => by
      obtain ⟨_, k2, _, k4, _⟩ := hr r hi
      simp; omega
    have rows : ∀ k, k ≤ len → ∃ ρ' H', Sim P B w0 ρ' H' w ∧ Ext ρ ρ' ∧ H.Le H' ∧ ∃ rr : Nat → Option Addr, ∀ r, r < k → VRel ρ' (.slice (rr r) (L r) (L r)) (.slice (A r) (L r) (C r)) ∧ Ints H' (rr r) ((Z r).take (L r)) := by
      intro k
      induction k with
      | zero => exact fun _ => ⟨ρ, H, hs, .refl ρ, .refl H, fun _ => none, fun r hr => by omega⟩
      | succ k ih =>
        intro hk
        obtain ⟨ρ1, H1, s1, e1, l1, rr, hrr⟩ := ih (by omega)
        obtain ⟨c1, c2, c3, c4, c5, c6, c7⟩ := hr k (by omega)
        have one : ∃ a' ρ2 H2, Sim P B w0 ρ2 H2 w ∧ Ext ρ1 ρ2 ∧ H1.Le H2 ∧ VRel ρ2 (.slice a' (L k) (L k)) (.slice (A k) (L k) (C k)) ∧ Ints H2 a' ((Z k).take (L k)) := by
          cases hA : A k with
          | none =>
            have e0 := c6 hA
            have e2 : L k = 0 := by omega
            rw [e0, e2]
            exact ⟨none, ρ1, H1, s1, .refl _, .refl _, .nilSlice, .inl (by simp)⟩
          | some a' =>
            obtain ⟨_, hc⟩ := c7 a' hA
            obtain ⟨a2, ρ2, H2, k1, k2, k3, k4, k5⟩ := s1.list hB (f := fun i => .int .i64 (((Z k).take (L k)).getD i 0)) c2 c3 hc (fun i hi => by rw [take_getD (Z k) hi]; exact .int _ _)
            refine ⟨a2, ρ2, H2, k1, k2, k3, k4, ?_⟩
            unfold Ints
            rw [hlen k (by omega)]
            exact k5
        obtain ⟨a', ρ2, H2, s2, e2, l2, v2, i2⟩ := one
        refine ⟨ρ2, H2, s2, e1.trans e2, l1.trans l2, fun r => if r = k then a' else rr r, fun r hr' => ?_⟩
        by_cases ek : r = k
        · subst ek; simp only [if_true]; exact ⟨v2, i2⟩
        · simp only [ek, if_false]
          obtain ⟨v1, i1⟩ := hrr r (by omega)
          exact ⟨v1.mono e2, i1.mono l2⟩
    obtain ⟨ρ1, H1, s1, e1, l1, rr, hrr⟩ := rows len (Nat.le_refl _)
    obtain ⟨a', ρ2, H2, k1, k2, k3, k4, k5⟩ := s1.list hB (f := fun r => .slice (rr r) (L r) (L r)) hl hm (fun r hi => (hr r hi).1) (fun r hi => (hrr r hi).1)
    have hx : ((List.range len).map fun r => (Z r).take (L r)).length = len := by simp
    have hg : ∀ r, r < len → ((List.range len).map fun r => (Z r).take (L r)).getD r [] = (Z r).take (L r) := fun r hi => by simp [List.getD_eq_getElem?_getD, hi]
    refine ⟨ρ2, H2, k1, e1.trans k2, l1.trans k3, a', (List.range len).map fun r => (Z r).take (L r), rr, _, rfl, by rw [hx]; exact k4, ⟨?_, fun r hi => ?_⟩, by rw [hx]; unfold maxLen at hm; omega, fun r => ?_⟩
    · rw [hx]
      refine k5.imp id fun ⟨g, off, hga, hc⟩ => ⟨g, off, hga, fun i hi => ?_⟩
      show _ = some (Value.slice (rr i) (((List.range len).map fun r => (Z r).take (L r)).getD i []).length (((List.range len).map fun r => (Z r).take (L r)).getD i []).length)
      rw [hg i hi, hlen i (by omega)]
      exact hc i hi
    · rw [hx] at hi
      rw [hg r hi]
      exact (hrr r hi).2.mono k3
    · by_cases hi : r < len
      · rw [hg r hi]
        obtain ⟨_, c2, c3, c4, c5, _⟩ := hr r (by omega)
        exact .take c5 (by rw [hlen r (by omega)]; unfold maxLen at c3; omega)
      · rw [List.getD_eq_getElem?_getD, List.getElem?_eq_none (by rw [hx]; omega)]
        simp [I64s, I64]

def fieldIs (P : Program) (fs : Array Field) (i off n : Nat) (chk : Program → TypeId → Bool) : Bool :=
  match fs[i]? with
  | some f => (f.offset == off) && (P.cellsOf f.type == n) && chk P f.type
  | none => false
def structIs (P : Program) (t : TypeId) (n m : Nat) (chk : Array Field → Bool) : Bool :=
  match P.underlying t with
  | some (.struct fs) => (P.cellsOf t == n) && (fs.size == m) && chk fs
  | _ => false
theorem structIs_run {P : Program} {t : TypeId} {n m : Nat} {chk : Array Field → Bool} (h : structIs P t n m chk = true) : ∃ fs, P.underlying t = some (.struct fs) ∧ P.cellsOf t = n ∧ fs.size = m ∧ chk fs = true := by
  unfold structIs at h
  split at h
  · simp only [Bool.and_eq_true, beq_iff_eq] at h
    exact ⟨_, by assumption, h.1.1, h.1.2, h.2⟩
  · cases h

section
variable {P : Program} {T : Type} {enc : TypeId × Value → T} {B : Nat} {w0 : World} {ρ : Place} {H : GHeap} {w : World} {held : Bool} {n : Nat} {cs : List Value} {fs : Array Field} {xs : List (DataW T × List MemPlace)}
theorem import_field {i off k : Nat} {chk : Program → TypeId → Bool} {R : Place → GHeap → List Value → Prop} (hI : ∀ t, chk P t = true → Imports P t R) (hfd : fieldIs P fs i off k chk = true) (hx : xs.length = fs.size)
    (hf : ∀ (i : Nat) (f : Field), fs[i]? = some f → DataW.trod enc P w 0 (fun _ => true) held n f.type ((cs.drop f.offset).take (P.cellsOf f.type)) = xs[i]?) (hs : Sim P B w0 ρ H w) (hB : w.heap.size ≤ B) :
    ∃ ρ' H', Sim P B w0 ρ' H' w ∧ Ext ρ ρ' ∧ H.Le H' ∧ R ρ' H' ((cs.drop off).take k) := by
  unfold fieldIs at hfd
  split at hfd
  · rename_i f hfi
    simp only [Bool.and_eq_true, beq_iff_eq] at hfd
    obtain ⟨⟨h1, h2⟩, h3⟩ := hfd
    have hi : i < xs.length := by rw [hx]; exact (Array.getElem?_eq_some_iff.1 hfi).1
    have := hf i f hfi
    rw [List.getElem?_eq_getElem hi, h1, h2] at this
    exact hI _ h3 hs hB this
  · cases hfd
end

def Cat.Wide (c : Cat) : Prop := I64 c.obj ∧ I64s c.src ∧ I64s c.tgt ∧ I64s c.idn ∧ c.comp.length ≤ 9223372036854775807 ∧ ∀ i, I64s (c.comp.getD i [])
def Fun.Wide (f : Fun) : Prop := f.s.Wide ∧ f.t.Wide ∧ I64s f.ob ∧ I64s f.ar
def Tra.Wide (m : Tra) : Prop := m.s.Wide ∧ m.t.Wide ∧ I64s m.co

def catT (P : Program) (t : TypeId) : Bool := structIs P t 5 5 fun fs => fieldIs P fs 0 0 1 i64T && fieldIs P fs 1 1 1 intsT && fieldIs P fs 2 2 1 intsT && fieldIs P fs 3 3 1 intsT && fieldIs P fs 4 4 1 intssT
def RCat (ρ : Place) (H : GHeap) (cs : List Value) : Prop := ∃ (c : Cat) (p : CatP), LRel ρ (c.cells p) cs ∧ c.In H p ∧ c.Wide
theorem split5 {cs : List Value} {a b c d e : Value} (h0 : (cs.drop 0).take 1 = [a]) (h1 : (cs.drop 1).take 1 = [b]) (h2 : (cs.drop 2).take 1 = [c]) (h3 : (cs.drop 3).take 1 = [d]) (h4 : (cs.drop 4).take 1 = [e]) (hl : cs.length = 5) : cs = [a, b, c, d, e] := by
  match cs, hl with
  | [v0, v1, v2, v3, v4], _ => simp at h0 h1 h2 h3 h4; subst h0; subst h1; subst h2; subst h3; subst h4; rfl

theorem import_cat {P : Program} {t : TypeId} (ht : catT P t = true) : Imports P t RCat := by
  intro T enc B w0 ρ H w held fuel cs x hs hB h
  obtain ⟨fs, g1, g2, g3, g4⟩ := structIs_run ht
  simp only [Bool.and_eq_true] at g4
  obtain ⟨⟨⟨⟨q0, q1⟩, q2⟩, q3⟩, q4⟩ := g4
  obtain ⟨xs, n, _, _, hl, hx, hf⟩ := DataW.trod_struct g1 h
  obtain ⟨ρ0, H0, s0, e0, l0, nobj, r0, w0'⟩ := import_field (fun _ h => import_int h) q0 hx hf hs hB
  obtain ⟨ρ1, H1, s1, e1, l1, a1, x1, c1, r1, v1, i1, w1⟩ := import_field (fun _ h => import_ints h) q1 hx hf s0 hB
  obtain ⟨ρ2, H2, s2, e2, l2, a2, x2, c2, r2, v2, i2, w2⟩ := import_field (fun _ h => import_ints h) q2 hx hf s1 hB
  obtain ⟨ρ3, H3, s3, e3, l3, a3, x3, c3, r3, v3, i3, w3⟩ := import_field (fun _ h => import_ints h) q3 hx hf s2 hB
  obtain ⟨ρ4, H4, s4, e4, l4, a4, x4, rr, c4, r4, v4, i4, w4, w5⟩ := import_field (fun _ h => import_intss h) q4 hx hf s3 hB
  refine ⟨ρ4, H4, s4, e0.trans (e1.trans (e2.trans (e3.trans e4))), l0.trans (l1.trans (l2.trans (l3.trans l4))), ⟨nobj, x1, x2, x3, x4⟩, ⟨a1, a2, a3, a4, rr⟩, ?_, ⟨i1.mono (l2.trans (l3.trans l4)), i2.mono (l3.trans l4), i3.mono l4, i4⟩, ⟨w0', w1, w2, w3, w4, w5⟩⟩
  rw [split5 r0 r1 r2 r3 r4 (by rw [hl, g2])]
  exact .cons (.int _ _) (.cons (v1.mono (e2.trans (e3.trans e4))) (.cons (v2.mono (e3.trans e4)) (.cons (v3.mono e4) (.cons v4 (.nil _)))))

def readB (P : Program) (ts : List TypeId) : Bool := ts.all fun t => P.readableRec t && decide (t < P.types.size)

section
variable {T : Type} {enc : TypeId × Value → T} {P : Program}
theorem args_again (hl : laidOutB P = true) {W W' : World} (hb : Below W.heap.size W W') {sp : Nat → Bool} : ∀ {ts : List TypeId} {vs : List Value} {ds : List (DataW T)} {ps : List MemPlace}, readB P ts = true →
    DataW.TrodAll enc P W 0 (fun _ => true) true ts vs ds ps → (∀ p ∈ ps, p.block < W.heap.size) → (∀ p ∈ ps, sp p.block = true) → DataW.TrodAll enc P W' 0 sp true ts vs ds ps
  | [], _, _, _, _, h, _, _ => by
    obtain ⟨rfl, rfl, rfl⟩ := trodAll_nil h
    exact trodAll_mk0
  | t :: ts, _, _, _, hr, h, hlt, hsp => by
    obtain ⟨v, vs, d, ds, p, q, rfl, rfl, rfl, h1, h2⟩ := trodAll_cons h
    simp only [readB, List.all_cons, Bool.and_eq_true, decide_eq_true_eq] at hr
    exact ⟨p, q, WideElems.Trod_stays hl hr.1.1 hr.1.2 h1 (fun x hx => hb.same (hlt x (by simp [hx]))) (fun x hx => hsp x (by simp [hx])),
      args_again hl hb (by simpa only [readB, Bool.and_eq_true] using hr.2) h2 (fun x hx => hlt x (by simp [hx])) (fun x hx => hsp x (by simp [hx])), rfl⟩

theorem law_post {f : Func} {s : ChangeSpec} {apart fresh handsOn again : Bool} {W W' : World} {args : Array Value} {ds gs : List (DataW T)} {before : List MemPlace} {tb : TypeId}
    (hl : laidOutB P = true) (hr : readB P f.params.toList = true) (hv : s.vars = []) (hrt : f.resultTypes = #[tb]) (htb : P.underlying tb = some .bool)
    (hW : DataW.Whole enc P f.params.toList s.vars apart W args.toList ds gs before)
    (hsr : (s.fn T ds).results = [.lit (.bool true)]) (hsa : (s.fn T ds).args = ds) (hsv : (s.fn T ds).vars = []) (hb : Below W.heap.size W W') :
    s.post enc P f apart fresh handsOn again W args (.bool true) W' := by
  have hlt := hW.lt
  have hWW := hW
  obtain ⟨p, q, hA, hV, hpq, hfz, hnd⟩ := hW
  rw [hv] at hV
  obtain ⟨rfl, rfl⟩ := trodVars_none hV
  rw [List.append_nil] at hpq
  obtain rfl := hpq.symm
  have hres : ∀ (b : Nat) (sp : Nat → Bool) (hd : Bool), DataW.TrodAll enc P W' b sp hd f.resultTypes.toList ((Value.bool true).resultList f.resultTypes.size) (s.fn T (ds ++ [])).results [] := fun b sp hd => by
    rw [List.append_nil, hsr, hrt]
    exact trodAll_mk1 (shut_bool htb true)
  have hargs : ∀ sp : Nat → Bool, (∀ x ∈ p, sp x.block = true) → DataW.TrodAll enc P W' 0 sp true f.params.toList args.toList (s.fn T (ds ++ [])).args p := fun sp hsp => by
    rw [List.append_nil, hsa]
    exact args_again hl hb hr hA hlt hsp
  have hvars : ∀ sp : Nat → Bool, DataW.TrodVars enc P W' sp s.vars (s.fn T (ds ++ [])).vars [] := fun sp => by
    rw [List.append_nil, hsv, hv]
    rfl
  have hok : ∀ (j : Nat) (t : TypeId) (r : Value), f.resultTypes[j]? = some t → ((Value.bool true).resultList f.resultTypes.size)[j]? = some r → Value.okWide P W' .any 0 t r := ok_one hrt rfl (okWide_bool_mk htb true)
  refine ⟨ds, [], p, [], p, [], hWW, hres _ _ _, hargs _ fun x hx => by simpa using hlt x hx, hvars _, hb.frame _, fun _ => ⟨hok, _, _, ([] ++ p) ++ [], ⟨[] ++ p, [], trodAll_append (hargs (fun _ => true) fun _ _ => rfl) (hres _ _ _), hvars (fun _ => true), rfl, ?_, ?_⟩, ?_⟩⟩
  · intro b off hp
    have hin : MemPlace.cell b off ∈ p := by simpa using hp
    rw [hb.frozen (hlt _ hin)]
    exact hfz b off hin
  · intro ha
    simpa using hnd ha
  · intro x hx _
    simpa using hx
end

def SzR (left : Int) (p : Prop) (H : GHeap) : Value → GHeap → Prop := fun v H' => H' = H ∧ ∃ l, v = .int .i64 l ∧ -1 ≤ l ∧ l ≤ left ∧ (0 ≤ l → p)
theorem SzR.of {P : Program} {f : FuncId} {args : List Value} {H : GHeap} {left : Int} {p : Prop} (h : GCalls P f args H fun v H' => H.Le H' ∧ ∃ l, v = .int .i64 l ∧ -1 ≤ l ∧ l ≤ left ∧ (0 ≤ l → p)) : GCalls P f args H (SzR left p H) :=
  (GCalls.quiet (φ := fun v => ∃ l, v = .int .i64 l ∧ -1 ≤ l ∧ l ≤ left ∧ (0 ≤ l → p)) (h.mono fun _ _ ⟨h1, l, h2, h3⟩ => ⟨⟨l, h2, h3⟩, by rw [h2]; rfl, h1⟩)).mono fun _ _ ⟨h1, h2⟩ => ⟨h2, h1⟩

theorem eq_of_getD {xs ys : List Int} (hl : ys.length = xs.length) (h : ∀ i, i < xs.length → ys.getD i 0 = xs.getD i 0) : ys = xs := by
  apply List.ext_getElem hl
  intro i h1 h2
  have := h i h2
  simpa [List.getD_eq_getElem?_getD, h1, h2] using this
theorem ints_set (ys : List Int) (i : Nat) (v : Int) : (ints ys).set i (.int .i64 v) = ints (ys.set i v) := by simp [ints, List.map_set]
theorem getD_set {ys : List Int} {k i : Nat} {v : Int} (hk : k < ys.length) : (ys.set k v).getD i 0 = if i = k then v else ys.getD i 0 := by
  simp only [List.getD_eq_getElem?_getD, List.getElem?_set]
  by_cases e : k = i
  · subst e; simp [hk]
  · simp [e, Ne.symm e]
theorem SlA.of_ints {H : GHeap} {g : Nat} {ys : List Int} {e : TypeId} {own : Bool} {n : Nat} (h : H.get g = some (.row (ints ys) e own)) (hn : ys.length = n) : SlA H (some ⟨g, 0, none⟩) n (fun i => .int .i64 (ys.getD i 0)) := by
  subst hn; exact Ints.of_get h

theorem SlA.of_row {H : GHeap} {g n : Nat} {cs : List Value} {e : TypeId} {own : Bool} (h : H.get g = some (.row cs e own)) (hn : cs.length = n) : SlA H (some ⟨g, 0, none⟩) n (fun i => cs.getD i (.bool false)) := by
  subst hn
  exact .inr ⟨g, 0, rfl, fun i hi => by rw [GHeap.cell_of h, Nat.zero_add]; simp [List.getD_eq_getElem?_getD, hi]⟩

def Keep (b : Nat) (H H' : GHeap) : Prop := ∀ g o, b ≤ g → H.get g = some o → H'.get g = some o
theorem Keep.of_le {b : Nat} {H H' : GHeap} (h : H.Le H') : Keep b H H' := fun g o _ => h.2 g o
theorem Keep.set {b g : Nat} {H : GHeap} {o : Option GObj} (h : g < b) : Keep b H (H.set g o) := fun k x hk hx => by
  rw [GHeap.get_set_ne (by omega)]; exact hx
def IntsAt (b : Nat) (H : GHeap) (a : Option Addr) (xs : List Int) : Prop := ∃ g e, a = some ⟨g, 0, none⟩ ∧ b ≤ g ∧ H.get g = some (.row (ints xs) e true)
def IntssAt (b : Nat) (H : GHeap) (a : Option Addr) (xss : List (List Int)) (r : Nat → Option Addr) : Prop :=
  ∃ g e cs, a = some ⟨g, 0, none⟩ ∧ b ≤ g ∧ H.get g = some (.row cs e true) ∧ cs.length = xss.length ∧ (∀ i, i < xss.length → cs[i]? = some (.slice (r i) (xss.getD i []).length (xss.getD i []).length)) ∧ ∀ i, i < xss.length → IntsAt b H (r i) (xss.getD i [])
theorem IntsAt.keep {b b' : Nat} {H H' : GHeap} {a : Option Addr} {xs : List Int} (h : IntsAt b H a xs) (hk : Keep b' H H') (hb : b' ≤ b) : IntsAt b' H' a xs :=
  let ⟨g, e, h1, h2, h3⟩ := h; ⟨g, e, h1, by omega, hk g _ (by omega) h3⟩
theorem IntssAt.keep {b b' : Nat} {H H' : GHeap} {a : Option Addr} {xss : List (List Int)} {r : Nat → Option Addr} (h : IntssAt b H a xss r) (hk : Keep b' H H') (hb : b' ≤ b) : IntssAt b' H' a xss r :=
  let ⟨g, e, cs, h1, h2, h3, h4, h5, h6⟩ := h; ⟨g, e, cs, h1, by omega, hk g _ (by omega) h3, h4, h5, fun i hi => (h6 i hi).keep hk hb⟩
theorem IntsAt.ints {b : Nat} {H : GHeap} {a : Option Addr} {xs : List Int} (h : IntsAt b H a xs) : Ints H a xs := by
  obtain ⟨g, e, rfl, _, h3⟩ := h
  exact Ints.of_get h3
theorem IntssAt.intss {b : Nat} {H : GHeap} {a : Option Addr} {xss : List (List Int)} {r : Nat → Option Addr} (h : IntssAt b H a xss r) : Intss H a xss r := by
  obtain ⟨g, e, cs, rfl, _, h3, h4, h5, h6⟩ := h
  exact ⟨.inr ⟨g, 0, rfl, fun i hi => by rw [GHeap.cell_of h3, Nat.zero_add]; exact h5 i hi⟩, fun i hi => (h6 i hi).ints⟩
def NewIntss (H : GHeap) (xss : List (List Int)) (v : Value) (H' : GHeap) : Prop := H.Le H' ∧ ∃ a r, v = .slice a xss.length xss.length ∧ IntssAt H.next H' a xss r
def CatAt (b : Nat) (H : GHeap) (c : Cat) (p : CatP) : Prop := IntsAt b H p.a1 c.src ∧ IntsAt b H p.a2 c.tgt ∧ IntsAt b H p.a3 c.idn ∧ IntssAt b H p.a4 c.comp p.r
theorem CatAt.keep {b b' : Nat} {H H' : GHeap} {c : Cat} {p : CatP} (h : CatAt b H c p) (hk : Keep b' H H') (hb : b' ≤ b) : CatAt b' H' c p := ⟨h.1.keep hk hb, h.2.1.keep hk hb, h.2.2.1.keep hk hb, h.2.2.2.keep hk hb⟩
theorem CatAt.inn {b : Nat} {H : GHeap} {c : Cat} {p : CatP} (h : CatAt b H c p) : c.In H p := ⟨h.1.ints, h.2.1.ints, h.2.2.1.ints, h.2.2.2.intss⟩
def NewCat (H : GHeap) (c : Cat) (v : Value) (H' : GHeap) : Prop := H.Le H' ∧ ∃ p, v = .agg (c.cells p).toArray ∧ CatAt H.next H' c p
structure Bld (H0 : GHeap) (b g2 g3 : Nat) (t : TypeId) (z cs : List Value) (H : GHeap) : Prop where
  le : H0.Le H
  a2 : H0.next ≤ g2
  l2 : g2 < b
  a3 : H0.next ≤ g3
  l3 : g3 < b
  ne : g2 ≠ g3
  res : H.get g2 = some (.row z t true)
  own : H.get g3 = some (.row cs t true)
  bn : b ≤ H.next
theorem Bld.start (H0 : GHeap) (t : TypeId) (z : List Value) : Bld H0 ((H0.push (.row z t true)).next + 1) H0.next (H0.push (.row z t true)).next t z z ((H0.push (.row z t true)).push (.row z t true)) where
  le := (GHeap.le_push _ _).trans (GHeap.le_push _ _)
  a2 := Nat.le_refl _
  l2 := by simp; omega
  a3 := by simp
  l3 := by omega
  ne := by simp
  res := (GHeap.le_push _ _).2 _ _ (GHeap.get_push_new _ _)
  own := GHeap.get_push_new _ _
  bn := by simp
theorem Bld.call {H0 H H' : GHeap} {b g2 g3 : Nat} {t : TypeId} {z cs : List Value} (B : Bld H0 b g2 g3 t z cs H) (h : H.Le H') : Bld H0 b g2 g3 t z cs H' :=
  ⟨B.le.trans h, B.a2, B.l2, B.a3, B.l3, B.ne, h.2 _ _ B.res, h.2 _ _ B.own, Nat.le_trans B.bn h.1⟩
theorem Bld.store {H0 H : GHeap} {b g2 g3 : Nat} {t : TypeId} {z cs : List Value} (B : Bld H0 b g2 g3 t z cs H) (cs' : List Value) : Bld H0 b g2 g3 t z cs' (H.set g3 (some (.row cs' t true))) ∧ Keep b H (H.set g3 (some (.row cs' t true))) :=
  ⟨⟨B.le.set_new B.a3, B.a2, B.l2, B.a3, B.l3, B.ne, by rw [GHeap.get_set_ne (Ne.symm B.ne)]; exact B.res, GHeap.get_set_eq (GHeap.ltg B.own), by rw [GHeap.next_set]; exact B.bn⟩, .set B.l3⟩
theorem Bld.done {H0 H : GHeap} {b g2 g3 : Nat} {t : TypeId} {z cs : List Value} (B : Bld H0 b g2 g3 t z cs H) (o : Option GObj) : H0.Le (H.set g2 o) ∧ Keep b H (H.set g2 o) := ⟨B.le.set_new B.a2, .set B.l2⟩
theorem setAll_gen (vs : List Value) : ∀ (pre a rest : List Value), a.length = vs.length → setAll (pre ++ (a ++ rest)) pre.length vs = pre ++ (vs ++ rest) := by
  induction vs with
  | nil => intro pre a rest h; obtain rfl := List.length_eq_zero_iff.1 (by simpa using h); rfl
  | cons v vs ih =>
    intro pre a rest h
    match a, h with
    | x :: a, h =>
      have e : (pre ++ (x :: a ++ rest)).set pre.length v = (pre ++ [v]) ++ (a ++ rest) := by simp [List.set_append]
      have := ih (pre ++ [v]) a rest (by simpa using h)
      rw [List.length_append] at this
      unfold setAll
      rw [e]
      simpa using this
theorem setAll_all (a vs : List Value) (h : a.length = vs.length) : setAll a 0 vs = vs := by
  have := setAll_gen vs [] a [] h
  simpa using this

end Go.GL
namespace Go.Proofs.YtlfnclhkhmkklaaDoor
open Go Go.GL Go.RowKit Go.Proofs
theorem sz_25_E : (Tryd.prog.info? 25).map (·.size) = some 5 := by kernel_rfl
theorem fo_25_1_E : fieldOff Tryd.prog 25 1 = some 1 := by kernel_rfl
theorem fo_25_2_E : fieldOff Tryd.prog 25 2 = some 2 := by kernel_rfl
theorem fo_25_3_E : fieldOff Tryd.prog 25 3 = some 3 := by kernel_rfl
theorem fo_25_4_E : fieldOff Tryd.prog 25 4 = some 4 := by kernel_rfl
theorem sz_2_E : (Tryd.prog.info? 2).map (·.size) = some 1 := by kernel_rfl
theorem ze_2_E : zeroT Tryd.prog 2 = some ([.int .i64 0], 1) := by kernel_rfl
theorem by_2_E : (Tryd.prog.info? 2).map (·.bytes) = some 8 := by kernel_rfl
theorem sz_22_E : (Tryd.prog.info? 22).map (·.size) = some 1 := by kernel_rfl
theorem ze_22_E : zeroT Tryd.prog 22 = some ([.slice none 0 0], 1) := by kernel_rfl
theorem by_22_E : (Tryd.prog.info? 22).map (·.bytes) = some 24 := by kernel_rfl
theorem sz_23_E : (Tryd.prog.info? 23).map (·.size) = some 1 := by kernel_rfl
theorem ze_29_E : zeroT Tryd.prog 29 = some ([.int .i64 0, .slice none 0 0, .slice none 0 0, .slice none 0 0, .slice none 0 0], 5) := by kernel_rfl
theorem fo_25_0_E : fieldOff Tryd.prog 25 0 = some 0 := by kernel_rfl
theorem szInt64S_c {a : Option Addr} {xs : List Int} {left : Int} {H : GHeap} (hx : xs.length ≤ 9223372036854775807 := by omega) (h0 : 0 ≤ left := by omega) (h1 : left ≤ 1048576 := by omega) :
    GCalls Tryd.prog 21 [.slice a xs.length xs.length, .int .i64 left] H (SzR left (xs.length ≤ left) H) := by
  refine GCalls.body (N := 12) (rs := [.tmp 4]) Tryd.func21 rfl rfl rfl rfl (fun Qx b hend => ?_)
  refine .fg [0, 1] rfl ?_
  refine .seq (fun K1 i => .region (.mv rfl (.nil (i _ _ (.seq (fun K2 d => .region (.mv rfl (.mv rfl (.q rfl (.len sl_22_A rfl) ?_)))))))))
  refine .q rfl (.sub rfl rfl rfl (by omega) (by omega)) ?_
  refine .mv rfl (.nil (d _ _ (.seq (fun K3 g => .seq (fun K4 f => .region (.mv rfl (.q rfl (.cmp rfl rfl rfl) (.nil (f _ _ ?_)))))))))
  refine .cond rfl (fun c => ?_) (fun c => ?_)
  ·
   try simp only [sps] at c
   refine .seq (fun K5 j => .region (.mv rfl (.nil (j _ _ ?_))))
   refine .ret ?_
   refine b _ _ ?_
   refine ⟨_, rfl, ?_⟩
   exact ⟨rfl, _, rfl, by omega, by omega, fun h => by omega⟩
  try simp only [sps] at c
  refine .skip ?_
  refine g _ _ (.seq (fun K6 e => .region (.mv rfl (.mv rfl (.nil (e _ _ ?_))))))
  refine .ret ?_
  refine b _ _ ?_
  refine ⟨_, rfl, ?_⟩
  exact ⟨rfl, _, rfl, by omega, by omega, fun h => by omega⟩
theorem szInt64SS_c {a : Option Addr} {xss : List (List Int)} {r : Nat → Option Addr} {left : Int} {H : GHeap} (h : Intss H a xss r := by assumption) (hx : xss.length ≤ 9223372036854775807 := by omega) (hy : ∀ i, I64s (xss.getD i []) := by assumption) (h0 : 0 ≤ left := by omega) (h1 : left ≤ 1048576 := by omega) :
    GCalls Tryd.prog 22 [.slice a xss.length xss.length, .int .i64 left] H (SzR left (xss.length ≤ left ∧ ∀ i, ((xss.getD i []).length : Int) ≤ left) H) := by
  refine GCalls.body (N := 27) (rs := [.tmp 4]) Tryd.func22 rfl rfl rfl rfl (fun Qx b hend => ?_)
  refine .fg [0, 1] rfl ?_
  have hh := h
  obtain ⟨i1, i2⟩ := hh
  refine .seq (fun K1 y => .region (.mv rfl (.nil (y _ _ (.seq (fun K2 s => .region (.mv rfl (.mv rfl (.q rfl (.len sl_23_B rfl) ?_)))))))))
  refine .q rfl (.sub rfl rfl rfl (by omega) (by omega)) ?_
  refine .mv rfl (.nil (s _ _ (.seq (fun K3 x => .seq (fun K4 u => .region (.mv rfl (.q rfl (.cmp rfl rfl rfl) (.nil (u _ _ ?_)))))))))
  refine .cond rfl (fun f => ?_) (fun f => ?_)
  ·
   try simp only [sps] at f
   refine .seq (fun K5 a0 => .region (.mv rfl (.nil (a0 _ _ ?_))))
   refine .ret ?_
   refine b _ _ ?_
   refine ⟨_, rfl, ?_⟩
   exact ⟨rfl, _, rfl, by omega, by omega, fun h => by omega⟩
  try simp only [sps] at f
  refine .skip ?_
  refine x _ _ (.seq (fun K6 t => .seq (fun K7 w => .region (.mv rfl (.nil (w _ _ ?_))))))
  refine .block ?_
  refine .loopR (σ := Nat × Int) [(0, some _)] (fun (k, lf) => [(5, some (.int .i64 (k : Int))), (1, some (.int .i64 lf))]) (fun (k, lf) H' => H = H' ∧ k ≤ xss.length ∧ 0 ≤ lf ∧ lf ≤ left - xss.length ∧ ∀ i, i < k → ((xss.getD i []).length : Int) ≤ left) (fun (k, lf) => xss.length - k) ((0, left - xss.length)) ⟨rfl, trivial⟩ ⟨rfl, rfl, trivial⟩ ?_ ?_
  ·
   refine ⟨rfl, ?_⟩
   exact ⟨by omega, by omega, by omega, fun i hi => by omega⟩
  rintro ⟨k, lf⟩ _ ⟨rfl, hI⟩ KL1 j
  refine .forget (fr' := [(5, some (.int .i64 (k : Int))), (1, some (.int .i64 lf)), (0, some _)]) ⟨rfl, rfl, rfl, trivial⟩ ?_
  obtain ⟨hk, hl0, hl1, c⟩ := hI
  refine .seq (fun K8 v => .seq (fun K9 z => .region (.mv rfl (.mv rfl (.q rfl (.len sl_23_B rfl) (.q rfl (.cmp rfl rfl rfl) (.nil (z _ _ ?_))))))))
  refine .cond rfl (fun o => ?_) (fun o => ?_)
  ·
   try simp only [sps] at o
   refine .skip ?_
   refine v _ _ (.seq (fun K10 p => ?_))
   refine .block ?_
   refine .seq (fun K11 n => .region (.mv rfl (.mv rfl ?_)))
   refine .q rfl (.idxN sl_23_B (Intss.sl (by assumption)) rfl rfl (by omega)) ?_
   refine .q rfl (.loadR on_22_B (by assumption) rfl (by omega)) ?_
   refine .mv rfl ?_
   have hyk := (hy k).1
   refine .call rfl rfl rfl rfl @Tryd.call21 rfl (szInt64S_c) ?_
   rintro _ _ ⟨rfl, lf, rfl, z1, z2, z3⟩
   refine .mv rfl (.nil (n _ _ (.seq (fun K12 g => .region (.mv rfl (.q rfl (.cmp rfl rfl rfl) (.nil (g _ _ ?_))))))))
   refine .cond rfl (fun m => ?_) (fun m => ?_)
   ·
    try simp only [sps] at m
    refine .seq (fun K13 l => .region (.mv rfl (.nil (l _ _ ?_))))
    refine .ret ?_
    refine b _ _ ?_
    refine ⟨_, rfl, ?_⟩
    exact ⟨rfl, _, rfl, by omega, by omega, fun h => by omega⟩
   try simp only [sps] at m
   refine .skip ?_
   refine p _ _ (.region (.mv rfl ?_))
   refine .q rfl (.add rfl rfl rfl (by omega) (by omega)) ?_
   refine .mv rfl (.nil ?_)
   refine j ((k + 1, _)) _ _ ?_ ?_ ⟨rfl, rfl, rfl, trivial⟩
   ·
    refine ⟨rfl, ?_⟩
    refine ⟨by omega, by omega, by omega, fun i hi => ?_⟩
    by_cases e : i < k
    · exact c i e
    · obtain rfl : i = k := by omega
      omega
   show xss.length - (k + 1) < xss.length - k; omega
  try simp only [sps] at o
  refine .exit ?_
  refine t _ _ (.seq (fun K14 d => .region (.mv rfl (.mv rfl (.nil (d _ _ ?_))))))
  refine .ret ?_
  refine b _ _ ?_
  refine ⟨_, rfl, ?_⟩
  exact ⟨rfl, _, rfl, by omega, by omega, fun _ => ⟨by omega, fun i => by
    by_cases e : i < xss.length
    · exact c i (by omega)
    · rw [List.getD_eq_getElem?_getD, List.getElem?_eq_none (by omega)]; simp; omega⟩⟩
theorem szCategory_c {c : Cat} {p : CatP} {left : Int} {H : GHeap} (hin : c.In H p := by assumption) (hw : c.Wide := by assumption) (h0 : 0 ≤ left := by omega) (h1 : left ≤ 1048576 := by omega) :
    GCalls Tryd.prog 6 [.agg (c.cells p).toArray, .int .i64 left] H (SzR left c.Small H) := by
  refine SzR.of ?_
  obtain ⟨⟨a1, z⟩, ⟨w2, _⟩, ⟨w3, _⟩, ⟨w4, _⟩, w5, w6⟩ := hw
  refine GCalls.body (N := 30) (rs := [.tmp 4]) Tryd.func6 rfl rfl rfl rfl (fun Qx a hend => ?_)
  refine .fg [0, 1] rfl ?_
  refine .seq (fun K1 a4 => .region (.d rfl rfl rfl (.box rfl sz_25_E rfl CIs.mk) ?_))
  show GRun _ _ _ _ _ _ (H.push (.row (c.cells p) 25 true))
  have b := GHeap.le_push H (.row (c.cells p) 25 true)
  have hb : Cat.At (H.push (.row (c.cells p) 25 true)) H.next 0 c p := ⟨Mem.new _ _ _ _, hin.mono b⟩
  generalize H.push (.row (c.cells p) 25 true) = H1 at *
  generalize H.next = g at *
  obtain ⟨c0, c1, c2, c3, c4, i1, i2, i3, i4⟩ := hb.get
  have hm : MemN _ _ _ _ _ := ⟨rfl, hb.1⟩
  refine .mv rfl (.nil (a4 _ _ (.seq (fun K2 w => .region (.q rfl (.fieldAddr fo_25_1_E rfl) ?_)))))
  refine .q rfl (.load on_22_B rfl (by assumption)) ?_
  refine .mv rfl ?_
  refine .call rfl rfl rfl rfl @Tryd.call21 rfl (szInt64S_c) ?_
  rintro _ _ ⟨rfl, lf, rfl, z1, z2, z3⟩
  refine .mv rfl (.nil (w _ _ (.seq (fun K3 a3 => .seq (fun K4 y => .region (.mv rfl (.q rfl (.cmp rfl rfl rfl) (.nil (y _ _ ?_)))))))))
  refine .cond rfl (fun l => ?_) (fun l => ?_)
  ·
   try simp only [sps] at l
   refine .seq (fun K5 a6 => .region (.mv rfl (.nil (a6 _ _ ?_))))
   refine .ret ?_
   refine a _ _ ?_
   refine ⟨_, rfl, ?_⟩
   exact ⟨b, _, rfl, by omega, by omega, fun h => by omega⟩
  try simp only [sps] at l
  refine .skip ?_
  refine a3 _ _ (.seq (fun K6 x => .region (.q rfl (.fieldAddr fo_25_2_E rfl) ?_)))
  refine .q rfl (.load on_22_B rfl (by assumption)) ?_
  refine .mv rfl ?_
  refine .call rfl rfl rfl rfl @Tryd.call21 rfl (szInt64S_c) ?_
  rintro _ _ ⟨rfl, lf, rfl, z1, z2, z3⟩
  refine .mv rfl (.nil (x _ _ (.seq (fun K7 a2 => .seq (fun K8 a0 => .region (.mv rfl (.q rfl (.cmp rfl rfl rfl) (.nil (a0 _ _ ?_)))))))))
  refine .cond rfl (fun u => ?_) (fun u => ?_)
  ·
   try simp only [sps] at u
   refine .seq (fun K9 a5 => .region (.mv rfl (.nil (a5 _ _ ?_))))
   refine .ret ?_
   refine a _ _ ?_
   refine ⟨_, rfl, ?_⟩
   exact ⟨b, _, rfl, by omega, by omega, fun h => by omega⟩
  try simp only [sps] at u
  refine .skip ?_
  refine a2 _ _ (.seq (fun K10 t => .region (.q rfl (.fieldAddr fo_25_3_E rfl) ?_)))
  refine .q rfl (.load on_22_B rfl (by assumption)) ?_
  refine .mv rfl ?_
  refine .call rfl rfl rfl rfl @Tryd.call21 rfl (szInt64S_c) ?_
  rintro _ _ ⟨rfl, lf, rfl, z1, z2, z3⟩
  refine .mv rfl (.nil (t _ _ (.seq (fun K11 r => .seq (fun K12 j => .region (.mv rfl (.q rfl (.cmp rfl rfl rfl) (.nil (j _ _ ?_)))))))))
  refine .cond rfl (fun n => ?_) (fun n => ?_)
  ·
   try simp only [sps] at n
   refine .seq (fun K13 o => .region (.mv rfl (.nil (o _ _ ?_))))
   refine .ret ?_
   refine a _ _ ?_
   refine ⟨_, rfl, ?_⟩
   exact ⟨b, _, rfl, by omega, by omega, fun h => by omega⟩
  try simp only [sps] at n
  refine .skip ?_
  refine r _ _ (.seq (fun K14 e => .region (.q rfl (.fieldAddr fo_25_4_E rfl) ?_)))
  refine .q rfl (.load on_23_B rfl (by assumption)) ?_
  refine .mv rfl ?_
  refine .call rfl rfl rfl rfl @Tryd.call22 rfl (szInt64SS_c) ?_
  rintro _ _ ⟨rfl, lf, rfl, z1, z2, z3⟩
  refine .mv rfl (.nil (e _ _ (.seq (fun K15 k => .seq (fun K16 s => .region (.mv rfl (.q rfl (.cmp rfl rfl rfl) (.nil (s _ _ ?_)))))))))
  refine .cond rfl (fun f => ?_) (fun f => ?_)
  ·
   try simp only [sps] at f
   refine .seq (fun K17 m => .region (.mv rfl (.nil (m _ _ ?_))))
   refine .ret ?_
   refine a _ _ ?_
   refine ⟨_, rfl, ?_⟩
   exact ⟨b, _, rfl, by omega, by omega, fun h => by omega⟩
  try simp only [sps] at f
  refine .skip ?_
  refine k _ _ (.seq (fun K18 v => .region (.mv rfl (.mv rfl (.nil (v _ _ ?_))))))
  refine .ret ?_
  refine a _ _ ?_
  refine ⟨_, rfl, ?_⟩
  exact ⟨b, _, rfl, by omega, by omega, fun h => ⟨by omega, by omega, by omega, by omega, fun i => by have := (z3 (by omega)).2 i; omega, ⟨a1, z⟩⟩⟩
theorem toInt64S_c {a : Option Addr} {xs : List Int} {H : GHeap} (h : Ints H a xs := by assumption) (hx : xs.length ≤ 1048576 := by omega) :
    GCalls Tryd.prog 27 [.slice a xs.length xs.length] H (NewInts 2 H xs) := by
  refine GCalls.body (N := 22) (rs := [.tmp 2]) Tryd.func27 rfl rfl rfl rfl (fun Qx j hend => ?_)
  refine .fg [0] rfl ?_
  refine .seq (fun K1 t => .region (.mv rfl (.nil (t _ _ (.seq (fun K2 l => .region (.mv rfl (.q rfl (.len sl_22_A rfl) ?_))))))))
  refine .d rfl rfl rfl (.makeSlice rfl sl_22_A ze_2_E by_2_E rfl rfl (by omega) rfl rfl (by omega) (by omega) (by omega) CIs.mk) ?_
  show GRun _ _ _ _ _ _ (H.push (.row (madeL [.int .i64 0] (xs.length * 1)) 2 true))
  rw [madeL_one, Nat.mul_one]
  have hrep : List.replicate xs.length (Value.int .i64 0) = ints (List.replicate xs.length 0) := by simp [ints]
  rw [hrep]
  have s := GHeap.le_push H (.row (ints (List.replicate xs.length 0)) 2 true)
  have hn := GHeap.get_push_new H (.row (ints (List.replicate xs.length 0)) 2 true)
  generalize H.push (.row (ints (List.replicate xs.length 0)) 2 true) = H1 at *
  obtain ⟨g0, b⟩ : ∃ g0, g0 = H.next := ⟨_, rfl⟩
  rw [← b] at hn ⊢
  have hnx : H.next ≤ g0 := by omega
  clear b
  refine .mv rfl (.nil (l _ _ (.seq (fun K3 n => .seq (fun K4 p => .region (.mv rfl (.nil (p _ _ ?_))))))))
  refine .block ?_
  refine .loopR (σ := Nat) [(0, some _), (3, some _)] (fun k => [(4, some (.int .i64 (k : Int)))]) (fun k H' => k ≤ xs.length ∧ H.Le H' ∧ H.next ≤ g0 ∧ ∃ ys : List Int, ys.length = xs.length ∧ (∀ i, i < k → ys.getD i 0 = xs.getD i 0) ∧ H'.get g0 = some (.row (ints ys) 2 true)) (fun k => xs.length - k) (0) ⟨rfl, rfl, trivial⟩ ⟨rfl, trivial⟩ ?_ ?_
  ·
   exact ⟨by omega, s, hnx, _, by simp, fun i hi => by omega, hn⟩
  rintro k H' hI KL1 g
  refine .forget (fr' := [(4, some (.int .i64 (k : Int))), (0, some _), (3, some _)]) ⟨rfl, rfl, rfl, trivial⟩ ?_
  obtain ⟨hk, hle', b, ys, hys, c, hget⟩ := hI
  have hsl := SlA.of_ints hget hys
  have hxs := h.mono hle'
  refine .seq (fun K5 u => .seq (fun K6 m => .region (.mv rfl (.mv rfl (.q rfl (.len sl_22_A rfl) (.q rfl (.cmp rfl rfl rfl) (.nil (m _ _ ?_))))))))
  refine .cond rfl (fun f => ?_) (fun f => ?_)
  ·
   try simp only [sps] at f
   refine .skip ?_
   refine u _ _ (.seq (fun K7 r => ?_))
   refine .block ?_
   refine .region (.mv rfl (.mv rfl (.mv rfl (.mv rfl ?_))))
   refine .q rfl (.idxN sl_22_A (by assumption) rfl rfl (by omega)) ?_
   refine .q rfl (.loadI on_2_A (by assumption) rfl (by omega)) ?_
   refine .q rfl (.idxN sl_22_A (by assumption) rfl rfl (by omega)) ?_
   refine .d0 rfl rfl (.store rfl sz_2_E rfl rfl rfl hget (by simp; omega) CIs.mk) ?_
   refine .nil (r _ _ (.region (.mv rfl ?_)))
   refine .q rfl (.add rfl rfl rfl (by omega) (by omega)) ?_
   refine .mv rfl (.nil ?_)
   refine g (k + 1) _ _ ?_ ?_ ⟨rfl, rfl, rfl, trivial⟩
   ·
    rw [Nat.zero_add, ints_set]
    refine ⟨by omega, hle'.set_new b, b, _, by simpa using hys, fun i hi => ?_, GHeap.get_set_eq (GHeap.ltg hget)⟩
    rw [getD_set (by omega)]
    split
    · rename_i e; rw [e]
    · exact c i (by omega)
   omega
  try simp only [sps] at f
  refine .exit ?_
  refine n _ _ (.seq (fun K8 o => .region (.mv rfl (.mv rfl (.nil (o _ _ ?_))))))
  refine .ret ?_
  refine j _ _ ?_
  refine ⟨_, rfl, ?_⟩
  obtain rfl : ys = xs := eq_of_getD hys fun i hi => c i (by omega)
  exact ⟨hle', _, rfl, hget, b⟩
theorem toInt64SS_c {a : Option Addr} {xss : List (List Int)} {r : Nat → Option Addr} {H : GHeap} (h : Intss H a xss r := by assumption) (hx : xss.length ≤ 1048576 := by omega) (hy : ∀ i, (xss.getD i []).length ≤ 1048576 := by assumption) :
    GCalls Tryd.prog 28 [.slice a xss.length xss.length] H (NewIntss H xss) := by
  refine GCalls.body (N := 23) (rs := [.tmp 2]) Tryd.func28 rfl rfl rfl rfl (fun Qx n hend => ?_)
  refine .fg [0] rfl ?_
  refine .seq (fun K1 y => .region (.mv rfl (.nil (y _ _ (.seq (fun K2 p => .region (.mv rfl (.q rfl (.len sl_23_B rfl) ?_))))))))
  refine .d rfl rfl rfl (.makeSlice rfl sl_23_B ze_22_E by_22_E rfl rfl (by omega) rfl rfl (by omega) (by omega) (by omega) CIs.mk) ?_
  show GRun _ _ _ _ _ _ (H.push (.row (madeL [.slice none 0 0] (xss.length * 1)) 22 true))
  have hlen := length_madeL [Value.slice none 0 0] (xss.length * 1)
  rw [Nat.mul_one] at hlen ⊢
  have x := GHeap.le_push H (.row (madeL [.slice none 0 0] xss.length) 22 true)
  have hn := GHeap.get_push_new H (.row (madeL [.slice none 0 0] xss.length) 22 true)
  generalize H.push (.row (madeL [.slice none 0 0] xss.length) 22 true) = H1 at *
  obtain ⟨g0, b⟩ : ∃ g0, g0 = H.next := ⟨_, rfl⟩
  rw [← b] at hn ⊢
  have hnx : H.next ≤ g0 := by omega
  clear b
  refine .mv rfl (.nil (p _ _ (.seq (fun K3 t => .seq (fun K4 v => .region (.mv rfl (.nil (v _ _ ?_))))))))
  refine .block ?_
  refine .loopR (σ := Nat) [(0, some _), (3, some _)] (fun k => [(4, some (.int .i64 (k : Int)))]) (fun k H' => k ≤ xss.length ∧ H.Le H' ∧ H.next ≤ g0 ∧ ∃ (cs : List Value) (q : Nat → Option Addr), H'.get g0 = some (.row cs 22 true) ∧ cs.length = xss.length ∧ (∀ i, i < k → cs[i]? = some (.slice (q i) (xss.getD i []).length (xss.getD i []).length)) ∧ ∀ i, i < k → IntsAt (g0 + 1) H' (q i) (xss.getD i [])) (fun k => xss.length - k) (0) ⟨rfl, rfl, trivial⟩ ⟨rfl, trivial⟩ ?_ ?_
  ·
   exact ⟨by omega, x, hnx, _, fun _ => none, hn, hlen, fun i hi => by omega, fun i hi => by omega⟩
  rintro k H' hI KL1 l
  refine .forget (fr' := [(4, some (.int .i64 (k : Int))), (0, some _), (3, some _)]) ⟨rfl, rfl, rfl, trivial⟩ ?_
  obtain ⟨hk, hle', b, cs, q, hget, hcs, f, hats⟩ := hI
  have hlt := GHeap.ltg hget
  have hss := h.mono hle'
  have i2 := hss.2
  refine .seq (fun K5 z => .seq (fun K6 s => .region (.mv rfl (.mv rfl (.q rfl (.len sl_23_B rfl) (.q rfl (.cmp rfl rfl rfl) (.nil (s _ _ ?_))))))))
  refine .cond rfl (fun j => ?_) (fun j => ?_)
  ·
   try simp only [sps] at j
   refine .skip ?_
   refine z _ _ (.seq (fun K7 w => ?_))
   refine .block ?_
   refine .region (.mv rfl (.mv rfl (.mv rfl (.mv rfl ?_))))
   refine .q rfl (.idxN sl_23_B (Intss.sl (by assumption)) rfl rfl (by omega)) ?_
   refine .q rfl (.loadR on_22_B (by assumption) rfl (by omega)) ?_
   have i2k := i2 k (by omega)
   have hyk := hy k
   refine .call rfl rfl rfl rfl @Tryd.call27 rfl (toInt64S_c) ?_
   rintro _ H2 ⟨m, g2, rfl, c, hg2⟩
   have hget' := m.2 _ _ hget
   have hsl := SlA.of_row hget' hcs
   refine .q rfl (.idxN sl_23_B hsl rfl rfl (by omega)) ?_
   refine .d0 rfl rfl (.store rfl sz_22_E rfl rfl rfl hget' (by simp; omega) CIs.mk) ?_
   refine .nil (w _ _ (.region (.mv rfl ?_)))
   refine .q rfl (.add rfl rfl rfl (by omega) (by omega)) ?_
   refine .mv rfl (.nil ?_)
   refine l (k + 1) _ _ ?_ ?_ ⟨rfl, rfl, rfl, trivial⟩
   ·
    rw [Nat.zero_add]
    refine ⟨by omega, (hle'.trans m).set_new b, b, _, fun i => if i = k then some ⟨g2, 0, none⟩ else q i, GHeap.get_set_eq (GHeap.ltg hget'), by simpa using hcs, fun i hi => ?_, fun i hi => ?_⟩
    · by_cases e : i = k
      · subst e; simp [List.getElem?_set, hcs]; omega
      · simp only [e, if_false]
        rw [List.getElem?_set_ne (Ne.symm e)]
        exact f i (by omega)
    · by_cases e : i = k
      · subst e
        simp only [if_true]
        exact ⟨g2, _, rfl, by omega, by rw [GHeap.get_set_ne (by omega)]; exact c⟩
      · simp only [e, if_false]
        exact (hats i (by omega)).keep (fun g o hg ho => by rw [GHeap.get_set_ne (by omega)]; exact m.2 _ _ ho) (Nat.le_refl _)
   omega
  try simp only [sps] at j
  refine .exit ?_
  refine t _ _ (.seq (fun K8 u => .region (.mv rfl (.mv rfl (.nil (u _ _ ?_))))))
  refine .ret ?_
  refine n _ _ ?_
  refine ⟨_, rfl, ?_⟩
  exact ⟨hle', _, q, rfl, g0, _, cs, rfl, b, hget, hcs, fun i hi => f i (by omega), fun i hi => (hats i (by omega)).keep (.of_le (.refl _)) (by omega)⟩
theorem toCategory_c {c : Cat} {p : CatP} {H : GHeap} (hin : c.In H p := by assumption) (hs : c.Small := by assumption) : GCalls Tryd.prog 8 [.agg (c.cells p).toArray] H (NewCat H c) := by
  obtain ⟨w1, w2, w3, w4, w5, -⟩ := hs
  refine GCalls.body (N := 24) (rs := [.cell 2 29]) Tryd.func8 rfl rfl rfl rfl (fun Qx m hend => ?_)
  refine .fg [0] rfl ?_
  refine .seq (fun K1 y => .region (.d rfl rfl rfl (.box rfl sz_25_E rfl CIs.mk) ?_))
  show GRun _ _ _ _ _ _ (H.push (.row (c.cells p) 25 true))
  have n := GHeap.le_push H (.row (c.cells p) 25 true)
  have hb : Cat.At (H.push (.row (c.cells p) 25 true)) H.next 0 c p := ⟨Mem.new _ _ _ _, hin.mono n⟩
  generalize H.push (.row (c.cells p) 25 true) = H1 at *
  refine .d rfl rfl rfl (.alloc rfl ze_29_E rfl CIs.mk) (.nil (y _ _ (.seq (fun K2 o => .region (.d rfl rfl rfl (.alloc rfl ze_29_E rfl CIs.mk) ?_)))))
  show GRun _ _ _ _ _ _ ((H1.push (.row [(.int .i64 0 : Value), (.slice none 0 0 : Value), (.slice none 0 0 : Value), (.slice none 0 0 : Value), (.slice none 0 0 : Value)] 29 true)).push (.row [(.int .i64 0 : Value), (.slice none 0 0 : Value), (.slice none 0 0 : Value), (.slice none 0 0 : Value), (.slice none 0 0 : Value)] 29 true))
  have B := Bld.start H1 29 [(.int .i64 0 : Value), (.slice none 0 0 : Value), (.slice none 0 0 : Value), (.slice none 0 0 : Value), (.slice none 0 0 : Value)]
  generalize (H1.push (.row [(.int .i64 0 : Value), (.slice none 0 0 : Value), (.slice none 0 0 : Value), (.slice none 0 0 : Value), (.slice none 0 0 : Value)] 29 true)).next = g3 at *
  generalize (H1.push (.row [(.int .i64 0 : Value), (.slice none 0 0 : Value), (.slice none 0 0 : Value), (.slice none 0 0 : Value), (.slice none 0 0 : Value)] 29 true)).push (.row [(.int .i64 0 : Value), (.slice none 0 0 : Value), (.slice none 0 0 : Value), (.slice none 0 0 : Value), (.slice none 0 0 : Value)] 29 true) = H3 at *
  generalize g3 + 1 = b at *
  obtain ⟨c0, -, -, -, -, -, -, -, -⟩ := (hb.mono B.le).get
  refine .nil (o _ _ (.seq (fun K3 w => .region (.q rfl (.fieldAddr fo_25_0_E rfl) ?_))))
  refine .q rfl (.load on_2_A rfl (by assumption)) ?_
  refine .q rfl (.fieldAddr fo_29_0_B rfl) (.d0 rfl rfl (.store rfl sz_2_E rfl rfl rfl B.own (Nat.le_of_ble_eq_true rfl) CIs.mk) ?_)
  show GRun _ _ _ _ _ _ (H3.set g3 (some (.row ([.int .i64 c.obj] ++ ([(.slice none 0 0 : Value)] ++ ([(.slice none 0 0 : Value)] ++ ([(.slice none 0 0 : Value)] ++ ([(.slice none 0 0 : Value)]))))) 29 true)))
  have ⟨B, hk⟩ := B.store ([.int .i64 c.obj] ++ ([(.slice none 0 0 : Value)] ++ ([(.slice none 0 0 : Value)] ++ ([(.slice none 0 0 : Value)] ++ ([(.slice none 0 0 : Value)])))))
  generalize H3.set g3 (some (.row ([.int .i64 c.obj] ++ ([(.slice none 0 0 : Value)] ++ ([(.slice none 0 0 : Value)] ++ ([(.slice none 0 0 : Value)] ++ ([(.slice none 0 0 : Value)]))))) 29 true)) = H10 at *
  obtain ⟨-, c1, -, -, -, i1, -, -, -⟩ := (hb.mono B.le).get
  refine .nil (w _ _ (.seq (fun K4 s => .region (.q rfl (.fieldAddr fo_25_1_E rfl) ?_))))
  refine .q rfl (.load on_22_B rfl (by assumption)) ?_
  have i := B.bn
  refine .call rfl rfl rfl rfl @Tryd.call27 rfl (toInt64S_c) ?_
  rintro _ H2 ⟨f, g2, rfl, a, k⟩
  have B := B.call f
  obtain ⟨e, hga⟩ : ∃ x, x = g2 := ⟨_, rfl⟩
  rw [← hga] at a k ⊢
  clear hga
  have v1 : IntsAt b H2 (some ⟨e, 0, none⟩) c.src := ⟨_, _, rfl, by have := i; omega, a⟩
  refine .q rfl (.fieldAddr fo_29_1_B rfl) (.d0 rfl rfl (.store rfl sz_22_E rfl rfl rfl B.own (Nat.le_of_ble_eq_true rfl) CIs.mk) ?_)
  show GRun _ _ _ _ _ _ (H2.set g3 (some (.row ([.int .i64 c.obj] ++ ([.slice (some ⟨e, 0, none⟩) c.src.length c.src.length] ++ ([(.slice none 0 0 : Value)] ++ ([(.slice none 0 0 : Value)] ++ ([(.slice none 0 0 : Value)]))))) 29 true)))
  have ⟨B, hk⟩ := B.store ([.int .i64 c.obj] ++ ([.slice (some ⟨e, 0, none⟩) c.src.length c.src.length] ++ ([(.slice none 0 0 : Value)] ++ ([(.slice none 0 0 : Value)] ++ ([(.slice none 0 0 : Value)])))))
  replace v1 := v1.keep hk (Nat.le_refl _)
  generalize H2.set g3 (some (.row ([.int .i64 c.obj] ++ ([.slice (some ⟨e, 0, none⟩) c.src.length c.src.length] ++ ([(.slice none 0 0 : Value)] ++ ([(.slice none 0 0 : Value)] ++ ([(.slice none 0 0 : Value)]))))) 29 true)) = H11 at *
  obtain ⟨-, -, c2, -, -, -, i2, -, -⟩ := (hb.mono B.le).get
  refine .nil (s _ _ (.seq (fun K5 z => .region (.q rfl (.fieldAddr fo_25_2_E rfl) ?_))))
  refine .q rfl (.load on_22_B rfl (by assumption)) ?_
  have i := B.bn
  refine .call rfl rfl rfl rfl @Tryd.call27 rfl (toInt64S_c) ?_
  rintro _ H2 ⟨f, g2, rfl, a, k⟩
  have B := B.call f
  obtain ⟨g, hga⟩ : ∃ x, x = g2 := ⟨_, rfl⟩
  rw [← hga] at a k ⊢
  clear hga
  have v2 : IntsAt b H2 (some ⟨g, 0, none⟩) c.tgt := ⟨_, _, rfl, by have := i; omega, a⟩
  replace v1 := v1.keep (.of_le f) (Nat.le_refl _)
  refine .q rfl (.fieldAddr fo_29_2_B rfl) (.d0 rfl rfl (.store rfl sz_22_E rfl rfl rfl B.own (Nat.le_of_ble_eq_true rfl) CIs.mk) ?_)
  show GRun _ _ _ _ _ _ (H2.set g3 (some (.row ([.int .i64 c.obj] ++ ([.slice (some ⟨e, 0, none⟩) c.src.length c.src.length] ++ ([.slice (some ⟨g, 0, none⟩) c.tgt.length c.tgt.length] ++ ([(.slice none 0 0 : Value)] ++ ([(.slice none 0 0 : Value)]))))) 29 true)))
  have ⟨B, hk⟩ := B.store ([.int .i64 c.obj] ++ ([.slice (some ⟨e, 0, none⟩) c.src.length c.src.length] ++ ([.slice (some ⟨g, 0, none⟩) c.tgt.length c.tgt.length] ++ ([(.slice none 0 0 : Value)] ++ ([(.slice none 0 0 : Value)])))))
  replace v1 := v1.keep hk (Nat.le_refl _)
  replace v2 := v2.keep hk (Nat.le_refl _)
  generalize H2.set g3 (some (.row ([.int .i64 c.obj] ++ ([.slice (some ⟨e, 0, none⟩) c.src.length c.src.length] ++ ([.slice (some ⟨g, 0, none⟩) c.tgt.length c.tgt.length] ++ ([(.slice none 0 0 : Value)] ++ ([(.slice none 0 0 : Value)]))))) 29 true)) = H12 at *
  obtain ⟨-, -, -, c3, -, -, -, i3, -⟩ := (hb.mono B.le).get
  refine .nil (z _ _ (.seq (fun K6 r => .region (.q rfl (.fieldAddr fo_25_3_E rfl) ?_))))
  refine .q rfl (.load on_22_B rfl (by assumption)) ?_
  have i := B.bn
  refine .call rfl rfl rfl rfl @Tryd.call27 rfl (toInt64S_c) ?_
  rintro _ H2 ⟨f, g2, rfl, a, k⟩
  have B := B.call f
  obtain ⟨h, hga⟩ : ∃ x, x = g2 := ⟨_, rfl⟩
  rw [← hga] at a k ⊢
  clear hga
  have v3 : IntsAt b H2 (some ⟨h, 0, none⟩) c.idn := ⟨_, _, rfl, by have := i; omega, a⟩
  replace v1 := v1.keep (.of_le f) (Nat.le_refl _)
  replace v2 := v2.keep (.of_le f) (Nat.le_refl _)
  refine .q rfl (.fieldAddr fo_29_3_B rfl) (.d0 rfl rfl (.store rfl sz_22_E rfl rfl rfl B.own (Nat.le_of_ble_eq_true rfl) CIs.mk) ?_)
  show GRun _ _ _ _ _ _ (H2.set g3 (some (.row ([.int .i64 c.obj] ++ ([.slice (some ⟨e, 0, none⟩) c.src.length c.src.length] ++ ([.slice (some ⟨g, 0, none⟩) c.tgt.length c.tgt.length] ++ ([.slice (some ⟨h, 0, none⟩) c.idn.length c.idn.length] ++ ([(.slice none 0 0 : Value)]))))) 29 true)))
  have ⟨B, hk⟩ := B.store ([.int .i64 c.obj] ++ ([.slice (some ⟨e, 0, none⟩) c.src.length c.src.length] ++ ([.slice (some ⟨g, 0, none⟩) c.tgt.length c.tgt.length] ++ ([.slice (some ⟨h, 0, none⟩) c.idn.length c.idn.length] ++ ([(.slice none 0 0 : Value)])))))
  replace v1 := v1.keep hk (Nat.le_refl _)
  replace v2 := v2.keep hk (Nat.le_refl _)
  replace v3 := v3.keep hk (Nat.le_refl _)
  generalize H2.set g3 (some (.row ([.int .i64 c.obj] ++ ([.slice (some ⟨e, 0, none⟩) c.src.length c.src.length] ++ ([.slice (some ⟨g, 0, none⟩) c.tgt.length c.tgt.length] ++ ([.slice (some ⟨h, 0, none⟩) c.idn.length c.idn.length] ++ ([(.slice none 0 0 : Value)]))))) 29 true)) = H13 at *
  obtain ⟨-, -, -, -, c4, -, -, -, i4⟩ := (hb.mono B.le).get
  refine .nil (r _ _ (.seq (fun K7 v => .region (.q rfl (.fieldAddr fo_25_4_E rfl) ?_))))
  refine .q rfl (.load on_23_B rfl (by assumption)) ?_
  have i := B.bn
  refine .call rfl rfl rfl rfl @Tryd.call28 rfl (toInt64SS_c) ?_
  rintro _ H2 ⟨f, a2, r2, rfl, j⟩
  have B := B.call f
  obtain ⟨l, hga⟩ : ∃ x, x = a2 := ⟨_, rfl⟩
  rw [← hga] at j ⊢
  clear hga
  obtain ⟨t, hga⟩ : ∃ x, x = r2 := ⟨_, rfl⟩
  rw [← hga] at j
  clear hga
  have v4 := j.keep (.of_le (.refl _)) i
  replace v1 := v1.keep (.of_le f) (Nat.le_refl _)
  replace v2 := v2.keep (.of_le f) (Nat.le_refl _)
  replace v3 := v3.keep (.of_le f) (Nat.le_refl _)
  refine .q rfl (.fieldAddr fo_29_4_B rfl) (.d0 rfl rfl (.store rfl sz_23_E rfl rfl rfl B.own (Nat.le_of_ble_eq_true rfl) CIs.mk) ?_)
  show GRun _ _ _ _ _ _ (H2.set g3 (some (.row ([.int .i64 c.obj] ++ ([.slice (some ⟨e, 0, none⟩) c.src.length c.src.length] ++ ([.slice (some ⟨g, 0, none⟩) c.tgt.length c.tgt.length] ++ ([.slice (some ⟨h, 0, none⟩) c.idn.length c.idn.length] ++ ([.slice l c.comp.length c.comp.length]))))) 29 true)))
  have ⟨B, hk⟩ := B.store ([.int .i64 c.obj] ++ ([.slice (some ⟨e, 0, none⟩) c.src.length c.src.length] ++ ([.slice (some ⟨g, 0, none⟩) c.tgt.length c.tgt.length] ++ ([.slice (some ⟨h, 0, none⟩) c.idn.length c.idn.length] ++ ([.slice l c.comp.length c.comp.length])))))
  replace v1 := v1.keep hk (Nat.le_refl _)
  replace v2 := v2.keep hk (Nat.le_refl _)
  replace v3 := v3.keep hk (Nat.le_refl _)
  replace v4 := v4.keep hk (Nat.le_refl _)
  generalize H2.set g3 (some (.row ([.int .i64 c.obj] ++ ([.slice (some ⟨e, 0, none⟩) c.src.length c.src.length] ++ ([.slice (some ⟨g, 0, none⟩) c.tgt.length c.tgt.length] ++ ([.slice (some ⟨h, 0, none⟩) c.idn.length c.idn.length] ++ ([.slice l c.comp.length c.comp.length]))))) 29 true)) = H14 at *
  refine .nil (v _ _ (.seq (fun K8 u => .region ?_)))
  refine .q rfl (.loadM ag_29_D rfl ⟨rfl, Mem.of_get B.own⟩) ?_
  refine .d0 rfl rfl (.storeN rfl sz_29_D rfl rfl rfl rfl B.res (Nat.le_of_ble_eq_true rfl) CIs.mk) ?_
  rw [setAll_all _ _ (by rfl)]
  refine .nil (u _ _ ?_)
  refine .ret ?_
  refine m _ _ ?_
  refine ⟨_, _, _, _, rfl, ag_29_D, (by rfl), (Mem.of_get (GHeap.get_set_eq (GHeap.ltg B.res))), ?_⟩
  exact ⟨n.trans (B.done _).1, ⟨some ⟨e, 0, none⟩, some ⟨g, 0, none⟩, some ⟨h, 0, none⟩, l, t⟩, rfl, (CatAt.keep (b := b) (b' := b) ⟨v1, v2, v3, v4⟩ (B.done _).2 (Nat.le_refl _)).keep (.of_le (.refl _)) (by have := B.l2; have := n.1; omega)⟩
theorem eqInt64S_c {a b : Option Addr} {xs : List Int} {H : GHeap} (h : Ints H a xs := by assumption) (h' : Ints H b xs := by assumption) (hx : xs.length ≤ 1048576 := by omega) :
    GCalls Tryd.prog 34 [.slice a xs.length xs.length, .slice b xs.length xs.length] H (Ret (.bool true) H) := by
  refine GCalls.body (N := 26) (rs := [.tmp 4]) Tryd.func34 rfl rfl rfl rfl (fun Qx c hend => ?_)
  refine .fg [0, 1] rfl ?_
  refine .seq (fun K1 v => .region (.mv rfl (.nil (v _ _ (.seq (fun K2 m => .seq (fun K3 u => .region (.mv rfl (.q rfl (.len sl_22_A rfl) (.mv rfl (.q rfl (.len sl_22_A rfl) (.q rfl (.cmp rfl rfl rfl) (.nil (u _ _ ?_))))))))))))))
  refine .cond rfl (fun g => ?_) (fun g => ?_)
  ·
   try simp only [sps] at g
   refine .seq (fun K4 r => .region (.mv rfl (.nil (r _ _ ?_))))
   refine .ret ?_
   refine c _ _ ?_
   refine ⟨_, rfl, ?_⟩
   (exfalso; simp_all)
  try simp only [sps] at g
  refine .skip ?_
  refine m _ _ (.seq (fun K5 t => .seq (fun K6 o => .region (.mv rfl (.nil (o _ _ ?_))))))
  refine .block ?_
  refine .loopR (σ := Nat) [(0, some _), (1, some _)] (fun k => [(5, some (.int .i64 (k : Int)))]) (fun k H' => H = H' ∧ k ≤ xs.length) (fun k => xs.length - k) (0) ⟨rfl, rfl, trivial⟩ ⟨rfl, trivial⟩ ?_ ?_
  ·
   refine ⟨rfl, ?_⟩
   omega
  rintro k _ ⟨rfl, hI⟩ KL1 e
  refine .forget (fr' := [(5, some (.int .i64 (k : Int))), (0, some _), (1, some _)]) ⟨rfl, rfl, rfl, trivial⟩ ?_
  refine .seq (fun K7 s => .seq (fun K8 p => .region (.mv rfl (.mv rfl (.q rfl (.len sl_22_A rfl) (.q rfl (.cmp rfl rfl rfl) (.nil (p _ _ ?_))))))))
  refine .cond rfl (fun i => ?_) (fun i => ?_)
  ·
   try simp only [sps] at i
   refine .skip ?_
   refine s _ _ (.seq (fun K9 n => ?_))
   refine .block ?_
   refine .seq (fun K10 f => ?_)
   refine .regionD mo_B (.q 0 (.q 1 (.q 2 (.q 3 (.q 4 (.q 5 (.q 6 (.q 7 (.q 8 (.done)))))))))) (by kernel_rfl) ?_
   refine .mv rfl rfl (.mv rfl rfl ?_)
   refine .q rfl (.idxN sl_22_A (by assumption) rfl rfl (by omega)) ?_
   refine .q rfl (.loadI on_2_A (by assumption) rfl (by omega)) ?_
   refine .mv rfl rfl (.mv rfl rfl ?_)
   refine .q rfl (.idxN sl_22_A (by assumption) rfl rfl (by omega)) ?_
   refine .q rfl (.loadI on_2_A (by assumption) rfl (by omega)) ?_
   refine .q rfl (.cmp rfl rfl rfl) ?_
   refine .done ?_
   refine f _ _ ?_
   refine .cond rfl (fun j => ?_) (fun j => ?_)
   ·
    try simp only [sps] at j
    refine .seq (fun K11 l => .region (.mv rfl (.nil (l _ _ ?_))))
    refine .ret ?_
    refine c _ _ ?_
    refine ⟨_, rfl, ?_⟩
    (exfalso; simp_all)
   try simp only [sps] at j
   refine .skip ?_
   refine n _ _ (.region (.mv rfl ?_))
   refine .q rfl (.add rfl rfl rfl (by omega) (by omega)) ?_
   refine .mv rfl (.nil ?_)
   refine e (k + 1) _ _ ?_ ?_ ⟨rfl, rfl, rfl, trivial⟩
   ·
    refine ⟨rfl, ?_⟩
    omega
   omega
  try simp only [sps] at i
  refine .exit ?_
  refine t _ _ (.seq (fun K12 d => .region (.mv rfl (.nil (d _ _ ?_)))))
  refine .ret ?_
  refine c _ _ ?_
  refine ⟨_, rfl, ?_⟩
  exact .of rfl
theorem eqInt64SS_c {a b : Option Addr} {xss : List (List Int)} {r r' : Nat → Option Addr} {H : GHeap} (h : Intss H a xss r := by assumption) (h' : Intss H b xss r' := by assumption) (hx : xss.length ≤ 1048576 := by omega) (hy : ∀ i, (xss.getD i []).length ≤ 1048576 := by assumption) :
    GCalls Tryd.prog 35 [.slice a xss.length xss.length, .slice b xss.length xss.length] H (Ret (.bool true) H) := by
  refine GCalls.body (N := 27) (rs := [.tmp 4]) Tryd.func35 rfl rfl rfl rfl (fun Qx d hend => ?_)
  refine .fg [0, 1] rfl ?_
  refine .seq (fun K1 y => .region (.mv rfl (.nil (y _ _ (.seq (fun K2 o => .seq (fun K3 t => .region (.mv rfl (.q rfl (.len sl_23_B rfl) (.mv rfl (.q rfl (.len sl_23_B rfl) (.q rfl (.cmp rfl rfl rfl) (.nil (t _ _ ?_))))))))))))))
  refine .cond rfl (fun l => ?_) (fun l => ?_)
  ·
   try simp only [sps] at l
   refine .seq (fun K4 v => .region (.mv rfl (.nil (v _ _ ?_))))
   refine .ret ?_
   refine d _ _ ?_
   refine ⟨_, rfl, ?_⟩
   (exfalso; simp_all)
  try simp only [sps] at l
  refine .skip ?_
  refine o _ _ (.seq (fun K5 x => .seq (fun K6 s => .region (.mv rfl (.nil (s _ _ ?_))))))
  refine .block ?_
  refine .loopR (σ := Nat) [(0, some _), (1, some _)] (fun k => [(5, some (.int .i64 (k : Int)))]) (fun k H' => H = H' ∧ k ≤ xss.length) (fun k => xss.length - k) (0) ⟨rfl, rfl, trivial⟩ ⟨rfl, trivial⟩ ?_ ?_
  ·
   refine ⟨rfl, ?_⟩
   omega
  rintro k _ ⟨rfl, hI⟩ KL1 g
  refine .forget (fr' := [(5, some (.int .i64 (k : Int))), (0, some _), (1, some _)]) ⟨rfl, rfl, rfl, trivial⟩ ?_
  refine .seq (fun K7 w => .seq (fun K8 u => .region (.mv rfl (.mv rfl (.q rfl (.len sl_23_B rfl) (.q rfl (.cmp rfl rfl rfl) (.nil (u _ _ ?_))))))))
  refine .cond rfl (fun m => ?_) (fun m => ?_)
  ·
   try simp only [sps] at m
   refine .skip ?_
   refine w _ _ (.seq (fun K9 p => ?_))
   refine .block ?_
   refine .seq (fun K10 j => ?_)
   refine .regionD mo_B (.q 0 (.q 1 (.q 2 (.q 3 (.q 4 (.q 5 (.q 6 (.q 7 (.c 8 0 (.q 9 (.done))))))))))) (by kernel_rfl) ?_
   have hyk := hy k
   have ir := h.2 k (by omega)
   have ir' := h'.2 k (by omega)
   refine .mv rfl rfl (.mv rfl rfl ?_)
   refine .q rfl (.idxN sl_23_B (Intss.sl (by assumption)) rfl rfl (by omega)) ?_
   refine .q rfl (.loadR on_22_B (by assumption) rfl (by omega)) ?_
   refine .mv rfl rfl (.mv rfl rfl ?_)
   refine .q rfl (.idxN sl_23_B (Intss.sl (by assumption)) rfl rfl (by omega)) ?_
   refine .q rfl (.loadR on_22_B (by assumption) rfl (by omega)) ?_
   refine .callQ0 rfl rfl rfl rfl rfl @Tryd.call34 rfl (eqInt64S_c) ?_
   refine .q rfl (.not rfl) ?_
   refine .done ?_
   refine j _ _ ?_
   refine .cond rfl (fun e => ?_) (fun e => ?_)
   ·
    try simp only [sps] at e
    refine .seq (fun K11 n => .region (.mv rfl (.nil (n _ _ ?_))))
    refine .ret ?_
    refine d _ _ ?_
    refine ⟨_, rfl, ?_⟩
    (exfalso; simp_all)
   try simp only [sps] at e
   refine .skip ?_
   refine p _ _ (.region (.mv rfl ?_))
   refine .q rfl (.add rfl rfl rfl (by omega) (by omega)) ?_
   refine .mv rfl (.nil ?_)
   refine g (k + 1) _ _ ?_ ?_ ⟨rfl, rfl, rfl, trivial⟩
   ·
    refine ⟨rfl, ?_⟩
    omega
   omega
  try simp only [sps] at m
  refine .exit ?_
  refine x _ _ (.seq (fun K12 f => .region (.mv rfl (.nil (f _ _ ?_)))))
  refine .ret ?_
  refine d _ _ ?_
  refine ⟨_, rfl, ?_⟩
  exact .of rfl
theorem eqCategory_c {c : Cat} {p p' : CatP} {H : GHeap} (hin : c.In H p := by assumption) (hin' : c.In H p' := by assumption) (hs : c.Small := by assumption) : GCalls Tryd.prog 10 [.agg (c.cells p).toArray, .agg (c.cells p').toArray] H (Ret (.bool true) H) := by
  refine GCalls.ret rfl ?_
  obtain ⟨w1, w2, w3, w4, w5, -⟩ := hs
  refine GCalls.body (N := 34) (rs := [.tmp 4]) Tryd.func10 rfl rfl rfl rfl (fun Qx a hend => ?_)
  refine .fg [0, 1] rfl ?_
  refine .seq (fun K1 z => .region (.d rfl rfl rfl (.box rfl sz_29_D rfl CIs.mk) ?_))
  show GRun _ _ _ _ _ _ (H.push (.row (c.cells p) 29 true))
  have e := GHeap.le_push H (.row (c.cells p) 29 true)
  have hb : Cat.At (H.push (.row (c.cells p) 29 true)) H.next 0 c p := ⟨Mem.new _ _ _ _, hin.mono e⟩
  generalize H.push (.row (c.cells p) 29 true) = H1 at *
  refine .d rfl rfl rfl (.box rfl sz_29_D rfl CIs.mk) ?_
  show GRun _ _ _ _ _ _ (H1.push (.row (c.cells p') 29 true))
  have b := GHeap.le_push H1 (.row (c.cells p') 29 true)
  have hb' : Cat.At (H1.push (.row (c.cells p') 29 true)) H1.next 0 c p' := ⟨Mem.new _ _ _ _, (hin'.mono e).mono b⟩
  replace hb := hb.mono b
  replace e := e.trans b
  generalize H1.push (.row (c.cells p') 29 true) = H2 at *
  obtain ⟨c0, c1, c2, c3, c4, i1, i2, i3, i4⟩ := hb.get
  obtain ⟨c0y, c1y, c2y, c3y, c4y, i1y, i2y, i3y, i4y⟩ := hb'.get
  refine .mv rfl (.nil (z _ _ (.seq (fun K2 t => .seq (fun K3 y => .region (.q rfl (.fieldAddr fo_29_0_B rfl) ?_))))))
  refine .q rfl (.load on_2_A rfl (by assumption)) ?_
  refine .q rfl (.fieldAddr fo_29_0_B rfl) ?_
  refine .q rfl (.load on_2_A rfl (by assumption)) ?_
  refine .q rfl (.cmp rfl rfl rfl) (.nil (y _ _ ?_))
  refine .cond rfl (fun h9 => ?_) (fun h9 => ?_)
  ·
   try simp only [sps] at h9
   refine .seq (fun K4 v => .region (.mv rfl (.nil (v _ _ ?_))))
   refine .ret ?_
   refine a _ _ ?_
   refine ⟨_, rfl, ?_⟩
   (exfalso; simp_all)
  try simp only [sps] at h9
  refine .skip ?_
  refine t _ _ (.seq (fun K5 a1 => .seq (fun K6 u => .region (.q rfl (.fieldAddr fo_29_1_B rfl) ?_))))
  refine .q rfl (.load on_22_B rfl (by assumption)) ?_
  refine .q rfl (.fieldAddr fo_29_1_B rfl) ?_
  refine .q rfl (.load on_22_B rfl (by assumption)) ?_
  refine .callQ rfl rfl rfl rfl @Tryd.call34 rfl (eqInt64S_c) ?_
  refine .q rfl (.not rfl) (.nil (u _ _ ?_))
  refine .cond rfl (fun r => ?_) (fun r => ?_)
  ·
   try simp only [sps] at r
   refine .seq (fun K7 x => .region (.mv rfl (.nil (x _ _ ?_))))
   refine .ret ?_
   refine a _ _ ?_
   refine ⟨_, rfl, ?_⟩
   (exfalso; simp_all)
  try simp only [sps] at r
  refine .skip ?_
  refine a1 _ _ (.seq (fun K8 w => .seq (fun K9 a0 => .region (.q rfl (.fieldAddr fo_29_2_B rfl) ?_))))
  refine .q rfl (.load on_22_B rfl (by assumption)) ?_
  refine .q rfl (.fieldAddr fo_29_2_B rfl) ?_
  refine .q rfl (.load on_22_B rfl (by assumption)) ?_
  refine .callQ rfl rfl rfl rfl @Tryd.call34 rfl (eqInt64S_c) ?_
  refine .q rfl (.not rfl) (.nil (a0 _ _ ?_))
  refine .cond rfl (fun k => ?_) (fun k => ?_)
  ·
   try simp only [sps] at k
   refine .seq (fun K10 s => .region (.mv rfl (.nil (s _ _ ?_))))
   refine .ret ?_
   refine a _ _ ?_
   refine ⟨_, rfl, ?_⟩
   (exfalso; simp_all)
  try simp only [sps] at k
  refine .skip ?_
  refine w _ _ (.seq (fun K11 o => .seq (fun K12 i => .region (.q rfl (.fieldAddr fo_29_3_B rfl) ?_))))
  refine .q rfl (.load on_22_B rfl (by assumption)) ?_
  refine .q rfl (.fieldAddr fo_29_3_B rfl) ?_
  refine .q rfl (.load on_22_B rfl (by assumption)) ?_
  refine .callQ rfl rfl rfl rfl @Tryd.call34 rfl (eqInt64S_c) ?_
  refine .q rfl (.not rfl) (.nil (i _ _ ?_))
  refine .cond rfl (fun f => ?_) (fun f => ?_)
  ·
   try simp only [sps] at f
   refine .seq (fun K13 m => .region (.mv rfl (.nil (m _ _ ?_))))
   refine .ret ?_
   refine a _ _ ?_
   refine ⟨_, rfl, ?_⟩
   (exfalso; simp_all)
  try simp only [sps] at f
  refine .skip ?_
  refine o _ _ (.seq (fun K14 g => .seq (fun K15 j => .region (.q rfl (.fieldAddr fo_29_4_B rfl) ?_))))
  refine .q rfl (.load on_23_B rfl (by assumption)) ?_
  refine .q rfl (.fieldAddr fo_29_4_B rfl) ?_
  refine .q rfl (.load on_23_B rfl (by assumption)) ?_
  refine .callQ rfl rfl rfl rfl @Tryd.call35 rfl (eqInt64SS_c) ?_
  refine .q rfl (.not rfl) (.nil (j _ _ ?_))
  refine .cond rfl (fun h => ?_) (fun h => ?_)
  ·
   try simp only [sps] at h
   refine .seq (fun K16 n => .region (.mv rfl (.nil (n _ _ ?_))))
   refine .ret ?_
   refine a _ _ ?_
   refine ⟨_, rfl, ?_⟩
   (exfalso; simp_all)
  try simp only [sps] at h
  refine .skip ?_
  refine g _ _ (.seq (fun K17 l => .region (.mv rfl (.nil (l _ _ ?_)))))
  refine .ret ?_
  refine a _ _ ?_
  refine ⟨_, rfl, ?_⟩
  exact ⟨rfl, e⟩
end Go.Proofs.YtlfnclhkhmkklaaDoor
namespace Go.Proofs.YtlfnclhkhmkklaaDoor
open Go Go.GL Go.RowKit Go.Proofs
end Go.Proofs.YtlfnclhkhmkklaaDoor
namespace Go.GL

abbrev Fun.A (f : Fun) (a : Int) : Int := f.ar.getD a.toNat 0
structure Fun.Fits (f : Fun) : Prop where
  ol : (f.ob.length : Int) = f.s.obj
  al : f.ar.length = f.s.src.length
  ob : ∀ i, i < f.ob.length → 0 ≤ f.ob.getD i 0 ∧ f.ob.getD i 0 < f.t.obj
  ar : ∀ i, i < f.ar.length → 0 ≤ f.ar.getD i 0 ∧ f.ar.getD i 0 < f.t.src.length
  ends : ∀ a, a < f.ar.length → f.t.src.getD (f.ar.getD a 0).toNat 0 = f.ob.getD (f.s.src.getD a 0).toNat 0 ∧ f.t.tgt.getD (f.ar.getD a 0).toNat 0 = f.ob.getD (f.s.tgt.getD a 0).toNat 0
  ids : ∀ x, x < f.s.idn.length → f.ar.getD (f.s.idn.getD x 0).toNat 0 = f.t.idn.getD (f.ob.getD x 0).toNat 0
  th : ∀ a, a < f.s.src.length → ∀ b, b < f.s.src.length → f.s.tgt.getD a 0 = f.s.src.getD b 0 → f.A (f.s.th a b) = f.t.th (f.ar.getD a 0) (f.ar.getD b 0)
def Fun.Is (f : Fun) : Prop := f.s.Is ∧ f.t.Is ∧ f.Fits

def Tra.Sq (m : Tra) (a : Nat) : Prop := m.s.t.th (m.s.ar.getD a 0) (m.co.getD (m.s.s.tgt.getD a 0).toNat 0) = m.s.t.th (m.co.getD (m.s.s.src.getD a 0).toNat 0) (m.t.ar.getD a 0)
structure Tra.Shape (m : Tra) : Prop where
  s : m.s.Is
  t : m.t.Is
  ps : m.s.s = m.t.s
  pt : m.s.t = m.t.t
  cl : (m.co.length : Int) = m.s.s.obj
  co : ∀ i, i < m.co.length → 0 ≤ m.co.getD i 0 ∧ m.co.getD i 0 < m.s.t.src.length
  ends : ∀ x, x < m.co.length → m.s.t.src.getD (m.co.getD x 0).toNat 0 = m.s.ob.getD x 0 ∧ m.s.t.tgt.getD (m.co.getD x 0).toNat 0 = m.t.ob.getD x 0
def Tra.Is (m : Tra) : Prop := m.Shape ∧ ∀ a, a < m.s.ar.length → m.Sq a
noncomputable def Tra.first (m : Tra) : Int := match firstN m.s.ar.length (fun a => !B (m.Sq a)) with | some a => (a : Int) | none => -1
section
variable {P : Program} {N : Nat} {ops : Array Oper} {Q : Slots → GHeap → Prop} {fr : Slots} {H Hb : GHeap}
end
end Go.GL
namespace Go.Proofs.YtlfnclhkhmkklaaDoor
open Go Go.GL Go.RowKit Go.Proofs
end Go.Proofs.YtlfnclhkhmkklaaDoor
namespace Go.Proofs.YtlfnclhkhmkklaaDoor
open Go Go.GL Go.RowKit Go.Proofs
end Go.Proofs.YtlfnclhkhmkklaaDoor
namespace Go.Proofs.YtlfnclhkhmkklaaDoor
open Go Go.GL Go.RowKit Go.Proofs
end Go.Proofs.YtlfnclhkhmkklaaDoor
namespace Go.GL
open Go.RowKit

def out : List Nat → Nat → Prop
  | [], _ => True
  | g :: r, k => k ≠ g ∧ out r k
structure St (bs : List Nat) (H H' : GHeap) : Prop where
  nx : H.next ≤ H'.next
  same : ∀ k o, out bs k → H.get k = some o → H'.get k = some o
theorem St.refl (bs : List Nat) (H : GHeap) : St bs H H := ⟨Nat.le_refl _, fun _ _ _ h => h⟩
theorem GHeap.Le.st {H0 H H' : GHeap} {bs : List Nat} (h : H0.Le H) (s : St bs H H') (hg : ∀ k, k < H0.next → out bs k) : H0.Le H' :=
  ⟨Nat.le_trans h.1 s.nx, fun k o hk => s.same k o (hg k (GHeap.ltg hk)) (h.2 k o hk)⟩
theorem St.le {bs : List Nat} {H0 H H' : GHeap} (s : St bs H0 H) (h : H.Le H') : St bs H0 H' := ⟨Nat.le_trans s.nx h.1, fun k o hk hg => h.2 k o (s.same k o hk hg)⟩
theorem St.st {bs cs : List Nat} {H0 H H' : GHeap} (s : St bs H0 H) (h : St cs H H') (hg : ∀ k, k < H0.next → out bs k → out cs k) : St bs H0 H' :=
  ⟨Nat.le_trans s.nx h.nx, fun k o hk h1 => h.same k o (hg k (GHeap.ltg h1) hk) (s.same k o hk h1)⟩
theorem St.s {g k : Nat} {H H' : GHeap} {o : GObj} (s : St [g] H H') (h : H.get k = some o) (hne : k ≠ g := by first | assumption | omega) : H'.get k = some o := s.same k o ⟨hne, trivial⟩ h
theorem Keep.le {b : Nat} {H0 H H' : GHeap} (k : Keep b H0 H) (h : H.Le H') : Keep b H0 H' := fun g o hb hg => h.2 g o (k g o hb hg)
theorem Keep.st {bs : List Nat} {b : Nat} {H0 H H' : GHeap} (k : Keep b H0 H) (h : St bs H H') (hg : ∀ k, b ≤ k → k < H0.next → out bs k) : Keep b H0 H' := fun g o hb h1 => h.same g o (hg g hb (GHeap.ltg h1)) (k g o hb h1)
theorem St.of_set {g : Nat} {H : GHeap} {o : Option GObj} : St [g] H (H.set g o) := ⟨by rw [GHeap.next_set]; exact Nat.le_refl _, fun k x hk h => by rw [GHeap.get_set_ne (Ne.symm hk.1)]; exact h⟩
section
variable {P : Program} {N : Nat} {ops : Array Oper} {Q : Slots → GHeap → Prop} {L : List (Oper × Nat)} {fr : Slots} {H Hb : GHeap} {o : Oper} {i : Nat} {t : Tree}
theorem CDo.mono {R R' : Option Value → GHeap → Prop} (h : CDo P o fr H R) (hi : ∀ v H', R v H' → R' v H') : CDo P o fr H R' :=
  .mkI fun l B w0 ρ a w hs hf next Qx hn => h.run l B w0 ρ a w hs hf next Qx fun ρ' v c H' w' hR => hn ρ' v c H' w' (hi v H' hR)
theorem GTree.mono {Q' : Slots → GHeap → Prop} (hq : ∀ fr H, Q' fr H → Q fr H) : ∀ {t : Tree} {fr : Slots} {Hb H : GHeap}, GTree P N ops Q' t fr Hb H → GTree P N ops Q t fr Hb H
  | .done, _, _, _, h => hq _ _ h
  | .q i t, fr, Hb, H, h => by
    unfold GTree at h ⊢
    obtain ⟨o, h1, h2, h3⟩ := h
    refine ⟨o, h1, h2, ?_⟩
    split
    · rename_i hg
      rw [hg] at h3
      obtain ⟨v, Hq, k1, k2, k3, k4⟩ := h3
      exact ⟨v, Hq, k1, k2, k3, GTree.mono hq k4⟩
    · rename_i j want hg
      rw [hg] at h3
      obtain ⟨s, c, k1, k2, kg, k3, k4⟩ := h3
      exact ⟨s, c, k1, k2, kg, fun e => let ⟨v, Hq, l1, l2, l3, l4⟩ := k3 e; ⟨v, Hq, l1, l2, l3, GTree.mono hq l4⟩, fun e => GTree.mono hq (k4 e)⟩
  | .c i k t, fr, Hb, H, h => by
    unfold GTree at h ⊢
    obtain ⟨o, h1, h2, h3⟩ := h
    refine ⟨o, h1, h2, ?_⟩
    split
    · rename_i hg
      rw [hg] at h3
      exact h3.mono fun v H' ⟨l1, l2⟩ => ⟨l1, GTree.mono hq l2⟩
    · rename_i j want hg
      rw [hg] at h3
      obtain ⟨s, c, k1, k2, kg, k3, k4⟩ := h3
      exact ⟨s, c, k1, k2, kg, fun e => (k3 e).mono fun v H' ⟨l1, l2⟩ => ⟨l1, GTree.mono hq l2⟩, fun e => GTree.mono hq (k4 e)⟩
  | .or s t, fr, Hb, H, h => by
    unfold GTree at h ⊢
    exact ⟨GTree.mono hq h.1, GTree.mono hq h.2⟩
theorem GTree.cut (rest : Slots) (hr : Sub rest fr) (R : Slots → Slots → GHeap → Prop) (h : GTree P N ops (R rest) t fr Hb H) (hq : ∀ fr' H', R rest fr' H' → Q fr' H') : GTree P N ops Q t fr Hb H := h.mono hq
theorem GTree.mB {d : Tmp} {v : Value} (hi : ops[i]? = some o) (hd : o.dst = some d) (hN : Nat.blt d N = true) (hg : o.guard = none) (hle : Hb.Le H) (hm : MStep P fr Hb o.op v) (h : GTree P N ops Q t ((d, some v) :: fr) Hb H) : GTree P N ops Q (.q i t) fr Hb H := by
  unfold GTree
  refine ⟨o, hi, by unfold dstOk; rw [hd]; exact hN, ?_⟩
  rw [hg]
  exact ⟨v, Hb, .refl _, hle, hm, by rw [hd]; exact h⟩
theorem GTree.qB {d : Tmp} {v : Value} (h : stpT ops i N = some (o, d)) (hle : Hb.Le H) (hm : MStep P fr Hb o.op v) (hq : GTree P N ops Q t ((d, some v) :: fr) Hb H) : GTree P N ops Q (.q i t) fr Hb H := by
  obtain ⟨h0, h4⟩ := stpT.spec h
  obtain ⟨h1, h2, h3⟩ := stpR.spec h4
  exact .mB h0 h1 h2 h3 hle hm hq
theorem GTree.orI {s : Tree} (h : GTree P N ops Q s fr Hb H) (h' : GTree P N ops Q t fr Hb H) : GTree P N ops Q (.or s t) fr Hb H := by unfold GTree; exact ⟨h, h'⟩
theorem GRun.r {d : Tmp} {R : Option Value → GHeap → Prop} (hd : o.dst = some d) (hN : Nat.blt d N = true) (hg : o.guard = none) (hc : CDo P o fr H R) (h : ∀ v H', R v H' → GRun P N ops Q L ((d, v) :: fr) H') : GRun P N ops Q ((o, 0) :: L) fr H :=
  .c hd hN hg (by simp) hc fun v H' hR => ⟨fun e => (by cases e), h v H' hR⟩
theorem GRun.R {d : Tmp} {R : Option Value → GHeap → Prop} (h0 : stpR o N = some d) (hc : CDo P o fr H R) (h : ∀ v H', R v H' → GRun P N ops Q L ((d, v) :: fr) H') : GRun P N ops Q ((o, 0) :: L) fr H := by
  obtain ⟨h1, h2, h3⟩ := stpR.spec h0
  exact .r h1 h2 h3 hc h
theorem GRun.r0 {R : Option Value → GHeap → Prop} (hd : o.dst = none) (hg : o.guard = none) (hc : CDo P o fr H R) (h : ∀ v H', R v H' → GRun P N ops Q L fr H') : GRun P N ops Q ((o, 0) :: L) fr H :=
  .c0 hd hg (by simp) hc fun v H' hR => ⟨fun e => (by cases e), h v H' hR⟩
end

section
variable {P : Program} {H : GHeap} {fr : Slots} {o : Oper}
theorem CDo.boxR {e : TypeId} {x : Operand} {v : Value} {n : Nat} (ho : o.op = .box e x) (he : (P.info? e).map (·.size) = some n) (hx : ev fr x = some v) :
    CDo P o fr H (fun r H' => ∃ g, r = some (.pointer (some ⟨g, 0, none⟩)) ∧ H.Le H' ∧ H.next ≤ g ∧ H'.get g = some (.row v.cells.toList e true)) :=
  .box ho he hx ⟨_, rfl, GHeap.le_push _ _, Nat.le_refl _, GHeap.get_push_new _ _⟩
theorem CDo.allocR {e : TypeId} {z : List Value} {n : Nat} (ho : o.op = .alloc e) (hz : zeroT P e = some (z, n)) (hfl : z.all flat1 = true) :
    CDo P o fr H (fun r H' => ∃ g, r = some (.pointer (some ⟨g, 0, none⟩)) ∧ H.Le H' ∧ H.next ≤ g ∧ H'.get g = some (.row z e true)) :=
  .alloc ho hz hfl ⟨_, rfl, GHeap.le_push _ _, Nat.le_refl _, GHeap.get_push_new _ _⟩
theorem CDo.litR {t e : TypeId} {len n : Nat} {parts : Array (Nat × Operand)} {z vs cs : List Value} (ho : o.op = .buildSlice t len parts) (ht : sliceT P t = some (e, n)) (hz : zeroT P e = some (z, n)) (hfl : z.all flat1 = true) (hzn : z.length = n) (h0 : 0 < n)
    (hsm : len * n ≤ 16777216) (hv : evs fr (parts.toList.map (·.2)) = some vs) (hc : fillL (fun i => some (i * n, n)) (madeL z (len * n)) ((parts.toList.map (·.1)).zip vs) = some cs) :
    CDo P o fr H (fun r H' => ∃ g, r = some (.slice (some ⟨g, 0, none⟩) len len) ∧ H.Le H' ∧ H.next ≤ g ∧ H'.get g = some (.row cs e true)) :=
  .buildSlice ho ht hz hfl hzn h0 hsm hv hc ⟨_, rfl, GHeap.le_push _ _, Nat.le_refl _, GHeap.get_push_new _ _⟩
theorem CDo.storeNR {t : TypeId} {x y : Operand} {g off n : Nat} {vs : Array Value} {cs : List Value} {e : TypeId} (ho : o.op = .store t x y) (ht : (P.info? t).map (·.size) = some n) (hx : ev fr x = some (.pointer (some ⟨g, off, none⟩))) (hy : ev fr y = some (.agg vs))
    (hn : vs.size = n) (h1 : vs.toList.all (·.oneCell') = true) (hg : H.get g = some (.row cs e true)) (hoff : off + n ≤ cs.length) :
    CDo P o fr H (fun r H' => r = none ∧ St [g] H H' ∧ H'.get g = some (.row (setAll cs off vs.toList) e true)) :=
  .storeN ho ht hx hy hn h1 hg hoff ⟨rfl, .of_set, GHeap.get_set_eq (GHeap.ltg hg)⟩
theorem CDo.fillR {t : TypeId} {x y : Operand} {g n : Nat} {vs : Array Value} {cs : List Value} {e : TypeId} (ho : o.op = .store t x y) (ht : (P.info? t).map (·.size) = some n) (hx : ev fr x = some (.pointer (some ⟨g, 0, none⟩))) (hy : ev fr y = some (.agg vs))
    (hn : vs.size = n) (h1 : vs.toList.all (·.oneCell') = true) (hg : H.get g = some (.row cs e true)) (hoff : cs.length = n) :
    CDo P o fr H (fun r H' => r = none ∧ St [g] H H' ∧ H'.get g = some (.row vs.toList e true)) := by
  have : setAll cs 0 vs.toList = vs.toList := setAll_all _ _ (by simp [hoff, hn])
  have h := CDo.storeNR (P := P) (H := H) ho ht hx hy hn h1 hg (by omega)
  rw [this] at h
  exact h
theorem CDo.litA {t e : TypeId} {len n : Nat} {parts : Array (Nat × Operand)} {z vs cs : List Value} (ho : o.op = .buildSlice t len parts) (ht : sliceT P t = some (e, n)) (hz : zeroT P e = some (z, n)) (hfl : z.all flat1 = true) (hzn : z.length = n) (hv : evs fr (parts.toList.map (·.2)) = some vs) (hc : fillL (fun i => some (i * n, n)) (madeL z (len * n)) ((parts.toList.map (·.1)).zip vs) = some cs) (h0 : 0 < n := by omega)
    (hsm : len * n ≤ 16777216 := by omega) : CDo P o fr H (fun r H' => ∃ g, r = some (.slice (some ⟨g, 0, none⟩) len len) ∧ H.Le H' ∧ H.next ≤ g ∧ H'.get g = some (.row cs e true)) := .litR ho ht hz hfl hzn h0 hsm hv hc
theorem CDo.fillA {t : TypeId} {x y : Operand} {g n : Nat} {vs : Array Value} {cs : List Value} {e : TypeId} (ho : o.op = .store t x y) (ht : (P.info? t).map (·.size) = some n) (hx : ev fr x = some (.pointer (some ⟨g, 0, none⟩))) (hy : ev fr y = some (.agg vs))
    (hn : vs.size = n) (h1 : vs.toList.all (·.oneCell') = true) (hg : H.get g = some (.row cs e true) := by assumption) (hoff : cs.length = n := by first | rfl | exact Nat.le_of_ble_eq_true rfl | simp) :
    CDo P o fr H (fun r H' => r = none ∧ St [g] H H' ∧ H'.get g = some (.row vs.toList e true)) := .fillR ho ht hx hy hn h1 hg hoff
end

def filtN (n : Nat) (p : Nat → Bool) : List Int := ((List.range n).filter p).map fun (i : Nat) => (i : Int)
def firstIn (xs : List Int) (p : Int → Bool) : Int := (xs.find? p).getD (-1)
end Go.GL
namespace Go.GL

def Cat.hom (c : Cat) (x y : Int) : List Int := filtN c.src.length fun f => decide (c.src.getD f 0 = x) && decide (c.tgt.getD f 0 = y)
def Cat.invB (c : Cat) (f g : Int) : Bool := decide (c.th f g = c.idn.getD (c.src.getD f.toNat 0).toNat 0) && decide (c.th g f = c.idn.getD (c.tgt.getD f.toNat 0).toNat 0)
def Cat.inv (c : Cat) (f : Int) : Int := firstIn (c.hom (c.tgt.getD f.toNat 0) (c.src.getD f.toNat 0)) (c.invB f)
end Go.GL
namespace Go.Proofs.YtlfnclhkhmkklaaDoor
open Go Go.GL Go.RowKit Go.Proofs
end Go.Proofs.YtlfnclhkhmkklaaDoor
namespace Go.GL
open Go.RowKit Go.WideShapes Go.ChangeShapes Go.Deep

def Intsss (H : GHeap) (a : Option Addr) (x : List (List (List Int))) (r : Nat → Option Addr) (s : Nat → Nat → Option Addr) : Prop :=
  SlA H a x.length (fun i => .slice (r i) (x.getD i []).length (x.getD i []).length) ∧ ∀ i, i < x.length → Intss H (r i) (x.getD i []) (s i)
def Wd2 (xss : List (List Int)) : Prop := xss.length ≤ 9223372036854775807 ∧ ∀ i, I64s (xss.getD i [])
def Wd3 (x : List (List (List Int))) : Prop := x.length ≤ 9223372036854775807 ∧ ∀ i, Wd2 (x.getD i [])
def Sm3 (x : List (List (List Int))) : Prop := x.length ≤ 1048576 ∧ ∀ i, (x.getD i []).length ≤ 1048576 ∧ ∀ j, ((x.getD i []).getD j []).length ≤ 1048576
end Go.GL
namespace Go.GL
open Go.RowKit Go.WideShapes Go.ChangeShapes Go.Deep

structure Imp1 (P : Program) (t : TypeId) (R : GHeap → Value → Prop) : Prop where
  mono : ∀ {H H' : GHeap} {g : Value}, H.Le H' → R H g → R H' g
  imp : ∀ {T : Type} {enc : TypeId × Value → T} {B : Nat} {w0 : World} {ρ : Place} {H : GHeap} {w : World} {held : Bool} {base fuel : Nat} {v : Value} {x : DataW T × List MemPlace}, Sim P B w0 ρ H w → w.heap.size ≤ B →
    DataW.trod enc P w 0 (fun _ => true) held fuel t v.cells.toList = some x → Value.okWide P w .any base t v → ∃ ρ' H' g, Sim P B w0 ρ' H' w ∧ Ext ρ ρ' ∧ H.Le H' ∧ VRel ρ' g v ∧ R H' g

def structT (P : Program) (t : TypeId) : Bool := match P.underlying t with | some (.struct _) => true | _ => false
theorem imp1_struct {P : Program} {t : TypeId} {α β : Type} {cells : α → β → List Value} {I : GHeap → α → β → Prop} {W : α → Prop} (hm : ∀ {H H' : GHeap} {c : α} {p : β}, I H c p → H.Le H' → I H' c p)
    (hI : Imports P t (fun ρ H cs => ∃ (c : α) (p : β), LRel ρ (cells c p) cs ∧ I H c p ∧ W c)) (hst : structT P t = true) : Imp1 P t (fun H g => ∃ (c : α) (p : β), g = .agg (cells c p).toArray ∧ I H c p ∧ W c) where
  mono h := fun ⟨c, p, h1, h2, h3⟩ => ⟨c, p, h1, hm h2 h, h3⟩
  imp := by
    intro T enc B w0 ρ H w held base fuel v x hs hB h hv
    have hagg : ∃ cs, v = .agg cs := by
      unfold Value.okWide at hv
      unfold structT at hst
      split at hst
      · rename_i fs hu
        rw [hu] at hv
        obtain ⟨cs, h, _⟩ := hv
        exact ⟨cs, h⟩
      · cases hst
    obtain ⟨cs, rfl⟩ := hagg
    obtain ⟨ρ', H', h1, h2, h3, c, p, h4, h5, h6⟩ := hI hs hB h
    exact ⟨ρ', H', _, h1, h2, h3, by have := VRel.agg_of h4; simpa [Value.cells] using this, c, p, rfl, h5, h6⟩
theorem imp1_int {P : Program} {t : TypeId} (ht : i64T P t = true) : Imp1 P t (fun _ g => ∃ n, g = .int .i64 n ∧ I64 n) where
  mono _ := id
  imp := by
    intro T enc B w0 ρ H w held base fuel v x hs hB h hv
    obtain ⟨n, rfl⟩ := okWide_int (i64T_run ht) hv
    obtain ⟨ρ', H', h1, h2, h3, m, h4, h5⟩ := import_int ht hs hB h
    have : n = m := by simpa [Value.cells] using h4
    subst this
    exact ⟨ρ', H', _, h1, h2, h3, .int _ _, n, rfl, h5⟩
structure ImpAll (P : Program) (ts : List TypeId) (R : GHeap → List Value → Prop) : Prop where
  imp : ∀ {T : Type} {enc : TypeId × Value → T} {B : Nat} {w0 : World} {ρ : Place} {H : GHeap} {w : World} {base : Nat} {vs : List Value} {ds : List (DataW T)} {ps : List MemPlace}, Sim P B w0 ρ H w → w.heap.size ≤ B →
    DataW.TrodAll enc P w 0 (fun _ => true) true ts vs ds ps → (∀ (j : Nat) t v, ts[j]? = some t → vs[j]? = some v → Value.okWide P w .any base t v) → ds.length = ts.length ∧ ∃ ρ' H' gs, Sim P B w0 ρ' H' w ∧ Ext ρ ρ' ∧ H.Le H' ∧ LRel ρ' gs vs ∧ R H' gs
theorem ImpAll.nil {P : Program} : ImpAll P [] (fun _ gs => gs = []) where
  imp := by
    intro T enc B w0 ρ H w base vs ds ps hs hB h hv
    obtain ⟨rfl, rfl, rfl⟩ := trodAll_nil h
    exact ⟨rfl, ρ, H, [], hs, .refl ρ, .refl H, .nil ρ, rfl⟩
theorem ImpAll.cons {P : Program} {t : TypeId} {ts : List TypeId} {R1 : GHeap → Value → Prop} {R : GHeap → List Value → Prop} (h1 : Imp1 P t R1) (h2 : ImpAll P ts R) : ImpAll P (t :: ts) (fun H gs => ∃ g r, gs = g :: r ∧ R1 H g ∧ R H r) where
  imp := by
    intro T enc B w0 ρ H w base vs ds ps hs hB h hv
    obtain ⟨v, vs, d, ds, p, q, rfl, rfl, rfl, ⟨fuel, k1⟩, k2⟩ := trodAll_cons h
    obtain ⟨ρ1, H1, g, s1, e1, l1, v1, r1⟩ := h1.imp hs hB k1 (hv 0 t v rfl rfl)
    obtain ⟨hl, ρ2, H2, gs, s2, e2, l2, v2, r2⟩ := h2.imp s1 hB k2 (fun j t v ht hj => hv (j + 1) t v (by simpa using ht) (by simpa using hj))
    exact ⟨by simp [hl], ρ2, H2, g :: gs, s2, e1.trans e2, l1.trans l2, .cons (v1.mono e2) v2, g, gs, rfl, h1.mono l2 r1, r2⟩

theorem law_calls {P : Program} {f : FuncId} {fn : Func} {ts : List TypeId} {tb : TypeId} {R : GHeap → List Value → Prop} (hI : ImpAll P ts R) (hp : fn.params = ts.toArray)
    (hc : ∀ H gs, R H gs → GCalls P f gs H fun v _ => v = .bool true)
    {T : Type} {enc : TypeId × Value → T} {W : World} {base : Nat} {args : Array Value} {s : ChangeSpec} {apart fresh handsOn again : Bool} {ds gs : List (DataW T)} {before : List MemPlace}
    (hval : ∀ (j : Nat) t v, fn.params[j]? = some t → args[j]? = some v → Value.okWide P W .any base t v)
    (hW : DataW.Whole enc P fn.params.toList s.vars apart W args.toList ds gs before)
    (hl : laidOutB P = true) (hr : readB P fn.params.toList = true) (hv : s.vars = []) (hrt : fn.resultTypes = #[tb]) (htb : P.underlying tb = some .bool)
    (hs : ∀ ds : List (DataW T), ds.length = ts.length → (s.fn T ds).results = [.lit (.bool true)] ∧ (s.fn T ds).args = ds ∧ (s.fn T ds).vars = []) :
    Calls P f args W fun e W' => ∃ v, e = .returned v ∧ s.post enc P fn apart fresh handsOn again W args v W' := by
  have hWW := hW
  obtain ⟨p, q, hA, _⟩ := hW
  rw [hp] at hA
  obtain ⟨hlen, ρ, H, gs', hs', _, _, hrel, hR⟩ := hI.imp (base := base) (Sim.start P W) (Nat.le_refl _) (by simpa using hA) (fun j t v ht hj => hval j t v (by rw [hp]; simpa using ht) (by simpa using hj))
  have := (hc H gs' hR) _ _ ρ args.toList W hs' hrel
  rw [Array.toArray_toList] at this
  refine this.mono fun e W' ⟨v, c, ρ', H', he, hv', _, hsim, hrv⟩ => ?_
  subst hv'
  cases hrv
  exact ⟨_, he, law_post hl hr hv hrt htb hWW (hs ds hlen).1 (hs ds hlen).2.1 (hs ds hlen).2.2 hsim.below⟩
end Go.GL
namespace Go.GL
open Go.RowKit
structure SFun where
  sh : Cat
  sz : List Int
  ac : List (List Int)
structure SFunP where
  sh : CatP
  a1 : Option Addr
  a2 : Option Addr
  r2 : Nat → Option Addr
def SFun.cells (c : SFun) (p : SFunP) : List Value := c.sh.cells p.sh ++ ([.slice p.a1 c.sz.length c.sz.length] ++ ([.slice p.a2 c.ac.length c.ac.length]))
def SFun.In (H : GHeap) (c : SFun) (p : SFunP) : Prop := c.sh.In H p.sh ∧ Ints H p.a1 c.sz ∧ Intss H p.a2 c.ac p.r2
def SFun.At (H : GHeap) (g o : Nat) (c : SFun) (p : SFunP) : Prop := Mem H g o (c.cells p) ∧ c.In H p
def SFun.Small (c : SFun) : Prop := c.sh.Small ∧ c.sz.length ≤ 1048576 ∧ (c.ac.length ≤ 1048576 ∧ ∀ i, (c.ac.getD i []).length ≤ 1048576)
def SFun.Wide (c : SFun) : Prop := c.sh.Wide ∧ I64s c.sz ∧ (c.ac.length ≤ 9223372036854775807 ∧ ∀ i, I64s (c.ac.getD i []))
structure SMap where
  s : SFun
  t : SFun
  pa : List (List Int)
structure SMapP where
  s : SFunP
  t : SFunP
  a2 : Option Addr
  r2 : Nat → Option Addr
def SMap.cells (c : SMap) (p : SMapP) : List Value := c.s.cells p.s ++ (c.t.cells p.t ++ ([.slice p.a2 c.pa.length c.pa.length]))
def SMap.In (H : GHeap) (c : SMap) (p : SMapP) : Prop := c.s.In H p.s ∧ c.t.In H p.t ∧ Intss H p.a2 c.pa p.r2
def SMap.At (H : GHeap) (g o : Nat) (c : SMap) (p : SMapP) : Prop := Mem H g o (c.cells p) ∧ c.In H p
def SMap.Small (c : SMap) : Prop := c.s.Small ∧ c.t.Small ∧ (c.pa.length ≤ 1048576 ∧ ∀ i, (c.pa.getD i []).length ≤ 1048576)
def SMap.Wide (c : SMap) : Prop := c.s.Wide ∧ c.t.Wide ∧ (c.pa.length ≤ 9223372036854775807 ∧ ∀ i, I64s (c.pa.getD i []))
structure Con where
  ap : Int
  lg : List Int
structure ConP where
  a1 : Option Addr
def Con.cells (c : Con) (p : ConP) : List Value := [.int .i64 c.ap] ++ ([.slice p.a1 c.lg.length c.lg.length])
def Con.In (H : GHeap) (c : Con) (p : ConP) : Prop := Ints H p.a1 c.lg
def Con.At (H : GHeap) (g o : Nat) (c : Con) (p : ConP) : Prop := Mem H g o (c.cells p) ∧ c.In H p
def Con.Small (c : Con) : Prop := (-9223372036854775808 ≤ c.ap ∧ c.ap ≤ 9223372036854775807) ∧ c.lg.length ≤ 1048576
def Con.Wide (c : Con) : Prop := I64 c.ap ∧ I64s c.lg
structure Prt where
  me : List (List Int)
structure PrtP where
  a0 : Option Addr
  r0 : Nat → Option Addr
def Prt.cells (c : Prt) (p : PrtP) : List Value := [.slice p.a0 c.me.length c.me.length]
def Prt.In (H : GHeap) (c : Prt) (p : PrtP) : Prop := Intss H p.a0 c.me p.r0
def Prt.At (H : GHeap) (g o : Nat) (c : Prt) (p : PrtP) : Prop := Mem H g o (c.cells p) ∧ c.In H p
def Prt.Small (c : Prt) : Prop := (c.me.length ≤ 1048576 ∧ ∀ i, (c.me.getD i []).length ≤ 1048576)
def Prt.Wide (c : Prt) : Prop := (c.me.length ≤ 9223372036854775807 ∧ ∀ i, I64s (c.me.getD i []))
structure Prof where
  s : Cat
  t : Cat
  sz : List (List Int)
  be : List (List (List Int))
  bh : List (List (List Int))
structure ProfP where
  s : CatP
  t : CatP
  a2 : Option Addr
  r2 : Nat → Option Addr
  a3 : Option Addr
  r3 : Nat → Option Addr
  s3 : Nat → Nat → Option Addr
  a4 : Option Addr
  r4 : Nat → Option Addr
  s4 : Nat → Nat → Option Addr
def Prof.cells (c : Prof) (p : ProfP) : List Value := c.s.cells p.s ++ (c.t.cells p.t ++ ([.slice p.a2 c.sz.length c.sz.length] ++ ([.slice p.a3 c.be.length c.be.length] ++ ([.slice p.a4 c.bh.length c.bh.length]))))
def Prof.In (H : GHeap) (c : Prof) (p : ProfP) : Prop := c.s.In H p.s ∧ c.t.In H p.t ∧ Intss H p.a2 c.sz p.r2 ∧ Intsss H p.a3 c.be p.r3 p.s3 ∧ Intsss H p.a4 c.bh p.r4 p.s4
def Prof.At (H : GHeap) (g o : Nat) (c : Prof) (p : ProfP) : Prop := Mem H g o (c.cells p) ∧ c.In H p
def Prof.Small (c : Prof) : Prop := c.s.Small ∧ c.t.Small ∧ (c.sz.length ≤ 1048576 ∧ ∀ i, (c.sz.getD i []).length ≤ 1048576) ∧ Sm3 c.be ∧ Sm3 c.bh
def Prof.Wide (c : Prof) : Prop := c.s.Wide ∧ c.t.Wide ∧ (c.sz.length ≤ 9223372036854775807 ∧ ∀ i, I64s (c.sz.getD i [])) ∧ Wd3 c.be ∧ Wd3 c.bh
end Go.GL
namespace Go.GL
open Go.RowKit

def thenL (f g : List Int) : List Int := f.map fun y => g.getD y.toNat 0
noncomputable def Cat.iso (c : Cat) (x y : Int) : Int := firstIn (c.hom x y) fun g => decide (0 ≤ c.inv g)
end Go.GL
namespace Go.GL

def first2 (n : Nat) (len : Nat → Nat) (p : Nat → Nat → Bool) : Int × Int :=
  match firstN n fun a => (firstN (len a) (p a)).isSome with
  | some a => ((a : Int), (((firstN (len a) (p a)).getD 0 : Nat) : Int))
  | none => (-1, 0)
def SFun.AcOk (f : SFun) (a : Nat) : Prop :=
  ((f.ac.getD a []).length : Int) = f.sz.getD (f.sh.src.getD a 0).toNat 0 ∧ allIn (f.ac.getD a []) (f.sz.getD (f.sh.tgt.getD a 0).toNat 0) = true
structure SFun.Shape (f : SFun) : Prop where
  c : f.sh.Is
  zl : (f.sz.length : Int) = f.sh.obj
  sz : ∀ i, i < f.sz.length → 0 ≤ f.sz.getD i 0 ∧ f.sz.getD i 0 ≤ 16
  al : f.ac.length = f.sh.src.length
  ac : ∀ a, a < f.ac.length → f.AcOk a
structure SFun.Laws (f : SFun) : Prop where
  ids : ∀ x : Nat, x < f.sh.idn.length → ∀ e : Nat, e < (f.ac.getD (f.sh.idn.getD x 0).toNat []).length → (f.ac.getD (f.sh.idn.getD x 0).toNat []).getD e 0 = e
  th : ∀ a : Nat, a < f.sh.src.length → ∀ b : Nat, b < f.sh.src.length → f.sh.tgt.getD a 0 = f.sh.src.getD b 0 → ∀ e : Nat, e < (f.ac.getD a []).length →
    (f.ac.getD ((f.sh.comp.getD a []).getD b 0).toNat []).getD e 0 = (f.ac.getD b []).getD ((f.ac.getD a []).getD e 0).toNat 0
def SFun.Is (f : SFun) : Prop := f.Shape ∧ f.Laws

def SMap.PaOk (m : SMap) (x : Nat) : Prop := ((m.pa.getD x []).length : Int) = m.s.sz.getD x 0 ∧ allIn (m.pa.getD x []) (m.t.sz.getD x 0) = true
structure SMap.Fits (m : SMap) : Prop where
  pl : m.pa.length = m.s.sz.length
  pa : ∀ x, x < m.pa.length → m.PaOk x
structure SMap.Shape (m : SMap) : Prop where
  s : m.s.Is
  t : m.t.Is
  sh : m.s.sh = m.t.sh
  fits : m.Fits
def SMap.bad (m : SMap) (a e : Nat) : Bool := decide (¬ (m.pa.getD (m.s.sh.tgt.getD a 0).toNat []).getD ((m.s.ac.getD a []).getD e 0).toNat 0 = (m.t.ac.getD a []).getD ((m.pa.getD (m.s.sh.src.getD a 0).toNat []).getD e 0).toNat 0)
def SMap.first (m : SMap) : Int × Int := first2 m.s.ac.length (fun a => (m.s.ac.getD a []).length) m.bad
def SMap.Is (m : SMap) : Prop := m.Shape ∧ ∀ a, a < m.s.ac.length → ∀ e, e < (m.s.ac.getD a []).length → m.bad a e = false
end Go.GL
namespace Go.GL

def NoMove (xs : List Int) : Prop := ∀ i : Nat, i < xs.length → xs.getD i 0 = i
structure Prof.Sized (m : Prof) : Prop where
  sl : (m.sz.length : Int) = m.s.obj
  bl : m.be.length = m.s.src.length
  hl : m.bh.length = m.t.src.length
  row : ∀ x, x < m.sz.length → ((m.sz.getD x []).length : Int) = m.t.obj
  rng : ∀ x, x < m.sz.length → ∀ y, y < (m.sz.getD x []).length → 0 ≤ (m.sz.getD x []).getD y 0 ∧ (m.sz.getD x []).getD y 0 ≤ 64
def Prof.BeOk (m : Prof) (a y : Nat) : Prop :=
  (((m.be.getD a []).getD y []).length : Int) = (m.sz.getD (m.s.tgt.getD a 0).toNat []).getD y 0 ∧ allIn ((m.be.getD a []).getD y []) ((m.sz.getD (m.s.src.getD a 0).toNat []).getD y 0) = true
def Prof.BhOk (m : Prof) (b x : Nat) : Prop :=
  (((m.bh.getD b []).getD x []).length : Int) = (m.sz.getD x []).getD (m.t.src.getD b 0).toNat 0 ∧ allIn ((m.bh.getD b []).getD x []) ((m.sz.getD x []).getD (m.t.tgt.getD b 0).toNat 0) = true
structure Prof.Maps (m : Prof) : Prop where
  be : ∀ a, a < m.be.length → ((m.be.getD a []).length : Int) = m.t.obj ∧ ∀ y, y < (m.be.getD a []).length → m.BeOk a y
  bh : ∀ b, b < m.bh.length → ((m.bh.getD b []).length : Int) = m.s.obj ∧ ∀ x, x < (m.bh.getD b []).length → m.BhOk b x
structure Prof.Shape (m : Prof) : Prop where
  s : m.s.Is
  t : m.t.Is
  z : m.Sized
  ok : m.Maps
structure Prof.Acts (m : Prof) : Prop where
  idb : ∀ y : Nat, (y : Int) < m.t.obj → ∀ x : Nat, (x : Int) < m.s.obj → NoMove ((m.be.getD (m.s.idn.getD x 0).toNat []).getD y []) ∧ NoMove ((m.bh.getD (m.t.idn.getD y 0).toNat []).getD x [])
  thb : ∀ y : Nat, (y : Int) < m.t.obj → ∀ a : Nat, a < m.s.src.length → ∀ b : Nat, b < m.s.src.length → 0 ≤ (m.s.comp.getD a []).getD b 0 →
    (m.be.getD ((m.s.comp.getD a []).getD b 0).toNat []).getD y [] = thenL ((m.be.getD b []).getD y []) ((m.be.getD a []).getD y [])
  thh : ∀ x : Nat, (x : Int) < m.s.obj → ∀ a : Nat, a < m.t.src.length → ∀ b : Nat, b < m.t.src.length → 0 ≤ (m.t.comp.getD a []).getD b 0 →
    (m.bh.getD ((m.t.comp.getD a []).getD b 0).toNat []).getD x [] = thenL ((m.bh.getD a []).getD x []) ((m.bh.getD b []).getD x [])
def Prof.MixAt (m : Prof) (a b : Nat) : Prop :=
  thenL ((m.be.getD a []).getD (m.t.src.getD b 0).toNat []) ((m.bh.getD b []).getD (m.s.src.getD a 0).toNat []) = thenL ((m.bh.getD b []).getD (m.s.tgt.getD a 0).toNat []) ((m.be.getD a []).getD (m.t.tgt.getD b 0).toNat [])
def Prof.Mix (m : Prof) : Prop := ∀ a, a < m.s.src.length → ∀ b, b < m.t.src.length → m.MixAt a b
def Prof.Is (m : Prof) : Prop := m.Shape ∧ m.Acts ∧ m.Mix

def sumN (f : Nat → Int) : Nat → Int
  | 0 => 0
  | n + 1 => sumN f n + f n
def Prof.diag (m : Prof) (i : Nat) : Int := (m.sz.getD i []).getD i 0
noncomputable def Prof.code (m : Prof) : Int := bif B m.Is then (bif B (m.s = m.t) then 0 else 5) else 1
noncomputable def Prof.place (m : Prof) (x e : Int) : Int × Int := bif B (m.code = 0) then (bif B (0 ≤ x ∧ x < m.s.obj ∧ 0 ≤ e ∧ e < m.diag x.toNat) then (sumN m.diag x.toNat + e, 0) else (0, 2)) else (0, m.code)
abbrev L3 := List (List (List Int))
def Prof.CoOk (m n : Prof) (c : L3) (x y : Nat) : Prop := (((c.getD x []).getD y []).length : Int) = (m.sz.getD x []).getD y 0 ∧ allIn ((c.getD x []).getD y []) ((n.sz.getD x []).getD y 0) = true
structure Prof.Rows (m n : Prof) (c : L3) : Prop where
  cl : (c.length : Int) = m.s.obj
  row : ∀ x, x < c.length → ((c.getD x []).length : Int) = m.t.obj ∧ ∀ y, y < (c.getD x []).length → m.CoOk n c x y
def Prof.NatB (m n : Prof) (c : L3) (a y : Nat) : Prop :=
  thenL ((m.be.getD a []).getD y []) ((c.getD (m.s.src.getD a 0).toNat []).getD y []) = thenL ((c.getD (m.s.tgt.getD a 0).toNat []).getD y []) ((n.be.getD a []).getD y [])
def Prof.NatH (m n : Prof) (c : L3) (b x : Nat) : Prop :=
  thenL ((m.bh.getD b []).getD x []) ((c.getD x []).getD (m.t.tgt.getD b 0).toNat []) = thenL ((c.getD x []).getD (m.t.src.getD b 0).toNat []) ((n.bh.getD b []).getD x [])
structure Prof.IsMap (m n : Prof) (c : L3) : Prop where
  rows : m.Rows n c
  nb : ∀ a, a < m.s.src.length → ∀ y : Nat, (y : Int) < m.t.obj → m.NatB n c a y
  nh : ∀ b, b < m.t.src.length → ∀ x : Nat, (x : Int) < m.s.obj → m.NatH n c b x
end Go.GL
namespace Go.GL

structure StM (lo hi : Nat) (H H' : GHeap) : Prop where
  nx : H.next ≤ H'.next
  same : ∀ k o, ¬ (lo ≤ k ∧ k < hi) → H.get k = some o → H'.get k = some o
  ins : ∀ k o, H.get k = some o → ∃ o', H'.get k = some o' ∧ (o' = o ∨ ∃ xs ys e, o = .row (ints xs) e true ∧ o' = .row (ints ys) e true ∧ ys.length = xs.length)
def sumL : List (List Int) → Nat
  | [] => 0
  | xs :: r => xs.length + sumL r
theorem sumL_le {m : Nat} : ∀ {xss : List (List Int)}, (∀ i, (xss.getD i []).length ≤ m) → sumL xss ≤ xss.length * m
  | [], _ => by simp [sumL]
  | x :: r, h => by
    have h0 := h 0
    have := sumL_le (xss := r) fun i => by simpa using h (i + 1)
    simp only [sumL, List.length_cons, Nat.add_mul]
    simp at h0
    omega
def Cat.total (c : Cat) : Nat := c.src.length + (c.tgt.length + (c.idn.length + sumL c.comp))
def Fun.total (f : Fun) : Nat := f.s.total + (f.t.total + (f.ob.length + f.ar.length))
def Con.total (c : Con) : Nat := c.lg.length
def seqL (k : Int) (n : Nat) : List Int := (List.range n).map fun (i : Nat) => k + (i : Int)
abbrev Leaf := Option Addr × Nat
def lvBlk : Leaf → List Nat
  | (some a, _ + 1) => [a.block]
  | _ => []
def lvBlks (ls : List Leaf) : List Nat := ls.flatMap lvBlk
def Held (b : Nat) (H : GHeap) : List Leaf → Int → Prop
  | [], _ => True
  | l :: r, k => (l.2 = 0 ∨ ∃ g e, l.1 = some ⟨g, 0, none⟩ ∧ b ≤ g ∧ H.get g = some (.row (ints (seqL k l.2)) e true)) ∧ Held b H r (k + l.2)
structure StB (bs : List Nat) (H H' : GHeap) : Prop where
  nx : H.next ≤ H'.next
  same : ∀ k o, ¬ k ∈ bs → H.get k = some o → H'.get k = some o
def Con.leaves (c : Con) (p : ConP) : List Leaf := [(p.a1, c.lg.length)]
structure Marked (lo hi : Nat) (H H' : GHeap) (ls : List Leaf) (k : Int) : Prop where
  stm : StM lo hi H H'
  stb : StB (lvBlks ls) H H'
  held : (lvBlks ls).Nodup → Held lo H' ls k
def rowsL (r : Nat → Option Addr) (xss : List (List Int)) (n : Nat) : List Leaf := (List.range n).map fun i => (r i, (xss.getD i []).length)
def Cat.leaves (c : Cat) (p : CatP) : List Leaf := [(p.a1, c.src.length)] ++ ([(p.a2, c.tgt.length)] ++ ([(p.a3, c.idn.length)] ++ rowsL p.r c.comp c.comp.length))
def Fun.leaves (f : Fun) (p : FunP) : List Leaf := f.s.leaves p.s ++ (f.t.leaves p.t ++ ([(p.b1, f.ob.length)] ++ [(p.b2, f.ar.length)]))
theorem Cat.total_le {c : Cat} (h : c.Small) : c.total ≤ 3 * 1048576 + 1048576 * 1048576 := by
  obtain ⟨h1, h2, h3, h4, h5, _⟩ := h
  have := sumL_le (m := 1048576) h5
  have h6 : c.comp.length * 1048576 ≤ 1048576 * 1048576 := Nat.mul_le_mul_right _ h4
  unfold Cat.total
  omega
theorem Cat.Small.tot {c : Cat} (h : c.Small) : c.total ≤ 3 * 1048576 + 1048576 * 1048576 := Cat.total_le h
end Go.GL
namespace Go.GL

structure Fun.Cone (d : Fun) (p : Con) : Prop where
  ap : 0 ≤ p.ap ∧ p.ap < d.t.obj
  ll : p.lg.length = d.ob.length
  lg : ∀ j, j < p.lg.length → 0 ≤ p.lg.getD j 0 ∧ p.lg.getD j 0 < d.t.src.length
  ends : ∀ j, j < p.lg.length → d.t.src.getD (p.lg.getD j 0).toNat 0 = p.ap ∧ d.t.tgt.getD (p.lg.getD j 0).toNat 0 = d.ob.getD j 0
  tri : ∀ a, a < d.ar.length → d.t.th (p.lg.getD (d.s.src.getD a 0).toNat 0) (d.ar.getD a 0) = p.lg.getD (d.s.tgt.getD a 0).toNat 0
def Con.zero : Con := ⟨0, []⟩
end Go.GL
namespace Go.GL

def Rising (xs : List Int) : Prop := ∀ i, 1 ≤ i → i < xs.length → xs.getD (i - 1) 0 < xs.getD i 0
structure SFun.Part (f : SFun) (me : List (List Int)) : Prop where
  pl : me.length = f.sz.length
  rs : ∀ x, x < me.length → Rising (me.getD x []) ∧ allIn (me.getD x []) (f.sz.getD x 0) = true
  cl : ∀ a, a < f.ac.length → ∀ i, i < (me.getD (f.sh.src.getD a 0).toNat []).length → (me.getD (f.sh.tgt.getD a 0).toNat []).contains ((f.ac.getD a []).getD ((me.getD (f.sh.src.getD a 0).toNat []).getD i 0).toNat 0) = true
end Go.GL
namespace Go.GL

def SFun.total (f : SFun) : Nat := f.sh.total + (f.sz.length + sumL f.ac)
def SFun.leaves (f : SFun) (p : SFunP) : List Leaf := f.sh.leaves p.sh ++ ([(p.a1, f.sz.length)] ++ rowsL p.r2 f.ac f.ac.length)
def SMap.total (f : SMap) : Nat := f.s.total + (f.t.total + sumL f.pa)
def SMap.leaves (f : SMap) (p : SMapP) : List Leaf := f.s.leaves p.s ++ (f.t.leaves p.t ++ rowsL p.r2 f.pa f.pa.length)
def Prt.total (f : Prt) : Nat := sumL f.me
def Prt.leaves (f : Prt) (p : PrtP) : List Leaf := rowsL p.r0 f.me f.me.length
def slsOf (r : Nat → Option Addr) (X : Nat → List Int) (k : Nat) : List Value := (List.range k).map fun i => .slice (r i) (X i).length (X i).length
structure OwnRows (b : Nat) (H : GHeap) (e : TypeId) (r : Nat → Option Addr) (X : Nat → List Int) (k : Nat) : Prop where
  row : ∀ i, i < k → ∃ g, r i = some ⟨g, 0, none⟩ ∧ b ≤ g ∧ H.get g = some (.row (ints (X i)) e true)
  inj : ∀ i j, i < k → j < k → r i = r j → i = j
def rowsOf (X : Nat → List Int) (n : Nat) : List (List Int) := (List.range n).map X
section
variable {P : Program} {o : Oper} {fr : Slots} {H : GHeap}
end
def SMap.backX (m : SMap) (me : List (List Int)) (x : Nat) : List Int := filtN (m.pa.getD x []).length fun e => (me.getD x []).contains ((m.pa.getD x []).getD e 0)
def SMap.backR (m : SMap) (me : List (List Int)) : List (List Int) := rowsOf (m.backX me) m.pa.length
noncomputable def SMap.back (m : SMap) (me : List (List Int)) : Prt := ⟨bif B (m.Is ∧ m.t.Part me) then m.backR me else []⟩
def SFun.pick (f : SFun) (Y : Nat → Nat → Bool) : Prt := ⟨rowsOf (fun x => filtN (f.sz.getD x 0).toNat (Y x)) f.sz.length⟩
end Go.GL
namespace Go.GL
def slsL (r : Nat → Option Addr) (xss : List (List Int)) : List Value := slsOf r (fun i => xss.getD i []) xss.length
def OwnL (b : Nat) (H : GHeap) (e : TypeId) (r : Nat → Option Addr) (xss : List (List Int)) : Prop := OwnRows b H e r (fun i => xss.getD i []) xss.length
def nestL {α : Type} (pr : Nat → Nat → α) (sz : Nat → Nat) (k t : Nat) : List α := (List.range k).flatMap (fun a => (List.range (sz a)).map (pr a)) ++ (List.range t).map (pr k)
theorem nestL_zero {α : Type} (pr : Nat → Nat → α) (sz : Nat → Nat) : nestL pr sz 0 0 = [] := rfl
theorem nestL_snoc {α : Type} {pr : Nat → Nat → α} {sz : Nat → Nat} {k t : Nat} : nestL pr sz k (t + 1) = nestL pr sz k t ++ [pr k t] := by
  unfold nestL
  rw [List.range_succ, List.map_append, ← List.append_assoc]
  rfl
theorem nestL_next {α : Type} {pr : Nat → Nat → α} {sz : Nat → Nat} {k : Nat} : nestL pr sz (k + 1) 0 = nestL pr sz k (sz k) := by
  unfold nestL
  rw [List.range_succ, List.flatMap_append]
  simp
theorem nestL_length {α : Type} {pr : Nat → Nat → α} {sz : Nat → Nat} {c : Nat} : ∀ {k}, (∀ a, a < k → sz a ≤ c) → (nestL pr sz k 0).length ≤ k * c
  | 0, _ => by simp [nestL]
  | k + 1, h => by
    have ih := nestL_length (pr := pr) (sz := sz) (c := c) (k := k) fun a ha => h a (by omega)
    have := h k (by omega)
    rw [nestL_next]
    simp only [nestL, List.length_append, List.length_map, List.length_range, List.range_zero, List.map_nil, List.append_nil] at ih ⊢
    rw [Nat.add_mul]
    omega
def nest3 {α : Type} (pr : Nat → Nat → Nat → α) (s1 : Nat → Nat) (s2 : Nat → Nat → Nat) (k t u : Nat) : List α := (List.range k).flatMap (fun a => nestL (pr a) (s2 a) (s1 a) 0) ++ nestL (pr k) (s2 k) t u
theorem nest3_snoc {α : Type} {pr : Nat → Nat → Nat → α} {s1 : Nat → Nat} {s2 : Nat → Nat → Nat} {k t u : Nat} : nest3 pr s1 s2 k t (u + 1) = nest3 pr s1 s2 k t u ++ [pr k t u] := by
  unfold nest3
  rw [nestL_snoc, List.append_assoc]
theorem nest3_next2 {α : Type} {pr : Nat → Nat → Nat → α} {s1 : Nat → Nat} {s2 : Nat → Nat → Nat} {k t : Nat} : nest3 pr s1 s2 k (t + 1) 0 = nest3 pr s1 s2 k t (s2 k t) := by
  unfold nest3
  rw [nestL_next]
theorem nest3_next1 {α : Type} {pr : Nat → Nat → Nat → α} {s1 : Nat → Nat} {s2 : Nat → Nat → Nat} {k : Nat} : nest3 pr s1 s2 (k + 1) 0 0 = nest3 pr s1 s2 k (s1 k) 0 := by
  unfold nest3
  rw [List.range_succ, List.flatMap_append]
  simp [nestL_zero]
theorem flatMap_len {α : Type} {f : Nat → List α} {c : Nat} : ∀ {k}, (∀ a, a < k → (f a).length ≤ c) → ((List.range k).flatMap f).length ≤ k * c
  | 0, _ => by simp
  | k + 1, h => by
    have ih := flatMap_len (f := f) (c := c) (k := k) fun a ha => h a (by omega)
    have := h k (by omega)
    rw [List.range_succ, List.flatMap_append, List.length_append, Nat.add_mul]
    simp only [List.flatMap_cons, List.flatMap_nil, List.append_nil]
    omega
theorem nest3_all {α : Type} {pr : Nat → Nat → Nat → α} {s1 : Nat → Nat} {s2 : Nat → Nat → Nat} {c d n : Nat} (h1 : ∀ a, a < n → s1 a ≤ d) (h2 : ∀ a, a < n → ∀ b, b < s1 a → s2 a b ≤ c) : (nest3 pr s1 s2 n 0 0).length ≤ n * (d * c) := by
  unfold nest3
  rw [nestL_zero, List.append_nil]
  exact flatMap_len fun a ha => by
    have r1 := nestL_length (pr := pr a) (sz := s2 a) (c := c) (k := s1 a) fun b hb => h2 a ha b hb
    exact Nat.le_trans r1 (Nat.mul_le_mul_right _ (h1 a ha))
def Cat.zero : Cat := ⟨0, [], [], [], []⟩
def CatP.zero : CatP := ⟨none, none, none, none, fun _ => none⟩
end Go.GL
namespace Go.GL
end Go.GL
namespace Go.GL
def ctPr (y e d : Nat) : List Int := [(y : Int), (e : Int), (d : Int)]
def ctL (p q : Prof) (x z : Int) (y e d : Nat) : List (List Int) := nest3 ctPr (fun y => ((p.sz.getD x.toNat []).getD y 0).toNat) (fun y _ => ((q.sz.getD y []).getD z.toNat 0).toNat) y e d
structure CtOk (p q : Prof) (x z : Int) (n : Nat) : Prop where
  n8 : n ≤ 8
  x0 : 0 ≤ x
  xl : x.toNat < p.sz.length
  z0 : 0 ≤ z
  pn : ((p.sz.getD x.toNat []).length : Int) = n
  qn : (q.sz.length : Int) = n
  pe : ∀ y, y < n → 0 ≤ (p.sz.getD x.toNat []).getD y 0 ∧ (p.sz.getD x.toNat []).getD y 0 ≤ 64
  qe : ∀ y, y < n → z.toNat < (q.sz.getD y []).length ∧ 0 ≤ (q.sz.getD y []).getD z.toNat 0 ∧ (q.sz.getD y []).getD z.toNat 0 ≤ 64
def tcells (xss : List (List Int)) : List Value := xss.flatMap ints
structure TrAt (b : Nat) (H : GHeap) (g : Nat) (xss : List (List Int)) : Prop where
  lo : b ≤ g
  three : ∀ x ∈ xss, x.length = 3
  at' : ∃ e, H.get g = some (.row (tcells xss) e true)
end Go.GL
namespace Go.GL
open Go.RowKit
section
variable {P : Program} {B : Nat} {w0 : World} {ρ : Place} {H : GHeap} {w : World} {fr : Slots} {o : Oper} {R : Option Value → GHeap → Prop}
end
end Go.GL
namespace Go.GL
def least (K : Nat → Nat → Bool) (i : Nat) : Nat := ((List.range i).find? fun j => K j i).getD i
def reps (K : Nat → Nat → Bool) (m : Nat) : Nat := ((List.range m).filter fun j => least K j == j).length
def clsAt (K : Nat → Nat → Bool) (i : Nat) : Int := (reps K (least K i) : Int)
def clsL (K : Nat → Nat → Bool) (n : Nat) : List Int := (List.range n).map (clsAt K)
structure Eqv (K : Nat → Nat → Bool) (n : Nat) : Prop where
  rf : ∀ a, a < n → K a a = true
  sy : ∀ a b, a < n → b < n → K a b = true → K b a = true
  tr : ∀ a b c, a < n → b < n → c < n → K a b = true → K b c = true → K a c = true
def kerB (xs : List Int) (a b : Nat) : Bool := xs.getD a 0 == xs.getD b 0
structure Forest (j : List Int) : Prop where
  up : ∀ x, x < j.length → 0 ≤ j.getD x 0 ∧ j.getD x 0 ≤ (x : Int)
end Go.GL
namespace Go.GL
def u8s (ns : List Int) : List Value := ns.map (Value.int .u8)
theorem u8_cells {H : GHeap} {g : Nat} {ns : List Int} {e : TypeId} {own : Bool} (h : H.get g = some (.row (u8s ns) e own)) : ∀ i v, ns[i]? = some v → H.cell g (0 + i) = some (.int .u8 v) := fun i v hv => by
  rw [GHeap.cell_of h, Nat.zero_add]
  unfold u8s
  rw [List.getElem?_map, hv]; rfl
theorem bytesOf_data (ns : List Int) : (bytesOf ns).data.toList = ns.map fun n => UInt8.ofNat n.toNat := by
  have key : ∀ (ns : List Int) (s : ByteArray), (ns.foldl (fun r n => r.push (UInt8.ofNat n.toNat)) s).data.toList = s.data.toList ++ ns.map fun n => UInt8.ofNat n.toNat := by
    intro ns
    induction ns with
    | nil => intro s; simp
    | cons n ns ih => intro s; rw [List.foldl_cons, ih]; simp [ByteArray.push]
  unfold bytesOf
  rw [key]; simp
def idxLL (xss : List (List Int)) (t : List Int) : Int := match firstN xss.length fun i => xss.getD i [] == t with | some i => (i : Int) | none => -1
structure Keys (n : Nat) (xss : List (List Int)) : Prop where
  nd : xss.Nodup
  ok : ∀ t ∈ xss, t.length = n ∧ ∀ i, i < n → 0 ≤ t.getD i 0 ∧ t.getD i 0 ≤ 255
end Go.GL
namespace Go.GL
abbrev rep (xs : List Int) (k : Nat) : Nat := least (kerB xs) k
abbrev Cat.tn (c : Cat) (a b : Nat) : Nat := ((c.comp.getD a []).getD b 0).toNat
def Cat.ParOk (c : Cat) (xs : List Int) : Prop := ∀ k, k < c.src.length → c.src.getD (rep xs k) 0 = c.src.getD k 0 ∧ c.tgt.getD (rep xs k) 0 = c.tgt.getD k 0
def Cat.CmpOk (c : Cat) (xs : List Int) : Prop := ∀ i, i < c.src.length → ∀ j, j < c.src.length → c.tgt.getD i 0 = c.src.getD j 0 → xs.getD (c.tn i j) 0 = xs.getD (c.tn (rep xs i) (rep xs j)) 0
structure Cat.Cong (c : Cat) (xs : List Int) : Prop where
  len : xs.length = c.src.length
  nor : clsL (kerB xs) xs.length = xs
  par : c.ParOk xs
  cmp : c.CmpOk xs

end Go.GL
namespace Go.GL
def repL (xs : List Int) (n : Nat) : List Nat := (List.range n).filter fun i => rep xs i == i
def Cat.quoX (c : Cat) (xs : List Int) (i j : Nat) : Int := if 0 ≤ (c.comp.getD i []).getD j 0 then xs.getD ((c.comp.getD i []).getD j 0).toNat 0 else (c.comp.getD i []).getD j 0
def Cat.quo (c : Cat) (xs : List Int) : Cat where
  obj := c.obj
  src := (repL xs xs.length).map fun i => c.src.getD i 0
  tgt := (repL xs xs.length).map fun i => c.tgt.getD i 0
  idn := c.idn.map fun a => xs.getD a.toNat 0
  comp := (repL xs xs.length).map fun i => (repL xs xs.length).map fun j => c.quoX xs i j

end Go.GL
namespace Go.GL
end Go.GL
namespace Go.GL
end Go.GL
namespace Go.GL
def tabB (n : Nat) (p : Nat → Bool) : List Bool := (List.range n).map p
def slsN (r : Nat → Nat) (L : Nat → Nat) (k : Nat) : List Value := (List.range k).map fun i => .slice (some ⟨r i, 0, none⟩) (L i) (L i)
structure OwnB (b : Nat) (H : GHeap) (e : TypeId) (r : Nat → Nat) (L : Nat → Nat) (M : Nat → Nat → Bool) (k : Nat) : Prop where
  row : ∀ i, i < k → b ≤ r i ∧ H.get (r i) = some (.row (bools (tabB (L i) (M i))) e true)
  inj : ∀ i j, i < k → j < k → r i = r j → i = j
structure BMat (b : Nat) (H : GHeap) (g : Nat) (e1 e2 : TypeId) (r : Nat → Nat) (L : Nat → Nat) (M : Nat → Nat → Bool) (n : Nat) : Prop where
  hd : H.get g = some (.row (slsN r L n) e1 true)
  gb : b ≤ g
  own : OwnB b H e2 r L M n
end Go.GL
namespace Go.GL
structure Cat.Closed (c : Cat) (xs : List Int) : Prop where
  filt : ∃ P, xs = filtN c.src.length P
  id : ∀ f ∈ xs, c.idn.getD (c.src.getD f.toNat 0).toNat 0 ∈ xs ∧ c.idn.getD (c.tgt.getD f.toNat 0).toNat 0 ∈ xs
  th : ∀ f ∈ xs, ∀ g ∈ xs, 0 ≤ c.th f g → c.th f g ∈ xs
end Go.GL
namespace Go.GL
open Go.RowKit
structure PL (g g0 n : Nat) : Prop where
  or : g = g0 ∨ n ≤ g
structure NO (H : GHeap) (g : Nat) (cs : List Value) (e : TypeId) (k : Nat) : Prop where
  lt : g < H.next
  or : (k = 0 ∧ cs = []) ∨ (0 < k ∧ H.get g = some (.row cs e true))
section
variable {P : Program} {o : Oper} {fr : Slots} {H : GHeap}
end
end Go.GL
namespace Go.GL
end Go.GL
namespace Go.GL
structure LcOk (k : Fun) (f : SFun) : Prop where
  hk : k.Is
  hf : f.Is
  he : f.sh = k.s
structure LcA (k : Fun) (f : SFun) (y : Int) (a : Nat) : Prop where
  s0 : 0 ≤ k.s.src.getD a 0
  s1 : k.s.src.getD a 0 < k.ob.length
  t0 : 0 ≤ k.s.tgt.getD a 0
  t1 : k.s.tgt.getD a 0 < k.ob.length
  al : ((f.ac.getD a []).length : Int) = f.sz.getD (k.s.src.getD a 0).toNat 0
  zs : f.sz.getD (k.s.src.getD a 0).toNat 0 ≤ 16
  ac : ∀ e, e < (f.ac.getD a []).length → 0 ≤ (f.ac.getD a []).getD e 0 ∧ (f.ac.getD a []).getD e 0 < f.sz.getD (k.s.tgt.getD a 0).toNat 0
  r0 : 0 ≤ k.ar.getD a 0
  r1 : k.ar.getD a 0 < k.t.src.length
  th : ∀ h, h ∈ k.t.hom (k.ob.getD (k.s.tgt.getD a 0).toNat 0) y → (0 ≤ h ∧ h < k.t.src.length) ∧ k.t.th (k.ar.getD a 0) h ∈ k.t.hom (k.ob.getD (k.s.src.getD a 0).toNat 0) y
end Go.GL
namespace Go.GL
def ccF (m k : Prof) (x z : Int) (y : Nat) : Int := (m.sz.getD x.toNat []).getD y 0 * (k.sz.getD y []).getD z.toNat 0
def ccSt (m k : Prof) (x z : Int) (n : Nat) : List Int := (List.range n).map (sumN (ccF m k x z))
def ccL (m k : Prof) (x z : Int) : List (List Int) := ctL m k x z m.t.obj.toNat 0 0
def ccT (m : Prof) (x : Int) (b e d : Nat) : List Int := [m.t.tgt.getD b 0, ((m.bh.getD b []).getD x.toNat []).getD e 0, (d : Int)]
def ccU (m k : Prof) (z : Int) (b e d : Nat) : List Int := [m.t.src.getD b 0, (e : Int), ((k.be.getD b []).getD z.toNat []).getD d 0]
def ccRow (m k : Prof) (x z : Int) (b e d : Nat) : List Int := [idxLL (ccL m k x z) (ccT m x b e d), idxLL (ccL m k x z) (ccU m k z b e d)]
structure CcOk (m k : Prof) (x z : Int) : Prop where
  hm : m.Is
  hk : k.Is
  x0 : 0 ≤ x
  x1 : x < m.s.obj
  z0 : 0 ≤ z
  z1 : z < k.t.obj
  he : m.t = k.s
structure CcA (m k : Prof) (x z : Int) (b : Nat) : Prop where
  s0 : 0 ≤ m.t.src.getD b 0
  s1 : m.t.src.getD b 0 < m.t.obj
  t0 : 0 ≤ m.t.tgt.getD b 0
  t1 : m.t.tgt.getD b 0 < m.t.obj
  b1 : x.toNat < (m.bh.getD b []).length
  b2 : (((m.bh.getD b []).getD x.toNat []).length : Int) = (m.sz.getD x.toNat []).getD (m.t.src.getD b 0).toNat 0
  b3 : ∀ e, e < ((m.bh.getD b []).getD x.toNat []).length → 0 ≤ ((m.bh.getD b []).getD x.toNat []).getD e 0 ∧ ((m.bh.getD b []).getD x.toNat []).getD e 0 < (m.sz.getD x.toNat []).getD (m.t.tgt.getD b 0).toNat 0
  k1 : z.toNat < (k.be.getD b []).length
  k2 : (((k.be.getD b []).getD z.toNat []).length : Int) = (k.sz.getD (m.t.tgt.getD b 0).toNat []).getD z.toNat 0
  k3 : ∀ d, d < ((k.be.getD b []).getD z.toNat []).length → 0 ≤ ((k.be.getD b []).getD z.toNat []).getD d 0 ∧ ((k.be.getD b []).getD z.toNat []).getD d 0 < (k.sz.getD (m.t.src.getD b 0).toNat []).getD z.toNat 0
  z1 : 0 ≤ (m.sz.getD x.toNat []).getD (m.t.src.getD b 0).toNat 0 ∧ (m.sz.getD x.toNat []).getD (m.t.src.getD b 0).toNat 0 ≤ 64
  z2 : 0 ≤ (k.sz.getD (m.t.tgt.getD b 0).toNat []).getD z.toNat 0 ∧ (k.sz.getD (m.t.tgt.getD b 0).toNat []).getD z.toNat 0 ≤ 64
structure CcP (m k : Prof) (x z : Int) (b e d : Nat) : Prop where
  mT : ccT m x b e d ∈ ccL m k x z
  mU : ccU m k z b e d ∈ ccL m k x z
  iT : idxLL (ccL m k x z) (ccT m x b e d) = (ccSt m k x z m.t.obj.toNat).getD (m.t.tgt.getD b 0).toNat 0 + ((m.bh.getD b []).getD x.toNat []).getD e 0 * (k.sz.getD (m.t.tgt.getD b 0).toNat []).getD z.toNat 0 + (d : Int)
  iU : idxLL (ccL m k x z) (ccU m k z b e d) = (ccSt m k x z m.t.obj.toNat).getD (m.t.src.getD b 0).toNat 0 + (e : Int) * (k.sz.getD (m.t.src.getD b 0).toNat []).getD z.toNat 0 + ((k.be.getD b []).getD z.toNat []).getD d 0
  lT : idxLL (ccL m k x z) (ccT m x b e d) < (ccL m k x z).length
  lU : idxLL (ccL m k x z) (ccU m k z b e d) < (ccL m k x z).length
  t0 : 0 ≤ (ccSt m k x z m.t.obj.toNat).getD (m.t.tgt.getD b 0).toNat 0
  t1 : 0 ≤ ((m.bh.getD b []).getD x.toNat []).getD e 0 * (k.sz.getD (m.t.tgt.getD b 0).toNat []).getD z.toNat 0
  u0 : 0 ≤ (ccSt m k x z m.t.obj.toNat).getD (m.t.src.getD b 0).toNat 0
  u1 : 0 ≤ (e : Int) * (k.sz.getD (m.t.src.getD b 0).toNat []).getD z.toNat 0
structure CcV (m k : Prof) (x z : Int) (b e d : Nat) : Prop where
  row : ccRow m k x z b e d = [(ccSt m k x z m.t.obj.toNat).getD (m.t.tgt.getD b 0).toNat 0 + ((m.bh.getD b []).getD x.toNat []).getD e 0 * (k.sz.getD (m.t.tgt.getD b 0).toNat []).getD z.toNat 0 + (d : Int), (ccSt m k x z m.t.obj.toNat).getD (m.t.src.getD b 0).toNat 0 + (e : Int) * (k.sz.getD (m.t.src.getD b 0).toNat []).getD z.toNat 0 + ((k.be.getD b []).getD z.toNat []).getD d 0]
  lT : (ccSt m k x z m.t.obj.toNat).getD (m.t.tgt.getD b 0).toNat 0 + ((m.bh.getD b []).getD x.toNat []).getD e 0 * (k.sz.getD (m.t.tgt.getD b 0).toNat []).getD z.toNat 0 + (d : Int) < (ccL m k x z).length
  lU : (ccSt m k x z m.t.obj.toNat).getD (m.t.src.getD b 0).toNat 0 + (e : Int) * (k.sz.getD (m.t.src.getD b 0).toNat []).getD z.toNat 0 + ((k.be.getD b []).getD z.toNat []).getD d 0 < (ccL m k x z).length
end Go.GL
namespace Go.GL
def searchL (cand : Nat → List Int) (ok : Nat → List Int → Bool) : Nat → List Int → List (List Int)
  | 0, p => [p]
  | r + 1, p => (cand p.length).flatMap fun h => bif ok p.length (p ++ [h]) then searchL cand ok r (p ++ [h]) else []
structure Net where
  cand : Nat → List Int
  A : Nat
  sr : Nat → Nat
  tg : Nat → Nat
  sq : Nat → Int → Int → Bool
namespace Net
def ok (n : Net) (j : Nat) (q : List Int) : Bool := allN n.A fun a => !(max (n.sr a) (n.tg a) == j) || n.sq a (q.getD (n.sr a) 0) (q.getD (n.tg a) 0)
def fits (n : Net) (q : List Int) (x : Nat) : Bool := allN n.A fun a => (n.sr a != x && n.tg a != x) || decide (q.getD (n.sr a) 0 < 0) || decide (q.getD (n.tg a) 0 < 0) || n.sq a (q.getD (n.sr a) 0) (q.getD (n.tg a) 0)
def choices (n : Net) (c : List Int) (x : Nat) : List Int := (n.cand x).filter fun h => n.fits (c.set x h) x
def sols (n : Net) (N : Nat) : List (List Int) := searchL n.cand n.ok N []
end Net
def firstU (c : List Int) : Option Nat := firstN c.length fun i => c.getD i 0 == -1
def cntU (c : List Int) : Nat := ((List.range c.length).filter fun i => c.getD i 0 == -1).length
def Net.stuck (n : Net) (c : List Int) : Bool := (List.range c.length).any fun y => c.getD y 0 == -1 && (n.choices c y).isEmpty
def Net.goF (n : Net) : Nat → List Int → List (List Int)
  | 0, c => [c]
  | f + 1, c => match firstU c with
    | none => [c]
    | some x => bif n.stuck c then [] else (n.choices c x).flatMap fun h => n.goF f (c.set x h)
def Net.go (n : Net) (c : List Int) : List (List Int) := n.goF (cntU c) c
structure Net.Good (n : Net) (N : Nat) : Prop where
  pos : ∀ x, ∀ h ∈ n.cand x, 0 ≤ h
  sr : ∀ a, a < n.A → n.sr a < N
  tg : ∀ a, a < n.A → n.tg a < N
end Go.GL
namespace Go.GL
section
variable {P : Program} {N : Nat} {ops : Array Oper} {Q : Slots → GHeap → Prop} {L : List (Oper × Nat)} {fr : Slots} {H Hb : GHeap} {o : Oper} {i : Nat} {t : Tree}
end
end Go.GL
namespace Go.GL
end Go.GL
namespace Go.GL
structure Fun.Par (f g : Fun) : Prop where
  fi : f.Is
  gi : g.Is
  ps : f.s = g.s
  pt : f.t = g.t
def Fun.net (f g : Fun) (iso : Bool) : Net where
  cand x := (f.t.hom (f.ob.getD x 0) (g.ob.getD x 0)).filter fun h => !iso || decide (0 ≤ f.t.inv h)
  A := f.ar.length
  sr a := (f.s.src.getD a 0).toNat
  tg a := (f.s.tgt.getD a 0).toNat
  sq a u v := decide (f.t.th (f.ar.getD a 0) v = f.t.th u (g.ar.getD a 0))
def stCells (f : Fun) (p : FunP) (g : Fun) (q : FunP) (iso : Bool) (most : Int) (a : Option Addr) (n : Nat) : List Value := f.cells p ++ (g.cells q ++ [.bool iso, .int .i64 most, .slice a n n])
end Go.GL
namespace Go.GL
def SlO (b : Nat) (H : GHeap) (a : Option Addr) (g : Nat) (cs : List Value) (e : TypeId) (k : Nat) : Prop := (a = none ∧ k = 0 ∧ cs = []) ∨ (a = some ⟨g, 0, none⟩ ∧ b ≤ g ∧ H.get g = some (.row cs e true))
section
variable {P : Program} {o : Oper} {fr : Slots} {H : GHeap}
end
structure FoundAt (T e e' : TypeId) (b : Nat) (H : GHeap) (gs gF : Nat) (f : Fun) (p : FunP) (k : Fun) (q : FunP) (iso : Bool) (M : Nat) (fs : List (List Int)) : Prop where
  ex : ∃ a r, H.get gs = some (.row (stCells f p k q iso (M : Int) a fs.length) T true) ∧ SlO b H a gF (slsL r fs) e fs.length ∧ OwnL b H e' r fs
structure SeenU (n : Net) (co : List Int) (y : Nat) (x : Int) : Prop where
  fst : (x = -1 ∧ ∀ j, y ≤ j → j < co.length → ¬ co.getD j 0 = -1) ∨ (∃ m : Nat, x = m ∧ y ≤ m ∧ m < co.length ∧ co.getD m 0 = -1 ∧ ∀ j, y ≤ j → j < m → ¬ co.getD j 0 = -1)
  cho : ∀ j, y ≤ j → j < co.length → co.getD j 0 = -1 → n.choices co j ≠ []
end Go.GL
namespace Go.GL
structure Hears (P : Program) (fn : Nat) (cap : Array Value) (e0 g1 most : Nat) (T : TypeId) (A : Nat → List (List Int) → Nat → GHeap → Prop) : Prop where
  code : ∀ (xs : Array Value) (w : World), (callFunc fn xs).run P w = .ok (.enter fn xs) w
  le : ∀ {b : Nat} {fs : List (List Int)} {gF : Nat} {H H' : GHeap}, A b fs gF H → H.Le H' → A b fs gF H'
  st : ∀ {b : Nat} {fs : List (List Int)} {gF gc : Nat} {H H' : GHeap}, A b fs gF H → e0 ≤ gc → gc < b → gc ≠ gF → St [gc] H H' → A b fs gF H'
  run : ∀ {b : Nat} {fs : List (List Int)} {gF gc : Nat} {q : List Int} {H : GHeap}, A b fs gF H → e0 ≤ gc → gc < b → gc ≠ gF → b ≤ H.next → H.get gc = some (.row (ints q) T true) → fs.length ≤ most → q.length ≤ 8 → gF < H.next →
    GCalls P fn ([.slice (some ⟨gc, 0, none⟩) q.length q.length] ++ cap.toList) H (fun v H' => v = .bool (decide (fs.length + 1 ≤ most)) ∧ ∃ gF', (gF' = gF ∨ H.next ≤ gF') ∧ gF' < H'.next ∧ St [g1, gF] H H' ∧ A b (fs ++ [q]) gF' H')
end Go.GL
namespace Go.GL
structure GathL (T1 T2 e : TypeId) (go gm most : Nat) (Tm : TypeId) (b : Nat) (fs : List (List Int)) (gF : Nat) (H : GHeap) : Prop where
  hd : H.get go = some (.row [.slice (some ⟨gF, 0, none⟩) fs.length fs.length] T1 true)
  most : H.get gm = some (.row [.int .i64 (most : Int)] Tm true)
  rows : ∃ r, H.get gF = some (.row (slsL r fs) T2 true) ∧ OwnL b H e r fs
noncomputable def Fun.atR (f k : Fun) : List (List Int) := bif B (f.Is ∧ k.Is) then (bif B (f.s = k.s ∧ f.t = k.t) then (bif decide (((f.net k false).sols f.ob.length).length ≤ 200) then (f.net k false).sols f.ob.length else []) else []) else []
structure GathI (T e : TypeId) (go : Nat) (b : Nat) (fs : List (List Int)) (gF : Nat) (H : GHeap) : Prop where
  ex : ∃ x, (fs = [] ∧ x = [] ∨ fs = [x]) ∧ H.get go = some (.row [.slice (some ⟨gF, 0, none⟩) x.length x.length] T true) ∧ H.get gF = some (.row (ints x) e true)
end Go.GL
namespace Go.GL
theorem nest3_pre3 {α : Type} {pr : Nat → Nat → Nat → α} {s1 : Nat → Nat} {s2 : Nat → Nat → Nat} {k t u : Nat} : ∀ j, nest3 pr s1 s2 k t u <+: nest3 pr s1 s2 k t (u + j)
  | 0 => List.prefix_refl _
  | j + 1 => by rw [← Nat.add_assoc, nest3_snoc]; exact (nest3_pre3 j).trans (List.prefix_append _ _)
theorem nest3_pre2 {α : Type} {pr : Nat → Nat → Nat → α} {s1 : Nat → Nat} {s2 : Nat → Nat → Nat} {k t : Nat} : ∀ j, nest3 pr s1 s2 k t 0 <+: nest3 pr s1 s2 k (t + j) 0
  | 0 => List.prefix_refl _
  | j + 1 => by
    rw [← Nat.add_assoc, nest3_next2]
    have := nest3_pre3 (pr := pr) (s1 := s1) (s2 := s2) (k := k) (t := t + j) (u := 0) (s2 k (t + j))
    rw [Nat.zero_add] at this
    exact (nest3_pre2 j).trans this
theorem nest3_pre1 {α : Type} {pr : Nat → Nat → Nat → α} {s1 : Nat → Nat} {s2 : Nat → Nat → Nat} {k : Nat} : ∀ j, nest3 pr s1 s2 k 0 0 <+: nest3 pr s1 s2 (k + j) 0 0
  | 0 => List.prefix_refl _
  | j + 1 => by
    rw [← Nat.add_assoc, nest3_next1]
    have := nest3_pre2 (pr := pr) (s1 := s1) (s2 := s2) (k := k + j) (t := 0) (s1 (k + j))
    rw [Nat.zero_add] at this
    exact (nest3_pre1 j).trans this
theorem nest3_preR {α : Type} {pr : Nat → Nat → Nat → α} {s1 : Nat → Nat} {s2 : Nat → Nat → Nat} {n k t : Nat} (hk : k < n) (ht : t ≤ s1 k) : nest3 pr s1 s2 k t 0 <+: nest3 pr s1 s2 n 0 0 := by
  have h2 := nest3_pre2 (pr := pr) (s1 := s1) (s2 := s2) (k := k) (t := t) (s1 k - t)
  rw [show t + (s1 k - t) = s1 k by omega, ← nest3_next1] at h2
  have h3 := nest3_pre1 (pr := pr) (s1 := s1) (s2 := s2) (k := k + 1) (n - (k + 1))
  rw [show k + 1 + (n - (k + 1)) = n by omega] at h3
  exact h2.trans h3
structure OwnCat (eI eS : TypeId) (b : Nat) (H : GHeap) (c : Cat) (g1 g2 g3 g4 : Nat) (rr : Nat → Option Addr) : Prop where
  a1 : H.get g1 = some (.row (ints c.src) eI true)
  a2 : H.get g2 = some (.row (ints c.tgt) eI true)
  a3 : H.get g3 = some (.row (ints c.idn) eI true)
  a4 : H.get g4 = some (.row (slsL rr c.comp) eS true)
  b1 : b ≤ g1
  b2 : b ≤ g2
  b3 : b ≤ g3
  b4 : b ≤ g4
  n12 : g1 ≠ g2
  n13 : g1 ≠ g3
  n23 : g2 ≠ g3
  rows : OwnL b H eI rr c.comp
  r1 : ∀ i, i < c.comp.length → rr i ≠ some ⟨g1, 0, none⟩
  r2 : ∀ i, i < c.comp.length → rr i ≠ some ⟨g2, 0, none⟩
  r3 : ∀ i, i < c.comp.length → rr i ≠ some ⟨g3, 0, none⟩
structure Cat.Rect (c : Cat) (N : Nat) : Prop where
  obj : 0 ≤ c.obj ∧ c.obj ≤ N
  n : c.src.length ≤ N
  tl : c.tgt.length = c.src.length
  src : ∀ i, i < c.src.length → 0 ≤ c.src.getD i 0 ∧ c.src.getD i 0 ≤ N
  tgt : ∀ i, i < c.tgt.length → 0 ≤ c.tgt.getD i 0 ∧ c.tgt.getD i 0 ≤ N
  il : (c.idn.length : Int) = c.obj
  idn : ∀ i, i < c.idn.length → 0 ≤ c.idn.getD i 0 ∧ c.idn.getD i 0 ≤ N
  cl : c.comp.length = c.src.length
  row : ∀ f, f < c.comp.length → (c.comp.getD f []).length = c.src.length
  cell : ∀ f, f < c.comp.length → ∀ g, g < c.src.length → -(N : Int) - 1 ≤ (c.comp.getD f []).getD g 0 ∧ (c.comp.getD f []).getD g 0 ≤ N
def sumRow (n : Nat) (row : List Int) : List Int := List.replicate n (-1) ++ row.map fun h => if 0 ≤ h then h + (n : Int) else h
def Cat.sumL (c d : Cat) : List (List Int) := c.comp.map (· ++ List.replicate d.src.length (-1))
def Cat.sum (c d : Cat) : Cat where
  obj := c.obj + d.obj
  src := c.src ++ d.src.map (· + c.obj)
  tgt := c.tgt ++ d.tgt.map (· + c.obj)
  idn := c.idn ++ d.idn.map (· + (c.src.length : Int))
  comp := c.sumL d ++ d.comp.map (sumRow c.src.length)
def extL (xss : List (List Int)) (k f j : Nat) : List (List Int) := (List.range xss.length).map fun i => xss.getD i [] ++ List.replicate (if i < f then k else if i = f then j else 0) (-1)
structure SumSt (eI eS eT : TypeId) (H0 H : GHeap) (c d : Cat) (q : CatP) (gd gR gS gF gT gI gC : Nat) (zs : List Value) (rr : Nat → Option Addr) (f j : Nat) : Prop where
  hle : H0.Le H
  gc : H0.next ≤ gC
  ad : H.get gd = some (.row (d.cells q) eT true)
  aR : H.get gR = some (.row zs eT true)
  aS : H.get gS = some (.row [.int .i64 (c.obj + d.obj), .slice (some ⟨gF, 0, none⟩) c.src.length c.src.length, .slice (some ⟨gT, 0, none⟩) c.tgt.length c.tgt.length, .slice (some ⟨gI, 0, none⟩) (c.idn.length + d.obj.toNat) (c.idn.length + d.obj.toNat), .slice (some ⟨gC, 0, none⟩) c.comp.length c.comp.length] eT true)
  aF : H.get gF = some (.row (ints c.src) eI true)
  aT : H.get gT = some (.row (ints c.tgt) eI true)
  aI : H.get gI = some (.row (ints (c.sum d).idn) eI true)
  aC : H.get gC = some (.row (slsL rr (extL c.comp d.src.length f j)) eS true)
  rows : OwnL H0.next H eI rr (extL c.comp d.src.length f j)
  r1 : ∀ i, i < c.comp.length → rr i ≠ some ⟨gF, 0, none⟩
  r2 : ∀ i, i < c.comp.length → rr i ≠ some ⟨gT, 0, none⟩
  r3 : ∀ i, i < c.comp.length → rr i ≠ some ⟨gI, 0, none⟩
def colPr (x y e : Nat) : List Int := [(x : Int), (y : Int), (e : Int)]
def Prof.colS2 (m : Prof) (x y : Nat) : Nat := ((m.sz.getD x []).getD y 0).toNat
def Prof.colP (m : Prof) (x y e : Nat) : List (List Int) := nest3 colPr (fun _ => m.t.obj.toNat) m.colS2 x y e
def Prof.colL (m : Prof) : List (List Int) := m.colP m.s.obj.toNat 0 0
def Prof.colA (m : Prof) (x y : Nat) : Int := (m.colP x y 0).length
theorem Prof.Sized.at {m : Prof} (z : m.Sized) {x y : Nat} (hx : (x : Int) < m.s.obj) (hy : (y : Int) < m.t.obj) : x < m.sz.length ∧ y < (m.sz.getD x []).length ∧ 0 ≤ (m.sz.getD x []).getD y 0 ∧ (m.sz.getD x []).getD y 0 ≤ 64 := by
  have h1 := z.sl
  have h2 := z.row x (by omega)
  exact ⟨by omega, by omega, z.rng x (by omega) y (by omega)⟩
structure Prof.Cok (m : Prof) : Prop where
  z : m.Sized
  s0 : 0 ≤ m.s.obj
  s8 : m.s.obj ≤ 8
  t0 : 0 ≤ m.t.obj
  t8 : m.t.obj ≤ 8
theorem Prof.Cok.s2 {m : Prof} (h : m.Cok) {x y : Nat} (hx : (x : Int) < m.s.obj) (hy : (y : Int) < m.t.obj) : (m.colS2 x y : Int) = (m.sz.getD x []).getD y 0 ∧ m.colS2 x y ≤ 64 := by
  have := h.z.at hx hy
  unfold Prof.colS2
  omega
theorem Prof.Cok.all {m : Prof} (h : m.Cok) : m.colL.length ≤ 4096 := by
  have h1 := h.s8
  have h2 := h.t8
  have := nest3_all (pr := colPr) (s1 := fun _ => m.t.obj.toNat) (s2 := m.colS2) (c := 64) (d := 8) (n := m.s.obj.toNat) (fun a _ => by show m.t.obj.toNat ≤ 8; omega) (fun a ha b hb => (h.s2 (by omega) (by omega)).2)
  unfold Prof.colL Prof.colP
  omega
theorem Prof.Cok.leY {m : Prof} (h : m.Cok) {x y : Nat} (hx : (x : Int) < m.s.obj) (hy : (y : Int) ≤ m.t.obj) : (m.colP x y 0).length ≤ m.colL.length := by
  obtain ⟨r, hr⟩ := nest3_preR (pr := colPr) (s1 := fun _ => m.t.obj.toNat) (s2 := m.colS2) (n := m.s.obj.toNat) (k := x) (t := y) (by omega) (by omega)
  unfold Prof.colL Prof.colP
  rw [← hr, List.length_append]
  omega
def Prof.colQx (m : Prof) (x y : Nat) : List Int := (List.range y).map (m.colA x)
def Prof.colQ (m : Prof) (k : Nat) : List (List Int) := (List.range k).map fun x => m.colQx x (m.sz.getD x []).length
@[simp] theorem Prof.length_colQx (m : Prof) (x y : Nat) : (m.colQx x y).length = y := by simp [Prof.colQx]
@[simp] theorem Prof.length_colQ (m : Prof) (k : Nat) : (m.colQ k).length = k := by simp [Prof.colQ]
theorem Prof.colQx_get {m : Prof} {x y i : Nat} (h : i < y) : (m.colQx x y).getD i 0 = m.colA x i := by simp [Prof.colQx, List.getD_eq_getElem?_getD, h]
theorem Prof.colQ_get {m : Prof} {k x : Nat} (h : x < k) : (m.colQ k).getD x [] = m.colQx x (m.sz.getD x []).length := by simp [Prof.colQ, List.getD_eq_getElem?_getD, h]
theorem Prof.Cok.colA_bd {m : Prof} (h : m.Cok) {x y : Nat} (hx : (x : Int) < m.s.obj) (hy : (y : Int) ≤ m.t.obj) : 0 ≤ m.colA x y ∧ m.colA x y ≤ 4096 := by
  have h1 := h.leY hx hy
  have h2 := h.all
  unfold Prof.colA
  omega
theorem Prof.Cok.q {m : Prof} (h : m.Cok) {x y : Int} (x0 : 0 ≤ x) (x1 : x < m.s.obj) (y0 : 0 ≤ y) (y1 : y < m.t.obj) : x < (m.colQ m.sz.length).length ∧ (((m.colQ m.sz.length).getD x.toNat []).length : Int) = m.t.obj ∧ ((m.colQ m.sz.length).getD x.toNat []).getD y.toNat 0 = m.colA x.toNat y.toNat ∧ 0 ≤ m.colA x.toNat y.toNat ∧ m.colA x.toNat y.toNat ≤ 4096 := by
  have h1 := h.z.sl
  have h2 := h.z.row x.toNat (by omega)
  have h3 := h.colA_bd (x := x.toNat) (y := y.toNat) (by omega) (by omega)
  rw [Prof.length_colQ, Prof.colQ_get (by omega), Prof.length_colQx, Prof.colQx_get (by omega)]
  exact ⟨by omega, h2, rfl, h3⟩
def Prof.colN (m : Prof) : Nat := m.s.src.length + m.t.src.length
def Prof.colS (m : Prof) : List Int := (m.s.sum m.t).src ++ m.colL.map fun t => t.getD 0 0
def Prof.colT (m : Prof) : List Int := (m.s.sum m.t).tgt ++ m.colL.map fun t => m.s.obj + t.getD 1 0
def Prof.colR (m : Prof) (i : Nat) : List Int := m.colL.getD (i - m.colN) []
def Prof.colB (m : Prof) (f g : Nat) : Int := ((m.be.getD f []).getD ((m.colR g).getD 1 0).toNat []).getD ((m.colR g).getD 2 0).toNat 0
def Prof.colH (m : Prof) (f g : Nat) : Int := ((m.bh.getD (g - m.s.src.length) []).getD ((m.colR f).getD 0 0).toNat []).getD ((m.colR f).getD 2 0).toNat 0
def Prof.colK1 (m : Prof) (f g : Nat) : List Int := [m.colS.getD f 0, (m.colR g).getD 1 0, m.colB f g]
def Prof.colK2 (m : Prof) (f g : Nat) : List Int := [(m.colR f).getD 0 0, m.colT.getD g 0 - m.s.obj, m.colH f g]
structure Prof.ColB (m : Prof) (f g : Nat) : Prop where
  fM : f < m.s.src.length
  sf : m.colS.getD f 0 = m.s.src.getD f 0
  tg : m.colT.getD g 0 = m.s.obj + (m.colR g).getD 1 0
  r3 : (m.colR g).length = 3
  y0 : 0 ≤ (m.colR g).getD 1 0
  y1 : (m.colR g).getD 1 0 < m.t.obj
  e0 : 0 ≤ (m.colR g).getD 2 0
  b0 : f < m.be.length
  b1 : ((m.colR g).getD 1 0).toNat < (m.be.getD f []).length
  b2 : ((m.colR g).getD 2 0).toNat < ((m.be.getD f []).getD ((m.colR g).getD 1 0).toNat []).length
  s0 : 0 ≤ m.s.src.getD f 0
  s1 : m.s.src.getD f 0 < m.s.obj
  t0 : 0 ≤ m.s.tgt.getD f 0
  t1 : m.s.tgt.getD f 0 < m.s.obj
  ae : (g : Int) - m.colN - m.colA (m.s.tgt.getD f 0).toNat ((m.colR g).getD 1 0).toNat = (m.colR g).getD 2 0
  ix : idxLL m.colL (m.colK1 f g) = m.colA (m.s.src.getD f 0).toNat ((m.colR g).getD 1 0).toNat + m.colB f g
  lt : idxLL m.colL (m.colK1 f g) < m.colL.length
  ca : 0 ≤ m.colA (m.s.src.getD f 0).toNat ((m.colR g).getD 1 0).toNat
  bb : 0 ≤ m.colB f g
structure Prof.ColH (m : Prof) (f g : Nat) : Prop where
  gM : m.s.src.length ≤ g
  gN : g < m.colN
  sf : m.colS.getD f 0 = (m.colR f).getD 0 0
  tg : m.colT.getD g 0 - m.s.obj = m.t.tgt.getD (g - m.s.src.length) 0
  r3 : (m.colR f).length = 3
  x0 : 0 ≤ (m.colR f).getD 0 0
  x1 : (m.colR f).getD 0 0 < m.s.obj
  e0 : 0 ≤ (m.colR f).getD 2 0
  b0 : g - m.s.src.length < m.bh.length
  b1 : ((m.colR f).getD 0 0).toNat < (m.bh.getD (g - m.s.src.length) []).length
  b2 : ((m.colR f).getD 2 0).toNat < ((m.bh.getD (g - m.s.src.length) []).getD ((m.colR f).getD 0 0).toNat []).length
  s0 : 0 ≤ m.t.src.getD (g - m.s.src.length) 0
  s1 : m.t.src.getD (g - m.s.src.length) 0 < m.t.obj
  t0 : 0 ≤ m.t.tgt.getD (g - m.s.src.length) 0
  t1 : m.t.tgt.getD (g - m.s.src.length) 0 < m.t.obj
  ae : (f : Int) - m.colN - m.colA ((m.colR f).getD 0 0).toNat (m.t.src.getD (g - m.s.src.length) 0).toNat = (m.colR f).getD 2 0
  ix : idxLL m.colL (m.colK2 f g) = m.colA ((m.colR f).getD 0 0).toNat (m.t.tgt.getD (g - m.s.src.length) 0).toNat + m.colH f g
  lt : idxLL m.colL (m.colK2 f g) < m.colL.length
  ca : 0 ≤ m.colA ((m.colR f).getD 0 0).toNat (m.t.tgt.getD (g - m.s.src.length) 0).toNat
  bb : 0 ≤ m.colH f g
def Prof.colSp (m : Prof) (x y e : Nat) : List Int := (m.s.sum m.t).src ++ (m.colP x y e).map fun t => t.getD 0 0
def Prof.colTp (m : Prof) (x y e : Nat) : List Int := (m.s.sum m.t).tgt ++ (m.colP x y e).map fun t => m.s.obj + t.getD 1 0
structure ColSt (eI eS eT eP : TypeId) (H0 H : GHeap) (m : Prof) (p : ProfP) (g1 g2 g3 g4 g5 gI gC : Nat) (r0 : Nat → Option Addr) (zs : List Value) (x y e : Nat) (r1 : Nat → Option Addr) (gV gF gT : Nat) : Prop where
  hle : H0.Le H
  a1 : H.get g1 = some (.row (m.cells p) eP true)
  a2 : H.get g2 = some (.row zs eT true)
  a3 : H.get g3 = some (.row (m.s.cells p.s) eT true)
  a4 : H.get g4 = some (.row (m.t.cells p.t) eT true)
  a5 : H.get g5 = some (.row [.int .i64 (m.s.obj + m.t.obj), .slice (some ⟨gF, 0, none⟩) (m.colSp x y e).length (m.colSp x y e).length, .slice (some ⟨gT, 0, none⟩) (m.colTp x y e).length (m.colTp x y e).length, .slice (some ⟨gI, 0, none⟩) (m.s.sum m.t).idn.length (m.s.sum m.t).idn.length, .slice (some ⟨gC, 0, none⟩) (m.s.sum m.t).comp.length (m.s.sum m.t).comp.length] eT true)
  aF : H.get gF = some (.row (ints (m.colSp x y e)) eI true)
  aT : H.get gT = some (.row (ints (m.colTp x y e)) eI true)
  aI : H.get gI = some (.row (ints (m.s.sum m.t).idn) eI true)
  aC : H.get gC = some (.row (slsL r0 (m.s.sum m.t).comp) eS true)
  aV : H.get gV = some (.row (slsL r1 (m.colP x y e)) eS true)
  rows0 : OwnL H0.next H eI r0 (m.s.sum m.t).comp
  rows1 : OwnL H0.next H eI r1 (m.colP x y e)
  z1 : ∀ i, i < (m.s.sum m.t).comp.length → r0 i ≠ some ⟨gF, 0, none⟩
  z2 : ∀ i, i < (m.s.sum m.t).comp.length → r0 i ≠ some ⟨gT, 0, none⟩
  z3 : ∀ i, i < (m.s.sum m.t).comp.length → r0 i ≠ some ⟨gI, 0, none⟩
  w1 : ∀ i, i < (m.colP x y e).length → r1 i ≠ some ⟨gF, 0, none⟩
  w2 : ∀ i, i < (m.colP x y e).length → r1 i ≠ some ⟨gT, 0, none⟩
  bF : H0.next ≤ gF
  bT : H0.next ≤ gT
  bI : H0.next ≤ gI
  bC : H0.next ≤ gC
  bV : H0.next ≤ gV
  b5 : H0.next ≤ g5
  n12 : gF ≠ gT
  n13 : gF ≠ gI
  n23 : gT ≠ gI
  nV : gV ≠ gC
  n15 : g1 ≠ g5
  n25 : g2 ≠ g5
  n35 : g3 ≠ g5
  n45 : g4 ≠ g5
end Go.GL
namespace Go.GL
open Go.RowKit Go.WideShapes Go.ChangeShapes Go.Deep
def Bytes (H : GHeap) (a : Option Addr) (xs : List Int) : Prop := (SlA H a xs.length fun i => .int .u8 (xs.getD i 0)) ∧ ∀ i, 0 ≤ xs.getD i 0 ∧ xs.getD i 0 ≤ 255
section
variable {P : Program} {fr : Slots} {H : GHeap}
end
theorem cell_same {H H' : GHeap} {b i : Nat} {v : Value} (h : H.cell b i = some v) (s : ∀ o, H.get b = some o → H'.get b = some o) : H'.cell b i = some v := by
  unfold GHeap.cell at h ⊢
  cases e : H.get b with
  | none => rw [e] at h; simp at h
  | some o => rw [s o e]; rw [e] at h; exact h
theorem Bytes.st {H H' : GHeap} {a : Option Addr} {xs : List Int} {bs : List Nat} (h : Bytes H a xs) (s : St bs H H') (ho : ∀ b o t, a = some ⟨b, o, t⟩ → out bs b) : Bytes H' a xs := by
  refine ⟨h.1.imp id fun ⟨g, off, ha, hc⟩ => ⟨g, off, ha, fun i hi => cell_same (hc i hi) fun o hg => s.same g o (ho _ _ _ ha) hg⟩, h.2⟩
def DSrc (T : TypeId) (H : GHeap) (g : Nat) : Prop :=
  ∃ (a : Option Addr) (xs : List Int) (p h : Int), H.get g = some (.row [.slice a xs.length xs.length, .int .i64 p, .int .u64 h] T true) ∧ (0 ≤ p ∧ p ≤ 4096) ∧ xs.length ≤ 4096 ∧ Bytes H a xs ∧ ∀ b o t, a = some ⟨b, o, t⟩ → b < g
theorem DSrc.st {T : TypeId} {H H' : GHeap} {g : Nat} {bs : List Nat} (h : DSrc T H g) (s : St bs H H') (f : ∀ k, k < g + 1 → out [] k → out bs k) : DSrc T H' g := by
  obtain ⟨a, xs, p, hh, h1, h2, h3, h4, h5⟩ := h
  exact ⟨a, xs, p, hh, s.same _ _ (f g (by omega) trivial) h1, h2, h3, h4.st s fun b o t ha => f b (by have := h5 b o t ha; omega) trivial, h5⟩
end Go.GL
namespace Go.GL
def Cat.opRow (c : Cat) (f g : Nat) : List Int := (List.range g).map fun g => (c.comp.getD g []).getD f 0
def Cat.opTab (c : Cat) (k : Nat) : List (List Int) := (List.range k).map fun f => c.opRow f c.src.length
def Cat.op (c : Cat) : Cat := ⟨c.obj, c.tgt, c.src, c.idn, c.opTab c.src.length⟩
end Go.GL
namespace Go.GL
end Go.GL
namespace Go.GL
end Go.GL
namespace Go.GL
structure RelSt (TS eI eS : TypeId) (H H' : GHeap) (gS g5 n k : Nat) (rr : Nat → Option Addr) (T : List (List Int)) : Prop where
  st : St [gS] H H'
  a5 : H'.get g5 = some (.row (slsL rr T) eS true)
  b5 : H.next ≤ g5
  own : OwnL H.next H' eI rr T
  len : T.length = k
  row : ∀ i, i < T.length → (T.getD i []).length = n
  hs : DSrc TS H' gS
end Go.GL
namespace Go.GL
structure Pth where
  f : Int
  t : Int
  e : List Int
  g : Nat
def Pth.cs (p : Pth) : List Value := [.int .i64 p.f, .int .i64 p.t, .slice (some ⟨p.g, 0, none⟩) p.e.length p.e.length]
def PthOk (b : Nat) (eI : TypeId) (N : Int) (H : GHeap) (ps : List Pth) : Prop := ∀ p ∈ ps, (0 ≤ p.f ∧ p.f ≤ N) ∧ (0 ≤ p.t ∧ p.t ≤ N) ∧ p.e.length ≤ ps.length ∧ b ≤ p.g ∧ H.get p.g = some (.row (ints p.e) eI true)
end Go.GL
namespace Go.GL
structure PthK (b : Nat) (eI : TypeId) (N : Int) (H : GHeap) (ps : List Pth) : Prop where
  ok : PthOk b eI N H ps
structure KIn (b : Nat) (H : GHeap) (c : Cat) (p : CatP) : Prop where
  all : ∀ H', Keep b H H' → c.In H' p
end Go.GL
namespace Go.GL
noncomputable def Cat.code (c : Cat) (xs : List Int) : Int := if B c.Is = true then (if allIn xs c.src.length = true then 0 else 2) else 1
theorem Cat.code_ok {c : Cat} {xs : List Int} : c.code xs = 0 ↔ c.Is ∧ allIn xs c.src.length = true := by
  unfold Cat.code
  by_cases h : c.Is
  · rw [if_pos (B_iff.2 h)]
    split
    · exact ⟨fun _ => ⟨h, by assumption⟩, fun _ => rfl⟩
    · exact ⟨fun e => by omega, fun e => absurd e.2 (by assumption)⟩
  · rw [if_neg (fun e => h (B_iff.1 e))]
    exact ⟨fun e => by omega, fun e => absurd e.1 h⟩
theorem Cat.code_not {c : Cat} {xs : List Int} (h : ¬ c.Is) : c.code xs = 1 := by
  unfold Cat.code
  rw [if_neg (fun e => h (B_iff.1 e))]
theorem Cat.code_out {c : Cat} {xs : List Int} (h : c.Is) (h' : ¬ allIn xs c.src.length = true) : c.code xs = 2 := by
  unfold Cat.code
  rw [if_pos (B_iff.2 h), if_neg h']
theorem allIn_one {f n : Int} : allIn [f] n = true ↔ 0 ≤ f ∧ f < n := by
  rw [allIn_iff]
  exact ⟨fun h => h 0 (by simp), fun h i hi => by obtain rfl : i = 0 := by simp at hi; omega
                                                  exact h⟩
theorem Cat.code_one {c : Cat} {f : Int} : c.code [f] = 0 ↔ c.Is ∧ 0 ≤ f ∧ f < c.src.length := by rw [Cat.code_ok, allIn_one]
def Cat.ext (c : Cat) (f g : Int) : List Int := (c.hom (c.T g) (c.T f)).filter fun h => decide (c.th g h = f)
end Go.GL
namespace Go.Proofs.YtlfnclhkhmkklaaDoor
open Go Go.GL Go.RowKit Go.Proofs
theorem arrowCode_c {g o : Nat} {c : Cat} {p : CatP} {a : Option Addr} {xs : List Int} {H : GHeap} (h : Cat.At H g o c p := by assumption) (hs : c.Small := by assumption) (hx : Ints H a xs := by assumption) (hl : xs.length ≤ 1048576 := by omega) :
    GCalls Tryd.prog 29 [.pointer (some ⟨g, o, none⟩), .slice a xs.length xs.length] H (Ret (.int .i64 (c.code xs)) H) := by
  obtain ⟨n1, n2, n3, n4, n5, n6⟩ := id hs
  refine GCalls.body (N := 13) (rs := [.tmp 4]) Tryd.func29 rfl rfl rfl rfl (fun Qx b hend => ?_)
  refine .fg [0, 1] rfl ?_
  refine .seq (fun K1 m => .region (.mv rfl (.nil (m _ _ (.seq (fun K2 e => .seq (fun K3 l => .region (.mv rfl ?_))))))))
  refine .callQ rfl rfl rfl rfl @Tryd.call48 rfl (isCategory_c) ?_
  refine .q rfl (.not rfl) (.nil (l _ _ ?_))
  refine .cond rfl (fun h7 => ?_) (fun h7 => ?_)
  ·
   try simp only [sps] at h7
   refine .seq (fun K4 j => .region (.mv rfl (.nil (j _ _ ?_))))
   refine .ret ?_
   refine b _ _ ?_
   refine ⟨_, rfl, ?_⟩
   exact .of (congrArg _ (Cat.code_not h7))
  try simp only [sps] at h7
  refine .skip ?_
  refine e _ _ (.seq (fun K5 n => .seq (fun K6 f => .region (.mv rfl (.mv rfl ?_)))))
  refine .callQ rfl rfl rfl rfl @Tryd.call50 rfl (arrows_c) ?_
  refine .callQ rfl rfl rfl rfl @Tryd.call49 rfl (within_c) ?_
  refine .q rfl (.not rfl) (.nil (f _ _ ?_))
  refine .cond rfl (fun d => ?_) (fun d => ?_)
  ·
   try simp only [sps] at d
   refine .seq (fun K7 k => .region (.mv rfl (.nil (k _ _ ?_))))
   refine .ret ?_
   refine b _ _ ?_
   refine ⟨_, rfl, ?_⟩
   exact .of (congrArg _ (Cat.code_out h7 (by rw [d]; simp)))
  try simp only [sps] at d
  refine .skip ?_
  refine n _ _ (.seq (fun K8 i => .region (.mv rfl (.nil (i _ _ ?_)))))
  refine .ret ?_
  refine b _ _ ?_
  refine ⟨_, rfl, ?_⟩
  exact .of (congrArg _ (Cat.code_ok.2 ⟨h7, allIn_iff.2 d⟩))
end Go.Proofs.YtlfnclhkhmkklaaDoor
namespace Go.Proofs.YtlfnclhkhmkklaaDoor
open Go Go.GL Go.RowKit Go.Proofs
theorem l02Unit_c {c : Cat} {p : CatP} {f : Int} {H : GHeap} (hin : c.In H p := by assumption) (hS : c.Shape := by assumption) (h0 : 0 ≤ f := by omega) (h1 : f < c.src.length := by omega) :
    GCalls Tryd.prog 26 [.agg (c.cells p).toArray, .int .i64 f] H (Ret (.bool (decide (c.idn.getD (c.src.getD f.toNat 0).toNat 0 = f))) H) := by
  refine GCalls.ret rfl ?_
  refine GCalls.body (N := 16) (rs := [.tmp 4]) Tryd.func26 rfl rfl rfl rfl (fun Qx g hend => ?_)
  refine .fg [0, 1] rfl ?_
  have d := GHeap.Le.refl H
  have a := hin
  have q4 := hS.src f.toNat (by omega)
  have q3 := hS.il
  refine .seq (fun K1 j => .region ?_)
  refine .R rfl (.boxR rfl sz_29_D rfl) ?_
  rintro _ H2 ⟨g2, rfl, h, ge2, b⟩
  have nx_H2 := h.1
  replace d := d.trans h
  have lt_at2 := GHeap.ltg b
  replace hin := a.mono d
  have e : Cat.At _ g2 0 c p := ⟨Mem.of_get b, hin⟩
  obtain ⟨c02, c12, c22, c32, c42, i12, i22, i32, i42⟩ := e.get
  have hm2 : MemN _ _ _ _ _ := ⟨rfl, e.1⟩
  have hi2 := e.2
  refine .mv rfl (.nil (j _ _ (.seq (fun K2 i => ?_))))
  refine .regionD mo_B (.q 0 (.q 1 (.q 2 (.q 3 (.q 4 (.q 5 (.q 6 (.q 7 (.q 8 (.q 9 (.q 10 (.q 11 (.done))))))))))))) (by kernel_rfl) ?_
  refine .q rfl (.fieldAddr fo_29_3_B rfl) ?_
  refine .q rfl (.load on_22_B rfl (by first | assumption | exact Mem.of_get b 3 _ rfl)) ?_
  refine .q rfl (.fieldAddr fo_29_1_B rfl) ?_
  refine .q rfl (.load on_22_B rfl (by first | assumption | exact Mem.of_get b 1 _ rfl)) ?_
  refine .mv rfl rfl ?_
  refine .q rfl (.idx1 sl_22_A (by assumption) rfl rfl (by omega) (by omega)) ?_
  refine .q rfl (.loadI on_2_A (by assumption) rfl (by omega)) ?_
  refine .q rfl (.idx1 sl_22_A (by assumption) rfl rfl (by omega) (by omega)) ?_
  refine .q rfl (.loadI on_2_A (by assumption) rfl (by omega)) ?_
  refine .mv rfl rfl (.q rfl (.cmp rfl rfl rfl) (.mv rfl rfl ?_))
  refine .done ?_
  refine i _ _ ?_
  refine .ret ?_
  refine g _ _ ?_
  refine ⟨_, rfl, ?_⟩
  exact ⟨congrArg _ (by rw [Bool.eq_iff_iff]; simp), d⟩
end Go.Proofs.YtlfnclhkhmkklaaDoor
namespace Go.GL
open Go.RowKit
def decB (n : Nat) : ByteArray := if n < 10 then bytesOf [48 + (n : Int)] else bytesOf [48 + ((n / 10 : Nat) : Int)] ++ bytesOf [48 + ((n % 10 : Nat) : Int)]
theorem size_bytesOf1 (a : Int) : (bytesOf [a]).size = 1 := rfl
theorem decB_size (n : Nat) : (decB n).size ≤ 2 := by
  unfold decB
  split
  · rw [size_bytesOf1]; omega
  · rw [ByteArray.size_append, size_bytesOf1, size_bytesOf1]; omega
theorem decB_lt {n : Nat} (h : n < 10) : decB n = bytesOf [48 + (n : Int)] := if_pos h
theorem decB_ge {n : Nat} (h : ¬ n < 10) : decB n = bytesOf [48 + ((n / 10 : Nat) : Int)] ++ bytesOf [48 + ((n % 10 : Nat) : Int)] := if_neg h
theorem decB_step {n : Nat} (h : ¬ n < 10) (h2 : n < 100) : decB n = decB (n / 10) ++ bytesOf [48 + ((n % 10 : Nat) : Int)] := by rw [decB_ge h, decB_lt (by omega)]
def digB : ByteArray := ⟨#[48, 49, 50, 51, 52, 53, 54, 55, 56, 57, 97, 98, 99, 100, 101, 102, 103, 104, 105, 106, 107, 108, 109, 110, 111, 112, 113, 114, 115, 116, 117, 118, 119, 120, 121, 122]⟩
def smlB : ByteArray := ⟨#[48, 48, 48, 49, 48, 50, 48, 51, 48, 52, 48, 53, 48, 54, 48, 55, 48, 56, 48, 57, 49, 48, 49, 49, 49, 50, 49, 51, 49, 52, 49, 53, 49, 54, 49, 55, 49, 56, 49, 57, 50, 48, 50, 49, 50, 50, 50, 51, 50, 52, 50, 53, 50, 54, 50, 55, 50, 56, 50, 57, 51, 48, 51, 49, 51, 50, 51, 51, 51, 52, 51, 53, 51, 54, 51, 55, 51, 56, 51, 57, 52, 48, 52, 49, 52, 50, 52, 51, 52, 52, 52, 53, 52, 54, 52, 55, 52, 56, 52, 57, 53, 48, 53, 49, 53, 50, 53, 51, 53, 52, 53, 53, 53, 54, 53, 55, 53, 56, 53, 57, 54, 48, 54, 49, 54, 50, 54, 51, 54, 52, 54, 53, 54, 54, 54, 55, 54, 56, 54, 57, 55, 48, 55, 49, 55, 50, 55, 51, 55, 52, 55, 53, 55, 54, 55, 55, 55, 56, 55, 57, 56, 48, 56, 49, 56, 50, 56, 51, 56, 52, 56, 53, 56, 54, 56, 55, 56, 56, 56, 57, 57, 48, 57, 49, 57, 50, 57, 51, 57, 52, 57, 53, 57, 54, 57, 55, 57, 56, 57, 57]⟩
theorem digB_size : digB.size = 36 := by decide +kernel
theorem smlB_size : smlB.size = 200 := by decide +kernel
theorem digB_fin : ∀ i : Fin 10, (digB.extract i.val (i.val + 1)).data.toList = [UInt8.ofNat (48 + i.val)] := by decide +kernel
theorem smlB_fin : ∀ i : Fin 100, (smlB.extract (i.val * 2) (i.val * 2 + 2)).data.toList = [UInt8.ofNat (48 + i.val / 10), UInt8.ofNat (48 + i.val % 10)] := by decide +kernel
theorem ba_list {a b : ByteArray} (h : a.data.toList = b.data.toList) : a = b := ByteArray.ext (Array.toList_inj.1 h)
theorem digB_ex {i : Nat} (h : i < 10) : digB.extract i (i + 1) = decB i := by
  rw [decB_lt h]
  refine ba_list ?_
  rw [digB_fin ⟨i, h⟩, bytesOf_data]
  simp only [List.map_cons, List.map_nil]
  rw [show ((48 : Int) + (i : Int)).toNat = 48 + i by omega]
theorem smlB_ex {i : Nat} (h : ¬ i < 10) (h2 : i < 100) : smlB.extract (i * 2) (i * 2 + 2) = decB i := by
  rw [decB_ge h]
  refine ba_list ?_
  rw [smlB_fin ⟨i, h2⟩, ByteArray.data_append, Array.toList_append, bytesOf_data, bytesOf_data]
  simp only [List.map_cons, List.map_nil, List.cons_append, List.nil_append]
  rw [show ((48 : Int) + ((i / 10 : Nat) : Int)).toNat = 48 + i / 10 by omega, show ((48 : Int) + ((i % 10 : Nat) : Int)).toNat = 48 + i % 10 by omega]
def Cat.clA (c : Cat) (f : Nat) : ByteArray := decB (c.src.getD f 0).toNat ++ ⟨#[62]⟩ ++ decB (c.tgt.getD f 0).toNat ++ ⟨#[58]⟩
def Cat.clQ (c : Cat) (f k : Nat) : Prop := c.tgt.getD f 0 = c.src.getD k 0 ∧ ¬ c.idn.getD (c.src.getD k 0).toNat 0 = k
noncomputable def Cat.clS (c : Cat) (f : Nat) : Nat → ByteArray
  | 0 => c.clA f
  | k + 1 => bif B (c.clQ f k) then Cat.clS c f k ++ ⟨#[32]⟩ ++ decB k ++ ⟨#[61]⟩ ++ decB ((c.comp.getD f []).getD k 0).toNat else Cat.clS c f k
theorem Cat.clS_T {c : Cat} {f k : Nat} (h : c.clQ f k) : c.clS f (k + 1) = c.clS f k ++ ⟨#[32]⟩ ++ decB k ++ ⟨#[61]⟩ ++ decB ((c.comp.getD f []).getD k 0).toNat := by show cond _ _ _ = _; rw [B_true h]; rfl
theorem Cat.clS_F {c : Cat} {f k : Nat} (h : ¬ c.clQ f k) : c.clS f (k + 1) = c.clS f k := by show cond _ _ _ = _; rw [B_false h]; rfl
theorem Cat.clA_size (c : Cat) (f : Nat) : (c.clA f).size ≤ 6 := by
  unfold clA
  rw [ByteArray.size_append, ByteArray.size_append, ByteArray.size_append]
  have h1 := decB_size (c.src.getD f 0).toNat
  have h2 := decB_size (c.tgt.getD f 0).toNat
  have h3 : (ByteArray.mk #[62]).size = 1 := rfl
  have h4 : (ByteArray.mk #[58]).size = 1 := rfl
  omega
theorem Cat.clS_size (c : Cat) (f : Nat) : ∀ k, (c.clS f k).size ≤ 6 + 6 * k
  | 0 => by have := c.clA_size f; exact this
  | k + 1 => by
    have ih := c.clS_size f k
    by_cases h : c.clQ f k
    · rw [Cat.clS_T h, ByteArray.size_append, ByteArray.size_append, ByteArray.size_append, ByteArray.size_append]
      have h1 := decB_size k
      have h2 := decB_size ((c.comp.getD f []).getD k 0).toNat
      have h3 : (ByteArray.mk #[32]).size = 1 := rfl
      have h4 : (ByteArray.mk #[61]).size = 1 := rfl
      omega
    · rw [Cat.clS_F h]; omega
noncomputable def Cat.clR (c : Cat) (f : Int) : ByteArray := bif B (c.Is ∧ 0 ≤ f ∧ f < c.src.length) then c.clS f.toNat c.src.length else ⟨#[]⟩
noncomputable def Cat.clC (c : Cat) (f : Int) : Int := bif B c.Is then (bif B (0 ≤ f ∧ f < c.src.length) then 0 else 2) else 1
theorem Cat.cl_1 {c : Cat} {f : Int} (h : ¬ c.Is) : c.clR f = ⟨#[]⟩ ∧ c.clC f = 1 := by unfold clR clC; rw [B_false h, B_false fun hh => h hh.1]; exact ⟨rfl, rfl⟩
theorem Cat.cl_2 {c : Cat} {f : Int} (h : c.Is) (h' : ¬ (0 ≤ f ∧ f < c.src.length)) : c.clR f = ⟨#[]⟩ ∧ c.clC f = 2 := by unfold clR clC; rw [B_true h, B_false h', B_false fun hh => h' hh.2]; exact ⟨rfl, rfl⟩
theorem Cat.cl_0 {c : Cat} {f : Int} (h : c.Is) (h' : 0 ≤ f ∧ f < c.src.length) : c.clR f = c.clS f.toNat c.src.length ∧ c.clC f = 0 := by unfold clR clC; rw [B_true h, B_true h', B_true ⟨h, h'⟩]; exact ⟨rfl, rfl⟩
section
variable {P : Program} {fr : Slots} {H : GHeap}
theorem MStep.quoT {t u : TypeId} {x y : Operand} {n : Nat} (hx : ev fr x = some (.int .i64 n)) (hy : ev fr y = some (.int .i64 10)) (hm : n ≤ 9223372036854775807) : MStep P fr H (.binOp .quo t x y u) (.int .i64 ((n / 10 : Nat) : Int)) := by
  have h := MStep.quo (P := P) (H := H) (t := t) (u := u) hx hy (by omega)
  rw [Int.tdiv_eq_ediv_of_nonneg (by omega), show IntKind.i64.wrap ((n : Int) / 10) = ((n / 10 : Nat) : Int) by rw [IntKind.wrap_i64]; omega] at h
  exact h
theorem MStep.remT {t u : TypeId} {x y : Operand} {n : Nat} (hx : ev fr x = some (.int .i64 n)) (hy : ev fr y = some (.int .i64 10)) : MStep P fr H (.binOp .rem t x y u) (.int .i64 ((n % 10 : Nat) : Int)) := by
  have h := MStep.rem (P := P) (H := H) (t := t) (u := u) hx hy (by omega)
  rw [Int.tmod_eq_emod_of_nonneg (by omega), show (n : Int) % 10 = ((n % 10 : Nat) : Int) by omega] at h
  exact h
theorem MStep.substr {t : TypeId} {x lo hi : Operand} {s : ByteArray} {k j : IntKind} {l h : Int} (ht : isStringT P t = true) (hx : ev fr x = some (.string s)) (hlo : ev fr lo = some (.int k l)) (hhi : ev fr hi = some (.int j h)) (h0 : 0 ≤ l) (h1 : l ≤ h) (h2 : h ≤ s.size) :
    MStep P fr H (.slice t x (some lo) (some hi) none) (.string (s.extract l.toNat h.toNat)) :=
  .sliceStr ht hx ⟨k, by rw [hlo, Int.toNat_of_nonneg h0]⟩ ⟨j, by rw [hhi, Int.toNat_of_nonneg (by omega)]⟩ (by omega) (by omega)
end
end Go.GL
namespace Go.Proofs.YtlfnclhkhmkklaaDoor
open Go Go.GL Go.RowKit Go.Proofs
theorem st_9_Tm : isStringT Tryd.prog 9 = true := by kernel_rfl
theorem us_2_Tm : (Tryd.prog.underlying 2).isSome = true := by kernel_rfl
theorem it_5_Tm : intT Tryd.prog 5 = some .u8 := by kernel_rfl
theorem byt_78_Tm : bytesT Tryd.prog 78 = true := by kernel_rfl
theorem sl_78_Tm : sliceT Tryd.prog 78 = some (5, 1) := by kernel_rfl
theorem ze_5_Tm : zeroT Tryd.prog 5 = some ([.int .u8 0], 1) := by kernel_rfl
theorem smallS_c {n : Nat} {H : GHeap} (hn : n < 100) :
    GCalls Tryd.prog 74 [.int .i64 (n : Int)] H (Ret (.string (decB n)) H) := by
  refine GCalls.body (N := 15) (rs := [.tmp 2]) Tryd.func74 rfl rfl rfl rfl (fun Qx a hend => ?_)
  refine .fg [0] rfl ?_
  have hle := GHeap.Le.refl H
  refine .seq (fun K1 e => .region (.mv rfl (.nil (e _ _ (.seq (fun K2 b => .seq (fun K3 c => .region (.mv rfl (.q rfl (.cmp rfl rfl rfl) (.nil (c _ _ ?_)))))))))))
  refine .cond rfl (fun h4 => ?_) (fun h4 => ?_)
  ·
   simp only [sps] at h4
   refine .seq (fun K4 d => .region (.mv rfl (.mv rfl ?_)))
   refine .q rfl (.add rfl rfl rfl (by omega) (by omega)) ?_
   refine .q rfl (.substr (s := digB) st_9_Tm rfl rfl rfl (by omega) (by omega) (by rw [digB_size]; omega)) ?_
   refine .mv rfl (.nil (d _ _ ?_))
   refine .ret ?_
   refine a _ _ ?_
   refine ⟨_, rfl, ?_⟩
   exact .of (congrArg Value.string (by rw [← digB_ex (i := n) (by omega)]; congr 1))
  simp only [sps] at h4
  refine .skip ?_
  refine b _ _ (.seq (fun K5 f => .region (.mv rfl ?_)))
  refine .q rfl (.mul rfl rfl rfl (by omega) (by omega)) ?_
  refine .mv rfl ?_
  refine .q rfl (.mul rfl rfl rfl (by omega) (by omega)) ?_
  refine .q rfl (.add rfl rfl rfl (by omega) (by omega)) ?_
  refine .q rfl (.substr (s := smlB) st_9_Tm rfl rfl rfl (by omega) (by omega) (by rw [smlB_size]; omega)) ?_
  refine .mv rfl (.nil (f _ _ ?_))
  refine .ret ?_
  refine a _ _ ?_
  refine ⟨_, rfl, ?_⟩
  exact .of (congrArg Value.string (by rw [← smlB_ex (i := n) (by omega) hn]; congr 1))
theorem fmtI_c {n : Nat} {H : GHeap} (hn : n < 100) :
    GCalls Tryd.prog 52 [.int .i64 (n : Int), .int .i64 10] H (Ret (.string (decB n)) H) := by
  refine GCalls.body (N := 54) (rs := [.tmp 4]) Tryd.func52 rfl rfl rfl rfl (fun Qx d hend => ?_)
  refine .fg [0, 1] rfl ?_
  have hle := GHeap.Le.refl H
  refine .seq (fun K1 g => .region (.mv rfl (.nil (g _ _ (.seq (fun K2 hK2 => .seq (fun K3 f => .region (.mv rfl (.q rfl (.cmp rfl rfl rfl) (.nil (f _ _ ?_)))))))))))
  refine .cond rfl (fun a => ?_) (fun a => ?_)
  ·
   try simp only [sps] at a
   refine .seq (fun K4 hK4 => .seq (fun K5 h => .region (.mv rfl (.q rfl (.cmp rfl rfl rfl) (.mv rfl ?_)))))
   refine .split (fun c => ?_) (fun c => ?_)
   ·
    try simp only [sps] at c
    refine .qg rfl (.move rfl) (.qg rfl (.cmp rfl rfl rfl) (.q rfl (.pickT rfl rfl) (.nil (h _ _ ?_))))
    refine .cond rfl (fun b => ?_) (fun b => ?_)
    ·
     try simp only [sps] at b
     refine .seq (fun K6 e => .region (.mv rfl ?_))
     refine .callQ rfl rfl rfl rfl @Tryd.call74 rfl (smallS_c hn) ?_
     refine .mv rfl (.nil (e _ _ ?_))
     refine .ret ?_
     refine d _ _ ?_
     refine ⟨_, rfl, ?_⟩
     exact .of rfl
    simp only [sps] at b
    omega
   simp only [sps] at c
   omega
  simp at a
theorem fmt_c {n : Nat} {H : GHeap} (hn : n < 100) :
    GCalls Tryd.prog 33 [.int .i64 (n : Int), .int .i64 10] H (Ret (.string (decB n)) H) := by
  refine GCalls.body (N := 8) (rs := [.tmp 4]) Tryd.func33 rfl rfl rfl rfl (fun Qx a hend => ?_)
  refine .fg [0, 1] rfl ?_
  have hle := GHeap.Le.refl H
  refine .seq (fun K1 c => .region (.mv rfl (.nil (c _ _ (.seq (fun K2 b => .region (.mv rfl (.mv rfl ?_))))))))
  refine .callQ rfl rfl rfl rfl @Tryd.call52 rfl (fmtI_c hn) ?_
  refine .mv rfl (.nil (b _ _ ?_))
  refine .ret ?_
  refine a _ _ ?_
  refine ⟨_, rfl, ?_⟩
  exact .of rfl
theorem itoaI_c {n : Nat} {H : GHeap} (hn : n < 100) :
    GCalls Tryd.prog 51 [.int .i64 (n : Int)] H (Ret (.string (decB n)) H) := by
  refine GCalls.body (N := 5) (rs := [.tmp 2]) Tryd.func51 rfl rfl rfl rfl (fun Qx a hend => ?_)
  refine .fg [0] rfl ?_
  have hle := GHeap.Le.refl H
  refine .seq (fun K1 c => .region (.mv rfl (.nil (c _ _ (.seq (fun K2 b => .region (.mv rfl ?_)))))))
  refine .callQ rfl rfl rfl rfl @Tryd.call52 rfl (fmtI_c hn) ?_
  refine .mv rfl (.nil (b _ _ ?_))
  refine .ret ?_
  refine a _ _ ?_
  refine ⟨_, rfl, ?_⟩
  exact .of rfl
theorem itoa_c {n : Nat} {H : GHeap} (hn : n < 100) :
    GCalls Tryd.prog 32 [.int .i64 (n : Int)] H (Ret (.string (decB n)) H) := by
  refine GCalls.body (N := 5) (rs := [.tmp 2]) Tryd.func32 rfl rfl rfl rfl (fun Qx a hend => ?_)
  refine .fg [0] rfl ?_
  have hle := GHeap.Le.refl H
  refine .seq (fun K1 c => .region (.mv rfl (.nil (c _ _ (.seq (fun K2 b => .region (.mv rfl ?_)))))))
  refine .callQ rfl rfl rfl rfl @Tryd.call51 rfl (itoaI_c hn) ?_
  refine .mv rfl (.nil (b _ _ ?_))
  refine .ret ?_
  refine a _ _ ?_
  refine ⟨_, rfl, ?_⟩
  exact .of rfl
theorem l01Dec0_c {n : Nat} {H : GHeap} (hn : n < 10) :
    GCalls Tryd.prog 25 [.int .i64 (n : Int)] H (Ret (.string (decB n)) H) := by
  refine GCalls.ret rfl ?_
  refine GCalls.body (N := 20) (rs := [.tmp 2]) Tryd.func25 rfl rfl rfl rfl (fun Qx b hend => ?_)
  refine .fg [0] rfl ?_
  have a := GHeap.Le.refl H
  refine .seq (fun K1 g => .region (.mv rfl (.nil (g _ _ (.seq (fun K2 hK2 => .seq (fun K3 e => .region (.mv rfl (.q rfl (.cmp rfl rfl rfl) (.nil (e _ _ ?_)))))))))))
  refine .cond rfl (fun h4 => ?_) (fun h4 => ?_)
  ·
   try simp only [sps] at h4
   refine .seq (fun K4 f => .region (.mv rfl ?_))
   refine .q rfl (.add rfl rfl rfl (by omega) (by omega)) ?_
   refine .q rfl (.convU8 us_2_Tm it_5_Tm rfl (by omega) (by omega)) ?_
   refine .R rfl (.litA rfl sl_78_Tm ze_5_Tm rfl rfl rfl rfl) ?_
   rintro _ H8 ⟨g8, rfl, d, ge8, c⟩
   have nx_H8 := d.1
   replace a := a.trans d
   have lt_at8 := GHeap.ltg c
   refine .q rfl (.bytesStr (ns := [48 + (n : Int)]) byt_78_Tm st_9_Tm rfl rfl (by decide) (u8_cells (ns := [48 + (n : Int)]) c)) ?_
   refine .mv rfl (.nil (f _ _ ?_))
   refine .ret ?_
   refine b _ _ ?_
   refine ⟨_, rfl, ?_⟩
   exact ⟨congrArg Value.string (decB_lt hn), a⟩
  simp only [sps] at h4
  omega
theorem l01Dec_c {n : Nat} {H : GHeap} (hn : n < 100) :
    GCalls Tryd.prog 25 [.int .i64 (n : Int)] H (Ret (.string (decB n)) H) := by
  by_cases h0 : n < 10
  · exact l01Dec0_c h0
  refine GCalls.ret rfl ?_
  refine GCalls.body (N := 20) (rs := [.tmp 2]) Tryd.func25 rfl rfl rfl rfl (fun Qx p hend => ?_)
  refine .fg [0] rfl ?_
  have i := GHeap.Le.refl H
  refine .seq (fun K1 u => .region (.mv rfl (.nil (u _ _ (.seq (fun K2 r => .seq (fun K3 s => .region (.mv rfl (.q rfl (.cmp rfl rfl rfl) (.nil (s _ _ ?_)))))))))))
  refine .cond rfl (fun h4 => ?_) (fun h4 => ?_)
  ·
   simp only [sps] at h4
   omega
  try simp only [sps] at h4
  refine .skip ?_
  refine r _ _ (.seq (fun K4 t => ?_))
  refine .regionD mo_B (.q 0 (.q 1 (.q 3 (.q 4 (.q 5 (.q 6 (.or (.c 2 1 (.c 7 1 (.q 8 (.q 9 (.q 10 (.done)))))) (.c 7 1 (.q 8 (.c 2 1 (.q 9 (.q 10 (.done))))))))))))) (by kernel_rfl) ?_
  refine .cut [(0, some _), (3, some _), (4, some _)] ⟨rfl, rfl, rfl, trivial⟩ (fun rest fr' H' => ∃ (gV : Nat), Sub ((2, some (.string (decB (n / 10) ++ bytesOf [48 + ((n % 10 : Nat) : Int)]))) :: rest) fr' ∧ H.Le H' ∧ H.next ≤ gV) ?_ ?_
  ·
   have e := St.refl [] H
   refine .qB rfl (.refl _) (.move rfl) ?_
   refine .qB rfl (.refl _) (.quoT rfl rfl (by omega)) ?_
   refine .qB rfl (.refl _) (.move rfl) (.qB rfl (.refl _) (.remT rfl rfl) ?_)
   refine .qB rfl (.refl _) (.add rfl rfl rfl (by omega) (by omega)) ?_
   refine .q rfl (.convU8 us_2_Tm it_5_Tm rfl (by omega) (by omega)) ?_
   refine .orI ?_ ?_
   ·
    refine .callQ1 rfl rfl rfl rfl rfl @Tryd.call25 rfl (l01Dec0_c (n := n / 10) (by omega)) (.refl _) ?_
    refine .c1 rfl rfl rfl rfl (.litA rfl sl_78_Tm ze_5_Tm rfl rfl rfl rfl) ?_
    rintro _ H17 ⟨g17, rfl, d, ge17, l⟩
    have j := d
    refine ⟨j, ?_⟩
    have nx_H17 := d.1
    replace i := i.trans d
    replace e := e.le d
    have lt_at17 := GHeap.ltg l
    refine .m rfl rfl rfl rfl j (.bytesStr (ns := [48 + ((n % 10 : Nat) : Int)]) byt_78_Tm st_9_Tm rfl rfl (by decide) (u8_cells (ns := [48 + ((n % 10 : Nat) : Int)]) (by assumption))) ?_
    refine .qB rfl (.refl _) (.strAdd rfl rfl (by have := decB_size (n / 10); rw [size_bytesOf1]; omega)) ?_
    refine .qB rfl (.refl _) (.assign rfl) ?_
    refine .done ?_
    exact ⟨_, ⟨rfl, rfl, rfl, rfl, trivial⟩, ⟨e.nx, fun k o h => e.same k o trivial h⟩, by assumption⟩
   refine .c1 rfl rfl rfl rfl (.litA rfl sl_78_Tm ze_5_Tm rfl rfl rfl rfl) ?_
   rintro _ H17x2 ⟨g17x2, rfl, a, ge17x2, g⟩
   have j := a
   refine ⟨j, ?_⟩
   have nx_H17x2 := a.1
   replace i := i.trans a
   replace e := e.le a
   have lt_at17x2 := GHeap.ltg g
   refine .m rfl rfl rfl rfl j (.bytesStr (ns := [48 + ((n % 10 : Nat) : Int)]) byt_78_Tm st_9_Tm rfl rfl (by decide) (u8_cells (ns := [48 + ((n % 10 : Nat) : Int)]) (by assumption))) ?_
   refine .callQ1 rfl rfl rfl rfl rfl @Tryd.call25 rfl (l01Dec0_c (n := n / 10) (by omega)) (.refl _) ?_
   refine .qB rfl (.refl _) (.strAdd rfl rfl (by have := decB_size (n / 10); rw [size_bytesOf1]; omega)) ?_
   refine .qB rfl (.refl _) (.assign rfl) ?_
   refine .done ?_
   exact ⟨_, ⟨rfl, rfl, rfl, rfl, trivial⟩, ⟨e.nx, fun k o h => e.same k o trivial h⟩, by assumption⟩
  rintro fr903 H903 ⟨gV, b, f, ge903⟩
  have nx_H903 := f.1
  replace i := i.trans f
  refine t _ _ ?_
  refine .forget b ?_
  refine .ret ?_
  refine p _ _ ?_
  refine ⟨_, rfl, ?_⟩
  exact ⟨congrArg Value.string (decB_step h0 hn), i⟩
theorem l01DecZ_c {z : Int} {H : GHeap} (h0 : 0 ≤ z := by omega) (h1 : z < 100 := by omega) :
    GCalls Tryd.prog 25 [.int .i64 z] H (Ret (.string (decB z.toNat)) H) := by
  have h := l01Dec_c (n := z.toNat) (H := H) (by omega)
  rwa [Int.toNat_of_nonneg h0] at h
theorem fmtZ_c {z : Int} {H : GHeap} (h0 : 0 ≤ z := by omega) (h1 : z < 100 := by omega) :
    GCalls Tryd.prog 33 [.int .i64 z, .int .i64 10] H (Ret (.string (decB z.toNat)) H) := by
  have h := fmt_c (n := z.toNat) (H := H) (by omega)
  rwa [Int.toNat_of_nonneg h0] at h
theorem itoaZ_c {z : Int} {H : GHeap} (h0 : 0 ≤ z := by omega) (h1 : z < 100 := by omega) :
    GCalls Tryd.prog 32 [.int .i64 z] H (Ret (.string (decB z.toNat)) H) := by
  have h := itoa_c (n := z.toNat) (H := H) (by omega)
  rwa [Int.toNat_of_nonneg h0] at h
theorem isIdT_c {g o : Nat} {c : Cat} {p : CatP} {u : Int} {H : GHeap} (h : Cat.At H g o c p := by assumption) (hS : c.Shape := by assumption) (h0 : 0 ≤ u := by omega) (h1 : u < c.src.length := by omega) :
    GCalls Tryd.prog 31 [.pointer (some ⟨g, o, none⟩), .int .i64 u] H (Ret (.bool (decide (c.idn.getD (c.src.getD u.toNat 0).toNat 0 = u))) H) := by
  refine GCalls.ret rfl ?_
  have q1 := hS.src u.toNat (by omega)
  have q2 := hS.il
  refine GCalls.body (N := 20) (rs := [.tmp 4]) Tryd.func31 rfl rfl rfl rfl (fun Qx a hend => ?_)
  refine .fg [0, 1] rfl ?_
  have e := GHeap.Le.refl H
  have base_h := h
  obtain ⟨c0, c1, c2, c3, c4, i1, i2, i3, i4⟩ := h.get
  have hm : MemN _ _ _ _ _ := ⟨rfl, h.1⟩
  have hi := h.2
  refine .seq (fun K1 d => .region (.mv rfl (.nil (d _ _ (.seq (fun K2 b => ?_))))))
  refine .regionD mo_B (.q 0 (.q 1 (.q 2 (.q 3 (.q 4 (.q 5 (.q 6 (.q 7 (.q 8 (.q 9 (.q 10 (.q 11 (.q 12 (.q 13 (.q 14 (.q 15 (.done))))))))))))))))) (by kernel_rfl) ?_
  refine .mv rfl rfl (.q rfl (.nilCheck rfl) (.q rfl (.fieldAddr fo_29_3_B rfl) ?_))
  refine .q rfl (.load on_22_B rfl (by assumption)) ?_
  refine .mv rfl rfl (.q rfl (.nilCheck rfl) (.q rfl (.fieldAddr fo_29_1_B rfl) ?_))
  refine .q rfl (.load on_22_B rfl (by assumption)) ?_
  refine .mv rfl rfl ?_
  refine .q rfl (.idx1 sl_22_A (by assumption) rfl rfl (by omega) (by omega)) ?_
  refine .q rfl (.loadI on_2_A (by assumption) rfl (by omega)) ?_
  refine .q rfl (.idx1 sl_22_A (by assumption) rfl rfl (by omega) (by omega)) ?_
  refine .q rfl (.loadI on_2_A (by assumption) rfl (by omega)) ?_
  refine .mv rfl rfl (.q rfl (.cmp rfl rfl rfl) (.mv rfl rfl ?_))
  refine .done ?_
  refine b _ _ ?_
  refine .ret ?_
  refine a _ _ ?_
  refine ⟨_, rfl, ?_⟩
  exact ⟨rfl, e⟩
theorem l02ArrowT_c {c : Cat} {p : CatP} {k : Int} {H : GHeap} (hin : c.In H p := by assumption) (hs : c.Small := by assumption) :
    GCalls Tryd.prog 24 [.agg (c.cells p).toArray, .int .i64 k] H (Ret (.bool (decide (0 ≤ k) && decide (k < c.src.length))) H) := by
  refine GCalls.ret rfl ?_
  obtain ⟨n1, n2, n3, n4, n5, n6⟩ := id hs
  refine GCalls.body (N := 14) (rs := [.tmp 4]) Tryd.func24 rfl rfl rfl rfl (fun Qx d hend => ?_)
  refine .fg [0, 1] rfl ?_
  have b := GHeap.Le.refl H
  have a := hin
  refine .seq (fun K1 i => .region ?_)
  refine .R rfl (.boxR rfl sz_29_D rfl) ?_
  rintro _ H2 ⟨g2, rfl, h, ge2, f⟩
  have nx_H2 := h.1
  replace b := b.trans h
  have lt_at2 := GHeap.ltg f
  replace hin := a.mono b
  have e : Cat.At _ g2 0 c p := ⟨Mem.of_get f, hin⟩
  obtain ⟨c02, c12, c22, c32, c42, i12, i22, i32, i42⟩ := e.get
  have hm2 : MemN _ _ _ _ _ := ⟨rfl, e.1⟩
  have hi2 := e.2
  refine .mv rfl (.nil (i _ _ (.seq (fun K2 g => .region (.mv rfl (.q rfl (.cmp rfl rfl rfl) (.mv rfl ?_)))))))
  refine .split (fun h7 => ?_) (fun h7 => ?_)
  ·
   simp only [sps] at h7
   refine .qg rfl (.move rfl) (.qg rfl (.fieldAddr fo_29_1_B rfl) ?_)
   refine .qg rfl (.load on_22_B rfl (by first | assumption | exact Mem.of_get f 1 _ rfl)) ?_
   refine .qg rfl (.len sl_22_A rfl) (.qg rfl (.cmp rfl rfl rfl) (.q rfl (.pickT rfl rfl) (.mv rfl (.nil (g _ _ ?_)))))
   refine .ret ?_
   refine d _ _ ?_
   refine ⟨_, rfl, ?_⟩
   first
   | exact ⟨by rw [decide_eq_true h7, Bool.true_and], b⟩
   | exact ⟨by rw [decide_eq_false (by omega), Bool.false_and], b⟩
  simp only [sps] at h7
  refine .z rfl (.z rfl (.z rfl (.z rfl (.z rfl (.q rfl (.pickF rfl rfl) (.mv rfl (.nil (g _ _ ?_))))))))
  refine .ret ?_
  refine d _ _ ?_
  refine ⟨_, rfl, ?_⟩
  first
  | exact ⟨by rw [decide_eq_true h7, Bool.true_and], b⟩
  | exact ⟨by rw [decide_eq_false (by omega), Bool.false_and], b⟩
theorem arrowText_c {g o : Nat} {c : Cat} {p : CatP} {u : Int} {H : GHeap} (h : Cat.At H g o c p := by assumption) (hS : c.Shape := by assumption) (h0 : 0 ≤ u := by omega) (h1 : u < c.src.length := by omega) :
    GCalls Tryd.prog 30 [.pointer (some ⟨g, o, none⟩), .int .i64 u] H (Ret (.string (decB (c.src.getD u.toNat 0).toNat ++ ⟨#[62]⟩ ++ decB (c.tgt.getD u.toNat 0).toNat)) H) := by
  refine GCalls.ret rfl ?_
  have q0 := hS.obj
  have q1 := hS.src u.toNat (by omega)
  have q2 := hS.tl
  have q3 := hS.tgt u.toNat (by omega)
  have d1 := decB_size (c.src.getD u.toNat 0).toNat
  have d2 := decB_size (c.tgt.getD u.toNat 0).toNat
  have z1 : (ByteArray.mk #[62]).size = 1 := rfl
  refine GCalls.body (N := 23) (rs := [.tmp 4]) Tryd.func30 rfl rfl rfl rfl (fun Qx f hend => ?_)
  refine .fg [0, 1] rfl ?_
  have e := GHeap.Le.refl H
  have d := h
  obtain ⟨c0, c1, c2, c3, c4, i1, i2, i3, i4⟩ := h.get
  have hm : MemN _ _ _ _ _ := ⟨rfl, h.1⟩
  have hi := h.2
  refine .seq (fun K1 l => .region (.mv rfl (.nil (l _ _ (.seq (fun K2 j => ?_))))))
  refine .regionD mo_B (.q 0 (.q 1 (.q 2 (.q 3 (.q 4 (.q 5 (.q 6 (.q 9 (.q 10 (.q 11 (.q 12 (.q 13 (.q 14 (.q 15 (.c 7 1 (.q 8 (.c 16 1 (.q 17 (.q 18 (.done)))))))))))))))))))) (by kernel_rfl) ?_
  refine .cut [(0, some _), (1, some _)] ⟨rfl, rfl, trivial⟩ (fun rest fr' H' => ∃ (gV : Nat), Sub ((4, some (.string (decB (c.src.getD u.toNat 0).toNat ++ ⟨#[62]⟩ ++ decB (c.tgt.getD u.toNat 0).toNat))) :: rest) fr' ∧ H.Le H' ∧ gV = 0) ?_ ?_
  ·
   have i := St.refl [] H
   refine .qB rfl (.refl _) (.move rfl) (.qB rfl (.refl _) (.nilCheck rfl) (.qB rfl (.refl _) (.fieldAddr fo_29_1_B rfl) ?_))
   refine .q rfl (.load on_22_B rfl (by assumption)) ?_
   refine .qB rfl (.refl _) (.move rfl) ?_
   refine .q rfl (.idx1 sl_22_A (by assumption) rfl rfl (by omega) (by omega)) ?_
   refine .q rfl (.loadI on_2_A (by assumption) rfl (by omega)) ?_
   refine .qB rfl (.refl _) (.move rfl) (.qB rfl (.refl _) (.nilCheck rfl) (.qB rfl (.refl _) (.fieldAddr fo_29_2_B rfl) ?_))
   refine .q rfl (.load on_22_B rfl (by assumption)) ?_
   refine .qB rfl (.refl _) (.move rfl) ?_
   refine .q rfl (.idx1 sl_22_A (by assumption) rfl rfl (by omega) (by omega)) ?_
   refine .q rfl (.loadI on_2_A (by assumption) rfl (by omega)) ?_
   refine .callQ1 rfl rfl rfl rfl rfl @Tryd.call33 rfl (fmtZ_c) (.refl _) ?_
   refine .qB rfl (.refl _) (.strAdd rfl rfl (by first | omega | (simp only [ByteArray.size_append]; omega))) ?_
   refine .callQ1 rfl rfl rfl rfl rfl @Tryd.call33 rfl (fmtZ_c) (.refl _) ?_
   refine .qB rfl (.refl _) (.strAdd rfl rfl (by first | omega | (simp only [ByteArray.size_append]; omega))) ?_
   refine .qB rfl (.refl _) (.assign rfl) ?_
   refine .done ?_
   exact ⟨_, ⟨rfl, rfl, rfl, trivial⟩, ⟨i.nx, fun k o h => i.same k o trivial h⟩, rfl⟩
  rintro fr901 H901 ⟨gV, a, b, ge901⟩
  have nx_H901 := b.1
  replace e := e.trans b
  replace h := d.mono e
  clear c0 c1 c2 c3 c4 i1 i2 i3 i4 hm hi
  obtain ⟨c0, c1, c2, c3, c4, i1, i2, i3, i4⟩ := h.get
  have hm : MemN _ _ _ _ _ := ⟨rfl, h.1⟩
  have hi := h.2
  refine j _ _ ?_
  refine .forget a ?_
  refine .ret ?_
  refine f _ _ ?_
  refine ⟨_, rfl, ?_⟩
  exact ⟨rfl, e⟩
end Go.Proofs.YtlfnclhkhmkklaaDoor
namespace Go.GL
theorem Cat.cl_code {c : Cat} {f : Int} : c.clC f = c.code [f] := by
  by_cases h : c.Is
  · by_cases h' : 0 ≤ f ∧ f < c.src.length
    · rw [(Cat.cl_0 h h').2, Cat.code_one.2 ⟨h, h'⟩]
    · rw [(Cat.cl_2 h h').2, Cat.code_out h (by rw [allIn_one]; exact h')]
  · rw [(Cat.cl_1 h).2, Cat.code_not h]
theorem Cat.cl_empty {c : Cat} {f : Int} (h : ¬ c.code [f] = 0) : c.clR f = ⟨#[]⟩ := by
  by_cases hI : c.Is
  · by_cases h' : 0 ≤ f ∧ f < c.src.length
    · exact absurd (Cat.code_one.2 ⟨hI, h'⟩) h
    · exact (Cat.cl_2 hI h').1
  · exact (Cat.cl_1 hI).1
end Go.GL
namespace Go.Proofs.YtlfnclhkhmkklaaDoor
open Go Go.GL Go.RowKit Go.Proofs
set_option maxHeartbeats 4000000 in
theorem specLine_c {c : Cat} {p : CatP} {f : Int} {H : GHeap} (hin : c.In H p := by assumption) (hs : c.Small := by assumption) :
    GCalls Tryd.prog 7 [.agg (c.cells p).toArray, .int .i64 f] H (Ret (.tuple #[.string (c.clR f), .int .i64 (c.clC f)]) H) := by
  refine GCalls.ret rfl ?_
  obtain ⟨n1, n2, n3, n4, n5, n6⟩ := id hs
  have z1 : (ByteArray.mk #[62]).size = 1 := rfl
  have z2 : (ByteArray.mk #[58]).size = 1 := rfl
  have z3 : (ByteArray.mk #[32]).size = 1 := rfl
  have z4 : (ByteArray.mk #[61]).size = 1 := rfl
  refine GCalls.body (N := 71) (rs := [.tmp 4, .tmp 5]) Tryd.func7 rfl rfl rfl rfl (fun Qx n hend => ?_)
  refine .fg [0, 1] rfl ?_
  have h := GHeap.Le.refl H
  have a := hin
  refine .seq (fun K1 b7 => .region ?_)
  refine .R rfl (.boxR rfl sz_29_D rfl) ?_
  rintro _ H2 ⟨g2, rfl, a9, ge2, b⟩
  have nx_H2 := a9.1
  replace h := h.trans a9
  have lt_at2 := GHeap.ltg b
  replace hin := a.mono h
  have j : Cat.At _ g2 0 c p := ⟨Mem.of_get b, hin⟩
  obtain ⟨a7, a4, a1, b0, a5, a2, a0, a6, v⟩ := j.get
  have a8 : MemN _ _ _ _ _ := ⟨rfl, j.1⟩
  have a3 := j.2
  refine .mv rfl (.mv rfl (.nil (b7 _ _ (.seq (fun K2 b1 => .seq (fun K3 b6 => .region ?_))))))
  refine .q rfl (.loadM ag_29_D rfl ⟨rfl, Mem.of_get b⟩) ?_
  refine .callQ rfl rfl rfl rfl @Tryd.call23 rfl (l02Is_c) ?_
  refine .q rfl (.not rfl) (.nil (b6 _ _ ?_))
  refine .cond rfl (fun d => ?_) (fun d => ?_)
  ·
   try simp only [sps] at d
   refine .seq (fun K4 b3 => .region (.mv rfl (.mv rfl (.nil (b3 _ _ ?_)))))
   refine .ret ?_
   refine n _ _ ?_
   refine ⟨_, _, rfl, rfl, ?_⟩
   exact ⟨by rw [(Cat.cl_1 d).1, (Cat.cl_1 d).2], h⟩
  simp only [sps] at d
  have hS := d.1
  have q0 := hS.obj
  have q2 := hS.tl
  have q4 := hS.n40
  have q5 := hS.cl
  refine .skip ?_
  refine b1 _ _ (.seq (fun K5 b9 => .seq (fun K6 b2 => .region ?_)))
  refine .q rfl (.loadM ag_29_D rfl ⟨rfl, Mem.of_get b⟩) ?_
  refine .mv rfl ?_
  refine .callQ rfl rfl rfl rfl @Tryd.call24 rfl (l02ArrowT_c) ?_
  refine .q rfl (.not rfl) (.nil (b2 _ _ ?_))
  refine .cond rfl (fun w => ?_) (fun w => ?_)
  ·
   simp only [sps] at w
   refine .seq (fun K7 b5 => .region (.mv rfl (.mv rfl (.nil (b5 _ _ ?_)))))
   refine .ret ?_
   refine n _ _ ?_
   refine ⟨_, _, rfl, rfl, ?_⟩
   first
   | exact ⟨by rw [(Cat.cl_2 d (by omega)).1, (Cat.cl_2 d (by omega)).2], h⟩
   | exact ⟨by rw [(Cat.cl_0 d (by omega)).1, (Cat.cl_0 d (by omega)).2, hsz, show k = c.src.length by omega], h⟩
  simp only [sps] at w
  refine .skip ?_
  refine b9 _ _ (.seq (fun K8 b4 => ?_))
  refine .regionD mo_B (.q 0 (.q 1 (.q 2 (.q 3 (.q 4 (.q 7 (.q 8 (.q 9 (.q 10 (.q 11 (.c 5 1 (.q 6 (.c 12 1 (.q 13 (.q 14 (.q 15 (.done))))))))))))))))) (by kernel_rfl) ?_
  have q1 := hS.src f.toNat (by omega)
  have q3 := hS.tgt f.toNat (by omega)
  have d1 := decB_size (c.src.getD f.toNat 0).toNat
  have d2 := decB_size (c.tgt.getD f.toNat 0).toNat
  have q6 := hS.row f.toNat (by omega)
  refine .q rfl (.fieldAddr fo_29_1_B rfl) ?_
  refine .q rfl (.load on_22_B rfl (by first | assumption | exact Mem.of_get b 1 _ rfl)) ?_
  refine .mv rfl rfl ?_
  refine .q rfl (.idx1 sl_22_A (by assumption) rfl rfl (by omega) (by omega)) ?_
  refine .q rfl (.loadI on_2_A (by assumption) rfl (by omega)) ?_
  refine .q rfl (.fieldAddr fo_29_2_B rfl) ?_
  refine .q rfl (.load on_22_B rfl (by first | assumption | exact Mem.of_get b 2 _ rfl)) ?_
  refine .mv rfl rfl ?_
  refine .q rfl (.idx1 sl_22_A (by assumption) rfl rfl (by omega) (by omega)) ?_
  refine .q rfl (.loadI on_2_A (by assumption) rfl (by omega)) ?_
  refine .callQ1 rfl rfl rfl rfl rfl @Tryd.call25 rfl (l01DecZ_c) (.refl _) ?_
  refine .q rfl (.strAdd rfl rfl (by first | omega | (simp only [ByteArray.size_append]; omega))) ?_
  refine .callQ1 rfl rfl rfl rfl rfl @Tryd.call25 rfl (l01DecZ_c) (.refl _) ?_
  refine .q rfl (.strAdd rfl rfl (by first | omega | (simp only [ByteArray.size_append]; omega))) ?_
  refine .q rfl (.strAdd rfl rfl (by first | omega | (simp only [ByteArray.size_append]; omega))) ?_
  refine .mv rfl rfl ?_
  refine .done ?_
  refine b4 _ _ (.seq (fun K9 b8 => .seq (fun K10 y => .region (.mv rfl (.nil (y _ _ ?_))))))
  refine .block ?_
  refine .loopR (σ := Nat × ByteArray) [(1, some _), (2, some _)] (fun (k, s) => [(7, some (.int .i64 (k : Int))), (6, some (.string s))]) (fun (k, s) H' => St [] H2 H' ∧ k ≤ c.src.length ∧ s = c.clS f.toNat k) (fun (k, s) => c.src.length - k) ((0, c.clS f.toNat 0)) ⟨rfl, rfl, trivial⟩ ⟨rfl, rfl, trivial⟩ ?_ ?_
  ·
   refine ⟨.refl _ _, ?_⟩
   exact ⟨by omega, rfl⟩
  rintro ⟨k, s⟩ HL1 ⟨e, hI⟩ KL1 l
  refine .forget (fr' := [(7, some (.int .i64 (k : Int))), (6, some (.string s)), (1, some _), (2, some _)]) ⟨rfl, rfl, rfl, rfl, trivial⟩ ?_
  have nx_HL1 := e.nx
  replace h := h.st e (fun k hk => trivial)
  replace b := e.same _ _ trivial b
  replace hin := a.mono h
  clear j a7 a4 a1 b0 a5 a2 a0 a6 v a8 a3
  have j : Cat.At _ g2 0 c p := ⟨Mem.of_get b, hin⟩
  obtain ⟨a7, a4, a1, b0, a5, a2, a0, a6, v⟩ := j.get
  have a8 : MemN _ _ _ _ _ := ⟨rfl, j.1⟩
  have a3 := j.2
  obtain ⟨hk, hsz⟩ := hI
  have sz := c.clS_size f.toNat k
  rw [← hsz] at sz
  refine .seq (fun K11 x => .seq (fun K12 t => .region (.mv rfl (.q rfl (.fieldAddr fo_29_1_B rfl) ?_))))
  refine .q rfl (.load on_22_B rfl (by first | assumption | exact Mem.of_get b 1 _ rfl)) ?_
  refine .q rfl (.len sl_22_A rfl) (.q rfl (.cmp rfl rfl rfl) (.nil (t _ _ ?_)))
  refine .cond rfl (fun r => ?_) (fun r => ?_)
  ·
   simp only [sps] at r
   have r1 := hS.src k (by omega)
   refine .skip ?_
   refine x _ _ (.seq (fun K13 m => ?_))
   refine .block ?_
   refine .seq (fun K14 o => ?_)
   refine .regionD mo_B (.q 0 (.q 1 (.q 2 (.q 3 (.q 4 (.q 5 (.q 6 (.q 7 (.q 8 (.q 9 (.q 10 (.q 11 (.q 12 (.q 13 (.c 14 0 (.q 15 (.q 16 (.done)))))))))))))))))) (by kernel_rfl) ?_
   refine .q rfl (.fieldAddr fo_29_2_B rfl) ?_
   refine .q rfl (.load on_22_B rfl (by first | assumption | exact Mem.of_get b 2 _ rfl)) ?_
   refine .mv rfl rfl ?_
   refine .q rfl (.idx1 sl_22_A (by assumption) rfl rfl (by omega) (by omega)) ?_
   refine .q rfl (.loadI on_2_A (by assumption) rfl (by omega)) ?_
   refine .q rfl (.fieldAddr fo_29_1_B rfl) ?_
   refine .q rfl (.load on_22_B rfl (by first | assumption | exact Mem.of_get b 1 _ rfl)) ?_
   refine .mv rfl rfl ?_
   refine .q rfl (.idxN sl_22_A (by assumption) rfl rfl (by omega)) ?_
   refine .q rfl (.loadI on_2_A (by assumption) rfl (by omega)) ?_
   refine .q rfl (.cmp rfl rfl rfl) (.mv rfl rfl ?_)
   refine .split (fun i => ?_) (fun i => ?_)
   ·
    simp only [sps] at i
    refine .qg rfl (.loadM ag_29_D rfl ⟨rfl, Mem.of_get b⟩) ?_
    refine .qg rfl (.move rfl) ?_
    refine .callQ0g rfl rfl rfl rfl rfl rfl rfl @Tryd.call26 rfl (l02Unit_c) ?_
    refine .qg rfl (.not rfl) (.q rfl (.pickT rfl rfl) ?_)
    refine .done ?_
    refine o _ _ ?_
    refine .cond rfl (fun g => ?_) (fun g => ?_)
    ·
     simp only [sps] at g
     refine .regionD mo_B (.q 0 (.q 1 (.q 2 (.q 6 (.q 7 (.q 8 (.q 9 (.q 10 (.q 11 (.q 12 (.q 13 (.c 3 1 (.q 4 (.q 5 (.c 14 1 (.q 15 (.c 16 0 (.done)))))))))))))))))) (by kernel_rfl) ?_
     have u1 := v.2 f.toNat (by omega)
     have d3 := decB_size (k : Int).toNat
     have d4 := decB_size ((c.comp.getD f.toNat []).getD k 0).toNat
     have q7 := (Cat.Cell.pos i).1 (hS.cell f.toNat (by omega) k (by omega))
     refine .mv rfl rfl ?_
     refine .q rfl (.strAdd rfl rfl (by first | omega | (simp only [ByteArray.size_append]; omega))) ?_
     refine .mv rfl rfl (.q rfl (.fieldAddr fo_29_4_B rfl) ?_)
     refine .q rfl (.load on_23_B rfl (by first | assumption | exact Mem.of_get b 4 _ rfl)) ?_
     refine .mv rfl rfl ?_
     refine .q rfl (.idx1 sl_23_B (Intss.sl (by assumption)) rfl rfl (by omega) (by omega)) ?_
     refine .q rfl (.loadR on_22_B (by assumption) rfl (by omega)) ?_
     refine .mv rfl rfl ?_
     refine .q rfl (.idxN sl_22_A (by assumption) rfl rfl (by omega)) ?_
     refine .q rfl (.loadI on_2_A (by assumption) rfl (by omega)) ?_
     refine .callQ1 rfl rfl rfl rfl rfl @Tryd.call25 rfl (l01DecZ_c) (.refl _) ?_
     refine .q rfl (.strAdd rfl rfl (by first | omega | (simp only [ByteArray.size_append]; omega))) ?_
     refine .q rfl (.strAdd rfl rfl (by first | omega | (simp only [ByteArray.size_append]; omega))) ?_
     refine .callQ1 rfl rfl rfl rfl rfl @Tryd.call25 rfl (l01DecZ_c) (.refl _) ?_
     refine .q rfl (.strAdd rfl rfl (by first | omega | (simp only [ByteArray.size_append]; omega))) ?_
     refine .d0 rfl rfl rfl rfl (.quiet (.assign rfl) CIs.mk) ?_
     refine .done ?_
     refine m _ _ (.region (.mv rfl ?_))
     refine .q rfl (.add rfl rfl rfl (by omega) (by omega)) ?_
     refine .mv rfl (.nil ?_)
     refine l ((k + 1, _)) _ _ ?_ ?_ ⟨rfl, rfl, rfl, rfl, trivial⟩
     ·
      refine ⟨e, ?_⟩
      first
      | exact ⟨by omega, by rw [Cat.clS_T ⟨i, g⟩, ← hsz]; rfl⟩
      | exact ⟨by omega, by rw [Cat.clS_F (c := c) (f := f.toNat) (k := k) fun hh => hh.2 g]; exact hsz⟩
      | exact ⟨by omega, by rw [Cat.clS_F (c := c) (f := f.toNat) (k := k) fun hh => g hh.2]; exact hsz⟩
      | exact ⟨by omega, by rw [Cat.clS_F (c := c) (f := f.toNat) (k := k) fun hh => i hh.1]; exact hsz⟩
     (dsimp only; omega)
    simp only [sps] at g
    refine .skip ?_
    refine m _ _ (.region (.mv rfl ?_))
    refine .q rfl (.add rfl rfl rfl (by omega) (by omega)) ?_
    refine .mv rfl (.nil ?_)
    refine l ((k + 1, _)) _ _ ?_ ?_ ⟨rfl, rfl, rfl, rfl, trivial⟩
    ·
     refine ⟨e, ?_⟩
     first
     | exact ⟨by omega, by rw [Cat.clS_T ⟨i, g⟩, ← hsz]; rfl⟩
     | exact ⟨by omega, by rw [Cat.clS_F (c := c) (f := f.toNat) (k := k) fun hh => hh.2 g]; exact hsz⟩
     | exact ⟨by omega, by rw [Cat.clS_F (c := c) (f := f.toNat) (k := k) fun hh => g hh.2]; exact hsz⟩
     | exact ⟨by omega, by rw [Cat.clS_F (c := c) (f := f.toNat) (k := k) fun hh => i hh.1]; exact hsz⟩
    (dsimp only; omega)
   simp only [sps] at i
   refine .z rfl (.z rfl (.sgc rfl rfl rfl rfl rfl rfl (.z rfl (.q rfl (.pickF rfl rfl) ?_))))
   refine .done ?_
   refine o _ _ ?_
   refine .condF rfl ?_
   refine .skip ?_
   refine m _ _ (.region (.mv rfl ?_))
   refine .q rfl (.add rfl rfl rfl (by omega) (by omega)) ?_
   refine .mv rfl (.nil ?_)
   refine l ((k + 1, _)) _ _ ?_ ?_ ⟨rfl, rfl, rfl, rfl, trivial⟩
   ·
    refine ⟨e, ?_⟩
    first
    | exact ⟨by omega, by rw [Cat.clS_T ⟨i, g⟩, ← hsz]; rfl⟩
    | exact ⟨by omega, by rw [Cat.clS_F (c := c) (f := f.toNat) (k := k) fun hh => hh.2 g]; exact hsz⟩
    | exact ⟨by omega, by rw [Cat.clS_F (c := c) (f := f.toNat) (k := k) fun hh => g hh.2]; exact hsz⟩
    | exact ⟨by omega, by rw [Cat.clS_F (c := c) (f := f.toNat) (k := k) fun hh => i hh.1]; exact hsz⟩
   (dsimp only; omega)
  try simp only [sps] at r
  refine .exit ?_
  refine b8 _ _ (.seq (fun K15 u => .region (.mv rfl (.mv rfl (.mv rfl (.nil (u _ _ ?_)))))))
  refine .ret ?_
  refine n _ _ ?_
  refine ⟨_, _, rfl, rfl, ?_⟩
  first
  | exact ⟨by rw [(Cat.cl_2 d (by omega)).1, (Cat.cl_2 d (by omega)).2], h⟩
  | exact ⟨by rw [(Cat.cl_0 d (by omega)).1, (Cat.cl_0 d (by omega)).2, hsz, show k = c.src.length by omega], h⟩
set_option maxHeartbeats 4000000 in
theorem implLine_c {c : Cat} {p : CatP} {f : Int} {H : GHeap} (hin : c.In H p := by assumption) (hs : c.Small := by assumption) :
    GCalls Tryd.prog 9 [.agg (c.cells p).toArray, .int .i64 f] H (Ret (.tuple #[.string (c.clR f), .int .i64 (c.clC f)]) H) := by
  refine GCalls.ret rfl ?_
  obtain ⟨n1, n2, n3, n4, n5, n6⟩ := id hs
  have z2 : (ByteArray.mk #[58]).size = 1 := rfl
  have z3 : (ByteArray.mk #[32]).size = 1 := rfl
  have z4 : (ByteArray.mk #[61]).size = 1 := rfl
  refine GCalls.body (N := 48) (rs := [.tmp 4, .tmp 5]) Tryd.func9 rfl rfl rfl rfl (fun Qx u hend => ?_)
  refine .fg [0, 1] rfl ?_
  have e := GHeap.Le.refl H
  have a := hin
  refine .seq (fun K1 c1 => .region ?_)
  refine .R rfl (.boxR rfl sz_29_D rfl) ?_
  rintro _ H2 ⟨g2, rfl, b3, ge2, g⟩
  have nx_H2 := b3.1
  replace e := e.trans b3
  have lt_at2 := GHeap.ltg g
  replace hin := a.mono e
  have d : Cat.At _ g2 0 c p := ⟨Mem.of_get g, hin⟩
  obtain ⟨a4, a1, x, v, a2, y, w, a3, o⟩ := d.get
  have a5 : MemN _ _ _ _ _ := ⟨rfl, d.1⟩
  have a0 := d.2
  refine .mv rfl (.mv rfl (.nil (c1 _ _ (.seq (fun K2 b4 => .seq (fun K3 c0 => .region (.mv rfl ?_)))))))
  refine .R rfl (.litA rfl sl_22_A ze_2_E rfl rfl rfl rfl) ?_
  rintro _ b8 ⟨g11, rfl, m, ge11, i⟩
  have nx_H11 := m.1
  replace e := e.trans m
  replace g := m.2 _ _ g
  have lt_at11 := GHeap.ltg i
  replace hin := a.mono e
  clear d a4 a1 x v a2 y w a3 o a5 a0
  have d : Cat.At _ g2 0 c p := ⟨Mem.of_get g, hin⟩
  obtain ⟨a4, a1, x, v, a2, y, w, a3, o⟩ := d.get
  have a5 : MemN _ _ _ _ _ := ⟨rfl, d.1⟩
  have a0 := d.2
  refine .callQ rfl rfl rfl rfl @Tryd.call29 rfl (arrowCode_c (xs := [f]) (hx := Ints.of_get i) (hl := by simp)) ?_
  refine .mv rfl (.nil (c0 _ _ (.seq (fun K4 b6 => .region (.mv rfl (.q rfl (.cmp rfl rfl rfl) (.nil (b6 _ _ ?_))))))))
  refine .cond rfl (fun r => ?_) (fun r => ?_)
  ·
   try simp only [sps] at r
   refine .seq (fun K5 c3 => .region (.mv rfl (.mv rfl (.mv rfl (.nil (c3 _ _ ?_))))))
   refine .ret ?_
   refine u _ _ ?_
   refine ⟨_, _, rfl, rfl, ?_⟩
   exact ⟨by rw [Cat.cl_empty r, Cat.cl_code], e⟩
  simp only [sps] at r
  obtain ⟨hI, b2, b1⟩ := Cat.code_one.1 r
  have hS := hI.1
  have q0 := hS.obj
  have q2 := hS.tl
  have q4 := hS.n40
  have q5 := hS.cl
  have q1 := hS.src f.toNat (by omega)
  have q3 := hS.tgt f.toNat (by omega)
  have d1 := decB_size (c.src.getD f.toNat 0).toNat
  have d2 := decB_size (c.tgt.getD f.toNat 0).toNat
  have q6 := hS.row f.toNat (by omega)
  have z1 : (ByteArray.mk #[62]).size = 1 := rfl
  refine .skip ?_
  refine b4 _ _ (.seq (fun K6 b5 => .region (.mv rfl ?_)))
  refine .callQ rfl rfl rfl rfl @Tryd.call30 rfl (arrowText_c) ?_
  refine .q rfl (.strAdd rfl rfl (by first | omega | (simp only [ByteArray.size_append]; omega))) ?_
  refine .mv rfl (.nil (b5 _ _ (.seq (fun K7 b9 => .seq (fun K8 b7 => .region (.q rfl (.fieldAddr fo_29_4_B rfl) ?_))))))
  refine .q rfl (.load on_23_B rfl (by first | assumption | exact Mem.of_get g 4 _ rfl)) ?_
  refine .mv rfl ?_
  refine .q rfl (.idx1 sl_23_B (Intss.sl (by assumption)) rfl rfl (by omega) (by omega)) ?_
  refine .q rfl (.loadR on_22_B (by assumption) rfl (by omega)) ?_
  refine .q rfl (.len sl_22_A rfl) (.mv rfl (.nil (b7 _ _ ?_)))
  refine .block ?_
  have u1 := o.2 f.toNat (by omega)
  refine .loopR (σ := Nat × ByteArray) [(2, some _), (23, some _), (24, some _)] (fun (k, s) => [(25, some (.int .i64 (k : Int))), (7, some (.string s))]) (fun (k, s) H' => St [] b8 H' ∧ k ≤ c.src.length ∧ s = c.clS f.toNat k) (fun (k, s) => c.src.length - k) ((0, c.clS f.toNat 0)) ⟨rfl, rfl, rfl, trivial⟩ ⟨rfl, rfl, trivial⟩ ?_ ?_
  ·
   refine ⟨.refl _ _, ?_⟩
   exact ⟨by omega, rfl⟩
  rintro ⟨k, s⟩ HL1 ⟨b, hI⟩ KL1 j
  refine .forget (fr' := [(25, some (.int .i64 (k : Int))), (7, some (.string s)), (2, some _), (23, some _), (24, some _)]) ⟨rfl, rfl, rfl, rfl, rfl, trivial⟩ ?_
  have nx_HL1 := b.nx
  replace e := e.st b (fun k hk => trivial)
  replace g := b.same _ _ trivial g
  replace i := b.same _ _ trivial i
  replace hin := a.mono e
  clear d a4 a1 x v a2 y w a3 o a5 a0
  have d : Cat.At _ g2 0 c p := ⟨Mem.of_get g, hin⟩
  obtain ⟨a4, a1, x, v, a2, y, w, a3, o⟩ := d.get
  have a5 : MemN _ _ _ _ _ := ⟨rfl, d.1⟩
  have a0 := d.2
  obtain ⟨hk, hsz⟩ := hI
  have sz := c.clS_size f.toNat k
  rw [← hsz] at sz
  have u1 := o.2 f.toNat (by omega)
  refine .seq (fun K9 c2 => .region (.q rfl (.cmp rfl rfl rfl) (.nil (c2 _ _ (.seq (fun K10 b0 => ?_))))))
  refine .cond rfl (fun a6 => ?_) (fun a6 => ?_)
  ·
   simp only [sps] at a6
   have r1 := hS.src k (by omega)
   have d3 := decB_size (k : Int).toNat
   have d4 := decB_size ((c.comp.getD f.toNat []).getD k 0).toNat
   have hce := hS.cell f.toNat (by omega) k (by omega)
   refine .skip ?_
   refine b0 _ _ (.seq (fun K11 l => ?_))
   refine .block ?_
   refine .seq (fun K12 a8 => .region (.mv rfl ?_))
   refine .q rfl (.idxN sl_22_A (by assumption) rfl rfl (by omega)) ?_
   refine .q rfl (.loadI on_2_A (by assumption) rfl (by omega)) ?_
   refine .mv rfl (.mv rfl (.nil (a8 _ _ (.seq (fun K13 t => .region (.mv rfl (.q rfl (.cmp rfl rfl rfl) (.mv rfl ?_))))))))
   refine .split (fun a9 => ?_) (fun a9 => ?_)
   ·
    simp only [sps] at a9
    have hq : c.tgt.getD f.toNat 0 = c.src.getD k 0 := Classical.byContradiction fun n => by have := (Cat.Cell.neg n).1 hce; omega
    have q7 := (Cat.Cell.pos hq).1 hce
    refine .qg rfl (.move rfl) ?_
    refine .callQg rfl rfl rfl rfl rfl rfl @Tryd.call31 rfl (isIdT_c) ?_
    refine .qg rfl (.not rfl) (.q rfl (.pickT rfl rfl) (.nil (t _ _ ?_)))
    refine .cond rfl (fun h => ?_) (fun h => ?_)
    ·
     simp only [sps] at h
     refine .region (.mv rfl (.mv rfl ?_))
     refine .callQ rfl rfl rfl rfl @Tryd.call32 rfl (itoaZ_c) ?_
     refine .q rfl (.strAdd rfl rfl (by first | omega | (simp only [ByteArray.size_append]; omega))) ?_
     refine .q rfl (.strAdd rfl rfl (by first | omega | (simp only [ByteArray.size_append]; omega))) ?_
     refine .mv rfl ?_
     refine .callQ rfl rfl rfl rfl @Tryd.call33 rfl (fmtZ_c) ?_
     refine .q rfl (.strAdd rfl rfl (by first | omega | (simp only [ByteArray.size_append]; omega))) ?_
     refine .q rfl (.strAdd rfl rfl (by first | omega | (simp only [ByteArray.size_append]; omega))) ?_
     refine .mv rfl (.nil (l _ _ (.region ?_)))
     refine .q rfl (.add rfl rfl rfl (by omega) (by omega)) ?_
     refine .mv rfl (.nil ?_)
     refine j ((k + 1, _)) _ _ ?_ ?_ ⟨rfl, rfl, rfl, rfl, rfl, trivial⟩
     ·
      refine ⟨b, ?_⟩
      first
      | exact ⟨by omega, by rw [Cat.clS_T (c := c) (f := f.toNat) (k := k) ⟨hq, h⟩, ← hsz]; simp only [ByteArray.append_assoc]; rfl⟩
      | exact ⟨by omega, by rw [Cat.clS_F (c := c) (f := f.toNat) (k := k) fun hh => hh.2 h]; exact hsz⟩
      | exact ⟨by omega, by rw [Cat.clS_F (c := c) (f := f.toNat) (k := k) hq]; exact hsz⟩
     (dsimp only; omega)
    simp only [sps] at h
    refine .skip ?_
    refine l _ _ (.region ?_)
    refine .q rfl (.add rfl rfl rfl (by omega) (by omega)) ?_
    refine .mv rfl (.nil ?_)
    refine j ((k + 1, _)) _ _ ?_ ?_ ⟨rfl, rfl, rfl, rfl, rfl, trivial⟩
    ·
     refine ⟨b, ?_⟩
     first
     | exact ⟨by omega, by rw [Cat.clS_T (c := c) (f := f.toNat) (k := k) ⟨hq, h⟩, ← hsz]; simp only [ByteArray.append_assoc]; rfl⟩
     | exact ⟨by omega, by rw [Cat.clS_F (c := c) (f := f.toNat) (k := k) fun hh => hh.2 h]; exact hsz⟩
     | exact ⟨by omega, by rw [Cat.clS_F (c := c) (f := f.toNat) (k := k) hq]; exact hsz⟩
    (dsimp only; omega)
   simp only [sps] at a9
   have hq : ¬ c.clQ f.toNat k := fun hh => by have := (Cat.Cell.pos hh.1).1 hce; omega
   refine .z rfl (.z rfl (.z rfl (.q rfl (.pickF rfl rfl) (.nil (t _ _ ?_)))))
   refine .condF rfl ?_
   refine .skip ?_
   refine l _ _ (.region ?_)
   refine .q rfl (.add rfl rfl rfl (by omega) (by omega)) ?_
   refine .mv rfl (.nil ?_)
   refine j ((k + 1, _)) _ _ ?_ ?_ ⟨rfl, rfl, rfl, rfl, rfl, trivial⟩
   ·
    refine ⟨b, ?_⟩
    first
    | exact ⟨by omega, by rw [Cat.clS_T (c := c) (f := f.toNat) (k := k) ⟨hq, h⟩, ← hsz]; simp only [ByteArray.append_assoc]; rfl⟩
    | exact ⟨by omega, by rw [Cat.clS_F (c := c) (f := f.toNat) (k := k) fun hh => hh.2 h]; exact hsz⟩
    | exact ⟨by omega, by rw [Cat.clS_F (c := c) (f := f.toNat) (k := k) hq]; exact hsz⟩
   (dsimp only; omega)
  try simp only [sps] at a6
  refine .exit ?_
  refine b9 _ _ (.seq (fun K14 a7 => .region (.mv rfl (.mv rfl (.mv rfl (.nil (a7 _ _ ?_)))))))
  refine .ret ?_
  refine u _ _ ?_
  refine ⟨_, _, rfl, rfl, ?_⟩
  exact ⟨by rw [(Cat.cl_0 hI ⟨b2, b1⟩).1, (Cat.cl_0 hI ⟨b2, b1⟩).2, hsz, show k = c.src.length by omega], e⟩
end Go.Proofs.YtlfnclhkhmkklaaDoor
namespace Go.Proofs.YtlfnclhkhmkklaaDoor
open Go Go.GL Go.RowKit Go.Proofs
theorem ag_25_LCategoryLine : aggT Tryd.prog 25 = some 5 := by kernel_rfl
set_option maxHeartbeats 40000000 in
theorem lawCategoryLine_c {c : Cat} {p : CatP} {f : Int} {H : GHeap} (h0 : c.In H p) (w0 : c.Wide) (_ : I64 f) :
    GCalls Tryd.prog 3 [.agg (c.cells p).toArray, .int .i64 f] H (fun v _ => v = .bool true) := by
  refine GCalls.body (N := 44) (rs := [.tmp 4]) Tryd.func3 rfl rfl rfl rfl (fun Qx t hend => ?_)
  refine .fg [0, 1] rfl ?_
  have m := GHeap.Le.refl H
  have d := h0
  refine .seq (fun K1 e2 => .region ?_)
  refine .R rfl (.boxR rfl sz_25_E rfl) ?_
  rintro _ H2 ⟨g2, rfl, d3, ge2, j⟩
  have nx_H2 := d3.1
  replace m := m.trans d3
  have lt_at2 := GHeap.ltg j
  replace h0 := d.mono m
  have g : Cat.At _ g2 0 c p := ⟨Mem.of_get j, h0⟩
  obtain ⟨a5, a1, x, a7, a2, y, w, a4, a3⟩ := g.get
  have a6 : MemN _ _ _ _ _ := ⟨rfl, g.1⟩
  have a0 := g.2
  refine .mv rfl (.nil (e2 _ _ (.seq (fun K2 d4 => .region (.mv rfl (.nil (d4 _ _ (.seq (fun K3 e1 => .region ?_)))))))))
  refine .q rfl (.loadM ag_25_LCategoryLine rfl ⟨rfl, Mem.of_get j⟩) ?_
  refine .mv rfl ?_
  refine .call rfl rfl rfl rfl @Tryd.call6 rfl (szCategory_c) ?_
  rintro _ _ ⟨heq, lf13, rfl, z113, z213, c1⟩
  obtain rfl := heq.symm
  refine .mv rfl (.nil (e1 _ _ (.seq (fun K4 d7 => .seq (fun K5 e4 => .region (.mv rfl (.q rfl (.cmp rfl rfl rfl) (.nil (e4 _ _ ?_)))))))))
  refine .cond rfl (fun c8 => ?_) (fun c8 => ?_)
  ·
   try simp only [sps] at c8
   refine .seq (fun K6 d6 => .region (.mv rfl (.nil (d6 _ _ ?_))))
   refine .ret ?_
   refine t _ _ ?_
   refine ⟨_, rfl, ?_⟩
   first
   | exact rfl
   | exact absurd trivial (by assumption)
   | contradiction
   | (exfalso; omega)
  simp only [sps] at c8
  have b6 := c1 (by omega)
  have tb13 := b6.tot
  refine .skip ?_
  refine d7 _ _ (.seq (fun K7 e0 => .region ?_))
  refine .q rfl (.loadM ag_25_LCategoryLine rfl ⟨rfl, Mem.of_get j⟩) ?_
  refine .call rfl rfl rfl rfl @Tryd.call8 rfl (toCategory_c) ?_
  rintro _ c3 ⟨b1, p18, rfl, u⟩
  have nx_H18 := b1.1
  replace m := m.trans b1
  replace j := b1.2 _ _ j
  have l := u
  have a : Keep H2.next c3 c3 := fun _ _ _ h => h
  replace h0 := d.mono m
  clear g a5 a1 x a7 a2 y w a4 a3 a6 a0
  have g : Cat.At _ g2 0 c p := ⟨Mem.of_get j, h0⟩
  obtain ⟨a5, a1, x, a7, a2, y, w, a4, a3⟩ := g.get
  have a6 : MemN _ _ _ _ _ := ⟨rfl, g.1⟩
  have a0 := g.2
  have a9 := u.inn
  refine .mv rfl ?_
  refine .callQ rfl rfl rfl rfl @Tryd.call7 rfl (specLine_c) ?_
  refine .mv rfl (.q rfl (.extract rfl rfl) (.q rfl (.extract rfl rfl) (.mv rfl (.mv rfl (.nil (e0 _ _ (.seq (fun K8 d9 => .region ?_))))))))
  refine .q rfl (.loadM ag_25_LCategoryLine rfl ⟨rfl, Mem.of_get j⟩) ?_
  refine .call rfl rfl rfl rfl @Tryd.call8 rfl (toCategory_c) ?_
  rintro _ d0 ⟨a8, p24, rfl, b0⟩
  have nx_H24 := a8.1
  replace m := m.trans a8
  replace j := a8.2 _ _ j
  replace a := Keep.le a a8
  replace u := l.keep a (Nat.le_refl _)
  have n := b0
  have b : Keep c3.next d0 d0 := fun _ _ _ h => h
  replace h0 := d.mono m
  clear g a5 a1 x a7 a2 y w a4 a3 a6 a0
  have g : Cat.At _ g2 0 c p := ⟨Mem.of_get j, h0⟩
  obtain ⟨a5, a1, x, a7, a2, y, w, a4, a3⟩ := g.get
  have a6 : MemN _ _ _ _ _ := ⟨rfl, g.1⟩
  have a0 := g.2
  clear a9
  have a9 := u.inn
  have b2 := b0.inn
  refine .R rfl (.allocR rfl ze_29_E rfl) ?_
  rintro _ H8 ⟨g8, rfl, b3, ge8, d8⟩
  have nx_H8 := b3.1
  replace m := m.trans b3
  replace j := b3.2 _ _ j
  replace a := Keep.le a b3
  replace u := l.keep a (Nat.le_refl _)
  replace b := Keep.le b b3
  replace b0 := n.keep b (Nat.le_refl _)
  have lt_at8 := GHeap.ltg d8
  replace h0 := d.mono m
  clear g a5 a1 x a7 a2 y w a4 a3 a6 a0
  have g : Cat.At _ g2 0 c p := ⟨Mem.of_get j, h0⟩
  obtain ⟨a5, a1, x, a7, a2, y, w, a4, a3⟩ := g.get
  have a6 : MemN _ _ _ _ _ := ⟨rfl, g.1⟩
  have a0 := g.2
  clear a9
  have a9 := u.inn
  clear b2
  have b2 := b0.inn
  refine .r0 rfl rfl (.fillA rfl sz_29_D rfl rfl rfl rfl) ?_
  rintro _ b5 ⟨rfl, i, e⟩
  have nx_H6003 := i.nx
  replace m := m.st i (fun k hk => ⟨by omega, trivial⟩)
  replace j := i.s j
  replace a := Keep.st a i (fun k hb hk => ⟨by omega, trivial⟩)
  replace u := l.keep a (Nat.le_refl _)
  replace b := Keep.st b i (fun k hb hk => ⟨by omega, trivial⟩)
  replace b0 := n.keep b (Nat.le_refl _)
  have lt_at6003 := GHeap.ltg e
  replace h0 := d.mono m
  clear g a5 a1 x a7 a2 y w a4 a3 a6 a0
  have g : Cat.At _ g2 0 c p := ⟨Mem.of_get j, h0⟩
  obtain ⟨a5, a1, x, a7, a2, y, w, a4, a3⟩ := g.get
  have a6 : MemN _ _ _ _ _ := ⟨rfl, g.1⟩
  have a0 := g.2
  clear a9
  have a9 := u.inn
  clear b2
  have b2 := b0.inn
  have r : MemN _ _ _ _ _ := ⟨rfl, Mem.of_get e⟩
  refine .nil (d9 _ _ (.seq (fun K9 e3 => .region ?_)))
  refine .q rfl (.loadM ag_29_D rfl ⟨rfl, Mem.of_get e⟩) ?_
  refine .mv rfl ?_
  refine .callQ rfl rfl rfl rfl @Tryd.call9 rfl (implLine_c) ?_
  refine .mv rfl (.q rfl (.extract rfl rfl) (.q rfl (.extract rfl rfl) (.mv rfl (.mv rfl (.nil (e3 _ _ (.seq (fun K10 c9 => .seq (fun K11 b4 => .region (.mv rfl (.mv rfl (.q rfl (.strCmp rfl rfl rfl) (.mv rfl ?_)))))))))))))
  refine .split (fun b8 => ?_) (fun b8 => ?_)
  ·
   try simp only [sps] at b8
   refine .z rfl (.z rfl (.z rfl (.q rfl (.pickT rfl rfl) (.nil (b4 _ _ ?_)))))
   refine .condT rfl ?_
   refine .seq (fun K12 b9 => .region (.mv rfl (.nil (b9 _ _ ?_))))
   refine .ret ?_
   refine t _ _ ?_
   refine ⟨_, rfl, ?_⟩
   first
   | exact rfl
   | exact absurd trivial (by assumption)
   | contradiction
   | (exfalso; omega)
  try simp only [sps] at b8
  refine .qg rfl (.move rfl) (.qg rfl (.move rfl) (.qg rfl (.cmp rfl rfl rfl) (.q rfl (.pickF rfl rfl) (.nil (b4 _ _ ?_)))))
  refine .cond rfl (fun c2 => ?_) (fun c2 => ?_)
  ·
   try simp only [sps] at c2
   refine .seq (fun K13 c6 => .region (.mv rfl (.nil (c6 _ _ ?_))))
   refine .ret ?_
   refine t _ _ ?_
   refine ⟨_, rfl, ?_⟩
   first
   | exact rfl
   | exact absurd trivial (by assumption)
   | contradiction
   | (exfalso; omega)
  try simp only [sps] at c2
  refine .skip ?_
  refine c9 _ _ (.seq (fun K14 b7 => .seq (fun K15 c0 => ?_)))
  refine .regionD mo_B (.q 0 (.q 1 (.c 2 1 (.c 3 0 (.q 4 (.done)))))) (by kernel_rfl) ?_
  refine .q rfl (.loadM ag_29_D rfl ⟨rfl, Mem.of_get e⟩) ?_
  refine .q rfl (.loadM ag_25_LCategoryLine rfl ⟨rfl, Mem.of_get j⟩) ?_
  refine .call1 rfl rfl rfl rfl rfl @Tryd.call8 rfl (toCategory_c) ?_
  rintro _ d1 ⟨o, p41, rfl, d2⟩
  have d5 := o
  refine ⟨d5, ?_⟩
  have nx_H41 := o.1
  replace m := m.trans o
  replace j := o.2 _ _ j
  replace e := o.2 _ _ e
  replace a := Keep.le a o
  replace u := l.keep a (Nat.le_refl _)
  replace b := Keep.le b o
  replace b0 := n.keep b (Nat.le_refl _)
  have bs_v41 := d2
  have lv_v41 : Keep b5.next d1 d1 := fun _ _ _ h => h
  replace h0 := d.mono m
  clear g a5 a1 x a7 a2 y w a4 a3 a6 a0
  have g : Cat.At _ g2 0 c p := ⟨Mem.of_get j, h0⟩
  obtain ⟨a5, a1, x, a7, a2, y, w, a4, a3⟩ := g.get
  have a6 : MemN _ _ _ _ _ := ⟨rfl, g.1⟩
  have a0 := g.2
  clear a9
  have a9 := u.inn
  clear b2
  have b2 := b0.inn
  clear r
  have r : MemN _ _ _ _ _ := ⟨rfl, Mem.of_get e⟩
  have i41 := d2.inn
  refine .callQ0 rfl rfl rfl rfl rfl @Tryd.call10 rfl (eqCategory_c) ?_
  refine .q rfl (.not rfl) ?_
  refine .done ?_
  refine c0 _ _ ?_
  refine .cond rfl (fun c5 => ?_) (fun c5 => ?_)
  ·
   try simp only [sps] at c5
   refine .seq (fun K16 c7 => .region (.mv rfl (.nil (c7 _ _ ?_))))
   refine .ret ?_
   refine t _ _ ?_
   refine ⟨_, rfl, ?_⟩
   first
   | exact rfl
   | exact absurd trivial (by assumption)
   | contradiction
   | (exfalso; omega)
  try simp only [sps] at c5
  refine .skip ?_
  refine b7 _ _ (.seq (fun K17 c4 => .region (.mv rfl (.nil (c4 _ _ ?_)))))
  refine .ret ?_
  refine t _ _ ?_
  refine ⟨_, rfl, ?_⟩
  first
  | exact rfl
  | exact absurd trivial (by assumption)
  | contradiction
  | (exfalso; omega)
end Go.Proofs.YtlfnclhkhmkklaaDoor
