/- What a caller hands in, brought into a ghost heap; the last step of a row that says 'true, and the arguments read as they did'. No condition. -/
import Derived.Test.YtlfnclhkhmkklaaDoorZ6
import Derived.Below
import Derived.ChangeSame
import Derived.ChangeSlices
import Derived.Deep.Slices
import Derived.Deep.Matrix
import Derived.WideKeyArgs
import Derived.MapKept
namespace Go.GL
open Go.RowKit Go.WideShapes Go.ChangeShapes Go.Deep

def GHeap.gap (H : GHeap) : GHeap := ⟨H.objs ++ [none]⟩
@[simp] theorem GHeap.next_gap (H : GHeap) : H.gap.next = H.next + 1 := by simp [GHeap.next, GHeap.gap]
theorem GHeap.get_gap (H : GHeap) (g : Nat) : H.gap.get g = H.get g := by
  unfold GHeap.get GHeap.gap
  simp only
  rcases Nat.lt_or_ge g H.objs.length with hl | hl
  · rw [List.getElem?_append_left hl]
  · rw [List.getElem?_append_right hl, List.getElem?_eq_none hl]
    rcases Nat.eq_zero_or_pos (g - H.objs.length) with e | e
    · rw [e]; rfl
    · rw [List.getElem?_eq_none (by simp; omega)]
theorem GHeap.le_gap (H : GHeap) : H.Le H.gap := ⟨by simp, fun g o h => by rw [GHeap.get_gap]; exact h⟩

section
variable {P : Program} {B : Nat} {w0 : World} {ρ : Place} {H : GHeap} {w : World}

theorem Sim.start (P : Program) (W : World) : Sim P W.heap.size W (fun _ => none) ⟨[]⟩ W :=
  ⟨fun _ _ => rfl, fun g o h => by simp [GHeap.get] at h, fun g g' o o' s s' h => by simp [GHeap.get] at h, Nat.le_refl _, .refl _ _⟩

theorem Sim.gap (hs : Sim P B w0 ρ H w) (s : Spot) : Sim P B w0 (place ρ H.next s) H.gap w ∧ Ext ρ (place ρ H.next s) := by
  have hext : Ext ρ (place ρ H.next s) := place_ext (hs.dom _ (Nat.le_refl _))
  refine ⟨⟨fun g hg => ?_, fun g o hg => ?_, fun g g' o o' t t' h1 h2 h3 h4 h5 h6 h7 => ?_, hs.base, hs.below⟩, hext⟩
  · simp at hg
    unfold place
    rw [if_neg (by omega)]
    exact hs.dom g (by omega)
  · rw [GHeap.get_gap] at hg
    exact (hs.live g o hg).keep hext fun _ _ => rfl
  · rw [GHeap.get_gap] at h1 h2
    have e1 := GHeap.ltg h1
    have e2 := GHeap.ltg h2
    unfold place at h6 h7
    rw [if_neg (by omega)] at h6 h7
    exact hs.apart g g' o o' t t' h1 h2 h3 h4 h5 h6 h7

theorem Sim.look (hs : Sim P B w0 ρ H w) {b : Nat} {C : Array Value} {e : TypeId} {fz : Nat × Nat} (hb : b < B) (hw : w.heap[b]? = some (.cells C e fz)) {off k : Nat} {vs : List Value} (hl : off + vs.length ≤ C.size)
    (hv : ∀ (i : Nat) (v : Value), vs[i]? = some v → ∃ c, C[off + i]? = some c ∧ VRel ρ v c) :
    Sim P B w0 (place ρ H.next ⟨b, off, C.size, k⟩) (H.push (.row vs e false)) w ∧ Ext ρ (place ρ H.next ⟨b, off, C.size, k⟩) := by
  have hext : Ext ρ (place ρ H.next ⟨b, off, C.size, k⟩) := place_ext (hs.dom _ (Nat.le_refl _))
  refine ⟨⟨fun g hg => ?_, fun g o hg => ?_, fun g g' o o' t t' h1 h2 h3 h4 h5 h6 h7 => ?_, hs.base, hs.below⟩, hext⟩
  · simp at hg
    unfold place
    rw [if_neg (by omega)]
    exact hs.dom g (by omega)
  · rcases Nat.lt_or_ge g H.next with hlt | hge
    · rw [GHeap.get_push_lt hlt] at hg
      exact (hs.live g o hg).keep hext fun _ _ => rfl
    · have hg' : g = H.next := by have := GHeap.ltg hg; simp at this; omega
      subst hg'
      rw [GHeap.get_push_new] at hg
      cases hg
      exact ⟨_, C, fz, place_self, hw, rfl, hl, fun i v h => let ⟨c, h1, h2⟩ := hv i v h; ⟨c, h1, h2.mono hext⟩, fun h => (by cases h), fun _ => hb, fun h => (by cases h)⟩
  · have old : ∀ {k' : Nat} {x : GObj}, (H.push (.row vs e false)).get k' = some x → x.isOwn = true → k' < H.next ∧ H.get k' = some x := by
      intro k' x hx ho
      have hk := GHeap.ltg hx
      simp at hk
      rcases Nat.lt_or_ge k' H.next with hlt | hge
      · rw [GHeap.get_push_lt hlt] at hx; exact ⟨hlt, hx⟩
      · obtain rfl : k' = H.next := by omega
        rw [GHeap.get_push_new] at hx
        cases hx
        cases ho
    obtain ⟨a1, a2⟩ := old h1 h3
    obtain ⟨b1, b2⟩ := old h2 h4
    unfold place at h6 h7
    rw [if_neg (by omega)] at h6 h7
    exact hs.apart g g' o o' t t' a2 b2 h3 h4 h5 h6 h7

theorem Sim.list (hs : Sim P B w0 ρ H w) (hB : w.heap.size ≤ B) {a : Addr} {len cap : Nat} {V : Nat → Value} (hl : len ≤ cap) (hm : cap ≤ maxLen) (hcell : ∀ i, i < cap → w.cell? (a.add i) = some (V i)) {f : Nat → Value}
    (hf : ∀ i, i < len → VRel ρ (f i) (V i)) :
    ∃ a' ρ' H', Sim P B w0 ρ' H' w ∧ Ext ρ ρ' ∧ H.Le H' ∧ VRel ρ' (.slice a' len len) (.slice (some a) len cap) ∧ SlA H' a' len f := by
  rcases Nat.eq_zero_or_pos cap with e | hp
  · subst e
    obtain rfl : len = 0 := by omega
    obtain ⟨h1, h2⟩ := hs.gap ⟨0, 0, 0, 0⟩
    exact ⟨some ⟨H.next, 0, none⟩, _, _, h1, h2, H.le_gap, .empty place_self, .inl rfl⟩
  · have h0 := hcell 0 hp
    have hsp := World.cell?_spot h0
    obtain ⟨b, off, sp⟩ := a
    have hadd : ∀ i, (Addr.mk b off none).add i = ⟨b, off + i, none⟩ := fun i => by
      unfold Addr.add
      split
      · rename_i h; subst h; rfl
      · rfl
    obtain rfl : sp = none := by simpa [Addr.add] using hsp
    rw [hadd] at h0
    have hblk : ∃ C e fz, w.heap[b]? = some (.cells C e fz) := by
      unfold World.cell? at h0
      split at h0
      · exact ⟨_, _, _, by assumption⟩
      · cases h0
    obtain ⟨C, e, fz, hC⟩ := hblk
    have hc : ∀ i, i < cap → C[off + i]? = some (V i) := fun i hi => by
      have := hcell i hi
      rw [hadd] at this
      simpa [World.cell?, hC] using this
    have hsz : off + cap ≤ C.size := by
      have := (Array.getElem?_eq_some_iff.1 (hc (cap - 1) (by omega))).1
      omega
    have hbl : b < B := by
      have : b < w.heap.size := (Array.getElem?_eq_some_iff.1 hC).1
      omega
    obtain ⟨h1, h2⟩ := hs.look hbl hC (off := off) (k := 1) (vs := (List.range len).map f) (by simp; omega) (fun i v hv => by
      simp only [List.getElem?_map, Option.map_eq_some_iff] at hv
      obtain ⟨j, hj, rfl⟩ := hv
      have hj' := List.getElem?_eq_some_iff.1 hj
      simp at hj'
      obtain ⟨hi, rfl⟩ := hj'
      exact ⟨_, hc i (by omega), hf i hi⟩)
    refine ⟨some ⟨H.next, 0, none⟩, _, _, h1, h2, GHeap.le_push _ _, ?_, .inr ⟨H.next, 0, rfl, fun i hi => ?_⟩⟩
    · have := VRel.slice (ρ := place ρ H.next ⟨b, off, C.size, 1⟩) (g := H.next) (o := 0) (n := len) (cap := cap) place_self hl (by simp only; omega) hm
      simpa using this
    · rw [GHeap.cell_of (GHeap.get_push_new _ _)]
      simp [hi]
end

def i64T (P : Program) (t : TypeId) : Bool := match P.underlying t with | some (.int .i64) => true | _ => false
def intsT (P : Program) (t : TypeId) : Bool := match P.underlying t with | some (.slice e) => i64T P e && (P.cellsOf e == 1) | _ => false
def intssT (P : Program) (t : TypeId) : Bool := match P.underlying t with | some (.slice e) => intsT P e && (P.cellsOf e == 1) | _ => false
theorem i64T_run {P : Program} {t : TypeId} (h : i64T P t = true) : P.underlying t = some (.int .i64) := by
  unfold i64T at h
  split at h
  · assumption
  · cases h
theorem intsT_run {P : Program} {t : TypeId} (h : intsT P t = true) : ∃ e, P.underlying t = some (.slice e) ∧ P.underlying e = some (.int .i64) ∧ P.cellsOf e = 1 := by
  unfold intsT at h
  split at h
  · simp only [Bool.and_eq_true, beq_iff_eq] at h
    exact ⟨_, by assumption, i64T_run h.1, h.2⟩
  · cases h
theorem intssT_run {P : Program} {t : TypeId} (h : intssT P t = true) : ∃ e, P.underlying t = some (.slice e) ∧ intsT P e = true ∧ P.cellsOf e = 1 := by
  unfold intssT at h
  split at h
  · simp only [Bool.and_eq_true, beq_iff_eq] at h
    exact ⟨_, by assumption, h.1, h.2⟩
  · cases h

def Imports (P : Program) (t : TypeId) (R : Place → GHeap → List Value → Prop) : Prop :=
  ∀ {T : Type} {enc : TypeId × Value → T} {B : Nat} {w0 : World} {ρ : Place} {H : GHeap} {w : World} {held : Bool} {fuel : Nat} {cs : List Value} {x : DataW T × List MemPlace}, Sim P B w0 ρ H w → w.heap.size ≤ B →
    DataW.trod enc P w 0 (fun _ => true) held fuel t cs = some x → ∃ ρ' H', Sim P B w0 ρ' H' w ∧ Ext ρ ρ' ∧ H.Le H' ∧ R ρ' H' cs

def I64 (n : Int) : Prop := -9223372036854775808 ≤ n ∧ n ≤ 9223372036854775807
theorem I64.of_wf {n : Int} (h : (Lit.int .i64 n).wf = true) : I64 n := by
  simp [Lit.wf, IntKind.min, IntKind.max, IntKind.signed, IntKind.bits] at h
  exact ⟨by omega, by omega⟩
def I64s (xs : List Int) : Prop := xs.length ≤ 9223372036854775807 ∧ ∀ i, I64 (xs.getD i 0)

def RInt (_ : Place) (_ : GHeap) (cs : List Value) : Prop := ∃ n, cs = [.int .i64 n] ∧ I64 n
def RInts (ρ : Place) (H : GHeap) (cs : List Value) : Prop := ∃ a xs c, cs = [c] ∧ VRel ρ (.slice a xs.length xs.length) c ∧ Ints H a xs ∧ I64s xs
def RIntss (ρ : Place) (H : GHeap) (cs : List Value) : Prop := ∃ a xss r c, cs = [c] ∧ VRel ρ (.slice a xss.length xss.length) c ∧ Intss H a xss r ∧ xss.length ≤ 9223372036854775807 ∧ ∀ i, I64s (xss.getD i [])

theorem import_int {P : Program} {t : TypeId} (ht : i64T P t = true) : Imports P t RInt := by
  intro T enc B w0 ρ H w held fuel cs x hs hB h
  obtain ⟨n, h1, _, h3⟩ := DataW.trod_int (i64T_run ht) h
  exact ⟨ρ, H, hs, .refl ρ, .refl H, n, h1, .of_wf h3⟩

theorem take_getD (zs : List Int) {n i : Nat} (hi : i < n) : (zs.take n).getD i 0 = zs.getD i 0 := by
  simp [List.getD_eq_getElem?_getD, List.getElem?_take, hi]
theorem I64s.take {zs : List Int} (h : ∀ n ∈ zs, (Lit.int .i64 n).wf = true) {len : Nat} (hl : (zs.take len).length ≤ 9223372036854775807) : I64s (zs.take len) := by
  refine ⟨hl, fun i => ?_⟩
  rw [List.getD_eq_getElem?_getD]
  cases e : (zs.take len)[i]? with
  | none => simp [I64]
  | some n => exact .of_wf (h n (List.mem_of_mem_take (List.mem_of_getElem? e)))

theorem import_ints {P : Program} {t : TypeId} (ht : intsT P t = true) : Imports P t RInts := by
  intro T enc B w0 ρ H w held fuel cs x hs hB h
  obtain ⟨e, h1, h2, h3⟩ := intsT_run ht
  rcases open_ints h1 h2 h3 h with ⟨rfl, _⟩ | ⟨a, len, cap, zs, rfl, _, hl, hm, hz, _, hc, hw⟩
  · exact ⟨ρ, H, hs, .refl ρ, .refl H, none, [], _, rfl, .nilSlice, .inl rfl, by simp, fun i => by simp [I64]⟩
  · simp only [if_true] at hz
    have hlen : (zs.take len).length = len := by simp; omega
    obtain ⟨a', ρ', H', k1, k2, k3, k4, k5⟩ := hs.list hB (f := fun i => .int .i64 ((zs.take len).getD i 0)) hl hm (fun i hi => hc i (by omega)) (fun i hi => by rw [take_getD zs hi]; exact .int _ _)
    refine ⟨ρ', H', k1, k2, k3, a', zs.take len, _, rfl, by rw [hlen]; exact k4, ?_, .take hw (by rw [hlen]; unfold maxLen at hm; omega)⟩
    unfold Ints
    rw [hlen]
    exact k5

theorem import_intss {P : Program} {t : TypeId} (ht : intssT P t = true) : Imports P t RIntss := by
  intro T enc B w0 ρ H w held fuel cs x hs hB h
  obtain ⟨e, h1, h2, h3⟩ := intssT_run ht
  obtain ⟨q, g1, g2, g3⟩ := intsT_run h2
  rcases open_int_rows h1 g1 g2 h3 g3 h with ⟨rfl, _⟩ | ⟨a, len, cap, A, L, C, Z, rfl, _, hl, hm, _, hr⟩
  · exact ⟨ρ, H, hs, .refl ρ, .refl H, none, [], fun _ => none, _, rfl, .nilSlice, ⟨.inl rfl, fun i hi => by simp at hi⟩, by simp, fun i => by simp [I64s, I64]⟩
  · have hlen : ∀ r, r < cap → ((Z r).take (L r)).length = L r := fun r hi => by
      obtain ⟨_, k2, _, k4, _⟩ := hr r hi
      simp; omega
    have rows : ∀ k, k ≤ len → ∃ ρ' H', Sim P B w0 ρ' H' w ∧ Ext ρ ρ' ∧ H.Le H' ∧ ∃ rr : Nat → Option Addr, ∀ r, r < k → VRel ρ' (.slice (rr r) (L r) (L r)) (.slice (A r) (L r) (C r)) ∧ Ints H' (rr r) ((Z r).take (L r)) := by
      intro k
      induction k with
      | zero => exact fun _ => ⟨ρ, H, hs, .refl ρ, .refl H, fun _ => none, fun r hr => by omega⟩
      | succ k ih =>
        intro hk
        obtain ⟨ρ1, H1, s1, e1, l1, rr, hrr⟩ := ih (by omega)
        obtain ⟨c1, c2, c3, c4, c5, c6, c7⟩ := hr k (by omega)
        have one : ∃ a' ρ2 H2, Sim P B w0 ρ2 H2 w ∧ Ext ρ1 ρ2 ∧ H1.Le H2 ∧ VRel ρ2 (.slice a' (L k) (L k)) (.slice (A k) (L k) (C k)) ∧ Ints H2 a' ((Z k).take (L k)) := by
          cases hA : A k with
          | none =>
            have e0 := c6 hA
            have e2 : L k = 0 := by omega
            rw [e0, e2]
            exact ⟨none, ρ1, H1, s1, .refl _, .refl _, .nilSlice, .inl (by simp)⟩
          | some a' =>
            obtain ⟨_, hc⟩ := c7 a' hA
            obtain ⟨a2, ρ2, H2, k1, k2, k3, k4, k5⟩ := s1.list hB (f := fun i => .int .i64 (((Z k).take (L k)).getD i 0)) c2 c3 hc (fun i hi => by rw [take_getD (Z k) hi]; exact .int _ _)
            refine ⟨a2, ρ2, H2, k1, k2, k3, k4, ?_⟩
            unfold Ints
            rw [hlen k (by omega)]
            exact k5
        obtain ⟨a', ρ2, H2, s2, e2, l2, v2, i2⟩ := one
        refine ⟨ρ2, H2, s2, e1.trans e2, l1.trans l2, fun r => if r = k then a' else rr r, fun r hr' => ?_⟩
        by_cases ek : r = k
        · subst ek; simp only [if_true]; exact ⟨v2, i2⟩
        · simp only [ek, if_false]
          obtain ⟨v1, i1⟩ := hrr r (by omega)
          exact ⟨v1.mono e2, i1.mono l2⟩
    obtain ⟨ρ1, H1, s1, e1, l1, rr, hrr⟩ := rows len (Nat.le_refl _)
    obtain ⟨a', ρ2, H2, k1, k2, k3, k4, k5⟩ := s1.list hB (f := fun r => .slice (rr r) (L r) (L r)) hl hm (fun r hi => (hr r hi).1) (fun r hi => (hrr r hi).1)
    have hx : ((List.range len).map fun r => (Z r).take (L r)).length = len := by simp
    have hg : ∀ r, r < len → ((List.range len).map fun r => (Z r).take (L r)).getD r [] = (Z r).take (L r) := fun r hi => by simp [List.getD_eq_getElem?_getD, hi]
    refine ⟨ρ2, H2, k1, e1.trans k2, l1.trans k3, a', (List.range len).map fun r => (Z r).take (L r), rr, _, rfl, by rw [hx]; exact k4, ⟨?_, fun r hi => ?_⟩, by rw [hx]; unfold maxLen at hm; omega, fun r => ?_⟩
    · rw [hx]
      refine k5.imp id fun ⟨g, off, hga, hc⟩ => ⟨g, off, hga, fun i hi => ?_⟩
      show _ = some (Value.slice (rr i) (((List.range len).map fun r => (Z r).take (L r)).getD i []).length (((List.range len).map fun r => (Z r).take (L r)).getD i []).length)
      rw [hg i hi, hlen i (by omega)]
      exact hc i hi
    · rw [hx] at hi
      rw [hg r hi]
      exact (hrr r hi).2.mono k3
    · by_cases hi : r < len
      · rw [hg r hi]
        obtain ⟨_, c2, c3, c4, c5, _⟩ := hr r (by omega)
        exact .take c5 (by rw [hlen r (by omega)]; unfold maxLen at c3; omega)
      · rw [List.getD_eq_getElem?_getD, List.getElem?_eq_none (by rw [hx]; omega)]
        simp [I64s, I64]

def fieldIs (P : Program) (fs : Array Field) (i off n : Nat) (chk : Program → TypeId → Bool) : Bool :=
  match fs[i]? with
  | some f => (f.offset == off) && (P.cellsOf f.type == n) && chk P f.type
  | none => false
def structIs (P : Program) (t : TypeId) (n m : Nat) (chk : Array Field → Bool) : Bool :=
  match P.underlying t with
  | some (.struct fs) => (P.cellsOf t == n) && (fs.size == m) && chk fs
  | _ => false
theorem structIs_run {P : Program} {t : TypeId} {n m : Nat} {chk : Array Field → Bool} (h : structIs P t n m chk = true) : ∃ fs, P.underlying t = some (.struct fs) ∧ P.cellsOf t = n ∧ fs.size = m ∧ chk fs = true := by
  unfold structIs at h
  split at h
  · simp only [Bool.and_eq_true, beq_iff_eq] at h
    exact ⟨_, by assumption, h.1.1, h.1.2, h.2⟩
  · cases h

section
variable {P : Program} {T : Type} {enc : TypeId × Value → T} {B : Nat} {w0 : World} {ρ : Place} {H : GHeap} {w : World} {held : Bool} {n : Nat} {cs : List Value} {fs : Array Field} {xs : List (DataW T × List MemPlace)}
theorem import_field {i off k : Nat} {chk : Program → TypeId → Bool} {R : Place → GHeap → List Value → Prop} (hI : ∀ t, chk P t = true → Imports P t R) (hfd : fieldIs P fs i off k chk = true) (hx : xs.length = fs.size)
    (hf : ∀ (i : Nat) (f : Field), fs[i]? = some f → DataW.trod enc P w 0 (fun _ => true) held n f.type ((cs.drop f.offset).take (P.cellsOf f.type)) = xs[i]?) (hs : Sim P B w0 ρ H w) (hB : w.heap.size ≤ B) :
    ∃ ρ' H', Sim P B w0 ρ' H' w ∧ Ext ρ ρ' ∧ H.Le H' ∧ R ρ' H' ((cs.drop off).take k) := by
  unfold fieldIs at hfd
  split at hfd
  · rename_i f hfi
    simp only [Bool.and_eq_true, beq_iff_eq] at hfd
    obtain ⟨⟨h1, h2⟩, h3⟩ := hfd
    have hi : i < xs.length := by rw [hx]; exact (Array.getElem?_eq_some_iff.1 hfi).1
    have := hf i f hfi
    rw [List.getElem?_eq_getElem hi, h1, h2] at this
    exact hI _ h3 hs hB this
  · cases hfd
end

def Cat.Wide (c : Cat) : Prop := I64 c.obj ∧ I64s c.src ∧ I64s c.tgt ∧ I64s c.idn ∧ c.comp.length ≤ 9223372036854775807 ∧ ∀ i, I64s (c.comp.getD i [])
def Fun.Wide (f : Fun) : Prop := f.s.Wide ∧ f.t.Wide ∧ I64s f.ob ∧ I64s f.ar
def Tra.Wide (m : Tra) : Prop := m.s.Wide ∧ m.t.Wide ∧ I64s m.co

def catT (P : Program) (t : TypeId) : Bool := structIs P t 5 5 fun fs => fieldIs P fs 0 0 1 i64T && fieldIs P fs 1 1 1 intsT && fieldIs P fs 2 2 1 intsT && fieldIs P fs 3 3 1 intsT && fieldIs P fs 4 4 1 intssT
def funT (P : Program) (t : TypeId) : Bool := structIs P t 12 4 fun fs => fieldIs P fs 0 0 5 catT && fieldIs P fs 1 5 5 catT && fieldIs P fs 2 10 1 intsT && fieldIs P fs 3 11 1 intsT
def RCat (ρ : Place) (H : GHeap) (cs : List Value) : Prop := ∃ (c : Cat) (p : CatP), LRel ρ (c.cells p) cs ∧ c.In H p ∧ c.Wide
def RFun (ρ : Place) (H : GHeap) (cs : List Value) : Prop := ∃ (c : Fun) (p : FunP), LRel ρ (c.cells p) cs ∧ c.In H p ∧ c.Wide
theorem split5 {cs : List Value} {a b c d e : Value} (h0 : (cs.drop 0).take 1 = [a]) (h1 : (cs.drop 1).take 1 = [b]) (h2 : (cs.drop 2).take 1 = [c]) (h3 : (cs.drop 3).take 1 = [d]) (h4 : (cs.drop 4).take 1 = [e]) (hl : cs.length = 5) : cs = [a, b, c, d, e] := by
  match cs, hl with
  | [v0, v1, v2, v3, v4], _ => simp at h0 h1 h2 h3 h4; subst h0; subst h1; subst h2; subst h3; subst h4; rfl

theorem import_cat {P : Program} {t : TypeId} (ht : catT P t = true) : Imports P t RCat := by
  intro T enc B w0 ρ H w held fuel cs x hs hB h
  obtain ⟨fs, g1, g2, g3, g4⟩ := structIs_run ht
  simp only [Bool.and_eq_true] at g4
  obtain ⟨⟨⟨⟨q0, q1⟩, q2⟩, q3⟩, q4⟩ := g4
  obtain ⟨xs, n, _, _, hl, hx, hf⟩ := DataW.trod_struct g1 h
  obtain ⟨ρ0, H0, s0, e0, l0, nobj, r0, w0'⟩ := import_field (fun _ h => import_int h) q0 hx hf hs hB
  obtain ⟨ρ1, H1, s1, e1, l1, a1, x1, c1, r1, v1, i1, w1⟩ := import_field (fun _ h => import_ints h) q1 hx hf s0 hB
  obtain ⟨ρ2, H2, s2, e2, l2, a2, x2, c2, r2, v2, i2, w2⟩ := import_field (fun _ h => import_ints h) q2 hx hf s1 hB
  obtain ⟨ρ3, H3, s3, e3, l3, a3, x3, c3, r3, v3, i3, w3⟩ := import_field (fun _ h => import_ints h) q3 hx hf s2 hB
  obtain ⟨ρ4, H4, s4, e4, l4, a4, x4, rr, c4, r4, v4, i4, w4, w5⟩ := import_field (fun _ h => import_intss h) q4 hx hf s3 hB
  refine ⟨ρ4, H4, s4, e0.trans (e1.trans (e2.trans (e3.trans e4))), l0.trans (l1.trans (l2.trans (l3.trans l4))), ⟨nobj, x1, x2, x3, x4⟩, ⟨a1, a2, a3, a4, rr⟩, ?_, ⟨i1.mono (l2.trans (l3.trans l4)), i2.mono (l3.trans l4), i3.mono l4, i4⟩, ⟨w0', w1, w2, w3, w4, w5⟩⟩
  rw [split5 r0 r1 r2 r3 r4 (by rw [hl, g2])]
  exact .cons (.int _ _) (.cons (v1.mono (e2.trans (e3.trans e4))) (.cons (v2.mono (e3.trans e4)) (.cons (v3.mono e4) (.cons v4 (.nil _)))))

theorem import_fun {P : Program} {t : TypeId} (ht : funT P t = true) : Imports P t RFun := by
  intro T enc B w0 ρ H w held fuel cs x hs hB h
  obtain ⟨fs, g1, g2, g3, g4⟩ := structIs_run ht
  simp only [Bool.and_eq_true] at g4
  obtain ⟨⟨⟨q0, q1⟩, q2⟩, q3⟩ := g4
  obtain ⟨xs, n, _, _, hl, hx, hf⟩ := DataW.trod_struct g1 h
  obtain ⟨ρ0, H0, s0, e0, l0, y0, p0, v0, i0, w0'⟩ := import_field (fun _ h => import_cat h) q0 hx hf hs hB
  obtain ⟨ρ1, H1, s1, e1, l1, y1, p1, v1, i1, w1⟩ := import_field (fun _ h => import_cat h) q1 hx hf s0 hB
  obtain ⟨ρ2, H2, s2, e2, l2, a2, x2, c2, r2, v2, i2, w2⟩ := import_field (fun _ h => import_ints h) q2 hx hf s1 hB
  obtain ⟨ρ3, H3, s3, e3, l3, a3, x3, c3, r3, v3, i3, w3⟩ := import_field (fun _ h => import_ints h) q3 hx hf s2 hB
  refine ⟨ρ3, H3, s3, e0.trans (e1.trans (e2.trans e3)), l0.trans (l1.trans (l2.trans l3)), ⟨y0, y1, x2, x3⟩, ⟨p0, p1, a2, a3⟩, ?_, ⟨i0.mono (l1.trans (l2.trans l3)), i1.mono (l2.trans l3), i2.mono l3, i3⟩, ⟨w0', w1, w2, w3⟩⟩
  have hlen : cs.length = 12 := by rw [hl, g2]
  have e : cs = (cs.drop 0).take 5 ++ ((cs.drop 5).take 5 ++ ((cs.drop 10).take 1 ++ (cs.drop 11).take 1)) := by
    match cs, hlen with
    | [_, _, _, _, _, _, _, _, _, _, _, _], _ => rfl
  rw [e, r2, r3]
  exact (v0.mono (e1.trans (e2.trans e3))).append ((v1.mono (e2.trans e3)).append (.cons (v2.mono e3) (.cons v3 (.nil _))))

def readB (P : Program) (ts : List TypeId) : Bool := ts.all fun t => P.readableRec t && decide (t < P.types.size)

section
variable {T : Type} {enc : TypeId × Value → T} {P : Program}
theorem args_again (hl : laidOutB P = true) {W W' : World} (hb : Below W.heap.size W W') {sp : Nat → Bool} : ∀ {ts : List TypeId} {vs : List Value} {ds : List (DataW T)} {ps : List MemPlace}, readB P ts = true →
    DataW.TrodAll enc P W 0 (fun _ => true) true ts vs ds ps → (∀ p ∈ ps, p.block < W.heap.size) → (∀ p ∈ ps, sp p.block = true) → DataW.TrodAll enc P W' 0 sp true ts vs ds ps
  | [], _, _, _, _, h, _, _ => by
    obtain ⟨rfl, rfl, rfl⟩ := trodAll_nil h
    exact trodAll_mk0
  | t :: ts, _, _, _, hr, h, hlt, hsp => by
    obtain ⟨v, vs, d, ds, p, q, rfl, rfl, rfl, h1, h2⟩ := trodAll_cons h
    simp only [readB, List.all_cons, Bool.and_eq_true, decide_eq_true_eq] at hr
    exact ⟨p, q, WideElems.Trod_stays hl hr.1.1 hr.1.2 h1 (fun x hx => hb.same (hlt x (by simp [hx]))) (fun x hx => hsp x (by simp [hx])),
      args_again hl hb (by simpa only [readB, Bool.and_eq_true] using hr.2) h2 (fun x hx => hlt x (by simp [hx])) (fun x hx => hsp x (by simp [hx])), rfl⟩

theorem law_post {f : Func} {s : ChangeSpec} {apart fresh handsOn again : Bool} {W W' : World} {args : Array Value} {ds gs : List (DataW T)} {before : List MemPlace} {tb : TypeId}
    (hl : laidOutB P = true) (hr : readB P f.params.toList = true) (hv : s.vars = []) (hrt : f.resultTypes = #[tb]) (htb : P.underlying tb = some .bool)
    (hW : DataW.Whole enc P f.params.toList s.vars apart W args.toList ds gs before)
    (hsr : (s.fn T ds).results = [.lit (.bool true)]) (hsa : (s.fn T ds).args = ds) (hsv : (s.fn T ds).vars = []) (hb : Below W.heap.size W W') :
    s.post enc P f apart fresh handsOn again W args (.bool true) W' := by
  have hlt := hW.lt
  have hWW := hW
  obtain ⟨p, q, hA, hV, hpq, hfz, hnd⟩ := hW
  rw [hv] at hV
  obtain ⟨rfl, rfl⟩ := trodVars_none hV
  rw [List.append_nil] at hpq
  obtain rfl := hpq.symm
  have hres : ∀ (b : Nat) (sp : Nat → Bool) (hd : Bool), DataW.TrodAll enc P W' b sp hd f.resultTypes.toList ((Value.bool true).resultList f.resultTypes.size) (s.fn T (ds ++ [])).results [] := fun b sp hd => by
    rw [List.append_nil, hsr, hrt]
    exact trodAll_mk1 (shut_bool htb true)
  have hargs : ∀ sp : Nat → Bool, (∀ x ∈ p, sp x.block = true) → DataW.TrodAll enc P W' 0 sp true f.params.toList args.toList (s.fn T (ds ++ [])).args p := fun sp hsp => by
    rw [List.append_nil, hsa]
    exact args_again hl hb hr hA hlt hsp
  have hvars : ∀ sp : Nat → Bool, DataW.TrodVars enc P W' sp s.vars (s.fn T (ds ++ [])).vars [] := fun sp => by
    rw [List.append_nil, hsv, hv]
    rfl
  have hok : ∀ (j : Nat) (t : TypeId) (r : Value), f.resultTypes[j]? = some t → ((Value.bool true).resultList f.resultTypes.size)[j]? = some r → Value.okWide P W' .any 0 t r := ok_one hrt rfl (okWide_bool_mk htb true)
  refine ⟨ds, [], p, [], p, [], hWW, hres _ _ _, hargs _ fun x hx => by simpa using hlt x hx, hvars _, hb.frame _, fun _ => ⟨hok, _, _, ([] ++ p) ++ [], ⟨[] ++ p, [], trodAll_append (hargs (fun _ => true) fun _ _ => rfl) (hres _ _ _), hvars (fun _ => true), rfl, ?_, ?_⟩, ?_⟩⟩
  · intro b off hp
    have hin : MemPlace.cell b off ∈ p := by simpa using hp
    rw [hb.frozen (hlt _ hin)]
    exact hfz b off hin
  · intro ha
    simpa using hnd ha
  · intro x hx _
    simpa using hx
end

def SzR (left : Int) (p : Prop) (H : GHeap) : Value → GHeap → Prop := fun v H' => H' = H ∧ ∃ l, v = .int .i64 l ∧ -1 ≤ l ∧ l ≤ left ∧ (0 ≤ l → p)
theorem SzR.of {P : Program} {f : FuncId} {args : List Value} {H : GHeap} {left : Int} {p : Prop} (h : GCalls P f args H fun v H' => H.Le H' ∧ ∃ l, v = .int .i64 l ∧ -1 ≤ l ∧ l ≤ left ∧ (0 ≤ l → p)) : GCalls P f args H (SzR left p H) :=
  (GCalls.quiet (φ := fun v => ∃ l, v = .int .i64 l ∧ -1 ≤ l ∧ l ≤ left ∧ (0 ≤ l → p)) (h.mono fun _ _ ⟨h1, l, h2, h3⟩ => ⟨⟨l, h2, h3⟩, by rw [h2]; rfl, h1⟩)).mono fun _ _ ⟨h1, h2⟩ => ⟨h2, h1⟩

theorem eq_of_getD {xs ys : List Int} (hl : ys.length = xs.length) (h : ∀ i, i < xs.length → ys.getD i 0 = xs.getD i 0) : ys = xs := by
  apply List.ext_getElem hl
  intro i h1 h2
  have := h i h2
  simpa [List.getD_eq_getElem?_getD, h1, h2] using this
theorem ints_set (ys : List Int) (i : Nat) (v : Int) : (ints ys).set i (.int .i64 v) = ints (ys.set i v) := by simp [ints, List.map_set]
theorem getD_set {ys : List Int} {k i : Nat} {v : Int} (hk : k < ys.length) : (ys.set k v).getD i 0 = if i = k then v else ys.getD i 0 := by
  simp only [List.getD_eq_getElem?_getD, List.getElem?_set]
  by_cases e : k = i
  · subst e; simp [hk]
  · simp [e, Ne.symm e]
theorem SlA.of_ints {H : GHeap} {g : Nat} {ys : List Int} {e : TypeId} {own : Bool} {n : Nat} (h : H.get g = some (.row (ints ys) e own)) (hn : ys.length = n) : SlA H (some ⟨g, 0, none⟩) n (fun i => .int .i64 (ys.getD i 0)) := by
  subst hn; exact Ints.of_get h

theorem SlA.of_row {H : GHeap} {g n : Nat} {cs : List Value} {e : TypeId} {own : Bool} (h : H.get g = some (.row cs e own)) (hn : cs.length = n) : SlA H (some ⟨g, 0, none⟩) n (fun i => cs.getD i (.bool false)) := by
  subst hn
  exact .inr ⟨g, 0, rfl, fun i hi => by rw [GHeap.cell_of h, Nat.zero_add]; simp [List.getD_eq_getElem?_getD, hi]⟩

def Keep (b : Nat) (H H' : GHeap) : Prop := ∀ g o, b ≤ g → H.get g = some o → H'.get g = some o
theorem Keep.of_le {b : Nat} {H H' : GHeap} (h : H.Le H') : Keep b H H' := fun g o _ => h.2 g o
theorem Keep.set {b g : Nat} {H : GHeap} {o : Option GObj} (h : g < b) : Keep b H (H.set g o) := fun k x hk hx => by
  rw [GHeap.get_set_ne (by omega)]; exact hx
def IntsAt (b : Nat) (H : GHeap) (a : Option Addr) (xs : List Int) : Prop := ∃ g e, a = some ⟨g, 0, none⟩ ∧ b ≤ g ∧ H.get g = some (.row (ints xs) e true)
def IntssAt (b : Nat) (H : GHeap) (a : Option Addr) (xss : List (List Int)) (r : Nat → Option Addr) : Prop :=
  ∃ g e cs, a = some ⟨g, 0, none⟩ ∧ b ≤ g ∧ H.get g = some (.row cs e true) ∧ cs.length = xss.length ∧ (∀ i, i < xss.length → cs[i]? = some (.slice (r i) (xss.getD i []).length (xss.getD i []).length)) ∧ ∀ i, i < xss.length → IntsAt b H (r i) (xss.getD i [])
theorem IntsAt.keep {b b' : Nat} {H H' : GHeap} {a : Option Addr} {xs : List Int} (h : IntsAt b H a xs) (hk : Keep b' H H') (hb : b' ≤ b) : IntsAt b' H' a xs :=
  let ⟨g, e, h1, h2, h3⟩ := h; ⟨g, e, h1, by omega, hk g _ (by omega) h3⟩
theorem IntssAt.keep {b b' : Nat} {H H' : GHeap} {a : Option Addr} {xss : List (List Int)} {r : Nat → Option Addr} (h : IntssAt b H a xss r) (hk : Keep b' H H') (hb : b' ≤ b) : IntssAt b' H' a xss r :=
  let ⟨g, e, cs, h1, h2, h3, h4, h5, h6⟩ := h; ⟨g, e, cs, h1, by omega, hk g _ (by omega) h3, h4, h5, fun i hi => (h6 i hi).keep hk hb⟩
theorem IntsAt.ints {b : Nat} {H : GHeap} {a : Option Addr} {xs : List Int} (h : IntsAt b H a xs) : Ints H a xs := by
  obtain ⟨g, e, rfl, _, h3⟩ := h
  exact Ints.of_get h3
theorem IntssAt.intss {b : Nat} {H : GHeap} {a : Option Addr} {xss : List (List Int)} {r : Nat → Option Addr} (h : IntssAt b H a xss r) : Intss H a xss r := by
  obtain ⟨g, e, cs, rfl, _, h3, h4, h5, h6⟩ := h
  exact ⟨.inr ⟨g, 0, rfl, fun i hi => by rw [GHeap.cell_of h3, Nat.zero_add]; exact h5 i hi⟩, fun i hi => (h6 i hi).ints⟩
def NewIntss (H : GHeap) (xss : List (List Int)) (v : Value) (H' : GHeap) : Prop := H.Le H' ∧ ∃ a r, v = .slice a xss.length xss.length ∧ IntssAt H.next H' a xss r
def CatAt (b : Nat) (H : GHeap) (c : Cat) (p : CatP) : Prop := IntsAt b H p.a1 c.src ∧ IntsAt b H p.a2 c.tgt ∧ IntsAt b H p.a3 c.idn ∧ IntssAt b H p.a4 c.comp p.r
theorem CatAt.keep {b b' : Nat} {H H' : GHeap} {c : Cat} {p : CatP} (h : CatAt b H c p) (hk : Keep b' H H') (hb : b' ≤ b) : CatAt b' H' c p := ⟨h.1.keep hk hb, h.2.1.keep hk hb, h.2.2.1.keep hk hb, h.2.2.2.keep hk hb⟩
theorem CatAt.inn {b : Nat} {H : GHeap} {c : Cat} {p : CatP} (h : CatAt b H c p) : c.In H p := ⟨h.1.ints, h.2.1.ints, h.2.2.1.ints, h.2.2.2.intss⟩
def NewCat (H : GHeap) (c : Cat) (v : Value) (H' : GHeap) : Prop := H.Le H' ∧ ∃ p, v = .agg (c.cells p).toArray ∧ CatAt H.next H' c p
def FunAt (b : Nat) (H : GHeap) (f : Fun) (p : FunP) : Prop := CatAt b H f.s p.s ∧ CatAt b H f.t p.t ∧ IntsAt b H p.b1 f.ob ∧ IntsAt b H p.b2 f.ar
theorem FunAt.keep {b b' : Nat} {H H' : GHeap} {c : Fun} {p : FunP} (h : FunAt b H c p) (hk : Keep b' H H') (hb : b' ≤ b) : FunAt b' H' c p := ⟨h.1.keep hk hb, h.2.1.keep hk hb, h.2.2.1.keep hk hb, h.2.2.2.keep hk hb⟩
theorem FunAt.inn {b : Nat} {H : GHeap} {c : Fun} {p : FunP} (h : FunAt b H c p) : c.In H p := ⟨h.1.inn, h.2.1.inn, h.2.2.1.ints, h.2.2.2.ints⟩
def NewFun (H : GHeap) (c : Fun) (v : Value) (H' : GHeap) : Prop := H.Le H' ∧ ∃ p, v = .agg (c.cells p).toArray ∧ FunAt H.next H' c p
structure Bld (H0 : GHeap) (b g2 g3 : Nat) (t : TypeId) (z cs : List Value) (H : GHeap) : Prop where
  le : H0.Le H
  a2 : H0.next ≤ g2
  l2 : g2 < b
  a3 : H0.next ≤ g3
  l3 : g3 < b
  ne : g2 ≠ g3
  res : H.get g2 = some (.row z t true)
  own : H.get g3 = some (.row cs t true)
  bn : b ≤ H.next
theorem Bld.start (H0 : GHeap) (t : TypeId) (z : List Value) : Bld H0 ((H0.push (.row z t true)).next + 1) H0.next (H0.push (.row z t true)).next t z z ((H0.push (.row z t true)).push (.row z t true)) where
  le := (GHeap.le_push _ _).trans (GHeap.le_push _ _)
  a2 := Nat.le_refl _
  l2 := by simp; omega
  a3 := by simp
  l3 := by omega
  ne := by simp
  res := (GHeap.le_push _ _).2 _ _ (GHeap.get_push_new _ _)
  own := GHeap.get_push_new _ _
  bn := by simp
theorem Bld.call {H0 H H' : GHeap} {b g2 g3 : Nat} {t : TypeId} {z cs : List Value} (B : Bld H0 b g2 g3 t z cs H) (h : H.Le H') : Bld H0 b g2 g3 t z cs H' :=
  ⟨B.le.trans h, B.a2, B.l2, B.a3, B.l3, B.ne, h.2 _ _ B.res, h.2 _ _ B.own, Nat.le_trans B.bn h.1⟩
theorem Bld.store {H0 H : GHeap} {b g2 g3 : Nat} {t : TypeId} {z cs : List Value} (B : Bld H0 b g2 g3 t z cs H) (cs' : List Value) : Bld H0 b g2 g3 t z cs' (H.set g3 (some (.row cs' t true))) ∧ Keep b H (H.set g3 (some (.row cs' t true))) :=
  ⟨⟨B.le.set_new B.a3, B.a2, B.l2, B.a3, B.l3, B.ne, by rw [GHeap.get_set_ne (Ne.symm B.ne)]; exact B.res, GHeap.get_set_eq (GHeap.ltg B.own), by rw [GHeap.next_set]; exact B.bn⟩, .set B.l3⟩
theorem Bld.done {H0 H : GHeap} {b g2 g3 : Nat} {t : TypeId} {z cs : List Value} (B : Bld H0 b g2 g3 t z cs H) (o : Option GObj) : H0.Le (H.set g2 o) ∧ Keep b H (H.set g2 o) := ⟨B.le.set_new B.a2, .set B.l2⟩
theorem setAll_gen (vs : List Value) : ∀ (pre a rest : List Value), a.length = vs.length → setAll (pre ++ (a ++ rest)) pre.length vs = pre ++ (vs ++ rest) := by
  induction vs with
  | nil => intro pre a rest h; obtain rfl := List.length_eq_zero_iff.1 (by simpa using h); rfl
  | cons v vs ih =>
    intro pre a rest h
    match a, h with
    | x :: a, h =>
      have e : (pre ++ (x :: a ++ rest)).set pre.length v = (pre ++ [v]) ++ (a ++ rest) := by simp [List.set_append]
      have := ih (pre ++ [v]) a rest (by simpa using h)
      rw [List.length_append] at this
      unfold setAll
      rw [e]
      simpa using this
theorem setAll_all (a vs : List Value) (h : a.length = vs.length) : setAll a 0 vs = vs := by
  have := setAll_gen vs [] a [] h
  simpa using this

end Go.GL
namespace Go.Proofs.YtlfnclhkhmkklaaDoor
open Go Go.GL Go.RowKit Go.Proofs
theorem sz_25_E : (Tryd.prog.info? 25).map (·.size) = some 5 := by kernel_rfl
theorem fo_25_1_E : fieldOff Tryd.prog 25 1 = some 1 := by kernel_rfl
theorem fo_25_2_E : fieldOff Tryd.prog 25 2 = some 2 := by kernel_rfl
theorem fo_25_3_E : fieldOff Tryd.prog 25 3 = some 3 := by kernel_rfl
theorem fo_25_4_E : fieldOff Tryd.prog 25 4 = some 4 := by kernel_rfl
theorem sz_34_E : (Tryd.prog.info? 34).map (·.size) = some 12 := by kernel_rfl
theorem fo_34_0_E : fieldOff Tryd.prog 34 0 = some 0 := by kernel_rfl
theorem ag_25_E : aggT Tryd.prog 25 = some 5 := by kernel_rfl
theorem fo_34_1_E : fieldOff Tryd.prog 34 1 = some 5 := by kernel_rfl
theorem fo_34_2_E : fieldOff Tryd.prog 34 2 = some 10 := by kernel_rfl
theorem fo_34_3_E : fieldOff Tryd.prog 34 3 = some 11 := by kernel_rfl
theorem sz_2_E : (Tryd.prog.info? 2).map (·.size) = some 1 := by kernel_rfl
theorem ze_2_E : zeroT Tryd.prog 2 = some ([.int .i64 0], 1) := by kernel_rfl
theorem by_2_E : (Tryd.prog.info? 2).map (·.bytes) = some 8 := by kernel_rfl
theorem sz_22_E : (Tryd.prog.info? 22).map (·.size) = some 1 := by kernel_rfl
theorem ze_22_E : zeroT Tryd.prog 22 = some ([.slice none 0 0], 1) := by kernel_rfl
theorem by_22_E : (Tryd.prog.info? 22).map (·.bytes) = some 24 := by kernel_rfl
theorem sz_23_E : (Tryd.prog.info? 23).map (·.size) = some 1 := by kernel_rfl
theorem ze_29_E : zeroT Tryd.prog 29 = some ([.int .i64 0, .slice none 0 0, .slice none 0 0, .slice none 0 0, .slice none 0 0], 5) := by kernel_rfl
theorem fo_25_0_E : fieldOff Tryd.prog 25 0 = some 0 := by kernel_rfl
theorem ag_38_E : aggT Tryd.prog 38 = some 12 := by kernel_rfl
theorem sz_38_E : (Tryd.prog.info? 38).map (·.size) = some 12 := by kernel_rfl
theorem ze_38_E : zeroT Tryd.prog 38 = some ([.int .i64 0, .slice none 0 0, .slice none 0 0, .slice none 0 0, .slice none 0 0, .int .i64 0, .slice none 0 0, .slice none 0 0, .slice none 0 0, .slice none 0 0, .slice none 0 0, .slice none 0 0], 12) := by kernel_rfl
theorem fo_38_0_E : fieldOff Tryd.prog 38 0 = some 0 := by kernel_rfl
theorem fo_38_1_E : fieldOff Tryd.prog 38 1 = some 5 := by kernel_rfl
theorem fo_38_2_E : fieldOff Tryd.prog 38 2 = some 10 := by kernel_rfl
theorem fo_38_3_E : fieldOff Tryd.prog 38 3 = some 11 := by kernel_rfl
theorem szInt64S_c {a : Option Addr} {xs : List Int} {left : Int} {H : GHeap} (hx : xs.length ≤ 9223372036854775807 := by omega) (h0 : 0 ≤ left := by omega) (h1 : left ≤ 1048576 := by omega) :
    GCalls Tryd.prog 21 [.slice a xs.length xs.length, .int .i64 left] H (SzR left (xs.length ≤ left) H) := by
  refine GCalls.body (N := 12) (rs := [.tmp 4]) Tryd.func21 rfl rfl rfl rfl (fun Qx b hend => ?_)
  refine .fg [0, 1] rfl ?_
  refine .seq (fun K1 f => .region (.mv rfl (.nil (f _ _ (.seq (fun K2 d => .region (.mv rfl (.mv rfl (.q rfl (.len sl_22_A rfl) ?_)))))))))
  refine .q rfl (.sub rfl rfl rfl (by omega) (by omega)) ?_
  refine .mv rfl (.nil (d _ _ (.seq (fun K3 j => .seq (fun K4 g => .region (.mv rfl (.q rfl (.cmp rfl rfl rfl) (.nil (g _ _ ?_)))))))))
  refine .cond rfl (fun c => ?_) (fun c => ?_)
  ·
   try simp only [sps] at c
   refine .seq (fun K5 e => .region (.mv rfl (.nil (e _ _ ?_))))
   refine .ret ?_
   refine b _ _ ?_
   refine ⟨_, rfl, ?_⟩
   exact ⟨rfl, _, rfl, by omega, by omega, fun h => by omega⟩
  try simp only [sps] at c
  refine .skip ?_
  refine j _ _ (.seq (fun K6 i => .region (.mv rfl (.mv rfl (.nil (i _ _ ?_))))))
  refine .ret ?_
  refine b _ _ ?_
  refine ⟨_, rfl, ?_⟩
  exact ⟨rfl, _, rfl, by omega, by omega, fun h => by omega⟩
theorem szInt64SS_c {a : Option Addr} {xss : List (List Int)} {r : Nat → Option Addr} {left : Int} {H : GHeap} (h : Intss H a xss r := by assumption) (hx : xss.length ≤ 9223372036854775807 := by omega) (hy : ∀ i, I64s (xss.getD i []) := by assumption) (h0 : 0 ≤ left := by omega) (h1 : left ≤ 1048576 := by omega) :
    GCalls Tryd.prog 22 [.slice a xss.length xss.length, .int .i64 left] H (SzR left (xss.length ≤ left ∧ ∀ i, ((xss.getD i []).length : Int) ≤ left) H) := by
  refine GCalls.body (N := 27) (rs := [.tmp 4]) Tryd.func22 rfl rfl rfl rfl (fun Qx b hend => ?_)
  refine .fg [0, 1] rfl ?_
  have hh := h
  obtain ⟨i1, i2⟩ := hh
  refine .seq (fun K1 t => .region (.mv rfl (.nil (t _ _ (.seq (fun K2 x => .region (.mv rfl (.mv rfl (.q rfl (.len sl_23_B rfl) ?_)))))))))
  refine .q rfl (.sub rfl rfl rfl (by omega) (by omega)) ?_
  refine .mv rfl (.nil (x _ _ (.seq (fun K3 v => .seq (fun K4 u => .region (.mv rfl (.q rfl (.cmp rfl rfl rfl) (.nil (u _ _ ?_)))))))))
  refine .cond rfl (fun l => ?_) (fun l => ?_)
  ·
   try simp only [sps] at l
   refine .seq (fun K5 z => .region (.mv rfl (.nil (z _ _ ?_))))
   refine .ret ?_
   refine b _ _ ?_
   refine ⟨_, rfl, ?_⟩
   exact ⟨rfl, _, rfl, by omega, by omega, fun h => by omega⟩
  try simp only [sps] at l
  refine .skip ?_
  refine v _ _ (.seq (fun K6 a0 => .seq (fun K7 y => .region (.mv rfl (.nil (y _ _ ?_))))))
  refine .block ?_
  refine .loopR (σ := Nat × Int) [(0, some _)] (fun (k, lf) => [(5, some (.int .i64 (k : Int))), (1, some (.int .i64 lf))]) (fun (k, lf) H' => H = H' ∧ k ≤ xss.length ∧ 0 ≤ lf ∧ lf ≤ left - xss.length ∧ ∀ i, i < k → ((xss.getD i []).length : Int) ≤ left) (fun (k, lf) => xss.length - k) ((0, left - xss.length)) ⟨rfl, trivial⟩ ⟨rfl, rfl, trivial⟩ ?_ ?_
  ·
   refine ⟨rfl, ?_⟩
   exact ⟨by omega, by omega, by omega, fun i hi => by omega⟩
  rintro ⟨k, lf⟩ _ ⟨rfl, hI⟩ KL1 p
  refine .forget (fr' := [(5, some (.int .i64 (k : Int))), (1, some (.int .i64 lf)), (0, some _)]) ⟨rfl, rfl, rfl, trivial⟩ ?_
  obtain ⟨hk, hl0, hl1, c⟩ := hI
  refine .seq (fun K8 w => .seq (fun K9 s => .region (.mv rfl (.mv rfl (.q rfl (.len sl_23_B rfl) (.q rfl (.cmp rfl rfl rfl) (.nil (s _ _ ?_))))))))
  refine .cond rfl (fun d => ?_) (fun d => ?_)
  ·
   try simp only [sps] at d
   refine .skip ?_
   refine w _ _ (.seq (fun K10 j => ?_))
   refine .block ?_
   refine .seq (fun K11 g => .region (.mv rfl (.mv rfl ?_)))
   refine .q rfl (.idxN sl_23_B (Intss.sl (by assumption)) rfl rfl (by omega)) ?_
   refine .q rfl (.loadR on_22_B (by assumption) rfl (by omega)) ?_
   refine .mv rfl ?_
   have hyk := (hy k).1
   refine .call rfl rfl rfl rfl @Tryd.call21 rfl (szInt64S_c) ?_
   rintro _ _ ⟨rfl, lf, rfl, z1, z2, z3⟩
   refine .mv rfl (.nil (g _ _ (.seq (fun K12 o => .region (.mv rfl (.q rfl (.cmp rfl rfl rfl) (.nil (o _ _ ?_))))))))
   refine .cond rfl (fun f => ?_) (fun f => ?_)
   ·
    try simp only [sps] at f
    refine .seq (fun K13 m => .region (.mv rfl (.nil (m _ _ ?_))))
    refine .ret ?_
    refine b _ _ ?_
    refine ⟨_, rfl, ?_⟩
    exact ⟨rfl, _, rfl, by omega, by omega, fun h => by omega⟩
   try simp only [sps] at f
   refine .skip ?_
   refine j _ _ (.region (.mv rfl ?_))
   refine .q rfl (.add rfl rfl rfl (by omega) (by omega)) ?_
   refine .mv rfl (.nil ?_)
   refine p ((k + 1, _)) _ _ ?_ ?_ ⟨rfl, rfl, rfl, trivial⟩
   ·
    refine ⟨rfl, ?_⟩
    refine ⟨by omega, by omega, by omega, fun i hi => ?_⟩
    by_cases e : i < k
    · exact c i e
    · obtain rfl : i = k := by omega
      omega
   show xss.length - (k + 1) < xss.length - k; omega
  try simp only [sps] at d
  refine .exit ?_
  refine a0 _ _ (.seq (fun K14 n => .region (.mv rfl (.mv rfl (.nil (n _ _ ?_))))))
  refine .ret ?_
  refine b _ _ ?_
  refine ⟨_, rfl, ?_⟩
  exact ⟨rfl, _, rfl, by omega, by omega, fun _ => ⟨by omega, fun i => by
    by_cases e : i < xss.length
    · exact c i (by omega)
    · rw [List.getD_eq_getElem?_getD, List.getElem?_eq_none (by omega)]; simp; omega⟩⟩
theorem szCategory_c {c : Cat} {p : CatP} {left : Int} {H : GHeap} (hin : c.In H p := by assumption) (hw : c.Wide := by assumption) (h0 : 0 ≤ left := by omega) (h1 : left ≤ 1048576 := by omega) :
    GCalls Tryd.prog 6 [.agg (c.cells p).toArray, .int .i64 left] H (SzR left c.Small H) := by
  refine SzR.of ?_
  obtain ⟨⟨a5, a2⟩, ⟨w2, _⟩, ⟨w3, _⟩, ⟨w4, _⟩, w5, w6⟩ := hw
  refine GCalls.body (N := 30) (rs := [.tmp 4]) Tryd.func6 rfl rfl rfl rfl (fun Qx a hend => ?_)
  refine .fg [0, 1] rfl ?_
  refine .seq (fun K1 x => .region (.d rfl rfl rfl (.box rfl sz_25_E rfl CIs.mk) ?_))
  show GRun _ _ _ _ _ _ (H.push (.row (c.cells p) 25 true))
  have b := GHeap.le_push H (.row (c.cells p) 25 true)
  have hb : Cat.At (H.push (.row (c.cells p) 25 true)) H.next 0 c p := ⟨Mem.new _ _ _ _, hin.mono b⟩
  generalize H.push (.row (c.cells p) 25 true) = H1 at *
  generalize H.next = g at *
  obtain ⟨c0, c1, c2, c3, c4, i1, i2, i3, i4⟩ := hb.get
  have hm : MemN _ _ _ _ _ := ⟨rfl, hb.1⟩
  refine .mv rfl (.nil (x _ _ (.seq (fun K2 a1 => .region (.q rfl (.fieldAddr fo_25_1_E rfl) ?_)))))
  refine .q rfl (.load on_22_B rfl (by assumption)) ?_
  refine .mv rfl ?_
  refine .call rfl rfl rfl rfl @Tryd.call21 rfl (szInt64S_c) ?_
  rintro _ _ ⟨rfl, lf, rfl, z1, z2, z3⟩
  refine .mv rfl (.nil (a1 _ _ (.seq (fun K3 z => .seq (fun K4 y => .region (.mv rfl (.q rfl (.cmp rfl rfl rfl) (.nil (y _ _ ?_)))))))))
  refine .cond rfl (fun t => ?_) (fun t => ?_)
  ·
   try simp only [sps] at t
   refine .seq (fun K5 a4 => .region (.mv rfl (.nil (a4 _ _ ?_))))
   refine .ret ?_
   refine a _ _ ?_
   refine ⟨_, rfl, ?_⟩
   exact ⟨b, _, rfl, by omega, by omega, fun h => by omega⟩
  try simp only [sps] at t
  refine .skip ?_
  refine z _ _ (.seq (fun K6 a6 => .region (.q rfl (.fieldAddr fo_25_2_E rfl) ?_)))
  refine .q rfl (.load on_22_B rfl (by assumption)) ?_
  refine .mv rfl ?_
  refine .call rfl rfl rfl rfl @Tryd.call21 rfl (szInt64S_c) ?_
  rintro _ _ ⟨rfl, lf, rfl, z1, z2, z3⟩
  refine .mv rfl (.nil (a6 _ _ (.seq (fun K7 a3 => .seq (fun K8 a0 => .region (.mv rfl (.q rfl (.cmp rfl rfl rfl) (.nil (a0 _ _ ?_)))))))))
  refine .cond rfl (fun n => ?_) (fun n => ?_)
  ·
   try simp only [sps] at n
   refine .seq (fun K9 w => .region (.mv rfl (.nil (w _ _ ?_))))
   refine .ret ?_
   refine a _ _ ?_
   refine ⟨_, rfl, ?_⟩
   exact ⟨b, _, rfl, by omega, by omega, fun h => by omega⟩
  try simp only [sps] at n
  refine .skip ?_
  refine a3 _ _ (.seq (fun K10 j => .region (.q rfl (.fieldAddr fo_25_3_E rfl) ?_)))
  refine .q rfl (.load on_22_B rfl (by assumption)) ?_
  refine .mv rfl ?_
  refine .call rfl rfl rfl rfl @Tryd.call21 rfl (szInt64S_c) ?_
  rintro _ _ ⟨rfl, lf, rfl, z1, z2, z3⟩
  refine .mv rfl (.nil (j _ _ (.seq (fun K11 f => .seq (fun K12 v => .region (.mv rfl (.q rfl (.cmp rfl rfl rfl) (.nil (v _ _ ?_)))))))))
  refine .cond rfl (fun k => ?_) (fun k => ?_)
  ·
   try simp only [sps] at k
   refine .seq (fun K13 r => .region (.mv rfl (.nil (r _ _ ?_))))
   refine .ret ?_
   refine a _ _ ?_
   refine ⟨_, rfl, ?_⟩
   exact ⟨b, _, rfl, by omega, by omega, fun h => by omega⟩
  try simp only [sps] at k
  refine .skip ?_
  refine f _ _ (.seq (fun K14 s => .region (.q rfl (.fieldAddr fo_25_4_E rfl) ?_)))
  refine .q rfl (.load on_23_B rfl (by assumption)) ?_
  refine .mv rfl ?_
  refine .call rfl rfl rfl rfl @Tryd.call22 rfl (szInt64SS_c) ?_
  rintro _ _ ⟨rfl, lf, rfl, z1, z2, z3⟩
  refine .mv rfl (.nil (s _ _ (.seq (fun K15 e => .seq (fun K16 l => .region (.mv rfl (.q rfl (.cmp rfl rfl rfl) (.nil (l _ _ ?_)))))))))
  refine .cond rfl (fun u => ?_) (fun u => ?_)
  ·
   try simp only [sps] at u
   refine .seq (fun K17 m => .region (.mv rfl (.nil (m _ _ ?_))))
   refine .ret ?_
   refine a _ _ ?_
   refine ⟨_, rfl, ?_⟩
   exact ⟨b, _, rfl, by omega, by omega, fun h => by omega⟩
  try simp only [sps] at u
  refine .skip ?_
  refine e _ _ (.seq (fun K18 o => .region (.mv rfl (.mv rfl (.nil (o _ _ ?_))))))
  refine .ret ?_
  refine a _ _ ?_
  refine ⟨_, rfl, ?_⟩
  exact ⟨b, _, rfl, by omega, by omega, fun h => ⟨by omega, by omega, by omega, by omega, fun i => by have := (z3 (by omega)).2 i; omega, ⟨a5, a2⟩⟩⟩
theorem szFunctor_c {c : Fun} {p : FunP} {left : Int} {H : GHeap} (hin : c.In H p := by assumption) (hw : c.Wide := by assumption) (h0 : 0 ≤ left := by omega) (h1 : left ≤ 1048576 := by omega) :
    GCalls Tryd.prog 11 [.agg (c.cells p).toArray, .int .i64 left] H (SzR left c.Small H) := by
  refine SzR.of ?_
  obtain ⟨w1, w2, ⟨w3, _⟩, ⟨w4, _⟩⟩ := hw
  refine GCalls.body (N := 30) (rs := [.tmp 4]) Tryd.func11 rfl rfl rfl rfl (fun Qx a hend => ?_)
  refine .fg [0, 1] rfl ?_
  refine .seq (fun K1 w => .region (.d rfl rfl rfl (.box rfl sz_34_E rfl CIs.mk) ?_))
  show GRun _ _ _ _ _ _ (H.push (.row (c.cells p) 34 true))
  have b := GHeap.le_push H (.row (c.cells p) 34 true)
  have hb : Fun.At (H.push (.row (c.cells p) 34 true)) H.next 0 c p := ⟨Mem.new _ _ _ _, hin.mono b⟩
  generalize H.push (.row (c.cells p) 34 true) = H1 at *
  generalize H.next = g at *
  obtain ⟨fs, ft, c10, c11, j1, j2⟩ := hb.get
  have hm : MemN _ _ _ _ _ := ⟨rfl, hb.1⟩
  have hin1 := hb.2
  have hms : MemN _ _ _ _ _ := ⟨rfl, fs.1⟩
  have hins1 := fs.2
  have hmt : MemN _ _ _ _ _ := ⟨rfl, ft.1⟩
  have hint1 := ft.2
  refine .mv rfl (.nil (w _ _ (.seq (fun K2 a0 => .region (.q rfl (.fieldAddr fo_34_0_E rfl) ?_)))))
  refine .q rfl (.loadM ag_25_E rfl (by assumption)) ?_
  refine .mv rfl ?_
  refine .call rfl rfl rfl rfl @Tryd.call6 rfl (szCategory_c) ?_
  rintro _ _ ⟨rfl, lf, rfl, z1, z2, z3⟩
  have y1 := z3
  refine .mv rfl (.nil (a0 _ _ (.seq (fun K3 y => .seq (fun K4 x => .region (.mv rfl (.q rfl (.cmp rfl rfl rfl) (.nil (x _ _ ?_)))))))))
  refine .cond rfl (fun s => ?_) (fun s => ?_)
  ·
   try simp only [sps] at s
   refine .seq (fun K5 a2 => .region (.mv rfl (.nil (a2 _ _ ?_))))
   refine .ret ?_
   refine a _ _ ?_
   refine ⟨_, rfl, ?_⟩
   exact ⟨b, _, rfl, by omega, by omega, fun h => by omega⟩
  try simp only [sps] at s
  refine .skip ?_
  refine y _ _ (.seq (fun K6 a3 => .region (.q rfl (.fieldAddr fo_34_1_E rfl) ?_)))
  refine .q rfl (.loadM ag_25_E rfl (by assumption)) ?_
  refine .mv rfl ?_
  refine .call rfl rfl rfl rfl @Tryd.call6 rfl (szCategory_c) ?_
  rintro _ _ ⟨rfl, lf, rfl, z1, z2, z3⟩
  have y2 := z3
  refine .mv rfl (.nil (a3 _ _ (.seq (fun K7 a1 => .seq (fun K8 z => .region (.mv rfl (.q rfl (.cmp rfl rfl rfl) (.nil (z _ _ ?_)))))))))
  refine .cond rfl (fun m => ?_) (fun m => ?_)
  ·
   try simp only [sps] at m
   refine .seq (fun K9 v => .region (.mv rfl (.nil (v _ _ ?_))))
   refine .ret ?_
   refine a _ _ ?_
   refine ⟨_, rfl, ?_⟩
   exact ⟨b, _, rfl, by omega, by omega, fun h => by omega⟩
  try simp only [sps] at m
  refine .skip ?_
  refine a1 _ _ (.seq (fun K10 i => .region (.q rfl (.fieldAddr fo_34_2_E rfl) ?_)))
  refine .q rfl (.load on_22_B rfl (by assumption)) ?_
  refine .mv rfl ?_
  refine .call rfl rfl rfl rfl @Tryd.call21 rfl (szInt64S_c) ?_
  rintro _ _ ⟨rfl, lf, rfl, z1, z2, z3⟩
  refine .mv rfl (.nil (i _ _ (.seq (fun K11 f => .seq (fun K12 u => .region (.mv rfl (.q rfl (.cmp rfl rfl rfl) (.nil (u _ _ ?_)))))))))
  refine .cond rfl (fun j => ?_) (fun j => ?_)
  ·
   try simp only [sps] at j
   refine .seq (fun K13 o => .region (.mv rfl (.nil (o _ _ ?_))))
   refine .ret ?_
   refine a _ _ ?_
   refine ⟨_, rfl, ?_⟩
   exact ⟨b, _, rfl, by omega, by omega, fun h => by omega⟩
  try simp only [sps] at j
  refine .skip ?_
  refine f _ _ (.seq (fun K14 r => .region (.q rfl (.fieldAddr fo_34_3_E rfl) ?_)))
  refine .q rfl (.load on_22_B rfl (by assumption)) ?_
  refine .mv rfl ?_
  refine .call rfl rfl rfl rfl @Tryd.call21 rfl (szInt64S_c) ?_
  rintro _ _ ⟨rfl, lf, rfl, z1, z2, z3⟩
  refine .mv rfl (.nil (r _ _ (.seq (fun K15 e => .seq (fun K16 k => .region (.mv rfl (.q rfl (.cmp rfl rfl rfl) (.nil (k _ _ ?_)))))))))
  refine .cond rfl (fun t => ?_) (fun t => ?_)
  ·
   try simp only [sps] at t
   refine .seq (fun K17 l => .region (.mv rfl (.nil (l _ _ ?_))))
   refine .ret ?_
   refine a _ _ ?_
   refine ⟨_, rfl, ?_⟩
   exact ⟨b, _, rfl, by omega, by omega, fun h => by omega⟩
  try simp only [sps] at t
  refine .skip ?_
  refine e _ _ (.seq (fun K18 n => .region (.mv rfl (.mv rfl (.nil (n _ _ ?_))))))
  refine .ret ?_
  refine a _ _ ?_
  refine ⟨_, rfl, ?_⟩
  exact ⟨b, _, rfl, by omega, by omega, fun h => ⟨y1 (by omega), y2 (by omega), by omega, by omega⟩⟩
theorem toInt64S_c {a : Option Addr} {xs : List Int} {H : GHeap} (h : Ints H a xs := by assumption) (hx : xs.length ≤ 1048576 := by omega) :
    GCalls Tryd.prog 27 [.slice a xs.length xs.length] H (NewInts 2 H xs) := by
  refine GCalls.body (N := 22) (rs := [.tmp 2]) Tryd.func27 rfl rfl rfl rfl (fun Qx j hend => ?_)
  refine .fg [0] rfl ?_
  refine .seq (fun K1 o => .region (.mv rfl (.nil (o _ _ (.seq (fun K2 m => .region (.mv rfl (.q rfl (.len sl_22_A rfl) ?_))))))))
  refine .d rfl rfl rfl (.makeSlice rfl sl_22_A ze_2_E by_2_E rfl rfl (by omega) rfl rfl (by omega) (by omega) (by omega) CIs.mk) ?_
  show GRun _ _ _ _ _ _ (H.push (.row (madeL [.int .i64 0] (xs.length * 1)) 2 true))
  rw [madeL_one, Nat.mul_one]
  have hrep : List.replicate xs.length (Value.int .i64 0) = ints (List.replicate xs.length 0) := by simp [ints]
  rw [hrep]
  have r := GHeap.le_push H (.row (ints (List.replicate xs.length 0)) 2 true)
  have hn := GHeap.get_push_new H (.row (ints (List.replicate xs.length 0)) 2 true)
  generalize H.push (.row (ints (List.replicate xs.length 0)) 2 true) = H1 at *
  obtain ⟨g0, b⟩ : ∃ g0, g0 = H.next := ⟨_, rfl⟩
  rw [← b] at hn ⊢
  have hnx : H.next ≤ g0 := by omega
  clear b
  refine .mv rfl (.nil (m _ _ (.seq (fun K3 t => .seq (fun K4 p => .region (.mv rfl (.nil (p _ _ ?_))))))))
  refine .block ?_
  refine .loopR (σ := Nat) [(0, some _), (3, some _)] (fun k => [(4, some (.int .i64 (k : Int)))]) (fun k H' => k ≤ xs.length ∧ H.Le H' ∧ H.next ≤ g0 ∧ ∃ ys : List Int, ys.length = xs.length ∧ (∀ i, i < k → ys.getD i 0 = xs.getD i 0) ∧ H'.get g0 = some (.row (ints ys) 2 true)) (fun k => xs.length - k) (0) ⟨rfl, rfl, trivial⟩ ⟨rfl, trivial⟩ ?_ ?_
  ·
   exact ⟨by omega, r, hnx, _, by simp, fun i hi => by omega, hn⟩
  rintro k H' hI KL1 g
  refine .forget (fr' := [(4, some (.int .i64 (k : Int))), (0, some _), (3, some _)]) ⟨rfl, rfl, rfl, trivial⟩ ?_
  obtain ⟨hk, hle', b, ys, hys, c, hget⟩ := hI
  have hsl := SlA.of_ints hget hys
  have hxs := h.mono hle'
  refine .seq (fun K5 n => .seq (fun K6 s => .region (.mv rfl (.mv rfl (.q rfl (.len sl_22_A rfl) (.q rfl (.cmp rfl rfl rfl) (.nil (s _ _ ?_))))))))
  refine .cond rfl (fun f => ?_) (fun f => ?_)
  ·
   try simp only [sps] at f
   refine .skip ?_
   refine n _ _ (.seq (fun K7 u => ?_))
   refine .block ?_
   refine .region (.mv rfl (.mv rfl (.mv rfl (.mv rfl ?_))))
   refine .q rfl (.idxN sl_22_A (by assumption) rfl rfl (by omega)) ?_
   refine .q rfl (.loadI on_2_A (by assumption) rfl (by omega)) ?_
   refine .q rfl (.idxN sl_22_A (by assumption) rfl rfl (by omega)) ?_
   refine .d0 rfl rfl (.store rfl sz_2_E rfl rfl rfl hget (by simp; omega) CIs.mk) ?_
   refine .nil (u _ _ (.region (.mv rfl ?_)))
   refine .q rfl (.add rfl rfl rfl (by omega) (by omega)) ?_
   refine .mv rfl (.nil ?_)
   refine g (k + 1) _ _ ?_ ?_ ⟨rfl, rfl, rfl, trivial⟩
   ·
    rw [Nat.zero_add, ints_set]
    refine ⟨by omega, hle'.set_new b, b, _, by simpa using hys, fun i hi => ?_, GHeap.get_set_eq (GHeap.ltg hget)⟩
    rw [getD_set (by omega)]
    split
    · rename_i e; rw [e]
    · exact c i (by omega)
   omega
  try simp only [sps] at f
  refine .exit ?_
  refine t _ _ (.seq (fun K8 l => .region (.mv rfl (.mv rfl (.nil (l _ _ ?_))))))
  refine .ret ?_
  refine j _ _ ?_
  refine ⟨_, rfl, ?_⟩
  obtain rfl : ys = xs := eq_of_getD hys fun i hi => c i (by omega)
  exact ⟨hle', _, rfl, hget, b⟩
theorem toInt64SS_c {a : Option Addr} {xss : List (List Int)} {r : Nat → Option Addr} {H : GHeap} (h : Intss H a xss r := by assumption) (hx : xss.length ≤ 1048576 := by omega) (hy : ∀ i, (xss.getD i []).length ≤ 1048576 := by assumption) :
    GCalls Tryd.prog 28 [.slice a xss.length xss.length] H (NewIntss H xss) := by
  refine GCalls.body (N := 23) (rs := [.tmp 2]) Tryd.func28 rfl rfl rfl rfl (fun Qx n hend => ?_)
  refine .fg [0] rfl ?_
  refine .seq (fun K1 u => .region (.mv rfl (.nil (u _ _ (.seq (fun K2 s => .region (.mv rfl (.q rfl (.len sl_23_B rfl) ?_))))))))
  refine .d rfl rfl rfl (.makeSlice rfl sl_23_B ze_22_E by_22_E rfl rfl (by omega) rfl rfl (by omega) (by omega) (by omega) CIs.mk) ?_
  show GRun _ _ _ _ _ _ (H.push (.row (madeL [.slice none 0 0] (xss.length * 1)) 22 true))
  have hlen := length_madeL [Value.slice none 0 0] (xss.length * 1)
  rw [Nat.mul_one] at hlen ⊢
  have w := GHeap.le_push H (.row (madeL [.slice none 0 0] xss.length) 22 true)
  have hn := GHeap.get_push_new H (.row (madeL [.slice none 0 0] xss.length) 22 true)
  generalize H.push (.row (madeL [.slice none 0 0] xss.length) 22 true) = H1 at *
  obtain ⟨g0, b⟩ : ∃ g0, g0 = H.next := ⟨_, rfl⟩
  rw [← b] at hn ⊢
  have hnx : H.next ≤ g0 := by omega
  clear b
  refine .mv rfl (.nil (s _ _ (.seq (fun K3 y => .seq (fun K4 v => .region (.mv rfl (.nil (v _ _ ?_))))))))
  refine .block ?_
  refine .loopR (σ := Nat) [(0, some _), (3, some _)] (fun k => [(4, some (.int .i64 (k : Int)))]) (fun k H' => k ≤ xss.length ∧ H.Le H' ∧ H.next ≤ g0 ∧ ∃ (cs : List Value) (q : Nat → Option Addr), H'.get g0 = some (.row cs 22 true) ∧ cs.length = xss.length ∧ (∀ i, i < k → cs[i]? = some (.slice (q i) (xss.getD i []).length (xss.getD i []).length)) ∧ ∀ i, i < k → IntsAt (g0 + 1) H' (q i) (xss.getD i [])) (fun k => xss.length - k) (0) ⟨rfl, rfl, trivial⟩ ⟨rfl, trivial⟩ ?_ ?_
  ·
   exact ⟨by omega, w, hnx, _, fun _ => none, hn, hlen, fun i hi => by omega, fun i hi => by omega⟩
  rintro k H' hI KL1 m
  refine .forget (fr' := [(4, some (.int .i64 (k : Int))), (0, some _), (3, some _)]) ⟨rfl, rfl, rfl, trivial⟩ ?_
  obtain ⟨hk, hle', b, cs, q, hget, hcs, c, hats⟩ := hI
  have hlt := GHeap.ltg hget
  have hss := h.mono hle'
  have i2 := hss.2
  refine .seq (fun K5 t => .seq (fun K6 x => .region (.mv rfl (.mv rfl (.q rfl (.len sl_23_B rfl) (.q rfl (.cmp rfl rfl rfl) (.nil (x _ _ ?_))))))))
  refine .cond rfl (fun l => ?_) (fun l => ?_)
  ·
   try simp only [sps] at l
   refine .skip ?_
   refine t _ _ (.seq (fun K7 z => ?_))
   refine .block ?_
   refine .region (.mv rfl (.mv rfl (.mv rfl (.mv rfl ?_))))
   refine .q rfl (.idxN sl_23_B (Intss.sl (by assumption)) rfl rfl (by omega)) ?_
   refine .q rfl (.loadR on_22_B (by assumption) rfl (by omega)) ?_
   have i2k := i2 k (by omega)
   have hyk := hy k
   refine .call rfl rfl rfl rfl @Tryd.call27 rfl (toInt64S_c) ?_
   rintro _ H2 ⟨j, g2, rfl, f, hg2⟩
   have hget' := j.2 _ _ hget
   have hsl := SlA.of_row hget' hcs
   refine .q rfl (.idxN sl_23_B hsl rfl rfl (by omega)) ?_
   refine .d0 rfl rfl (.store rfl sz_22_E rfl rfl rfl hget' (by simp; omega) CIs.mk) ?_
   refine .nil (z _ _ (.region (.mv rfl ?_)))
   refine .q rfl (.add rfl rfl rfl (by omega) (by omega)) ?_
   refine .mv rfl (.nil ?_)
   refine m (k + 1) _ _ ?_ ?_ ⟨rfl, rfl, rfl, trivial⟩
   ·
    rw [Nat.zero_add]
    refine ⟨by omega, (hle'.trans j).set_new b, b, _, fun i => if i = k then some ⟨g2, 0, none⟩ else q i, GHeap.get_set_eq (GHeap.ltg hget'), by simpa using hcs, fun i hi => ?_, fun i hi => ?_⟩
    · by_cases e : i = k
      · subst e; simp [List.getElem?_set, hcs]; omega
      · simp only [e, if_false]
        rw [List.getElem?_set_ne (Ne.symm e)]
        exact c i (by omega)
    · by_cases e : i = k
      · subst e
        simp only [if_true]
        exact ⟨g2, _, rfl, by omega, by rw [GHeap.get_set_ne (by omega)]; exact f⟩
      · simp only [e, if_false]
        exact (hats i (by omega)).keep (fun g o hg ho => by rw [GHeap.get_set_ne (by omega)]; exact j.2 _ _ ho) (Nat.le_refl _)
   omega
  try simp only [sps] at l
  refine .exit ?_
  refine y _ _ (.seq (fun K8 p => .region (.mv rfl (.mv rfl (.nil (p _ _ ?_))))))
  refine .ret ?_
  refine n _ _ ?_
  refine ⟨_, rfl, ?_⟩
  exact ⟨hle', _, q, rfl, g0, _, cs, rfl, b, hget, hcs, fun i hi => c i (by omega), fun i hi => (hats i (by omega)).keep (.of_le (.refl _)) (by omega)⟩
theorem toCategory_c {c : Cat} {p : CatP} {H : GHeap} (hin : c.In H p := by assumption) (hs : c.Small := by assumption) : GCalls Tryd.prog 8 [.agg (c.cells p).toArray] H (NewCat H c) := by
  obtain ⟨w1, w2, w3, w4, w5, -⟩ := hs
  refine GCalls.body (N := 24) (rs := [.cell 2 29]) Tryd.func8 rfl rfl rfl rfl (fun Qx m hend => ?_)
  refine .fg [0] rfl ?_
  refine .seq (fun K1 o => .region (.d rfl rfl rfl (.box rfl sz_25_E rfl CIs.mk) ?_))
  show GRun _ _ _ _ _ _ (H.push (.row (c.cells p) 25 true))
  have n := GHeap.le_push H (.row (c.cells p) 25 true)
  have hb : Cat.At (H.push (.row (c.cells p) 25 true)) H.next 0 c p := ⟨Mem.new _ _ _ _, hin.mono n⟩
  generalize H.push (.row (c.cells p) 25 true) = H1 at *
  refine .d rfl rfl rfl (.alloc rfl ze_29_E rfl CIs.mk) (.nil (o _ _ (.seq (fun K2 v => .region (.d rfl rfl rfl (.alloc rfl ze_29_E rfl CIs.mk) ?_)))))
  show GRun _ _ _ _ _ _ ((H1.push (.row [(.int .i64 0 : Value), (.slice none 0 0 : Value), (.slice none 0 0 : Value), (.slice none 0 0 : Value), (.slice none 0 0 : Value)] 29 true)).push (.row [(.int .i64 0 : Value), (.slice none 0 0 : Value), (.slice none 0 0 : Value), (.slice none 0 0 : Value), (.slice none 0 0 : Value)] 29 true))
  have B := Bld.start H1 29 [(.int .i64 0 : Value), (.slice none 0 0 : Value), (.slice none 0 0 : Value), (.slice none 0 0 : Value), (.slice none 0 0 : Value)]
  generalize (H1.push (.row [(.int .i64 0 : Value), (.slice none 0 0 : Value), (.slice none 0 0 : Value), (.slice none 0 0 : Value), (.slice none 0 0 : Value)] 29 true)).next = g3 at *
  generalize (H1.push (.row [(.int .i64 0 : Value), (.slice none 0 0 : Value), (.slice none 0 0 : Value), (.slice none 0 0 : Value), (.slice none 0 0 : Value)] 29 true)).push (.row [(.int .i64 0 : Value), (.slice none 0 0 : Value), (.slice none 0 0 : Value), (.slice none 0 0 : Value), (.slice none 0 0 : Value)] 29 true) = H3 at *
  generalize g3 + 1 = b at *
  obtain ⟨c0, -, -, -, -, -, -, -, -⟩ := (hb.mono B.le).get
  refine .nil (v _ _ (.seq (fun K3 t => .region (.q rfl (.fieldAddr fo_25_0_E rfl) ?_))))
  refine .q rfl (.load on_2_A rfl (by assumption)) ?_
  refine .q rfl (.fieldAddr fo_29_0_B rfl) (.d0 rfl rfl (.store rfl sz_2_E rfl rfl rfl B.own (Nat.le_of_ble_eq_true rfl) CIs.mk) ?_)
  show GRun _ _ _ _ _ _ (H3.set g3 (some (.row ([.int .i64 c.obj] ++ ([(.slice none 0 0 : Value)] ++ ([(.slice none 0 0 : Value)] ++ ([(.slice none 0 0 : Value)] ++ ([(.slice none 0 0 : Value)]))))) 29 true)))
  have ⟨B, hk⟩ := B.store ([.int .i64 c.obj] ++ ([(.slice none 0 0 : Value)] ++ ([(.slice none 0 0 : Value)] ++ ([(.slice none 0 0 : Value)] ++ ([(.slice none 0 0 : Value)])))))
  generalize H3.set g3 (some (.row ([.int .i64 c.obj] ++ ([(.slice none 0 0 : Value)] ++ ([(.slice none 0 0 : Value)] ++ ([(.slice none 0 0 : Value)] ++ ([(.slice none 0 0 : Value)]))))) 29 true)) = H10 at *
  obtain ⟨-, c1, -, -, -, i1, -, -, -⟩ := (hb.mono B.le).get
  refine .nil (t _ _ (.seq (fun K4 r => .region (.q rfl (.fieldAddr fo_25_1_E rfl) ?_))))
  refine .q rfl (.load on_22_B rfl (by assumption)) ?_
  have j := B.bn
  refine .call rfl rfl rfl rfl @Tryd.call27 rfl (toInt64S_c) ?_
  rintro _ H2 ⟨f, g2, rfl, a, k⟩
  have B := B.call f
  obtain ⟨e, hga⟩ : ∃ x, x = g2 := ⟨_, rfl⟩
  rw [← hga] at a k ⊢
  clear hga
  have v1 : IntsAt b H2 (some ⟨e, 0, none⟩) c.src := ⟨_, _, rfl, by have := j; omega, a⟩
  refine .q rfl (.fieldAddr fo_29_1_B rfl) (.d0 rfl rfl (.store rfl sz_22_E rfl rfl rfl B.own (Nat.le_of_ble_eq_true rfl) CIs.mk) ?_)
  show GRun _ _ _ _ _ _ (H2.set g3 (some (.row ([.int .i64 c.obj] ++ ([.slice (some ⟨e, 0, none⟩) c.src.length c.src.length] ++ ([(.slice none 0 0 : Value)] ++ ([(.slice none 0 0 : Value)] ++ ([(.slice none 0 0 : Value)]))))) 29 true)))
  have ⟨B, hk⟩ := B.store ([.int .i64 c.obj] ++ ([.slice (some ⟨e, 0, none⟩) c.src.length c.src.length] ++ ([(.slice none 0 0 : Value)] ++ ([(.slice none 0 0 : Value)] ++ ([(.slice none 0 0 : Value)])))))
  replace v1 := v1.keep hk (Nat.le_refl _)
  generalize H2.set g3 (some (.row ([.int .i64 c.obj] ++ ([.slice (some ⟨e, 0, none⟩) c.src.length c.src.length] ++ ([(.slice none 0 0 : Value)] ++ ([(.slice none 0 0 : Value)] ++ ([(.slice none 0 0 : Value)]))))) 29 true)) = H11 at *
  obtain ⟨-, -, c2, -, -, -, i2, -, -⟩ := (hb.mono B.le).get
  refine .nil (r _ _ (.seq (fun K5 y => .region (.q rfl (.fieldAddr fo_25_2_E rfl) ?_))))
  refine .q rfl (.load on_22_B rfl (by assumption)) ?_
  have j := B.bn
  refine .call rfl rfl rfl rfl @Tryd.call27 rfl (toInt64S_c) ?_
  rintro _ H2 ⟨f, g2, rfl, a, k⟩
  have B := B.call f
  obtain ⟨g, hga⟩ : ∃ x, x = g2 := ⟨_, rfl⟩
  rw [← hga] at a k ⊢
  clear hga
  have v2 : IntsAt b H2 (some ⟨g, 0, none⟩) c.tgt := ⟨_, _, rfl, by have := j; omega, a⟩
  replace v1 := v1.keep (.of_le f) (Nat.le_refl _)
  refine .q rfl (.fieldAddr fo_29_2_B rfl) (.d0 rfl rfl (.store rfl sz_22_E rfl rfl rfl B.own (Nat.le_of_ble_eq_true rfl) CIs.mk) ?_)
  show GRun _ _ _ _ _ _ (H2.set g3 (some (.row ([.int .i64 c.obj] ++ ([.slice (some ⟨e, 0, none⟩) c.src.length c.src.length] ++ ([.slice (some ⟨g, 0, none⟩) c.tgt.length c.tgt.length] ++ ([(.slice none 0 0 : Value)] ++ ([(.slice none 0 0 : Value)]))))) 29 true)))
  have ⟨B, hk⟩ := B.store ([.int .i64 c.obj] ++ ([.slice (some ⟨e, 0, none⟩) c.src.length c.src.length] ++ ([.slice (some ⟨g, 0, none⟩) c.tgt.length c.tgt.length] ++ ([(.slice none 0 0 : Value)] ++ ([(.slice none 0 0 : Value)])))))
  replace v1 := v1.keep hk (Nat.le_refl _)
  replace v2 := v2.keep hk (Nat.le_refl _)
  generalize H2.set g3 (some (.row ([.int .i64 c.obj] ++ ([.slice (some ⟨e, 0, none⟩) c.src.length c.src.length] ++ ([.slice (some ⟨g, 0, none⟩) c.tgt.length c.tgt.length] ++ ([(.slice none 0 0 : Value)] ++ ([(.slice none 0 0 : Value)]))))) 29 true)) = H12 at *
  obtain ⟨-, -, -, c3, -, -, -, i3, -⟩ := (hb.mono B.le).get
  refine .nil (y _ _ (.seq (fun K6 z => .region (.q rfl (.fieldAddr fo_25_3_E rfl) ?_))))
  refine .q rfl (.load on_22_B rfl (by assumption)) ?_
  have j := B.bn
  refine .call rfl rfl rfl rfl @Tryd.call27 rfl (toInt64S_c) ?_
  rintro _ H2 ⟨f, g2, rfl, a, k⟩
  have B := B.call f
  obtain ⟨h, hga⟩ : ∃ x, x = g2 := ⟨_, rfl⟩
  rw [← hga] at a k ⊢
  clear hga
  have v3 : IntsAt b H2 (some ⟨h, 0, none⟩) c.idn := ⟨_, _, rfl, by have := j; omega, a⟩
  replace v1 := v1.keep (.of_le f) (Nat.le_refl _)
  replace v2 := v2.keep (.of_le f) (Nat.le_refl _)
  refine .q rfl (.fieldAddr fo_29_3_B rfl) (.d0 rfl rfl (.store rfl sz_22_E rfl rfl rfl B.own (Nat.le_of_ble_eq_true rfl) CIs.mk) ?_)
  show GRun _ _ _ _ _ _ (H2.set g3 (some (.row ([.int .i64 c.obj] ++ ([.slice (some ⟨e, 0, none⟩) c.src.length c.src.length] ++ ([.slice (some ⟨g, 0, none⟩) c.tgt.length c.tgt.length] ++ ([.slice (some ⟨h, 0, none⟩) c.idn.length c.idn.length] ++ ([(.slice none 0 0 : Value)]))))) 29 true)))
  have ⟨B, hk⟩ := B.store ([.int .i64 c.obj] ++ ([.slice (some ⟨e, 0, none⟩) c.src.length c.src.length] ++ ([.slice (some ⟨g, 0, none⟩) c.tgt.length c.tgt.length] ++ ([.slice (some ⟨h, 0, none⟩) c.idn.length c.idn.length] ++ ([(.slice none 0 0 : Value)])))))
  replace v1 := v1.keep hk (Nat.le_refl _)
  replace v2 := v2.keep hk (Nat.le_refl _)
  replace v3 := v3.keep hk (Nat.le_refl _)
  generalize H2.set g3 (some (.row ([.int .i64 c.obj] ++ ([.slice (some ⟨e, 0, none⟩) c.src.length c.src.length] ++ ([.slice (some ⟨g, 0, none⟩) c.tgt.length c.tgt.length] ++ ([.slice (some ⟨h, 0, none⟩) c.idn.length c.idn.length] ++ ([(.slice none 0 0 : Value)]))))) 29 true)) = H13 at *
  obtain ⟨-, -, -, -, c4, -, -, -, i4⟩ := (hb.mono B.le).get
  refine .nil (z _ _ (.seq (fun K7 w => .region (.q rfl (.fieldAddr fo_25_4_E rfl) ?_))))
  refine .q rfl (.load on_23_B rfl (by assumption)) ?_
  have j := B.bn
  refine .call rfl rfl rfl rfl @Tryd.call28 rfl (toInt64SS_c) ?_
  rintro _ H2 ⟨f, a2, r2, rfl, i⟩
  have B := B.call f
  obtain ⟨l, hga⟩ : ∃ x, x = a2 := ⟨_, rfl⟩
  rw [← hga] at i ⊢
  clear hga
  obtain ⟨s, hga⟩ : ∃ x, x = r2 := ⟨_, rfl⟩
  rw [← hga] at i
  clear hga
  have v4 := i.keep (.of_le (.refl _)) j
  replace v1 := v1.keep (.of_le f) (Nat.le_refl _)
  replace v2 := v2.keep (.of_le f) (Nat.le_refl _)
  replace v3 := v3.keep (.of_le f) (Nat.le_refl _)
  refine .q rfl (.fieldAddr fo_29_4_B rfl) (.d0 rfl rfl (.store rfl sz_23_E rfl rfl rfl B.own (Nat.le_of_ble_eq_true rfl) CIs.mk) ?_)
  show GRun _ _ _ _ _ _ (H2.set g3 (some (.row ([.int .i64 c.obj] ++ ([.slice (some ⟨e, 0, none⟩) c.src.length c.src.length] ++ ([.slice (some ⟨g, 0, none⟩) c.tgt.length c.tgt.length] ++ ([.slice (some ⟨h, 0, none⟩) c.idn.length c.idn.length] ++ ([.slice l c.comp.length c.comp.length]))))) 29 true)))
  have ⟨B, hk⟩ := B.store ([.int .i64 c.obj] ++ ([.slice (some ⟨e, 0, none⟩) c.src.length c.src.length] ++ ([.slice (some ⟨g, 0, none⟩) c.tgt.length c.tgt.length] ++ ([.slice (some ⟨h, 0, none⟩) c.idn.length c.idn.length] ++ ([.slice l c.comp.length c.comp.length])))))
  replace v1 := v1.keep hk (Nat.le_refl _)
  replace v2 := v2.keep hk (Nat.le_refl _)
  replace v3 := v3.keep hk (Nat.le_refl _)
  replace v4 := v4.keep hk (Nat.le_refl _)
  generalize H2.set g3 (some (.row ([.int .i64 c.obj] ++ ([.slice (some ⟨e, 0, none⟩) c.src.length c.src.length] ++ ([.slice (some ⟨g, 0, none⟩) c.tgt.length c.tgt.length] ++ ([.slice (some ⟨h, 0, none⟩) c.idn.length c.idn.length] ++ ([.slice l c.comp.length c.comp.length]))))) 29 true)) = H14 at *
  refine .nil (w _ _ (.seq (fun K8 u => .region ?_)))
  refine .q rfl (.loadM ag_29_D rfl ⟨rfl, Mem.of_get B.own⟩) ?_
  refine .d0 rfl rfl (.storeN rfl sz_29_D rfl rfl rfl rfl B.res (Nat.le_of_ble_eq_true rfl) CIs.mk) ?_
  rw [setAll_all _ _ (by rfl)]
  refine .nil (u _ _ ?_)
  refine .ret ?_
  refine m _ _ ?_
  refine ⟨_, _, _, _, rfl, ag_29_D, (by rfl), (Mem.of_get (GHeap.get_set_eq (GHeap.ltg B.res))), ?_⟩
  exact ⟨n.trans (B.done _).1, ⟨some ⟨e, 0, none⟩, some ⟨g, 0, none⟩, some ⟨h, 0, none⟩, l, s⟩, rfl, (CatAt.keep (b := b) (b' := b) ⟨v1, v2, v3, v4⟩ (B.done _).2 (Nat.le_refl _)).keep (.of_le (.refl _)) (by have := B.l2; have := n.1; omega)⟩
theorem toFunctor_c {c : Fun} {p : FunP} {H : GHeap} (hin : c.In H p := by assumption) (hs : c.Small := by assumption) : GCalls Tryd.prog 13 [.agg (c.cells p).toArray] H (NewFun H c) := by
  obtain ⟨w1, w2, w3, w4⟩ := hs
  refine GCalls.body (N := 21) (rs := [.cell 2 38]) Tryd.func13 rfl rfl rfl rfl (fun Qx n hend => ?_)
  refine .fg [0] rfl ?_
  refine .seq (fun K1 u => .region (.d rfl rfl rfl (.box rfl sz_34_E rfl CIs.mk) ?_))
  show GRun _ _ _ _ _ _ (H.push (.row (c.cells p) 34 true))
  have m := GHeap.le_push H (.row (c.cells p) 34 true)
  have hb : Fun.At (H.push (.row (c.cells p) 34 true)) H.next 0 c p := ⟨Mem.new _ _ _ _, hin.mono m⟩
  generalize H.push (.row (c.cells p) 34 true) = H1 at *
  refine .d rfl rfl rfl (.alloc rfl ze_38_E rfl CIs.mk) (.nil (u _ _ (.seq (fun K2 o => .region (.d rfl rfl rfl (.alloc rfl ze_38_E rfl CIs.mk) ?_)))))
  show GRun _ _ _ _ _ _ ((H1.push (.row [(.int .i64 0 : Value), (.slice none 0 0 : Value), (.slice none 0 0 : Value), (.slice none 0 0 : Value), (.slice none 0 0 : Value), (.int .i64 0 : Value), (.slice none 0 0 : Value), (.slice none 0 0 : Value), (.slice none 0 0 : Value), (.slice none 0 0 : Value), (.slice none 0 0 : Value), (.slice none 0 0 : Value)] 38 true)).push (.row [(.int .i64 0 : Value), (.slice none 0 0 : Value), (.slice none 0 0 : Value), (.slice none 0 0 : Value), (.slice none 0 0 : Value), (.int .i64 0 : Value), (.slice none 0 0 : Value), (.slice none 0 0 : Value), (.slice none 0 0 : Value), (.slice none 0 0 : Value), (.slice none 0 0 : Value), (.slice none 0 0 : Value)] 38 true))
  have B := Bld.start H1 38 [(.int .i64 0 : Value), (.slice none 0 0 : Value), (.slice none 0 0 : Value), (.slice none 0 0 : Value), (.slice none 0 0 : Value), (.int .i64 0 : Value), (.slice none 0 0 : Value), (.slice none 0 0 : Value), (.slice none 0 0 : Value), (.slice none 0 0 : Value), (.slice none 0 0 : Value), (.slice none 0 0 : Value)]
  generalize (H1.push (.row [(.int .i64 0 : Value), (.slice none 0 0 : Value), (.slice none 0 0 : Value), (.slice none 0 0 : Value), (.slice none 0 0 : Value), (.int .i64 0 : Value), (.slice none 0 0 : Value), (.slice none 0 0 : Value), (.slice none 0 0 : Value), (.slice none 0 0 : Value), (.slice none 0 0 : Value), (.slice none 0 0 : Value)] 38 true)).next = g3 at *
  generalize (H1.push (.row [(.int .i64 0 : Value), (.slice none 0 0 : Value), (.slice none 0 0 : Value), (.slice none 0 0 : Value), (.slice none 0 0 : Value), (.int .i64 0 : Value), (.slice none 0 0 : Value), (.slice none 0 0 : Value), (.slice none 0 0 : Value), (.slice none 0 0 : Value), (.slice none 0 0 : Value), (.slice none 0 0 : Value)] 38 true)).push (.row [(.int .i64 0 : Value), (.slice none 0 0 : Value), (.slice none 0 0 : Value), (.slice none 0 0 : Value), (.slice none 0 0 : Value), (.int .i64 0 : Value), (.slice none 0 0 : Value), (.slice none 0 0 : Value), (.slice none 0 0 : Value), (.slice none 0 0 : Value), (.slice none 0 0 : Value), (.slice none 0 0 : Value)] 38 true) = H3 at *
  generalize g3 + 1 = b at *
  obtain ⟨fs, -, -, -, -, -⟩ := (hb.mono B.le).get
  have hmfs : MemN _ _ _ _ _ := ⟨rfl, fs.1⟩
  have infs := fs.2
  refine .nil (o _ _ (.seq (fun K3 y => .region (.q rfl (.fieldAddr fo_34_0_E rfl) ?_))))
  refine .q rfl (.loadM ag_25_E rfl (by assumption)) ?_
  have j := B.bn
  refine .call rfl rfl rfl rfl @Tryd.call8 rfl (toCategory_c) ?_
  rintro _ H2 ⟨e, p2, rfl, g⟩
  have B := B.call e
  obtain ⟨f, hga⟩ : ∃ x, x = p2 := ⟨_, rfl⟩
  rw [← hga] at g ⊢
  clear hga
  have v0 := g.keep (.of_le (.refl _)) j
  refine .q rfl (.fieldAddr fo_38_0_E rfl) (.d0 rfl rfl (.storeN rfl sz_29_D rfl rfl rfl rfl B.own (Nat.le_of_ble_eq_true rfl) CIs.mk) ?_)
  show GRun _ _ _ _ _ _ (H2.set g3 (some (.row (c.s.cells f ++ ([(.int .i64 0 : Value), (.slice none 0 0 : Value), (.slice none 0 0 : Value), (.slice none 0 0 : Value), (.slice none 0 0 : Value)] ++ ([(.slice none 0 0 : Value)] ++ ([(.slice none 0 0 : Value)])))) 38 true)))
  have ⟨B, hk⟩ := B.store (c.s.cells f ++ ([(.int .i64 0 : Value), (.slice none 0 0 : Value), (.slice none 0 0 : Value), (.slice none 0 0 : Value), (.slice none 0 0 : Value)] ++ ([(.slice none 0 0 : Value)] ++ ([(.slice none 0 0 : Value)]))))
  replace v0 := v0.keep hk (Nat.le_refl _)
  generalize H2.set g3 (some (.row (c.s.cells f ++ ([(.int .i64 0 : Value), (.slice none 0 0 : Value), (.slice none 0 0 : Value), (.slice none 0 0 : Value), (.slice none 0 0 : Value)] ++ ([(.slice none 0 0 : Value)] ++ ([(.slice none 0 0 : Value)])))) 38 true)) = H10 at *
  obtain ⟨-, ft, -, -, -, -⟩ := (hb.mono B.le).get
  have hmft : MemN _ _ _ _ _ := ⟨rfl, ft.1⟩
  have inft := ft.2
  refine .nil (y _ _ (.seq (fun K4 v => .region (.q rfl (.fieldAddr fo_34_1_E rfl) ?_))))
  refine .q rfl (.loadM ag_25_E rfl (by assumption)) ?_
  have j := B.bn
  refine .call rfl rfl rfl rfl @Tryd.call8 rfl (toCategory_c) ?_
  rintro _ H2 ⟨e, p2, rfl, g⟩
  have B := B.call e
  obtain ⟨h, hga⟩ : ∃ x, x = p2 := ⟨_, rfl⟩
  rw [← hga] at g ⊢
  clear hga
  have v1 := g.keep (.of_le (.refl _)) j
  replace v0 := v0.keep (.of_le e) (Nat.le_refl _)
  refine .q rfl (.fieldAddr fo_38_1_E rfl) (.d0 rfl rfl (.storeN rfl sz_29_D rfl rfl rfl rfl B.own (Nat.le_of_ble_eq_true rfl) CIs.mk) ?_)
  show GRun _ _ _ _ _ _ (H2.set g3 (some (.row (c.s.cells f ++ (c.t.cells h ++ ([(.slice none 0 0 : Value)] ++ ([(.slice none 0 0 : Value)])))) 38 true)))
  have ⟨B, hk⟩ := B.store (c.s.cells f ++ (c.t.cells h ++ ([(.slice none 0 0 : Value)] ++ ([(.slice none 0 0 : Value)]))))
  replace v0 := v0.keep hk (Nat.le_refl _)
  replace v1 := v1.keep hk (Nat.le_refl _)
  generalize H2.set g3 (some (.row (c.s.cells f ++ (c.t.cells h ++ ([(.slice none 0 0 : Value)] ++ ([(.slice none 0 0 : Value)])))) 38 true)) = H11 at *
  obtain ⟨-, -, c10, -, j1, -⟩ := (hb.mono B.le).get
  refine .nil (v _ _ (.seq (fun K5 r => .region (.q rfl (.fieldAddr fo_34_2_E rfl) ?_))))
  refine .q rfl (.load on_22_B rfl (by assumption)) ?_
  have j := B.bn
  refine .call rfl rfl rfl rfl @Tryd.call27 rfl (toInt64S_c) ?_
  rintro _ H2 ⟨e, g2, rfl, a, l⟩
  have B := B.call e
  obtain ⟨i, hga⟩ : ∃ x, x = g2 := ⟨_, rfl⟩
  rw [← hga] at a l ⊢
  clear hga
  have v2 : IntsAt b H2 (some ⟨i, 0, none⟩) c.ob := ⟨_, _, rfl, by have := j; omega, a⟩
  replace v0 := v0.keep (.of_le e) (Nat.le_refl _)
  replace v1 := v1.keep (.of_le e) (Nat.le_refl _)
  refine .q rfl (.fieldAddr fo_38_2_E rfl) (.d0 rfl rfl (.store rfl sz_22_E rfl rfl rfl B.own (Nat.le_of_ble_eq_true rfl) CIs.mk) ?_)
  show GRun _ _ _ _ _ _ (H2.set g3 (some (.row (c.s.cells f ++ (c.t.cells h ++ ([.slice (some ⟨i, 0, none⟩) c.ob.length c.ob.length] ++ ([(.slice none 0 0 : Value)])))) 38 true)))
  have ⟨B, hk⟩ := B.store (c.s.cells f ++ (c.t.cells h ++ ([.slice (some ⟨i, 0, none⟩) c.ob.length c.ob.length] ++ ([(.slice none 0 0 : Value)]))))
  replace v0 := v0.keep hk (Nat.le_refl _)
  replace v1 := v1.keep hk (Nat.le_refl _)
  replace v2 := v2.keep hk (Nat.le_refl _)
  generalize H2.set g3 (some (.row (c.s.cells f ++ (c.t.cells h ++ ([.slice (some ⟨i, 0, none⟩) c.ob.length c.ob.length] ++ ([(.slice none 0 0 : Value)])))) 38 true)) = H12 at *
  obtain ⟨-, -, -, c11, -, j2⟩ := (hb.mono B.le).get
  refine .nil (r _ _ (.seq (fun K6 w => .region (.q rfl (.fieldAddr fo_34_3_E rfl) ?_))))
  refine .q rfl (.load on_22_B rfl (by assumption)) ?_
  have j := B.bn
  refine .call rfl rfl rfl rfl @Tryd.call27 rfl (toInt64S_c) ?_
  rintro _ H2 ⟨e, g2, rfl, a, l⟩
  have B := B.call e
  obtain ⟨k, hga⟩ : ∃ x, x = g2 := ⟨_, rfl⟩
  rw [← hga] at a l ⊢
  clear hga
  have v3 : IntsAt b H2 (some ⟨k, 0, none⟩) c.ar := ⟨_, _, rfl, by have := j; omega, a⟩
  replace v0 := v0.keep (.of_le e) (Nat.le_refl _)
  replace v1 := v1.keep (.of_le e) (Nat.le_refl _)
  replace v2 := v2.keep (.of_le e) (Nat.le_refl _)
  refine .q rfl (.fieldAddr fo_38_3_E rfl) (.d0 rfl rfl (.store rfl sz_22_E rfl rfl rfl B.own (Nat.le_of_ble_eq_true rfl) CIs.mk) ?_)
  show GRun _ _ _ _ _ _ (H2.set g3 (some (.row (c.s.cells f ++ (c.t.cells h ++ ([.slice (some ⟨i, 0, none⟩) c.ob.length c.ob.length] ++ ([.slice (some ⟨k, 0, none⟩) c.ar.length c.ar.length])))) 38 true)))
  have ⟨B, hk⟩ := B.store (c.s.cells f ++ (c.t.cells h ++ ([.slice (some ⟨i, 0, none⟩) c.ob.length c.ob.length] ++ ([.slice (some ⟨k, 0, none⟩) c.ar.length c.ar.length]))))
  replace v0 := v0.keep hk (Nat.le_refl _)
  replace v1 := v1.keep hk (Nat.le_refl _)
  replace v2 := v2.keep hk (Nat.le_refl _)
  replace v3 := v3.keep hk (Nat.le_refl _)
  generalize H2.set g3 (some (.row (c.s.cells f ++ (c.t.cells h ++ ([.slice (some ⟨i, 0, none⟩) c.ob.length c.ob.length] ++ ([.slice (some ⟨k, 0, none⟩) c.ar.length c.ar.length])))) 38 true)) = H13 at *
  refine .nil (w _ _ (.seq (fun K7 z => .region ?_)))
  refine .q rfl (.loadM ag_38_E rfl ⟨rfl, Mem.of_get B.own⟩) ?_
  refine .d0 rfl rfl (.storeN rfl sz_38_E rfl rfl rfl rfl B.res (Nat.le_of_ble_eq_true rfl) CIs.mk) ?_
  rw [setAll_all _ _ (by rfl)]
  refine .nil (z _ _ ?_)
  refine .ret ?_
  refine n _ _ ?_
  refine ⟨_, _, _, _, rfl, ag_38_E, (by rfl), (Mem.of_get (GHeap.get_set_eq (GHeap.ltg B.res))), ?_⟩
  exact ⟨m.trans (B.done _).1, ⟨f, h, some ⟨i, 0, none⟩, some ⟨k, 0, none⟩⟩, rfl, (FunAt.keep (b := b) (b' := b) ⟨v0, v1, v2, v3⟩ (B.done _).2 (Nat.le_refl _)).keep (.of_le (.refl _)) (by have := B.l2; have := m.1; omega)⟩
theorem eqInt64S_c {a b : Option Addr} {xs : List Int} {H : GHeap} (h : Ints H a xs := by assumption) (h' : Ints H b xs := by assumption) (hx : xs.length ≤ 1048576 := by omega) :
    GCalls Tryd.prog 34 [.slice a xs.length xs.length, .slice b xs.length xs.length] H (Ret (.bool true) H) := by
  refine GCalls.body (N := 26) (rs := [.tmp 4]) Tryd.func34 rfl rfl rfl rfl (fun Qx c hend => ?_)
  refine .fg [0, 1] rfl ?_
  refine .seq (fun K1 r => .region (.mv rfl (.nil (r _ _ (.seq (fun K2 n => .seq (fun K3 u => .region (.mv rfl (.q rfl (.len sl_22_A rfl) (.mv rfl (.q rfl (.len sl_22_A rfl) (.q rfl (.cmp rfl rfl rfl) (.nil (u _ _ ?_))))))))))))))
  refine .cond rfl (fun i => ?_) (fun i => ?_)
  ·
   try simp only [sps] at i
   refine .seq (fun K4 s => .region (.mv rfl (.nil (s _ _ ?_))))
   refine .ret ?_
   refine c _ _ ?_
   refine ⟨_, rfl, ?_⟩
   (exfalso; simp_all)
  try simp only [sps] at i
  refine .skip ?_
  refine n _ _ (.seq (fun K5 o => .seq (fun K6 t => .region (.mv rfl (.nil (t _ _ ?_))))))
  refine .block ?_
  refine .loopR (σ := Nat) [(0, some _), (1, some _)] (fun k => [(5, some (.int .i64 (k : Int)))]) (fun k H' => H = H' ∧ k ≤ xs.length) (fun k => xs.length - k) (0) ⟨rfl, rfl, trivial⟩ ⟨rfl, trivial⟩ ?_ ?_
  ·
   refine ⟨rfl, ?_⟩
   omega
  rintro k _ ⟨rfl, hI⟩ KL1 l
  refine .forget (fr' := [(5, some (.int .i64 (k : Int))), (0, some _), (1, some _)]) ⟨rfl, rfl, rfl, trivial⟩ ?_
  refine .seq (fun K7 v => .seq (fun K8 m => .region (.mv rfl (.mv rfl (.q rfl (.len sl_22_A rfl) (.q rfl (.cmp rfl rfl rfl) (.nil (m _ _ ?_))))))))
  refine .cond rfl (fun g => ?_) (fun g => ?_)
  ·
   try simp only [sps] at g
   refine .skip ?_
   refine v _ _ (.seq (fun K9 p => ?_))
   refine .block ?_
   refine .seq (fun K10 f => ?_)
   refine .regionD mo_B (.q 0 (.q 1 (.q 2 (.q 3 (.q 4 (.q 5 (.q 6 (.q 7 (.q 8 (.done)))))))))) (by kernel_rfl) ?_
   refine .mv rfl rfl (.mv rfl rfl ?_)
   refine .q rfl (.idxN sl_22_A (by assumption) rfl rfl (by omega)) ?_
   refine .q rfl (.loadI on_2_A (by assumption) rfl (by omega)) ?_
   refine .mv rfl rfl (.mv rfl rfl ?_)
   refine .q rfl (.idxN sl_22_A (by assumption) rfl rfl (by omega)) ?_
   refine .q rfl (.loadI on_2_A (by assumption) rfl (by omega)) ?_
   refine .q rfl (.cmp rfl rfl rfl) ?_
   refine .done ?_
   refine f _ _ ?_
   refine .cond rfl (fun d => ?_) (fun d => ?_)
   ·
    try simp only [sps] at d
    refine .seq (fun K11 e => .region (.mv rfl (.nil (e _ _ ?_))))
    refine .ret ?_
    refine c _ _ ?_
    refine ⟨_, rfl, ?_⟩
    (exfalso; simp_all)
   try simp only [sps] at d
   refine .skip ?_
   refine p _ _ (.region (.mv rfl ?_))
   refine .q rfl (.add rfl rfl rfl (by omega) (by omega)) ?_
   refine .mv rfl (.nil ?_)
   refine l (k + 1) _ _ ?_ ?_ ⟨rfl, rfl, rfl, trivial⟩
   ·
    refine ⟨rfl, ?_⟩
    omega
   omega
  try simp only [sps] at g
  refine .exit ?_
  refine o _ _ (.seq (fun K12 j => .region (.mv rfl (.nil (j _ _ ?_)))))
  refine .ret ?_
  refine c _ _ ?_
  refine ⟨_, rfl, ?_⟩
  exact .of rfl
theorem eqInt64SS_c {a b : Option Addr} {xss : List (List Int)} {r r' : Nat → Option Addr} {H : GHeap} (h : Intss H a xss r := by assumption) (h' : Intss H b xss r' := by assumption) (hx : xss.length ≤ 1048576 := by omega) (hy : ∀ i, (xss.getD i []).length ≤ 1048576 := by assumption) :
    GCalls Tryd.prog 35 [.slice a xss.length xss.length, .slice b xss.length xss.length] H (Ret (.bool true) H) := by
  refine GCalls.body (N := 27) (rs := [.tmp 4]) Tryd.func35 rfl rfl rfl rfl (fun Qx d hend => ?_)
  refine .fg [0, 1] rfl ?_
  refine .seq (fun K1 u => .region (.mv rfl (.nil (u _ _ (.seq (fun K2 p => .seq (fun K3 y => .region (.mv rfl (.q rfl (.len sl_23_B rfl) (.mv rfl (.q rfl (.len sl_23_B rfl) (.q rfl (.cmp rfl rfl rfl) (.nil (y _ _ ?_))))))))))))))
  refine .cond rfl (fun j => ?_) (fun j => ?_)
  ·
   try simp only [sps] at j
   refine .seq (fun K4 w => .region (.mv rfl (.nil (w _ _ ?_))))
   refine .ret ?_
   refine d _ _ ?_
   refine ⟨_, rfl, ?_⟩
   (exfalso; simp_all)
  try simp only [sps] at j
  refine .skip ?_
  refine p _ _ (.seq (fun K5 s => .seq (fun K6 x => .region (.mv rfl (.nil (x _ _ ?_))))))
  refine .block ?_
  refine .loopR (σ := Nat) [(0, some _), (1, some _)] (fun k => [(5, some (.int .i64 (k : Int)))]) (fun k H' => H = H' ∧ k ≤ xss.length) (fun k => xss.length - k) (0) ⟨rfl, rfl, trivial⟩ ⟨rfl, trivial⟩ ?_ ?_
  ·
   refine ⟨rfl, ?_⟩
   omega
  rintro k _ ⟨rfl, hI⟩ KL1 n
  refine .forget (fr' := [(5, some (.int .i64 (k : Int))), (0, some _), (1, some _)]) ⟨rfl, rfl, rfl, trivial⟩ ?_
  refine .seq (fun K7 v => .seq (fun K8 o => .region (.mv rfl (.mv rfl (.q rfl (.len sl_23_B rfl) (.q rfl (.cmp rfl rfl rfl) (.nil (o _ _ ?_))))))))
  refine .cond rfl (fun g => ?_) (fun g => ?_)
  ·
   try simp only [sps] at g
   refine .skip ?_
   refine v _ _ (.seq (fun K9 t => ?_))
   refine .block ?_
   refine .seq (fun K10 f => ?_)
   refine .regionD mo_B (.q 0 (.q 1 (.q 2 (.q 3 (.q 4 (.q 5 (.q 6 (.q 7 (.c 8 0 (.q 9 (.done))))))))))) (by kernel_rfl) ?_
   have hyk := hy k
   have ir := h.2 k (by omega)
   have ir' := h'.2 k (by omega)
   refine .mv rfl rfl (.mv rfl rfl ?_)
   refine .q rfl (.idxN sl_23_B (Intss.sl (by assumption)) rfl rfl (by omega)) ?_
   refine .q rfl (.loadR on_22_B (by assumption) rfl (by omega)) ?_
   refine .mv rfl rfl (.mv rfl rfl ?_)
   refine .q rfl (.idxN sl_23_B (Intss.sl (by assumption)) rfl rfl (by omega)) ?_
   refine .q rfl (.loadR on_22_B (by assumption) rfl (by omega)) ?_
   refine .callQ0 rfl rfl rfl rfl rfl @Tryd.call34 rfl (eqInt64S_c) ?_
   refine .q rfl (.not rfl) ?_
   refine .done ?_
   refine f _ _ ?_
   refine .cond rfl (fun l => ?_) (fun l => ?_)
   ·
    try simp only [sps] at l
    refine .seq (fun K11 e => .region (.mv rfl (.nil (e _ _ ?_))))
    refine .ret ?_
    refine d _ _ ?_
    refine ⟨_, rfl, ?_⟩
    (exfalso; simp_all)
   try simp only [sps] at l
   refine .skip ?_
   refine t _ _ (.region (.mv rfl ?_))
   refine .q rfl (.add rfl rfl rfl (by omega) (by omega)) ?_
   refine .mv rfl (.nil ?_)
   refine n (k + 1) _ _ ?_ ?_ ⟨rfl, rfl, rfl, trivial⟩
   ·
    refine ⟨rfl, ?_⟩
    omega
   omega
  try simp only [sps] at g
  refine .exit ?_
  refine s _ _ (.seq (fun K12 m => .region (.mv rfl (.nil (m _ _ ?_)))))
  refine .ret ?_
  refine d _ _ ?_
  refine ⟨_, rfl, ?_⟩
  exact .of rfl
theorem eqCategory_c {c : Cat} {p p' : CatP} {H : GHeap} (hin : c.In H p := by assumption) (hin' : c.In H p' := by assumption) (hs : c.Small := by assumption) : GCalls Tryd.prog 10 [.agg (c.cells p).toArray, .agg (c.cells p').toArray] H (Ret (.bool true) H) := by
  refine GCalls.ret rfl ?_
  obtain ⟨w1, w2, w3, w4, w5, -⟩ := hs
  refine GCalls.body (N := 34) (rs := [.tmp 4]) Tryd.func10 rfl rfl rfl rfl (fun Qx a hend => ?_)
  refine .fg [0, 1] rfl ?_
  refine .seq (fun K1 u => .region (.d rfl rfl rfl (.box rfl sz_29_D rfl CIs.mk) ?_))
  show GRun _ _ _ _ _ _ (H.push (.row (c.cells p) 29 true))
  have e := GHeap.le_push H (.row (c.cells p) 29 true)
  have hb : Cat.At (H.push (.row (c.cells p) 29 true)) H.next 0 c p := ⟨Mem.new _ _ _ _, hin.mono e⟩
  generalize H.push (.row (c.cells p) 29 true) = H1 at *
  refine .d rfl rfl rfl (.box rfl sz_29_D rfl CIs.mk) ?_
  show GRun _ _ _ _ _ _ (H1.push (.row (c.cells p') 29 true))
  have b := GHeap.le_push H1 (.row (c.cells p') 29 true)
  have hb' : Cat.At (H1.push (.row (c.cells p') 29 true)) H1.next 0 c p' := ⟨Mem.new _ _ _ _, (hin'.mono e).mono b⟩
  replace hb := hb.mono b
  replace e := e.trans b
  generalize H1.push (.row (c.cells p') 29 true) = H2 at *
  obtain ⟨c0, c1, c2, c3, c4, i1, i2, i3, i4⟩ := hb.get
  obtain ⟨c0y, c1y, c2y, c3y, c4y, i1y, i2y, i3y, i4y⟩ := hb'.get
  refine .mv rfl (.nil (u _ _ (.seq (fun K2 y => .seq (fun K3 w => .region (.q rfl (.fieldAddr fo_29_0_B rfl) ?_))))))
  refine .q rfl (.load on_2_A rfl (by assumption)) ?_
  refine .q rfl (.fieldAddr fo_29_0_B rfl) ?_
  refine .q rfl (.load on_2_A rfl (by assumption)) ?_
  refine .q rfl (.cmp rfl rfl rfl) (.nil (w _ _ ?_))
  refine .cond rfl (fun h9 => ?_) (fun h9 => ?_)
  ·
   try simp only [sps] at h9
   refine .seq (fun K4 v => .region (.mv rfl (.nil (v _ _ ?_))))
   refine .ret ?_
   refine a _ _ ?_
   refine ⟨_, rfl, ?_⟩
   (exfalso; simp_all)
  try simp only [sps] at h9
  refine .skip ?_
  refine y _ _ (.seq (fun K5 a0 => .seq (fun K6 a1 => .region (.q rfl (.fieldAddr fo_29_1_B rfl) ?_))))
  refine .q rfl (.load on_22_B rfl (by assumption)) ?_
  refine .q rfl (.fieldAddr fo_29_1_B rfl) ?_
  refine .q rfl (.load on_22_B rfl (by assumption)) ?_
  refine .callQ rfl rfl rfl rfl @Tryd.call34 rfl (eqInt64S_c) ?_
  refine .q rfl (.not rfl) (.nil (a1 _ _ ?_))
  refine .cond rfl (fun j => ?_) (fun j => ?_)
  ·
   try simp only [sps] at j
   refine .seq (fun K7 z => .region (.mv rfl (.nil (z _ _ ?_))))
   refine .ret ?_
   refine a _ _ ?_
   refine ⟨_, rfl, ?_⟩
   (exfalso; simp_all)
  try simp only [sps] at j
  refine .skip ?_
  refine a0 _ _ (.seq (fun K8 x => .seq (fun K9 t => .region (.q rfl (.fieldAddr fo_29_2_B rfl) ?_))))
  refine .q rfl (.load on_22_B rfl (by assumption)) ?_
  refine .q rfl (.fieldAddr fo_29_2_B rfl) ?_
  refine .q rfl (.load on_22_B rfl (by assumption)) ?_
  refine .callQ rfl rfl rfl rfl @Tryd.call34 rfl (eqInt64S_c) ?_
  refine .q rfl (.not rfl) (.nil (t _ _ ?_))
  refine .cond rfl (fun i => ?_) (fun i => ?_)
  ·
   try simp only [sps] at i
   refine .seq (fun K10 l => .region (.mv rfl (.nil (l _ _ ?_))))
   refine .ret ?_
   refine a _ _ ?_
   refine ⟨_, rfl, ?_⟩
   (exfalso; simp_all)
  try simp only [sps] at i
  refine .skip ?_
  refine x _ _ (.seq (fun K11 k => .seq (fun K12 s => .region (.q rfl (.fieldAddr fo_29_3_B rfl) ?_))))
  refine .q rfl (.load on_22_B rfl (by assumption)) ?_
  refine .q rfl (.fieldAddr fo_29_3_B rfl) ?_
  refine .q rfl (.load on_22_B rfl (by assumption)) ?_
  refine .callQ rfl rfl rfl rfl @Tryd.call34 rfl (eqInt64S_c) ?_
  refine .q rfl (.not rfl) (.nil (s _ _ ?_))
  refine .cond rfl (fun h => ?_) (fun h => ?_)
  ·
   try simp only [sps] at h
   refine .seq (fun K13 o => .region (.mv rfl (.nil (o _ _ ?_))))
   refine .ret ?_
   refine a _ _ ?_
   refine ⟨_, rfl, ?_⟩
   (exfalso; simp_all)
  try simp only [sps] at h
  refine .skip ?_
  refine k _ _ (.seq (fun K14 r => .seq (fun K15 f => .region (.q rfl (.fieldAddr fo_29_4_B rfl) ?_))))
  refine .q rfl (.load on_23_B rfl (by assumption)) ?_
  refine .q rfl (.fieldAddr fo_29_4_B rfl) ?_
  refine .q rfl (.load on_23_B rfl (by assumption)) ?_
  refine .callQ rfl rfl rfl rfl @Tryd.call35 rfl (eqInt64SS_c) ?_
  refine .q rfl (.not rfl) (.nil (f _ _ ?_))
  refine .cond rfl (fun g => ?_) (fun g => ?_)
  ·
   try simp only [sps] at g
   refine .seq (fun K16 m => .region (.mv rfl (.nil (m _ _ ?_))))
   refine .ret ?_
   refine a _ _ ?_
   refine ⟨_, rfl, ?_⟩
   (exfalso; simp_all)
  try simp only [sps] at g
  refine .skip ?_
  refine r _ _ (.seq (fun K17 n => .region (.mv rfl (.nil (n _ _ ?_)))))
  refine .ret ?_
  refine a _ _ ?_
  refine ⟨_, rfl, ?_⟩
  exact ⟨rfl, e⟩
theorem eqFunctor_c {c : Fun} {p p' : FunP} {H : GHeap} (hin : c.In H p := by assumption) (hin' : c.In H p' := by assumption) (hs : c.Small := by assumption) : GCalls Tryd.prog 15 [.agg (c.cells p).toArray, .agg (c.cells p').toArray] H (Ret (.bool true) H) := by
  refine GCalls.ret rfl ?_
  obtain ⟨w1, w2, w3, w4⟩ := hs
  refine GCalls.body (N := 29) (rs := [.tmp 4]) Tryd.func15 rfl rfl rfl rfl (fun Qx a hend => ?_)
  refine .fg [0, 1] rfl ?_
  refine .seq (fun K1 l => .region (.d rfl rfl rfl (.box rfl sz_38_E rfl CIs.mk) ?_))
  show GRun _ _ _ _ _ _ (H.push (.row (c.cells p) 38 true))
  have e := GHeap.le_push H (.row (c.cells p) 38 true)
  have hb : Fun.At (H.push (.row (c.cells p) 38 true)) H.next 0 c p := ⟨Mem.new _ _ _ _, hin.mono e⟩
  generalize H.push (.row (c.cells p) 38 true) = H1 at *
  refine .d rfl rfl rfl (.box rfl sz_38_E rfl CIs.mk) ?_
  show GRun _ _ _ _ _ _ (H1.push (.row (c.cells p') 38 true))
  have b := GHeap.le_push H1 (.row (c.cells p') 38 true)
  have hb' : Fun.At (H1.push (.row (c.cells p') 38 true)) H1.next 0 c p' := ⟨Mem.new _ _ _ _, (hin'.mono e).mono b⟩
  replace hb := hb.mono b
  replace e := e.trans b
  generalize H1.push (.row (c.cells p') 38 true) = H2 at *
  obtain ⟨fs, ft, c10, c11, j1, j2⟩ := hb.get
  have hmfs : MemN _ _ _ _ _ := ⟨rfl, fs.1⟩
  have infs := fs.2
  have hmft : MemN _ _ _ _ _ := ⟨rfl, ft.1⟩
  have inft := ft.2
  obtain ⟨fsy, fty, c10y, c11y, j1y, j2y⟩ := hb'.get
  have hmfsy : MemN _ _ _ _ _ := ⟨rfl, fsy.1⟩
  have infsy := fsy.2
  have hmfty : MemN _ _ _ _ _ := ⟨rfl, fty.1⟩
  have infty := fty.2
  refine .mv rfl (.nil (l _ _ (.seq (fun K2 s => .seq (fun K3 o => .region (.q rfl (.fieldAddr fo_38_0_E rfl) ?_))))))
  refine .q rfl (.loadM ag_29_D rfl (by assumption)) ?_
  refine .q rfl (.fieldAddr fo_38_0_E rfl) ?_
  refine .q rfl (.loadM ag_29_D rfl (by assumption)) ?_
  refine .callQ rfl rfl rfl rfl @Tryd.call10 rfl (eqCategory_c) ?_
  refine .q rfl (.not rfl) (.nil (o _ _ ?_))
  refine .cond rfl (fun w => ?_) (fun w => ?_)
  ·
   refine .seq (fun K4 m => .region (.mv rfl (.nil (m _ _ ?_))))
   refine .ret ?_
   refine a _ _ ?_
   refine ⟨_, rfl, ?_⟩
   (exfalso; simp_all)
  refine .skip ?_
  refine s _ _ (.seq (fun K5 v => .seq (fun K6 x => .region (.q rfl (.fieldAddr fo_38_1_E rfl) ?_))))
  refine .q rfl (.loadM ag_29_D rfl (by assumption)) ?_
  refine .q rfl (.fieldAddr fo_38_1_E rfl) ?_
  refine .q rfl (.loadM ag_29_D rfl (by assumption)) ?_
  refine .callQ rfl rfl rfl rfl @Tryd.call10 rfl (eqCategory_c) ?_
  refine .q rfl (.not rfl) (.nil (x _ _ ?_))
  refine .cond rfl (fun t => ?_) (fun t => ?_)
  ·
   refine .seq (fun K7 u => .region (.mv rfl (.nil (u _ _ ?_))))
   refine .ret ?_
   refine a _ _ ?_
   refine ⟨_, rfl, ?_⟩
   (exfalso; simp_all)
  refine .skip ?_
  refine v _ _ (.seq (fun K8 r => .seq (fun K9 k => .region (.q rfl (.fieldAddr fo_38_2_E rfl) ?_))))
  refine .q rfl (.load on_22_B rfl (by assumption)) ?_
  refine .q rfl (.fieldAddr fo_38_2_E rfl) ?_
  refine .q rfl (.load on_22_B rfl (by assumption)) ?_
  refine .callQ rfl rfl rfl rfl @Tryd.call34 rfl (eqInt64S_c) ?_
  refine .q rfl (.not rfl) (.nil (k _ _ ?_))
  refine .cond rfl (fun n => ?_) (fun n => ?_)
  ·
   refine .seq (fun K10 g => .region (.mv rfl (.nil (g _ _ ?_))))
   refine .ret ?_
   refine a _ _ ?_
   refine ⟨_, rfl, ?_⟩
   (exfalso; simp_all)
  refine .skip ?_
  refine r _ _ (.seq (fun K11 f => .seq (fun K12 j => .region (.q rfl (.fieldAddr fo_38_3_E rfl) ?_))))
  refine .q rfl (.load on_22_B rfl (by assumption)) ?_
  refine .q rfl (.fieldAddr fo_38_3_E rfl) ?_
  refine .q rfl (.load on_22_B rfl (by assumption)) ?_
  refine .callQ rfl rfl rfl rfl @Tryd.call34 rfl (eqInt64S_c) ?_
  refine .q rfl (.not rfl) (.nil (j _ _ ?_))
  refine .cond rfl (fun y => ?_) (fun y => ?_)
  ·
   refine .seq (fun K13 h => .region (.mv rfl (.nil (h _ _ ?_))))
   refine .ret ?_
   refine a _ _ ?_
   refine ⟨_, rfl, ?_⟩
   (exfalso; simp_all)
  refine .skip ?_
  refine f _ _ (.seq (fun K14 i => .region (.mv rfl (.nil (i _ _ ?_)))))
  refine .ret ?_
  refine a _ _ ?_
  refine ⟨_, rfl, ?_⟩
  exact ⟨rfl, e⟩
end Go.Proofs.YtlfnclhkhmkklaaDoor
namespace Go.Proofs.YtlfnclhkhmkklaaDoor
open Go Go.GL Go.RowKit Go.Proofs
theorem sl_107_F : sliceT Tryd.prog 107 = some (56, 1) := by kernel_rfl
theorem on_56_F : oneT Tryd.prog 56 = true := by kernel_rfl
theorem areCategories_c {a : Option Addr} {n : Nat} {G O : Nat → Nat} {C : Nat → Cat} {P : Nat → CatP} {H : GHeap} (h : SlA H a n (fun i => .pointer (some ⟨G i, O i, none⟩)) := by assumption) (hn : n ≤ 1048576 := by omega) (hc : ∀ i, i < n → Cat.At H (G i) (O i) (C i) (P i) := by assumption) (hs : ∀ i, i < n → (C i).Small := by assumption) :
    GCalls Tryd.prog 55 [.slice a n n] H (Ret (.bool (B (∀ i, i < n → (C i).Is))) H) := by
  refine GCalls.body (N := 15) (rs := [.tmp 2]) Tryd.func55 rfl rfl rfl rfl (fun Qx c hend => ?_)
  refine .fg [0] rfl ?_
  refine .seq (fun K1 p => .region (.mv rfl (.nil (p _ _ (.seq (fun K2 l => .seq (fun K3 t => .region (.mv rfl (.q rfl (.len sl_107_F rfl) (.mv rfl (.nil (t _ _ ?_))))))))))))
  refine .block ?_
  refine .loopR (σ := Nat) [(5, some _), (6, some _)] (fun k => [(7, some (.int .i64 (k : Int)))]) (fun k H' => H = H' ∧ k ≤ n ∧ ∀ i, i < k → (C i).Is) (fun k => n - k) (0) ⟨rfl, rfl, trivial⟩ ⟨rfl, trivial⟩ ?_ ?_
  ·
   refine ⟨rfl, ?_⟩
   exact ⟨by omega, fun i hi => by omega⟩
  rintro k _ ⟨rfl, hI⟩ KL1 g
  refine .forget (fr' := [(7, some (.int .i64 (k : Int))), (5, some _), (6, some _)]) ⟨rfl, rfl, rfl, trivial⟩ ?_
  obtain ⟨hk, b⟩ := hI
  refine .seq (fun K4 r => .region (.q rfl (.cmp rfl rfl rfl) (.nil (r _ _ (.seq (fun K5 m => ?_))))))
  refine .cond rfl (fun h8 => ?_) (fun h8 => ?_)
  ·
   try simp only [sps] at h8
   refine .skip ?_
   refine m _ _ (.seq (fun K6 s => ?_))
   refine .block ?_
   refine .seq (fun K7 u => .region ?_)
   have q1 := hc k (by omega)
   have q2 := hs k (by omega)
   refine .q rfl (.idxN sl_107_F h rfl rfl (by omega)) ?_
   refine .q rfl (.loadE on_56_F h rfl (by omega)) ?_
   refine .mv rfl (.nil (u _ _ (.seq (fun K8 j => .region (.mv rfl ?_)))))
   refine .callQ rfl rfl rfl rfl @Tryd.call48 rfl (isCategory_c) ?_
   refine .q rfl (.not rfl) (.nil (j _ _ ?_))
   refine .cond rfl (fun f => ?_) (fun f => ?_)
   ·
    try simp only [sps] at f
    refine .seq (fun K9 o => .region (.mv rfl (.nil (o _ _ ?_))))
    refine .ret ?_
    refine c _ _ ?_
    refine ⟨_, rfl, ?_⟩
    exact .of (congrArg _ (B_false fun e => by have := e k (by omega); simp_all))
   try simp only [sps] at f
   refine .skip ?_
   refine s _ _ (.region ?_)
   refine .q rfl (.add rfl rfl rfl (by omega) (by omega)) ?_
   refine .mv rfl (.nil ?_)
   refine g (k + 1) _ _ ?_ ?_ ⟨rfl, rfl, rfl, trivial⟩
   ·
    refine ⟨rfl, ?_⟩
    refine ⟨by omega, fun i hi => ?_⟩
    by_cases e : i < k
    · exact b i e
    · obtain rfl : i = k := by omega
      assumption
   omega
  try simp only [sps] at h8
  refine .exit ?_
  refine l _ _ (.seq (fun K10 d => .region (.mv rfl (.nil (d _ _ ?_)))))
  refine .ret ?_
  refine c _ _ ?_
  refine ⟨_, rfl, ?_⟩
  exact .of (congrArg _ (B_true fun i hi => b i (by omega)))
end Go.Proofs.YtlfnclhkhmkklaaDoor
namespace Go.GL

abbrev Fun.O (f : Fun) (x : Int) : Int := f.ob.getD x.toNat 0
abbrev Fun.A (f : Fun) (a : Int) : Int := f.ar.getD a.toNat 0
structure Fun.Fits (f : Fun) : Prop where
  ol : (f.ob.length : Int) = f.s.obj
  al : f.ar.length = f.s.src.length
  ob : ∀ i, i < f.ob.length → 0 ≤ f.ob.getD i 0 ∧ f.ob.getD i 0 < f.t.obj
  ar : ∀ i, i < f.ar.length → 0 ≤ f.ar.getD i 0 ∧ f.ar.getD i 0 < f.t.src.length
  ends : ∀ a, a < f.ar.length → f.t.src.getD (f.ar.getD a 0).toNat 0 = f.ob.getD (f.s.src.getD a 0).toNat 0 ∧ f.t.tgt.getD (f.ar.getD a 0).toNat 0 = f.ob.getD (f.s.tgt.getD a 0).toNat 0
  ids : ∀ x, x < f.s.idn.length → f.ar.getD (f.s.idn.getD x 0).toNat 0 = f.t.idn.getD (f.ob.getD x 0).toNat 0
  th : ∀ a, a < f.s.src.length → ∀ b, b < f.s.src.length → f.s.tgt.getD a 0 = f.s.src.getD b 0 → f.A (f.s.th a b) = f.t.th (f.ar.getD a 0) (f.ar.getD b 0)
def Fun.Is (f : Fun) : Prop := f.s.Is ∧ f.t.Is ∧ f.Fits

def Tra.Sq (m : Tra) (a : Nat) : Prop := m.s.t.th (m.s.ar.getD a 0) (m.co.getD (m.s.s.tgt.getD a 0).toNat 0) = m.s.t.th (m.co.getD (m.s.s.src.getD a 0).toNat 0) (m.t.ar.getD a 0)
structure Tra.Shape (m : Tra) : Prop where
  s : m.s.Is
  t : m.t.Is
  ps : m.s.s = m.t.s
  pt : m.s.t = m.t.t
  cl : (m.co.length : Int) = m.s.s.obj
  co : ∀ i, i < m.co.length → 0 ≤ m.co.getD i 0 ∧ m.co.getD i 0 < m.s.t.src.length
  ends : ∀ x, x < m.co.length → m.s.t.src.getD (m.co.getD x 0).toNat 0 = m.s.ob.getD x 0 ∧ m.s.t.tgt.getD (m.co.getD x 0).toNat 0 = m.t.ob.getD x 0
def Tra.Is (m : Tra) : Prop := m.Shape ∧ ∀ a, a < m.s.ar.length → m.Sq a
noncomputable def Tra.first (m : Tra) : Int := match firstN m.s.ar.length (fun a => !B (m.Sq a)) with | some a => (a : Int) | none => -1
theorem Sub.over {k : Nat} {v : Option Value} : ∀ {rest fr : Slots}, Sub rest fr → rest.all (fun p => p.1 != k) = true → Sub rest ((k, v) :: fr)
  | [], _, _, _ => trivial
  | (t, some u) :: r, fr, h, hk => by
    simp only [List.all_cons, Bool.and_eq_true, bne_iff_ne, ne_eq] at hk
    exact ⟨by rw [get_cons, if_neg (Ne.symm hk.1)]; exact h.1, h.2.over hk.2⟩
  | (t, none) :: r, fr, h, hk => by
    simp only [List.all_cons, Bool.and_eq_true] at hk
    exact Sub.over (rest := r) h hk.2

section
variable {P : Program} {N : Nat} {ops : Array Oper} {Q : Slots → GHeap → Prop} {fr : Slots} {H Hb : GHeap}
theorem GTree.two {a b s u : Nat} {oa ob os ou : Oper} {da db tx ty : Tmp} {e : TypeId} {z : List Value} {n : Nat} {vs ws : Array Value} (rest : Slots)
    (ha : ops[a]? = some oa) (hb : ops[b]? = some ob) (hs : ops[s]? = some os) (hu : ops[u]? = some ou) (hda : oa.dst = some da) (hdb : ob.dst = some db) (hNa : Nat.blt da N = true) (hNb : Nat.blt db N = true)
    (ga : oa.guard = none) (gb : ob.guard = none) (gs : os.guard = none) (gu : ou.guard = none) (hds : os.dst = none) (hdu : ou.dst = none)
    (oa' : oa.op = .alloc e) (ob' : ob.op = .alloc e) (os' : os.op = .store e (.tmp da) (.tmp tx)) (ou' : ou.op = .store e (.tmp db) (.tmp ty))
    (hz : zeroT P e = some (z, n)) (hfl : z.all flat1 = true) (hsz : (P.info? e).map (·.size) = some n) (hzl : z.length = n)
    (hx : fr.get tx = some (.agg vs)) (hy : fr.get ty = some (.agg ws)) (hvn : vs.size = n) (hwn : ws.size = n) (hv1 : vs.toList.all (·.oneCell') = true) (hw1 : ws.toList.all (·.oneCell') = true)
    (hne : (da != db) = true) (hxa : (tx != da) = true) (hxb : (tx != db) = true) (hya : (ty != da) = true) (hyb : (ty != db) = true)
    (hr : Sub rest fr) (hra : rest.all (fun p => p.1 != da) = true) (hrb : rest.all (fun p => p.1 != db) = true)
    (hle0 : Hb.Le H) (h : ∀ g g' H' fr', H.Le H' → H.next ≤ g → H.next ≤ g' → H'.get g = some (.row vs.toList e true) → H'.get g' = some (.row ws.toList e true) →
      Sub ((da, some (.pointer (some ⟨g, 0, none⟩))) :: (db, some (.pointer (some ⟨g', 0, none⟩))) :: rest) fr' → Q fr' H') :
    GTree P N ops Q (.or (.c a 1 (.c b 1 (.c s 1 (.c u 0 .done)))) (.c b 1 (.c a 1 (.c s 1 (.c u 0 .done))))) fr Hb H := by
  simp only [bne_iff_ne, ne_eq] at hne hxa hxb hya hyb
  have n1 := GHeap.next_push H (.row z e true)
  have l1 := GHeap.le_push H (.row z e true)
  have p1 := GHeap.get_push_new H (.row z e true)
  have n2 := GHeap.next_push (H.push (.row z e true)) (.row z e true)
  have l2 := GHeap.le_push (H.push (.row z e true)) (.row z e true)
  have p2 := GHeap.get_push_new (H.push (.row z e true)) (.row z e true)
  have p1' := l2.2 _ _ p1
  have sv : setAll z 0 vs.toList = vs.toList := setAll_all _ _ (by simp [hzl, hvn])
  have sw : setAll z 0 ws.toList = ws.toList := setAll_all _ _ (by simp [hzl, hwn])
  have le := l1.trans l2
  generalize hK : H.push (.row z e true) = H1 at *
  generalize hK2 : H1.push (.row z e true) = H2 at *
  have q1 := GHeap.ltg p1'
  have q2 := GHeap.ltg p2
  unfold GTree
  refine ⟨?_, ?_⟩
  · refine .d1 ha hda hNa ga (.alloc oa' hz hfl CIs.mk) (by rw [hK]; exact hle0.trans l1) ?_
    rw [hK]
    refine .d1 hb hdb hNb gb (.alloc ob' hz hfl CIs.mk) (by rw [hK2]; exact hle0.trans le) ?_
    rw [hK2]
    refine .s1 hs hds gs (.storeN (g := H.next) (off := 0) os' hsz (by show Slots.get _ da = _; rw [get_cons, if_neg (Ne.symm hne), get_cons, if_pos rfl]) (by show Slots.get _ tx = _; rw [get_cons, if_neg (Ne.symm hxb), get_cons, if_neg (Ne.symm hxa)]; exact hx) hvn hv1 p1' (by omega) CIs.mk) ((hle0.trans le).set_new hle0.1) ?_
    rw [sv]
    refine .s0 hu hdu gu (.storeN (g := H1.next) (off := 0) ou' hsz (by show Slots.get _ db = _; rw [get_cons, if_pos rfl]) (by show Slots.get _ ty = _; rw [get_cons, if_neg (Ne.symm hyb), get_cons, if_neg (Ne.symm hya)]; exact hy) hwn hw1 (by rw [GHeap.get_set_ne (by omega)]; exact p2) (by omega) CIs.mk) ?_
    rw [sw]
    refine GTree.done (h _ _ _ _ ((le.set_new (Nat.le_refl _)).set_new (by omega)) (Nat.le_refl _) (by omega) (by rw [GHeap.get_set_ne (by omega)]; exact GHeap.get_set_eq q1) (GHeap.get_set_eq (by simpa using q2)) ⟨?_, ?_, ?_⟩)
    · rw [get_cons, if_neg (Ne.symm hne), get_cons, if_pos rfl]
    · rw [get_cons, if_pos rfl]
    · exact (hr.over hra).over hrb
  · refine .d1 hb hdb hNb gb (.alloc ob' hz hfl CIs.mk) (by rw [hK]; exact hle0.trans l1) ?_
    rw [hK]
    refine .d1 ha hda hNa ga (.alloc oa' hz hfl CIs.mk) (by rw [hK2]; exact hle0.trans le) ?_
    rw [hK2]
    refine .s1 hs hds gs (.storeN (g := H1.next) (off := 0) os' hsz (by show Slots.get _ da = _; rw [get_cons, if_pos rfl]) (by show Slots.get _ tx = _; rw [get_cons, if_neg (Ne.symm hxa), get_cons, if_neg (Ne.symm hxb)]; exact hx) hvn hv1 p2 (by omega) CIs.mk) ((hle0.trans le).set_new (by have := hle0.1; omega)) ?_
    rw [sv]
    refine .s0 hu hdu gu (.storeN (g := H.next) (off := 0) ou' hsz (by show Slots.get _ db = _; rw [get_cons, if_neg hne, get_cons, if_pos rfl]) (by show Slots.get _ ty = _; rw [get_cons, if_neg (Ne.symm hya), get_cons, if_neg (Ne.symm hyb)]; exact hy) hwn hw1 (by rw [GHeap.get_set_ne (by omega)]; exact p1') (by omega) CIs.mk) ?_
    rw [sw]
    refine GTree.done (h H1.next H.next _ _ ((le.set_new (by omega)).set_new (Nat.le_refl _)) (by omega) (Nat.le_refl _) (by rw [GHeap.get_set_ne (by omega)]; exact GHeap.get_set_eq q2) (GHeap.get_set_eq (by simpa using q1)) ⟨?_, ?_, ?_⟩)
    · rw [get_cons, if_pos rfl]
    · rw [get_cons, if_neg hne, get_cons, if_pos rfl]
    · exact (hr.over hrb).over hra
end
end Go.GL
namespace Go.Proofs.YtlfnclhkhmkklaaDoor
open Go Go.GL Go.RowKit Go.Proofs
theorem ze_56_G : zeroT Tryd.prog 56 = some ([.pointer none], 1) := by kernel_rfl
theorem fits_c {g o : Nat} {f : Fun} {p : FunP} {H : GHeap} (h : Fun.At H g o f p := by assumption) (hsI : f.s.Is := by assumption) (htI : f.t.Is := by assumption) (hsm : f.Small := by assumption) :
    GCalls Tryd.prog 56 [.pointer (some ⟨g, o, none⟩)] H (Ret (.bool (B f.Fits)) H) := by
  refine GCalls.body (N := 195) (rs := [.tmp 2]) Tryd.func56 rfl rfl rfl rfl (fun Qx d hend => ?_)
  refine .fg [0] rfl ?_
  obtain ⟨fs, ft, c10, c11, j1, j2⟩ := h.get
  obtain ⟨c0, c1, c2, c3, c4, i1, i2, i3, i4⟩ := fs.get
  obtain ⟨d0, d1, d2, d3, -, e1, e2, e3, -⟩ := ft.get
  obtain ⟨hS, -⟩ := hsI
  obtain ⟨hT, -⟩ := htI
  obtain ⟨m1, m2, m3, m4⟩ := hsm
  obtain ⟨-, n2, n3, -, -, -⟩ := m1
  obtain ⟨k1, -, k3, -, -, -⟩ := m2
  have qs1 := hS.tl
  have qs2 := hS.n40
  have qs3 := hS.il
  have qs4 := hS.obj
  have qs5 := hS.cl
  have qt1 := hT.tl
  have qt2 := hT.n40
  have qt3 := hT.il
  have qt4 := hT.obj
  have qt5 := hT.cl
  refine .seq (fun K1 f6 => .region (.mv rfl (.nil (f6 _ _ (.seq (fun K2 f9 => ?_))))))
  refine .regionD mo_B (.q 0 (.q 1 (.q 2 (.q 3 (.q 4 (.q 5 (.q 6 (.q 7 (.done))))))))) (by kernel_rfl) ?_
  refine .mv rfl rfl (.q rfl (.nilCheck rfl) (.q rfl (.fieldAddr fo_38_0_E rfl) (.mv rfl rfl (.q rfl (.nilCheck rfl) (.q rfl (.fieldAddr fo_38_1_E rfl) (.mv rfl rfl (.mv rfl rfl ?_)))))))
  refine .done ?_
  refine f9 _ _ (.seq (fun K3 f7 => .seq (fun K4 a6 => ?_)))
  refine .regionD mo_B (.q 0 (.q 1 (.q 2 (.q 3 (.q 4 (.q 5 (.q 6 (.q 7 (.q 8 (.q 9 (.q 10 (.q 11 (.q 12 (.q 13 (.q 14 (.q 15 (.q 16 (.c 17 1 (.q 18 (.q 19 (.q 20 (.q 21 (.q 22 (.q 23 (.q 24 (.q 25 (.q 26 (.q 27 (.q 28 (.c 29 0 (.q 30 (.q 31 (.q 32 (.q 33 (.q 34 (.q 35 (.q 36 (.q 37 (.c 38 1 (.c 39 0 (.q 40 (.q 41 (.done))))))))))))))))))))))))))))))))))))))))))) (by kernel_rfl) ?_
  refine .mv rfl rfl (.q rfl (.nilCheck rfl) (.q rfl (.fieldAddr fo_38_2_E rfl) ?_))
  refine .q rfl (.load on_22_B rfl (by assumption)) ?_
  refine .q rfl (.len sl_22_A rfl) (.mv rfl rfl (.q rfl (.nilCheck rfl) (.q rfl (.fieldAddr fo_29_0_B rfl) ?_)))
  refine .q rfl (.load on_2_A rfl (by assumption)) ?_
  refine .q rfl (.cmp rfl rfl rfl) (.mv rfl rfl ?_)
  refine .split (fun a2 => ?_) (fun a2 => ?_)
  ·
   try simp only [sps] at a2
   refine .z rfl (.z rfl (.z rfl (.z rfl (.z rfl (.z rfl (.sgc rfl rfl rfl rfl rfl rfl (.z rfl (.q rfl (.pickT rfl rfl) (.mv rfl rfl (.z rfl (.z rfl (.z rfl (.z rfl (.z rfl (.z rfl ?_)))))))))))))))
   refine .z rfl (.z rfl (.sgc rfl rfl rfl rfl rfl rfl (.z rfl (.q rfl (.pickT rfl rfl) (.mv rfl rfl (.z rfl (.z rfl (.z rfl (.z rfl (.z rfl (.sgc rfl rfl rfl rfl rfl rfl (.sgc rfl rfl rfl rfl rfl rfl (.z rfl (.q rfl (.pickT rfl rfl) ?_))))))))))))))
   refine .done ?_
   refine a6 _ _ ?_
   refine .condT rfl ?_
   refine .seq (fun K5 g1 => .region (.mv rfl (.nil (g1 _ _ ?_))))
   refine .ret ?_
   refine d _ _ ?_
   refine ⟨_, rfl, ?_⟩
   exact .of (congrArg _ (B_false fun hF => a2 hF.ol))
  try simp only [sps] at a2
  refine .qg rfl (.move rfl) (.qg rfl (.nilCheck rfl) (.qg rfl (.fieldAddr fo_38_3_E rfl) ?_))
  refine .qg rfl (.load on_22_B rfl (by assumption)) ?_
  refine .qg rfl (.len sl_22_A rfl) (.qg rfl (.move rfl) ?_)
  refine .callQ1g rfl rfl rfl rfl rfl rfl rfl @Tryd.call50 rfl (arrows_c) (.refl _) ?_
  refine .qg rfl (.cmp rfl rfl rfl) (.q rfl (.pickF rfl rfl) (.mv rfl rfl ?_))
  refine .split (fun b3 => ?_) (fun b3 => ?_)
  ·
   try simp only [sps] at b3
   refine .z rfl (.z rfl (.z rfl (.z rfl (.z rfl (.z rfl (.z rfl (.z rfl (.sgc rfl rfl rfl rfl rfl rfl (.z rfl (.q rfl (.pickT rfl rfl) (.mv rfl rfl (.z rfl (.z rfl (.z rfl (.z rfl ?_)))))))))))))))
   refine .z rfl (.sgc rfl rfl rfl rfl rfl rfl (.sgc rfl rfl rfl rfl rfl rfl (.z rfl (.q rfl (.pickT rfl rfl) ?_))))
   refine .done ?_
   refine a6 _ _ ?_
   refine .condT rfl ?_
   refine .seq (fun K6 g2 => .region (.mv rfl (.nil (g2 _ _ ?_))))
   refine .ret ?_
   refine d _ _ ?_
   refine ⟨_, rfl, ?_⟩
   exact .of (congrArg _ (B_false fun hF => by have := hF.al; omega))
  try simp only [sps] at b3
  refine .qg rfl (.move rfl) (.qg rfl (.nilCheck rfl) (.qg rfl (.fieldAddr fo_38_2_E rfl) ?_))
  refine .qg rfl (.load on_22_B rfl (by assumption)) ?_
  refine .qg rfl (.move rfl) (.qg rfl (.nilCheck rfl) (.qg rfl (.fieldAddr fo_29_0_B rfl) ?_))
  refine .qg rfl (.load on_2_A rfl (by assumption)) ?_
  refine .callQ0g rfl rfl rfl rfl rfl rfl rfl @Tryd.call49 rfl (within_c) ?_
  refine .qg rfl (.not rfl) (.q rfl (.pickF rfl rfl) (.mv rfl rfl ?_))
  refine .split (fun w => ?_) (fun w => ?_)
  ·
   try simp only [sps] at w
   refine .z rfl (.z rfl (.z rfl (.z rfl (.z rfl (.sgc rfl rfl rfl rfl rfl rfl (.sgc rfl rfl rfl rfl rfl rfl (.z rfl (.q rfl (.pickT rfl rfl) ?_))))))))
   refine .done ?_
   refine a6 _ _ ?_
   refine .condT rfl ?_
   refine .seq (fun K7 g0 => .region (.mv rfl (.nil (g0 _ _ ?_))))
   refine .ret ?_
   refine d _ _ ?_
   refine ⟨_, rfl, ?_⟩
   exact .of (congrArg _ (B_false fun hF => by rw [allIn_iff.2 hF.ob] at w; cases w))
  try simp only [sps] at w
  refine .qg rfl (.move rfl) (.qg rfl (.nilCheck rfl) (.qg rfl (.fieldAddr fo_38_3_E rfl) ?_))
  refine .qg rfl (.load on_22_B rfl (by assumption)) ?_
  refine .qg rfl (.move rfl) ?_
  refine .callQ1g rfl rfl rfl rfl rfl rfl rfl @Tryd.call50 rfl (arrows_c) (.refl _) ?_
  refine .callQ0g rfl rfl rfl rfl rfl rfl rfl @Tryd.call49 rfl (within_c) ?_
  refine .qg rfl (.not rfl) (.q rfl (.pickF rfl rfl) ?_)
  refine .done ?_
  refine a6 _ _ ?_
  refine .cond rfl (fun n => ?_) (fun n => ?_)
  ·
   try simp only [sps] at n
   refine .seq (fun K8 f8 => .region (.mv rfl (.nil (f8 _ _ ?_))))
   refine .ret ?_
   refine d _ _ ?_
   refine ⟨_, rfl, ?_⟩
   exact .of (congrArg _ (B_false fun hF => by rw [allIn_iff.2 hF.ar] at n; cases n))
  try simp only [sps] at n
  refine .skip ?_
  refine f7 _ _ (.seq (fun K9 f5 => .seq (fun K10 b6 => .region (.mv rfl (.q rfl (.nilCheck rfl) (.q rfl (.fieldAddr fo_38_3_E rfl) ?_))))))
  refine .q rfl (.load on_22_B rfl (by assumption)) ?_
  refine .q rfl (.len sl_22_A rfl) (.mv rfl (.nil (b6 _ _ ?_)))
  refine .block ?_
  refine .loopR (σ := Nat) [(0, some _), (3, some _), (4, some _), (64, some _), (65, some _)] (fun k => [(66, some (.int .i64 (k : Int)))]) (fun k H' => H = H' ∧ k ≤ f.ar.length ∧ ∀ a, a < k → f.t.src.getD (f.ar.getD a 0).toNat 0 = f.ob.getD (f.s.src.getD a 0).toNat 0 ∧ f.t.tgt.getD (f.ar.getD a 0).toNat 0 = f.ob.getD (f.s.tgt.getD a 0).toNat 0) (fun k => f.ar.length - k) (0) ⟨rfl, rfl, rfl, rfl, rfl, trivial⟩ ⟨rfl, trivial⟩ ?_ ?_
  ·
   refine ⟨rfl, ?_⟩
   exact ⟨by omega, fun x hx => by omega⟩
  rintro k _ ⟨rfl, hI⟩ KL1 a8
  refine .forget (fr' := [(66, some (.int .i64 (k : Int))), (0, some _), (3, some _), (4, some _), (64, some _), (65, some _)]) ⟨rfl, rfl, rfl, rfl, rfl, rfl, trivial⟩ ?_
  obtain ⟨hk1, f2⟩ := hI
  refine .seq (fun K11 b5 => .region (.q rfl (.cmp rfl rfl rfl) (.nil (b5 _ _ (.seq (fun K12 f0 => ?_))))))
  refine .cond rfl (fun c9 => ?_) (fun c9 => ?_)
  ·
   try simp only [sps] at c9
   refine .skip ?_
   refine f0 _ _ (.seq (fun K13 d9 => ?_))
   refine .block ?_
   refine .seq (fun K14 e6 => .region (.mv rfl ?_))
   refine .q rfl (.idxN sl_22_A (by assumption) rfl rfl (by omega)) ?_
   refine .q rfl (.loadI on_2_A (by assumption) rfl (by omega)) ?_
   refine .mv rfl (.mv rfl (.nil (e6 _ _ (.seq (fun K15 a1 => ?_)))))
   refine .regionD mo_B (.q 0 (.q 1 (.q 2 (.q 3 (.q 4 (.q 5 (.q 6 (.q 7 (.q 8 (.q 9 (.q 10 (.q 11 (.q 12 (.q 13 (.q 14 (.q 15 (.q 16 (.q 17 (.q 18 (.q 19 (.q 20 (.q 21 (.q 22 (.q 23 (.q 24 (.q 25 (.q 26 (.q 27 (.q 28 (.q 29 (.q 30 (.q 31 (.q 32 (.q 33 (.q 34 (.q 35 (.q 36 (.q 37 (.q 38 (.q 39 (.q 40 (.q 41 (.q 42 (.q 43 (.done))))))))))))))))))))))))))))))))))))))))))))) (by kernel_rfl) ?_
   have q1 := n k (by omega)
   have q2 := hS.src k (by omega)
   have q3 := hS.tgt k (by omega)
   refine .mv rfl rfl (.q rfl (.nilCheck rfl) (.q rfl (.fieldAddr fo_29_1_B rfl) ?_))
   refine .q rfl (.load on_22_B rfl (by assumption)) ?_
   refine .mv rfl rfl ?_
   refine .q rfl (.idx1 sl_22_A (by assumption) rfl rfl (by omega) (by omega)) ?_
   refine .q rfl (.loadI on_2_A (by assumption) rfl (by omega)) ?_
   refine .mv rfl rfl (.q rfl (.nilCheck rfl) (.q rfl (.fieldAddr fo_38_2_E rfl) ?_))
   refine .q rfl (.load on_22_B rfl (by assumption)) ?_
   refine .mv rfl rfl (.q rfl (.nilCheck rfl) (.q rfl (.fieldAddr fo_29_1_B rfl) ?_))
   refine .q rfl (.load on_22_B rfl (by assumption)) ?_
   refine .mv rfl rfl ?_
   refine .q rfl (.idxN sl_22_A (by assumption) rfl rfl (by omega)) ?_
   refine .q rfl (.loadI on_2_A (by assumption) rfl (by omega)) ?_
   refine .q rfl (.idx1 sl_22_A (by assumption) rfl rfl (by omega) (by omega)) ?_
   refine .q rfl (.loadI on_2_A (by assumption) rfl (by omega)) ?_
   refine .q rfl (.cmp rfl rfl rfl) (.mv rfl rfl ?_)
   refine .split (fun a5 => ?_) (fun a5 => ?_)
   ·
    try simp only [sps] at a5
    refine .z rfl (.z rfl (.z rfl (.z rfl (.z rfl (.z rfl (.z rfl (.z rfl (.z rfl (.z rfl (.z rfl (.z rfl (.z rfl (.z rfl (.z rfl (.z rfl ?_)))))))))))))))
    refine .z rfl (.z rfl (.z rfl (.z rfl (.z rfl (.q rfl (.pickT rfl rfl) ?_)))))
    refine .done ?_
    refine a1 _ _ ?_
    refine .condT rfl ?_
    refine .seq (fun K16 c5 => .region (.mv rfl (.nil (c5 _ _ ?_))))
    refine .ret ?_
    refine d _ _ ?_
    refine ⟨_, rfl, ?_⟩
    exact .of (congrArg _ (B_false fun hF => a5 (hF.ends k (by omega)).1))
   try simp only [sps] at a5
   refine .qg rfl (.move rfl) (.qg rfl (.nilCheck rfl) (.qg rfl (.fieldAddr fo_29_2_B rfl) ?_))
   refine .qg rfl (.load on_22_B rfl (by assumption)) ?_
   refine .qg rfl (.move rfl) ?_
   refine .qg rfl (.idx1 sl_22_A (by assumption) rfl rfl (by omega) (by omega)) ?_
   refine .qg rfl (.loadI on_2_A (by assumption) rfl (by omega)) ?_
   refine .qg rfl (.move rfl) (.qg rfl (.nilCheck rfl) (.qg rfl (.fieldAddr fo_38_2_E rfl) ?_))
   refine .qg rfl (.load on_22_B rfl (by assumption)) ?_
   refine .qg rfl (.move rfl) (.qg rfl (.nilCheck rfl) (.qg rfl (.fieldAddr fo_29_2_B rfl) ?_))
   refine .qg rfl (.load on_22_B rfl (by assumption)) ?_
   refine .qg rfl (.move rfl) ?_
   refine .qg rfl (.idxN sl_22_A (by assumption) rfl rfl (by omega)) ?_
   refine .qg rfl (.loadI on_2_A (by assumption) rfl (by omega)) ?_
   refine .qg rfl (.idx1 sl_22_A (by assumption) rfl rfl (by omega) (by omega)) ?_
   refine .qg rfl (.loadI on_2_A (by assumption) rfl (by omega)) ?_
   refine .qg rfl (.cmp rfl rfl rfl) (.q rfl (.pickF rfl rfl) ?_)
   refine .done ?_
   refine a1 _ _ ?_
   refine .cond rfl (fun m => ?_) (fun m => ?_)
   ·
    try simp only [sps] at m
    refine .seq (fun K17 c8 => .region (.mv rfl (.nil (c8 _ _ ?_))))
    refine .ret ?_
    refine d _ _ ?_
    refine ⟨_, rfl, ?_⟩
    exact .of (congrArg _ (B_false fun hF => m (hF.ends k (by omega)).2))
   try simp only [sps] at m
   refine .skip ?_
   refine d9 _ _ (.region ?_)
   refine .q rfl (.add rfl rfl rfl (by omega) (by omega)) ?_
   refine .mv rfl (.nil ?_)
   refine a8 (k + 1) _ _ ?_ ?_ ⟨rfl, rfl, rfl, rfl, rfl, rfl, trivial⟩
   ·
    refine ⟨rfl, ?_⟩
    refine ⟨by omega, fun x hx => ?_⟩
    by_cases e : x < k
    · exact f2 x e
    · obtain rfl : x = k := by omega
      exact ⟨a5, m⟩
   omega
  try simp only [sps] at c9
  refine .exit ?_
  refine f5 _ _ (.seq (fun K18 d6 => .seq (fun K19 d4 => .region (.mv rfl (.q rfl (.nilCheck rfl) (.q rfl (.fieldAddr fo_29_3_B rfl) ?_))))))
  refine .q rfl (.load on_22_B rfl (by assumption)) ?_
  refine .q rfl (.len sl_22_A rfl) (.mv rfl (.nil (d4 _ _ ?_)))
  refine .block ?_
  refine .loopR (σ := Nat) [(0, some _), (3, some _), (4, some _), (119, some _), (120, some _)] (fun k => [(121, some (.int .i64 (k : Int)))]) (fun k H' => H = H' ∧ k ≤ f.s.idn.length ∧ ∀ x, x < k → f.ar.getD (f.s.idn.getD x 0).toNat 0 = f.t.idn.getD (f.ob.getD x 0).toNat 0) (fun k => f.s.idn.length - k) (0) ⟨rfl, rfl, rfl, rfl, rfl, trivial⟩ ⟨rfl, trivial⟩ ?_ ?_
  ·
   refine ⟨rfl, ?_⟩
   exact ⟨by omega, fun x hx => by omega⟩
  rintro k _ ⟨rfl, hI⟩ KL2 f1
  refine .forget (fr' := [(121, some (.int .i64 (k : Int))), (0, some _), (3, some _), (4, some _), (119, some _), (120, some _)]) ⟨rfl, rfl, rfl, rfl, rfl, rfl, trivial⟩ ?_
  obtain ⟨hk2, f4⟩ := hI
  refine .seq (fun K20 c7 => .region (.q rfl (.cmp rfl rfl rfl) (.nil (c7 _ _ (.seq (fun K21 b9 => ?_))))))
  refine .cond rfl (fun v => ?_) (fun v => ?_)
  ·
   try simp only [sps] at v
   refine .skip ?_
   refine b9 _ _ (.seq (fun K22 a9 => ?_))
   refine .block ?_
   refine .seq (fun K23 e4 => .region (.mv rfl ?_))
   refine .q rfl (.idxN sl_22_A (by assumption) rfl rfl (by omega)) ?_
   refine .q rfl (.loadI on_2_A (by assumption) rfl (by omega)) ?_
   refine .mv rfl (.mv rfl (.nil (e4 _ _ (.seq (fun K24 d5 => ?_)))))
   refine .regionD mo_B (.q 0 (.q 1 (.q 2 (.q 3 (.q 4 (.q 5 (.q 6 (.q 7 (.q 8 (.q 9 (.q 10 (.q 11 (.q 12 (.q 13 (.q 14 (.q 15 (.q 16 (.q 17 (.q 18 (.q 19 (.q 20 (.done)))))))))))))))))))))) (by kernel_rfl) ?_
   have q1 := hS.idn k (by omega)
   have q2 := w k (by omega)
   refine .mv rfl rfl (.q rfl (.nilCheck rfl) (.q rfl (.fieldAddr fo_38_3_E rfl) ?_))
   refine .q rfl (.load on_22_B rfl (by assumption)) ?_
   refine .mv rfl rfl ?_
   refine .q rfl (.idx1 sl_22_A (by assumption) rfl rfl (by omega) (by omega)) ?_
   refine .q rfl (.loadI on_2_A (by assumption) rfl (by omega)) ?_
   refine .mv rfl rfl (.q rfl (.nilCheck rfl) (.q rfl (.fieldAddr fo_29_3_B rfl) ?_))
   refine .q rfl (.load on_22_B rfl (by assumption)) ?_
   refine .mv rfl rfl (.q rfl (.nilCheck rfl) (.q rfl (.fieldAddr fo_38_2_E rfl) ?_))
   refine .q rfl (.load on_22_B rfl (by assumption)) ?_
   refine .mv rfl rfl ?_
   refine .q rfl (.idxN sl_22_A (by assumption) rfl rfl (by omega)) ?_
   refine .q rfl (.loadI on_2_A (by assumption) rfl (by omega)) ?_
   refine .q rfl (.idx1 sl_22_A (by assumption) rfl rfl (by omega) (by omega)) ?_
   refine .q rfl (.loadI on_2_A (by assumption) rfl (by omega)) ?_
   refine .q rfl (.cmp rfl rfl rfl) ?_
   refine .done ?_
   refine d5 _ _ ?_
   refine .cond rfl (fun l => ?_) (fun l => ?_)
   ·
    try simp only [sps] at l
    refine .seq (fun K25 e8 => .region (.mv rfl (.nil (e8 _ _ ?_))))
    refine .ret ?_
    refine d _ _ ?_
    refine ⟨_, rfl, ?_⟩
    exact .of (congrArg _ (B_false fun hF => l (hF.ids k (by omega))))
   try simp only [sps] at l
   refine .skip ?_
   refine a9 _ _ (.region ?_)
   refine .q rfl (.add rfl rfl rfl (by omega) (by omega)) ?_
   refine .mv rfl (.nil ?_)
   refine f1 (k + 1) _ _ ?_ ?_ ⟨rfl, rfl, rfl, rfl, rfl, rfl, trivial⟩
   ·
    refine ⟨rfl, ?_⟩
    refine ⟨by omega, fun x hx => ?_⟩
    by_cases e : x < k
    · exact f4 x e
    · obtain rfl : x = k := by omega
      exact l
   omega
  try simp only [sps] at v
  refine .exit ?_
  refine d6 _ _ (.seq (fun K26 e9 => .seq (fun K27 d7 => .region (.mv rfl (.q rfl (.nilCheck rfl) (.q rfl (.fieldAddr fo_29_4_B rfl) ?_))))))
  refine .q rfl (.load on_23_B rfl (by assumption)) ?_
  refine .q rfl (.len sl_23_B rfl) (.mv rfl (.nil (d7 _ _ ?_)))
  refine .block ?_
  refine .loopR (σ := Nat) [(0, some _), (4, some _), (151, some _), (152, some _)] (fun k => [(153, some (.int .i64 (k : Int)))]) (fun k H' => H = H' ∧ k ≤ f.s.comp.length ∧ ∀ a, a < k → ∀ b, b < f.s.src.length → f.s.tgt.getD a 0 = f.s.src.getD b 0 → f.A (f.s.th a b) = f.t.th (f.ar.getD a 0) (f.ar.getD b 0)) (fun k => f.s.comp.length - k) (0) ⟨rfl, rfl, rfl, rfl, trivial⟩ ⟨rfl, trivial⟩ ?_ ?_
  ·
   refine ⟨rfl, ?_⟩
   exact ⟨by omega, fun x hx => by omega⟩
  rintro k _ ⟨rfl, hI⟩ KL3 b8
  refine .forget (fr' := [(153, some (.int .i64 (k : Int))), (0, some _), (4, some _), (151, some _), (152, some _)]) ⟨rfl, rfl, rfl, rfl, rfl, trivial⟩ ?_
  obtain ⟨hk3, f3⟩ := hI
  refine .seq (fun K28 e5 => .region (.q rfl (.cmp rfl rfl rfl) (.nil (e5 _ _ (.seq (fun K29 e7 => ?_))))))
  refine .cond rfl (fun r => ?_) (fun r => ?_)
  ·
   try simp only [sps] at r
   refine .skip ?_
   refine e7 _ _ (.seq (fun K30 b2 => ?_))
   refine .block ?_
   refine .seq (fun K31 a7 => .region ?_)
   have r1 := i4.2 k (by omega)
   have r1l := hS.row k (by omega)
   refine .mv rfl ?_
   refine .q rfl (.idxN sl_23_B (Intss.sl (by assumption)) rfl rfl (by omega)) ?_
   refine .q rfl (.loadR on_22_B (by assumption) rfl (by omega)) ?_
   refine .mv rfl (.mv rfl (.nil (a7 _ _ (.seq (fun K32 c6 => .region (.mv rfl (.q rfl (.len sl_22_A rfl) (.mv rfl (.nil (c6 _ _ ?_))))))))))
   refine .block ?_
   refine .loopR (σ := Nat) [(0, some _), (4, some _), (9, some _), (151, some _), (152, some _), (153, some _), (158, some _), (159, some _)] (fun j => [(160, some (.int .i64 (j : Int)))]) (fun j H' => H = H' ∧ j ≤ f.s.src.length ∧ ∀ b, b < j → f.s.tgt.getD k 0 = f.s.src.getD b 0 → f.A (f.s.th k b) = f.t.th (f.ar.getD k 0) (f.ar.getD b 0)) (fun j => f.s.src.length - j) (0) ⟨rfl, rfl, rfl, rfl, rfl, rfl, rfl, rfl, trivial⟩ ⟨rfl, trivial⟩ ?_ ?_
   ·
    refine ⟨rfl, ?_⟩
    exact ⟨by omega, fun x hx => by omega⟩
   rintro j _ ⟨rfl, hI⟩ KL4 a3
   refine .forget (fr' := [(160, some (.int .i64 (j : Int))), (0, some _), (4, some _), (9, some _), (151, some _), (152, some _), (153, some _), (158, some _), (159, some _)]) ⟨rfl, rfl, rfl, rfl, rfl, rfl, rfl, rfl, rfl, trivial⟩ ?_
   obtain ⟨hk4, b7⟩ := hI
   refine .seq (fun K33 d8 => .region (.q rfl (.cmp rfl rfl rfl) (.nil (d8 _ _ (.seq (fun K34 b4 => ?_))))))
   refine .cond rfl (fun u => ?_) (fun u => ?_)
   ·
    try simp only [sps] at u
    refine .skip ?_
    refine b4 _ _ (.seq (fun K35 a0 => ?_))
    refine .block ?_
    refine .seq (fun K36 b0 => .region (.mv rfl ?_))
    refine .q rfl (.idxN sl_22_A (by assumption) rfl rfl (by omega)) ?_
    refine .q rfl (.loadI on_2_A (by assumption) rfl (by omega)) ?_
    refine .mv rfl (.mv rfl (.nil (b0 _ _ (.seq (fun K37 a4 => ?_)))))
    refine .regionD mo_B (.q 0 (.q 1 (.q 2 (.q 3 (.q 4 (.q 5 (.q 6 (.q 7 (.q 8 (.q 9 (.q 10 (.q 11 (.q 12 (.q 13 (.q 14 (.q 15 (.q 16 (.q 17 (.q 18 (.q 19 (.q 20 (.q 21 (.q 22 (.q 23 (.q 24 (.c 25 1 (.q 26 (.q 27 (.done))))))))))))))))))))))))))))) (by kernel_rfl) ?_
    have q5 := hS.th_lt (f := k) (g := j) (by omega) (by omega)
    rw [Cat.th_nat] at q5
    have r2 := n k (by omega)
    have r3 := n j (by omega)
    have r4 := hT.row (f.ar.getD k 0).toNat (by omega)
    refine .mv rfl rfl (.q rfl (.cmp rfl rfl rfl) (.mv rfl rfl ?_))
    refine .split (fun y => ?_) (fun y => ?_)
    ·
     try simp only [sps] at y
     refine .qg rfl (.move rfl) (.qg rfl (.nilCheck rfl) (.qg rfl (.fieldAddr fo_38_3_E rfl) ?_))
     refine .qg rfl (.load on_22_B rfl (by assumption)) ?_
     refine .qg rfl (.move rfl) ?_
     refine .qg rfl (.idx1 sl_22_A (by assumption) rfl rfl (by omega) (by omega)) ?_
     refine .qg rfl (.loadI on_2_A (by assumption) rfl (by omega)) ?_
     refine .qg rfl (.move rfl) (.qg rfl (.move rfl) (.qg rfl (.nilCheck rfl) (.qg rfl (.fieldAddr fo_38_3_E rfl) ?_)))
     refine .qg rfl (.load on_22_B rfl (by assumption)) ?_
     refine .qg rfl (.move rfl) ?_
     refine .qg rfl (.idxN sl_22_A (by assumption) rfl rfl (by omega)) ?_
     refine .qg rfl (.loadI on_2_A (by assumption) rfl (by omega)) ?_
     refine .qg rfl (.move rfl) (.qg rfl (.nilCheck rfl) (.qg rfl (.fieldAddr fo_38_3_E rfl) ?_))
     refine .qg rfl (.load on_22_B rfl (by assumption)) ?_
     refine .qg rfl (.move rfl) ?_
     refine .qg rfl (.idxN sl_22_A (by assumption) rfl rfl (by omega)) ?_
     refine .qg rfl (.loadI on_2_A (by assumption) rfl (by omega)) ?_
     refine .callQ1g rfl rfl rfl rfl rfl rfl rfl @Tryd.call78 rfl (then_s) (.refl _) ?_
     refine .qg rfl (.cmp rfl rfl rfl) (.q rfl (.pickT rfl rfl) ?_)
     refine .done ?_
     refine a4 _ _ ?_
     refine .cond rfl (fun i => ?_) (fun i => ?_)
     ·
      try simp only [sps] at i
      refine .seq (fun K38 b1 => .region (.mv rfl (.nil (b1 _ _ ?_))))
      refine .ret ?_
      refine d _ _ ?_
      refine ⟨_, rfl, ?_⟩
      exact .of (congrArg _ (B_false fun hF => i (hF.th k (by omega) j (by omega) ((hS.th_ge (by omega) (by omega)).1 (by rw [Cat.th_nat]; omega)))))
     try simp only [sps] at i
     refine .skip ?_
     refine a0 _ _ (.region ?_)
     refine .q rfl (.add rfl rfl rfl (by omega) (by omega)) ?_
     refine .mv rfl (.nil ?_)
     refine a3 (j + 1) _ _ ?_ ?_ ⟨rfl, rfl, rfl, rfl, rfl, rfl, rfl, rfl, rfl, trivial⟩
     ·
      refine ⟨rfl, ?_⟩
      refine ⟨by omega, fun x hx => ?_⟩
      by_cases e : x < j
      · exact b7 x e
      · obtain rfl : x = j := by omega
        first
          | exact fun _ => i
          | exact fun e => absurd ((hS.th_ge (by omega) (by omega)).2 e) (by rw [Cat.th_nat]; omega)
     omega
    try simp only [sps] at y
    refine .z rfl (.z rfl (.z rfl (.z rfl (.z rfl (.z rfl (.z rfl (.z rfl (.z rfl (.z rfl (.z rfl (.z rfl (.z rfl (.z rfl (.z rfl (.z rfl ?_)))))))))))))))
    refine .z rfl (.z rfl (.z rfl (.z rfl (.z rfl (.z rfl (.sgc rfl rfl rfl rfl rfl rfl (.z rfl (.q rfl (.pickF rfl rfl) ?_))))))))
    refine .done ?_
    refine a4 _ _ ?_
    refine .condF rfl ?_
    refine .skip ?_
    refine a0 _ _ (.region ?_)
    refine .q rfl (.add rfl rfl rfl (by omega) (by omega)) ?_
    refine .mv rfl (.nil ?_)
    refine a3 (j + 1) _ _ ?_ ?_ ⟨rfl, rfl, rfl, rfl, rfl, rfl, rfl, rfl, rfl, trivial⟩
    ·
     refine ⟨rfl, ?_⟩
     refine ⟨by omega, fun x hx => ?_⟩
     by_cases e : x < j
     · exact b7 x e
     · obtain rfl : x = j := by omega
       first
         | exact fun _ => i
         | exact fun e => absurd ((hS.th_ge (by omega) (by omega)).2 e) (by rw [Cat.th_nat]; omega)
    omega
   try simp only [sps] at u
   refine .exit ?_
   refine b2 _ _ (.region ?_)
   refine .q rfl (.add rfl rfl rfl (by omega) (by omega)) ?_
   refine .mv rfl (.nil ?_)
   refine b8 (k + 1) _ _ ?_ ?_ ⟨rfl, rfl, rfl, rfl, rfl, trivial⟩
   ·
    refine ⟨rfl, ?_⟩
    refine ⟨by omega, fun x hx => ?_⟩
    by_cases e : x < k
    · exact f3 x e
    · obtain rfl : x = k := by omega
      exact fun b hb => b7 b (by omega)
   omega
  try simp only [sps] at r
  refine .exit ?_
  refine e9 _ _ (.seq (fun K39 e0 => .region (.mv rfl (.nil (e0 _ _ ?_)))))
  refine .ret ?_
  refine d _ _ ?_
  refine ⟨_, rfl, ?_⟩
  exact .of (congrArg _ (B_true ⟨a2, by omega, w, n, fun a ha => f2 a (by omega), fun x hx => f4 x (by omega), fun a ha => f3 a (by omega)⟩))
theorem two_sl {H : GHeap} {e : TypeId} {own : Bool} {g1 o1 g2 o2 k : Nat} (h : H.get k = some (.row [.pointer (some ⟨g1, o1, none⟩), .pointer (some ⟨g2, o2, none⟩)] e own)) :
    SlA H (some ⟨k, 0, none⟩) 2 (fun i => .pointer (some ⟨(if i = 0 then g1 else g2), (if i = 0 then o1 else o2), none⟩)) := by
  refine .inr ⟨k, 0, rfl, fun i hi => ?_⟩
  rw [GHeap.cell_of h, Nat.zero_add]
  match i, hi with
  | 0, _ => rfl
  | 1, _ => rfl
theorem areCategories2_c {k g1 o1 g2 o2 : Nat} {e : TypeId} {c1 c2 : Cat} {p1 p2 : CatP} {H : GHeap} (h : H.get k = some (.row [.pointer (some ⟨g1, o1, none⟩), .pointer (some ⟨g2, o2, none⟩)] e true) := by assumption)
    (h1 : Cat.At H g1 o1 c1 p1 := by assumption) (h2 : Cat.At H g2 o2 c2 p2 := by assumption) (hs1 : c1.Small := by assumption) (hs2 : c2.Small := by assumption) :
    GCalls Tryd.prog 55 [.slice (some ⟨k, 0, none⟩) 2 2] H (Ret (.bool (B (c1.Is ∧ c2.Is))) H) := by
  have := areCategories_c (two_sl h) (by omega) (C := fun i => if i = 0 then c1 else c2) (P := fun i => if i = 0 then p1 else p2)
    (fun i hi => by match i, hi with | 0, _ => exact h1 | 1, _ => exact h2) (fun i hi => by match i, hi with | 0, _ => exact hs1 | 1, _ => exact hs2)
  rw [B_congr (q := c1.Is ∧ c2.Is)] at this
  · exact this
  · exact ⟨fun h => ⟨h 0 (by omega), h 1 (by omega)⟩, fun h i hi => by match i, hi with | 0, _ => exact h.1 | 1, _ => exact h.2⟩
theorem isFunctor_c {g o : Nat} {f : Fun} {p : FunP} {H : GHeap} (h : Fun.At H g o f p := by assumption) (hsm : f.Small := by assumption) :
    GCalls Tryd.prog 38 [.pointer (some ⟨g, o, none⟩)] H (Ret (.bool (B f.Is)) H) := by
  refine GCalls.ret rfl ?_
  have hsm' := hsm
  obtain ⟨m1, m2, -, -⟩ := hsm'
  refine GCalls.body (N := 15) (rs := [.tmp 2]) Tryd.func38 rfl rfl rfl rfl (fun Qx d hend => ?_)
  refine .fg [0] rfl ?_
  refine .seq (fun K1 l => .region (.mv rfl (.nil (l _ _ (.seq (fun K2 e => ?_))))))
  refine .regionD mo_B (.q 0 (.q 1 (.q 2 (.q 3 (.q 4 (.q 5 (.c 6 0 (.c 7 0 (.q 8 (.q 9 (.c 10 0 (.q 11 (.q 12 (.done)))))))))))))) (by kernel_rfl) ?_
  refine .mv rfl rfl (.q rfl (.nilCheck rfl) (.q rfl (.fieldAddr fo_38_0_E rfl) (.mv rfl rfl (.q rfl (.nilCheck rfl) (.q rfl (.fieldAddr fo_38_1_E rfl) ?_)))))
  refine .d0 rfl rfl rfl rfl (.buildSlice rfl sl_107_F ze_56_G rfl rfl (by omega) (by omega) rfl rfl CIs.mk) ?_
  show GTree _ _ _ _ _ _ (H.push (.row [.pointer (some ⟨g, o + 0, none⟩), .pointer (some ⟨g, o + 5, none⟩)] 56 true)) (H.push (.row [.pointer (some ⟨g, o + 0, none⟩), .pointer (some ⟨g, o + 5, none⟩)] 56 true))
  have b := GHeap.le_push H (.row [.pointer (some ⟨g, o + 0, none⟩), .pointer (some ⟨g, o + 5, none⟩)] 56 true)
  have hn := GHeap.get_push_new H (.row [.pointer (some ⟨g, o + 0, none⟩), .pointer (some ⟨g, o + 5, none⟩)] 56 true)
  generalize H.push (.row [.pointer (some ⟨g, o + 0, none⟩), .pointer (some ⟨g, o + 5, none⟩)] 56 true) = H1 at *
  generalize H.next = k at hn ⊢
  have hf := h.mono b
  obtain ⟨fs, ft, -, -, -, -⟩ := hf.get
  refine .callQ0 rfl rfl rfl rfl rfl @Tryd.call55 rfl (areCategories2_c) ?_
  refine .mv rfl rfl ?_
  refine .split (fun a => ?_) (fun a => ?_)
  ·
   simp only [B_iff] at a
   obtain ⟨j, i⟩ := a
   refine .qg rfl (.move rfl) ?_
   refine .callQ0g rfl rfl rfl rfl rfl rfl rfl @Tryd.call56 rfl (fits_c) ?_
   refine .q rfl (.pickT rfl rfl) (.mv rfl rfl ?_)
   refine .done ?_
   refine e _ _ ?_
   refine .ret ?_
   refine d _ _ ?_
   refine ⟨_, rfl, ?_⟩
   first
   | exact ⟨congrArg _ (B_congr ⟨fun hI => hI.2.2, fun hF => ⟨j, i, hF⟩⟩), b⟩
   | exact ⟨congrArg _ (B_false fun hI => a ⟨hI.1, hI.2.1⟩), b⟩
   | exact ⟨congrArg _ (B_false fun hI => by simp [hI.1, hI.2.1] at a), b⟩
  try simp only [sps] at a
  refine .z rfl (.sgc rfl rfl rfl rfl rfl rfl (.q rfl (.pickF rfl rfl) (.mv rfl rfl ?_)))
  refine .done ?_
  refine e _ _ ?_
  refine .ret ?_
  refine d _ _ ?_
  refine ⟨_, rfl, ?_⟩
  first
  | exact ⟨congrArg _ (B_congr ⟨fun hI => hI.2.2, fun hF => ⟨j, i, hF⟩⟩), b⟩
  | exact ⟨congrArg _ (B_false fun hI => a ⟨hI.1, hI.2.1⟩), b⟩
  | exact ⟨congrArg _ (B_false fun hI => by simp [hI.1, hI.2.1] at a), b⟩
end Go.Proofs.YtlfnclhkhmkklaaDoor
namespace Go.Proofs.YtlfnclhkhmkklaaDoor
open Go Go.GL Go.RowKit Go.Proofs
end Go.Proofs.YtlfnclhkhmkklaaDoor
namespace Go.Proofs.YtlfnclhkhmkklaaDoor
open Go Go.GL Go.RowKit Go.Proofs
theorem l06Is_c {f : Fun} {p : FunP} {H : GHeap} (hin : f.In H p := by assumption) (hsm : f.Small := by assumption) : GCalls Tryd.prog 36 [.agg (f.cells p).toArray] H (Ret (.bool (B f.Is)) H) := by
  refine GCalls.ret rfl ?_
  obtain ⟨m1, m2, m3, m4⟩ := hsm
  have f4 := m1
  have f6 := m2
  obtain ⟨-, n2, n3, -, -, -⟩ := f4
  obtain ⟨k1, -, -, -, -, -⟩ := f6
  refine GCalls.body (N := 181) (rs := [.tmp 2]) Tryd.func36 rfl rfl rfl rfl (fun Qx h hend => ?_)
  refine .fg [0] rfl ?_
  refine .seq (fun K1 f3 => .region (.d rfl rfl rfl (.box rfl sz_38_E rfl CIs.mk) ?_))
  show GRun _ _ _ _ _ _ (H.push (.row (f.cells p) 38 true))
  have l := GHeap.le_push H (.row (f.cells p) 38 true)
  have hb : Fun.At (H.push (.row (f.cells p) 38 true)) H.next 0 f p := ⟨Mem.new _ _ _ _, hin.mono l⟩
  generalize H.push (.row (f.cells p) 38 true) = H1 at *
  generalize H.next = g at *
  obtain ⟨fs, ft, -, -, -, -⟩ := hb.get
  have hms : MemN _ _ _ _ _ := ⟨rfl, fs.1⟩
  have hmt : MemN _ _ _ _ _ := ⟨rfl, ft.1⟩
  refine .mv rfl (.nil (f3 _ _ (.seq (fun K2 f9 => ?_))))
  refine .regionD mo_B (.q 0 (.q 1 (.q 2 (.q 3 (.or (.c 4 1 (.c 5 1 (.c 6 1 (.c 7 0 .done)))) (.c 5 1 (.c 4 1 (.c 6 1 (.c 7 0 .done))))))))) (by kernel_rfl) ?_
  refine .q rfl (.fieldAddr fo_38_0_E rfl) ?_
  refine .q rfl (.loadM ag_29_D rfl (by assumption)) ?_
  refine .q rfl (.fieldAddr fo_38_1_E rfl) ?_
  refine .q rfl (.loadM ag_29_D rfl (by assumption)) ?_
  refine .two [(1, some _), (2, some _)] rfl rfl rfl rfl rfl rfl rfl rfl rfl rfl rfl rfl rfl rfl rfl rfl rfl rfl ze_29_E rfl sz_29_D rfl rfl rfl rfl rfl (by rfl) (by rfl) rfl rfl rfl rfl rfl ⟨rfl, rfl, trivial⟩ rfl rfl (.refl _) ?_
  intro g3 g4 H2 fr2 a4 hga hgb g0 f5 d0
  replace l := l.trans a4
  obtain ⟨fs, ft, c10, c11, j1, j2⟩ := (hb.mono a4).get
  have k3 : Cat.At H2 g3 0 f.s p.s := ⟨Mem.of_get g0, fs.2⟩
  have k4 : Cat.At H2 g4 0 f.t p.t := ⟨Mem.of_get f5, ft.2⟩
  have hm3 : MemN _ _ _ _ _ := ⟨rfl, k3.1⟩
  have hm4 : MemN _ _ _ _ _ := ⟨rfl, k4.1⟩
  have im3 := k3.2
  have im4 := k4.2
  obtain ⟨c0, c1, c2, c3, c4, i1, i2, i3, i4⟩ := k3.get
  obtain ⟨x0, x1, x2, x3, x4, y1, y2, y3, y4⟩ := k4.get
  refine f9 _ _ ?_
  refine .forget d0 ?_
  refine .seq (fun K3 f7 => .seq (fun K4 a9 => .region ?_))
  refine .q rfl (.loadM ag_29_D rfl (by assumption)) ?_
  refine .callQ rfl rfl rfl rfl @Tryd.call23 rfl (l02Is_c) ?_
  refine .q rfl (.not rfl) (.mv rfl ?_)
  refine .split (fun a0 => ?_) (fun a0 => ?_)
  ·
   try simp only [sps] at a0
   refine .z rfl (.z rfl (.z rfl (.q rfl (.pickT rfl rfl) (.mv rfl (.z rfl (.z rfl (.z rfl (.z rfl (.z rfl (.z rfl (.q rfl (.pickT rfl rfl) (.mv rfl (.z rfl (.z rfl (.z rfl ?_)))))))))))))))
   refine .z rfl (.z rfl (.z rfl (.z rfl (.q rfl (.pickT rfl rfl) (.nil (a9 _ _ ?_))))))
   refine .condT rfl ?_
   refine .seq (fun K5 g2 => .region (.mv rfl (.nil (g2 _ _ ?_))))
   refine .ret ?_
   refine h _ _ ?_
   refine ⟨_, rfl, ?_⟩
   exact ⟨congrArg _ (B_false fun hI => a0 hI.1), l⟩
  try simp only [sps] at a0
  refine .qg rfl (.loadM ag_29_D rfl (by assumption)) ?_
  refine .callQg rfl rfl rfl rfl rfl rfl @Tryd.call23 rfl (l02Is_c) ?_
  refine .qg rfl (.not rfl) (.q rfl (.pickF rfl rfl) (.mv rfl ?_))
  refine .split (fun y => ?_) (fun y => ?_)
  ·
   try simp only [sps] at y
   refine .z rfl (.z rfl (.z rfl (.z rfl (.z rfl (.z rfl (.q rfl (.pickT rfl rfl) (.mv rfl (.z rfl (.z rfl (.z rfl (.z rfl (.z rfl (.z rfl (.z rfl (.q rfl (.pickT rfl rfl) ?_)))))))))))))))
   refine .nil (a9 _ _ ?_)
   refine .condT rfl ?_
   refine .seq (fun K6 g5 => .region (.mv rfl (.nil (g5 _ _ ?_))))
   refine .ret ?_
   refine h _ _ ?_
   refine ⟨_, rfl, ?_⟩
   exact ⟨congrArg _ (B_false fun hI => y hI.2.1), l⟩
  simp only [B_iff, Bool.not_eq_false', Bool.not_eq_true'] at y
  have hS := a0.1
  have hT := y.1
  have qs1 := hS.tl
  have qs2 := hS.n40
  have qs3 := hS.il
  have qs4 := hS.obj
  have qs5 := hS.cl
  have qt1 := hT.tl
  have qt2 := hT.n40
  have qt3 := hT.il
  have qt5 := hT.cl
  refine .qg rfl (.fieldAddr fo_38_2_E rfl) ?_
  refine .qg rfl (.load on_22_B rfl (by assumption)) ?_
  refine .qg rfl (.len sl_22_A rfl) (.qg rfl (.fieldAddr fo_29_0_B rfl) ?_)
  refine .qg rfl (.load on_2_A rfl (by assumption)) ?_
  refine .qg rfl (.cmp rfl rfl rfl) (.q rfl (.pickF rfl rfl) (.mv rfl ?_))
  refine .split (fun b4 => ?_) (fun b4 => ?_)
  ·
   try simp only [sps] at b4
   refine .z rfl (.z rfl (.z rfl (.z rfl (.z rfl (.z rfl (.z rfl (.q rfl (.pickT rfl rfl) (.nil (a9 _ _ ?_)))))))))
   refine .condT rfl ?_
   refine .seq (fun K7 g1 => .region (.mv rfl (.nil (g1 _ _ ?_))))
   refine .ret ?_
   refine h _ _ ?_
   refine ⟨_, rfl, ?_⟩
   exact ⟨congrArg _ (B_false fun hI => by have := hI.2.2.ol; omega), l⟩
  try simp only [sps] at b4
  refine .qg rfl (.fieldAddr fo_38_3_E rfl) ?_
  refine .qg rfl (.load on_22_B rfl (by assumption)) ?_
  refine .qg rfl (.len sl_22_A rfl) (.qg rfl (.fieldAddr fo_29_1_B rfl) ?_)
  refine .qg rfl (.load on_22_B rfl (by assumption)) ?_
  refine .qg rfl (.len sl_22_A rfl) (.qg rfl (.cmp rfl rfl rfl) (.q rfl (.pickF rfl rfl) (.nil (a9 _ _ ?_))))
  refine .cond rfl (fun d2 => ?_) (fun d2 => ?_)
  ·
   try simp only [sps] at d2
   refine .seq (fun K8 f8 => .region (.mv rfl (.nil (f8 _ _ ?_))))
   refine .ret ?_
   refine h _ _ ?_
   refine ⟨_, rfl, ?_⟩
   exact ⟨congrArg _ (B_false fun hI => by have := hI.2.2.al; omega), l⟩
  try simp only [sps] at d2
  refine .skip ?_
  refine f7 _ _ (.seq (fun K9 f2 => .seq (fun K10 a5 => .region (.q rfl (.fieldAddr fo_29_0_B rfl) ?_))))
  refine .q rfl (.load on_2_A rfl (by assumption)) ?_
  refine .q rfl (.fieldAddr fo_38_2_E rfl) ?_
  refine .q rfl (.load on_22_B rfl (by assumption)) ?_
  refine .callQ rfl rfl rfl rfl @Tryd.call53 rfl (l01Map_c) ?_
  refine .q rfl (.not rfl) (.mv rfl ?_)
  refine .split (fun r => ?_) (fun r => ?_)
  ·
   try simp only [sps] at r
   refine .z rfl (.z rfl (.z rfl (.z rfl (.z rfl (.z rfl (.z rfl (.q rfl (.pickT rfl rfl) (.nil (a5 _ _ ?_)))))))))
   refine .condT rfl ?_
   refine .seq (fun K11 b9 => .region (.mv rfl (.nil (b9 _ _ ?_))))
   refine .ret ?_
   refine h _ _ ?_
   refine ⟨_, rfl, ?_⟩
   exact ⟨congrArg _ (B_false fun hI => by rw [allIn_iff.2 hI.2.2.ob] at r; cases r), l⟩
  try simp only [sps] at r
  refine .qg rfl (.fieldAddr fo_29_1_B rfl) ?_
  refine .qg rfl (.load on_22_B rfl (by assumption)) ?_
  refine .qg rfl (.len sl_22_A rfl) (.qg rfl (.fieldAddr fo_38_3_E rfl) ?_)
  refine .qg rfl (.load on_22_B rfl (by assumption)) ?_
  refine .callQg rfl rfl rfl rfl rfl rfl @Tryd.call53 rfl (l01Map_c) ?_
  refine .qg rfl (.not rfl) (.q rfl (.pickF rfl rfl) (.nil (a5 _ _ ?_)))
  refine .cond rfl (fun o => ?_) (fun o => ?_)
  ·
   try simp only [sps] at o
   refine .seq (fun K12 e7 => .region (.mv rfl (.nil (e7 _ _ ?_))))
   refine .ret ?_
   refine h _ _ ?_
   refine ⟨_, rfl, ?_⟩
   exact ⟨congrArg _ (B_false fun hI => by rw [allIn_iff.2 hI.2.2.ar] at o; cases o), l⟩
  try simp only [sps] at o
  refine .skip ?_
  refine f2 _ _ (.seq (fun K13 d8 => .seq (fun K14 e3 => .region (.mv rfl (.nil (e3 _ _ ?_))))))
  refine .block ?_
  refine .loopR (σ := Nat) [(1, some _), (3, some _), (4, some _)] (fun k => [(5, some (.int .i64 (k : Int)))]) (fun k H' => H2 = H' ∧ k ≤ f.s.src.length ∧ ∀ a, a < k → f.t.src.getD (f.ar.getD a 0).toNat 0 = f.ob.getD (f.s.src.getD a 0).toNat 0 ∧ f.t.tgt.getD (f.ar.getD a 0).toNat 0 = f.ob.getD (f.s.tgt.getD a 0).toNat 0) (fun k => f.s.src.length - k) (0) ⟨rfl, rfl, rfl, trivial⟩ ⟨rfl, trivial⟩ ?_ ?_
  ·
   refine ⟨rfl, ?_⟩
   exact ⟨by omega, fun x hx => by omega⟩
  rintro k _ ⟨rfl, hI⟩ KL1 b2
  refine .forget (fr' := [(5, some (.int .i64 (k : Int))), (1, some _), (3, some _), (4, some _)]) ⟨rfl, rfl, rfl, rfl, trivial⟩ ?_
  obtain ⟨hk1, e9⟩ := hI
  refine .seq (fun K15 b3 => .seq (fun K16 c8 => .region (.mv rfl (.q rfl (.fieldAddr fo_29_1_B rfl) ?_))))
  refine .q rfl (.load on_22_B rfl (by assumption)) ?_
  refine .q rfl (.len sl_22_A rfl) (.q rfl (.cmp rfl rfl rfl) (.nil (c8 _ _ ?_)))
  refine .cond rfl (fun e0 => ?_) (fun e0 => ?_)
  ·
   try simp only [sps] at e0
   refine .skip ?_
   refine b3 _ _ (.seq (fun K17 d3 => ?_))
   refine .block ?_
   refine .seq (fun K18 a7 => ?_)
   refine .regionD mo_B (.q 0 (.q 1 (.q 2 (.q 3 (.q 4 (.q 5 (.q 6 (.q 7 (.q 8 (.q 9 (.q 10 (.q 11 (.q 12 (.q 13 (.q 14 (.q 15 (.q 16 (.q 17 (.q 18 (.q 19 (.q 20 (.q 21 (.q 22 (.q 23 (.q 24 (.q 25 (.q 26 (.q 27 (.q 28 (.q 29 (.q 30 (.q 31 (.q 32 (.q 33 (.q 34 (.q 35 (.q 36 (.q 37 (.q 38 (.q 39 (.done))))))))))))))))))))))))))))))))))))))))) (by kernel_rfl) ?_
   have q1 := o k (by omega)
   have q2 := hS.src k (by omega)
   have q3 := hS.tgt k (by omega)
   refine .q rfl (.fieldAddr fo_29_1_B rfl) ?_
   refine .q rfl (.load on_22_B rfl (by assumption)) ?_
   refine .q rfl (.fieldAddr fo_38_3_E rfl) ?_
   refine .q rfl (.load on_22_B rfl (by assumption)) ?_
   refine .mv rfl rfl ?_
   refine .q rfl (.idxN sl_22_A (by assumption) rfl rfl (by omega)) ?_
   refine .q rfl (.loadI on_2_A (by assumption) rfl (by omega)) ?_
   refine .q rfl (.idx1 sl_22_A (by assumption) rfl rfl (by omega) (by omega)) ?_
   refine .q rfl (.loadI on_2_A (by assumption) rfl (by omega)) ?_
   refine .q rfl (.fieldAddr fo_38_2_E rfl) ?_
   refine .q rfl (.load on_22_B rfl (by assumption)) ?_
   refine .q rfl (.fieldAddr fo_29_1_B rfl) ?_
   refine .q rfl (.load on_22_B rfl (by assumption)) ?_
   refine .mv rfl rfl ?_
   refine .q rfl (.idxN sl_22_A (by assumption) rfl rfl (by omega)) ?_
   refine .q rfl (.loadI on_2_A (by assumption) rfl (by omega)) ?_
   refine .q rfl (.idx1 sl_22_A (by assumption) rfl rfl (by omega) (by omega)) ?_
   refine .q rfl (.loadI on_2_A (by assumption) rfl (by omega)) ?_
   refine .q rfl (.cmp rfl rfl rfl) (.mv rfl rfl ?_)
   refine .split (fun a2 => ?_) (fun a2 => ?_)
   ·
    try simp only [sps] at a2
    refine .z rfl (.z rfl (.z rfl (.z rfl (.z rfl (.z rfl (.z rfl (.z rfl (.z rfl (.z rfl (.z rfl (.z rfl (.z rfl (.z rfl (.z rfl (.z rfl ?_)))))))))))))))
    refine .z rfl (.z rfl (.z rfl (.q rfl (.pickT rfl rfl) ?_)))
    refine .done ?_
    refine a7 _ _ ?_
    refine .condT rfl ?_
    refine .seq (fun K19 d4 => .region (.mv rfl (.nil (d4 _ _ ?_))))
    refine .ret ?_
    refine h _ _ ?_
    refine ⟨_, rfl, ?_⟩
    exact ⟨congrArg _ (B_false fun hI => a2 (hI.2.2.ends k (by omega)).1), l⟩
   try simp only [sps] at a2
   refine .qg rfl (.fieldAddr fo_29_2_B rfl) ?_
   refine .qg rfl (.load on_22_B rfl (by assumption)) ?_
   refine .qg rfl (.fieldAddr fo_38_3_E rfl) ?_
   refine .qg rfl (.load on_22_B rfl (by assumption)) ?_
   refine .qg rfl (.move rfl) ?_
   refine .qg rfl (.idxN sl_22_A (by assumption) rfl rfl (by omega)) ?_
   refine .qg rfl (.loadI on_2_A (by assumption) rfl (by omega)) ?_
   refine .qg rfl (.idx1 sl_22_A (by assumption) rfl rfl (by omega) (by omega)) ?_
   refine .qg rfl (.loadI on_2_A (by assumption) rfl (by omega)) ?_
   refine .qg rfl (.fieldAddr fo_38_2_E rfl) ?_
   refine .qg rfl (.load on_22_B rfl (by assumption)) ?_
   refine .qg rfl (.fieldAddr fo_29_2_B rfl) ?_
   refine .qg rfl (.load on_22_B rfl (by assumption)) ?_
   refine .qg rfl (.move rfl) ?_
   refine .qg rfl (.idxN sl_22_A (by assumption) rfl rfl (by omega)) ?_
   refine .qg rfl (.loadI on_2_A (by assumption) rfl (by omega)) ?_
   refine .qg rfl (.idx1 sl_22_A (by assumption) rfl rfl (by omega) (by omega)) ?_
   refine .qg rfl (.loadI on_2_A (by assumption) rfl (by omega)) ?_
   refine .qg rfl (.cmp rfl rfl rfl) (.q rfl (.pickF rfl rfl) ?_)
   refine .done ?_
   refine a7 _ _ ?_
   refine .cond rfl (fun a8 => ?_) (fun a8 => ?_)
   ·
    try simp only [sps] at a8
    refine .seq (fun K20 d1 => .region (.mv rfl (.nil (d1 _ _ ?_))))
    refine .ret ?_
    refine h _ _ ?_
    refine ⟨_, rfl, ?_⟩
    exact ⟨congrArg _ (B_false fun hI => a8 (hI.2.2.ends k (by omega)).2), l⟩
   try simp only [sps] at a8
   refine .skip ?_
   refine d3 _ _ (.region (.mv rfl ?_))
   refine .q rfl (.add rfl rfl rfl (by omega) (by omega)) ?_
   refine .mv rfl (.nil ?_)
   refine b2 (k + 1) _ _ ?_ ?_ ⟨rfl, rfl, rfl, rfl, trivial⟩
   ·
    refine ⟨rfl, ?_⟩
    refine ⟨by omega, fun x hx => ?_⟩
    by_cases e : x < k
    · exact e9 x e
    · obtain rfl : x = k := by omega
      exact ⟨a2, a8⟩
   omega
  try simp only [sps] at e0
  refine .exit ?_
  refine d8 _ _ (.seq (fun K21 c6 => .seq (fun K22 b5 => .region (.mv rfl (.nil (b5 _ _ ?_))))))
  refine .block ?_
  refine .loopR (σ := Nat) [(1, some _), (3, some _), (4, some _)] (fun k => [(6, some (.int .i64 (k : Int)))]) (fun k H' => H2 = H' ∧ (k : Int) ≤ f.s.obj ∧ ∀ x, x < k → f.ar.getD (f.s.idn.getD x 0).toNat 0 = f.t.idn.getD (f.ob.getD x 0).toNat 0) (fun k => f.s.idn.length - k) (0) ⟨rfl, rfl, rfl, trivial⟩ ⟨rfl, trivial⟩ ?_ ?_
  ·
   refine ⟨rfl, ?_⟩
   exact ⟨by omega, fun x hx => by omega⟩
  rintro k _ ⟨rfl, hI⟩ KL2 e8
  refine .forget (fr' := [(6, some (.int .i64 (k : Int))), (1, some _), (3, some _), (4, some _)]) ⟨rfl, rfl, rfl, rfl, trivial⟩ ?_
  obtain ⟨hk2, f1⟩ := hI
  refine .seq (fun K23 e1 => .seq (fun K24 d5 => .region (.mv rfl (.q rfl (.fieldAddr fo_29_0_B rfl) ?_))))
  refine .q rfl (.load on_2_A rfl (by assumption)) ?_
  refine .q rfl (.cmp rfl rfl rfl) (.nil (d5 _ _ ?_))
  refine .cond rfl (fun w => ?_) (fun w => ?_)
  ·
   try simp only [sps] at w
   refine .skip ?_
   refine e1 _ _ (.seq (fun K25 e5 => ?_))
   refine .block ?_
   refine .seq (fun K26 e6 => ?_)
   refine .regionD mo_B (.q 0 (.q 1 (.q 2 (.q 3 (.q 4 (.q 5 (.q 6 (.q 7 (.q 8 (.q 9 (.q 10 (.q 11 (.q 12 (.q 13 (.q 14 (.q 15 (.q 16 (.q 17 (.q 18 (.done)))))))))))))))))))) (by kernel_rfl) ?_
   have q1 := hS.idn k (by omega)
   have q2 := r k (by omega)
   refine .q rfl (.fieldAddr fo_38_3_E rfl) ?_
   refine .q rfl (.load on_22_B rfl (by assumption)) ?_
   refine .q rfl (.fieldAddr fo_29_3_B rfl) ?_
   refine .q rfl (.load on_22_B rfl (by assumption)) ?_
   refine .mv rfl rfl ?_
   refine .q rfl (.idxN sl_22_A (by assumption) rfl rfl (by omega)) ?_
   refine .q rfl (.loadI on_2_A (by assumption) rfl (by omega)) ?_
   refine .q rfl (.idx1 sl_22_A (by assumption) rfl rfl (by omega) (by omega)) ?_
   refine .q rfl (.loadI on_2_A (by assumption) rfl (by omega)) ?_
   refine .q rfl (.fieldAddr fo_29_3_B rfl) ?_
   refine .q rfl (.load on_22_B rfl (by assumption)) ?_
   refine .q rfl (.fieldAddr fo_38_2_E rfl) ?_
   refine .q rfl (.load on_22_B rfl (by assumption)) ?_
   refine .mv rfl rfl ?_
   refine .q rfl (.idxN sl_22_A (by assumption) rfl rfl (by omega)) ?_
   refine .q rfl (.loadI on_2_A (by assumption) rfl (by omega)) ?_
   refine .q rfl (.idx1 sl_22_A (by assumption) rfl rfl (by omega) (by omega)) ?_
   refine .q rfl (.loadI on_2_A (by assumption) rfl (by omega)) ?_
   refine .q rfl (.cmp rfl rfl rfl) ?_
   refine .done ?_
   refine e6 _ _ ?_
   refine .cond rfl (fun n => ?_) (fun n => ?_)
   ·
    try simp only [sps] at n
    refine .seq (fun K27 d6 => .region (.mv rfl (.nil (d6 _ _ ?_))))
    refine .ret ?_
    refine h _ _ ?_
    refine ⟨_, rfl, ?_⟩
    exact ⟨congrArg _ (B_false fun hI => n (hI.2.2.ids k (by omega))), l⟩
   try simp only [sps] at n
   refine .skip ?_
   refine e5 _ _ (.region (.mv rfl ?_))
   refine .q rfl (.add rfl rfl rfl (by omega) (by omega)) ?_
   refine .mv rfl (.nil ?_)
   refine e8 (k + 1) _ _ ?_ ?_ ⟨rfl, rfl, rfl, rfl, trivial⟩
   ·
    refine ⟨rfl, ?_⟩
    refine ⟨by omega, fun x hx => ?_⟩
    by_cases e : x < k
    · exact f1 x e
    · obtain rfl : x = k := by omega
      exact n
   omega
  try simp only [sps] at w
  refine .exit ?_
  refine c6 _ _ (.seq (fun K28 e2 => .seq (fun K29 e4 => .region (.mv rfl (.nil (e4 _ _ ?_))))))
  refine .block ?_
  refine .loopR (σ := Nat) [(1, some _), (3, some _), (4, some _)] (fun k => [(7, some (.int .i64 (k : Int)))]) (fun k H' => H2 = H' ∧ k ≤ f.s.src.length ∧ ∀ a, a < k → ∀ b, b < f.s.src.length → f.s.tgt.getD a 0 = f.s.src.getD b 0 → f.A (f.s.th a b) = f.t.th (f.ar.getD a 0) (f.ar.getD b 0)) (fun k => f.s.src.length - k) (0) ⟨rfl, rfl, rfl, trivial⟩ ⟨rfl, trivial⟩ ?_ ?_
  ·
   refine ⟨rfl, ?_⟩
   exact ⟨by omega, fun x hx => by omega⟩
  rintro k _ ⟨rfl, hI⟩ KL3 c5
  refine .forget (fr' := [(7, some (.int .i64 (k : Int))), (1, some _), (3, some _), (4, some _)]) ⟨rfl, rfl, rfl, rfl, trivial⟩ ?_
  obtain ⟨hk3, f0⟩ := hI
  refine .seq (fun K30 b7 => .seq (fun K31 b1 => .region (.mv rfl (.q rfl (.fieldAddr fo_29_1_B rfl) ?_))))
  refine .q rfl (.load on_22_B rfl (by assumption)) ?_
  refine .q rfl (.len sl_22_A rfl) (.q rfl (.cmp rfl rfl rfl) (.nil (b1 _ _ ?_)))
  refine .cond rfl (fun v => ?_) (fun v => ?_)
  ·
   try simp only [sps] at v
   refine .skip ?_
   refine b7 _ _ (.seq (fun K32 c9 => ?_))
   refine .block ?_
   refine .seq (fun K33 d7 => .region (.mv rfl (.nil (d7 _ _ ?_))))
   refine .block ?_
   refine .loopR (σ := Nat) [(1, some _), (3, some _), (4, some _), (7, some _)] (fun j => [(8, some (.int .i64 (j : Int)))]) (fun j H' => H2 = H' ∧ j ≤ f.s.src.length ∧ ∀ b, b < j → f.s.tgt.getD k 0 = f.s.src.getD b 0 → f.A (f.s.th k b) = f.t.th (f.ar.getD k 0) (f.ar.getD b 0)) (fun j => f.s.src.length - j) (0) ⟨rfl, rfl, rfl, rfl, trivial⟩ ⟨rfl, trivial⟩ ?_ ?_
   ·
    refine ⟨rfl, ?_⟩
    exact ⟨by omega, fun x hx => by omega⟩
   rintro j _ ⟨rfl, hI⟩ KL4 a3
   refine .forget (fr' := [(8, some (.int .i64 (j : Int))), (1, some _), (3, some _), (4, some _), (7, some _)]) ⟨rfl, rfl, rfl, rfl, rfl, trivial⟩ ?_
   obtain ⟨hk4, c7⟩ := hI
   refine .seq (fun K34 b8 => .seq (fun K35 b0 => .region (.mv rfl (.q rfl (.fieldAddr fo_29_1_B rfl) ?_))))
   refine .q rfl (.load on_22_B rfl (by assumption)) ?_
   refine .q rfl (.len sl_22_A rfl) (.q rfl (.cmp rfl rfl rfl) (.nil (b0 _ _ ?_)))
   refine .cond rfl (fun u => ?_) (fun u => ?_)
   ·
    try simp only [sps] at u
    refine .skip ?_
    refine b8 _ _ (.seq (fun K36 a1 => ?_))
    refine .block ?_
    refine .seq (fun K37 a6 => ?_)
    refine .regionD mo_B (.q 0 (.q 1 (.q 2 (.q 3 (.q 4 (.q 5 (.q 6 (.q 7 (.q 8 (.q 9 (.q 10 (.q 11 (.q 12 (.q 13 (.q 14 (.q 15 (.q 16 (.q 17 (.q 18 (.q 19 (.q 20 (.q 21 (.q 22 (.q 23 (.q 24 (.q 25 (.q 26 (.q 27 (.q 28 (.q 29 (.q 30 (.q 31 (.q 32 (.q 33 (.q 34 (.q 35 (.q 36 (.q 37 (.q 38 (.q 39 (.q 40 (.q 41 (.done))))))))))))))))))))))))))))))))))))))))))) (by kernel_rfl) ?_
    have r1 := i4.2 k (by omega)
    have r1l := hS.row k (by omega)
    have q5 := hS.th_lt (f := k) (g := j) (by omega) (by omega)
    have q6 := hS.th_ge (f := k) (g := j) (by omega) (by omega)
    rw [Cat.th_nat] at q5 q6
    have r2 := o k (by omega)
    have r3 := o j (by omega)
    have r4 := hT.row (f.ar.getD k 0).toNat (by omega)
    have r5 := y4.2 (f.ar.getD k 0).toNat (by omega)
    refine .q rfl (.fieldAddr fo_29_2_B rfl) ?_
    refine .q rfl (.load on_22_B rfl (by assumption)) ?_
    refine .mv rfl rfl ?_
    refine .q rfl (.idxN sl_22_A (by assumption) rfl rfl (by omega)) ?_
    refine .q rfl (.loadI on_2_A (by assumption) rfl (by omega)) ?_
    refine .q rfl (.fieldAddr fo_29_1_B rfl) ?_
    refine .q rfl (.load on_22_B rfl (by assumption)) ?_
    refine .mv rfl rfl ?_
    refine .q rfl (.idxN sl_22_A (by assumption) rfl rfl (by omega)) ?_
    refine .q rfl (.loadI on_2_A (by assumption) rfl (by omega)) ?_
    refine .q rfl (.cmp rfl rfl rfl) (.mv rfl rfl ?_)
    refine .split (fun i => ?_) (fun i => ?_)
    ·
     simp only [beq_iff_eq] at i
     have q7 := q6.2 i
     refine .qg rfl (.fieldAddr fo_38_3_E rfl) ?_
     refine .qg rfl (.load on_22_B rfl (by assumption)) ?_
     refine .qg rfl (.fieldAddr fo_29_4_B rfl) ?_
     refine .qg rfl (.load on_23_B rfl (by assumption)) ?_
     refine .qg rfl (.move rfl) ?_
     refine .qg rfl (.idxN sl_23_B (Intss.sl (by assumption)) rfl rfl (by omega)) ?_
     refine .qg rfl (.loadR on_22_B (by assumption) rfl (by omega)) ?_
     refine .qg rfl (.move rfl) ?_
     refine .qg rfl (.idxN sl_22_A (by assumption) rfl rfl (by omega)) ?_
     refine .qg rfl (.loadI on_2_A (by assumption) rfl (by omega)) ?_
     refine .qg rfl (.idx1 sl_22_A (by assumption) rfl rfl (by omega) (by omega)) ?_
     refine .qg rfl (.loadI on_2_A (by assumption) rfl (by omega)) ?_
     refine .qg rfl (.fieldAddr fo_29_4_B rfl) ?_
     refine .qg rfl (.load on_23_B rfl (by assumption)) ?_
     refine .qg rfl (.fieldAddr fo_38_3_E rfl) ?_
     refine .qg rfl (.load on_22_B rfl (by assumption)) ?_
     refine .qg rfl (.move rfl) ?_
     refine .qg rfl (.idxN sl_22_A (by assumption) rfl rfl (by omega)) ?_
     refine .qg rfl (.loadI on_2_A (by assumption) rfl (by omega)) ?_
     refine .qg rfl (.idx1 sl_23_B (Intss.sl (by assumption)) rfl rfl (by omega) (by omega)) ?_
     refine .qg rfl (.loadR on_22_B (by assumption) rfl (by omega)) ?_
     refine .qg rfl (.fieldAddr fo_38_3_E rfl) ?_
     refine .qg rfl (.load on_22_B rfl (by assumption)) ?_
     refine .qg rfl (.move rfl) ?_
     refine .qg rfl (.idxN sl_22_A (by assumption) rfl rfl (by omega)) ?_
     refine .qg rfl (.loadI on_2_A (by assumption) rfl (by omega)) ?_
     refine .qg rfl (.idx1 sl_22_A (by assumption) rfl rfl (by omega) (by omega)) ?_
     refine .qg rfl (.loadI on_2_A (by assumption) rfl (by omega)) ?_
     refine .qg rfl (.cmp rfl rfl rfl) (.q rfl (.pickT rfl rfl) ?_)
     refine .done ?_
     refine a6 _ _ ?_
     refine .cond rfl (fun m => ?_) (fun m => ?_)
     ·
      try simp only [sps] at m
      refine .seq (fun K38 b6 => .region (.mv rfl (.nil (b6 _ _ ?_))))
      refine .ret ?_
      refine h _ _ ?_
      refine ⟨_, rfl, ?_⟩
      exact ⟨congrArg _ (B_false fun hI => m (hI.2.2.th k (by omega) j (by omega) i)), l⟩
     try simp only [sps] at m
     refine .skip ?_
     refine a1 _ _ (.region (.mv rfl ?_))
     refine .q rfl (.add rfl rfl rfl (by omega) (by omega)) ?_
     refine .mv rfl (.nil ?_)
     refine a3 (j + 1) _ _ ?_ ?_ ⟨rfl, rfl, rfl, rfl, rfl, trivial⟩
     ·
      refine ⟨rfl, ?_⟩
      refine ⟨by omega, fun x hx => ?_⟩
      by_cases e : x < j
      · exact c7 x e
      · obtain rfl : x = j := by omega
        first
          | exact fun _ => m
          | exact fun e => absurd e i
     omega
    try simp only [sps] at i
    refine .z rfl (.z rfl (.z rfl (.z rfl (.z rfl (.z rfl (.z rfl (.z rfl (.z rfl (.z rfl (.z rfl (.z rfl (.z rfl (.z rfl (.z rfl (.z rfl ?_)))))))))))))))
    refine .z rfl (.z rfl (.z rfl (.z rfl (.z rfl (.z rfl (.z rfl (.z rfl (.z rfl (.z rfl (.z rfl (.z rfl (.z rfl (.q rfl (.pickF rfl rfl) ?_)))))))))))))
    refine .done ?_
    refine a6 _ _ ?_
    refine .condF rfl ?_
    refine .skip ?_
    refine a1 _ _ (.region (.mv rfl ?_))
    refine .q rfl (.add rfl rfl rfl (by omega) (by omega)) ?_
    refine .mv rfl (.nil ?_)
    refine a3 (j + 1) _ _ ?_ ?_ ⟨rfl, rfl, rfl, rfl, rfl, trivial⟩
    ·
     refine ⟨rfl, ?_⟩
     refine ⟨by omega, fun x hx => ?_⟩
     by_cases e : x < j
     · exact c7 x e
     · obtain rfl : x = j := by omega
       first
         | exact fun _ => m
         | exact fun e => absurd e i
    omega
   try simp only [sps] at u
   refine .exit ?_
   refine c9 _ _ (.region (.mv rfl ?_))
   refine .q rfl (.add rfl rfl rfl (by omega) (by omega)) ?_
   refine .mv rfl (.nil ?_)
   refine c5 (k + 1) _ _ ?_ ?_ ⟨rfl, rfl, rfl, rfl, trivial⟩
   ·
    refine ⟨rfl, ?_⟩
    refine ⟨by omega, fun x hx => ?_⟩
    by_cases e : x < k
    · exact f0 x e
    · obtain rfl : x = k := by omega
      exact fun b hb => c7 b (by omega)
   omega
  try simp only [sps] at v
  refine .exit ?_
  refine e2 _ _ (.seq (fun K39 d9 => .region (.mv rfl (.nil (d9 _ _ ?_)))))
  refine .ret ?_
  refine h _ _ ?_
  refine ⟨_, rfl, ?_⟩
  exact ⟨congrArg _ (B_true ⟨a0, y, by omega, by omega, r, o, fun a ha => e9 a (by omega), fun x hx => f1 x (by omega), fun a ha => f0 a (by omega)⟩), l⟩
end Go.Proofs.YtlfnclhkhmkklaaDoor
namespace Go.GL
open Go.RowKit

def out : List Nat → Nat → Prop
  | [], _ => True
  | g :: r, k => k ≠ g ∧ out r k
structure St (bs : List Nat) (H H' : GHeap) : Prop where
  nx : H.next ≤ H'.next
  same : ∀ k o, out bs k → H.get k = some o → H'.get k = some o
theorem St.refl (bs : List Nat) (H : GHeap) : St bs H H := ⟨Nat.le_refl _, fun _ _ _ h => h⟩
theorem GHeap.Le.st {H0 H H' : GHeap} {bs : List Nat} (h : H0.Le H) (s : St bs H H') (hg : ∀ k, k < H0.next → out bs k) : H0.Le H' :=
  ⟨Nat.le_trans h.1 s.nx, fun k o hk => s.same k o (hg k (GHeap.ltg hk)) (h.2 k o hk)⟩
theorem St.le {bs : List Nat} {H0 H H' : GHeap} (s : St bs H0 H) (h : H.Le H') : St bs H0 H' := ⟨Nat.le_trans s.nx h.1, fun k o hk hg => h.2 k o (s.same k o hk hg)⟩
theorem St.st {bs cs : List Nat} {H0 H H' : GHeap} (s : St bs H0 H) (h : St cs H H') (hg : ∀ k, k < H0.next → out bs k → out cs k) : St bs H0 H' :=
  ⟨Nat.le_trans s.nx h.nx, fun k o hk h1 => h.same k o (hg k (GHeap.ltg h1) hk) (s.same k o hk h1)⟩
theorem St.sA {bs cs : List Nat} {H0 H H' : GHeap} (s : St bs H0 H) (h : St cs H H') (hg : ∀ k, k < H0.next → out bs k → out cs k := by intro k hk ho; simp only [out, and_true] at ho ⊢ <;> first | exact ho | exact ho.1 | exact ho.2 | exact ho.2.1 | exact ho.2.2 | exact ho.2.2.1 | exact ho.2.2.2 | omega) : St bs H0 H' := s.st h hg
theorem St.s {g k : Nat} {H H' : GHeap} {o : GObj} (s : St [g] H H') (h : H.get k = some o) (hne : k ≠ g := by first | assumption | omega) : H'.get k = some o := s.same k o ⟨hne, trivial⟩ h
theorem Keep.le {b : Nat} {H0 H H' : GHeap} (k : Keep b H0 H) (h : H.Le H') : Keep b H0 H' := fun g o hb hg => h.2 g o (k g o hb hg)
theorem Keep.st {bs : List Nat} {b : Nat} {H0 H H' : GHeap} (k : Keep b H0 H) (h : St bs H H') (hg : ∀ k, b ≤ k → k < H0.next → out bs k) : Keep b H0 H' := fun g o hb h1 => h.same g o (hg g hb (GHeap.ltg h1)) (k g o hb h1)
theorem St.of_set {g : Nat} {H : GHeap} {o : Option GObj} : St [g] H (H.set g o) := ⟨by rw [GHeap.next_set]; exact Nat.le_refl _, fun k x hk h => by rw [GHeap.get_set_ne (Ne.symm hk.1)]; exact h⟩
theorem St.push {bs : List Nat} {H H' : GHeap} {o : GObj} (s : St bs H H') : St bs H (H'.push o) := ⟨by rw [GHeap.next_push]; have := s.nx; omega, fun k x hk h => GHeap.get_push_of (s.same k x hk h)⟩

section
variable {P : Program} {N : Nat} {ops : Array Oper} {Q : Slots → GHeap → Prop} {L : List (Oper × Nat)} {fr : Slots} {H Hb : GHeap} {o : Oper} {i : Nat} {t : Tree}
theorem CDo.mono {R R' : Option Value → GHeap → Prop} (h : CDo P o fr H R) (hi : ∀ v H', R v H' → R' v H') : CDo P o fr H R' :=
  .mkI fun l B w0 ρ a w hs hf next Qx hn => h.run l B w0 ρ a w hs hf next Qx fun ρ' v c H' w' hR => hn ρ' v c H' w' (hi v H' hR)
theorem GTree.mono {Q' : Slots → GHeap → Prop} (hq : ∀ fr H, Q' fr H → Q fr H) : ∀ {t : Tree} {fr : Slots} {Hb H : GHeap}, GTree P N ops Q' t fr Hb H → GTree P N ops Q t fr Hb H
  | .done, _, _, _, h => hq _ _ h
  | .q i t, fr, Hb, H, h => by
    unfold GTree at h ⊢
    obtain ⟨o, h1, h2, h3⟩ := h
    refine ⟨o, h1, h2, ?_⟩
    split
    · rename_i hg
      rw [hg] at h3
      obtain ⟨v, Hq, k1, k2, k3, k4⟩ := h3
      exact ⟨v, Hq, k1, k2, k3, GTree.mono hq k4⟩
    · rename_i j want hg
      rw [hg] at h3
      obtain ⟨s, c, k1, k2, kg, k3, k4⟩ := h3
      exact ⟨s, c, k1, k2, kg, fun e => let ⟨v, Hq, l1, l2, l3, l4⟩ := k3 e; ⟨v, Hq, l1, l2, l3, GTree.mono hq l4⟩, fun e => GTree.mono hq (k4 e)⟩
  | .c i k t, fr, Hb, H, h => by
    unfold GTree at h ⊢
    obtain ⟨o, h1, h2, h3⟩ := h
    refine ⟨o, h1, h2, ?_⟩
    split
    · rename_i hg
      rw [hg] at h3
      exact h3.mono fun v H' ⟨l1, l2⟩ => ⟨l1, GTree.mono hq l2⟩
    · rename_i j want hg
      rw [hg] at h3
      obtain ⟨s, c, k1, k2, kg, k3, k4⟩ := h3
      exact ⟨s, c, k1, k2, kg, fun e => (k3 e).mono fun v H' ⟨l1, l2⟩ => ⟨l1, GTree.mono hq l2⟩, fun e => GTree.mono hq (k4 e)⟩
  | .or s t, fr, Hb, H, h => by
    unfold GTree at h ⊢
    exact ⟨GTree.mono hq h.1, GTree.mono hq h.2⟩
theorem GTree.cut (rest : Slots) (hr : Sub rest fr) (R : Slots → Slots → GHeap → Prop) (h : GTree P N ops (R rest) t fr Hb H) (hq : ∀ fr' H', R rest fr' H' → Q fr' H') : GTree P N ops Q t fr Hb H := h.mono hq
theorem GTree.mB {d : Tmp} {v : Value} (hi : ops[i]? = some o) (hd : o.dst = some d) (hN : Nat.blt d N = true) (hg : o.guard = none) (hle : Hb.Le H) (hm : MStep P fr Hb o.op v) (h : GTree P N ops Q t ((d, some v) :: fr) Hb H) : GTree P N ops Q (.q i t) fr Hb H := by
  unfold GTree
  refine ⟨o, hi, by unfold dstOk; rw [hd]; exact hN, ?_⟩
  rw [hg]
  exact ⟨v, Hb, .refl _, hle, hm, by rw [hd]; exact h⟩
theorem GTree.qB {d : Tmp} {v : Value} (h : stpT ops i N = some (o, d)) (hle : Hb.Le H) (hm : MStep P fr Hb o.op v) (hq : GTree P N ops Q t ((d, some v) :: fr) Hb H) : GTree P N ops Q (.q i t) fr Hb H := by
  obtain ⟨h0, h4⟩ := stpT.spec h
  obtain ⟨h1, h2, h3⟩ := stpR.spec h4
  exact .mB h0 h1 h2 h3 hle hm hq
theorem GTree.orI {s : Tree} (h : GTree P N ops Q s fr Hb H) (h' : GTree P N ops Q t fr Hb H) : GTree P N ops Q (.or s t) fr Hb H := by unfold GTree; exact ⟨h, h'⟩
theorem GRun.r {d : Tmp} {R : Option Value → GHeap → Prop} (hd : o.dst = some d) (hN : Nat.blt d N = true) (hg : o.guard = none) (hc : CDo P o fr H R) (h : ∀ v H', R v H' → GRun P N ops Q L ((d, v) :: fr) H') : GRun P N ops Q ((o, 0) :: L) fr H :=
  .c hd hN hg (by simp) hc fun v H' hR => ⟨fun e => (by cases e), h v H' hR⟩
theorem GRun.R {d : Tmp} {R : Option Value → GHeap → Prop} (h0 : stpR o N = some d) (hc : CDo P o fr H R) (h : ∀ v H', R v H' → GRun P N ops Q L ((d, v) :: fr) H') : GRun P N ops Q ((o, 0) :: L) fr H := by
  obtain ⟨h1, h2, h3⟩ := stpR.spec h0
  exact .r h1 h2 h3 hc h
theorem GRun.r0 {R : Option Value → GHeap → Prop} (hd : o.dst = none) (hg : o.guard = none) (hc : CDo P o fr H R) (h : ∀ v H', R v H' → GRun P N ops Q L fr H') : GRun P N ops Q ((o, 0) :: L) fr H :=
  .c0 hd hg (by simp) hc fun v H' hR => ⟨fun e => (by cases e), h v H' hR⟩
end

section
variable {P : Program} {H : GHeap} {fr : Slots} {o : Oper}
theorem CDo.boxR {e : TypeId} {x : Operand} {v : Value} {n : Nat} (ho : o.op = .box e x) (he : (P.info? e).map (·.size) = some n) (hx : ev fr x = some v) :
    CDo P o fr H (fun r H' => ∃ g, r = some (.pointer (some ⟨g, 0, none⟩)) ∧ H.Le H' ∧ H.next ≤ g ∧ H'.get g = some (.row v.cells.toList e true)) :=
  .box ho he hx ⟨_, rfl, GHeap.le_push _ _, Nat.le_refl _, GHeap.get_push_new _ _⟩
theorem CDo.allocR {e : TypeId} {z : List Value} {n : Nat} (ho : o.op = .alloc e) (hz : zeroT P e = some (z, n)) (hfl : z.all flat1 = true) :
    CDo P o fr H (fun r H' => ∃ g, r = some (.pointer (some ⟨g, 0, none⟩)) ∧ H.Le H' ∧ H.next ≤ g ∧ H'.get g = some (.row z e true)) :=
  .alloc ho hz hfl ⟨_, rfl, GHeap.le_push _ _, Nat.le_refl _, GHeap.get_push_new _ _⟩
theorem CDo.litR {t e : TypeId} {len n : Nat} {parts : Array (Nat × Operand)} {z vs cs : List Value} (ho : o.op = .buildSlice t len parts) (ht : sliceT P t = some (e, n)) (hz : zeroT P e = some (z, n)) (hfl : z.all flat1 = true) (hzn : z.length = n) (h0 : 0 < n)
    (hsm : len * n ≤ 16777216) (hv : evs fr (parts.toList.map (·.2)) = some vs) (hc : fillL (fun i => some (i * n, n)) (madeL z (len * n)) ((parts.toList.map (·.1)).zip vs) = some cs) :
    CDo P o fr H (fun r H' => ∃ g, r = some (.slice (some ⟨g, 0, none⟩) len len) ∧ H.Le H' ∧ H.next ≤ g ∧ H'.get g = some (.row cs e true)) :=
  .buildSlice ho ht hz hfl hzn h0 hsm hv hc ⟨_, rfl, GHeap.le_push _ _, Nat.le_refl _, GHeap.get_push_new _ _⟩
theorem CDo.storeNR {t : TypeId} {x y : Operand} {g off n : Nat} {vs : Array Value} {cs : List Value} {e : TypeId} (ho : o.op = .store t x y) (ht : (P.info? t).map (·.size) = some n) (hx : ev fr x = some (.pointer (some ⟨g, off, none⟩))) (hy : ev fr y = some (.agg vs))
    (hn : vs.size = n) (h1 : vs.toList.all (·.oneCell') = true) (hg : H.get g = some (.row cs e true)) (hoff : off + n ≤ cs.length) :
    CDo P o fr H (fun r H' => r = none ∧ St [g] H H' ∧ H'.get g = some (.row (setAll cs off vs.toList) e true)) :=
  .storeN ho ht hx hy hn h1 hg hoff ⟨rfl, .of_set, GHeap.get_set_eq (GHeap.ltg hg)⟩
theorem CDo.fillR {t : TypeId} {x y : Operand} {g n : Nat} {vs : Array Value} {cs : List Value} {e : TypeId} (ho : o.op = .store t x y) (ht : (P.info? t).map (·.size) = some n) (hx : ev fr x = some (.pointer (some ⟨g, 0, none⟩))) (hy : ev fr y = some (.agg vs))
    (hn : vs.size = n) (h1 : vs.toList.all (·.oneCell') = true) (hg : H.get g = some (.row cs e true)) (hoff : cs.length = n) :
    CDo P o fr H (fun r H' => r = none ∧ St [g] H H' ∧ H'.get g = some (.row vs.toList e true)) := by
  have : setAll cs 0 vs.toList = vs.toList := setAll_all _ _ (by simp [hoff, hn])
  have h := CDo.storeNR (P := P) (H := H) ho ht hx hy hn h1 hg (by omega)
  rw [this] at h
  exact h
theorem CDo.litA {t e : TypeId} {len n : Nat} {parts : Array (Nat × Operand)} {z vs cs : List Value} (ho : o.op = .buildSlice t len parts) (ht : sliceT P t = some (e, n)) (hz : zeroT P e = some (z, n)) (hfl : z.all flat1 = true) (hzn : z.length = n) (hv : evs fr (parts.toList.map (·.2)) = some vs) (hc : fillL (fun i => some (i * n, n)) (madeL z (len * n)) ((parts.toList.map (·.1)).zip vs) = some cs) (h0 : 0 < n := by omega)
    (hsm : len * n ≤ 16777216 := by omega) : CDo P o fr H (fun r H' => ∃ g, r = some (.slice (some ⟨g, 0, none⟩) len len) ∧ H.Le H' ∧ H.next ≤ g ∧ H'.get g = some (.row cs e true)) := .litR ho ht hz hfl hzn h0 hsm hv hc
theorem CDo.fillA {t : TypeId} {x y : Operand} {g n : Nat} {vs : Array Value} {cs : List Value} {e : TypeId} (ho : o.op = .store t x y) (ht : (P.info? t).map (·.size) = some n) (hx : ev fr x = some (.pointer (some ⟨g, 0, none⟩))) (hy : ev fr y = some (.agg vs))
    (hn : vs.size = n) (h1 : vs.toList.all (·.oneCell') = true) (hg : H.get g = some (.row cs e true) := by assumption) (hoff : cs.length = n := by first | rfl | exact Nat.le_of_ble_eq_true rfl | simp) :
    CDo P o fr H (fun r H' => r = none ∧ St [g] H H' ∧ H'.get g = some (.row vs.toList e true)) := .fillR ho ht hx hy hn h1 hg hoff
theorem CDo.appendR {t tx e : TypeId} {s x : Operand} {g off n m sz bytes : Nat} {z cs news : List Value} (ho : o.op = .call { callee := .builtin .append, args := #[s, x], argTypes := #[t, tx] }) (ht : sliceT P t = some (e, sz)) (hz : zeroT P e = some (z, sz)) (hzn : z.length = sz)
    (hb : (P.info? e).map (·.bytes) = some bytes) (hsv : ev fr s = some (.slice (some ⟨g, off, none⟩) n n)) (hg : H.get g = some (.row cs e true)) (hend : off + n * sz = cs.length) (hsrc : SrcG P fr H sz tx x m news)
    (hN : n + m ≤ 16777216) (hB : (n + m) * bytes ≤ 140737488355328) :
    CDo P o fr H (fun r H' => ∃ g', r = some (.slice (some ⟨g', 0, none⟩) (n + m) (n + m)) ∧ St [g] H H' ∧ H.next ≤ g' ∧ H'.get g' = some (.row (cs.drop off ++ news) e true)) :=
  .append ho ht hz hzn hb hsv hg hend hsrc (by unfold maxLen; omega) hB ⟨_, rfl, .push .of_set, Nat.le_refl _, by have := GHeap.get_push_new (H.set g none) (.row (cs.drop off ++ news) e true); rwa [GHeap.next_set] at this⟩
theorem CDo.appendV {t tx e e' : TypeId} {s x : Operand} {g g1 n sz bytes : Nat} {z cs vs : List Value} (ho : o.op = .call { callee := .builtin .append, args := #[s, x], argTypes := #[t, tx] }) (ht : sliceT P t = some (e, sz)) (hz : zeroT P e = some (z, sz)) (hzn : z.length = sz)
    (hb : (P.info? e).map (·.bytes) = some bytes) (htx : sliceT P tx = some (e', sz)) (hsv : ev fr s = some (.slice (some ⟨g, 0, none⟩) n n)) (hx : ev fr x = some (.slice (some ⟨g1, 0, none⟩) 1 1)) (hg : H.get g = some (.row cs e true)) (hg1 : H.get g1 = some (.row vs e' true)) (hend : n * sz = cs.length)
    (hv : vs.length = sz) (hone : vs.all (·.oneCell') = true) (hN : n + 1 ≤ 16777216) (hB : (n + 1) * bytes ≤ 140737488355328) :
    CDo P o fr H (fun r H' => ∃ g', r = some (.slice (some ⟨g', 0, none⟩) (n + 1) (n + 1)) ∧ St [g] H H' ∧ H.next ≤ g' ∧ H'.get g' = some (.row (cs ++ vs) e true)) :=
  .appendR (cs := cs) (news := vs) ho ht hz hzn hb hsv hg (by omega) (.slice htx hx (by omega) (fun i v hv => by rw [GHeap.cell_of hg1, Nat.zero_add]; exact hv) (fun v hv => List.all_eq_true.1 hone v hv)) hN hB
end

def filtN (n : Nat) (p : Nat → Bool) : List Int := ((List.range n).filter p).map fun (i : Nat) => (i : Int)
def firstIn (xs : List Int) (p : Int → Bool) : Int := (xs.find? p).getD (-1)
end Go.GL
namespace Go.GL

def Cat.hom (c : Cat) (x y : Int) : List Int := filtN c.src.length fun f => decide (c.src.getD f 0 = x) && decide (c.tgt.getD f 0 = y)
def Cat.invB (c : Cat) (f g : Int) : Bool := decide (c.th f g = c.idn.getD (c.src.getD f.toNat 0).toNat 0) && decide (c.th g f = c.idn.getD (c.tgt.getD f.toNat 0).toNat 0)
def Cat.inv (c : Cat) (f : Int) : Int := firstIn (c.hom (c.tgt.getD f.toNat 0) (c.src.getD f.toNat 0)) (c.invB f)
end Go.GL
namespace Go.Proofs.YtlfnclhkhmkklaaDoor
open Go Go.GL Go.RowKit Go.Proofs
end Go.Proofs.YtlfnclhkhmkklaaDoor
namespace Go.GL
open Go.RowKit Go.WideShapes Go.ChangeShapes Go.Deep

def Intsss (H : GHeap) (a : Option Addr) (x : List (List (List Int))) (r : Nat → Option Addr) (s : Nat → Nat → Option Addr) : Prop :=
  SlA H a x.length (fun i => .slice (r i) (x.getD i []).length (x.getD i []).length) ∧ ∀ i, i < x.length → Intss H (r i) (x.getD i []) (s i)
def Wd2 (xss : List (List Int)) : Prop := xss.length ≤ 9223372036854775807 ∧ ∀ i, I64s (xss.getD i [])
def Wd3 (x : List (List (List Int))) : Prop := x.length ≤ 9223372036854775807 ∧ ∀ i, Wd2 (x.getD i [])
def Sm3 (x : List (List (List Int))) : Prop := x.length ≤ 1048576 ∧ ∀ i, (x.getD i []).length ≤ 1048576 ∧ ∀ j, ((x.getD i []).getD j []).length ≤ 1048576
end Go.GL
namespace Go.GL
open Go.RowKit Go.WideShapes Go.ChangeShapes Go.Deep

structure Imp1 (P : Program) (t : TypeId) (R : GHeap → Value → Prop) : Prop where
  mono : ∀ {H H' : GHeap} {g : Value}, H.Le H' → R H g → R H' g
  imp : ∀ {T : Type} {enc : TypeId × Value → T} {B : Nat} {w0 : World} {ρ : Place} {H : GHeap} {w : World} {held : Bool} {base fuel : Nat} {v : Value} {x : DataW T × List MemPlace}, Sim P B w0 ρ H w → w.heap.size ≤ B →
    DataW.trod enc P w 0 (fun _ => true) held fuel t v.cells.toList = some x → Value.okWide P w .any base t v → ∃ ρ' H' g, Sim P B w0 ρ' H' w ∧ Ext ρ ρ' ∧ H.Le H' ∧ VRel ρ' g v ∧ R H' g

def structT (P : Program) (t : TypeId) : Bool := match P.underlying t with | some (.struct _) => true | _ => false
theorem imp1_struct {P : Program} {t : TypeId} {α β : Type} {cells : α → β → List Value} {I : GHeap → α → β → Prop} {W : α → Prop} (hm : ∀ {H H' : GHeap} {c : α} {p : β}, I H c p → H.Le H' → I H' c p)
    (hI : Imports P t (fun ρ H cs => ∃ (c : α) (p : β), LRel ρ (cells c p) cs ∧ I H c p ∧ W c)) (hst : structT P t = true) : Imp1 P t (fun H g => ∃ (c : α) (p : β), g = .agg (cells c p).toArray ∧ I H c p ∧ W c) where
  mono h := fun ⟨c, p, h1, h2, h3⟩ => ⟨c, p, h1, hm h2 h, h3⟩
  imp := by
    intro T enc B w0 ρ H w held base fuel v x hs hB h hv
    have hagg : ∃ cs, v = .agg cs := by
      unfold Value.okWide at hv
      unfold structT at hst
      split at hst
      · rename_i fs hu
        rw [hu] at hv
        obtain ⟨cs, h, _⟩ := hv
        exact ⟨cs, h⟩
      · cases hst
    obtain ⟨cs, rfl⟩ := hagg
    obtain ⟨ρ', H', h1, h2, h3, c, p, h4, h5, h6⟩ := hI hs hB h
    exact ⟨ρ', H', _, h1, h2, h3, by have := VRel.agg_of h4; simpa [Value.cells] using this, c, p, rfl, h5, h6⟩
structure ImpAll (P : Program) (ts : List TypeId) (R : GHeap → List Value → Prop) : Prop where
  imp : ∀ {T : Type} {enc : TypeId × Value → T} {B : Nat} {w0 : World} {ρ : Place} {H : GHeap} {w : World} {base : Nat} {vs : List Value} {ds : List (DataW T)} {ps : List MemPlace}, Sim P B w0 ρ H w → w.heap.size ≤ B →
    DataW.TrodAll enc P w 0 (fun _ => true) true ts vs ds ps → (∀ (j : Nat) t v, ts[j]? = some t → vs[j]? = some v → Value.okWide P w .any base t v) → ds.length = ts.length ∧ ∃ ρ' H' gs, Sim P B w0 ρ' H' w ∧ Ext ρ ρ' ∧ H.Le H' ∧ LRel ρ' gs vs ∧ R H' gs
theorem ImpAll.nil {P : Program} : ImpAll P [] (fun _ gs => gs = []) where
  imp := by
    intro T enc B w0 ρ H w base vs ds ps hs hB h hv
    obtain ⟨rfl, rfl, rfl⟩ := trodAll_nil h
    exact ⟨rfl, ρ, H, [], hs, .refl ρ, .refl H, .nil ρ, rfl⟩
theorem ImpAll.cons {P : Program} {t : TypeId} {ts : List TypeId} {R1 : GHeap → Value → Prop} {R : GHeap → List Value → Prop} (h1 : Imp1 P t R1) (h2 : ImpAll P ts R) : ImpAll P (t :: ts) (fun H gs => ∃ g r, gs = g :: r ∧ R1 H g ∧ R H r) where
  imp := by
    intro T enc B w0 ρ H w base vs ds ps hs hB h hv
    obtain ⟨v, vs, d, ds, p, q, rfl, rfl, rfl, ⟨fuel, k1⟩, k2⟩ := trodAll_cons h
    obtain ⟨ρ1, H1, g, s1, e1, l1, v1, r1⟩ := h1.imp hs hB k1 (hv 0 t v rfl rfl)
    obtain ⟨hl, ρ2, H2, gs, s2, e2, l2, v2, r2⟩ := h2.imp s1 hB k2 (fun j t v ht hj => hv (j + 1) t v (by simpa using ht) (by simpa using hj))
    exact ⟨by simp [hl], ρ2, H2, g :: gs, s2, e1.trans e2, l1.trans l2, .cons (v1.mono e2) v2, g, gs, rfl, h1.mono l2 r1, r2⟩

theorem law_calls {P : Program} {f : FuncId} {fn : Func} {ts : List TypeId} {tb : TypeId} {R : GHeap → List Value → Prop} (hI : ImpAll P ts R) (hp : fn.params = ts.toArray)
    (hc : ∀ H gs, R H gs → GCalls P f gs H fun v _ => v = .bool true)
    {T : Type} {enc : TypeId × Value → T} {W : World} {base : Nat} {args : Array Value} {s : ChangeSpec} {apart fresh handsOn again : Bool} {ds gs : List (DataW T)} {before : List MemPlace}
    (hval : ∀ (j : Nat) t v, fn.params[j]? = some t → args[j]? = some v → Value.okWide P W .any base t v)
    (hW : DataW.Whole enc P fn.params.toList s.vars apart W args.toList ds gs before)
    (hl : laidOutB P = true) (hr : readB P fn.params.toList = true) (hv : s.vars = []) (hrt : fn.resultTypes = #[tb]) (htb : P.underlying tb = some .bool)
    (hs : ∀ ds : List (DataW T), ds.length = ts.length → (s.fn T ds).results = [.lit (.bool true)] ∧ (s.fn T ds).args = ds ∧ (s.fn T ds).vars = []) :
    Calls P f args W fun e W' => ∃ v, e = .returned v ∧ s.post enc P fn apart fresh handsOn again W args v W' := by
  have hWW := hW
  obtain ⟨p, q, hA, _⟩ := hW
  rw [hp] at hA
  obtain ⟨hlen, ρ, H, gs', hs', _, _, hrel, hR⟩ := hI.imp (base := base) (Sim.start P W) (Nat.le_refl _) (by simpa using hA) (fun j t v ht hj => hval j t v (by rw [hp]; simpa using ht) (by simpa using hj))
  have := (hc H gs' hR) _ _ ρ args.toList W hs' hrel
  rw [Array.toArray_toList] at this
  refine this.mono fun e W' ⟨v, c, ρ', H', he, hv', _, hsim, hrv⟩ => ?_
  subst hv'
  cases hrv
  exact ⟨_, he, law_post hl hr hv hrt htb hWW (hs ds hlen).1 (hs ds hlen).2.1 (hs ds hlen).2.2 hsim.below⟩
end Go.GL
namespace Go.GL
open Go.RowKit
structure SFun where
  sh : Cat
  sz : List Int
  ac : List (List Int)
structure SFunP where
  sh : CatP
  a1 : Option Addr
  a2 : Option Addr
  r2 : Nat → Option Addr
def SFun.cells (c : SFun) (p : SFunP) : List Value := c.sh.cells p.sh ++ ([.slice p.a1 c.sz.length c.sz.length] ++ ([.slice p.a2 c.ac.length c.ac.length]))
def SFun.In (H : GHeap) (c : SFun) (p : SFunP) : Prop := c.sh.In H p.sh ∧ Ints H p.a1 c.sz ∧ Intss H p.a2 c.ac p.r2
def SFun.At (H : GHeap) (g o : Nat) (c : SFun) (p : SFunP) : Prop := Mem H g o (c.cells p) ∧ c.In H p
def SFun.Small (c : SFun) : Prop := c.sh.Small ∧ c.sz.length ≤ 1048576 ∧ (c.ac.length ≤ 1048576 ∧ ∀ i, (c.ac.getD i []).length ≤ 1048576)
def SFun.Wide (c : SFun) : Prop := c.sh.Wide ∧ I64s c.sz ∧ (c.ac.length ≤ 9223372036854775807 ∧ ∀ i, I64s (c.ac.getD i []))
structure SMap where
  s : SFun
  t : SFun
  pa : List (List Int)
structure SMapP where
  s : SFunP
  t : SFunP
  a2 : Option Addr
  r2 : Nat → Option Addr
def SMap.cells (c : SMap) (p : SMapP) : List Value := c.s.cells p.s ++ (c.t.cells p.t ++ ([.slice p.a2 c.pa.length c.pa.length]))
def SMap.In (H : GHeap) (c : SMap) (p : SMapP) : Prop := c.s.In H p.s ∧ c.t.In H p.t ∧ Intss H p.a2 c.pa p.r2
def SMap.At (H : GHeap) (g o : Nat) (c : SMap) (p : SMapP) : Prop := Mem H g o (c.cells p) ∧ c.In H p
def SMap.Small (c : SMap) : Prop := c.s.Small ∧ c.t.Small ∧ (c.pa.length ≤ 1048576 ∧ ∀ i, (c.pa.getD i []).length ≤ 1048576)
def SMap.Wide (c : SMap) : Prop := c.s.Wide ∧ c.t.Wide ∧ (c.pa.length ≤ 9223372036854775807 ∧ ∀ i, I64s (c.pa.getD i []))
structure Con where
  ap : Int
  lg : List Int
structure ConP where
  a1 : Option Addr
def Con.cells (c : Con) (p : ConP) : List Value := [.int .i64 c.ap] ++ ([.slice p.a1 c.lg.length c.lg.length])
def Con.In (H : GHeap) (c : Con) (p : ConP) : Prop := Ints H p.a1 c.lg
def Con.At (H : GHeap) (g o : Nat) (c : Con) (p : ConP) : Prop := Mem H g o (c.cells p) ∧ c.In H p
def Con.Small (c : Con) : Prop := (-9223372036854775808 ≤ c.ap ∧ c.ap ≤ 9223372036854775807) ∧ c.lg.length ≤ 1048576
def Con.Wide (c : Con) : Prop := I64 c.ap ∧ I64s c.lg
structure Prt where
  me : List (List Int)
structure PrtP where
  a0 : Option Addr
  r0 : Nat → Option Addr
def Prt.cells (c : Prt) (p : PrtP) : List Value := [.slice p.a0 c.me.length c.me.length]
def Prt.In (H : GHeap) (c : Prt) (p : PrtP) : Prop := Intss H p.a0 c.me p.r0
def Prt.At (H : GHeap) (g o : Nat) (c : Prt) (p : PrtP) : Prop := Mem H g o (c.cells p) ∧ c.In H p
def Prt.Small (c : Prt) : Prop := (c.me.length ≤ 1048576 ∧ ∀ i, (c.me.getD i []).length ≤ 1048576)
def Prt.Wide (c : Prt) : Prop := (c.me.length ≤ 9223372036854775807 ∧ ∀ i, I64s (c.me.getD i []))
structure Prof where
  s : Cat
  t : Cat
  sz : List (List Int)
  be : List (List (List Int))
  bh : List (List (List Int))
structure ProfP where
  s : CatP
  t : CatP
  a2 : Option Addr
  r2 : Nat → Option Addr
  a3 : Option Addr
  r3 : Nat → Option Addr
  s3 : Nat → Nat → Option Addr
  a4 : Option Addr
  r4 : Nat → Option Addr
  s4 : Nat → Nat → Option Addr
def Prof.cells (c : Prof) (p : ProfP) : List Value := c.s.cells p.s ++ (c.t.cells p.t ++ ([.slice p.a2 c.sz.length c.sz.length] ++ ([.slice p.a3 c.be.length c.be.length] ++ ([.slice p.a4 c.bh.length c.bh.length]))))
def Prof.In (H : GHeap) (c : Prof) (p : ProfP) : Prop := c.s.In H p.s ∧ c.t.In H p.t ∧ Intss H p.a2 c.sz p.r2 ∧ Intsss H p.a3 c.be p.r3 p.s3 ∧ Intsss H p.a4 c.bh p.r4 p.s4
def Prof.At (H : GHeap) (g o : Nat) (c : Prof) (p : ProfP) : Prop := Mem H g o (c.cells p) ∧ c.In H p
def Prof.Small (c : Prof) : Prop := c.s.Small ∧ c.t.Small ∧ (c.sz.length ≤ 1048576 ∧ ∀ i, (c.sz.getD i []).length ≤ 1048576) ∧ Sm3 c.be ∧ Sm3 c.bh
def Prof.Wide (c : Prof) : Prop := c.s.Wide ∧ c.t.Wide ∧ (c.sz.length ≤ 9223372036854775807 ∧ ∀ i, I64s (c.sz.getD i [])) ∧ Wd3 c.be ∧ Wd3 c.bh
end Go.GL
namespace Go.GL
open Go.RowKit

def thenL (f g : List Int) : List Int := f.map fun y => g.getD y.toNat 0
noncomputable def Cat.iso (c : Cat) (x y : Int) : Int := firstIn (c.hom x y) fun g => decide (0 ≤ c.inv g)
end Go.GL
namespace Go.GL

def first2 (n : Nat) (len : Nat → Nat) (p : Nat → Nat → Bool) : Int × Int :=
  match firstN n fun a => (firstN (len a) (p a)).isSome with
  | some a => ((a : Int), (((firstN (len a) (p a)).getD 0 : Nat) : Int))
  | none => (-1, 0)
def SFun.AcOk (f : SFun) (a : Nat) : Prop :=
  ((f.ac.getD a []).length : Int) = f.sz.getD (f.sh.src.getD a 0).toNat 0 ∧ allIn (f.ac.getD a []) (f.sz.getD (f.sh.tgt.getD a 0).toNat 0) = true
structure SFun.Shape (f : SFun) : Prop where
  c : f.sh.Is
  zl : (f.sz.length : Int) = f.sh.obj
  sz : ∀ i, i < f.sz.length → 0 ≤ f.sz.getD i 0 ∧ f.sz.getD i 0 ≤ 16
  al : f.ac.length = f.sh.src.length
  ac : ∀ a, a < f.ac.length → f.AcOk a
structure SFun.Laws (f : SFun) : Prop where
  ids : ∀ x : Nat, x < f.sh.idn.length → ∀ e : Nat, e < (f.ac.getD (f.sh.idn.getD x 0).toNat []).length → (f.ac.getD (f.sh.idn.getD x 0).toNat []).getD e 0 = e
  th : ∀ a : Nat, a < f.sh.src.length → ∀ b : Nat, b < f.sh.src.length → f.sh.tgt.getD a 0 = f.sh.src.getD b 0 → ∀ e : Nat, e < (f.ac.getD a []).length →
    (f.ac.getD ((f.sh.comp.getD a []).getD b 0).toNat []).getD e 0 = (f.ac.getD b []).getD ((f.ac.getD a []).getD e 0).toNat 0
def SFun.Is (f : SFun) : Prop := f.Shape ∧ f.Laws

def SMap.PaOk (m : SMap) (x : Nat) : Prop := ((m.pa.getD x []).length : Int) = m.s.sz.getD x 0 ∧ allIn (m.pa.getD x []) (m.t.sz.getD x 0) = true
structure SMap.Fits (m : SMap) : Prop where
  pl : m.pa.length = m.s.sz.length
  pa : ∀ x, x < m.pa.length → m.PaOk x
structure SMap.Shape (m : SMap) : Prop where
  s : m.s.Is
  t : m.t.Is
  sh : m.s.sh = m.t.sh
  fits : m.Fits
def SMap.bad (m : SMap) (a e : Nat) : Bool := decide (¬ (m.pa.getD (m.s.sh.tgt.getD a 0).toNat []).getD ((m.s.ac.getD a []).getD e 0).toNat 0 = (m.t.ac.getD a []).getD ((m.pa.getD (m.s.sh.src.getD a 0).toNat []).getD e 0).toNat 0)
def SMap.first (m : SMap) : Int × Int := first2 m.s.ac.length (fun a => (m.s.ac.getD a []).length) m.bad
def SMap.Is (m : SMap) : Prop := m.Shape ∧ ∀ a, a < m.s.ac.length → ∀ e, e < (m.s.ac.getD a []).length → m.bad a e = false
end Go.GL
namespace Go.GL

def NoMove (xs : List Int) : Prop := ∀ i : Nat, i < xs.length → xs.getD i 0 = i
structure Prof.Sized (m : Prof) : Prop where
  sl : (m.sz.length : Int) = m.s.obj
  bl : m.be.length = m.s.src.length
  hl : m.bh.length = m.t.src.length
  row : ∀ x, x < m.sz.length → ((m.sz.getD x []).length : Int) = m.t.obj
  rng : ∀ x, x < m.sz.length → ∀ y, y < (m.sz.getD x []).length → 0 ≤ (m.sz.getD x []).getD y 0 ∧ (m.sz.getD x []).getD y 0 ≤ 64
def Prof.BeOk (m : Prof) (a y : Nat) : Prop :=
  (((m.be.getD a []).getD y []).length : Int) = (m.sz.getD (m.s.tgt.getD a 0).toNat []).getD y 0 ∧ allIn ((m.be.getD a []).getD y []) ((m.sz.getD (m.s.src.getD a 0).toNat []).getD y 0) = true
def Prof.BhOk (m : Prof) (b x : Nat) : Prop :=
  (((m.bh.getD b []).getD x []).length : Int) = (m.sz.getD x []).getD (m.t.src.getD b 0).toNat 0 ∧ allIn ((m.bh.getD b []).getD x []) ((m.sz.getD x []).getD (m.t.tgt.getD b 0).toNat 0) = true
structure Prof.Maps (m : Prof) : Prop where
  be : ∀ a, a < m.be.length → ((m.be.getD a []).length : Int) = m.t.obj ∧ ∀ y, y < (m.be.getD a []).length → m.BeOk a y
  bh : ∀ b, b < m.bh.length → ((m.bh.getD b []).length : Int) = m.s.obj ∧ ∀ x, x < (m.bh.getD b []).length → m.BhOk b x
structure Prof.Shape (m : Prof) : Prop where
  s : m.s.Is
  t : m.t.Is
  z : m.Sized
  ok : m.Maps
structure Prof.Acts (m : Prof) : Prop where
  idb : ∀ y : Nat, (y : Int) < m.t.obj → ∀ x : Nat, (x : Int) < m.s.obj → NoMove ((m.be.getD (m.s.idn.getD x 0).toNat []).getD y []) ∧ NoMove ((m.bh.getD (m.t.idn.getD y 0).toNat []).getD x [])
  thb : ∀ y : Nat, (y : Int) < m.t.obj → ∀ a : Nat, a < m.s.src.length → ∀ b : Nat, b < m.s.src.length → 0 ≤ (m.s.comp.getD a []).getD b 0 →
    (m.be.getD ((m.s.comp.getD a []).getD b 0).toNat []).getD y [] = thenL ((m.be.getD b []).getD y []) ((m.be.getD a []).getD y [])
  thh : ∀ x : Nat, (x : Int) < m.s.obj → ∀ a : Nat, a < m.t.src.length → ∀ b : Nat, b < m.t.src.length → 0 ≤ (m.t.comp.getD a []).getD b 0 →
    (m.bh.getD ((m.t.comp.getD a []).getD b 0).toNat []).getD x [] = thenL ((m.bh.getD a []).getD x []) ((m.bh.getD b []).getD x [])
def Prof.MixAt (m : Prof) (a b : Nat) : Prop :=
  thenL ((m.be.getD a []).getD (m.t.src.getD b 0).toNat []) ((m.bh.getD b []).getD (m.s.src.getD a 0).toNat []) = thenL ((m.bh.getD b []).getD (m.s.tgt.getD a 0).toNat []) ((m.be.getD a []).getD (m.t.tgt.getD b 0).toNat [])
def Prof.Mix (m : Prof) : Prop := ∀ a, a < m.s.src.length → ∀ b, b < m.t.src.length → m.MixAt a b
def Prof.Is (m : Prof) : Prop := m.Shape ∧ m.Acts ∧ m.Mix

def sumN (f : Nat → Int) : Nat → Int
  | 0 => 0
  | n + 1 => sumN f n + f n
def Prof.diag (m : Prof) (i : Nat) : Int := (m.sz.getD i []).getD i 0
noncomputable def Prof.code (m : Prof) : Int := bif B m.Is then (bif B (m.s = m.t) then 0 else 5) else 1
noncomputable def Prof.place (m : Prof) (x e : Int) : Int × Int := bif B (m.code = 0) then (bif B (0 ≤ x ∧ x < m.s.obj ∧ 0 ≤ e ∧ e < m.diag x.toNat) then (sumN m.diag x.toNat + e, 0) else (0, 2)) else (0, m.code)
abbrev L3 := List (List (List Int))
def Prof.CoOk (m n : Prof) (c : L3) (x y : Nat) : Prop := (((c.getD x []).getD y []).length : Int) = (m.sz.getD x []).getD y 0 ∧ allIn ((c.getD x []).getD y []) ((n.sz.getD x []).getD y 0) = true
structure Prof.Rows (m n : Prof) (c : L3) : Prop where
  cl : (c.length : Int) = m.s.obj
  row : ∀ x, x < c.length → ((c.getD x []).length : Int) = m.t.obj ∧ ∀ y, y < (c.getD x []).length → m.CoOk n c x y
def Prof.NatB (m n : Prof) (c : L3) (a y : Nat) : Prop :=
  thenL ((m.be.getD a []).getD y []) ((c.getD (m.s.src.getD a 0).toNat []).getD y []) = thenL ((c.getD (m.s.tgt.getD a 0).toNat []).getD y []) ((n.be.getD a []).getD y [])
def Prof.NatH (m n : Prof) (c : L3) (b x : Nat) : Prop :=
  thenL ((m.bh.getD b []).getD x []) ((c.getD x []).getD (m.t.tgt.getD b 0).toNat []) = thenL ((c.getD x []).getD (m.t.src.getD b 0).toNat []) ((n.bh.getD b []).getD x [])
structure Prof.IsMap (m n : Prof) (c : L3) : Prop where
  rows : m.Rows n c
  nb : ∀ a, a < m.s.src.length → ∀ y : Nat, (y : Int) < m.t.obj → m.NatB n c a y
  nh : ∀ b, b < m.t.src.length → ∀ x : Nat, (x : Int) < m.s.obj → m.NatH n c b x
end Go.GL
namespace Go.GL

structure StM (lo hi : Nat) (H H' : GHeap) : Prop where
  nx : H.next ≤ H'.next
  same : ∀ k o, ¬ (lo ≤ k ∧ k < hi) → H.get k = some o → H'.get k = some o
  ins : ∀ k o, H.get k = some o → ∃ o', H'.get k = some o' ∧ (o' = o ∨ ∃ xs ys e, o = .row (ints xs) e true ∧ o' = .row (ints ys) e true ∧ ys.length = xs.length)
def sumL : List (List Int) → Nat
  | [] => 0
  | xs :: r => xs.length + sumL r
theorem sumL_le {m : Nat} : ∀ {xss : List (List Int)}, (∀ i, (xss.getD i []).length ≤ m) → sumL xss ≤ xss.length * m
  | [], _ => by simp [sumL]
  | x :: r, h => by
    have h0 := h 0
    have := sumL_le (xss := r) fun i => by simpa using h (i + 1)
    simp only [sumL, List.length_cons, Nat.add_mul]
    simp at h0
    omega
def Cat.total (c : Cat) : Nat := c.src.length + (c.tgt.length + (c.idn.length + sumL c.comp))
def Fun.total (f : Fun) : Nat := f.s.total + (f.t.total + (f.ob.length + f.ar.length))
def Con.total (c : Con) : Nat := c.lg.length
def seqL (k : Int) (n : Nat) : List Int := (List.range n).map fun (i : Nat) => k + (i : Int)
abbrev Leaf := Option Addr × Nat
def lvBlk : Leaf → List Nat
  | (some a, _ + 1) => [a.block]
  | _ => []
def lvBlks (ls : List Leaf) : List Nat := ls.flatMap lvBlk
def Held (b : Nat) (H : GHeap) : List Leaf → Int → Prop
  | [], _ => True
  | l :: r, k => (l.2 = 0 ∨ ∃ g e, l.1 = some ⟨g, 0, none⟩ ∧ b ≤ g ∧ H.get g = some (.row (ints (seqL k l.2)) e true)) ∧ Held b H r (k + l.2)
structure StB (bs : List Nat) (H H' : GHeap) : Prop where
  nx : H.next ≤ H'.next
  same : ∀ k o, ¬ k ∈ bs → H.get k = some o → H'.get k = some o
def Con.leaves (c : Con) (p : ConP) : List Leaf := [(p.a1, c.lg.length)]
structure Marked (lo hi : Nat) (H H' : GHeap) (ls : List Leaf) (k : Int) : Prop where
  stm : StM lo hi H H'
  stb : StB (lvBlks ls) H H'
  held : (lvBlks ls).Nodup → Held lo H' ls k
def rowsL (r : Nat → Option Addr) (xss : List (List Int)) (n : Nat) : List Leaf := (List.range n).map fun i => (r i, (xss.getD i []).length)
def Cat.leaves (c : Cat) (p : CatP) : List Leaf := [(p.a1, c.src.length)] ++ ([(p.a2, c.tgt.length)] ++ ([(p.a3, c.idn.length)] ++ rowsL p.r c.comp c.comp.length))
def Fun.leaves (f : Fun) (p : FunP) : List Leaf := f.s.leaves p.s ++ (f.t.leaves p.t ++ ([(p.b1, f.ob.length)] ++ [(p.b2, f.ar.length)]))
theorem Cat.total_le {c : Cat} (h : c.Small) : c.total ≤ 3 * 1048576 + 1048576 * 1048576 := by
  obtain ⟨h1, h2, h3, h4, h5, _⟩ := h
  have := sumL_le (m := 1048576) h5
  have h6 : c.comp.length * 1048576 ≤ 1048576 * 1048576 := Nat.mul_le_mul_right _ h4
  unfold Cat.total
  omega
theorem Cat.Small.tot {c : Cat} (h : c.Small) : c.total ≤ 3 * 1048576 + 1048576 * 1048576 := Cat.total_le h
theorem Fun.Small.tot {c : Fun} (h : c.Small) : c.total ≤ 8 * 1048576 + 2 * 1048576 * 1048576 := by
  obtain ⟨h1, h2, h3, h4⟩ := h
  have := h1.tot
  have := h2.tot
  unfold Fun.total
  omega
end Go.GL
namespace Go.GL

structure Fun.Cone (d : Fun) (p : Con) : Prop where
  ap : 0 ≤ p.ap ∧ p.ap < d.t.obj
  ll : p.lg.length = d.ob.length
  lg : ∀ j, j < p.lg.length → 0 ≤ p.lg.getD j 0 ∧ p.lg.getD j 0 < d.t.src.length
  ends : ∀ j, j < p.lg.length → d.t.src.getD (p.lg.getD j 0).toNat 0 = p.ap ∧ d.t.tgt.getD (p.lg.getD j 0).toNat 0 = d.ob.getD j 0
  tri : ∀ a, a < d.ar.length → d.t.th (p.lg.getD (d.s.src.getD a 0).toNat 0) (d.ar.getD a 0) = p.lg.getD (d.s.tgt.getD a 0).toNat 0
def Con.zero : Con := ⟨0, []⟩
end Go.GL
namespace Go.GL

def Rising (xs : List Int) : Prop := ∀ i, 1 ≤ i → i < xs.length → xs.getD (i - 1) 0 < xs.getD i 0
structure SFun.Part (f : SFun) (me : List (List Int)) : Prop where
  pl : me.length = f.sz.length
  rs : ∀ x, x < me.length → Rising (me.getD x []) ∧ allIn (me.getD x []) (f.sz.getD x 0) = true
  cl : ∀ a, a < f.ac.length → ∀ i, i < (me.getD (f.sh.src.getD a 0).toNat []).length → (me.getD (f.sh.tgt.getD a 0).toNat []).contains ((f.ac.getD a []).getD ((me.getD (f.sh.src.getD a 0).toNat []).getD i 0).toNat 0) = true
end Go.GL
namespace Go.GL

def SFun.total (f : SFun) : Nat := f.sh.total + (f.sz.length + sumL f.ac)
def SFun.leaves (f : SFun) (p : SFunP) : List Leaf := f.sh.leaves p.sh ++ ([(p.a1, f.sz.length)] ++ rowsL p.r2 f.ac f.ac.length)
def SMap.total (f : SMap) : Nat := f.s.total + (f.t.total + sumL f.pa)
def SMap.leaves (f : SMap) (p : SMapP) : List Leaf := f.s.leaves p.s ++ (f.t.leaves p.t ++ rowsL p.r2 f.pa f.pa.length)
def Prt.total (f : Prt) : Nat := sumL f.me
def Prt.leaves (f : Prt) (p : PrtP) : List Leaf := rowsL p.r0 f.me f.me.length
def slsOf (r : Nat → Option Addr) (X : Nat → List Int) (k : Nat) : List Value := (List.range k).map fun i => .slice (r i) (X i).length (X i).length
structure OwnRows (b : Nat) (H : GHeap) (e : TypeId) (r : Nat → Option Addr) (X : Nat → List Int) (k : Nat) : Prop where
  row : ∀ i, i < k → ∃ g, r i = some ⟨g, 0, none⟩ ∧ b ≤ g ∧ H.get g = some (.row (ints (X i)) e true)
  inj : ∀ i j, i < k → j < k → r i = r j → i = j
def rowsOf (X : Nat → List Int) (n : Nat) : List (List Int) := (List.range n).map X
section
variable {P : Program} {o : Oper} {fr : Slots} {H : GHeap}
end
def SMap.backX (m : SMap) (me : List (List Int)) (x : Nat) : List Int := filtN (m.pa.getD x []).length fun e => (me.getD x []).contains ((m.pa.getD x []).getD e 0)
def SMap.backR (m : SMap) (me : List (List Int)) : List (List Int) := rowsOf (m.backX me) m.pa.length
noncomputable def SMap.back (m : SMap) (me : List (List Int)) : Prt := ⟨bif B (m.Is ∧ m.t.Part me) then m.backR me else []⟩
def SFun.pick (f : SFun) (Y : Nat → Nat → Bool) : Prt := ⟨rowsOf (fun x => filtN (f.sz.getD x 0).toNat (Y x)) f.sz.length⟩
end Go.GL
namespace Go.GL
def slsL (r : Nat → Option Addr) (xss : List (List Int)) : List Value := slsOf r (fun i => xss.getD i []) xss.length
def OwnL (b : Nat) (H : GHeap) (e : TypeId) (r : Nat → Option Addr) (xss : List (List Int)) : Prop := OwnRows b H e r (fun i => xss.getD i []) xss.length
def nestL {α : Type} (pr : Nat → Nat → α) (sz : Nat → Nat) (k t : Nat) : List α := (List.range k).flatMap (fun a => (List.range (sz a)).map (pr a)) ++ (List.range t).map (pr k)
theorem nestL_zero {α : Type} (pr : Nat → Nat → α) (sz : Nat → Nat) : nestL pr sz 0 0 = [] := rfl
theorem nestL_snoc {α : Type} {pr : Nat → Nat → α} {sz : Nat → Nat} {k t : Nat} : nestL pr sz k (t + 1) = nestL pr sz k t ++ [pr k t] := by
  unfold nestL
  rw [List.range_succ, List.map_append, ← List.append_assoc]
  rfl
theorem nestL_next {α : Type} {pr : Nat → Nat → α} {sz : Nat → Nat} {k : Nat} : nestL pr sz (k + 1) 0 = nestL pr sz k (sz k) := by
  unfold nestL
  rw [List.range_succ, List.flatMap_append]
  simp
theorem nestL_length {α : Type} {pr : Nat → Nat → α} {sz : Nat → Nat} {c : Nat} : ∀ {k}, (∀ a, a < k → sz a ≤ c) → (nestL pr sz k 0).length ≤ k * c
  | 0, _ => by simp [nestL]
  | k + 1, h => by
    have ih := nestL_length (pr := pr) (sz := sz) (c := c) (k := k) fun a ha => h a (by omega)
    have := h k (by omega)
    rw [nestL_next]
    simp only [nestL, List.length_append, List.length_map, List.length_range, List.range_zero, List.map_nil, List.append_nil] at ih ⊢
    rw [Nat.add_mul]
    omega
def nest3 {α : Type} (pr : Nat → Nat → Nat → α) (s1 : Nat → Nat) (s2 : Nat → Nat → Nat) (k t u : Nat) : List α := (List.range k).flatMap (fun a => nestL (pr a) (s2 a) (s1 a) 0) ++ nestL (pr k) (s2 k) t u
theorem nest3_snoc {α : Type} {pr : Nat → Nat → Nat → α} {s1 : Nat → Nat} {s2 : Nat → Nat → Nat} {k t u : Nat} : nest3 pr s1 s2 k t (u + 1) = nest3 pr s1 s2 k t u ++ [pr k t u] := by
  unfold nest3
  rw [nestL_snoc, List.append_assoc]
theorem nest3_next2 {α : Type} {pr : Nat → Nat → Nat → α} {s1 : Nat → Nat} {s2 : Nat → Nat → Nat} {k t : Nat} : nest3 pr s1 s2 k (t + 1) 0 = nest3 pr s1 s2 k t (s2 k t) := by
  unfold nest3
  rw [nestL_next]
theorem nest3_next1 {α : Type} {pr : Nat → Nat → Nat → α} {s1 : Nat → Nat} {s2 : Nat → Nat → Nat} {k : Nat} : nest3 pr s1 s2 (k + 1) 0 0 = nest3 pr s1 s2 k (s1 k) 0 := by
  unfold nest3
  rw [List.range_succ, List.flatMap_append]
  simp [nestL_zero]
theorem flatMap_len {α : Type} {f : Nat → List α} {c : Nat} : ∀ {k}, (∀ a, a < k → (f a).length ≤ c) → ((List.range k).flatMap f).length ≤ k * c
  | 0, _ => by simp
  | k + 1, h => by
    have ih := flatMap_len (f := f) (c := c) (k := k) fun a ha => h a (by omega)
    have := h k (by omega)
    rw [List.range_succ, List.flatMap_append, List.length_append, Nat.add_mul]
    simp only [List.flatMap_cons, List.flatMap_nil, List.append_nil]
    omega
theorem nest3_all {α : Type} {pr : Nat → Nat → Nat → α} {s1 : Nat → Nat} {s2 : Nat → Nat → Nat} {c d n : Nat} (h1 : ∀ a, a < n → s1 a ≤ d) (h2 : ∀ a, a < n → ∀ b, b < s1 a → s2 a b ≤ c) : (nest3 pr s1 s2 n 0 0).length ≤ n * (d * c) := by
  unfold nest3
  rw [nestL_zero, List.append_nil]
  exact flatMap_len fun a ha => by
    have r1 := nestL_length (pr := pr a) (sz := s2 a) (c := c) (k := s1 a) fun b hb => h2 a ha b hb
    exact Nat.le_trans r1 (Nat.mul_le_mul_right _ (h1 a ha))
def Cat.zero : Cat := ⟨0, [], [], [], []⟩
def CatP.zero : CatP := ⟨none, none, none, none, fun _ => none⟩
end Go.GL
namespace Go.GL
end Go.GL
namespace Go.GL
def ctPr (y e d : Nat) : List Int := [(y : Int), (e : Int), (d : Int)]
def ctL (p q : Prof) (x z : Int) (y e d : Nat) : List (List Int) := nest3 ctPr (fun y => ((p.sz.getD x.toNat []).getD y 0).toNat) (fun y _ => ((q.sz.getD y []).getD z.toNat 0).toNat) y e d
structure CtOk (p q : Prof) (x z : Int) (n : Nat) : Prop where
  n8 : n ≤ 8
  x0 : 0 ≤ x
  xl : x.toNat < p.sz.length
  z0 : 0 ≤ z
  pn : ((p.sz.getD x.toNat []).length : Int) = n
  qn : (q.sz.length : Int) = n
  pe : ∀ y, y < n → 0 ≤ (p.sz.getD x.toNat []).getD y 0 ∧ (p.sz.getD x.toNat []).getD y 0 ≤ 64
  qe : ∀ y, y < n → z.toNat < (q.sz.getD y []).length ∧ 0 ≤ (q.sz.getD y []).getD z.toNat 0 ∧ (q.sz.getD y []).getD z.toNat 0 ≤ 64
def tcells (xss : List (List Int)) : List Value := xss.flatMap ints
structure TrAt (b : Nat) (H : GHeap) (g : Nat) (xss : List (List Int)) : Prop where
  lo : b ≤ g
  three : ∀ x ∈ xss, x.length = 3
  at' : ∃ e, H.get g = some (.row (tcells xss) e true)
end Go.GL
namespace Go.GL
open Go.RowKit
section
variable {P : Program} {B : Nat} {w0 : World} {ρ : Place} {H : GHeap} {w : World} {fr : Slots} {o : Oper} {R : Option Value → GHeap → Prop}
end
end Go.GL
namespace Go.GL
def least (K : Nat → Nat → Bool) (i : Nat) : Nat := ((List.range i).find? fun j => K j i).getD i
def reps (K : Nat → Nat → Bool) (m : Nat) : Nat := ((List.range m).filter fun j => least K j == j).length
def clsAt (K : Nat → Nat → Bool) (i : Nat) : Int := (reps K (least K i) : Int)
def clsL (K : Nat → Nat → Bool) (n : Nat) : List Int := (List.range n).map (clsAt K)
structure Eqv (K : Nat → Nat → Bool) (n : Nat) : Prop where
  rf : ∀ a, a < n → K a a = true
  sy : ∀ a b, a < n → b < n → K a b = true → K b a = true
  tr : ∀ a b c, a < n → b < n → c < n → K a b = true → K b c = true → K a c = true
def kerB (xs : List Int) (a b : Nat) : Bool := xs.getD a 0 == xs.getD b 0
structure Forest (j : List Int) : Prop where
  up : ∀ x, x < j.length → 0 ≤ j.getD x 0 ∧ j.getD x 0 ≤ (x : Int)
end Go.GL
namespace Go.GL
def u8s (ns : List Int) : List Value := ns.map (Value.int .u8)
theorem u8_cells {H : GHeap} {g : Nat} {ns : List Int} {e : TypeId} {own : Bool} (h : H.get g = some (.row (u8s ns) e own)) : ∀ i v, ns[i]? = some v → H.cell g (0 + i) = some (.int .u8 v) := fun i v hv => by
  rw [GHeap.cell_of h, Nat.zero_add]
  unfold u8s
  rw [List.getElem?_map, hv]; rfl
theorem bytesOf_data (ns : List Int) : (bytesOf ns).data.toList = ns.map fun n => UInt8.ofNat n.toNat := by
  have key : ∀ (ns : List Int) (s : ByteArray), (ns.foldl (fun r n => r.push (UInt8.ofNat n.toNat)) s).data.toList = s.data.toList ++ ns.map fun n => UInt8.ofNat n.toNat := by
    intro ns
    induction ns with
    | nil => intro s; simp
    | cons n ns ih => intro s; rw [List.foldl_cons, ih]; simp [ByteArray.push]
  unfold bytesOf
  rw [key]; simp
def idxLL (xss : List (List Int)) (t : List Int) : Int := match firstN xss.length fun i => xss.getD i [] == t with | some i => (i : Int) | none => -1
structure Keys (n : Nat) (xss : List (List Int)) : Prop where
  nd : xss.Nodup
  ok : ∀ t ∈ xss, t.length = n ∧ ∀ i, i < n → 0 ≤ t.getD i 0 ∧ t.getD i 0 ≤ 255
end Go.GL
namespace Go.GL
abbrev rep (xs : List Int) (k : Nat) : Nat := least (kerB xs) k
abbrev Cat.tn (c : Cat) (a b : Nat) : Nat := ((c.comp.getD a []).getD b 0).toNat
def Cat.ParOk (c : Cat) (xs : List Int) : Prop := ∀ k, k < c.src.length → c.src.getD (rep xs k) 0 = c.src.getD k 0 ∧ c.tgt.getD (rep xs k) 0 = c.tgt.getD k 0
def Cat.CmpOk (c : Cat) (xs : List Int) : Prop := ∀ i, i < c.src.length → ∀ j, j < c.src.length → c.tgt.getD i 0 = c.src.getD j 0 → xs.getD (c.tn i j) 0 = xs.getD (c.tn (rep xs i) (rep xs j)) 0
structure Cat.Cong (c : Cat) (xs : List Int) : Prop where
  len : xs.length = c.src.length
  nor : clsL (kerB xs) xs.length = xs
  par : c.ParOk xs
  cmp : c.CmpOk xs

end Go.GL
namespace Go.GL
def repL (xs : List Int) (n : Nat) : List Nat := (List.range n).filter fun i => rep xs i == i
def Cat.quoX (c : Cat) (xs : List Int) (i j : Nat) : Int := if 0 ≤ (c.comp.getD i []).getD j 0 then xs.getD ((c.comp.getD i []).getD j 0).toNat 0 else (c.comp.getD i []).getD j 0
def Cat.quo (c : Cat) (xs : List Int) : Cat where
  obj := c.obj
  src := (repL xs xs.length).map fun i => c.src.getD i 0
  tgt := (repL xs xs.length).map fun i => c.tgt.getD i 0
  idn := c.idn.map fun a => xs.getD a.toNat 0
  comp := (repL xs xs.length).map fun i => (repL xs xs.length).map fun j => c.quoX xs i j

end Go.GL
namespace Go.GL
end Go.GL
namespace Go.GL
end Go.GL
