/- What a caller hands in, brought into a ghost heap; the last step of a row that says 'true, and the arguments read as they did'. No condition. -/
import Derived.Test.YtddjdkpjfpnjiaaZ6
import Derived.Below
import Derived.ChangeSame
import Derived.ChangeSlices
import Derived.Deep.Slices
import Derived.Deep.Matrix
import Derived.WideKeyArgs
set_option linter.unusedSectionVars false
namespace Go.GL
open Go.RowKit Go.WideShapes Go.ChangeShapes Go.Deep
variable [MainFlag]

def GHeap.gap (H : GHeap) : GHeap := ⟨H.objs ++ [none]⟩
@[simp] theorem GHeap.next_gap (H : GHeap) : H.gap.next = H.next + 1 := by simp [GHeap.next, GHeap.gap]
theorem GHeap.get_gap (H : GHeap) (g : Nat) : H.gap.get g = H.get g := by
  unfold GHeap.get GHeap.gap
  simp only
  rcases Nat.lt_or_ge g H.objs.length with hl | hl
  · rw [List.getElem?_append_left hl]
  · rw [List.getElem?_append_right hl, List.getElem?_eq_none hl]
    rcases Nat.eq_zero_or_pos (g - H.objs.length) with e | e
    · rw [e]; rfl
    · rw [List.getElem?_eq_none (by simp; omega)]
theorem GHeap.le_gap (H : GHeap) : H.Le H.gap := ⟨by simp, fun g o h => by rw [GHeap.get_gap]; exact h⟩

section
variable {P : Program} {B : Nat} {w0 : World} {ρ : Place} {H : GHeap} {w : World}

theorem Sim.start (P : Program) (W : World) : Sim P W.heap.size W (fun _ => none) ⟨[]⟩ W :=
  ⟨fun _ _ => rfl, fun g o h => by simp [GHeap.get] at h, fun g g' o o' s s' h => by simp [GHeap.get] at h, Nat.le_refl _, .refl _ _⟩

theorem Sim.gap (hs : Sim P B w0 ρ H w) (s : Spot) : Sim P B w0 (place ρ H.next s) H.gap w ∧ Ext ρ (place ρ H.next s) := by
  have hext : Ext ρ (place ρ H.next s) := place_ext (hs.dom _ (Nat.le_refl _))
  refine ⟨⟨fun g hg => ?_, fun g o hg => ?_, fun g g' o o' t t' h1 h2 h3 h4 h5 h6 h7 => ?_, hs.base, hs.below⟩, hext⟩
  · simp at hg
    unfold place
    rw [if_neg (by omega)]
    exact hs.dom g (by omega)
  · rw [GHeap.get_gap] at hg
    exact (hs.live g o hg).keep hext fun _ _ => rfl
  · rw [GHeap.get_gap] at h1 h2
    have e1 := GHeap.ltg h1
    have e2 := GHeap.ltg h2
    unfold place at h6 h7
    rw [if_neg (by omega)] at h6 h7
    exact hs.apart g g' o o' t t' h1 h2 h3 h4 h5 h6 h7

theorem Sim.look (hs : Sim P B w0 ρ H w) {b : Nat} {C : Array Value} {e : TypeId} {fz : Nat × Nat} (hb : b < B) (hw : w.heap[b]? = some (.cells C e fz)) {off k : Nat} {vs : List Value} (hl : off + vs.length ≤ C.size)
    (hv : ∀ (i : Nat) (v : Value), vs[i]? = some v → ∃ c, C[off + i]? = some c ∧ VRel ρ v c) :
    Sim P B w0 (place ρ H.next ⟨b, off, C.size, k⟩) (H.push (.row vs e false)) w ∧ Ext ρ (place ρ H.next ⟨b, off, C.size, k⟩) := by
  have hext : Ext ρ (place ρ H.next ⟨b, off, C.size, k⟩) := place_ext (hs.dom _ (Nat.le_refl _))
  refine ⟨⟨fun g hg => ?_, fun g o hg => ?_, fun g g' o o' t t' h1 h2 h3 h4 h5 h6 h7 => ?_, hs.base, hs.below⟩, hext⟩
  · simp at hg
    unfold place
    rw [if_neg (by omega)]
    exact hs.dom g (by omega)
  · rcases Nat.lt_or_ge g H.next with hlt | hge
    · rw [GHeap.get_push_lt hlt] at hg
      exact (hs.live g o hg).keep hext fun _ _ => rfl
    · have hg' : g = H.next := by have := GHeap.ltg hg; simp at this; omega
      subst hg'
      rw [GHeap.get_push_new] at hg
      cases hg
      exact ⟨_, C, fz, place_self, hw, rfl, hl, fun i v h => let ⟨c, h1, h2⟩ := hv i v h; ⟨c, h1, h2.mono hext⟩, fun h => (by cases h), fun _ => hb, fun h => (by cases h)⟩
  · have old : ∀ {k' : Nat} {x : GObj}, (H.push (.row vs e false)).get k' = some x → x.isOwn = true → k' < H.next ∧ H.get k' = some x := by
      intro k' x hx ho
      have hk := GHeap.ltg hx
      simp at hk
      rcases Nat.lt_or_ge k' H.next with hlt | hge
      · rw [GHeap.get_push_lt hlt] at hx; exact ⟨hlt, hx⟩
      · obtain rfl : k' = H.next := by omega
        rw [GHeap.get_push_new] at hx
        cases hx
        cases ho
    obtain ⟨a1, a2⟩ := old h1 h3
    obtain ⟨b1, b2⟩ := old h2 h4
    unfold place at h6 h7
    rw [if_neg (by omega)] at h6 h7
    exact hs.apart g g' o o' t t' a2 b2 h3 h4 h5 h6 h7

theorem Sim.list (hs : Sim P B w0 ρ H w) (hB : w.heap.size ≤ B) {a : Addr} {len cap : Nat} {V : Nat → Value} (hl : len ≤ cap) (hm : cap ≤ maxLen) (hcell : ∀ i, i < cap → w.cell? (a.add i) = some (V i)) {f : Nat → Value}
    (hf : ∀ i, i < len → VRel ρ (f i) (V i)) :
    ∃ a' ρ' H', Sim P B w0 ρ' H' w ∧ Ext ρ ρ' ∧ H.Le H' ∧ VRel ρ' (.slice a' len len) (.slice (some a) len cap) ∧ SlA H' a' len f := by
  rcases Nat.eq_zero_or_pos cap with e | hp
  · subst e
    obtain rfl : len = 0 := by omega
    obtain ⟨h1, h2⟩ := hs.gap ⟨0, 0, 0, 0⟩
    exact ⟨some ⟨H.next, 0, none⟩, _, _, h1, h2, H.le_gap, .empty place_self, .inl rfl⟩
  · have h0 := hcell 0 hp
    have hsp := World.cell?_spot h0
    obtain ⟨b, off, sp⟩ := a
    have hadd : ∀ i, (Addr.mk b off none).add i = ⟨b, off + i, none⟩ := fun i => by
      unfold Addr.add
      split
      · rename_i h; subst h; rfl
      · rfl
    obtain rfl : sp = none := by simpa [Addr.add] using hsp
    rw [hadd] at h0
    have hblk : ∃ C e fz, w.heap[b]? = some (.cells C e fz) := by
      unfold World.cell? at h0
      split at h0
      · exact ⟨_, _, _, by assumption⟩
      · cases h0
    obtain ⟨C, e, fz, hC⟩ := hblk
    have hc : ∀ i, i < cap → C[off + i]? = some (V i) := fun i hi => by
      have := hcell i hi
      rw [hadd] at this
      simpa [World.cell?, hC] using this
    have hsz : off + cap ≤ C.size := by
      have := (Array.getElem?_eq_some_iff.1 (hc (cap - 1) (by omega))).1
      omega
    have hbl : b < B := by
      have : b < w.heap.size := (Array.getElem?_eq_some_iff.1 hC).1
      omega
    obtain ⟨h1, h2⟩ := hs.look hbl hC (off := off) (k := 1) (vs := (List.range len).map f) (by simp; omega) (fun i v hv => by
      simp only [List.getElem?_map, Option.map_eq_some_iff] at hv
      obtain ⟨j, hj, rfl⟩ := hv
      have hj' := List.getElem?_eq_some_iff.1 hj
      simp at hj'
      obtain ⟨hi, rfl⟩ := hj'
      exact ⟨_, hc i (by omega), hf i hi⟩)
    refine ⟨some ⟨H.next, 0, none⟩, _, _, h1, h2, GHeap.le_push _ _, ?_, .inr ⟨H.next, 0, rfl, fun i hi => ?_⟩⟩
    · have := VRel.slice (ρ := place ρ H.next ⟨b, off, C.size, 1⟩) (g := H.next) (o := 0) (n := len) (cap := cap) place_self hl (by simp only; omega) hm
      simpa using this
    · rw [GHeap.cell_of (GHeap.get_push_new _ _)]
      simp [hi]
end

def i64T (P : Program) (t : TypeId) : Bool := match P.underlying t with | some (.int .i64) => true | _ => false
def intsT (P : Program) (t : TypeId) : Bool := match P.underlying t with | some (.slice e) => i64T P e && (P.cellsOf e == 1) | _ => false
def intssT (P : Program) (t : TypeId) : Bool := match P.underlying t with | some (.slice e) => intsT P e && (P.cellsOf e == 1) | _ => false
theorem i64T_run {P : Program} {t : TypeId} (h : i64T P t = true) : P.underlying t = some (.int .i64) := by
  unfold i64T at h
  split at h
  · assumption
  · cases h
theorem intsT_run {P : Program} {t : TypeId} (h : intsT P t = true) : ∃ e, P.underlying t = some (.slice e) ∧ P.underlying e = some (.int .i64) ∧ P.cellsOf e = 1 := by
  unfold intsT at h
  split at h
  · simp only [Bool.and_eq_true, beq_iff_eq] at h
    exact ⟨_, by assumption, i64T_run h.1, h.2⟩
  · cases h
theorem intssT_run {P : Program} {t : TypeId} (h : intssT P t = true) : ∃ e, P.underlying t = some (.slice e) ∧ intsT P e = true ∧ P.cellsOf e = 1 := by
  unfold intssT at h
  split at h
  · simp only [Bool.and_eq_true, beq_iff_eq] at h
    exact ⟨_, by assumption, h.1, h.2⟩
  · cases h

def Imports (P : Program) (t : TypeId) (R : Place → GHeap → List Value → Prop) : Prop :=
  ∀ {T : Type} {enc : TypeId × Value → T} {B : Nat} {w0 : World} {ρ : Place} {H : GHeap} {w : World} {held : Bool} {fuel : Nat} {cs : List Value} {x : DataW T × List MemPlace}, Sim P B w0 ρ H w → w.heap.size ≤ B →
    DataW.trod enc P w 0 (fun _ => true) held fuel t cs = some x → ∃ ρ' H', Sim P B w0 ρ' H' w ∧ Ext ρ ρ' ∧ H.Le H' ∧ R ρ' H' cs

def I64 (n : Int) : Prop := -9223372036854775808 ≤ n ∧ n ≤ 9223372036854775807
theorem I64.of_wf {n : Int} (h : (Lit.int .i64 n).wf = true) : I64 n := by
  simp [Lit.wf, IntKind.min, IntKind.max, IntKind.signed, IntKind.bits] at h
  exact ⟨by omega, by omega⟩
def I64s (xs : List Int) : Prop := xs.length ≤ 9223372036854775807 ∧ ∀ i, I64 (xs.getD i 0)

def RInt (_ : Place) (_ : GHeap) (cs : List Value) : Prop := ∃ n, cs = [.int .i64 n] ∧ I64 n
def RInts (ρ : Place) (H : GHeap) (cs : List Value) : Prop := ∃ a xs c, cs = [c] ∧ VRel ρ (.slice a xs.length xs.length) c ∧ Ints H a xs ∧ I64s xs
def RIntss (ρ : Place) (H : GHeap) (cs : List Value) : Prop := ∃ a xss r c, cs = [c] ∧ VRel ρ (.slice a xss.length xss.length) c ∧ Intss H a xss r ∧ xss.length ≤ 9223372036854775807 ∧ ∀ i, I64s (xss.getD i [])

theorem import_int {P : Program} {t : TypeId} (ht : i64T P t = true) : Imports P t RInt := by
  intro T enc B w0 ρ H w held fuel cs x hs hB h
  obtain ⟨n, h1, _, h3⟩ := DataW.trod_int (i64T_run ht) h
  exact ⟨ρ, H, hs, .refl ρ, .refl H, n, h1, .of_wf h3⟩

theorem take_getD (zs : List Int) {n i : Nat} (hi : i < n) : (zs.take n).getD i 0 = zs.getD i 0 := by
  simp [List.getD_eq_getElem?_getD, List.getElem?_take, hi]
theorem I64s.take {zs : List Int} (h : ∀ n ∈ zs, (Lit.int .i64 n).wf = true) {len : Nat} (hl : (zs.take len).length ≤ 9223372036854775807) : I64s (zs.take len) := by
  refine ⟨hl, fun i => ?_⟩
  rw [List.getD_eq_getElem?_getD]
  cases e : (zs.take len)[i]? with
  | none => simp [I64]
  | some n => exact .of_wf (h n (List.mem_of_mem_take (List.mem_of_getElem? e)))

theorem import_ints {P : Program} {t : TypeId} (ht : intsT P t = true) : Imports P t RInts := by
  intro T enc B w0 ρ H w held fuel cs x hs hB h
  obtain ⟨e, h1, h2, h3⟩ := intsT_run ht
  rcases open_ints h1 h2 h3 h with ⟨rfl, _⟩ | ⟨a, len, cap, zs, rfl, _, hl, hm, hz, _, hc, hw⟩
  · exact ⟨ρ, H, hs, .refl ρ, .refl H, none, [], _, rfl, .nilSlice, .inl rfl, by simp, fun i => by simp [I64]⟩
  · simp only [if_true] at hz
    have hlen : (zs.take len).length = len := by simp; omega
    obtain ⟨a', ρ', H', k1, k2, k3, k4, k5⟩ := hs.list hB (f := fun i => .int .i64 ((zs.take len).getD i 0)) hl hm (fun i hi => hc i (by omega)) (fun i hi => by rw [take_getD zs hi]; exact .int _ _)
    refine ⟨ρ', H', k1, k2, k3, a', zs.take len, _, rfl, by rw [hlen]; exact k4, ?_, .take hw (by rw [hlen]; unfold maxLen at hm; omega)⟩
    unfold Ints
    rw [hlen]
    exact k5

theorem import_intss {P : Program} {t : TypeId} (ht : intssT P t = true) : Imports P t RIntss := by
  intro T enc B w0 ρ H w held fuel cs x hs hB h
  obtain ⟨e, h1, h2, h3⟩ := intssT_run ht
  obtain ⟨q, g1, g2, g3⟩ := intsT_run h2
  rcases open_int_rows h1 g1 g2 h3 g3 h with ⟨rfl, _⟩ | ⟨a, len, cap, A, L, C, Z, rfl, _, hl, hm, _, hr⟩
  · exact ⟨ρ, H, hs, .refl ρ, .refl H, none, [], fun _ => none, _, rfl, .nilSlice, ⟨.inl rfl, fun i hi => by simp at hi⟩, by simp, fun i => by simp [I64s, I64]⟩
  · have hlen : ∀ r, r < cap → ((Z r).take (L r)).length = L r := fun r hi => by
      obtain ⟨_, k2, _, k4, _⟩ := hr r hi
      simp; omega
    have rows : ∀ k, k ≤ len → ∃ ρ' H', Sim P B w0 ρ' H' w ∧ Ext ρ ρ' ∧ H.Le H' ∧ ∃ rr : Nat → Option Addr, ∀ r, r < k → VRel ρ' (.slice (rr r) (L r) (L r)) (.slice (A r) (L r) (C r)) ∧ Ints H' (rr r) ((Z r).take (L r)) := by
      intro k
      induction k with
      | zero => exact fun _ => ⟨ρ, H, hs, .refl ρ, .refl H, fun _ => none, fun r hr => by omega⟩
      | succ k ih =>
        intro hk
        obtain ⟨ρ1, H1, s1, e1, l1, rr, hrr⟩ := ih (by omega)
        obtain ⟨c1, c2, c3, c4, c5, c6, c7⟩ := hr k (by omega)
        have one : ∃ a' ρ2 H2, Sim P B w0 ρ2 H2 w ∧ Ext ρ1 ρ2 ∧ H1.Le H2 ∧ VRel ρ2 (.slice a' (L k) (L k)) (.slice (A k) (L k) (C k)) ∧ Ints H2 a' ((Z k).take (L k)) := by
          cases hA : A k with
          | none =>
            have e0 := c6 hA
            have e2 : L k = 0 := by omega
            rw [e0, e2]
            exact ⟨none, ρ1, H1, s1, .refl _, .refl _, .nilSlice, .inl (by simp)⟩
          | some a' =>
            obtain ⟨_, hc⟩ := c7 a' hA
            obtain ⟨a2, ρ2, H2, k1, k2, k3, k4, k5⟩ := s1.list hB (f := fun i => .int .i64 (((Z k).take (L k)).getD i 0)) c2 c3 hc (fun i hi => by rw [take_getD (Z k) hi]; exact .int _ _)
            refine ⟨a2, ρ2, H2, k1, k2, k3, k4, ?_⟩
            unfold Ints
            rw [hlen k (by omega)]
            exact k5
        obtain ⟨a', ρ2, H2, s2, e2, l2, v2, i2⟩ := one
        refine ⟨ρ2, H2, s2, e1.trans e2, l1.trans l2, fun r => if r = k then a' else rr r, fun r hr' => ?_⟩
        by_cases ek : r = k
        · subst ek; simp only [if_true]; exact ⟨v2, i2⟩
        · simp only [ek, if_false]
          obtain ⟨v1, i1⟩ := hrr r (by omega)
          exact ⟨v1.mono e2, i1.mono l2⟩
    obtain ⟨ρ1, H1, s1, e1, l1, rr, hrr⟩ := rows len (Nat.le_refl _)
    obtain ⟨a', ρ2, H2, k1, k2, k3, k4, k5⟩ := s1.list hB (f := fun r => .slice (rr r) (L r) (L r)) hl hm (fun r hi => (hr r hi).1) (fun r hi => (hrr r hi).1)
    have hx : ((List.range len).map fun r => (Z r).take (L r)).length = len := by simp
    have hg : ∀ r, r < len → ((List.range len).map fun r => (Z r).take (L r)).getD r [] = (Z r).take (L r) := fun r hi => by simp [List.getD_eq_getElem?_getD, hi]
    refine ⟨ρ2, H2, k1, e1.trans k2, l1.trans k3, a', (List.range len).map fun r => (Z r).take (L r), rr, _, rfl, by rw [hx]; exact k4, ⟨?_, fun r hi => ?_⟩, by rw [hx]; unfold maxLen at hm; omega, fun r => ?_⟩
    · rw [hx]
      refine k5.imp id fun ⟨g, off, hga, hc⟩ => ⟨g, off, hga, fun i hi => ?_⟩
      show _ = some (Value.slice (rr i) (((List.range len).map fun r => (Z r).take (L r)).getD i []).length (((List.range len).map fun r => (Z r).take (L r)).getD i []).length)
      rw [hg i hi, hlen i (by omega)]
      exact hc i hi
    · rw [hx] at hi
      rw [hg r hi]
      exact (hrr r hi).2.mono k3
    · by_cases hi : r < len
      · rw [hg r hi]
        obtain ⟨_, c2, c3, c4, c5, _⟩ := hr r (by omega)
        exact .take c5 (by rw [hlen r (by omega)]; unfold maxLen at c3; omega)
      · rw [List.getD_eq_getElem?_getD, List.getElem?_eq_none (by rw [hx]; omega)]
        simp [I64s, I64]

def fieldIs (P : Program) (fs : Array Field) (i off n : Nat) (chk : Program → TypeId → Bool) : Bool :=
  match fs[i]? with
  | some f => (f.offset == off) && (P.cellsOf f.type == n) && chk P f.type
  | none => false
def structIs (P : Program) (t : TypeId) (n m : Nat) (chk : Array Field → Bool) : Bool :=
  match P.underlying t with
  | some (.struct fs) => (P.cellsOf t == n) && (fs.size == m) && chk fs
  | _ => false
theorem structIs_run {P : Program} {t : TypeId} {n m : Nat} {chk : Array Field → Bool} (h : structIs P t n m chk = true) : ∃ fs, P.underlying t = some (.struct fs) ∧ P.cellsOf t = n ∧ fs.size = m ∧ chk fs = true := by
  unfold structIs at h
  split at h
  · simp only [Bool.and_eq_true, beq_iff_eq] at h
    exact ⟨_, by assumption, h.1.1, h.1.2, h.2⟩
  · cases h

section
variable {P : Program} {T : Type} {enc : TypeId × Value → T} {B : Nat} {w0 : World} {ρ : Place} {H : GHeap} {w : World} {held : Bool} {n : Nat} {cs : List Value} {fs : Array Field} {xs : List (DataW T × List MemPlace)}
theorem import_field {i off k : Nat} {chk : Program → TypeId → Bool} {R : Place → GHeap → List Value → Prop} (hI : ∀ t, chk P t = true → Imports P t R) (hfd : fieldIs P fs i off k chk = true) (hx : xs.length = fs.size)
    (hf : ∀ (i : Nat) (f : Field), fs[i]? = some f → DataW.trod enc P w 0 (fun _ => true) held n f.type ((cs.drop f.offset).take (P.cellsOf f.type)) = xs[i]?) (hs : Sim P B w0 ρ H w) (hB : w.heap.size ≤ B) :
    ∃ ρ' H', Sim P B w0 ρ' H' w ∧ Ext ρ ρ' ∧ H.Le H' ∧ R ρ' H' ((cs.drop off).take k) := by
  unfold fieldIs at hfd
  split at hfd
  · rename_i f hfi
    simp only [Bool.and_eq_true, beq_iff_eq] at hfd
    obtain ⟨⟨h1, h2⟩, h3⟩ := hfd
    have hi : i < xs.length := by rw [hx]; exact (Array.getElem?_eq_some_iff.1 hfi).1
    have := hf i f hfi
    rw [List.getElem?_eq_getElem hi, h1, h2] at this
    exact hI _ h3 hs hB this
  · cases hfd
end

def Cat.Wide (c : Cat) : Prop := I64 c.obj ∧ I64s c.src ∧ I64s c.tgt ∧ I64s c.idn ∧ c.comp.length ≤ 9223372036854775807 ∧ ∀ i, I64s (c.comp.getD i [])
def Fun.Wide (f : Fun) : Prop := f.s.Wide ∧ f.t.Wide ∧ I64s f.ob ∧ I64s f.ar
def Tra.Wide (m : Tra) : Prop := m.s.Wide ∧ m.t.Wide ∧ I64s m.co

def catT (P : Program) (t : TypeId) : Bool := structIs P t 5 5 fun fs => fieldIs P fs 0 0 1 i64T && fieldIs P fs 1 1 1 intsT && fieldIs P fs 2 2 1 intsT && fieldIs P fs 3 3 1 intsT && fieldIs P fs 4 4 1 intssT
def funT (P : Program) (t : TypeId) : Bool := structIs P t 12 4 fun fs => fieldIs P fs 0 0 5 catT && fieldIs P fs 1 5 5 catT && fieldIs P fs 2 10 1 intsT && fieldIs P fs 3 11 1 intsT
def RCat (ρ : Place) (H : GHeap) (cs : List Value) : Prop := ∃ (c : Cat) (p : CatP), LRel ρ (c.cells p) cs ∧ c.In H p ∧ c.Wide
def RFun (ρ : Place) (H : GHeap) (cs : List Value) : Prop := ∃ (c : Fun) (p : FunP), LRel ρ (c.cells p) cs ∧ c.In H p ∧ c.Wide
theorem split5 {cs : List Value} {a b c d e : Value} (h0 : (cs.drop 0).take 1 = [a]) (h1 : (cs.drop 1).take 1 = [b]) (h2 : (cs.drop 2).take 1 = [c]) (h3 : (cs.drop 3).take 1 = [d]) (h4 : (cs.drop 4).take 1 = [e]) (hl : cs.length = 5) : cs = [a, b, c, d, e] := by
  match cs, hl with
  | [v0, v1, v2, v3, v4], _ => simp at h0 h1 h2 h3 h4; subst h0; subst h1; subst h2; subst h3; subst h4; rfl

theorem import_cat {P : Program} {t : TypeId} (ht : catT P t = true) : Imports P t RCat := by
  intro T enc B w0 ρ H w held fuel cs x hs hB h
  obtain ⟨fs, g1, g2, g3, g4⟩ := structIs_run ht
  simp only [Bool.and_eq_true] at g4
  obtain ⟨⟨⟨⟨q0, q1⟩, q2⟩, q3⟩, q4⟩ := g4
  obtain ⟨xs, n, _, _, hl, hx, hf⟩ := DataW.trod_struct g1 h
  obtain ⟨ρ0, H0, s0, e0, l0, nobj, r0, w0'⟩ := import_field (fun _ h => import_int h) q0 hx hf hs hB
  obtain ⟨ρ1, H1, s1, e1, l1, a1, x1, c1, r1, v1, i1, w1⟩ := import_field (fun _ h => import_ints h) q1 hx hf s0 hB
  obtain ⟨ρ2, H2, s2, e2, l2, a2, x2, c2, r2, v2, i2, w2⟩ := import_field (fun _ h => import_ints h) q2 hx hf s1 hB
  obtain ⟨ρ3, H3, s3, e3, l3, a3, x3, c3, r3, v3, i3, w3⟩ := import_field (fun _ h => import_ints h) q3 hx hf s2 hB
  obtain ⟨ρ4, H4, s4, e4, l4, a4, x4, rr, c4, r4, v4, i4, w4, w5⟩ := import_field (fun _ h => import_intss h) q4 hx hf s3 hB
  refine ⟨ρ4, H4, s4, e0.trans (e1.trans (e2.trans (e3.trans e4))), l0.trans (l1.trans (l2.trans (l3.trans l4))), ⟨nobj, x1, x2, x3, x4⟩, ⟨a1, a2, a3, a4, rr⟩, ?_, ⟨i1.mono (l2.trans (l3.trans l4)), i2.mono (l3.trans l4), i3.mono l4, i4⟩, ⟨w0', w1, w2, w3, w4, w5⟩⟩
  rw [split5 r0 r1 r2 r3 r4 (by rw [hl, g2])]
  exact .cons (.int _ _) (.cons (v1.mono (e2.trans (e3.trans e4))) (.cons (v2.mono (e3.trans e4)) (.cons (v3.mono e4) (.cons v4 (.nil _)))))

theorem import_fun {P : Program} {t : TypeId} (ht : funT P t = true) : Imports P t RFun := by
  intro T enc B w0 ρ H w held fuel cs x hs hB h
  obtain ⟨fs, g1, g2, g3, g4⟩ := structIs_run ht
  simp only [Bool.and_eq_true] at g4
  obtain ⟨⟨⟨q0, q1⟩, q2⟩, q3⟩ := g4
  obtain ⟨xs, n, _, _, hl, hx, hf⟩ := DataW.trod_struct g1 h
  obtain ⟨ρ0, H0, s0, e0, l0, y0, p0, v0, i0, w0'⟩ := import_field (fun _ h => import_cat h) q0 hx hf hs hB
  obtain ⟨ρ1, H1, s1, e1, l1, y1, p1, v1, i1, w1⟩ := import_field (fun _ h => import_cat h) q1 hx hf s0 hB
  obtain ⟨ρ2, H2, s2, e2, l2, a2, x2, c2, r2, v2, i2, w2⟩ := import_field (fun _ h => import_ints h) q2 hx hf s1 hB
  obtain ⟨ρ3, H3, s3, e3, l3, a3, x3, c3, r3, v3, i3, w3⟩ := import_field (fun _ h => import_ints h) q3 hx hf s2 hB
  refine ⟨ρ3, H3, s3, e0.trans (e1.trans (e2.trans e3)), l0.trans (l1.trans (l2.trans l3)), ⟨y0, y1, x2, x3⟩, ⟨p0, p1, a2, a3⟩, ?_, ⟨i0.mono (l1.trans (l2.trans l3)), i1.mono (l2.trans l3), i2.mono l3, i3⟩, ⟨w0', w1, w2, w3⟩⟩
  have hlen : cs.length = 12 := by rw [hl, g2]
  have e : cs = (cs.drop 0).take 5 ++ ((cs.drop 5).take 5 ++ ((cs.drop 10).take 1 ++ (cs.drop 11).take 1)) := by
    match cs, hlen with
    | [_, _, _, _, _, _, _, _, _, _, _, _], _ => rfl
  rw [e, r2, r3]
  exact (v0.mono (e1.trans (e2.trans e3))).append ((v1.mono (e2.trans e3)).append (.cons (v2.mono e3) (.cons v3 (.nil _))))

def readB (P : Program) (ts : List TypeId) : Bool := ts.all fun t => P.readableRec t && decide (t < P.types.size)

section
variable {T : Type} {enc : TypeId × Value → T} {P : Program}
theorem args_again (hl : laidOutB P = true) {W W' : World} (hb : Below W.heap.size W W') {sp : Nat → Bool} : ∀ {ts : List TypeId} {vs : List Value} {ds : List (DataW T)} {ps : List MemPlace}, readB P ts = true →
    DataW.TrodAll enc P W 0 (fun _ => true) true ts vs ds ps → (∀ p ∈ ps, p.block < W.heap.size) → (∀ p ∈ ps, sp p.block = true) → DataW.TrodAll enc P W' 0 sp true ts vs ds ps
  | [], _, _, _, _, h, _, _ => by
    obtain ⟨rfl, rfl, rfl⟩ := trodAll_nil h
    exact trodAll_mk0
  | t :: ts, _, _, _, hr, h, hlt, hsp => by
    obtain ⟨v, vs, d, ds, p, q, rfl, rfl, rfl, h1, h2⟩ := trodAll_cons h
    simp only [readB, List.all_cons, Bool.and_eq_true, decide_eq_true_eq] at hr
    exact ⟨p, q, WideElems.Trod_stays hl hr.1.1 hr.1.2 h1 (fun x hx => hb.same (hlt x (by simp [hx]))) (fun x hx => hsp x (by simp [hx])),
      args_again hl hb (by simpa only [readB, Bool.and_eq_true] using hr.2) h2 (fun x hx => hlt x (by simp [hx])) (fun x hx => hsp x (by simp [hx])), rfl⟩

theorem law_post {f : Func} {s : ChangeSpec} {apart fresh handsOn again : Bool} {W W' : World} {args : Array Value} {ds gs : List (DataW T)} {before : List MemPlace} {tb : TypeId}
    (hl : laidOutB P = true) (hr : readB P f.params.toList = true) (hv : s.vars = []) (hrt : f.resultTypes = #[tb]) (htb : P.underlying tb = some .bool)
    (hW : DataW.Whole enc P f.params.toList s.vars apart W args.toList ds gs before)
    (hsr : (s.fn T ds).results = [.lit (.bool true)]) (hsa : (s.fn T ds).args = ds) (hsv : (s.fn T ds).vars = []) (hb : Below W.heap.size W W') :
    s.post enc P f apart fresh handsOn again W args (.bool true) W' := by
  have hlt := hW.lt
  have hWW := hW
  obtain ⟨p, q, hA, hV, hpq, hfz, hnd⟩ := hW
  rw [hv] at hV
  obtain ⟨rfl, rfl⟩ := trodVars_none hV
  rw [List.append_nil] at hpq
  obtain rfl := hpq.symm
  have hres : ∀ (b : Nat) (sp : Nat → Bool) (hd : Bool), DataW.TrodAll enc P W' b sp hd f.resultTypes.toList ((Value.bool true).resultList f.resultTypes.size) (s.fn T (ds ++ [])).results [] := fun b sp hd => by
    rw [List.append_nil, hsr, hrt]
    exact trodAll_mk1 (shut_bool htb true)
  have hargs : ∀ sp : Nat → Bool, (∀ x ∈ p, sp x.block = true) → DataW.TrodAll enc P W' 0 sp true f.params.toList args.toList (s.fn T (ds ++ [])).args p := fun sp hsp => by
    rw [List.append_nil, hsa]
    exact args_again hl hb hr hA hlt hsp
  have hvars : ∀ sp : Nat → Bool, DataW.TrodVars enc P W' sp s.vars (s.fn T (ds ++ [])).vars [] := fun sp => by
    rw [List.append_nil, hsv, hv]
    rfl
  have hok : ∀ (j : Nat) (t : TypeId) (r : Value), f.resultTypes[j]? = some t → ((Value.bool true).resultList f.resultTypes.size)[j]? = some r → Value.okWide P W' .any 0 t r := ok_one hrt rfl (okWide_bool_mk htb true)
  refine ⟨ds, [], p, [], p, [], hWW, hres _ _ _, hargs _ fun x hx => by simpa using hlt x hx, hvars _, hb.frame _, fun _ => ⟨hok, _, _, ([] ++ p) ++ [], ⟨[] ++ p, [], trodAll_append (hargs (fun _ => true) fun _ _ => rfl) (hres _ _ _), hvars (fun _ => true), rfl, ?_, ?_⟩, ?_⟩⟩
  · intro b off hp
    have hin : MemPlace.cell b off ∈ p := by simpa using hp
    rw [hb.frozen (hlt _ hin)]
    exact hfz b off hin
  · intro ha
    simpa using hnd ha
  · intro x hx _
    simpa using hx
end

def SzR (left : Int) (p : Prop) (H : GHeap) : Value → GHeap → Prop := fun v H' => H' = H ∧ ∃ l, v = .int .i64 l ∧ -1 ≤ l ∧ l ≤ left ∧ (0 ≤ l → p)
theorem SzR.of {P : Program} {f : FuncId} {args : List Value} {H : GHeap} {left : Int} {p : Prop} (h : GCalls P f args H fun v H' => H.Le H' ∧ ∃ l, v = .int .i64 l ∧ -1 ≤ l ∧ l ≤ left ∧ (0 ≤ l → p)) : GCalls P f args H (SzR left p H) :=
  (GCalls.quiet (φ := fun v => ∃ l, v = .int .i64 l ∧ -1 ≤ l ∧ l ≤ left ∧ (0 ≤ l → p)) (h.mono fun _ _ ⟨h1, l, h2, h3⟩ => ⟨⟨l, h2, h3⟩, by rw [h2]; rfl, h1⟩)).mono fun _ _ ⟨h1, h2⟩ => ⟨h2, h1⟩

theorem eq_of_getD {xs ys : List Int} (hl : ys.length = xs.length) (h : ∀ i, i < xs.length → ys.getD i 0 = xs.getD i 0) : ys = xs := by
  apply List.ext_getElem hl
  intro i h1 h2
  have := h i h2
  simpa [List.getD_eq_getElem?_getD, h1, h2] using this
theorem ints_set (ys : List Int) (i : Nat) (v : Int) : (ints ys).set i (.int .i64 v) = ints (ys.set i v) := by simp [ints, List.map_set]
theorem getD_set {ys : List Int} {k i : Nat} {v : Int} (hk : k < ys.length) : (ys.set k v).getD i 0 = if i = k then v else ys.getD i 0 := by
  simp only [List.getD_eq_getElem?_getD, List.getElem?_set]
  by_cases e : k = i
  · subst e; simp [hk]
  · simp [e, Ne.symm e]
theorem SlA.of_ints {H : GHeap} {g : Nat} {ys : List Int} {e : TypeId} {own : Bool} {n : Nat} (h : H.get g = some (.row (ints ys) e own)) (hn : ys.length = n) : SlA H (some ⟨g, 0, none⟩) n (fun i => .int .i64 (ys.getD i 0)) := by
  subst hn; exact Ints.of_get h

theorem SlA.of_row {H : GHeap} {g n : Nat} {cs : List Value} {e : TypeId} {own : Bool} (h : H.get g = some (.row cs e own)) (hn : cs.length = n) : SlA H (some ⟨g, 0, none⟩) n (fun i => cs.getD i (.bool false)) := by
  subst hn
  exact .inr ⟨g, 0, rfl, fun i hi => by rw [GHeap.cell_of h, Nat.zero_add]; simp [List.getD_eq_getElem?_getD, hi]⟩

def Keep (b : Nat) (H H' : GHeap) : Prop := ∀ g o, b ≤ g → H.get g = some o → H'.get g = some o
theorem Keep.of_le {b : Nat} {H H' : GHeap} (h : H.Le H') : Keep b H H' := fun g o _ => h.2 g o
theorem Keep.set {b g : Nat} {H : GHeap} {o : Option GObj} (h : g < b) : Keep b H (H.set g o) := fun k x hk hx => by
  rw [GHeap.get_set_ne (by omega)]; exact hx
def IntsAt (b : Nat) (H : GHeap) (a : Option Addr) (xs : List Int) : Prop := ∃ g e, a = some ⟨g, 0, none⟩ ∧ b ≤ g ∧ H.get g = some (.row (ints xs) e true)
def IntssAt (b : Nat) (H : GHeap) (a : Option Addr) (xss : List (List Int)) (r : Nat → Option Addr) : Prop :=
  ∃ g e cs, a = some ⟨g, 0, none⟩ ∧ b ≤ g ∧ H.get g = some (.row cs e true) ∧ cs.length = xss.length ∧ (∀ i, i < xss.length → cs[i]? = some (.slice (r i) (xss.getD i []).length (xss.getD i []).length)) ∧ ∀ i, i < xss.length → IntsAt b H (r i) (xss.getD i [])
theorem IntsAt.keep {b b' : Nat} {H H' : GHeap} {a : Option Addr} {xs : List Int} (h : IntsAt b H a xs) (hk : Keep b' H H') (hb : b' ≤ b) : IntsAt b' H' a xs :=
  let ⟨g, e, h1, h2, h3⟩ := h; ⟨g, e, h1, by omega, hk g _ (by omega) h3⟩
theorem IntssAt.keep {b b' : Nat} {H H' : GHeap} {a : Option Addr} {xss : List (List Int)} {r : Nat → Option Addr} (h : IntssAt b H a xss r) (hk : Keep b' H H') (hb : b' ≤ b) : IntssAt b' H' a xss r :=
  let ⟨g, e, cs, h1, h2, h3, h4, h5, h6⟩ := h; ⟨g, e, cs, h1, by omega, hk g _ (by omega) h3, h4, h5, fun i hi => (h6 i hi).keep hk hb⟩
theorem IntsAt.ints {b : Nat} {H : GHeap} {a : Option Addr} {xs : List Int} (h : IntsAt b H a xs) : Ints H a xs := by
  obtain ⟨g, e, rfl, _, h3⟩ := h
  exact Ints.of_get h3
theorem IntssAt.intss {b : Nat} {H : GHeap} {a : Option Addr} {xss : List (List Int)} {r : Nat → Option Addr} (h : IntssAt b H a xss r) : Intss H a xss r := by
  obtain ⟨g, e, cs, rfl, _, h3, h4, h5, h6⟩ := h
  exact ⟨.inr ⟨g, 0, rfl, fun i hi => by rw [GHeap.cell_of h3, Nat.zero_add]; exact h5 i hi⟩, fun i hi => (h6 i hi).ints⟩
def NewIntss (H : GHeap) (xss : List (List Int)) (v : Value) (H' : GHeap) : Prop := H.Le H' ∧ ∃ a r, v = .slice a xss.length xss.length ∧ IntssAt H.next H' a xss r
def CatAt (b : Nat) (H : GHeap) (c : Cat) (p : CatP) : Prop := IntsAt b H p.a1 c.src ∧ IntsAt b H p.a2 c.tgt ∧ IntsAt b H p.a3 c.idn ∧ IntssAt b H p.a4 c.comp p.r
theorem CatAt.keep {b b' : Nat} {H H' : GHeap} {c : Cat} {p : CatP} (h : CatAt b H c p) (hk : Keep b' H H') (hb : b' ≤ b) : CatAt b' H' c p := ⟨h.1.keep hk hb, h.2.1.keep hk hb, h.2.2.1.keep hk hb, h.2.2.2.keep hk hb⟩
theorem CatAt.inn {b : Nat} {H : GHeap} {c : Cat} {p : CatP} (h : CatAt b H c p) : c.In H p := ⟨h.1.ints, h.2.1.ints, h.2.2.1.ints, h.2.2.2.intss⟩
def NewCat (H : GHeap) (c : Cat) (v : Value) (H' : GHeap) : Prop := H.Le H' ∧ ∃ p, v = .agg (c.cells p).toArray ∧ CatAt H.next H' c p
def FunAt (b : Nat) (H : GHeap) (f : Fun) (p : FunP) : Prop := CatAt b H f.s p.s ∧ CatAt b H f.t p.t ∧ IntsAt b H p.b1 f.ob ∧ IntsAt b H p.b2 f.ar
theorem FunAt.keep {b b' : Nat} {H H' : GHeap} {c : Fun} {p : FunP} (h : FunAt b H c p) (hk : Keep b' H H') (hb : b' ≤ b) : FunAt b' H' c p := ⟨h.1.keep hk hb, h.2.1.keep hk hb, h.2.2.1.keep hk hb, h.2.2.2.keep hk hb⟩
theorem FunAt.inn {b : Nat} {H : GHeap} {c : Fun} {p : FunP} (h : FunAt b H c p) : c.In H p := ⟨h.1.inn, h.2.1.inn, h.2.2.1.ints, h.2.2.2.ints⟩
def NewFun (H : GHeap) (c : Fun) (v : Value) (H' : GHeap) : Prop := H.Le H' ∧ ∃ p, v = .agg (c.cells p).toArray ∧ FunAt H.next H' c p
structure Bld (H0 : GHeap) (b g2 g3 : Nat) (t : TypeId) (z cs : List Value) (H : GHeap) : Prop where
  le : H0.Le H
  a2 : H0.next ≤ g2
  l2 : g2 < b
  a3 : H0.next ≤ g3
  l3 : g3 < b
  ne : g2 ≠ g3
  res : H.get g2 = some (.row z t true)
  own : H.get g3 = some (.row cs t true)
  bn : b ≤ H.next
theorem Bld.start (H0 : GHeap) (t : TypeId) (z : List Value) : Bld H0 ((H0.push (.row z t true)).next + 1) H0.next (H0.push (.row z t true)).next t z z ((H0.push (.row z t true)).push (.row z t true)) where
  le := (GHeap.le_push _ _).trans (GHeap.le_push _ _)
  a2 := Nat.le_refl _
  l2 := by simp; omega
  a3 := by simp
  l3 := by omega
  ne := by simp
  res := (GHeap.le_push _ _).2 _ _ (GHeap.get_push_new _ _)
  own := GHeap.get_push_new _ _
  bn := by simp
theorem Bld.call {H0 H H' : GHeap} {b g2 g3 : Nat} {t : TypeId} {z cs : List Value} (B : Bld H0 b g2 g3 t z cs H) (h : H.Le H') : Bld H0 b g2 g3 t z cs H' :=
  ⟨B.le.trans h, B.a2, B.l2, B.a3, B.l3, B.ne, h.2 _ _ B.res, h.2 _ _ B.own, Nat.le_trans B.bn h.1⟩
theorem Bld.store {H0 H : GHeap} {b g2 g3 : Nat} {t : TypeId} {z cs : List Value} (B : Bld H0 b g2 g3 t z cs H) (cs' : List Value) : Bld H0 b g2 g3 t z cs' (H.set g3 (some (.row cs' t true))) ∧ Keep b H (H.set g3 (some (.row cs' t true))) :=
  ⟨⟨B.le.set_new B.a3, B.a2, B.l2, B.a3, B.l3, B.ne, by rw [GHeap.get_set_ne (Ne.symm B.ne)]; exact B.res, GHeap.get_set_eq (GHeap.ltg B.own), by rw [GHeap.next_set]; exact B.bn⟩, .set B.l3⟩
theorem Bld.done {H0 H : GHeap} {b g2 g3 : Nat} {t : TypeId} {z cs : List Value} (B : Bld H0 b g2 g3 t z cs H) (o : Option GObj) : H0.Le (H.set g2 o) ∧ Keep b H (H.set g2 o) := ⟨B.le.set_new B.a2, .set B.l2⟩
theorem setAll_gen (vs : List Value) : ∀ (pre a rest : List Value), a.length = vs.length → setAll (pre ++ (a ++ rest)) pre.length vs = pre ++ (vs ++ rest) := by
  induction vs with
  | nil => intro pre a rest h; obtain rfl := List.length_eq_zero_iff.1 (by simpa using h); rfl
  | cons v vs ih =>
    intro pre a rest h
    match a, h with
    | x :: a, h =>
      have e : (pre ++ (x :: a ++ rest)).set pre.length v = (pre ++ [v]) ++ (a ++ rest) := by simp [List.set_append]
      have := ih (pre ++ [v]) a rest (by simpa using h)
      rw [List.length_append] at this
      unfold setAll
      rw [e]
      simpa using this
theorem setAll_all (a vs : List Value) (h : a.length = vs.length) : setAll a 0 vs = vs := by
  have := setAll_gen vs [] a [] h
  simpa using this

end Go.GL
namespace Go.Proofs.Ytddjdkpjfpnjiaa
open Go Go.GL Go.RowKit Go.Proofs
variable [MainFlag]
theorem sz_25_E : (Try.prog.info? 25).map (·.size) = some 5 := by kernel_rfl
theorem fo_25_1_E : fieldOff Try.prog 25 1 = some 1 := by kernel_rfl
theorem fo_25_2_E : fieldOff Try.prog 25 2 = some 2 := by kernel_rfl
theorem fo_25_3_E : fieldOff Try.prog 25 3 = some 3 := by kernel_rfl
theorem fo_25_4_E : fieldOff Try.prog 25 4 = some 4 := by kernel_rfl
theorem sz_41_E : (Try.prog.info? 41).map (·.size) = some 12 := by kernel_rfl
theorem fo_41_0_E : fieldOff Try.prog 41 0 = some 0 := by kernel_rfl
theorem ag_25_E : aggT Try.prog 25 = some 5 := by kernel_rfl
theorem fo_41_1_E : fieldOff Try.prog 41 1 = some 5 := by kernel_rfl
theorem fo_41_2_E : fieldOff Try.prog 41 2 = some 10 := by kernel_rfl
theorem fo_41_3_E : fieldOff Try.prog 41 3 = some 11 := by kernel_rfl
theorem sz_2_E : (Try.prog.info? 2).map (·.size) = some 1 := by kernel_rfl
theorem ze_2_E : zeroT Try.prog 2 = some ([.int .i64 0], 1) := by kernel_rfl
theorem by_2_E : (Try.prog.info? 2).map (·.bytes) = some 8 := by kernel_rfl
theorem sz_22_E : (Try.prog.info? 22).map (·.size) = some 1 := by kernel_rfl
theorem ze_22_E : zeroT Try.prog 22 = some ([.slice none 0 0], 1) := by kernel_rfl
theorem by_22_E : (Try.prog.info? 22).map (·.bytes) = some 24 := by kernel_rfl
theorem sz_23_E : (Try.prog.info? 23).map (·.size) = some 1 := by kernel_rfl
theorem ze_31_E : zeroT Try.prog 31 = some ([.int .i64 0, .slice none 0 0, .slice none 0 0, .slice none 0 0, .slice none 0 0], 5) := by kernel_rfl
theorem fo_25_0_E : fieldOff Try.prog 25 0 = some 0 := by kernel_rfl
theorem ag_46_E : aggT Try.prog 46 = some 12 := by kernel_rfl
theorem sz_46_E : (Try.prog.info? 46).map (·.size) = some 12 := by kernel_rfl
theorem ze_46_E : zeroT Try.prog 46 = some ([.int .i64 0, .slice none 0 0, .slice none 0 0, .slice none 0 0, .slice none 0 0, .int .i64 0, .slice none 0 0, .slice none 0 0, .slice none 0 0, .slice none 0 0, .slice none 0 0, .slice none 0 0], 12) := by kernel_rfl
theorem fo_46_0_E : fieldOff Try.prog 46 0 = some 0 := by kernel_rfl
theorem fo_46_1_E : fieldOff Try.prog 46 1 = some 5 := by kernel_rfl
theorem fo_46_2_E : fieldOff Try.prog 46 2 = some 10 := by kernel_rfl
theorem fo_46_3_E : fieldOff Try.prog 46 3 = some 11 := by kernel_rfl
theorem szInt64S_c {a : Option Addr} {xs : List Int} {left : Int} {H : GHeap} (hx : xs.length ≤ 9223372036854775807 := by omega) (h0 : 0 ≤ left := by omega) (h1 : left ≤ 1048576 := by omega) :
    GCalls Try.prog 27 [.slice a xs.length xs.length, .int .i64 left] H (SzR left (xs.length ≤ left) H) := by
  refine GCalls.body (N := 12) (rs := [.tmp 4]) Try.func27 rfl rfl rfl rfl (fun Qx b hend => ?_)
  refine .fg [0, 1] rfl ?_
  refine .seq (fun K1 e => .region (.mv rfl (.nil (e _ _ (.seq (fun K2 f => .region (.mv rfl (.mv rfl (.q rfl (.len sl_22_A rfl) ?_)))))))))
  refine .q rfl (.sub rfl rfl rfl (by omega) (by omega)) ?_
  refine .mv rfl (.nil (f _ _ (.seq (fun K3 g => .seq (fun K4 i => .region (.mv rfl (.q rfl (.cmp rfl rfl rfl) (.nil (i _ _ ?_)))))))))
  refine .cond rfl ?_ ?_ <;> intro c
  ·
   try simp only [sps] at c
   refine .seq (fun K5 d => .region (.mv rfl (.nil (d _ _ (.ret (b _ _ (⟨_, rfl, ?_⟩)))))))
   exact ⟨rfl, _, rfl, by omega, by omega, fun h => by omega⟩
  try simp only [sps] at c
  refine .skip (g _ _ (.seq (fun K6 j => .region (.mv rfl (.mv rfl (.nil (j _ _ (.ret (b _ _ (⟨_, rfl, ?_⟩))))))))))
  exact ⟨rfl, _, rfl, by omega, by omega, fun h => by omega⟩
theorem szInt64SS_c {a : Option Addr} {xss : List (List Int)} {r : Nat → Option Addr} {left : Int} {H : GHeap} (h : Intss H a xss r := by assumption) (hx : xss.length ≤ 9223372036854775807 := by omega) (hy : ∀ i, I64s (xss.getD i []) := by assumption) (h0 : 0 ≤ left := by omega) (h1 : left ≤ 1048576 := by omega) :
    GCalls Try.prog 28 [.slice a xss.length xss.length, .int .i64 left] H (SzR left (xss.length ≤ left ∧ ∀ i, ((xss.getD i []).length : Int) ≤ left) H) := by
  refine GCalls.body (N := 27) (rs := [.tmp 4]) Try.func28 rfl rfl rfl rfl (fun Qx b hend => ?_)
  refine .fg [0, 1] rfl ?_
  have hh := h
  obtain ⟨_, _⟩ := hh
  refine .seq (fun K1 w => .region (.mv rfl (.nil (w _ _ (.seq (fun K2 a0 => .region (.mv rfl (.mv rfl (.q rfl (.len sl_23_B rfl) ?_)))))))))
  refine .q rfl (.sub rfl rfl rfl (by omega) (by omega)) ?_
  refine .mv rfl (.nil (a0 _ _ (.seq (fun K3 u => .seq (fun K4 v => .region (.mv rfl (.q rfl (.cmp rfl rfl rfl) (.nil (v _ _ ?_)))))))))
  refine .cond rfl ?_ ?_ <;> intro o
  ·
   try simp only [sps] at o
   refine .seq (fun K5 t => .region (.mv rfl (.nil (t _ _ (.ret (b _ _ (⟨_, rfl, ?_⟩)))))))
   exact ⟨rfl, _, rfl, by omega, by omega, fun h => by omega⟩
  try simp only [sps] at o
  refine .skip (u _ _ (.seq (fun K6 y => .seq (fun K7 x => .region (.mv rfl (.nil (x _ _ (.block ?_))))))))
  refine .loopF (σ := Nat × Int) [0] (fun (k, lf) => [(5, some (.int .i64 (k : Int))), (1, some (.int .i64 lf))]) (fun (k, lf) H' => H = H' ∧ k ≤ xss.length ∧ 0 ≤ lf ∧ lf ≤ left - xss.length ∧ ∀ i, i < k → ((xss.getD i []).length : Int) ≤ left) (fun (k, lf) => xss.length - k) ((0, left - xss.length)) rfl (.p rfl) ?_ ?_
  ·
   refine ⟨rfl, ?_⟩
   exact ⟨by omega, by omega, by omega, fun i hi => by omega⟩
  rintro ⟨k, lf⟩ _ ⟨rfl, hI⟩ _ d
  dsimp only [cA, nA]
  obtain ⟨_, _, _, c⟩ := hI
  refine .seq (fun K8 z => .seq (fun K9 a1 => .region (.mv rfl (.mv rfl (.q rfl (.len sl_23_B rfl) (.q rfl (.cmp rfl rfl rfl) (.nil (a1 _ _ ?_))))))))
  refine .cond rfl ?_ ?_ <;> intro n
  ·
   try simp only [sps] at n
   refine .skip (z _ _ (.seq (fun K10 l => .block (.seq (fun K11 m => .region (.mv rfl (.mv rfl ?_)))))))
   refine .q rfl (.idxN sl_23_B (Intss.sl (by assumption)) rfl rfl (by omega)) ?_
   refine .q rfl (.loadR on_22_B (by assumption) rfl (by omega)) ?_
   refine .mv rfl ?_
   have _ := (hy k).1
   refine .call rfl rfl rfl rfl en27 rfl (szInt64S_c) ?_
   rintro _ _ ⟨rfl, lf, rfl, _, _, _⟩
   refine .mv rfl (.nil (m _ _ (.seq (fun K12 f => .region (.mv rfl (.q rfl (.cmp rfl rfl rfl) (.nil (f _ _ ?_))))))))
   refine .cond rfl ?_ ?_ <;> intro s
   ·
    try simp only [sps] at s
    refine .seq (fun K13 j => .region (.mv rfl (.nil (j _ _ (.ret (b _ _ (⟨_, rfl, ?_⟩)))))))
    exact ⟨rfl, _, rfl, by omega, by omega, fun h => by omega⟩
   try simp only [sps] at s
   refine .skip (l _ _ (.region (.mv rfl (.q rfl (.aD rfl rfl rfl) (.mv rfl (.nil ?_))))))
   refine d ((k + 1, _)) _ _ ?_ ?_ (.p rfl)
   ·
    refine ⟨rfl, ?_⟩
    refine ⟨by omega, by omega, by omega, fun i hi => ?_⟩
    by_cases e : i < k
    · exact c i e
    · obtain rfl : i = k := by omega
      omega
   show xss.length - (k + 1) < xss.length - k; omega
  try simp only [sps] at n
  refine .exit (y _ _ (.seq (fun K14 g => .region (.mv rfl (.mv rfl (.nil (g _ _ (.ret (b _ _ (⟨_, rfl, ?_⟩))))))))))
  exact ⟨rfl, _, rfl, by omega, by omega, fun _ => ⟨by omega, fun i => by
    by_cases e : i < xss.length
    · exact c i (by omega)
    · rw [List.getD_eq_getElem?_getD, List.getElem?_eq_none (by omega)]; simp; omega⟩⟩
theorem szCategory_c {c : Cat} {p : CatP} {left : Int} {H : GHeap} (hin : c.In H p := by assumption) (hw : c.Wide := by assumption) (h0 : 0 ≤ left := by omega) (h1 : left ≤ 1048576 := by omega) :
    GCalls Try.prog 26 [.agg (c.cells p).toArray, .int .i64 left] H (SzR left c.Small H) := by
  refine SzR.of ?_
  obtain ⟨⟨a6, a4⟩, ⟨_, _⟩, ⟨_, _⟩, ⟨_, _⟩, _, _⟩ := hw
  refine GCalls.body (N := 30) (rs := [.tmp 4]) Try.func26 rfl rfl rfl rfl (fun Qx a hend => ?_)
  refine .fg [0, 1] rfl ?_
  refine .seq (fun K1 z => .region (.d rfl rfl rfl (.box rfl sz_25_E rfl CIs.mk) ?_))
  show GRun _ _ _ _ _ _ (H.push (.row (c.cells p) 25 true))
  have b := GHeap.le_push H (.row (c.cells p) 25 true)
  have hb : Cat.At (H.push (.row (c.cells p) 25 true)) H.next 0 c p := ⟨Mem.new _ _ _ _, hin.mono b⟩
  generalize H.push (.row (c.cells p) 25 true) = H1 at *
  generalize H.next = g at *
  obtain ⟨_, _, _, _, _, _, _, _, _⟩ := hb.get
  have _ : MemN _ _ _ _ _ := ⟨rfl, hb.1⟩
  refine .mv rfl (.nil (z _ _ (.seq (fun K2 a3 => .region (.q rfl (.fieldAddr fo_25_1_E rfl) (.q rfl (.lA on_22_B rfl) (.mv rfl ?_)))))))
  refine .call rfl rfl rfl rfl en27 rfl (szInt64S_c) ?_
  rintro _ _ ⟨rfl, lf, rfl, z1, z2, z3⟩
  refine .mv rfl (.nil (a3 _ _ (.seq (fun K3 x => .seq (fun K4 y => .region (.mv rfl (.q rfl (.cmp rfl rfl rfl) (.nil (y _ _ ?_)))))))))
  refine .cond rfl ?_ ?_ <;> intro v
  ·
   try simp only [sps] at v
   refine .seq (fun K5 w => .region (.mv rfl (.nil (w _ _ (.ret (a _ _ (⟨_, rfl, ?_⟩)))))))
   exact ⟨b, _, rfl, by omega, by omega, fun h => by omega⟩
  try simp only [sps] at v
  refine .skip (x _ _ (.seq (fun K6 a1 => .region (.q rfl (.fieldAddr fo_25_2_E rfl) (.q rfl (.lA on_22_B rfl) (.mv rfl ?_))))))
  refine .call rfl rfl rfl rfl en27 rfl (szInt64S_c) ?_
  rintro _ _ ⟨rfl, lf, rfl, z1, z2, z3⟩
  refine .mv rfl (.nil (a1 _ _ (.seq (fun K7 a0 => .seq (fun K8 a2 => .region (.mv rfl (.q rfl (.cmp rfl rfl rfl) (.nil (a2 _ _ ?_)))))))))
  refine .cond rfl ?_ ?_ <;> intro u
  ·
   try simp only [sps] at u
   refine .seq (fun K9 a5 => .region (.mv rfl (.nil (a5 _ _ (.ret (a _ _ (⟨_, rfl, ?_⟩)))))))
   exact ⟨b, _, rfl, by omega, by omega, fun h => by omega⟩
  try simp only [sps] at u
  refine .skip (a0 _ _ (.seq (fun K10 n => .region (.q rfl (.fieldAddr fo_25_3_E rfl) (.q rfl (.lA on_22_B rfl) (.mv rfl ?_))))))
  refine .call rfl rfl rfl rfl en27 rfl (szInt64S_c) ?_
  rintro _ _ ⟨rfl, lf, rfl, z1, z2, z3⟩
  refine .mv rfl (.nil (n _ _ (.seq (fun K11 r => .seq (fun K12 j => .region (.mv rfl (.q rfl (.cmp rfl rfl rfl) (.nil (j _ _ ?_)))))))))
  refine .cond rfl ?_ ?_ <;> intro s
  ·
   try simp only [sps] at s
   refine .seq (fun K13 m => .region (.mv rfl (.nil (m _ _ (.ret (a _ _ (⟨_, rfl, ?_⟩)))))))
   exact ⟨b, _, rfl, by omega, by omega, fun h => by omega⟩
  try simp only [sps] at s
  refine .skip (r _ _ (.seq (fun K14 l => .region (.q rfl (.fieldAddr fo_25_4_E rfl) (.q rfl (.lA on_23_B rfl) (.mv rfl ?_))))))
  refine .call rfl rfl rfl rfl en28 rfl (szInt64SS_c) ?_
  rintro _ _ ⟨rfl, lf, rfl, z1, z2, z3⟩
  refine .mv rfl (.nil (l _ _ (.seq (fun K15 k => .seq (fun K16 o => .region (.mv rfl (.q rfl (.cmp rfl rfl rfl) (.nil (o _ _ ?_)))))))))
  refine .cond rfl ?_ ?_ <;> intro t
  ·
   try simp only [sps] at t
   refine .seq (fun K17 f => .region (.mv rfl (.nil (f _ _ (.ret (a _ _ (⟨_, rfl, ?_⟩)))))))
   exact ⟨b, _, rfl, by omega, by omega, fun h => by omega⟩
  try simp only [sps] at t
  refine .skip (k _ _ (.seq (fun K18 e => .region (.mv rfl (.mv rfl (.nil (e _ _ (.ret (a _ _ (⟨_, rfl, ?_⟩))))))))))
  exact ⟨b, _, rfl, by omega, by omega, fun h => ⟨by omega, by omega, by omega, by omega, fun i => by have := (z3 (by omega)).2 i; omega, ⟨a6, a4⟩⟩⟩
theorem szFunctor_c {c : Fun} {p : FunP} {left : Int} {H : GHeap} (hin : c.In H p := by assumption) (hw : c.Wide := by assumption) (h0 : 0 ≤ left := by omega) (h1 : left ≤ 1048576 := by omega) :
    GCalls Try.prog 14 [.agg (c.cells p).toArray, .int .i64 left] H (SzR left c.Small H) := by
  refine SzR.of ?_
  obtain ⟨_, _, ⟨_, _⟩, ⟨_, _⟩⟩ := hw
  refine GCalls.body (N := 30) (rs := [.tmp 4]) Try.func14 rfl rfl rfl rfl (fun Qx a hend => ?_)
  refine .fg [0, 1] rfl ?_
  refine .seq (fun K1 y => .region (.d rfl rfl rfl (.box rfl sz_41_E rfl CIs.mk) ?_))
  show GRun _ _ _ _ _ _ (H.push (.row (c.cells p) 41 true))
  have b := GHeap.le_push H (.row (c.cells p) 41 true)
  have hb : Fun.At (H.push (.row (c.cells p) 41 true)) H.next 0 c p := ⟨Mem.new _ _ _ _, hin.mono b⟩
  generalize H.push (.row (c.cells p) 41 true) = H1 at *
  generalize H.next = g at *
  obtain ⟨fs, ft, _, _, _, _⟩ := hb.get
  have _ : MemN _ _ _ _ _ := ⟨rfl, hb.1⟩
  have _ := hb.2
  have _ : MemN _ _ _ _ _ := ⟨rfl, fs.1⟩
  have _ := fs.2
  have _ : MemN _ _ _ _ _ := ⟨rfl, ft.1⟩
  have _ := ft.2
  refine .mv rfl (.nil (y _ _ (.seq (fun K2 a2 => .region (.q rfl (.fieldAddr fo_41_0_E rfl) ?_)))))
  refine .q rfl (.loadM ag_25_E rfl (by assumption)) ?_
  refine .mv rfl ?_
  refine .call rfl rfl rfl rfl en26 rfl (szCategory_c) ?_
  rintro _ _ ⟨rfl, lf, rfl, z1, z2, z3⟩
  have y1 := z3
  refine .mv rfl (.nil (a2 _ _ (.seq (fun K3 w => .seq (fun K4 x => .region (.mv rfl (.q rfl (.cmp rfl rfl rfl) (.nil (x _ _ ?_)))))))))
  refine .cond rfl ?_ ?_ <;> intro u
  ·
   try simp only [sps] at u
   refine .seq (fun K5 v => .region (.mv rfl (.nil (v _ _ (.ret (a _ _ (⟨_, rfl, ?_⟩)))))))
   exact ⟨b, _, rfl, by omega, by omega, fun h => by omega⟩
  try simp only [sps] at u
  refine .skip (w _ _ (.seq (fun K6 a0 => .region (.q rfl (.fieldAddr fo_41_1_E rfl) ?_))))
  refine .q rfl (.loadM ag_25_E rfl (by assumption)) ?_
  refine .mv rfl ?_
  refine .call rfl rfl rfl rfl en26 rfl (szCategory_c) ?_
  rintro _ _ ⟨rfl, lf, rfl, z1, z2, z3⟩
  have y2 := z3
  refine .mv rfl (.nil (a0 _ _ (.seq (fun K7 z => .seq (fun K8 a1 => .region (.mv rfl (.q rfl (.cmp rfl rfl rfl) (.nil (a1 _ _ ?_)))))))))
  refine .cond rfl ?_ ?_ <;> intro t
  ·
   try simp only [sps] at t
   refine .seq (fun K9 a3 => .region (.mv rfl (.nil (a3 _ _ (.ret (a _ _ (⟨_, rfl, ?_⟩)))))))
   exact ⟨b, _, rfl, by omega, by omega, fun h => by omega⟩
  try simp only [sps] at t
  refine .skip (z _ _ (.seq (fun K10 m => .region (.q rfl (.fieldAddr fo_41_2_E rfl) (.q rfl (.lA on_22_B rfl) (.mv rfl ?_))))))
  refine .call rfl rfl rfl rfl en27 rfl (szInt64S_c) ?_
  rintro _ _ ⟨rfl, lf, rfl, z1, z2, z3⟩
  refine .mv rfl (.nil (m _ _ (.seq (fun K11 o => .seq (fun K12 i => .region (.mv rfl (.q rfl (.cmp rfl rfl rfl) (.nil (i _ _ ?_)))))))))
  refine .cond rfl ?_ ?_ <;> intro r
  ·
   try simp only [sps] at r
   refine .seq (fun K13 l => .region (.mv rfl (.nil (l _ _ (.ret (a _ _ (⟨_, rfl, ?_⟩)))))))
   exact ⟨b, _, rfl, by omega, by omega, fun h => by omega⟩
  try simp only [sps] at r
  refine .skip (o _ _ (.seq (fun K14 k => .region (.q rfl (.fieldAddr fo_41_3_E rfl) (.q rfl (.lA on_22_B rfl) (.mv rfl ?_))))))
  refine .call rfl rfl rfl rfl en27 rfl (szInt64S_c) ?_
  rintro _ _ ⟨rfl, lf, rfl, z1, z2, z3⟩
  refine .mv rfl (.nil (k _ _ (.seq (fun K15 j => .seq (fun K16 n => .region (.mv rfl (.q rfl (.cmp rfl rfl rfl) (.nil (n _ _ ?_)))))))))
  refine .cond rfl ?_ ?_ <;> intro s
  ·
   try simp only [sps] at s
   refine .seq (fun K17 f => .region (.mv rfl (.nil (f _ _ (.ret (a _ _ (⟨_, rfl, ?_⟩)))))))
   exact ⟨b, _, rfl, by omega, by omega, fun h => by omega⟩
  try simp only [sps] at s
  refine .skip (j _ _ (.seq (fun K18 e => .region (.mv rfl (.mv rfl (.nil (e _ _ (.ret (a _ _ (⟨_, rfl, ?_⟩))))))))))
  exact ⟨b, _, rfl, by omega, by omega, fun h => ⟨y1 (by omega), y2 (by omega), by omega, by omega⟩⟩
theorem toInt64S_c {a : Option Addr} {xs : List Int} {H : GHeap} (h : Ints H a xs := by assumption) (hx : xs.length ≤ 1048576 := by omega) :
    GCalls Try.prog 33 [.slice a xs.length xs.length] H (NewInts 2 H xs) := by
  refine GCalls.body (N := 22) (rs := [.tmp 2]) Try.func33 rfl rfl rfl rfl (fun Qx g hend => ?_)
  refine .fg [0] rfl ?_
  refine .seq (fun K1 m => .region (.mv rfl (.nil (m _ _ (.seq (fun K2 r => .region (.mv rfl (.q rfl (.len sl_22_A rfl) ?_))))))))
  refine .d rfl rfl rfl (.makeSlice rfl sl_22_A ze_2_E by_2_E rfl rfl (by omega) rfl rfl (by omega) (by omega) (by omega) CIs.mk) ?_
  show GRun _ _ _ _ _ _ (H.push (.row (madeL [.int .i64 0] (xs.length * 1)) 2 true))
  rw [madeL_one, Nat.mul_one]
  have hrep : List.replicate xs.length (Value.int .i64 0) = ints (List.replicate xs.length 0) := by simp [ints]
  rw [hrep]
  have t := GHeap.le_push H (.row (ints (List.replicate xs.length 0)) 2 true)
  have hn := GHeap.get_push_new H (.row (ints (List.replicate xs.length 0)) 2 true)
  generalize H.push (.row (ints (List.replicate xs.length 0)) 2 true) = H1 at *
  obtain ⟨g0, b⟩ : ∃ g0, g0 = H.next := ⟨_, rfl⟩
  rw [← b] at hn ⊢
  have hnx : H.next ≤ g0 := by omega
  clear b
  refine .mv rfl (.nil (r _ _ (.seq (fun K3 s => .seq (fun K4 u => .region (.mv rfl (.nil (u _ _ (.block ?_)))))))))
  refine .loopF (σ := Nat) [0, 3] (fun k => [(4, some (.int .i64 (k : Int)))]) (fun k H' => k ≤ xs.length ∧ H.Le H' ∧ H.next ≤ g0 ∧ ∃ ys : List Int, ys.length = xs.length ∧ (∀ i, i < k → ys.getD i 0 = xs.getD i 0) ∧ H'.get g0 = some (.row (ints ys) 2 true)) (fun k => xs.length - k) (0) rfl (.p rfl) ?_ ?_
  ·
   exact ⟨by omega, t, hnx, _, by simp, fun i hi => by omega, hn⟩
  rintro k H' hI _ f
  dsimp only [cA, nA]
  obtain ⟨_, hle', b, ys, hys, c, hget⟩ := hI
  have _ := SlA.of_ints hget hys
  have _ := h.mono hle'
  refine .seq (fun K5 l => .seq (fun K6 v => .region (.mv rfl (.mv rfl (.q rfl (.len sl_22_A rfl) (.q rfl (.cmp rfl rfl rfl) (.nil (v _ _ ?_))))))))
  refine .cond rfl ?_ ?_ <;> intro j
  ·
   try simp only [sps] at j
   refine .skip (l _ _ (.seq (fun K7 o => .block (.region (.mv rfl (.mv rfl (.mv rfl (.mv rfl (.q rfl (.iN sl_22_A rfl rfl) (.q rfl (.lI on_2_A rfl) (.q rfl (.iN sl_22_A rfl rfl) ?_)))))))))))
   refine .d0 rfl rfl (.store rfl sz_2_E rfl rfl rfl hget (by simp; omega) CIs.mk) ?_
   refine .nil (o _ _ (.region (.mv rfl (.q rfl (.aD rfl rfl rfl) (.mv rfl (.nil ?_))))))
   refine f (k + 1) _ _ ?_ ?_ (.p rfl)
   ·
    rw [Nat.zero_add, ints_set]
    refine ⟨by omega, hle'.set_new b, b, _, by simpa using hys, fun i hi => ?_, GHeap.get_set_eq (GHeap.ltg hget)⟩
    rw [getD_set (by omega)]
    split
    · rename_i e; rw [e]
    · exact c i (by omega)
   omega
  try simp only [sps] at j
  refine .exit (s _ _ (.seq (fun K8 n => .region (.mv rfl (.mv rfl (.nil (n _ _ (.ret (g _ _ (⟨_, rfl, ?_⟩))))))))))
  obtain rfl : ys = xs := eq_of_getD hys fun i hi => c i (by omega)
  exact ⟨hle', _, rfl, hget, b⟩
theorem toInt64SS_c {a : Option Addr} {xss : List (List Int)} {r : Nat → Option Addr} {H : GHeap} (h : Intss H a xss r := by assumption) (hx : xss.length ≤ 1048576 := by omega) (hy : ∀ i, (xss.getD i []).length ≤ 1048576 := by assumption) :
    GCalls Try.prog 34 [.slice a xss.length xss.length] H (NewIntss H xss) := by
  refine GCalls.body (N := 23) (rs := [.tmp 2]) Try.func34 rfl rfl rfl rfl (fun Qx m hend => ?_)
  refine .fg [0] rfl ?_
  refine .seq (fun K1 t => .region (.mv rfl (.nil (t _ _ (.seq (fun K2 w => .region (.mv rfl (.q rfl (.len sl_23_B rfl) ?_))))))))
  refine .d rfl rfl rfl (.makeSlice rfl sl_23_B ze_22_E by_22_E rfl rfl (by omega) rfl rfl (by omega) (by omega) (by omega) CIs.mk) ?_
  show GRun _ _ _ _ _ _ (H.push (.row (madeL [.slice none 0 0] (xss.length * 1)) 22 true))
  have hlen := length_madeL [Value.slice none 0 0] (xss.length * 1)
  rw [Nat.mul_one] at hlen ⊢
  have y := GHeap.le_push H (.row (madeL [.slice none 0 0] xss.length) 22 true)
  have hn := GHeap.get_push_new H (.row (madeL [.slice none 0 0] xss.length) 22 true)
  generalize H.push (.row (madeL [.slice none 0 0] xss.length) 22 true) = H1 at *
  obtain ⟨g0, b⟩ : ∃ g0, g0 = H.next := ⟨_, rfl⟩
  rw [← b] at hn ⊢
  have hnx : H.next ≤ g0 := by omega
  clear b
  refine .mv rfl (.nil (w _ _ (.seq (fun K3 x => .seq (fun K4 z => .region (.mv rfl (.nil (z _ _ (.block ?_)))))))))
  refine .loopF (σ := Nat) [0, 3] (fun k => [(4, some (.int .i64 (k : Int)))]) (fun k H' => k ≤ xss.length ∧ H.Le H' ∧ H.next ≤ g0 ∧ ∃ (cs : List Value) (q : Nat → Option Addr), H'.get g0 = some (.row cs 22 true) ∧ cs.length = xss.length ∧ (∀ i, i < k → cs[i]? = some (.slice (q i) (xss.getD i []).length (xss.getD i []).length)) ∧ ∀ i, i < k → IntsAt (g0 + 1) H' (q i) (xss.getD i [])) (fun k => xss.length - k) (0) rfl (.p rfl) ?_ ?_
  ·
   exact ⟨by omega, y, hnx, _, fun _ => none, hn, hlen, fun i hi => by omega, fun i hi => by omega⟩
  rintro k H' hI _ l
  dsimp only [cA, nA]
  obtain ⟨_, hle', b, cs, q, hget, hcs, c, hats⟩ := hI
  have _ := GHeap.ltg hget
  have hss := h.mono hle'
  have i2 := hss.2
  refine .seq (fun K5 s => .seq (fun K6 a0 => .region (.mv rfl (.mv rfl (.q rfl (.len sl_23_B rfl) (.q rfl (.cmp rfl rfl rfl) (.nil (a0 _ _ ?_))))))))
  refine .cond rfl ?_ ?_ <;> intro n
  ·
   try simp only [sps] at n
   refine .skip (s _ _ (.seq (fun K7 v => .block (.region (.mv rfl (.mv rfl (.mv rfl (.mv rfl ?_))))))))
   refine .q rfl (.idxN sl_23_B (Intss.sl (by assumption)) rfl rfl (by omega)) ?_
   refine .q rfl (.loadR on_22_B (by assumption) rfl (by omega)) ?_
   have _ := i2 k (by omega)
   have _ := hy k
   refine .call rfl rfl rfl rfl en33 rfl (toInt64S_c) ?_
   rintro _ _ ⟨j, g2, rfl, f, _⟩
   have hget' := j.2 _ _ hget
   have hsl := SlA.of_row hget' hcs
   refine .q rfl (.idxN sl_23_B hsl rfl rfl (by omega)) ?_
   refine .d0 rfl rfl (.store rfl sz_22_E rfl rfl rfl hget' (by simp; omega) CIs.mk) ?_
   refine .nil (v _ _ (.region (.mv rfl (.q rfl (.aD rfl rfl rfl) (.mv rfl (.nil ?_))))))
   refine l (k + 1) _ _ ?_ ?_ (.p rfl)
   ·
    rw [Nat.zero_add]
    refine ⟨by omega, (hle'.trans j).set_new b, b, _, fun i => if i = k then some ⟨g2, 0, none⟩ else q i, GHeap.get_set_eq (GHeap.ltg hget'), by simpa using hcs, fun i hi => ?_, fun i hi => ?_⟩
    · by_cases e : i = k
      · subst e; simp [List.getElem?_set, hcs]; omega
      · simp only [e, if_false]
        rw [List.getElem?_set_ne (Ne.symm e)]
        exact c i (by omega)
    · by_cases e : i = k
      · subst e
        simp only [if_true]
        exact ⟨g2, _, rfl, by omega, by rw [GHeap.get_set_ne (by omega)]; exact f⟩
      · simp only [e, if_false]
        exact (hats i (by omega)).keep (fun g o hg ho => by rw [GHeap.get_set_ne (by omega)]; exact j.2 _ _ ho) (Nat.le_refl _)
   omega
  try simp only [sps] at n
  refine .exit (x _ _ (.seq (fun K8 u => .region (.mv rfl (.mv rfl (.nil (u _ _ (.ret (m _ _ (⟨_, rfl, ?_⟩))))))))))
  exact ⟨hle', _, q, rfl, g0, _, cs, rfl, b, hget, hcs, fun i hi => c i (by omega), fun i hi => (hats i (by omega)).keep (.of_le (.refl _)) (by omega)⟩
theorem toCategory_c {c : Cat} {p : CatP} {H : GHeap} (hin : c.In H p := by assumption) (hs : c.Small := by assumption) : GCalls Try.prog 32 [.agg (c.cells p).toArray] H (NewCat H c) := by
  obtain ⟨_, _, _, _, _, -⟩ := hs
  refine GCalls.body (N := 24) (rs := [.cell 2 31]) Try.func32 rfl rfl rfl rfl (fun Qx m hend => ?_)
  refine .fg [0] rfl ?_
  refine .seq (fun K1 u => .region (.d rfl rfl rfl (.box rfl sz_25_E rfl CIs.mk) ?_))
  show GRun _ _ _ _ _ _ (H.push (.row (c.cells p) 25 true))
  have n := GHeap.le_push H (.row (c.cells p) 25 true)
  have hb : Cat.At (H.push (.row (c.cells p) 25 true)) H.next 0 c p := ⟨Mem.new _ _ _ _, hin.mono n⟩
  generalize H.push (.row (c.cells p) 25 true) = H1 at *
  refine .d rfl rfl rfl (.alloc rfl ze_31_E rfl CIs.mk) (.nil (u _ _ (.seq (fun K2 z => .region (.d rfl rfl rfl (.alloc rfl ze_31_E rfl CIs.mk) ?_)))))
  show GRun _ _ _ _ _ _ ((H1.push (.row [(.int .i64 0 : Value), (.slice none 0 0 : Value), (.slice none 0 0 : Value), (.slice none 0 0 : Value), (.slice none 0 0 : Value)] 31 true)).push (.row [(.int .i64 0 : Value), (.slice none 0 0 : Value), (.slice none 0 0 : Value), (.slice none 0 0 : Value), (.slice none 0 0 : Value)] 31 true))
  have B := Bld.start H1 31 [(.int .i64 0 : Value), (.slice none 0 0 : Value), (.slice none 0 0 : Value), (.slice none 0 0 : Value), (.slice none 0 0 : Value)]
  generalize (H1.push (.row [(.int .i64 0 : Value), (.slice none 0 0 : Value), (.slice none 0 0 : Value), (.slice none 0 0 : Value), (.slice none 0 0 : Value)] 31 true)).next = g3 at *
  generalize (H1.push (.row [(.int .i64 0 : Value), (.slice none 0 0 : Value), (.slice none 0 0 : Value), (.slice none 0 0 : Value), (.slice none 0 0 : Value)] 31 true)).push (.row [(.int .i64 0 : Value), (.slice none 0 0 : Value), (.slice none 0 0 : Value), (.slice none 0 0 : Value), (.slice none 0 0 : Value)] 31 true) = H3 at *
  generalize g3 + 1 = b at *
  obtain ⟨_, -, -, -, -, -, -, -, -⟩ := (hb.mono B.le).get
  refine .nil (z _ _ (.seq (fun K3 s => .region (.q rfl (.fieldAddr fo_25_0_E rfl) (.q rfl (.lA on_2_A rfl) (.q rfl (.fieldAddr fo_31_0_B rfl) (.d0 rfl rfl (.store rfl sz_2_E rfl rfl rfl B.own (Nat.le_of_ble_eq_true rfl) CIs.mk) ?_)))))))
  show GRun _ _ _ _ _ _ (H3.set g3 (some (.row ([.int .i64 c.obj] ++ ([(.slice none 0 0 : Value)] ++ ([(.slice none 0 0 : Value)] ++ ([(.slice none 0 0 : Value)] ++ ([(.slice none 0 0 : Value)]))))) 31 true)))
  have ⟨B, hk⟩ := B.store ([.int .i64 c.obj] ++ ([(.slice none 0 0 : Value)] ++ ([(.slice none 0 0 : Value)] ++ ([(.slice none 0 0 : Value)] ++ ([(.slice none 0 0 : Value)])))))
  generalize H3.set g3 (some (.row ([.int .i64 c.obj] ++ ([(.slice none 0 0 : Value)] ++ ([(.slice none 0 0 : Value)] ++ ([(.slice none 0 0 : Value)] ++ ([(.slice none 0 0 : Value)]))))) 31 true)) = H10 at *
  obtain ⟨-, _, -, -, -, _, -, -, -⟩ := (hb.mono B.le).get
  refine .nil (s _ _ (.seq (fun K4 t => .region (.q rfl (.fieldAddr fo_25_1_E rfl) (.q rfl (.lA on_22_B rfl) ?_)))))
  have j := B.bn
  refine .call rfl rfl rfl rfl en33 rfl (toInt64S_c) ?_
  rintro _ H2 ⟨f, g2, rfl, a, k⟩
  have B := B.call f
  obtain ⟨e, hga⟩ : ∃ x, x = g2 := ⟨_, rfl⟩
  rw [← hga] at a k ⊢
  clear hga
  have v1 : IntsAt b H2 (some ⟨e, 0, none⟩) c.src := ⟨_, _, rfl, by have := j; omega, a⟩
  refine .q rfl (.fieldAddr fo_31_1_B rfl) (.d0 rfl rfl (.store rfl sz_22_E rfl rfl rfl B.own (Nat.le_of_ble_eq_true rfl) CIs.mk) ?_)
  show GRun _ _ _ _ _ _ (H2.set g3 (some (.row ([.int .i64 c.obj] ++ ([.slice (some ⟨e, 0, none⟩) c.src.length c.src.length] ++ ([(.slice none 0 0 : Value)] ++ ([(.slice none 0 0 : Value)] ++ ([(.slice none 0 0 : Value)]))))) 31 true)))
  have ⟨B, hk⟩ := B.store ([.int .i64 c.obj] ++ ([.slice (some ⟨e, 0, none⟩) c.src.length c.src.length] ++ ([(.slice none 0 0 : Value)] ++ ([(.slice none 0 0 : Value)] ++ ([(.slice none 0 0 : Value)])))))
  replace v1 := v1.keep hk (Nat.le_refl _)
  generalize H2.set g3 (some (.row ([.int .i64 c.obj] ++ ([.slice (some ⟨e, 0, none⟩) c.src.length c.src.length] ++ ([(.slice none 0 0 : Value)] ++ ([(.slice none 0 0 : Value)] ++ ([(.slice none 0 0 : Value)]))))) 31 true)) = H11 at *
  obtain ⟨-, -, _, -, -, -, _, -, -⟩ := (hb.mono B.le).get
  refine .nil (t _ _ (.seq (fun K5 o => .region (.q rfl (.fieldAddr fo_25_2_E rfl) (.q rfl (.lA on_22_B rfl) ?_)))))
  have j := B.bn
  refine .call rfl rfl rfl rfl en33 rfl (toInt64S_c) ?_
  rintro _ H2 ⟨f, g2, rfl, a, k⟩
  have B := B.call f
  obtain ⟨g, hga⟩ : ∃ x, x = g2 := ⟨_, rfl⟩
  rw [← hga] at a k ⊢
  clear hga
  have v2 : IntsAt b H2 (some ⟨g, 0, none⟩) c.tgt := ⟨_, _, rfl, by have := j; omega, a⟩
  replace v1 := v1.keep (.of_le f) (Nat.le_refl _)
  refine .q rfl (.fieldAddr fo_31_2_B rfl) (.d0 rfl rfl (.store rfl sz_22_E rfl rfl rfl B.own (Nat.le_of_ble_eq_true rfl) CIs.mk) ?_)
  show GRun _ _ _ _ _ _ (H2.set g3 (some (.row ([.int .i64 c.obj] ++ ([.slice (some ⟨e, 0, none⟩) c.src.length c.src.length] ++ ([.slice (some ⟨g, 0, none⟩) c.tgt.length c.tgt.length] ++ ([(.slice none 0 0 : Value)] ++ ([(.slice none 0 0 : Value)]))))) 31 true)))
  have ⟨B, hk⟩ := B.store ([.int .i64 c.obj] ++ ([.slice (some ⟨e, 0, none⟩) c.src.length c.src.length] ++ ([.slice (some ⟨g, 0, none⟩) c.tgt.length c.tgt.length] ++ ([(.slice none 0 0 : Value)] ++ ([(.slice none 0 0 : Value)])))))
  replace v1 := v1.keep hk (Nat.le_refl _)
  replace v2 := v2.keep hk (Nat.le_refl _)
  generalize H2.set g3 (some (.row ([.int .i64 c.obj] ++ ([.slice (some ⟨e, 0, none⟩) c.src.length c.src.length] ++ ([.slice (some ⟨g, 0, none⟩) c.tgt.length c.tgt.length] ++ ([(.slice none 0 0 : Value)] ++ ([(.slice none 0 0 : Value)]))))) 31 true)) = H12 at *
  obtain ⟨-, -, -, _, -, -, -, _, -⟩ := (hb.mono B.le).get
  refine .nil (o _ _ (.seq (fun K6 w => .region (.q rfl (.fieldAddr fo_25_3_E rfl) (.q rfl (.lA on_22_B rfl) ?_)))))
  have j := B.bn
  refine .call rfl rfl rfl rfl en33 rfl (toInt64S_c) ?_
  rintro _ H2 ⟨f, g2, rfl, a, k⟩
  have B := B.call f
  obtain ⟨h, hga⟩ : ∃ x, x = g2 := ⟨_, rfl⟩
  rw [← hga] at a k ⊢
  clear hga
  have v3 : IntsAt b H2 (some ⟨h, 0, none⟩) c.idn := ⟨_, _, rfl, by have := j; omega, a⟩
  replace v1 := v1.keep (.of_le f) (Nat.le_refl _)
  replace v2 := v2.keep (.of_le f) (Nat.le_refl _)
  refine .q rfl (.fieldAddr fo_31_3_B rfl) (.d0 rfl rfl (.store rfl sz_22_E rfl rfl rfl B.own (Nat.le_of_ble_eq_true rfl) CIs.mk) ?_)
  show GRun _ _ _ _ _ _ (H2.set g3 (some (.row ([.int .i64 c.obj] ++ ([.slice (some ⟨e, 0, none⟩) c.src.length c.src.length] ++ ([.slice (some ⟨g, 0, none⟩) c.tgt.length c.tgt.length] ++ ([.slice (some ⟨h, 0, none⟩) c.idn.length c.idn.length] ++ ([(.slice none 0 0 : Value)]))))) 31 true)))
  have ⟨B, hk⟩ := B.store ([.int .i64 c.obj] ++ ([.slice (some ⟨e, 0, none⟩) c.src.length c.src.length] ++ ([.slice (some ⟨g, 0, none⟩) c.tgt.length c.tgt.length] ++ ([.slice (some ⟨h, 0, none⟩) c.idn.length c.idn.length] ++ ([(.slice none 0 0 : Value)])))))
  replace v1 := v1.keep hk (Nat.le_refl _)
  replace v2 := v2.keep hk (Nat.le_refl _)
  replace v3 := v3.keep hk (Nat.le_refl _)
  generalize H2.set g3 (some (.row ([.int .i64 c.obj] ++ ([.slice (some ⟨e, 0, none⟩) c.src.length c.src.length] ++ ([.slice (some ⟨g, 0, none⟩) c.tgt.length c.tgt.length] ++ ([.slice (some ⟨h, 0, none⟩) c.idn.length c.idn.length] ++ ([(.slice none 0 0 : Value)]))))) 31 true)) = H13 at *
  obtain ⟨-, -, -, -, _, -, -, -, _⟩ := (hb.mono B.le).get
  refine .nil (w _ _ (.seq (fun K7 v => .region (.q rfl (.fieldAddr fo_25_4_E rfl) (.q rfl (.lA on_23_B rfl) ?_)))))
  have j := B.bn
  refine .call rfl rfl rfl rfl en34 rfl (toInt64SS_c) ?_
  rintro _ H2 ⟨f, a2, r2, rfl, i⟩
  have B := B.call f
  obtain ⟨l, hga⟩ : ∃ x, x = a2 := ⟨_, rfl⟩
  rw [← hga] at i ⊢
  clear hga
  obtain ⟨r, hga⟩ : ∃ x, x = r2 := ⟨_, rfl⟩
  rw [← hga] at i
  clear hga
  have v4 := i.keep (.of_le (.refl _)) j
  replace v1 := v1.keep (.of_le f) (Nat.le_refl _)
  replace v2 := v2.keep (.of_le f) (Nat.le_refl _)
  replace v3 := v3.keep (.of_le f) (Nat.le_refl _)
  refine .q rfl (.fieldAddr fo_31_4_B rfl) (.d0 rfl rfl (.store rfl sz_23_E rfl rfl rfl B.own (Nat.le_of_ble_eq_true rfl) CIs.mk) ?_)
  show GRun _ _ _ _ _ _ (H2.set g3 (some (.row ([.int .i64 c.obj] ++ ([.slice (some ⟨e, 0, none⟩) c.src.length c.src.length] ++ ([.slice (some ⟨g, 0, none⟩) c.tgt.length c.tgt.length] ++ ([.slice (some ⟨h, 0, none⟩) c.idn.length c.idn.length] ++ ([.slice l c.comp.length c.comp.length]))))) 31 true)))
  have ⟨B, hk⟩ := B.store ([.int .i64 c.obj] ++ ([.slice (some ⟨e, 0, none⟩) c.src.length c.src.length] ++ ([.slice (some ⟨g, 0, none⟩) c.tgt.length c.tgt.length] ++ ([.slice (some ⟨h, 0, none⟩) c.idn.length c.idn.length] ++ ([.slice l c.comp.length c.comp.length])))))
  replace v1 := v1.keep hk (Nat.le_refl _)
  replace v2 := v2.keep hk (Nat.le_refl _)
  replace v3 := v3.keep hk (Nat.le_refl _)
  replace v4 := v4.keep hk (Nat.le_refl _)
  generalize H2.set g3 (some (.row ([.int .i64 c.obj] ++ ([.slice (some ⟨e, 0, none⟩) c.src.length c.src.length] ++ ([.slice (some ⟨g, 0, none⟩) c.tgt.length c.tgt.length] ++ ([.slice (some ⟨h, 0, none⟩) c.idn.length c.idn.length] ++ ([.slice l c.comp.length c.comp.length]))))) 31 true)) = H14 at *
  refine .nil (v _ _ (.seq (fun K8 y => .region ?_)))
  refine .q rfl (.loadM ag_31_D rfl ⟨rfl, Mem.of_get B.own⟩) ?_
  refine .d0 rfl rfl (.storeN rfl sz_31_D rfl rfl rfl rfl B.res (Nat.le_of_ble_eq_true rfl) CIs.mk) ?_
  rw [setAll_all _ _ (by rfl)]
  refine .nil (y _ _ (.ret (m _ _ ?_)))
  refine ⟨_, _, _, _, rfl, ag_31_D, (by rfl), (Mem.of_get (GHeap.get_set_eq (GHeap.ltg B.res))), ?_⟩
  exact ⟨n.trans (B.done _).1, ⟨some ⟨e, 0, none⟩, some ⟨g, 0, none⟩, some ⟨h, 0, none⟩, l, r⟩, rfl, (CatAt.keep (b := b) (b' := b) ⟨v1, v2, v3, v4⟩ (B.done _).2 (Nat.le_refl _)).keep (.of_le (.refl _)) (by have := B.l2; have := n.1; omega)⟩
theorem toFunctor_c {c : Fun} {p : FunP} {H : GHeap} (hin : c.In H p := by assumption) (hs : c.Small := by assumption) : GCalls Try.prog 16 [.agg (c.cells p).toArray] H (NewFun H c) := by
  obtain ⟨_, _, _, _⟩ := hs
  refine GCalls.body (N := 21) (rs := [.cell 2 46]) Try.func16 rfl rfl rfl rfl (fun Qx l hend => ?_)
  refine .fg [0] rfl ?_
  refine .seq (fun K1 r => .region (.d rfl rfl rfl (.box rfl sz_41_E rfl CIs.mk) ?_))
  show GRun _ _ _ _ _ _ (H.push (.row (c.cells p) 41 true))
  have n := GHeap.le_push H (.row (c.cells p) 41 true)
  have hb : Fun.At (H.push (.row (c.cells p) 41 true)) H.next 0 c p := ⟨Mem.new _ _ _ _, hin.mono n⟩
  generalize H.push (.row (c.cells p) 41 true) = H1 at *
  refine .d rfl rfl rfl (.alloc rfl ze_46_E rfl CIs.mk) (.nil (r _ _ (.seq (fun K2 v => .region (.d rfl rfl rfl (.alloc rfl ze_46_E rfl CIs.mk) ?_)))))
  show GRun _ _ _ _ _ _ ((H1.push (.row [(.int .i64 0 : Value), (.slice none 0 0 : Value), (.slice none 0 0 : Value), (.slice none 0 0 : Value), (.slice none 0 0 : Value), (.int .i64 0 : Value), (.slice none 0 0 : Value), (.slice none 0 0 : Value), (.slice none 0 0 : Value), (.slice none 0 0 : Value), (.slice none 0 0 : Value), (.slice none 0 0 : Value)] 46 true)).push (.row [(.int .i64 0 : Value), (.slice none 0 0 : Value), (.slice none 0 0 : Value), (.slice none 0 0 : Value), (.slice none 0 0 : Value), (.int .i64 0 : Value), (.slice none 0 0 : Value), (.slice none 0 0 : Value), (.slice none 0 0 : Value), (.slice none 0 0 : Value), (.slice none 0 0 : Value), (.slice none 0 0 : Value)] 46 true))
  have B := Bld.start H1 46 [(.int .i64 0 : Value), (.slice none 0 0 : Value), (.slice none 0 0 : Value), (.slice none 0 0 : Value), (.slice none 0 0 : Value), (.int .i64 0 : Value), (.slice none 0 0 : Value), (.slice none 0 0 : Value), (.slice none 0 0 : Value), (.slice none 0 0 : Value), (.slice none 0 0 : Value), (.slice none 0 0 : Value)]
  generalize (H1.push (.row [(.int .i64 0 : Value), (.slice none 0 0 : Value), (.slice none 0 0 : Value), (.slice none 0 0 : Value), (.slice none 0 0 : Value), (.int .i64 0 : Value), (.slice none 0 0 : Value), (.slice none 0 0 : Value), (.slice none 0 0 : Value), (.slice none 0 0 : Value), (.slice none 0 0 : Value), (.slice none 0 0 : Value)] 46 true)).next = g3 at *
  generalize (H1.push (.row [(.int .i64 0 : Value), (.slice none 0 0 : Value), (.slice none 0 0 : Value), (.slice none 0 0 : Value), (.slice none 0 0 : Value), (.int .i64 0 : Value), (.slice none 0 0 : Value), (.slice none 0 0 : Value), (.slice none 0 0 : Value), (.slice none 0 0 : Value), (.slice none 0 0 : Value), (.slice none 0 0 : Value)] 46 true)).push (.row [(.int .i64 0 : Value), (.slice none 0 0 : Value), (.slice none 0 0 : Value), (.slice none 0 0 : Value), (.slice none 0 0 : Value), (.int .i64 0 : Value), (.slice none 0 0 : Value), (.slice none 0 0 : Value), (.slice none 0 0 : Value), (.slice none 0 0 : Value), (.slice none 0 0 : Value), (.slice none 0 0 : Value)] 46 true) = H3 at *
  generalize g3 + 1 = b at *
  obtain ⟨fs, -, -, -, -, -⟩ := (hb.mono B.le).get
  have _ : MemN _ _ _ _ _ := ⟨rfl, fs.1⟩
  have _ := fs.2
  refine .nil (v _ _ (.seq (fun K3 w => .region (.q rfl (.fieldAddr fo_41_0_E rfl) ?_))))
  refine .q rfl (.loadM ag_25_E rfl (by assumption)) ?_
  have j := B.bn
  refine .call rfl rfl rfl rfl en32 rfl (toCategory_c) ?_
  rintro _ H2 ⟨e, p2, rfl, g⟩
  have B := B.call e
  obtain ⟨f, hga⟩ : ∃ x, x = p2 := ⟨_, rfl⟩
  rw [← hga] at g ⊢
  clear hga
  have v0 := g.keep (.of_le (.refl _)) j
  refine .q rfl (.fieldAddr fo_46_0_E rfl) (.d0 rfl rfl (.storeN rfl sz_31_D rfl rfl rfl rfl B.own (Nat.le_of_ble_eq_true rfl) CIs.mk) ?_)
  show GRun _ _ _ _ _ _ (H2.set g3 (some (.row (c.s.cells f ++ ([(.int .i64 0 : Value), (.slice none 0 0 : Value), (.slice none 0 0 : Value), (.slice none 0 0 : Value), (.slice none 0 0 : Value)] ++ ([(.slice none 0 0 : Value)] ++ ([(.slice none 0 0 : Value)])))) 46 true)))
  have ⟨B, hk⟩ := B.store (c.s.cells f ++ ([(.int .i64 0 : Value), (.slice none 0 0 : Value), (.slice none 0 0 : Value), (.slice none 0 0 : Value), (.slice none 0 0 : Value)] ++ ([(.slice none 0 0 : Value)] ++ ([(.slice none 0 0 : Value)]))))
  replace v0 := v0.keep hk (Nat.le_refl _)
  generalize H2.set g3 (some (.row (c.s.cells f ++ ([(.int .i64 0 : Value), (.slice none 0 0 : Value), (.slice none 0 0 : Value), (.slice none 0 0 : Value), (.slice none 0 0 : Value)] ++ ([(.slice none 0 0 : Value)] ++ ([(.slice none 0 0 : Value)])))) 46 true)) = H10 at *
  obtain ⟨-, ft, -, -, -, -⟩ := (hb.mono B.le).get
  have _ : MemN _ _ _ _ _ := ⟨rfl, ft.1⟩
  have _ := ft.2
  refine .nil (w _ _ (.seq (fun K4 y => .region (.q rfl (.fieldAddr fo_41_1_E rfl) ?_))))
  refine .q rfl (.loadM ag_25_E rfl (by assumption)) ?_
  have j := B.bn
  refine .call rfl rfl rfl rfl en32 rfl (toCategory_c) ?_
  rintro _ H2 ⟨e, p2, rfl, g⟩
  have B := B.call e
  obtain ⟨h, hga⟩ : ∃ x, x = p2 := ⟨_, rfl⟩
  rw [← hga] at g ⊢
  clear hga
  have v1 := g.keep (.of_le (.refl _)) j
  replace v0 := v0.keep (.of_le e) (Nat.le_refl _)
  refine .q rfl (.fieldAddr fo_46_1_E rfl) (.d0 rfl rfl (.storeN rfl sz_31_D rfl rfl rfl rfl B.own (Nat.le_of_ble_eq_true rfl) CIs.mk) ?_)
  show GRun _ _ _ _ _ _ (H2.set g3 (some (.row (c.s.cells f ++ (c.t.cells h ++ ([(.slice none 0 0 : Value)] ++ ([(.slice none 0 0 : Value)])))) 46 true)))
  have ⟨B, hk⟩ := B.store (c.s.cells f ++ (c.t.cells h ++ ([(.slice none 0 0 : Value)] ++ ([(.slice none 0 0 : Value)]))))
  replace v0 := v0.keep hk (Nat.le_refl _)
  replace v1 := v1.keep hk (Nat.le_refl _)
  generalize H2.set g3 (some (.row (c.s.cells f ++ (c.t.cells h ++ ([(.slice none 0 0 : Value)] ++ ([(.slice none 0 0 : Value)])))) 46 true)) = H11 at *
  obtain ⟨-, -, _, -, _, -⟩ := (hb.mono B.le).get
  refine .nil (y _ _ (.seq (fun K5 o => .region (.q rfl (.fieldAddr fo_41_2_E rfl) (.q rfl (.lA on_22_B rfl) ?_)))))
  have j := B.bn
  refine .call rfl rfl rfl rfl en33 rfl (toInt64S_c) ?_
  rintro _ H2 ⟨e, g2, rfl, a, m⟩
  have B := B.call e
  obtain ⟨i, hga⟩ : ∃ x, x = g2 := ⟨_, rfl⟩
  rw [← hga] at a m ⊢
  clear hga
  have v2 : IntsAt b H2 (some ⟨i, 0, none⟩) c.ob := ⟨_, _, rfl, by have := j; omega, a⟩
  replace v0 := v0.keep (.of_le e) (Nat.le_refl _)
  replace v1 := v1.keep (.of_le e) (Nat.le_refl _)
  refine .q rfl (.fieldAddr fo_46_2_E rfl) (.d0 rfl rfl (.store rfl sz_22_E rfl rfl rfl B.own (Nat.le_of_ble_eq_true rfl) CIs.mk) ?_)
  show GRun _ _ _ _ _ _ (H2.set g3 (some (.row (c.s.cells f ++ (c.t.cells h ++ ([.slice (some ⟨i, 0, none⟩) c.ob.length c.ob.length] ++ ([(.slice none 0 0 : Value)])))) 46 true)))
  have ⟨B, hk⟩ := B.store (c.s.cells f ++ (c.t.cells h ++ ([.slice (some ⟨i, 0, none⟩) c.ob.length c.ob.length] ++ ([(.slice none 0 0 : Value)]))))
  replace v0 := v0.keep hk (Nat.le_refl _)
  replace v1 := v1.keep hk (Nat.le_refl _)
  replace v2 := v2.keep hk (Nat.le_refl _)
  generalize H2.set g3 (some (.row (c.s.cells f ++ (c.t.cells h ++ ([.slice (some ⟨i, 0, none⟩) c.ob.length c.ob.length] ++ ([(.slice none 0 0 : Value)])))) 46 true)) = H12 at *
  obtain ⟨-, -, -, _, -, _⟩ := (hb.mono B.le).get
  refine .nil (o _ _ (.seq (fun K6 z => .region (.q rfl (.fieldAddr fo_41_3_E rfl) (.q rfl (.lA on_22_B rfl) ?_)))))
  have j := B.bn
  refine .call rfl rfl rfl rfl en33 rfl (toInt64S_c) ?_
  rintro _ H2 ⟨e, g2, rfl, a, m⟩
  have B := B.call e
  obtain ⟨k, hga⟩ : ∃ x, x = g2 := ⟨_, rfl⟩
  rw [← hga] at a m ⊢
  clear hga
  have v3 : IntsAt b H2 (some ⟨k, 0, none⟩) c.ar := ⟨_, _, rfl, by have := j; omega, a⟩
  replace v0 := v0.keep (.of_le e) (Nat.le_refl _)
  replace v1 := v1.keep (.of_le e) (Nat.le_refl _)
  replace v2 := v2.keep (.of_le e) (Nat.le_refl _)
  refine .q rfl (.fieldAddr fo_46_3_E rfl) (.d0 rfl rfl (.store rfl sz_22_E rfl rfl rfl B.own (Nat.le_of_ble_eq_true rfl) CIs.mk) ?_)
  show GRun _ _ _ _ _ _ (H2.set g3 (some (.row (c.s.cells f ++ (c.t.cells h ++ ([.slice (some ⟨i, 0, none⟩) c.ob.length c.ob.length] ++ ([.slice (some ⟨k, 0, none⟩) c.ar.length c.ar.length])))) 46 true)))
  have ⟨B, hk⟩ := B.store (c.s.cells f ++ (c.t.cells h ++ ([.slice (some ⟨i, 0, none⟩) c.ob.length c.ob.length] ++ ([.slice (some ⟨k, 0, none⟩) c.ar.length c.ar.length]))))
  replace v0 := v0.keep hk (Nat.le_refl _)
  replace v1 := v1.keep hk (Nat.le_refl _)
  replace v2 := v2.keep hk (Nat.le_refl _)
  replace v3 := v3.keep hk (Nat.le_refl _)
  generalize H2.set g3 (some (.row (c.s.cells f ++ (c.t.cells h ++ ([.slice (some ⟨i, 0, none⟩) c.ob.length c.ob.length] ++ ([.slice (some ⟨k, 0, none⟩) c.ar.length c.ar.length])))) 46 true)) = H13 at *
  refine .nil (z _ _ (.seq (fun K7 u => .region ?_)))
  refine .q rfl (.loadM ag_46_E rfl ⟨rfl, Mem.of_get B.own⟩) ?_
  refine .d0 rfl rfl (.storeN rfl sz_46_E rfl rfl rfl rfl B.res (Nat.le_of_ble_eq_true rfl) CIs.mk) ?_
  rw [setAll_all _ _ (by rfl)]
  refine .nil (u _ _ (.ret (l _ _ ?_)))
  refine ⟨_, _, _, _, rfl, ag_46_E, (by rfl), (Mem.of_get (GHeap.get_set_eq (GHeap.ltg B.res))), ?_⟩
  exact ⟨n.trans (B.done _).1, ⟨f, h, some ⟨i, 0, none⟩, some ⟨k, 0, none⟩⟩, rfl, (FunAt.keep (b := b) (b' := b) ⟨v0, v1, v2, v3⟩ (B.done _).2 (Nat.le_refl _)).keep (.of_le (.refl _)) (by have := B.l2; have := n.1; omega)⟩
theorem eqInt64S_c {a b : Option Addr} {xs : List Int} {H : GHeap} (h : Ints H a xs := by assumption) (h' : Ints H b xs := by assumption) (hx : xs.length ≤ 1048576 := by omega) :
    GCalls Try.prog 19 [.slice a xs.length xs.length, .slice b xs.length xs.length] H (Ret (.bool true) H) := by
  refine GCalls.body (N := 26) (rs := [.tmp 4]) Try.func19 rfl rfl rfl rfl (fun Qx c hend => ?_)
  refine .fg [0, 1] rfl ?_
  refine .seq (fun K1 n => .region (.mv rfl (.nil (n _ _ (.seq (fun K2 s => .seq (fun K3 u => .region (.mv rfl (.q rfl (.len sl_22_A rfl) (.mv rfl (.q rfl (.len sl_22_A rfl) (.q rfl (.cmp rfl rfl rfl) (.nil (u _ _ ?_))))))))))))))
  refine .cond rfl ?_ ?_ <;> intro j
  ·
   try simp only [sps] at j
   refine .seq (fun K4 v => .region (.mv rfl (.nil (v _ _ (.ret (c _ _ (⟨_, rfl, ?_⟩)))))))
   (exfalso; simp_all)
  try simp only [sps] at j
  refine .skip (s _ _ (.seq (fun K5 m => .seq (fun K6 w => .region (.mv rfl (.nil (w _ _ (.block ?_))))))))
  refine .loopF (σ := Nat) [0, 1] (fun k => [(5, some (.int .i64 (k : Int)))]) (fun k H' => H = H' ∧ k ≤ xs.length) (fun k => xs.length - k) (0) rfl (.p rfl) ?_ ?_
  ·
   refine ⟨rfl, ?_⟩
   omega
  rintro k _ ⟨rfl, _⟩ _ e
  dsimp only [cA, nA]
  refine .seq (fun K7 r => .seq (fun K8 o => .region (.mv rfl (.mv rfl (.q rfl (.len sl_22_A rfl) (.q rfl (.cmp rfl rfl rfl) (.nil (o _ _ ?_))))))))
  refine .cond rfl ?_ ?_ <;> intro i
  ·
   try simp only [sps] at i
   refine .skip (r _ _ (.seq (fun K9 t => .block (.seq (fun K10 g => ?_)))))
   refine .regionD mo_B (.qs [0, 1, 2, 3, 4, 5, 6, 7, 8] (.done)) (by kernel_rfl) ?_
   refine .mv rfl rfl (.mv rfl rfl (.q rfl (.iN sl_22_A rfl rfl) (.q rfl (.lI on_2_A rfl) (.mv rfl rfl (.mv rfl rfl (.q rfl (.iN sl_22_A rfl rfl) (.q rfl (.lI on_2_A rfl) (.q rfl (.cmp rfl rfl rfl) (.done (g _ _ ?_))))))))))
   refine .cond rfl ?_ ?_ <;> intro l
   ·
    try simp only [sps] at l
    refine .seq (fun K11 d => .region (.mv rfl (.nil (d _ _ (.ret (c _ _ (⟨_, rfl, ?_⟩)))))))
    (exfalso; simp_all)
   try simp only [sps] at l
   refine .skip (t _ _ (.region (.mv rfl (.q rfl (.aD rfl rfl rfl) (.mv rfl (.nil ?_))))))
   refine e (k + 1) _ _ ?_ ?_ (.p rfl)
   ·
    refine ⟨rfl, ?_⟩
    omega
   omega
  try simp only [sps] at i
  refine .exit (m _ _ (.seq (fun K12 f => .region (.mv rfl (.nil (f _ _ (.ret (c _ _ (⟨_, rfl, ?_⟩)))))))))
  exact .of rfl
theorem eqInt64SS_c {a b : Option Addr} {xss : List (List Int)} {r r' : Nat → Option Addr} {H : GHeap} (h : Intss H a xss r := by assumption) (h' : Intss H b xss r' := by assumption) (hx : xss.length ≤ 1048576 := by omega) (hy : ∀ i, (xss.getD i []).length ≤ 1048576 := by assumption) :
    GCalls Try.prog 9 [.slice a xss.length xss.length, .slice b xss.length xss.length] H (Ret (.bool true) H) := by
  refine GCalls.body (N := 27) (rs := [.tmp 4]) Try.func9 rfl rfl rfl rfl (fun Qx d hend => ?_)
  refine .fg [0, 1] rfl ?_
  refine .seq (fun K1 s => .region (.mv rfl (.nil (s _ _ (.seq (fun K2 v => .seq (fun K3 w => .region (.mv rfl (.q rfl (.len sl_23_B rfl) (.mv rfl (.q rfl (.len sl_23_B rfl) (.q rfl (.cmp rfl rfl rfl) (.nil (w _ _ ?_))))))))))))))
  refine .cond rfl ?_ ?_ <;> intro n
  ·
   try simp only [sps] at n
   refine .seq (fun K4 y => .region (.mv rfl (.nil (y _ _ (.ret (d _ _ (⟨_, rfl, ?_⟩)))))))
   (exfalso; simp_all)
  try simp only [sps] at n
  refine .skip (v _ _ (.seq (fun K5 o => .seq (fun K6 z => .region (.mv rfl (.nil (z _ _ (.block ?_))))))))
  refine .loopF (σ := Nat) [0, 1] (fun k => [(5, some (.int .i64 (k : Int)))]) (fun k H' => H = H' ∧ k ≤ xss.length) (fun k => xss.length - k) (0) rfl (.p rfl) ?_ ?_
  ·
   refine ⟨rfl, ?_⟩
   omega
  rintro k _ ⟨rfl, _⟩ _ f
  dsimp only [cA, nA]
  refine .seq (fun K7 u => .seq (fun K8 t => .region (.mv rfl (.mv rfl (.q rfl (.len sl_23_B rfl) (.q rfl (.cmp rfl rfl rfl) (.nil (t _ _ ?_))))))))
  refine .cond rfl ?_ ?_ <;> intro m
  ·
   try simp only [sps] at m
   refine .skip (u _ _ (.seq (fun K9 x => .block (.seq (fun K10 j => ?_)))))
   refine .regionD mo_B (.qs [0, 1, 2, 3, 4, 5, 6, 7] (.c 8 0 (.q 9 (.done)))) (by kernel_rfl) ?_
   have _ := hy k
   have _ := h.2 k (by omega)
   have _ := h'.2 k (by omega)
   refine .mv rfl rfl (.mv rfl rfl ?_)
   refine .q rfl (.idxN sl_23_B (Intss.sl (by assumption)) rfl rfl (by omega)) ?_
   refine .q rfl (.loadR on_22_B (by assumption) rfl (by omega)) ?_
   refine .mv rfl rfl (.mv rfl rfl ?_)
   refine .q rfl (.idxN sl_23_B (Intss.sl (by assumption)) rfl rfl (by omega)) ?_
   refine .q rfl (.loadR on_22_B (by assumption) rfl (by omega)) ?_
   refine .callQ0 rfl rfl rfl rfl rfl en19 rfl (eqInt64S_c) ?_
   refine .q rfl (.not rfl) (.done (j _ _ ?_))
   refine .cond rfl ?_ ?_ <;> intro l
   ·
    try simp only [sps] at l
    refine .seq (fun K11 e => .region (.mv rfl (.nil (e _ _ (.ret (d _ _ (⟨_, rfl, ?_⟩)))))))
    (exfalso; simp_all)
   try simp only [sps] at l
   refine .skip (x _ _ (.region (.mv rfl (.q rfl (.aD rfl rfl rfl) (.mv rfl (.nil ?_))))))
   refine f (k + 1) _ _ ?_ ?_ (.p rfl)
   ·
    refine ⟨rfl, ?_⟩
    omega
   omega
  try simp only [sps] at m
  refine .exit (o _ _ (.seq (fun K12 g => .region (.mv rfl (.nil (g _ _ (.ret (d _ _ (⟨_, rfl, ?_⟩)))))))))
  exact .of rfl
theorem eqCategory_c {c : Cat} {p p' : CatP} {H : GHeap} (hin : c.In H p := by assumption) (hin' : c.In H p' := by assumption) (hs : c.Small := by assumption) : GCalls Try.prog 18 [.agg (c.cells p).toArray, .agg (c.cells p').toArray] H (Ret (.bool true) H) := by
  refine GCalls.ret rfl ?_
  obtain ⟨_, _, _, _, _, -⟩ := hs
  refine GCalls.body (N := 34) (rs := [.tmp 4]) Try.func18 rfl rfl rfl rfl (fun Qx a hend => ?_)
  refine .fg [0, 1] rfl ?_
  refine .seq (fun K1 w => .region (.d rfl rfl rfl (.box rfl sz_31_D rfl CIs.mk) ?_))
  show GRun _ _ _ _ _ _ (H.push (.row (c.cells p) 31 true))
  have e := GHeap.le_push H (.row (c.cells p) 31 true)
  have hb : Cat.At (H.push (.row (c.cells p) 31 true)) H.next 0 c p := ⟨Mem.new _ _ _ _, hin.mono e⟩
  generalize H.push (.row (c.cells p) 31 true) = H1 at *
  refine .d rfl rfl rfl (.box rfl sz_31_D rfl CIs.mk) ?_
  show GRun _ _ _ _ _ _ (H1.push (.row (c.cells p') 31 true))
  have b := GHeap.le_push H1 (.row (c.cells p') 31 true)
  have hb' : Cat.At (H1.push (.row (c.cells p') 31 true)) H1.next 0 c p' := ⟨Mem.new _ _ _ _, (hin'.mono e).mono b⟩
  replace hb := hb.mono b
  replace e := e.trans b
  generalize H1.push (.row (c.cells p') 31 true) = H2 at *
  obtain ⟨_, _, _, _, _, _, _, _, _⟩ := hb.get
  obtain ⟨_, _, _, _, _, _, _, _, _⟩ := hb'.get
  refine .mv rfl (.nil (w _ _ (.seq (fun K2 a0 => .seq (fun K3 u => .region (.q rfl (.fieldAddr fo_31_0_B rfl) (.q rfl (.lA on_2_A rfl) (.q rfl (.fieldAddr fo_31_0_B rfl) (.q rfl (.lA on_2_A rfl) (.q rfl (.cmp rfl rfl rfl) (.nil (u _ _ ?_))))))))))))
  refine .cond rfl ?_ ?_ <;> intro h9
  ·
   try simp only [sps] at h9
   refine .seq (fun K4 v => .region (.mv rfl (.nil (v _ _ (.ret (a _ _ (⟨_, rfl, ?_⟩)))))))
   (exfalso; simp_all)
  try simp only [sps] at h9
  refine .skip (a0 _ _ (.seq (fun K5 t => .seq (fun K6 y => .region (.q rfl (.fieldAddr fo_31_1_B rfl) (.q rfl (.lA on_22_B rfl) (.q rfl (.fieldAddr fo_31_1_B rfl) (.q rfl (.lA on_22_B rfl) ?_))))))))
  refine .callQ rfl rfl rfl rfl en19 rfl (eqInt64S_c) ?_
  refine .q rfl (.not rfl) (.nil (y _ _ ?_))
  refine .cond rfl ?_ ?_ <;> intro o
  ·
   try simp only [sps] at o
   refine .seq (fun K7 x => .region (.mv rfl (.nil (x _ _ (.ret (a _ _ (⟨_, rfl, ?_⟩)))))))
   (exfalso; simp_all)
  try simp only [sps] at o
  refine .skip (t _ _ (.seq (fun K8 z => .seq (fun K9 a1 => .region (.q rfl (.fieldAddr fo_31_2_B rfl) (.q rfl (.lA on_22_B rfl) (.q rfl (.fieldAddr fo_31_2_B rfl) (.q rfl (.lA on_22_B rfl) ?_))))))))
  refine .callQ rfl rfl rfl rfl en19 rfl (eqInt64S_c) ?_
  refine .q rfl (.not rfl) (.nil (a1 _ _ ?_))
  refine .cond rfl ?_ ?_ <;> intro r
  ·
   try simp only [sps] at r
   refine .seq (fun K10 k => .region (.mv rfl (.nil (k _ _ (.ret (a _ _ (⟨_, rfl, ?_⟩)))))))
   (exfalso; simp_all)
  try simp only [sps] at r
  refine .skip (z _ _ (.seq (fun K11 m => .seq (fun K12 g => .region (.q rfl (.fieldAddr fo_31_3_B rfl) (.q rfl (.lA on_22_B rfl) (.q rfl (.fieldAddr fo_31_3_B rfl) (.q rfl (.lA on_22_B rfl) ?_))))))))
  refine .callQ rfl rfl rfl rfl en19 rfl (eqInt64S_c) ?_
  refine .q rfl (.not rfl) (.nil (g _ _ ?_))
  refine .cond rfl ?_ ?_ <;> intro s
  ·
   try simp only [sps] at s
   refine .seq (fun K13 j => .region (.mv rfl (.nil (j _ _ (.ret (a _ _ (⟨_, rfl, ?_⟩)))))))
   (exfalso; simp_all)
  try simp only [sps] at s
  refine .skip (m _ _ (.seq (fun K14 i => .seq (fun K15 h => .region (.q rfl (.fieldAddr fo_31_4_B rfl) (.q rfl (.lA on_23_B rfl) (.q rfl (.fieldAddr fo_31_4_B rfl) (.q rfl (.lA on_23_B rfl) ?_))))))))
  refine .callQ rfl rfl rfl rfl en9 rfl (eqInt64SS_c) ?_
  refine .q rfl (.not rfl) (.nil (h _ _ ?_))
  refine .cond rfl ?_ ?_ <;> intro n
  ·
   try simp only [sps] at n
   refine .seq (fun K16 l => .region (.mv rfl (.nil (l _ _ (.ret (a _ _ (⟨_, rfl, ?_⟩)))))))
   (exfalso; simp_all)
  try simp only [sps] at n
  refine .skip (i _ _ (.seq (fun K17 f => .region (.mv rfl (.nil (f _ _ (.ret (a _ _ (⟨_, rfl, ?_⟩)))))))))
  exact ⟨rfl, e⟩
theorem eqFunctor_c {c : Fun} {p p' : FunP} {H : GHeap} (hin : c.In H p := by assumption) (hin' : c.In H p' := by assumption) (hs : c.Small := by assumption) : GCalls Try.prog 20 [.agg (c.cells p).toArray, .agg (c.cells p').toArray] H (Ret (.bool true) H) := by
  refine GCalls.ret rfl ?_
  obtain ⟨_, _, _, _⟩ := hs
  refine GCalls.body (N := 29) (rs := [.tmp 4]) Try.func20 rfl rfl rfl rfl (fun Qx a hend => ?_)
  refine .fg [0, 1] rfl ?_
  refine .seq (fun K1 l => .region (.d rfl rfl rfl (.box rfl sz_46_E rfl CIs.mk) ?_))
  show GRun _ _ _ _ _ _ (H.push (.row (c.cells p) 46 true))
  have e := GHeap.le_push H (.row (c.cells p) 46 true)
  have hb : Fun.At (H.push (.row (c.cells p) 46 true)) H.next 0 c p := ⟨Mem.new _ _ _ _, hin.mono e⟩
  generalize H.push (.row (c.cells p) 46 true) = H1 at *
  refine .d rfl rfl rfl (.box rfl sz_46_E rfl CIs.mk) ?_
  show GRun _ _ _ _ _ _ (H1.push (.row (c.cells p') 46 true))
  have b := GHeap.le_push H1 (.row (c.cells p') 46 true)
  have hb' : Fun.At (H1.push (.row (c.cells p') 46 true)) H1.next 0 c p' := ⟨Mem.new _ _ _ _, (hin'.mono e).mono b⟩
  replace hb := hb.mono b
  replace e := e.trans b
  generalize H1.push (.row (c.cells p') 46 true) = H2 at *
  obtain ⟨fs, ft, _, _, _, _⟩ := hb.get
  have _ : MemN _ _ _ _ _ := ⟨rfl, fs.1⟩
  have _ := fs.2
  have _ : MemN _ _ _ _ _ := ⟨rfl, ft.1⟩
  have _ := ft.2
  obtain ⟨fsy, fty, _, _, _, _⟩ := hb'.get
  have _ : MemN _ _ _ _ _ := ⟨rfl, fsy.1⟩
  have _ := fsy.2
  have _ : MemN _ _ _ _ _ := ⟨rfl, fty.1⟩
  have _ := fty.2
  refine .mv rfl (.nil (l _ _ (.seq (fun K2 o => .seq (fun K3 s => .region (.q rfl (.fieldAddr fo_46_0_E rfl) ?_))))))
  refine .q rfl (.loadM ag_31_D rfl (by assumption)) ?_
  refine .q rfl (.fieldAddr fo_46_0_E rfl) ?_
  refine .q rfl (.loadM ag_31_D rfl (by assumption)) ?_
  refine .callQ rfl rfl rfl rfl en18 rfl (eqCategory_c) ?_
  refine .q rfl (.not rfl) (.nil (s _ _ ?_))
  refine .cond rfl ?_ ?_ <;> intro h10
  ·
   refine .seq (fun K4 t => .region (.mv rfl (.nil (t _ _ (.ret (a _ _ (⟨_, rfl, ?_⟩)))))))
   (exfalso; simp_all)
  refine .skip (o _ _ (.seq (fun K5 k => .seq (fun K6 u => .region (.q rfl (.fieldAddr fo_46_1_E rfl) ?_)))))
  refine .q rfl (.loadM ag_31_D rfl (by assumption)) ?_
  refine .q rfl (.fieldAddr fo_46_1_E rfl) ?_
  refine .q rfl (.loadM ag_31_D rfl (by assumption)) ?_
  refine .callQ rfl rfl rfl rfl en18 rfl (eqCategory_c) ?_
  refine .q rfl (.not rfl) (.nil (u _ _ ?_))
  refine .cond rfl ?_ ?_ <;> intro h16
  ·
   refine .seq (fun K7 n => .region (.mv rfl (.nil (n _ _ (.ret (a _ _ (⟨_, rfl, ?_⟩)))))))
   (exfalso; simp_all)
  refine .skip (k _ _ (.seq (fun K8 m => .seq (fun K9 r => .region (.q rfl (.fieldAddr fo_46_2_E rfl) (.q rfl (.lA on_22_B rfl) (.q rfl (.fieldAddr fo_46_2_E rfl) (.q rfl (.lA on_22_B rfl) ?_))))))))
  refine .callQ rfl rfl rfl rfl en19 rfl (eqInt64S_c) ?_
  refine .q rfl (.not rfl) (.nil (r _ _ ?_))
  refine .cond rfl ?_ ?_ <;> intro h22
  ·
   refine .seq (fun K10 j => .region (.mv rfl (.nil (j _ _ (.ret (a _ _ (⟨_, rfl, ?_⟩)))))))
   (exfalso; simp_all)
  refine .skip (m _ _ (.seq (fun K11 h => .seq (fun K12 i => .region (.q rfl (.fieldAddr fo_46_3_E rfl) (.q rfl (.lA on_22_B rfl) (.q rfl (.fieldAddr fo_46_3_E rfl) (.q rfl (.lA on_22_B rfl) ?_))))))))
  refine .callQ rfl rfl rfl rfl en19 rfl (eqInt64S_c) ?_
  refine .q rfl (.not rfl) (.nil (i _ _ ?_))
  refine .cond rfl ?_ ?_ <;> intro h28
  ·
   refine .seq (fun K13 g => .region (.mv rfl (.nil (g _ _ (.ret (a _ _ (⟨_, rfl, ?_⟩)))))))
   (exfalso; simp_all)
  refine .skip (h _ _ (.seq (fun K14 f => .region (.mv rfl (.nil (f _ _ (.ret (a _ _ (⟨_, rfl, ?_⟩)))))))))
  exact ⟨rfl, e⟩
end Go.Proofs.Ytddjdkpjfpnjiaa
namespace Go.Proofs.Ytddjdkpjfpnjiaa
open Go Go.GL Go.RowKit Go.Proofs
variable [MainFlag]
theorem sl_92_F : sliceT Try.prog 92 = some (87, 1) := by kernel_rfl
theorem on_87_F : oneT Try.prog 87 = true := by kernel_rfl
theorem areCategories_c {a : Option Addr} {n : Nat} {G O : Nat → Nat} {C : Nat → Cat} {P : Nat → CatP} {H : GHeap} (h : SlA H a n (fun i => .pointer (some ⟨G i, O i, none⟩)) := by assumption) (hn : n ≤ 1048576 := by omega) (hc : ∀ i, i < n → Cat.At H (G i) (O i) (C i) (P i) := by assumption) (hs : ∀ i, i < n → (C i).Small := by assumption) :
    GCalls Try.prog 53 [.slice a n n] H (Ret (.bool (B (∀ i, i < n → (C i).Is))) H) := by
  refine GCalls.body (N := 15) (rs := [.tmp 2]) Try.func53 rfl rfl rfl rfl (fun Qx c hend => ?_)
  refine .fg [0] rfl ?_
  refine .seq (fun K1 l => .region (.mv rfl (.nil (l _ _ (.seq (fun K2 r => .seq (fun K3 t => .region (.mv rfl (.q rfl (.len sl_92_F rfl) (.mv rfl (.nil (t _ _ (.block ?_)))))))))))))
  refine .loopF (σ := Nat) [5, 6] (fun k => [(7, some (.int .i64 (k : Int)))]) (fun k H' => H = H' ∧ k ≤ n ∧ ∀ i, i < k → (C i).Is) (fun k => n - k) (0) rfl (.p rfl) ?_ ?_
  ·
   refine ⟨rfl, ?_⟩
   exact ⟨by omega, fun i hi => by omega⟩
  rintro k _ ⟨rfl, hI⟩ _ d
  dsimp only [cA, nA]
  obtain ⟨_, b⟩ := hI
  refine .seq (fun K4 u => .region (.q rfl (.cmp rfl rfl rfl) (.nil (u _ _ (.seq (fun K5 j => ?_))))))
  refine .cond rfl ?_ ?_ <;> intro h8
  ·
   try simp only [sps] at h8
   refine .skip (j _ _ (.seq (fun K6 v => .block (.seq (fun K7 o => .region ?_)))))
   have _ := hc k (by omega)
   have _ := hs k (by omega)
   refine .q rfl (.idxN sl_92_F h rfl rfl (by omega)) ?_
   refine .q rfl (.loadE on_87_F h rfl (by omega)) ?_
   refine .mv rfl (.nil (o _ _ (.seq (fun K8 m => .region (.mv rfl ?_)))))
   refine .callQ rfl rfl rfl rfl en63 rfl (isCategory_c) ?_
   refine .q rfl (.not rfl) (.nil (m _ _ ?_))
   refine .cond rfl ?_ ?_ <;> intro g
   ·
    try simp only [sps] at g
    refine .seq (fun K9 s => .region (.mv rfl (.nil (s _ _ (.ret (c _ _ (⟨_, rfl, ?_⟩)))))))
    exact .of (congrArg _ (B_false fun e => by have := e k (by omega); simp_all))
   try simp only [sps] at g
   refine .skip (v _ _ (.region (.q rfl (.aD rfl rfl rfl) (.mv rfl (.nil ?_)))))
   refine d (k + 1) _ _ ?_ ?_ (.p rfl)
   ·
    refine ⟨rfl, ?_⟩
    refine ⟨by omega, fun i hi => ?_⟩
    by_cases e : i < k
    · exact b i e
    · obtain rfl : i = k := by omega
      assumption
   omega
  try simp only [sps] at h8
  refine .exit (r _ _ (.seq (fun K10 f => .region (.mv rfl (.nil (f _ _ (.ret (c _ _ (⟨_, rfl, ?_⟩)))))))))
  exact .of (congrArg _ (B_true fun i hi => b i (by omega)))
end Go.Proofs.Ytddjdkpjfpnjiaa
namespace Go.GL
variable [MainFlag]

abbrev Fun.O (f : Fun) (x : Int) : Int := f.ob.getD x.toNat 0
abbrev Fun.A (f : Fun) (a : Int) : Int := f.ar.getD a.toNat 0
structure Fun.Fits (f : Fun) : Prop where
  ol : (f.ob.length : Int) = f.s.obj
  al : f.ar.length = f.s.src.length
  ob : ∀ i, i < f.ob.length → 0 ≤ f.ob.getD i 0 ∧ f.ob.getD i 0 < f.t.obj
  ar : ∀ i, i < f.ar.length → 0 ≤ f.ar.getD i 0 ∧ f.ar.getD i 0 < f.t.src.length
  ends : ∀ a, a < f.ar.length → f.t.src.getD (f.ar.getD a 0).toNat 0 = f.ob.getD (f.s.src.getD a 0).toNat 0 ∧ f.t.tgt.getD (f.ar.getD a 0).toNat 0 = f.ob.getD (f.s.tgt.getD a 0).toNat 0
  ids : ∀ x, x < f.s.idn.length → f.ar.getD (f.s.idn.getD x 0).toNat 0 = f.t.idn.getD (f.ob.getD x 0).toNat 0
  th : ∀ a, a < f.s.src.length → ∀ b, b < f.s.src.length → f.s.tgt.getD a 0 = f.s.src.getD b 0 → f.A (f.s.th a b) = f.t.th (f.ar.getD a 0) (f.ar.getD b 0)
def Fun.Is (f : Fun) : Prop := f.s.Is ∧ f.t.Is ∧ f.Fits

def Tra.Sq (m : Tra) (a : Nat) : Prop := m.s.t.th (m.s.ar.getD a 0) (m.co.getD (m.s.s.tgt.getD a 0).toNat 0) = m.s.t.th (m.co.getD (m.s.s.src.getD a 0).toNat 0) (m.t.ar.getD a 0)
structure Tra.Shape (m : Tra) : Prop where
  s : m.s.Is
  t : m.t.Is
  ps : m.s.s = m.t.s
  pt : m.s.t = m.t.t
  cl : (m.co.length : Int) = m.s.s.obj
  co : ∀ i, i < m.co.length → 0 ≤ m.co.getD i 0 ∧ m.co.getD i 0 < m.s.t.src.length
  ends : ∀ x, x < m.co.length → m.s.t.src.getD (m.co.getD x 0).toNat 0 = m.s.ob.getD x 0 ∧ m.s.t.tgt.getD (m.co.getD x 0).toNat 0 = m.t.ob.getD x 0
def Tra.Is (m : Tra) : Prop := m.Shape ∧ ∀ a, a < m.s.ar.length → m.Sq a
noncomputable def Tra.first (m : Tra) : Int := match firstN m.s.ar.length (fun a => !B (m.Sq a)) with | some a => (a : Int) | none => -1
theorem Sub.over {k : Nat} {v : Option Value} : ∀ {rest fr : Slots}, Sub rest fr → rest.all (fun p => p.1 != k) = true → Sub rest ((k, v) :: fr)
  | [], _, _, _ => trivial
  | (t, some u) :: r, fr, h, hk => by
    simp only [List.all_cons, Bool.and_eq_true, bne_iff_ne, ne_eq] at hk
    exact ⟨by rw [get_cons, if_neg (Ne.symm hk.1)]; exact h.1, h.2.over hk.2⟩
  | (t, none) :: r, fr, h, hk => by
    simp only [List.all_cons, Bool.and_eq_true] at hk
    exact Sub.over (rest := r) h hk.2

section
variable {P : Program} {N : Nat} {ops : Array Oper} {Q : Slots → GHeap → Prop} {fr : Slots} {H Hb : GHeap}
theorem GTree.two {a b s u : Nat} {oa ob os ou : Oper} {da db tx ty : Tmp} {e : TypeId} {z : List Value} {n : Nat} {vs ws : Array Value} (rest : Slots)
    (ha : ops[a]? = some oa) (hb : ops[b]? = some ob) (hs : ops[s]? = some os) (hu : ops[u]? = some ou) (hda : oa.dst = some da) (hdb : ob.dst = some db) (hNa : Nat.blt da N = true) (hNb : Nat.blt db N = true)
    (ga : oa.guard = none) (gb : ob.guard = none) (gs : os.guard = none) (gu : ou.guard = none) (hds : os.dst = none) (hdu : ou.dst = none)
    (oa' : oa.op = .alloc e) (ob' : ob.op = .alloc e) (os' : os.op = .store e (.tmp da) (.tmp tx)) (ou' : ou.op = .store e (.tmp db) (.tmp ty))
    (hz : zeroT P e = some (z, n)) (hfl : z.all flat1 = true) (hsz : (P.info? e).map (·.size) = some n) (hzl : z.length = n)
    (hx : fr.get tx = some (.agg vs)) (hy : fr.get ty = some (.agg ws)) (hvn : vs.size = n) (hwn : ws.size = n) (hv1 : vs.toList.all (·.oneCell') = true) (hw1 : ws.toList.all (·.oneCell') = true)
    (hne : (da != db) = true) (hxa : (tx != da) = true) (hxb : (tx != db) = true) (hya : (ty != da) = true) (hyb : (ty != db) = true)
    (hr : Sub rest fr) (hra : rest.all (fun p => p.1 != da) = true) (hrb : rest.all (fun p => p.1 != db) = true)
    (hle0 : Hb.Le H) (h : ∀ g g' H' fr', H.Le H' → H.next ≤ g → H.next ≤ g' → H'.get g = some (.row vs.toList e true) → H'.get g' = some (.row ws.toList e true) →
      Sub ((da, some (.pointer (some ⟨g, 0, none⟩))) :: (db, some (.pointer (some ⟨g', 0, none⟩))) :: rest) fr' → Q fr' H') :
    GTree P N ops Q (.or (.c a 1 (.c b 1 (.c s 1 (.c u 0 .done)))) (.c b 1 (.c a 1 (.c s 1 (.c u 0 .done))))) fr Hb H := by
  simp only [bne_iff_ne, ne_eq] at hne hxa hxb hya hyb
  have n1 := GHeap.next_push H (.row z e true)
  have l1 := GHeap.le_push H (.row z e true)
  have p1 := GHeap.get_push_new H (.row z e true)
  have n2 := GHeap.next_push (H.push (.row z e true)) (.row z e true)
  have l2 := GHeap.le_push (H.push (.row z e true)) (.row z e true)
  have p2 := GHeap.get_push_new (H.push (.row z e true)) (.row z e true)
  have p1' := l2.2 _ _ p1
  have sv : setAll z 0 vs.toList = vs.toList := setAll_all _ _ (by simp [hzl, hvn])
  have sw : setAll z 0 ws.toList = ws.toList := setAll_all _ _ (by simp [hzl, hwn])
  have le := l1.trans l2
  generalize hK : H.push (.row z e true) = H1 at *
  generalize hK2 : H1.push (.row z e true) = H2 at *
  have q1 := GHeap.ltg p1'
  have q2 := GHeap.ltg p2
  unfold GTree
  refine ⟨?_, ?_⟩
  · refine .d1 ha hda hNa ga (.alloc oa' hz hfl CIs.mk) (by rw [hK]; exact hle0.trans l1) ?_
    rw [hK]
    refine .d1 hb hdb hNb gb (.alloc ob' hz hfl CIs.mk) (by rw [hK2]; exact hle0.trans le) ?_
    rw [hK2]
    refine .s1 hs hds gs (.storeN (g := H.next) (off := 0) os' hsz (by show Slots.get _ da = _; rw [get_cons, if_neg (Ne.symm hne), get_cons, if_pos rfl]) (by show Slots.get _ tx = _; rw [get_cons, if_neg (Ne.symm hxb), get_cons, if_neg (Ne.symm hxa)]; exact hx) hvn hv1 p1' (by omega) CIs.mk) ((hle0.trans le).set_new hle0.1) ?_
    rw [sv]
    refine .s0 hu hdu gu (.storeN (g := H1.next) (off := 0) ou' hsz (by show Slots.get _ db = _; rw [get_cons, if_pos rfl]) (by show Slots.get _ ty = _; rw [get_cons, if_neg (Ne.symm hyb), get_cons, if_neg (Ne.symm hya)]; exact hy) hwn hw1 (by rw [GHeap.get_set_ne (by omega)]; exact p2) (by omega) CIs.mk) ?_
    rw [sw]
    refine GTree.done (h _ _ _ _ ((le.set_new (Nat.le_refl _)).set_new (by omega)) (Nat.le_refl _) (by omega) (by rw [GHeap.get_set_ne (by omega)]; exact GHeap.get_set_eq q1) (GHeap.get_set_eq (by simpa using q2)) ⟨?_, ?_, ?_⟩)
    · rw [get_cons, if_neg (Ne.symm hne), get_cons, if_pos rfl]
    · rw [get_cons, if_pos rfl]
    · exact (hr.over hra).over hrb
  · refine .d1 hb hdb hNb gb (.alloc ob' hz hfl CIs.mk) (by rw [hK]; exact hle0.trans l1) ?_
    rw [hK]
    refine .d1 ha hda hNa ga (.alloc oa' hz hfl CIs.mk) (by rw [hK2]; exact hle0.trans le) ?_
    rw [hK2]
    refine .s1 hs hds gs (.storeN (g := H1.next) (off := 0) os' hsz (by show Slots.get _ da = _; rw [get_cons, if_pos rfl]) (by show Slots.get _ tx = _; rw [get_cons, if_neg (Ne.symm hxa), get_cons, if_neg (Ne.symm hxb)]; exact hx) hvn hv1 p2 (by omega) CIs.mk) ((hle0.trans le).set_new (by have := hle0.1; omega)) ?_
    rw [sv]
    refine .s0 hu hdu gu (.storeN (g := H.next) (off := 0) ou' hsz (by show Slots.get _ db = _; rw [get_cons, if_neg hne, get_cons, if_pos rfl]) (by show Slots.get _ ty = _; rw [get_cons, if_neg (Ne.symm hya), get_cons, if_neg (Ne.symm hyb)]; exact hy) hwn hw1 (by rw [GHeap.get_set_ne (by omega)]; exact p1') (by omega) CIs.mk) ?_
    rw [sw]
    refine GTree.done (h H1.next H.next _ _ ((le.set_new (by omega)).set_new (Nat.le_refl _)) (by omega) (Nat.le_refl _) (by rw [GHeap.get_set_ne (by omega)]; exact GHeap.get_set_eq q2) (GHeap.get_set_eq (by simpa using q1)) ⟨?_, ?_, ?_⟩)
    · rw [get_cons, if_pos rfl]
    · rw [get_cons, if_neg hne, get_cons, if_pos rfl]
    · exact (hr.over hrb).over hra
end
end Go.GL
namespace Go.Proofs.Ytddjdkpjfpnjiaa
open Go Go.GL Go.RowKit Go.Proofs
variable [MainFlag]
theorem ze_87_G : zeroT Try.prog 87 = some ([.pointer none], 1) := by kernel_rfl
theorem fits_c {g o : Nat} {f : Fun} {p : FunP} {H : GHeap} (h : Fun.At H g o f p := by assumption) (hsI : f.s.Is := by assumption) (htI : f.t.Is := by assumption) (hsm : f.Small := by assumption) :
    GCalls Try.prog 54 [.pointer (some ⟨g, o, none⟩)] H (Ret (.bool (B f.Fits)) H) := by
  refine GCalls.body (N := 195) (rs := [.tmp 2]) Try.func54 rfl rfl rfl rfl (fun Qx d hend => ?_)
  refine .fg [0] rfl ?_
  obtain ⟨fs, ft, _, _, _, _⟩ := h.get
  obtain ⟨_, _, _, _, _, i1, _, _, i4⟩ := fs.get
  obtain ⟨_, _, _, _, -, _, _, _, -⟩ := ft.get
  obtain ⟨hS, -⟩ := hsI
  obtain ⟨hT, -⟩ := htI
  obtain ⟨m1, m2, _, _⟩ := hsm
  obtain ⟨-, _, _, -, -, -⟩ := m1
  obtain ⟨_, -, _, -, -, -⟩ := m2
  have _ := hS.tl
  have _ := hS.n40
  have _ := hS.il
  have _ := hS.obj
  have _ := hS.cl
  have _ := hT.tl
  have _ := hT.n40
  have _ := hT.il
  have _ := hT.obj
  have _ := hT.cl
  refine .seq (fun K1 f7 => .region (.mv rfl (.nil (f7 _ _ (.seq (fun K2 g1 => ?_))))))
  refine .regionD mo_B (.qs [0, 1, 2, 3, 4, 5, 6, 7] (.done)) (by kernel_rfl) ?_
  refine .mv rfl rfl (.q rfl (.nilCheck rfl) (.q rfl (.fieldAddr fo_46_0_E rfl) (.mv rfl rfl (.q rfl (.nilCheck rfl) (.q rfl (.fieldAddr fo_46_1_E rfl) (.mv rfl rfl (.mv rfl rfl (.done (g1 _ _ (.seq (fun K3 f6 => .seq (fun K4 a6 => ?_))))))))))))
  refine .regionD mo_B (.qs [0, 1, 2, 3, 4, 5, 6, 7, 8, 9, 10, 11, 12, 13, 14, 15, 16] (.c 17 1 (.qs [18, 19, 20, 21, 22, 23, 24, 25, 26, 27, 28] (.c 29 0 (.qs [30, 31, 32, 33, 34, 35, 36, 37] (.c 38 1 (.c 39 0 (.q 40 (.q 41 (.done)))))))))) (by kernel_rfl) ?_
  refine .mv rfl rfl (.q rfl (.nilCheck rfl) (.q rfl (.fieldAddr fo_46_2_E rfl) (.q rfl (.lA on_22_B rfl) (.q rfl (.len sl_22_A rfl) (.mv rfl rfl (.q rfl (.nilCheck rfl) (.q rfl (.fieldAddr fo_31_0_B rfl) (.q rfl (.lA on_2_A rfl) (.q rfl (.cmp rfl rfl rfl) (.mv rfl rfl ?_))))))))))
  refine .split (fun a0 => ?_) (fun a0 => ?_)
  ·
   try simp only [sps] at a0
   refine .z rfl (.z rfl (.z rfl (.z rfl (.z rfl (.z rfl (.sgc rfl rfl rfl rfl rfl rfl (.z rfl (.q rfl (.pickT rfl rfl) (.mv rfl rfl (.z rfl (.z rfl (.z rfl (.z rfl (.z rfl (.z rfl ?_)))))))))))))))
   refine .z rfl (.z rfl (.sgc rfl rfl rfl rfl rfl rfl (.z rfl (.q rfl (.pickT rfl rfl) (.mv rfl rfl (.z rfl (.z rfl (.z rfl (.z rfl (.z rfl (.sgc rfl rfl rfl rfl rfl rfl (.sgc rfl rfl rfl rfl rfl rfl (.z rfl (.q rfl (.pickT rfl rfl) (.done ?_)))))))))))))))
   refine a6 _ _ ?_
   refine .condT rfl ?_
   refine .seq (fun K5 f5 => .region (.mv rfl (.nil (f5 _ _ (.ret (d _ _ (⟨_, rfl, ?_⟩)))))))
   exact .of (congrArg _ (B_false fun hF => a0 hF.ol))
  try simp only [sps] at a0
  refine .qg rfl (.move rfl) (.qg rfl (.nilCheck rfl) (.qg rfl (.fieldAddr fo_46_3_E rfl) (.qg rfl (.lA on_22_B rfl) (.qg rfl (.len sl_22_A rfl) (.qg rfl (.move rfl) ?_)))))
  refine .callQ1g rfl rfl rfl rfl rfl rfl rfl en55 rfl (arrows_c) (.refl _) ?_
  refine .qg rfl (.cmp rfl rfl rfl) (.q rfl (.pickF rfl rfl) (.mv rfl rfl ?_))
  refine .split (fun e0 => ?_) (fun e0 => ?_)
  ·
   try simp only [sps] at e0
   refine .z rfl (.z rfl (.z rfl (.z rfl (.z rfl (.z rfl (.z rfl (.z rfl (.sgc rfl rfl rfl rfl rfl rfl (.z rfl (.q rfl (.pickT rfl rfl) (.mv rfl rfl (.z rfl (.z rfl (.z rfl (.z rfl ?_)))))))))))))))
   refine .z rfl (.sgc rfl rfl rfl rfl rfl rfl (.sgc rfl rfl rfl rfl rfl rfl (.z rfl (.q rfl (.pickT rfl rfl) (.done (a6 _ _ ?_))))))
   refine .condT rfl ?_
   refine .seq (fun K6 f9 => .region (.mv rfl (.nil (f9 _ _ (.ret (d _ _ (⟨_, rfl, ?_⟩)))))))
   exact .of (congrArg _ (B_false fun hF => by have := hF.al; omega))
  try simp only [sps] at e0
  refine .qg rfl (.move rfl) (.qg rfl (.nilCheck rfl) (.qg rfl (.fieldAddr fo_46_2_E rfl) (.qg rfl (.lA on_22_B rfl) (.qg rfl (.move rfl) (.qg rfl (.nilCheck rfl) (.qg rfl (.fieldAddr fo_31_0_B rfl) (.qg rfl (.lA on_2_A rfl) ?_)))))))
  refine .callQ0g rfl rfl rfl rfl rfl rfl rfl en64 rfl (within_c) ?_
  refine .qg rfl (.not rfl) (.q rfl (.pickF rfl rfl) (.mv rfl rfl ?_))
  refine .split (fun u => ?_) (fun u => ?_)
  ·
   try simp only [sps] at u
   refine .z rfl (.z rfl (.z rfl (.z rfl (.z rfl (.sgc rfl rfl rfl rfl rfl rfl (.sgc rfl rfl rfl rfl rfl rfl (.z rfl (.q rfl (.pickT rfl rfl) (.done (a6 _ _ ?_))))))))))
   refine .condT rfl ?_
   refine .seq (fun K7 f8 => .region (.mv rfl (.nil (f8 _ _ (.ret (d _ _ (⟨_, rfl, ?_⟩)))))))
   exact .of (congrArg _ (B_false fun hF => by rw [allIn_iff.2 hF.ob] at u; cases u))
  try simp only [sps] at u
  refine .qg rfl (.move rfl) (.qg rfl (.nilCheck rfl) (.qg rfl (.fieldAddr fo_46_3_E rfl) (.qg rfl (.lA on_22_B rfl) (.qg rfl (.move rfl) ?_))))
  refine .callQ1g rfl rfl rfl rfl rfl rfl rfl en55 rfl (arrows_c) (.refl _) ?_
  refine .callQ0g rfl rfl rfl rfl rfl rfl rfl en64 rfl (within_c) ?_
  refine .qg rfl (.not rfl) (.q rfl (.pickF rfl rfl) (.done (a6 _ _ ?_)))
  refine .cond rfl ?_ ?_ <;> intro n
  ·
   try simp only [sps] at n
   refine .seq (fun K8 g0 => .region (.mv rfl (.nil (g0 _ _ (.ret (d _ _ (⟨_, rfl, ?_⟩)))))))
   exact .of (congrArg _ (B_false fun hF => by rw [allIn_iff.2 hF.ar] at n; cases n))
  try simp only [sps] at n
  refine .skip (f6 _ _ (.seq (fun K9 g2 => .seq (fun K10 c6 => .region (.mv rfl (.q rfl (.nilCheck rfl) (.q rfl (.fieldAddr fo_46_3_E rfl) (.q rfl (.lA on_22_B rfl) (.q rfl (.len sl_22_A rfl) (.mv rfl (.nil (c6 _ _ (.block ?_)))))))))))))
  refine .loopF (σ := Nat) [0, 3, 4, 64, 65] (fun k => [(66, some (.int .i64 (k : Int)))]) (fun k H' => H = H' ∧ k ≤ f.ar.length ∧ ∀ a, a < k → f.t.src.getD (f.ar.getD a 0).toNat 0 = f.ob.getD (f.s.src.getD a 0).toNat 0 ∧ f.t.tgt.getD (f.ar.getD a 0).toNat 0 = f.ob.getD (f.s.tgt.getD a 0).toNat 0) (fun k => f.ar.length - k) (0) rfl (.p rfl) ?_ ?_
  ·
   refine ⟨rfl, ?_⟩
   exact ⟨by omega, fun x hx => by omega⟩
  rintro k _ ⟨rfl, hI⟩ _ b2
  dsimp only [cA, nA]
  obtain ⟨_, f3⟩ := hI
  refine .seq (fun K11 d5 => .region (.q rfl (.cmp rfl rfl rfl) (.nil (d5 _ _ (.seq (fun K12 b1 => ?_))))))
  refine .cond rfl ?_ ?_ <;> intro f2
  ·
   try simp only [sps] at f2
   refine .skip (b1 _ _ (.seq (fun K13 c5 => .block (.seq (fun K14 b9 => .region (.mv rfl (.q rfl (.iN sl_22_A rfl rfl) (.q rfl (.lI on_2_A rfl) (.mv rfl (.mv rfl (.nil (b9 _ _ (.seq (fun K15 w => ?_))))))))))))))
   refine .regionD mo_B (.qs [0, 1, 2, 3, 4, 5, 6, 7, 8, 9, 10, 11, 12, 13, 14, 15, 16, 17, 18, 19, 20, 21, 22, 23, 24, 25, 26, 27, 28, 29, 30, 31, 32, 33, 34, 35, 36, 37, 38, 39, 40, 41, 42, 43] (.done)) (by kernel_rfl) ?_
   have q1 := n k (by omega)
   have q2 := hS.src k (by omega)
   have _ := hS.tgt k (by omega)
   refine .mv rfl rfl (.q rfl (.nilCheck rfl) (.q rfl (.fieldAddr fo_31_1_B rfl) (.q rfl (.lA on_22_B rfl) (.mv rfl rfl (.q rfl (.i1 sl_22_A rfl rfl) (.q rfl (.lI on_2_A rfl) (.mv rfl rfl (.q rfl (.nilCheck rfl) (.q rfl (.fieldAddr fo_46_2_E rfl) (.q rfl (.lA on_22_B rfl) (.mv rfl rfl (.q rfl (.nilCheck rfl) (.q rfl (.fieldAddr fo_31_1_B rfl) (.q rfl (.lA on_22_B rfl) (.mv rfl rfl ?_)))))))))))))))
   refine .q rfl (.iN sl_22_A rfl rfl) (.q rfl (.lI on_2_A rfl) (.q rfl (.i1 sl_22_A rfl rfl) (.q rfl (.lI on_2_A rfl) (.q rfl (.cmp rfl rfl rfl) (.mv rfl rfl ?_)))))
   refine .split (fun y => ?_) (fun y => ?_)
   ·
    try simp only [sps] at y
    refine .z rfl (.z rfl (.z rfl (.z rfl (.z rfl (.z rfl (.z rfl (.z rfl (.z rfl (.z rfl (.z rfl (.z rfl (.z rfl (.z rfl (.z rfl (.z rfl ?_)))))))))))))))
    refine .z rfl (.z rfl (.z rfl (.z rfl (.z rfl (.q rfl (.pickT rfl rfl) (.done (w _ _ ?_)))))))
    refine .condT rfl ?_
    refine .seq (fun K16 c7 => .region (.mv rfl (.nil (c7 _ _ (.ret (d _ _ (⟨_, rfl, ?_⟩)))))))
    exact .of (congrArg _ (B_false fun hF => y (hF.ends k (by omega)).1))
   try simp only [sps] at y
   refine .qg rfl (.move rfl) (.qg rfl (.nilCheck rfl) (.qg rfl (.fieldAddr fo_31_2_B rfl) (.qg rfl (.lA on_22_B rfl) (.qg rfl (.move rfl) (.qg rfl (.i1 sl_22_A rfl rfl) (.qg rfl (.lI on_2_A rfl) (.qg rfl (.move rfl) (.qg rfl (.nilCheck rfl) (.qg rfl (.fieldAddr fo_46_2_E rfl) (.qg rfl (.lA on_22_B rfl) (.qg rfl (.move rfl) (.qg rfl (.nilCheck rfl) (.qg rfl (.fieldAddr fo_31_2_B rfl) (.qg rfl (.lA on_22_B rfl) (.qg rfl (.move rfl) ?_)))))))))))))))
   refine .qg rfl (.iN sl_22_A rfl rfl) (.qg rfl (.lI on_2_A rfl) (.qg rfl (.i1 sl_22_A rfl rfl) (.qg rfl (.lI on_2_A rfl) (.qg rfl (.cmp rfl rfl rfl) (.q rfl (.pickF rfl rfl) (.done (w _ _ ?_)))))))
   refine .cond rfl ?_ ?_ <;> intro m
   ·
    try simp only [sps] at m
    refine .seq (fun K17 a9 => .region (.mv rfl (.nil (a9 _ _ (.ret (d _ _ (⟨_, rfl, ?_⟩)))))))
    exact .of (congrArg _ (B_false fun hF => m (hF.ends k (by omega)).2))
   try simp only [sps] at m
   refine .skip (c5 _ _ (.region (.q rfl (.aD rfl rfl rfl) (.mv rfl (.nil ?_)))))
   refine b2 (k + 1) _ _ ?_ ?_ (.p rfl)
   ·
    refine ⟨rfl, ?_⟩
    refine ⟨by omega, fun x hx => ?_⟩
    by_cases e : x < k
    · exact f3 x e
    · obtain rfl : x = k := by omega
      exact ⟨y, m⟩
   omega
  try simp only [sps] at f2
  refine .exit (g2 _ _ (.seq (fun K18 a7 => .seq (fun K19 e5 => .region (.mv rfl (.q rfl (.nilCheck rfl) (.q rfl (.fieldAddr fo_31_3_B rfl) (.q rfl (.lA on_22_B rfl) (.q rfl (.len sl_22_A rfl) (.mv rfl (.nil (e5 _ _ (.block ?_)))))))))))))
  refine .loopF (σ := Nat) [0, 3, 4, 119, 120] (fun k => [(121, some (.int .i64 (k : Int)))]) (fun k H' => H = H' ∧ k ≤ f.s.idn.length ∧ ∀ x, x < k → f.ar.getD (f.s.idn.getD x 0).toNat 0 = f.t.idn.getD (f.ob.getD x 0).toNat 0) (fun k => f.s.idn.length - k) (0) rfl (.p rfl) ?_ ?_
  ·
   refine ⟨rfl, ?_⟩
   exact ⟨by omega, fun x hx => by omega⟩
  rintro k _ ⟨rfl, hI⟩ _ d9
  dsimp only [cA, nA]
  obtain ⟨_, f1⟩ := hI
  refine .seq (fun K20 b6 => .region (.q rfl (.cmp rfl rfl rfl) (.nil (b6 _ _ (.seq (fun K21 d4 => ?_))))))
  refine .cond rfl ?_ ?_ <;> intro a4
  ·
   try simp only [sps] at a4
   refine .skip (d4 _ _ (.seq (fun K22 e8 => .block (.seq (fun K23 e7 => .region (.mv rfl (.q rfl (.iN sl_22_A rfl rfl) (.q rfl (.lI on_2_A rfl) (.mv rfl (.mv rfl (.nil (e7 _ _ (.seq (fun K24 d6 => ?_))))))))))))))
   refine .regionD mo_B (.qs [0, 1, 2, 3, 4, 5, 6, 7, 8, 9, 10, 11, 12, 13, 14, 15, 16, 17, 18, 19, 20] (.done)) (by kernel_rfl) ?_
   have q1 := hS.idn k (by omega)
   have q2 := u k (by omega)
   refine .mv rfl rfl (.q rfl (.nilCheck rfl) (.q rfl (.fieldAddr fo_46_3_E rfl) (.q rfl (.lA on_22_B rfl) (.mv rfl rfl (.q rfl (.i1 sl_22_A rfl rfl) (.q rfl (.lI on_2_A rfl) (.mv rfl rfl (.q rfl (.nilCheck rfl) (.q rfl (.fieldAddr fo_31_3_B rfl) (.q rfl (.lA on_22_B rfl) (.mv rfl rfl (.q rfl (.nilCheck rfl) (.q rfl (.fieldAddr fo_46_2_E rfl) (.q rfl (.lA on_22_B rfl) (.mv rfl rfl ?_)))))))))))))))
   refine .q rfl (.iN sl_22_A rfl rfl) (.q rfl (.lI on_2_A rfl) (.q rfl (.i1 sl_22_A rfl rfl) (.q rfl (.lI on_2_A rfl) (.q rfl (.cmp rfl rfl rfl) (.done (d6 _ _ ?_))))))
   refine .cond rfl ?_ ?_ <;> intro l
   ·
    try simp only [sps] at l
    refine .seq (fun K25 e9 => .region (.mv rfl (.nil (e9 _ _ (.ret (d _ _ (⟨_, rfl, ?_⟩)))))))
    exact .of (congrArg _ (B_false fun hF => l (hF.ids k (by omega))))
   try simp only [sps] at l
   refine .skip (e8 _ _ (.region (.q rfl (.aD rfl rfl rfl) (.mv rfl (.nil ?_)))))
   refine d9 (k + 1) _ _ ?_ ?_ (.p rfl)
   ·
    refine ⟨rfl, ?_⟩
    refine ⟨by omega, fun x hx => ?_⟩
    by_cases e : x < k
    · exact f1 x e
    · obtain rfl : x = k := by omega
      exact l
   omega
  try simp only [sps] at a4
  refine .exit (a7 _ _ (.seq (fun K26 c8 => .seq (fun K27 c9 => .region (.mv rfl (.q rfl (.nilCheck rfl) (.q rfl (.fieldAddr fo_31_4_B rfl) (.q rfl (.lA on_23_B rfl) (.q rfl (.len sl_23_B rfl) (.mv rfl (.nil (c9 _ _ (.block ?_)))))))))))))
  refine .loopF (σ := Nat) [0, 4, 151, 152] (fun k => [(153, some (.int .i64 (k : Int)))]) (fun k H' => H = H' ∧ k ≤ f.s.comp.length ∧ ∀ a, a < k → ∀ b, b < f.s.src.length → f.s.tgt.getD a 0 = f.s.src.getD b 0 → f.A (f.s.th a b) = f.t.th (f.ar.getD a 0) (f.ar.getD b 0)) (fun k => f.s.comp.length - k) (0) rfl (.p rfl) ?_ ?_
  ·
   refine ⟨rfl, ?_⟩
   exact ⟨by omega, fun x hx => by omega⟩
  rintro k _ ⟨rfl, hI⟩ _ b8
  dsimp only [cA, nA]
  obtain ⟨_, f4⟩ := hI
  refine .seq (fun K28 d7 => .region (.q rfl (.cmp rfl rfl rfl) (.nil (d7 _ _ (.seq (fun K29 b7 => ?_))))))
  refine .cond rfl ?_ ?_ <;> intro v
  ·
   try simp only [sps] at v
   refine .skip (b7 _ _ (.seq (fun K30 d8 => .block (.seq (fun K31 b0 => .region ?_)))))
   have _ := i4.2 k (by omega)
   have _ := hS.row k (by omega)
   refine .mv rfl ?_
   refine .q rfl (.idxN sl_23_B (Intss.sl (by assumption)) rfl rfl (by omega)) ?_
   refine .q rfl (.loadR on_22_B (by assumption) rfl (by omega)) ?_
   refine .mv rfl (.mv rfl (.nil (b0 _ _ (.seq (fun K32 e4 => .region (.mv rfl (.q rfl (.len sl_22_A rfl) (.mv rfl (.nil (e4 _ _ (.block ?_)))))))))))
   refine .loopF (σ := Nat) [0, 4, 9, 151, 152, 153, 158, 159] (fun j => [(160, some (.int .i64 (j : Int)))]) (fun j H' => H = H' ∧ j ≤ f.s.src.length ∧ ∀ b, b < j → f.s.tgt.getD k 0 = f.s.src.getD b 0 → f.A (f.s.th k b) = f.t.th (f.ar.getD k 0) (f.ar.getD b 0)) (fun j => f.s.src.length - j) (0) rfl (.p rfl) ?_ ?_
   ·
    refine ⟨rfl, ?_⟩
    exact ⟨by omega, fun x hx => by omega⟩
   rintro j _ ⟨rfl, hI⟩ _ a5
   dsimp only [cA, nA]
   obtain ⟨_, b3⟩ := hI
   refine .seq (fun K33 f0 => .region (.q rfl (.cmp rfl rfl rfl) (.nil (f0 _ _ (.seq (fun K34 b4 => ?_))))))
   refine .cond rfl ?_ ?_ <;> intro a1
   ·
    try simp only [sps] at a1
    refine .skip (b4 _ _ (.seq (fun K35 a3 => .block (.seq (fun K36 b5 => .region (.mv rfl (.q rfl (.iN sl_22_A rfl rfl) (.q rfl (.lI on_2_A rfl) (.mv rfl (.mv rfl (.nil (b5 _ _ (.seq (fun K37 a2 => ?_))))))))))))))
    refine .regionD mo_B (.qs [0, 1, 2, 3, 4, 5, 6, 7, 8, 9, 10, 11, 12, 13, 14, 15, 16, 17, 18, 19, 20, 21, 22, 23, 24] (.c 25 1 (.q 26 (.q 27 (.done))))) (by kernel_rfl) ?_
    have q5 := hS.th_lt (f := k) (g := j) (by omega) (by omega)
    rw [Cat.th_nat] at q5
    have _ := n k (by omega)
    have _ := n j (by omega)
    have _ := hT.row (f.ar.getD k 0).toNat (by omega)
    refine .mv rfl rfl (.q rfl (.cmp rfl rfl rfl) (.mv rfl rfl ?_))
    refine .split (fun r => ?_) (fun r => ?_)
    ·
     try simp only [sps] at r
     refine .qg rfl (.move rfl) (.qg rfl (.nilCheck rfl) (.qg rfl (.fieldAddr fo_46_3_E rfl) (.qg rfl (.lA on_22_B rfl) (.qg rfl (.move rfl) (.qg rfl (.i1 sl_22_A rfl rfl) (.qg rfl (.lI on_2_A rfl) (.qg rfl (.move rfl) (.qg rfl (.move rfl) (.qg rfl (.nilCheck rfl) (.qg rfl (.fieldAddr fo_46_3_E rfl) (.qg rfl (.lA on_22_B rfl) (.qg rfl (.move rfl) (.qg rfl (.iN sl_22_A rfl rfl) (.qg rfl (.lI on_2_A rfl) (.qg rfl (.move rfl) ?_)))))))))))))))
     refine .qg rfl (.nilCheck rfl) (.qg rfl (.fieldAddr fo_46_3_E rfl) (.qg rfl (.lA on_22_B rfl) (.qg rfl (.move rfl) (.qg rfl (.iN sl_22_A rfl rfl) (.qg rfl (.lI on_2_A rfl) ?_)))))
     refine .callQ1g rfl rfl rfl rfl rfl rfl rfl en57 rfl (then_s) (.refl _) ?_
     refine .qg rfl (.cmp rfl rfl rfl) (.q rfl (.pickT rfl rfl) (.done (a2 _ _ ?_)))
     refine .cond rfl ?_ ?_ <;> intro i
     ·
      try simp only [sps] at i
      refine .seq (fun K38 a8 => .region (.mv rfl (.nil (a8 _ _ (.ret (d _ _ (⟨_, rfl, ?_⟩)))))))
      exact .of (congrArg _ (B_false fun hF => i (hF.th k (by omega) j (by omega) ((hS.th_ge (by omega) (by omega)).1 (by rw [Cat.th_nat]; omega)))))
     try simp only [sps] at i
     refine .skip (a3 _ _ (.region (.q rfl (.aD rfl rfl rfl) (.mv rfl (.nil ?_)))))
     refine a5 (j + 1) _ _ ?_ ?_ (.p rfl)
     ·
      refine ⟨rfl, ?_⟩
      refine ⟨by omega, fun x hx => ?_⟩
      by_cases e : x < j
      · exact b3 x e
      · obtain rfl : x = j := by omega
        first
          | exact fun _ => i
          | exact fun e => absurd ((hS.th_ge (by omega) (by omega)).2 e) (by rw [Cat.th_nat]; omega)
     omega
    try simp only [sps] at r
    refine .z rfl (.z rfl (.z rfl (.z rfl (.z rfl (.z rfl (.z rfl (.z rfl (.z rfl (.z rfl (.z rfl (.z rfl (.z rfl (.z rfl (.z rfl (.z rfl ?_)))))))))))))))
    refine .z rfl (.z rfl (.z rfl (.z rfl (.z rfl (.z rfl (.sgc rfl rfl rfl rfl rfl rfl (.z rfl (.q rfl (.pickF rfl rfl) (.done (a2 _ _ ?_))))))))))
    refine .condF rfl ?_
    refine .skip (a3 _ _ (.region (.q rfl (.aD rfl rfl rfl) (.mv rfl (.nil ?_)))))
    refine a5 (j + 1) _ _ ?_ ?_ (.p rfl)
    ·
     refine ⟨rfl, ?_⟩
     refine ⟨by omega, fun x hx => ?_⟩
     by_cases e : x < j
     · exact b3 x e
     · obtain rfl : x = j := by omega
       first
         | exact fun _ => i
         | exact fun e => absurd ((hS.th_ge (by omega) (by omega)).2 e) (by rw [Cat.th_nat]; omega)
    omega
   try simp only [sps] at a1
   refine .exit (d8 _ _ (.region (.q rfl (.aD rfl rfl rfl) (.mv rfl (.nil ?_)))))
   refine b8 (k + 1) _ _ ?_ ?_ (.p rfl)
   ·
    refine ⟨rfl, ?_⟩
    refine ⟨by omega, fun x hx => ?_⟩
    by_cases e : x < k
    · exact f4 x e
    · obtain rfl : x = k := by omega
      exact fun b hb => b3 b (by omega)
   omega
  try simp only [sps] at v
  refine .exit (c8 _ _ (.seq (fun K39 e6 => .region (.mv rfl (.nil (e6 _ _ (.ret (d _ _ (⟨_, rfl, ?_⟩)))))))))
  exact .of (congrArg _ (B_true ⟨a0, by omega, u, n, fun a ha => f3 a (by omega), fun x hx => f1 x (by omega), fun a ha => f4 a (by omega)⟩))
theorem two_sl {H : GHeap} {e : TypeId} {own : Bool} {g1 o1 g2 o2 k : Nat} (h : H.get k = some (.row [.pointer (some ⟨g1, o1, none⟩), .pointer (some ⟨g2, o2, none⟩)] e own)) :
    SlA H (some ⟨k, 0, none⟩) 2 (fun i => .pointer (some ⟨(if i = 0 then g1 else g2), (if i = 0 then o1 else o2), none⟩)) := by
  refine .inr ⟨k, 0, rfl, fun i hi => ?_⟩
  rw [GHeap.cell_of h, Nat.zero_add]
  match i, hi with
  | 0, _ => rfl
  | 1, _ => rfl
theorem areCategories2_c {k g1 o1 g2 o2 : Nat} {e : TypeId} {c1 c2 : Cat} {p1 p2 : CatP} {H : GHeap} (h : H.get k = some (.row [.pointer (some ⟨g1, o1, none⟩), .pointer (some ⟨g2, o2, none⟩)] e true) := by assumption)
    (h1 : Cat.At H g1 o1 c1 p1 := by assumption) (h2 : Cat.At H g2 o2 c2 p2 := by assumption) (hs1 : c1.Small := by assumption) (hs2 : c2.Small := by assumption) :
    GCalls Try.prog 53 [.slice (some ⟨k, 0, none⟩) 2 2] H (Ret (.bool (B (c1.Is ∧ c2.Is))) H) := by
  have := areCategories_c (two_sl h) (by omega) (C := fun i => if i = 0 then c1 else c2) (P := fun i => if i = 0 then p1 else p2)
    (fun i hi => by match i, hi with | 0, _ => exact h1 | 1, _ => exact h2) (fun i hi => by match i, hi with | 0, _ => exact hs1 | 1, _ => exact hs2)
  rw [B_congr (q := c1.Is ∧ c2.Is)] at this
  · exact this
  · exact ⟨fun h => ⟨h 0 (by omega), h 1 (by omega)⟩, fun h i hi => by match i, hi with | 0, _ => exact h.1 | 1, _ => exact h.2⟩
theorem isFunctor_c {g o : Nat} {f : Fun} {p : FunP} {H : GHeap} (h : Fun.At H g o f p := by assumption) (hsm : f.Small := by assumption) :
    GCalls Try.prog 41 [.pointer (some ⟨g, o, none⟩)] H (Ret (.bool (B f.Is)) H) := by
  refine GCalls.ret rfl ?_
  have hsm' := hsm
  obtain ⟨_, _, -, -⟩ := hsm'
  refine GCalls.body (N := 15) (rs := [.tmp 2]) Try.func41 rfl rfl rfl rfl (fun Qx d hend => ?_)
  refine .fg [0] rfl ?_
  refine .seq (fun K1 l => .region (.mv rfl (.nil (l _ _ (.seq (fun K2 j => ?_))))))
  refine .regionD mo_B (.qs [0, 1, 2, 3, 4, 5] (.c 6 0 (.c 7 0 (.q 8 (.q 9 (.c 10 0 (.q 11 (.q 12 (.done))))))))) (by kernel_rfl) ?_
  refine .mv rfl rfl (.q rfl (.nilCheck rfl) (.q rfl (.fieldAddr fo_46_0_E rfl) (.mv rfl rfl (.q rfl (.nilCheck rfl) (.q rfl (.fieldAddr fo_46_1_E rfl) ?_)))))
  refine .d0 rfl rfl rfl rfl (.buildSlice rfl sl_92_F ze_87_G rfl rfl (by omega) (by omega) rfl rfl CIs.mk) ?_
  show GTree _ _ _ _ _ _ (H.push (.row [.pointer (some ⟨g, o + 0, none⟩), .pointer (some ⟨g, o + 5, none⟩)] 87 true)) (H.push (.row [.pointer (some ⟨g, o + 0, none⟩), .pointer (some ⟨g, o + 5, none⟩)] 87 true))
  have b := GHeap.le_push H (.row [.pointer (some ⟨g, o + 0, none⟩), .pointer (some ⟨g, o + 5, none⟩)] 87 true)
  have hn := GHeap.get_push_new H (.row [.pointer (some ⟨g, o + 0, none⟩), .pointer (some ⟨g, o + 5, none⟩)] 87 true)
  generalize H.push (.row [.pointer (some ⟨g, o + 0, none⟩), .pointer (some ⟨g, o + 5, none⟩)] 87 true) = H1 at *
  generalize H.next = k at hn ⊢
  have hf := h.mono b
  obtain ⟨_, _, -, -, -, -⟩ := hf.get
  refine .callQ0 rfl rfl rfl rfl rfl en53 rfl (areCategories2_c) ?_
  refine .mv rfl rfl ?_
  refine .split (fun a => ?_) (fun a => ?_)
  ·
   simp only [B_iff] at a
   obtain ⟨i, e⟩ := a
   refine .qg rfl (.move rfl) ?_
   refine .callQ0g rfl rfl rfl rfl rfl rfl rfl en54 rfl (fits_c) ?_
   refine .q rfl (.pickT rfl rfl) (.mv rfl rfl (.done (j _ _ (.ret (d _ _ (⟨_, rfl, ?_⟩))))))
   first
   | exact ⟨congrArg _ (B_congr ⟨fun hI => hI.2.2, fun hF => ⟨i, e, hF⟩⟩), b⟩
   | exact ⟨congrArg _ (B_false fun hI => a ⟨hI.1, hI.2.1⟩), b⟩
   | exact ⟨congrArg _ (B_false fun hI => by simp [hI.1, hI.2.1] at a), b⟩
  try simp only [sps] at a
  refine .z rfl (.sgc rfl rfl rfl rfl rfl rfl (.q rfl (.pickF rfl rfl) (.mv rfl rfl (.done (j _ _ (.ret (d _ _ (⟨_, rfl, ?_⟩))))))))
  first
  | exact ⟨congrArg _ (B_congr ⟨fun hI => hI.2.2, fun hF => ⟨i, e, hF⟩⟩), b⟩
  | exact ⟨congrArg _ (B_false fun hI => a ⟨hI.1, hI.2.1⟩), b⟩
  | exact ⟨congrArg _ (B_false fun hI => by simp [hI.1, hI.2.1] at a), b⟩
end Go.Proofs.Ytddjdkpjfpnjiaa
