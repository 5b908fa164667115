/- What a caller hands in, brought into a ghost heap; the last step of a row that says 'true, and the arguments read as they did'. No condition. -/
import Derived.Test.YtddjdkpjfpnjiaaZ6
import Derived.Below
import Derived.ChangeSame
import Derived.ChangeSlices
import Derived.Deep.Slices
import Derived.Deep.Matrix
import Derived.WideKeyArgs
set_option linter.unusedSectionVars false
namespace Go.GL
open Go.RowKit Go.WideShapes Go.ChangeShapes Go.Deep
variable [MainFlag]

def GHeap.gap (H : GHeap) : GHeap := ⟨H.objs ++ [none]⟩
@[simp] theorem GHeap.next_gap (H : GHeap) : H.gap.next = H.next + 1 := by simp [GHeap.next, GHeap.gap]
theorem GHeap.get_gap (H : GHeap) (g : Nat) : H.gap.get g = H.get g := by
  unfold GHeap.get GHeap.gap
  simp only
  rcases Nat.lt_or_ge g H.objs.length with hl | hl
  · rw [List.getElem?_append_left hl]
  · rw [List.getElem?_append_right hl, List.getElem?_eq_none hl]
    rcases Nat.eq_zero_or_pos (g - H.objs.length) with e | e
    · rw [e]; rfl
    · rw [List.getElem?_eq_none (by simp; omega)]
theorem GHeap.le_gap (H : GHeap) : H.Le H.gap := ⟨by simp, fun g o h => by rw [GHeap.get_gap]; exact h⟩

section
variable {P : Program} {B : Nat} {w0 : World} {ρ : Place} {H : GHeap} {w : World}

theorem Sim.start (P : Program) (W : World) : Sim P W.heap.size W (fun _ => none) ⟨[]⟩ W :=
  ⟨fun _ _ => rfl, fun g o h => by simp [GHeap.get] at h, fun g g' o o' s s' h => by simp [GHeap.get] at h, Nat.le_refl _, .refl _ _⟩

theorem Sim.gap (hs : Sim P B w0 ρ H w) (s : Spot) : Sim P B w0 (place ρ H.next s) H.gap w ∧ Ext ρ (place ρ H.next s) := by
  have hext : Ext ρ (place ρ H.next s) := place_ext (hs.dom _ (Nat.le_refl _))
  refine ⟨⟨fun g hg => ?_, fun g o hg => ?_, fun g g' o o' t t' h1 h2 h3 h4 h5 h6 h7 => ?_, hs.base, hs.below⟩, hext⟩
  · simp at hg
    unfold place
    rw [if_neg (by omega)]
    exact hs.dom g (by omega)
  · rw [GHeap.get_gap] at hg
    exact (hs.live g o hg).keep hext fun _ _ => rfl
  · rw [GHeap.get_gap] at h1 h2
    have e1 := GHeap.ltg h1
    have e2 := GHeap.ltg h2
    unfold place at h6 h7
    rw [if_neg (by omega)] at h6 h7
    exact hs.apart g g' o o' t t' h1 h2 h3 h4 h5 h6 h7

theorem Sim.look (hs : Sim P B w0 ρ H w) {b : Nat} {C : Array Value} {e : TypeId} {fz : Nat × Nat} (hb : b < B) (hw : w.heap[b]? = some (.cells C e fz)) {off k : Nat} {vs : List Value} (hl : off + vs.length ≤ C.size)
    (hv : ∀ (i : Nat) (v : Value), vs[i]? = some v → ∃ c, C[off + i]? = some c ∧ VRel ρ v c) :
    Sim P B w0 (place ρ H.next ⟨b, off, C.size, k⟩) (H.push (.row vs e false)) w ∧ Ext ρ (place ρ H.next ⟨b, off, C.size, k⟩) := by
  have hext : Ext ρ (place ρ H.next ⟨b, off, C.size, k⟩) := place_ext (hs.dom _ (Nat.le_refl _))
  refine ⟨⟨fun g hg => ?_, fun g o hg => ?_, fun g g' o o' t t' h1 h2 h3 h4 h5 h6 h7 => ?_, hs.base, hs.below⟩, hext⟩
  · simp at hg
    unfold place
    rw [if_neg (by omega)]
    exact hs.dom g (by omega)
  · rcases Nat.lt_or_ge g H.next with hlt | hge
    · rw [GHeap.get_push_lt hlt] at hg
      exact (hs.live g o hg).keep hext fun _ _ => rfl
    · have hg' : g = H.next := by have := GHeap.ltg hg; simp at this; omega
      subst hg'
      rw [GHeap.get_push_new] at hg
      cases hg
      exact ⟨_, C, fz, place_self, hw, rfl, hl, fun i v h => let ⟨c, h1, h2⟩ := hv i v h; ⟨c, h1, h2.mono hext⟩, fun h => (by cases h), fun _ => hb, fun h => (by cases h)⟩
  · have old : ∀ {k' : Nat} {x : GObj}, (H.push (.row vs e false)).get k' = some x → x.isOwn = true → k' < H.next ∧ H.get k' = some x := by
      intro k' x hx ho
      have hk := GHeap.ltg hx
      simp at hk
      rcases Nat.lt_or_ge k' H.next with hlt | hge
      · rw [GHeap.get_push_lt hlt] at hx; exact ⟨hlt, hx⟩
      · obtain rfl : k' = H.next := by omega
        rw [GHeap.get_push_new] at hx
        cases hx
        cases ho
    obtain ⟨a1, a2⟩ := old h1 h3
    obtain ⟨b1, b2⟩ := old h2 h4
    unfold place at h6 h7
    rw [if_neg (by omega)] at h6 h7
    exact hs.apart g g' o o' t t' a2 b2 h3 h4 h5 h6 h7

theorem Sim.list (hs : Sim P B w0 ρ H w) (hB : w.heap.size ≤ B) {a : Addr} {len cap : Nat} {V : Nat → Value} (hl : len ≤ cap) (hm : cap ≤ maxLen) (hcell : ∀ i, i < cap → w.cell? (a.add i) = some (V i)) {f : Nat → Value}
    (hf : ∀ i, i < len → VRel ρ (f i) (V i)) :
    ∃ a' ρ' H', Sim P B w0 ρ' H' w ∧ Ext ρ ρ' ∧ H.Le H' ∧ VRel ρ' (.slice a' len len) (.slice (some a) len cap) ∧ SlA H' a' len f := by
  rcases Nat.eq_zero_or_pos cap with e | hp
  · subst e
    obtain rfl : len = 0 := by omega
    obtain ⟨h1, h2⟩ := hs.gap ⟨0, 0, 0, 0⟩
    exact ⟨some ⟨H.next, 0, none⟩, _, _, h1, h2, H.le_gap, .empty place_self, .inl rfl⟩
  · have h0 := hcell 0 hp
    have hsp := World.cell?_spot h0
    obtain ⟨b, off, sp⟩ := a
    have hadd : ∀ i, (Addr.mk b off none).add i = ⟨b, off + i, none⟩ := fun i => by
      unfold Addr.add
      split
      · rename_i h; subst h; rfl
      · rfl
    obtain rfl : sp = none := by simpa [Addr.add] using hsp
    rw [hadd] at h0
    have hblk : ∃ C e fz, w.heap[b]? = some (.cells C e fz) := by
      unfold World.cell? at h0
      split at h0
      · exact ⟨_, _, _, by assumption⟩
      · cases h0
    obtain ⟨C, e, fz, hC⟩ := hblk
    have hc : ∀ i, i < cap → C[off + i]? = some (V i) := fun i hi => by
      have := hcell i hi
      rw [hadd] at this
      simpa [World.cell?, hC] using this
    have hsz : off + cap ≤ C.size := by
      have := (Array.getElem?_eq_some_iff.1 (hc (cap - 1) (by omega))).1
      omega
    have hbl : b < B := by
      have : b < w.heap.size := (Array.getElem?_eq_some_iff.1 hC).1
      omega
    obtain ⟨h1, h2⟩ := hs.look hbl hC (off := off) (k := 1) (vs := (List.range len).map f) (by simp; omega) (fun i v hv => by
      simp only [List.getElem?_map, Option.map_eq_some_iff] at hv
      obtain ⟨j, hj, rfl⟩ := hv
      have hj' := List.getElem?_eq_some_iff.1 hj
      simp at hj'
      obtain ⟨hi, rfl⟩ := hj'
      exact ⟨_, hc i (by omega), hf i hi⟩)
    refine ⟨some ⟨H.next, 0, none⟩, _, _, h1, h2, GHeap.le_push _ _, ?_, .inr ⟨H.next, 0, rfl, fun i hi => ?_⟩⟩
    · have := VRel.slice (ρ := place ρ H.next ⟨b, off, C.size, 1⟩) (g := H.next) (o := 0) (n := len) (cap := cap) place_self hl (by simp only; omega) hm
      simpa using this
    · rw [GHeap.cell_of (GHeap.get_push_new _ _)]
      simp [hi]
end

def i64T (P : Program) (t : TypeId) : Bool := match P.underlying t with | some (.int .i64) => true | _ => false
def intsT (P : Program) (t : TypeId) : Bool := match P.underlying t with | some (.slice e) => i64T P e && (P.cellsOf e == 1) | _ => false
def intssT (P : Program) (t : TypeId) : Bool := match P.underlying t with | some (.slice e) => intsT P e && (P.cellsOf e == 1) | _ => false
theorem i64T_run {P : Program} {t : TypeId} (h : i64T P t = true) : P.underlying t = some (.int .i64) := by
  unfold i64T at h
  split at h
  · assumption
  · cases h
theorem intsT_run {P : Program} {t : TypeId} (h : intsT P t = true) : ∃ e, P.underlying t = some (.slice e) ∧ P.underlying e = some (.int .i64) ∧ P.cellsOf e = 1 := by
  unfold intsT at h
  split at h
  · simp only [Bool.and_eq_true, beq_iff_eq] at h
    exact ⟨_, by assumption, i64T_run h.1, h.2⟩
  · cases h
theorem intssT_run {P : Program} {t : TypeId} (h : intssT P t = true) : ∃ e, P.underlying t = some (.slice e) ∧ intsT P e = true ∧ P.cellsOf e = 1 := by
  unfold intssT at h
  split at h
  · simp only [Bool.and_eq_true, beq_iff_eq] at h
    exact ⟨_, by assumption, h.1, h.2⟩
  · cases h

def Imports (P : Program) (t : TypeId) (R : Place → GHeap → List Value → Prop) : Prop :=
  ∀ {T : Type} {enc : TypeId × Value → T} {B : Nat} {w0 : World} {ρ : Place} {H : GHeap} {w : World} {held : Bool} {fuel : Nat} {cs : List Value} {x : DataW T × List MemPlace}, Sim P B w0 ρ H w → w.heap.size ≤ B →
    DataW.trod enc P w 0 (fun _ => true) held fuel t cs = some x → ∃ ρ' H', Sim P B w0 ρ' H' w ∧ Ext ρ ρ' ∧ H.Le H' ∧ R ρ' H' cs

def I64 (n : Int) : Prop := -9223372036854775808 ≤ n ∧ n ≤ 9223372036854775807
theorem I64.of_wf {n : Int} (h : (Lit.int .i64 n).wf = true) : I64 n := by
  simp [Lit.wf, IntKind.min, IntKind.max, IntKind.signed, IntKind.bits] at h
  exact ⟨by omega, by omega⟩
def I64s (xs : List Int) : Prop := xs.length ≤ 9223372036854775807 ∧ ∀ i, I64 (xs.getD i 0)

def RInt (_ : Place) (_ : GHeap) (cs : List Value) : Prop := ∃ n, cs = [.int .i64 n] ∧ I64 n
def RInts (ρ : Place) (H : GHeap) (cs : List Value) : Prop := ∃ a xs c, cs = [c] ∧ VRel ρ (.slice a xs.length xs.length) c ∧ Ints H a xs ∧ I64s xs
def RIntss (ρ : Place) (H : GHeap) (cs : List Value) : Prop := ∃ a xss r c, cs = [c] ∧ VRel ρ (.slice a xss.length xss.length) c ∧ Intss H a xss r ∧ xss.length ≤ 9223372036854775807 ∧ ∀ i, I64s (xss.getD i [])

theorem import_int {P : Program} {t : TypeId} (ht : i64T P t = true) : Imports P t RInt := by
  intro T enc B w0 ρ H w held fuel cs x hs hB h
  obtain ⟨n, h1, _, h3⟩ := DataW.trod_int (i64T_run ht) h
  exact ⟨ρ, H, hs, .refl ρ, .refl H, n, h1, .of_wf h3⟩

theorem take_getD (zs : List Int) {n i : Nat} (hi : i < n) : (zs.take n).getD i 0 = zs.getD i 0 := by
  simp [List.getD_eq_getElem?_getD, List.getElem?_take, hi]
theorem I64s.take {zs : List Int} (h : ∀ n ∈ zs, (Lit.int .i64 n).wf = true) {len : Nat} (hl : (zs.take len).length ≤ 9223372036854775807) : I64s (zs.take len) := by
  refine ⟨hl, fun i => ?_⟩
  rw [List.getD_eq_getElem?_getD]
  cases e : (zs.take len)[i]? with
  | none => simp [I64]
  | some n => exact .of_wf (h n (List.mem_of_mem_take (List.mem_of_getElem? e)))

theorem import_ints {P : Program} {t : TypeId} (ht : intsT P t = true) : Imports P t RInts := by
  intro T enc B w0 ρ H w held fuel cs x hs hB h
  obtain ⟨e, h1, h2, h3⟩ := intsT_run ht
  rcases open_ints h1 h2 h3 h with ⟨rfl, _⟩ | ⟨a, len, cap, zs, rfl, _, hl, hm, hz, _, hc, hw⟩
  · exact ⟨ρ, H, hs, .refl ρ, .refl H, none, [], _, rfl, .nilSlice, .inl rfl, by simp, fun i => by simp [I64]⟩
  · simp only [if_true] at hz
    have hlen : (zs.take len).length = len := by simp; omega
    obtain ⟨a', ρ', H', k1, k2, k3, k4, k5⟩ := hs.list hB (f := fun i => .int .i64 ((zs.take len).getD i 0)) hl hm (fun i hi => hc i (by omega)) (fun i hi => by rw [take_getD zs hi]; exact .int _ _)
    refine ⟨ρ', H', k1, k2, k3, a', zs.take len, _, rfl, by rw [hlen]; exact k4, ?_, .take hw (by rw [hlen]; unfold maxLen at hm; omega)⟩
    unfold Ints
    rw [hlen]
    exact k5

theorem import_intss {P : Program} {t : TypeId} (ht : intssT P t = true) : Imports P t RIntss := by
  intro T enc B w0 ρ H w held fuel cs x hs hB h
  obtain ⟨e, h1, h2, h3⟩ := intssT_run ht
  obtain ⟨q, g1, g2, g3⟩ := intsT_run h2
  rcases open_int_rows h1 g1 g2 h3 g3 h with ⟨rfl, _⟩ | ⟨a, len, cap, A, L, C, Z, rfl, _, hl, hm, _, hr⟩
  · exact ⟨ρ, H, hs, .refl ρ, .refl H, none, [], fun _ => none, _, rfl, .nilSlice, ⟨.inl rfl, fun i hi => by simp at hi⟩, by simp, fun i => by simp [I64s, I64]⟩
  · have hlen : ∀ r, r < cap → ((Z r).take (L r)).length = L r := fun r hi => by
      obtain ⟨_, k2, _, k4, _⟩ := hr r hi
      simp; omega
    have rows : ∀ k, k ≤ len → ∃ ρ' H', Sim P B w0 ρ' H' w ∧ Ext ρ ρ' ∧ H.Le H' ∧ ∃ rr : Nat → Option Addr, ∀ r, r < k → VRel ρ' (.slice (rr r) (L r) (L r)) (.slice (A r) (L r) (C r)) ∧ Ints H' (rr r) ((Z r).take (L r)) := by
      intro k
      induction k with
      | zero => exact fun _ => ⟨ρ, H, hs, .refl ρ, .refl H, fun _ => none, fun r hr => by omega⟩
      | succ k ih =>
        intro hk
        obtain ⟨ρ1, H1, s1, e1, l1, rr, hrr⟩ := ih (by omega)
        obtain ⟨c1, c2, c3, c4, c5, c6, c7⟩ := hr k (by omega)
        have one : ∃ a' ρ2 H2, Sim P B w0 ρ2 H2 w ∧ Ext ρ1 ρ2 ∧ H1.Le H2 ∧ VRel ρ2 (.slice a' (L k) (L k)) (.slice (A k) (L k) (C k)) ∧ Ints H2 a' ((Z k).take (L k)) := by
          cases hA : A k with
          | none =>
            have e0 := c6 hA
            have e2 : L k = 0 := by omega
            rw [e0, e2]
            exact ⟨none, ρ1, H1, s1, .refl _, .refl _, .nilSlice, .inl (by simp)⟩
          | some a' =>
            obtain ⟨_, hc⟩ := c7 a' hA
            obtain ⟨a2, ρ2, H2, k1, k2, k3, k4, k5⟩ := s1.list hB (f := fun i => .int .i64 (((Z k).take (L k)).getD i 0)) c2 c3 hc (fun i hi => by rw [take_getD (Z k) hi]; exact .int _ _)
            refine ⟨a2, ρ2, H2, k1, k2, k3, k4, ?_⟩
            unfold Ints
            rw [hlen k (by omega)]
            exact k5
        obtain ⟨a', ρ2, H2, s2, e2, l2, v2, i2⟩ := one
        refine ⟨ρ2, H2, s2, e1.trans e2, l1.trans l2, fun r => if r = k then a' else rr r, fun r hr' => ?_⟩
        by_cases ek : r = k
        · subst ek; simp only [if_true]; exact ⟨v2, i2⟩
        · simp only [ek, if_false]
          obtain ⟨v1, i1⟩ := hrr r (by omega)
          exact ⟨v1.mono e2, i1.mono l2⟩
    obtain ⟨ρ1, H1, s1, e1, l1, rr, hrr⟩ := rows len (Nat.le_refl _)
    obtain ⟨a', ρ2, H2, k1, k2, k3, k4, k5⟩ := s1.list hB (f := fun r => .slice (rr r) (L r) (L r)) hl hm (fun r hi => (hr r hi).1) (fun r hi => (hrr r hi).1)
    have hx : ((List.range len).map fun r => (Z r).take (L r)).length = len := by simp
    have hg : ∀ r, r < len → ((List.range len).map fun r => (Z r).take (L r)).getD r [] = (Z r).take (L r) := fun r hi => by simp [List.getD_eq_getElem?_getD, hi]
    refine ⟨ρ2, H2, k1, e1.trans k2, l1.trans k3, a', (List.range len).map fun r => (Z r).take (L r), rr, _, rfl, by rw [hx]; exact k4, ⟨?_, fun r hi => ?_⟩, by rw [hx]; unfold maxLen at hm; omega, fun r => ?_⟩
    · rw [hx]
      refine k5.imp id fun ⟨g, off, hga, hc⟩ => ⟨g, off, hga, fun i hi => ?_⟩
      show _ = some (Value.slice (rr i) (((List.range len).map fun r => (Z r).take (L r)).getD i []).length (((List.range len).map fun r => (Z r).take (L r)).getD i []).length)
      rw [hg i hi, hlen i (by omega)]
      exact hc i hi
    · rw [hx] at hi
      rw [hg r hi]
      exact (hrr r hi).2.mono k3
    · by_cases hi : r < len
      · rw [hg r hi]
        obtain ⟨_, c2, c3, c4, c5, _⟩ := hr r (by omega)
        exact .take c5 (by rw [hlen r (by omega)]; unfold maxLen at c3; omega)
      · rw [List.getD_eq_getElem?_getD, List.getElem?_eq_none (by rw [hx]; omega)]
        simp [I64s, I64]

def fieldIs (P : Program) (fs : Array Field) (i off n : Nat) (chk : Program → TypeId → Bool) : Bool :=
  match fs[i]? with
  | some f => (f.offset == off) && (P.cellsOf f.type == n) && chk P f.type
  | none => false
def structIs (P : Program) (t : TypeId) (n m : Nat) (chk : Array Field → Bool) : Bool :=
  match P.underlying t with
  | some (.struct fs) => (P.cellsOf t == n) && (fs.size == m) && chk fs
  | _ => false
theorem structIs_run {P : Program} {t : TypeId} {n m : Nat} {chk : Array Field → Bool} (h : structIs P t n m chk = true) : ∃ fs, P.underlying t = some (.struct fs) ∧ P.cellsOf t = n ∧ fs.size = m ∧ chk fs = true := by
  unfold structIs at h
  split at h
  · simp only [Bool.and_eq_true, beq_iff_eq] at h
    exact ⟨_, by assumption, h.1.1, h.1.2, h.2⟩
  · cases h

section
variable {P : Program} {T : Type} {enc : TypeId × Value → T} {B : Nat} {w0 : World} {ρ : Place} {H : GHeap} {w : World} {held : Bool} {n : Nat} {cs : List Value} {fs : Array Field} {xs : List (DataW T × List MemPlace)}
theorem import_field {i off k : Nat} {chk : Program → TypeId → Bool} {R : Place → GHeap → List Value → Prop} (hI : ∀ t, chk P t = true → Imports P t R) (hfd : fieldIs P fs i off k chk = true) (hx : xs.length = fs.size)
    (hf : ∀ (i : Nat) (f : Field), fs[i]? = some f → DataW.trod enc P w 0 (fun _ => true) held n f.type ((cs.drop f.offset).take (P.cellsOf f.type)) = xs[i]?) (hs : Sim P B w0 ρ H w) (hB : w.heap.size ≤ B) :
    ∃ ρ' H', Sim P B w0 ρ' H' w ∧ Ext ρ ρ' ∧ H.Le H' ∧ R ρ' H' ((cs.drop off).take k) := by
  unfold fieldIs at hfd
  split at hfd
  · rename_i f hfi
    simp only [Bool.and_eq_true, beq_iff_eq] at hfd
    obtain ⟨⟨h1, h2⟩, h3⟩ := hfd
    have hi : i < xs.length := by rw [hx]; exact (Array.getElem?_eq_some_iff.1 hfi).1
    have := hf i f hfi
    rw [List.getElem?_eq_getElem hi, h1, h2] at this
    exact hI _ h3 hs hB this
  · cases hfd
end

def Cat.Wide (c : Cat) : Prop := I64 c.obj ∧ I64s c.src ∧ I64s c.tgt ∧ I64s c.idn ∧ c.comp.length ≤ 9223372036854775807 ∧ ∀ i, I64s (c.comp.getD i [])
def Fun.Wide (f : Fun) : Prop := f.s.Wide ∧ f.t.Wide ∧ I64s f.ob ∧ I64s f.ar
def Tra.Wide (m : Tra) : Prop := m.s.Wide ∧ m.t.Wide ∧ I64s m.co

def catT (P : Program) (t : TypeId) : Bool := structIs P t 5 5 fun fs => fieldIs P fs 0 0 1 i64T && fieldIs P fs 1 1 1 intsT && fieldIs P fs 2 2 1 intsT && fieldIs P fs 3 3 1 intsT && fieldIs P fs 4 4 1 intssT
def RCat (ρ : Place) (H : GHeap) (cs : List Value) : Prop := ∃ (c : Cat) (p : CatP), LRel ρ (c.cells p) cs ∧ c.In H p ∧ c.Wide
theorem split5 {cs : List Value} {a b c d e : Value} (h0 : (cs.drop 0).take 1 = [a]) (h1 : (cs.drop 1).take 1 = [b]) (h2 : (cs.drop 2).take 1 = [c]) (h3 : (cs.drop 3).take 1 = [d]) (h4 : (cs.drop 4).take 1 = [e]) (hl : cs.length = 5) : cs = [a, b, c, d, e] := by
  match cs, hl with
  | [v0, v1, v2, v3, v4], _ => simp at h0 h1 h2 h3 h4; subst h0; subst h1; subst h2; subst h3; subst h4; rfl

theorem import_cat {P : Program} {t : TypeId} (ht : catT P t = true) : Imports P t RCat := by
  intro T enc B w0 ρ H w held fuel cs x hs hB h
  obtain ⟨fs, g1, g2, g3, g4⟩ := structIs_run ht
  simp only [Bool.and_eq_true] at g4
  obtain ⟨⟨⟨⟨q0, q1⟩, q2⟩, q3⟩, q4⟩ := g4
  obtain ⟨xs, n, _, _, hl, hx, hf⟩ := DataW.trod_struct g1 h
  obtain ⟨ρ0, H0, s0, e0, l0, nobj, r0, w0'⟩ := import_field (fun _ h => import_int h) q0 hx hf hs hB
  obtain ⟨ρ1, H1, s1, e1, l1, a1, x1, c1, r1, v1, i1, w1⟩ := import_field (fun _ h => import_ints h) q1 hx hf s0 hB
  obtain ⟨ρ2, H2, s2, e2, l2, a2, x2, c2, r2, v2, i2, w2⟩ := import_field (fun _ h => import_ints h) q2 hx hf s1 hB
  obtain ⟨ρ3, H3, s3, e3, l3, a3, x3, c3, r3, v3, i3, w3⟩ := import_field (fun _ h => import_ints h) q3 hx hf s2 hB
  obtain ⟨ρ4, H4, s4, e4, l4, a4, x4, rr, c4, r4, v4, i4, w4, w5⟩ := import_field (fun _ h => import_intss h) q4 hx hf s3 hB
  refine ⟨ρ4, H4, s4, e0.trans (e1.trans (e2.trans (e3.trans e4))), l0.trans (l1.trans (l2.trans (l3.trans l4))), ⟨nobj, x1, x2, x3, x4⟩, ⟨a1, a2, a3, a4, rr⟩, ?_, ⟨i1.mono (l2.trans (l3.trans l4)), i2.mono (l3.trans l4), i3.mono l4, i4⟩, ⟨w0', w1, w2, w3, w4, w5⟩⟩
  rw [split5 r0 r1 r2 r3 r4 (by rw [hl, g2])]
  exact .cons (.int _ _) (.cons (v1.mono (e2.trans (e3.trans e4))) (.cons (v2.mono (e3.trans e4)) (.cons (v3.mono e4) (.cons v4 (.nil _)))))

def readB (P : Program) (ts : List TypeId) : Bool := ts.all fun t => P.readableRec t && decide (t < P.types.size)

section
variable {T : Type} {enc : TypeId × Value → T} {P : Program}
theorem args_again (hl : laidOutB P = true) {W W' : World} (hb : Below W.heap.size W W') {sp : Nat → Bool} : ∀ {ts : List TypeId} {vs : List Value} {ds : List (DataW T)} {ps : List MemPlace}, readB P ts = true →
    DataW.TrodAll enc P W 0 (fun _ => true) true ts vs ds ps → (∀ p ∈ ps, p.block < W.heap.size) → (∀ p ∈ ps, sp p.block = true) → DataW.TrodAll enc P W' 0 sp true ts vs ds ps
  | [], _, _, _, _, h, _, _ => by
    obtain ⟨rfl, rfl, rfl⟩ := trodAll_nil h
    exact trodAll_mk0
  | t :: ts, _, _, _, hr, h, hlt, hsp => by
    obtain ⟨v, vs, d, ds, p, q, rfl, rfl, rfl, h1, h2⟩ := trodAll_cons h
    simp only [readB, List.all_cons, Bool.and_eq_true, decide_eq_true_eq] at hr
    exact ⟨p, q, WideElems.Trod_stays hl hr.1.1 hr.1.2 h1 (fun x hx => hb.same (hlt x (by simp [hx]))) (fun x hx => hsp x (by simp [hx])),
      args_again hl hb (by simpa only [readB, Bool.and_eq_true] using hr.2) h2 (fun x hx => hlt x (by simp [hx])) (fun x hx => hsp x (by simp [hx])), rfl⟩

theorem law_post {f : Func} {s : ChangeSpec} {apart fresh handsOn again : Bool} {W W' : World} {args : Array Value} {ds gs : List (DataW T)} {before : List MemPlace} {tb : TypeId}
    (hl : laidOutB P = true) (hr : readB P f.params.toList = true) (hv : s.vars = []) (hrt : f.resultTypes = #[tb]) (htb : P.underlying tb = some .bool)
    (hW : DataW.Whole enc P f.params.toList s.vars apart W args.toList ds gs before)
    (hsr : (s.fn T ds).results = [.lit (.bool true)]) (hsa : (s.fn T ds).args = ds) (hsv : (s.fn T ds).vars = []) (hb : Below W.heap.size W W') :
    s.post enc P f apart fresh handsOn again W args (.bool true) W' := by
  have hlt := hW.lt
  have hWW := hW
  obtain ⟨p, q, hA, hV, hpq, hfz, hnd⟩ := hW
  rw [hv] at hV
  obtain ⟨rfl, rfl⟩ := trodVars_none hV
  rw [List.append_nil] at hpq
  obtain rfl := hpq.symm
  have hres : ∀ (b : Nat) (sp : Nat → Bool) (hd : Bool), DataW.TrodAll enc P W' b sp hd f.resultTypes.toList ((Value.bool true).resultList f.resultTypes.size) (s.fn T (ds ++ [])).results [] := fun b sp hd => by
    rw [List.append_nil, hsr, hrt]
    exact trodAll_mk1 (shut_bool htb true)
  have hargs : ∀ sp : Nat → Bool, (∀ x ∈ p, sp x.block = true) → DataW.TrodAll enc P W' 0 sp true f.params.toList args.toList (s.fn T (ds ++ [])).args p := fun sp hsp => by
    rw [List.append_nil, hsa]
    exact args_again hl hb hr hA hlt hsp
  have hvars : ∀ sp : Nat → Bool, DataW.TrodVars enc P W' sp s.vars (s.fn T (ds ++ [])).vars [] := fun sp => by
    rw [List.append_nil, hsv, hv]
    rfl
  have hok : ∀ (j : Nat) (t : TypeId) (r : Value), f.resultTypes[j]? = some t → ((Value.bool true).resultList f.resultTypes.size)[j]? = some r → Value.okWide P W' .any 0 t r := ok_one hrt rfl (okWide_bool_mk htb true)
  refine ⟨ds, [], p, [], p, [], hWW, hres _ _ _, hargs _ fun x hx => by simpa using hlt x hx, hvars _, hb.frame _, fun _ => ⟨hok, _, _, ([] ++ p) ++ [], ⟨[] ++ p, [], trodAll_append (hargs (fun _ => true) fun _ _ => rfl) (hres _ _ _), hvars (fun _ => true), rfl, ?_, ?_⟩, ?_⟩⟩
  · intro b off hp
    have hin : MemPlace.cell b off ∈ p := by simpa using hp
    rw [hb.frozen (hlt _ hin)]
    exact hfz b off hin
  · intro ha
    simpa using hnd ha
  · intro x hx _
    simpa using hx
end

def SzR (left : Int) (p : Prop) (H : GHeap) : Value → GHeap → Prop := fun v H' => H' = H ∧ ∃ l, v = .int .i64 l ∧ -1 ≤ l ∧ l ≤ left ∧ (0 ≤ l → p)
theorem SzR.of {P : Program} {f : FuncId} {args : List Value} {H : GHeap} {left : Int} {p : Prop} (h : GCalls P f args H fun v H' => H.Le H' ∧ ∃ l, v = .int .i64 l ∧ -1 ≤ l ∧ l ≤ left ∧ (0 ≤ l → p)) : GCalls P f args H (SzR left p H) :=
  (GCalls.quiet (φ := fun v => ∃ l, v = .int .i64 l ∧ -1 ≤ l ∧ l ≤ left ∧ (0 ≤ l → p)) (h.mono fun _ _ ⟨h1, l, h2, h3⟩ => ⟨⟨l, h2, h3⟩, by rw [h2]; rfl, h1⟩)).mono fun _ _ ⟨h1, h2⟩ => ⟨h2, h1⟩

theorem eq_of_getD {xs ys : List Int} (hl : ys.length = xs.length) (h : ∀ i, i < xs.length → ys.getD i 0 = xs.getD i 0) : ys = xs := by
  apply List.ext_getElem hl
  intro i h1 h2
  have := h i h2
  simpa [List.getD_eq_getElem?_getD, h1, h2] using this
theorem ints_set (ys : List Int) (i : Nat) (v : Int) : (ints ys).set i (.int .i64 v) = ints (ys.set i v) := by simp [ints, List.map_set]
theorem getD_set {ys : List Int} {k i : Nat} {v : Int} (hk : k < ys.length) : (ys.set k v).getD i 0 = if i = k then v else ys.getD i 0 := by
  simp only [List.getD_eq_getElem?_getD, List.getElem?_set]
  by_cases e : k = i
  · subst e; simp [hk]
  · simp [e, Ne.symm e]
theorem SlA.of_ints {H : GHeap} {g : Nat} {ys : List Int} {e : TypeId} {own : Bool} {n : Nat} (h : H.get g = some (.row (ints ys) e own)) (hn : ys.length = n) : SlA H (some ⟨g, 0, none⟩) n (fun i => .int .i64 (ys.getD i 0)) := by
  subst hn; exact Ints.of_get h

theorem SlA.of_row {H : GHeap} {g n : Nat} {cs : List Value} {e : TypeId} {own : Bool} (h : H.get g = some (.row cs e own)) (hn : cs.length = n) : SlA H (some ⟨g, 0, none⟩) n (fun i => cs.getD i (.bool false)) := by
  subst hn
  exact .inr ⟨g, 0, rfl, fun i hi => by rw [GHeap.cell_of h, Nat.zero_add]; simp [List.getD_eq_getElem?_getD, hi]⟩

def Keep (b : Nat) (H H' : GHeap) : Prop := ∀ g o, b ≤ g → H.get g = some o → H'.get g = some o
theorem Keep.of_le {b : Nat} {H H' : GHeap} (h : H.Le H') : Keep b H H' := fun g o _ => h.2 g o
theorem Keep.set {b g : Nat} {H : GHeap} {o : Option GObj} (h : g < b) : Keep b H (H.set g o) := fun k x hk hx => by
  rw [GHeap.get_set_ne (by omega)]; exact hx
def IntsAt (b : Nat) (H : GHeap) (a : Option Addr) (xs : List Int) : Prop := ∃ g e, a = some ⟨g, 0, none⟩ ∧ b ≤ g ∧ H.get g = some (.row (ints xs) e true)
def IntssAt (b : Nat) (H : GHeap) (a : Option Addr) (xss : List (List Int)) (r : Nat → Option Addr) : Prop :=
  ∃ g e cs, a = some ⟨g, 0, none⟩ ∧ b ≤ g ∧ H.get g = some (.row cs e true) ∧ cs.length = xss.length ∧ (∀ i, i < xss.length → cs[i]? = some (.slice (r i) (xss.getD i []).length (xss.getD i []).length)) ∧ ∀ i, i < xss.length → IntsAt b H (r i) (xss.getD i [])
theorem IntsAt.keep {b b' : Nat} {H H' : GHeap} {a : Option Addr} {xs : List Int} (h : IntsAt b H a xs) (hk : Keep b' H H') (hb : b' ≤ b) : IntsAt b' H' a xs :=
  let ⟨g, e, h1, h2, h3⟩ := h; ⟨g, e, h1, by omega, hk g _ (by omega) h3⟩
theorem IntssAt.keep {b b' : Nat} {H H' : GHeap} {a : Option Addr} {xss : List (List Int)} {r : Nat → Option Addr} (h : IntssAt b H a xss r) (hk : Keep b' H H') (hb : b' ≤ b) : IntssAt b' H' a xss r :=
  let ⟨g, e, cs, h1, h2, h3, h4, h5, h6⟩ := h; ⟨g, e, cs, h1, by omega, hk g _ (by omega) h3, h4, h5, fun i hi => (h6 i hi).keep hk hb⟩
theorem IntsAt.ints {b : Nat} {H : GHeap} {a : Option Addr} {xs : List Int} (h : IntsAt b H a xs) : Ints H a xs := by
  obtain ⟨g, e, rfl, _, h3⟩ := h
  exact Ints.of_get h3
theorem IntssAt.intss {b : Nat} {H : GHeap} {a : Option Addr} {xss : List (List Int)} {r : Nat → Option Addr} (h : IntssAt b H a xss r) : Intss H a xss r := by
  obtain ⟨g, e, cs, rfl, _, h3, h4, h5, h6⟩ := h
  exact ⟨.inr ⟨g, 0, rfl, fun i hi => by rw [GHeap.cell_of h3, Nat.zero_add]; exact h5 i hi⟩, fun i hi => (h6 i hi).ints⟩
def NewIntss (H : GHeap) (xss : List (List Int)) (v : Value) (H' : GHeap) : Prop := H.Le H' ∧ ∃ a r, v = .slice a xss.length xss.length ∧ IntssAt H.next H' a xss r
def CatAt (b : Nat) (H : GHeap) (c : Cat) (p : CatP) : Prop := IntsAt b H p.a1 c.src ∧ IntsAt b H p.a2 c.tgt ∧ IntsAt b H p.a3 c.idn ∧ IntssAt b H p.a4 c.comp p.r
theorem CatAt.keep {b b' : Nat} {H H' : GHeap} {c : Cat} {p : CatP} (h : CatAt b H c p) (hk : Keep b' H H') (hb : b' ≤ b) : CatAt b' H' c p := ⟨h.1.keep hk hb, h.2.1.keep hk hb, h.2.2.1.keep hk hb, h.2.2.2.keep hk hb⟩
theorem CatAt.inn {b : Nat} {H : GHeap} {c : Cat} {p : CatP} (h : CatAt b H c p) : c.In H p := ⟨h.1.ints, h.2.1.ints, h.2.2.1.ints, h.2.2.2.intss⟩
def NewCat (H : GHeap) (c : Cat) (v : Value) (H' : GHeap) : Prop := H.Le H' ∧ ∃ p, v = .agg (c.cells p).toArray ∧ CatAt H.next H' c p
structure Bld (H0 : GHeap) (b g2 g3 : Nat) (t : TypeId) (z cs : List Value) (H : GHeap) : Prop where
  le : H0.Le H
  a2 : H0.next ≤ g2
  l2 : g2 < b
  a3 : H0.next ≤ g3
  l3 : g3 < b
  ne : g2 ≠ g3
  res : H.get g2 = some (.row z t true)
  own : H.get g3 = some (.row cs t true)
  bn : b ≤ H.next
theorem Bld.start (H0 : GHeap) (t : TypeId) (z : List Value) : Bld H0 ((H0.push (.row z t true)).next + 1) H0.next (H0.push (.row z t true)).next t z z ((H0.push (.row z t true)).push (.row z t true)) where
  le := (GHeap.le_push _ _).trans (GHeap.le_push _ _)
  a2 := Nat.le_refl _
  l2 := by simp; omega
  a3 := by simp
  l3 := by omega
  ne := by simp
  res := (GHeap.le_push _ _).2 _ _ (GHeap.get_push_new _ _)
  own := GHeap.get_push_new _ _
  bn := by simp
theorem Bld.call {H0 H H' : GHeap} {b g2 g3 : Nat} {t : TypeId} {z cs : List Value} (B : Bld H0 b g2 g3 t z cs H) (h : H.Le H') : Bld H0 b g2 g3 t z cs H' :=
  ⟨B.le.trans h, B.a2, B.l2, B.a3, B.l3, B.ne, h.2 _ _ B.res, h.2 _ _ B.own, Nat.le_trans B.bn h.1⟩
theorem Bld.store {H0 H : GHeap} {b g2 g3 : Nat} {t : TypeId} {z cs : List Value} (B : Bld H0 b g2 g3 t z cs H) (cs' : List Value) : Bld H0 b g2 g3 t z cs' (H.set g3 (some (.row cs' t true))) ∧ Keep b H (H.set g3 (some (.row cs' t true))) :=
  ⟨⟨B.le.set_new B.a3, B.a2, B.l2, B.a3, B.l3, B.ne, by rw [GHeap.get_set_ne (Ne.symm B.ne)]; exact B.res, GHeap.get_set_eq (GHeap.ltg B.own), by rw [GHeap.next_set]; exact B.bn⟩, .set B.l3⟩
theorem Bld.done {H0 H : GHeap} {b g2 g3 : Nat} {t : TypeId} {z cs : List Value} (B : Bld H0 b g2 g3 t z cs H) (o : Option GObj) : H0.Le (H.set g2 o) ∧ Keep b H (H.set g2 o) := ⟨B.le.set_new B.a2, .set B.l2⟩
theorem setAll_gen (vs : List Value) : ∀ (pre a rest : List Value), a.length = vs.length → setAll (pre ++ (a ++ rest)) pre.length vs = pre ++ (vs ++ rest) := by
  induction vs with
  | nil => intro pre a rest h; obtain rfl := List.length_eq_zero_iff.1 (by simpa using h); rfl
  | cons v vs ih =>
    intro pre a rest h
    match a, h with
    | x :: a, h =>
      have e : (pre ++ (x :: a ++ rest)).set pre.length v = (pre ++ [v]) ++ (a ++ rest) := by simp [List.set_append]
      have := ih (pre ++ [v]) a rest (by simpa using h)
      rw [List.length_append] at this
      unfold setAll
      rw [e]
      simpa using this
theorem setAll_all (a vs : List Value) (h : a.length = vs.length) : setAll a 0 vs = vs := by
  have := setAll_gen vs [] a [] h
  simpa using this

end Go.GL
namespace Go.Proofs.Ytddjdkpjfpnjiaa
open Go Go.GL Go.RowKit Go.Proofs
variable [MainFlag]
theorem sz_25_E : (Try.prog.info? 25).map (·.size) = some 5 := by kernel_rfl
theorem fo_25_1_E : fieldOff Try.prog 25 1 = some 1 := by kernel_rfl
theorem fo_25_2_E : fieldOff Try.prog 25 2 = some 2 := by kernel_rfl
theorem fo_25_3_E : fieldOff Try.prog 25 3 = some 3 := by kernel_rfl
theorem fo_25_4_E : fieldOff Try.prog 25 4 = some 4 := by kernel_rfl
theorem sz_2_E : (Try.prog.info? 2).map (·.size) = some 1 := by kernel_rfl
theorem ze_2_E : zeroT Try.prog 2 = some ([.int .i64 0], 1) := by kernel_rfl
theorem by_2_E : (Try.prog.info? 2).map (·.bytes) = some 8 := by kernel_rfl
theorem sz_22_E : (Try.prog.info? 22).map (·.size) = some 1 := by kernel_rfl
theorem ze_22_E : zeroT Try.prog 22 = some ([.slice none 0 0], 1) := by kernel_rfl
theorem by_22_E : (Try.prog.info? 22).map (·.bytes) = some 24 := by kernel_rfl
theorem sz_23_E : (Try.prog.info? 23).map (·.size) = some 1 := by kernel_rfl
theorem ze_31_E : zeroT Try.prog 31 = some ([.int .i64 0, .slice none 0 0, .slice none 0 0, .slice none 0 0, .slice none 0 0], 5) := by kernel_rfl
theorem fo_25_0_E : fieldOff Try.prog 25 0 = some 0 := by kernel_rfl
theorem szInt64S_c {a : Option Addr} {xs : List Int} {left : Int} {H : GHeap} (hx : xs.length ≤ 9223372036854775807 := by omega) (h0 : 0 ≤ left := by omega) (h1 : left ≤ 1048576 := by omega) :
    GCalls Try.prog 27 [.slice a xs.length xs.length, .int .i64 left] H (SzR left (xs.length ≤ left) H) := by
  refine GCalls.body (N := 12) (rs := [.tmp 4]) Try.func27 rfl rfl rfl rfl (fun Qx b hend => ?_)
  refine .fg [0, 1] rfl ?_
  refine .seq (fun K1 e => .region (.mv rfl (.nil (e _ _ (.seq (fun K2 f => .region (.mv rfl (.mv rfl (.q rfl (.len sl_22_A rfl) ?_)))))))))
  refine .q rfl (.sub rfl rfl rfl (by omega) (by omega)) ?_
  refine .mv rfl (.nil (f _ _ (.seq (fun K3 i => .seq (fun K4 g => .region (.mv rfl (.q rfl (.cmp rfl rfl rfl) (.nil (g _ _ ?_)))))))))
  refine .cond rfl ?_ ?_ <;> intro c
  ·
   try simp only [sps] at c
   refine .seq (fun K5 d => .region (.mv rfl (.nil (d _ _ (.ret (b _ _ (⟨_, rfl, ?_⟩)))))))
   exact ⟨rfl, _, rfl, by omega, by omega, fun h => by omega⟩
  try simp only [sps] at c
  refine .skip (i _ _ (.seq (fun K6 j => .region (.mv rfl (.mv rfl (.nil (j _ _ (.ret (b _ _ (⟨_, rfl, ?_⟩))))))))))
  exact ⟨rfl, _, rfl, by omega, by omega, fun h => by omega⟩
theorem szInt64SS_c {a : Option Addr} {xss : List (List Int)} {r : Nat → Option Addr} {left : Int} {H : GHeap} (h : Intss H a xss r := by assumption) (hx : xss.length ≤ 9223372036854775807 := by omega) (hy : ∀ i, I64s (xss.getD i []) := by assumption) (h0 : 0 ≤ left := by omega) (h1 : left ≤ 1048576 := by omega) :
    GCalls Try.prog 28 [.slice a xss.length xss.length, .int .i64 left] H (SzR left (xss.length ≤ left ∧ ∀ i, ((xss.getD i []).length : Int) ≤ left) H) := by
  refine GCalls.body (N := 27) (rs := [.tmp 4]) Try.func28 rfl rfl rfl rfl (fun Qx b hend => ?_)
  refine .fg [0, 1] rfl ?_
  have hh := h
  obtain ⟨_, _⟩ := hh
  refine .seq (fun K1 t => .region (.mv rfl (.nil (t _ _ (.seq (fun K2 u => .region (.mv rfl (.mv rfl (.q rfl (.len sl_23_B rfl) ?_)))))))))
  refine .q rfl (.sub rfl rfl rfl (by omega) (by omega)) ?_
  refine .mv rfl (.nil (u _ _ (.seq (fun K3 w => .seq (fun K4 v => .region (.mv rfl (.q rfl (.cmp rfl rfl rfl) (.nil (v _ _ ?_)))))))))
  refine .cond rfl ?_ ?_ <;> intro o
  ·
   try simp only [sps] at o
   refine .seq (fun K5 z => .region (.mv rfl (.nil (z _ _ (.ret (b _ _ (⟨_, rfl, ?_⟩)))))))
   exact ⟨rfl, _, rfl, by omega, by omega, fun h => by omega⟩
  try simp only [sps] at o
  refine .skip (w _ _ (.seq (fun K6 y => .seq (fun K7 x => .region (.mv rfl (.nil (x _ _ (.block ?_))))))))
  refine .loopF (σ := Nat × Int) [0] (fun (k, lf) => [(5, some (.int .i64 (k : Int))), (1, some (.int .i64 lf))]) (fun (k, lf) H' => H = H' ∧ k ≤ xss.length ∧ 0 ≤ lf ∧ lf ≤ left - xss.length ∧ ∀ i, i < k → ((xss.getD i []).length : Int) ≤ left) (fun (k, lf) => xss.length - k) ((0, left - xss.length)) rfl (.p rfl) ?_ ?_
  ·
   refine ⟨rfl, ?_⟩
   exact ⟨by omega, by omega, by omega, fun i hi => by omega⟩
  rintro ⟨k, lf⟩ _ ⟨rfl, hI⟩ _ g
  dsimp only [cA, nA]
  obtain ⟨_, _, _, c⟩ := hI
  refine .seq (fun K8 a0 => .seq (fun K9 a1 => .region (.mv rfl (.mv rfl (.q rfl (.len sl_23_B rfl) (.q rfl (.cmp rfl rfl rfl) (.nil (a1 _ _ ?_))))))))
  refine .cond rfl ?_ ?_ <;> intro n
  ·
   try simp only [sps] at n
   refine .skip (a0 _ _ (.seq (fun K10 m => .block (.seq (fun K11 d => .region (.mv rfl (.mv rfl ?_)))))))
   refine .q rfl (.idxN sl_23_B (Intss.sl (by assumption)) rfl rfl (by omega)) ?_
   refine .q rfl (.loadR on_22_B (by assumption) rfl (by omega)) ?_
   refine .mv rfl ?_
   have _ := (hy k).1
   refine .call rfl rfl rfl rfl en27 rfl (szInt64S_c) ?_
   rintro _ _ ⟨rfl, lf, rfl, _, _, _⟩
   refine .mv rfl (.nil (d _ _ (.seq (fun K12 l => .region (.mv rfl (.q rfl (.cmp rfl rfl rfl) (.nil (l _ _ ?_))))))))
   refine .cond rfl ?_ ?_ <;> intro s
   ·
    try simp only [sps] at s
    refine .seq (fun K13 f => .region (.mv rfl (.nil (f _ _ (.ret (b _ _ (⟨_, rfl, ?_⟩)))))))
    exact ⟨rfl, _, rfl, by omega, by omega, fun h => by omega⟩
   try simp only [sps] at s
   refine .skip (m _ _ (.region (.mv rfl (.q rfl (.aD rfl rfl rfl) (.mv rfl (.nil ?_))))))
   refine g ((k + 1, _)) _ _ ?_ ?_ (.p rfl)
   ·
    refine ⟨rfl, ?_⟩
    refine ⟨by omega, by omega, by omega, fun i hi => ?_⟩
    by_cases e : i < k
    · exact c i e
    · obtain rfl : i = k := by omega
      omega
   show xss.length - (k + 1) < xss.length - k; omega
  try simp only [sps] at n
  refine .exit (y _ _ (.seq (fun K14 j => .region (.mv rfl (.mv rfl (.nil (j _ _ (.ret (b _ _ (⟨_, rfl, ?_⟩))))))))))
  exact ⟨rfl, _, rfl, by omega, by omega, fun _ => ⟨by omega, fun i => by
    by_cases e : i < xss.length
    · exact c i (by omega)
    · rw [List.getD_eq_getElem?_getD, List.getElem?_eq_none (by omega)]; simp; omega⟩⟩
theorem szCategory_c {c : Cat} {p : CatP} {left : Int} {H : GHeap} (hin : c.In H p := by assumption) (hw : c.Wide := by assumption) (h0 : 0 ≤ left := by omega) (h1 : left ≤ 1048576 := by omega) :
    GCalls Try.prog 26 [.agg (c.cells p).toArray, .int .i64 left] H (SzR left c.Small H) := by
  refine SzR.of ?_
  obtain ⟨⟨a6, a5⟩, ⟨_, _⟩, ⟨_, _⟩, ⟨_, _⟩, _, _⟩ := hw
  refine GCalls.body (N := 30) (rs := [.tmp 4]) Try.func26 rfl rfl rfl rfl (fun Qx a hend => ?_)
  refine .fg [0, 1] rfl ?_
  refine .seq (fun K1 w => .region (.d rfl rfl rfl (.box rfl sz_25_E rfl CIs.mk) ?_))
  show GRun _ _ _ _ _ _ (H.push (.row (c.cells p) 25 true))
  have b := GHeap.le_push H (.row (c.cells p) 25 true)
  have hb : Cat.At (H.push (.row (c.cells p) 25 true)) H.next 0 c p := ⟨Mem.new _ _ _ _, hin.mono b⟩
  generalize H.push (.row (c.cells p) 25 true) = H1 at *
  generalize H.next = g at *
  obtain ⟨_, _, _, _, _, _, _, _, _⟩ := hb.get
  have _ : MemN _ _ _ _ _ := ⟨rfl, hb.1⟩
  refine .mv rfl (.nil (w _ _ (.seq (fun K2 x => .region (.q rfl (.fieldAddr fo_25_1_E rfl) (.q rfl (.lA on_22_B rfl) (.mv rfl ?_)))))))
  refine .call rfl rfl rfl rfl en27 rfl (szInt64S_c) ?_
  rintro _ _ ⟨rfl, lf, rfl, z1, z2, z3⟩
  refine .mv rfl (.nil (x _ _ (.seq (fun K3 z => .seq (fun K4 y => .region (.mv rfl (.q rfl (.cmp rfl rfl rfl) (.nil (y _ _ ?_)))))))))
  refine .cond rfl ?_ ?_ <;> intro u
  ·
   try simp only [sps] at u
   refine .seq (fun K5 a2 => .region (.mv rfl (.nil (a2 _ _ (.ret (a _ _ (⟨_, rfl, ?_⟩)))))))
   exact ⟨b, _, rfl, by omega, by omega, fun h => by omega⟩
  try simp only [sps] at u
  refine .skip (z _ _ (.seq (fun K6 a1 => .region (.q rfl (.fieldAddr fo_25_2_E rfl) (.q rfl (.lA on_22_B rfl) (.mv rfl ?_))))))
  refine .call rfl rfl rfl rfl en27 rfl (szInt64S_c) ?_
  rintro _ _ ⟨rfl, lf, rfl, z1, z2, z3⟩
  refine .mv rfl (.nil (a1 _ _ (.seq (fun K7 a0 => .seq (fun K8 a3 => .region (.mv rfl (.q rfl (.cmp rfl rfl rfl) (.nil (a3 _ _ ?_)))))))))
  refine .cond rfl ?_ ?_ <;> intro v
  ·
   try simp only [sps] at v
   refine .seq (fun K9 a4 => .region (.mv rfl (.nil (a4 _ _ (.ret (a _ _ (⟨_, rfl, ?_⟩)))))))
   exact ⟨b, _, rfl, by omega, by omega, fun h => by omega⟩
  try simp only [sps] at v
  refine .skip (a0 _ _ (.seq (fun K10 m => .region (.q rfl (.fieldAddr fo_25_3_E rfl) (.q rfl (.lA on_22_B rfl) (.mv rfl ?_))))))
  refine .call rfl rfl rfl rfl en27 rfl (szInt64S_c) ?_
  rintro _ _ ⟨rfl, lf, rfl, z1, z2, z3⟩
  refine .mv rfl (.nil (m _ _ (.seq (fun K11 e => .seq (fun K12 o => .region (.mv rfl (.q rfl (.cmp rfl rfl rfl) (.nil (o _ _ ?_)))))))))
  refine .cond rfl ?_ ?_ <;> intro s
  ·
   try simp only [sps] at s
   refine .seq (fun K13 j => .region (.mv rfl (.nil (j _ _ (.ret (a _ _ (⟨_, rfl, ?_⟩)))))))
   exact ⟨b, _, rfl, by omega, by omega, fun h => by omega⟩
  try simp only [sps] at s
  refine .skip (e _ _ (.seq (fun K14 n => .region (.q rfl (.fieldAddr fo_25_4_E rfl) (.q rfl (.lA on_23_B rfl) (.mv rfl ?_))))))
  refine .call rfl rfl rfl rfl en28 rfl (szInt64SS_c) ?_
  rintro _ _ ⟨rfl, lf, rfl, z1, z2, z3⟩
  refine .mv rfl (.nil (n _ _ (.seq (fun K15 k => .seq (fun K16 l => .region (.mv rfl (.q rfl (.cmp rfl rfl rfl) (.nil (l _ _ ?_)))))))))
  refine .cond rfl ?_ ?_ <;> intro t
  ·
   try simp only [sps] at t
   refine .seq (fun K17 r => .region (.mv rfl (.nil (r _ _ (.ret (a _ _ (⟨_, rfl, ?_⟩)))))))
   exact ⟨b, _, rfl, by omega, by omega, fun h => by omega⟩
  try simp only [sps] at t
  refine .skip (k _ _ (.seq (fun K18 f => .region (.mv rfl (.mv rfl (.nil (f _ _ (.ret (a _ _ (⟨_, rfl, ?_⟩))))))))))
  exact ⟨b, _, rfl, by omega, by omega, fun h => ⟨by omega, by omega, by omega, by omega, fun i => by have := (z3 (by omega)).2 i; omega, ⟨a6, a5⟩⟩⟩
theorem toInt64S_c {a : Option Addr} {xs : List Int} {H : GHeap} (h : Ints H a xs := by assumption) (hx : xs.length ≤ 1048576 := by omega) :
    GCalls Try.prog 33 [.slice a xs.length xs.length] H (NewInts 2 H xs) := by
  refine GCalls.body (N := 22) (rs := [.tmp 2]) Try.func33 rfl rfl rfl rfl (fun Qx f hend => ?_)
  refine .fg [0] rfl ?_
  refine .seq (fun K1 m => .region (.mv rfl (.nil (m _ _ (.seq (fun K2 r => .region (.mv rfl (.q rfl (.len sl_22_A rfl) ?_))))))))
  refine .d rfl rfl rfl (.makeSlice rfl sl_22_A ze_2_E by_2_E rfl rfl (by omega) rfl rfl (by omega) (by omega) (by omega) CIs.mk) ?_
  show GRun _ _ _ _ _ _ (H.push (.row (madeL [.int .i64 0] (xs.length * 1)) 2 true))
  rw [madeL_one, Nat.mul_one]
  have hrep : List.replicate xs.length (Value.int .i64 0) = ints (List.replicate xs.length 0) := by simp [ints]
  rw [hrep]
  have o := GHeap.le_push H (.row (ints (List.replicate xs.length 0)) 2 true)
  have hn := GHeap.get_push_new H (.row (ints (List.replicate xs.length 0)) 2 true)
  generalize H.push (.row (ints (List.replicate xs.length 0)) 2 true) = H1 at *
  obtain ⟨g0, b⟩ : ∃ g0, g0 = H.next := ⟨_, rfl⟩
  rw [← b] at hn ⊢
  have hnx : H.next ≤ g0 := by omega
  clear b
  refine .mv rfl (.nil (r _ _ (.seq (fun K3 t => .seq (fun K4 s => .region (.mv rfl (.nil (s _ _ (.block ?_)))))))))
  refine .loopF (σ := Nat) [0, 3] (fun k => [(4, some (.int .i64 (k : Int)))]) (fun k H' => k ≤ xs.length ∧ H.Le H' ∧ H.next ≤ g0 ∧ ∃ ys : List Int, ys.length = xs.length ∧ (∀ i, i < k → ys.getD i 0 = xs.getD i 0) ∧ H'.get g0 = some (.row (ints ys) 2 true)) (fun k => xs.length - k) (0) rfl (.p rfl) ?_ ?_
  ·
   exact ⟨by omega, o, hnx, _, by simp, fun i hi => by omega, hn⟩
  rintro k H' hI _ g
  dsimp only [cA, nA]
  obtain ⟨_, hle', b, ys, hys, c, hget⟩ := hI
  have _ := SlA.of_ints hget hys
  have _ := h.mono hle'
  refine .seq (fun K5 l => .seq (fun K6 v => .region (.mv rfl (.mv rfl (.q rfl (.len sl_22_A rfl) (.q rfl (.cmp rfl rfl rfl) (.nil (v _ _ ?_))))))))
  refine .cond rfl ?_ ?_ <;> intro j
  ·
   try simp only [sps] at j
   refine .skip (l _ _ (.seq (fun K7 u => .block (.region (.mv rfl (.mv rfl (.mv rfl (.mv rfl (.q rfl (.iN sl_22_A rfl rfl) (.q rfl (.lI on_2_A rfl) (.q rfl (.iN sl_22_A rfl rfl) ?_)))))))))))
   refine .d0 rfl rfl (.store rfl sz_2_E rfl rfl rfl hget (by simp; omega) CIs.mk) ?_
   refine .nil (u _ _ (.region (.mv rfl (.q rfl (.aD rfl rfl rfl) (.mv rfl (.nil ?_))))))
   refine g (k + 1) _ _ ?_ ?_ (.p rfl)
   ·
    rw [Nat.zero_add, ints_set]
    refine ⟨by omega, hle'.set_new b, b, _, by simpa using hys, fun i hi => ?_, GHeap.get_set_eq (GHeap.ltg hget)⟩
    rw [getD_set (by omega)]
    split
    · rename_i e; rw [e]
    · exact c i (by omega)
   omega
  try simp only [sps] at j
  refine .exit (t _ _ (.seq (fun K8 n => .region (.mv rfl (.mv rfl (.nil (n _ _ (.ret (f _ _ (⟨_, rfl, ?_⟩))))))))))
  obtain rfl : ys = xs := eq_of_getD hys fun i hi => c i (by omega)
  exact ⟨hle', _, rfl, hget, b⟩
theorem toInt64SS_c {a : Option Addr} {xss : List (List Int)} {r : Nat → Option Addr} {H : GHeap} (h : Intss H a xss r := by assumption) (hx : xss.length ≤ 1048576 := by omega) (hy : ∀ i, (xss.getD i []).length ≤ 1048576 := by assumption) :
    GCalls Try.prog 34 [.slice a xss.length xss.length] H (NewIntss H xss) := by
  refine GCalls.body (N := 23) (rs := [.tmp 2]) Try.func34 rfl rfl rfl rfl (fun Qx j hend => ?_)
  refine .fg [0] rfl ?_
  refine .seq (fun K1 t => .region (.mv rfl (.nil (t _ _ (.seq (fun K2 w => .region (.mv rfl (.q rfl (.len sl_23_B rfl) ?_))))))))
  refine .d rfl rfl rfl (.makeSlice rfl sl_23_B ze_22_E by_22_E rfl rfl (by omega) rfl rfl (by omega) (by omega) (by omega) CIs.mk) ?_
  show GRun _ _ _ _ _ _ (H.push (.row (madeL [.slice none 0 0] (xss.length * 1)) 22 true))
  have hlen := length_madeL [Value.slice none 0 0] (xss.length * 1)
  rw [Nat.mul_one] at hlen ⊢
  have v := GHeap.le_push H (.row (madeL [.slice none 0 0] xss.length) 22 true)
  have hn := GHeap.get_push_new H (.row (madeL [.slice none 0 0] xss.length) 22 true)
  generalize H.push (.row (madeL [.slice none 0 0] xss.length) 22 true) = H1 at *
  obtain ⟨g0, b⟩ : ∃ g0, g0 = H.next := ⟨_, rfl⟩
  rw [← b] at hn ⊢
  have hnx : H.next ≤ g0 := by omega
  clear b
  refine .mv rfl (.nil (w _ _ (.seq (fun K3 y => .seq (fun K4 x => .region (.mv rfl (.nil (x _ _ (.block ?_)))))))))
  refine .loopF (σ := Nat) [0, 3] (fun k => [(4, some (.int .i64 (k : Int)))]) (fun k H' => k ≤ xss.length ∧ H.Le H' ∧ H.next ≤ g0 ∧ ∃ (cs : List Value) (q : Nat → Option Addr), H'.get g0 = some (.row cs 22 true) ∧ cs.length = xss.length ∧ (∀ i, i < k → cs[i]? = some (.slice (q i) (xss.getD i []).length (xss.getD i []).length)) ∧ ∀ i, i < k → IntsAt (g0 + 1) H' (q i) (xss.getD i [])) (fun k => xss.length - k) (0) rfl (.p rfl) ?_ ?_
  ·
   exact ⟨by omega, v, hnx, _, fun _ => none, hn, hlen, fun i hi => by omega, fun i hi => by omega⟩
  rintro k H' hI _ m
  dsimp only [cA, nA]
  obtain ⟨_, hle', b, cs, q, hget, hcs, f, hats⟩ := hI
  have _ := GHeap.ltg hget
  have hss := h.mono hle'
  have i2 := hss.2
  refine .seq (fun K5 s => .seq (fun K6 a0 => .region (.mv rfl (.mv rfl (.q rfl (.len sl_23_B rfl) (.q rfl (.cmp rfl rfl rfl) (.nil (a0 _ _ ?_))))))))
  refine .cond rfl ?_ ?_ <;> intro n
  ·
   try simp only [sps] at n
   refine .skip (s _ _ (.seq (fun K7 z => .block (.region (.mv rfl (.mv rfl (.mv rfl (.mv rfl ?_))))))))
   refine .q rfl (.idxN sl_23_B (Intss.sl (by assumption)) rfl rfl (by omega)) ?_
   refine .q rfl (.loadR on_22_B (by assumption) rfl (by omega)) ?_
   have _ := i2 k (by omega)
   have _ := hy k
   refine .call rfl rfl rfl rfl en33 rfl (toInt64S_c) ?_
   rintro _ _ ⟨l, g2, rfl, c, _⟩
   have hget' := l.2 _ _ hget
   have hsl := SlA.of_row hget' hcs
   refine .q rfl (.idxN sl_23_B hsl rfl rfl (by omega)) ?_
   refine .d0 rfl rfl (.store rfl sz_22_E rfl rfl rfl hget' (by simp; omega) CIs.mk) ?_
   refine .nil (z _ _ (.region (.mv rfl (.q rfl (.aD rfl rfl rfl) (.mv rfl (.nil ?_))))))
   refine m (k + 1) _ _ ?_ ?_ (.p rfl)
   ·
    rw [Nat.zero_add]
    refine ⟨by omega, (hle'.trans l).set_new b, b, _, fun i => if i = k then some ⟨g2, 0, none⟩ else q i, GHeap.get_set_eq (GHeap.ltg hget'), by simpa using hcs, fun i hi => ?_, fun i hi => ?_⟩
    · by_cases e : i = k
      · subst e; simp [List.getElem?_set, hcs]; omega
      · simp only [e, if_false]
        rw [List.getElem?_set_ne (Ne.symm e)]
        exact f i (by omega)
    · by_cases e : i = k
      · subst e
        simp only [if_true]
        exact ⟨g2, _, rfl, by omega, by rw [GHeap.get_set_ne (by omega)]; exact c⟩
      · simp only [e, if_false]
        exact (hats i (by omega)).keep (fun g o hg ho => by rw [GHeap.get_set_ne (by omega)]; exact l.2 _ _ ho) (Nat.le_refl _)
   omega
  try simp only [sps] at n
  refine .exit (y _ _ (.seq (fun K8 u => .region (.mv rfl (.mv rfl (.nil (u _ _ (.ret (j _ _ (⟨_, rfl, ?_⟩))))))))))
  exact ⟨hle', _, q, rfl, g0, _, cs, rfl, b, hget, hcs, fun i hi => f i (by omega), fun i hi => (hats i (by omega)).keep (.of_le (.refl _)) (by omega)⟩
theorem toCategory_c {c : Cat} {p : CatP} {H : GHeap} (hin : c.In H p := by assumption) (hs : c.Small := by assumption) : GCalls Try.prog 32 [.agg (c.cells p).toArray] H (NewCat H c) := by
  obtain ⟨_, _, _, _, _, -⟩ := hs
  refine GCalls.body (N := 24) (rs := [.cell 2 31]) Try.func32 rfl rfl rfl rfl (fun Qx n hend => ?_)
  refine .fg [0] rfl ?_
  refine .seq (fun K1 o => .region (.d rfl rfl rfl (.box rfl sz_25_E rfl CIs.mk) ?_))
  show GRun _ _ _ _ _ _ (H.push (.row (c.cells p) 25 true))
  have m := GHeap.le_push H (.row (c.cells p) 25 true)
  have hb : Cat.At (H.push (.row (c.cells p) 25 true)) H.next 0 c p := ⟨Mem.new _ _ _ _, hin.mono m⟩
  generalize H.push (.row (c.cells p) 25 true) = H1 at *
  refine .d rfl rfl rfl (.alloc rfl ze_31_E rfl CIs.mk) (.nil (o _ _ (.seq (fun K2 r => .region (.d rfl rfl rfl (.alloc rfl ze_31_E rfl CIs.mk) ?_)))))
  show GRun _ _ _ _ _ _ ((H1.push (.row [(.int .i64 0 : Value), (.slice none 0 0 : Value), (.slice none 0 0 : Value), (.slice none 0 0 : Value), (.slice none 0 0 : Value)] 31 true)).push (.row [(.int .i64 0 : Value), (.slice none 0 0 : Value), (.slice none 0 0 : Value), (.slice none 0 0 : Value), (.slice none 0 0 : Value)] 31 true))
  have B := Bld.start H1 31 [(.int .i64 0 : Value), (.slice none 0 0 : Value), (.slice none 0 0 : Value), (.slice none 0 0 : Value), (.slice none 0 0 : Value)]
  generalize (H1.push (.row [(.int .i64 0 : Value), (.slice none 0 0 : Value), (.slice none 0 0 : Value), (.slice none 0 0 : Value), (.slice none 0 0 : Value)] 31 true)).next = g3 at *
  generalize (H1.push (.row [(.int .i64 0 : Value), (.slice none 0 0 : Value), (.slice none 0 0 : Value), (.slice none 0 0 : Value), (.slice none 0 0 : Value)] 31 true)).push (.row [(.int .i64 0 : Value), (.slice none 0 0 : Value), (.slice none 0 0 : Value), (.slice none 0 0 : Value), (.slice none 0 0 : Value)] 31 true) = H3 at *
  generalize g3 + 1 = b at *
  obtain ⟨_, -, -, -, -, -, -, -, -⟩ := (hb.mono B.le).get
  refine .nil (r _ _ (.seq (fun K3 t => .region (.q rfl (.fieldAddr fo_25_0_E rfl) (.q rfl (.lA on_2_A rfl) (.q rfl (.fieldAddr fo_31_0_B rfl) (.d0 rfl rfl (.store rfl sz_2_E rfl rfl rfl B.own (Nat.le_of_ble_eq_true rfl) CIs.mk) ?_)))))))
  show GRun _ _ _ _ _ _ (H3.set g3 (some (.row ([.int .i64 c.obj] ++ ([(.slice none 0 0 : Value)] ++ ([(.slice none 0 0 : Value)] ++ ([(.slice none 0 0 : Value)] ++ ([(.slice none 0 0 : Value)]))))) 31 true)))
  have ⟨B, hk⟩ := B.store ([.int .i64 c.obj] ++ ([(.slice none 0 0 : Value)] ++ ([(.slice none 0 0 : Value)] ++ ([(.slice none 0 0 : Value)] ++ ([(.slice none 0 0 : Value)])))))
  generalize H3.set g3 (some (.row ([.int .i64 c.obj] ++ ([(.slice none 0 0 : Value)] ++ ([(.slice none 0 0 : Value)] ++ ([(.slice none 0 0 : Value)] ++ ([(.slice none 0 0 : Value)]))))) 31 true)) = H10 at *
  obtain ⟨-, _, -, -, -, _, -, -, -⟩ := (hb.mono B.le).get
  refine .nil (t _ _ (.seq (fun K4 s => .region (.q rfl (.fieldAddr fo_25_1_E rfl) (.q rfl (.lA on_22_B rfl) ?_)))))
  have j := B.bn
  refine .call rfl rfl rfl rfl en33 rfl (toInt64S_c) ?_
  rintro _ H2 ⟨f, g2, rfl, a, k⟩
  have B := B.call f
  obtain ⟨e, hga⟩ : ∃ x, x = g2 := ⟨_, rfl⟩
  rw [← hga] at a k ⊢
  clear hga
  have v1 : IntsAt b H2 (some ⟨e, 0, none⟩) c.src := ⟨_, _, rfl, by have := j; omega, a⟩
  refine .q rfl (.fieldAddr fo_31_1_B rfl) (.d0 rfl rfl (.store rfl sz_22_E rfl rfl rfl B.own (Nat.le_of_ble_eq_true rfl) CIs.mk) ?_)
  show GRun _ _ _ _ _ _ (H2.set g3 (some (.row ([.int .i64 c.obj] ++ ([.slice (some ⟨e, 0, none⟩) c.src.length c.src.length] ++ ([(.slice none 0 0 : Value)] ++ ([(.slice none 0 0 : Value)] ++ ([(.slice none 0 0 : Value)]))))) 31 true)))
  have ⟨B, hk⟩ := B.store ([.int .i64 c.obj] ++ ([.slice (some ⟨e, 0, none⟩) c.src.length c.src.length] ++ ([(.slice none 0 0 : Value)] ++ ([(.slice none 0 0 : Value)] ++ ([(.slice none 0 0 : Value)])))))
  replace v1 := v1.keep hk (Nat.le_refl _)
  generalize H2.set g3 (some (.row ([.int .i64 c.obj] ++ ([.slice (some ⟨e, 0, none⟩) c.src.length c.src.length] ++ ([(.slice none 0 0 : Value)] ++ ([(.slice none 0 0 : Value)] ++ ([(.slice none 0 0 : Value)]))))) 31 true)) = H11 at *
  obtain ⟨-, -, _, -, -, -, _, -, -⟩ := (hb.mono B.le).get
  refine .nil (s _ _ (.seq (fun K5 z => .region (.q rfl (.fieldAddr fo_25_2_E rfl) (.q rfl (.lA on_22_B rfl) ?_)))))
  have j := B.bn
  refine .call rfl rfl rfl rfl en33 rfl (toInt64S_c) ?_
  rintro _ H2 ⟨f, g2, rfl, a, k⟩
  have B := B.call f
  obtain ⟨g, hga⟩ : ∃ x, x = g2 := ⟨_, rfl⟩
  rw [← hga] at a k ⊢
  clear hga
  have v2 : IntsAt b H2 (some ⟨g, 0, none⟩) c.tgt := ⟨_, _, rfl, by have := j; omega, a⟩
  replace v1 := v1.keep (.of_le f) (Nat.le_refl _)
  refine .q rfl (.fieldAddr fo_31_2_B rfl) (.d0 rfl rfl (.store rfl sz_22_E rfl rfl rfl B.own (Nat.le_of_ble_eq_true rfl) CIs.mk) ?_)
  show GRun _ _ _ _ _ _ (H2.set g3 (some (.row ([.int .i64 c.obj] ++ ([.slice (some ⟨e, 0, none⟩) c.src.length c.src.length] ++ ([.slice (some ⟨g, 0, none⟩) c.tgt.length c.tgt.length] ++ ([(.slice none 0 0 : Value)] ++ ([(.slice none 0 0 : Value)]))))) 31 true)))
  have ⟨B, hk⟩ := B.store ([.int .i64 c.obj] ++ ([.slice (some ⟨e, 0, none⟩) c.src.length c.src.length] ++ ([.slice (some ⟨g, 0, none⟩) c.tgt.length c.tgt.length] ++ ([(.slice none 0 0 : Value)] ++ ([(.slice none 0 0 : Value)])))))
  replace v1 := v1.keep hk (Nat.le_refl _)
  replace v2 := v2.keep hk (Nat.le_refl _)
  generalize H2.set g3 (some (.row ([.int .i64 c.obj] ++ ([.slice (some ⟨e, 0, none⟩) c.src.length c.src.length] ++ ([.slice (some ⟨g, 0, none⟩) c.tgt.length c.tgt.length] ++ ([(.slice none 0 0 : Value)] ++ ([(.slice none 0 0 : Value)]))))) 31 true)) = H12 at *
  obtain ⟨-, -, -, _, -, -, -, _, -⟩ := (hb.mono B.le).get
  refine .nil (z _ _ (.seq (fun K6 v => .region (.q rfl (.fieldAddr fo_25_3_E rfl) (.q rfl (.lA on_22_B rfl) ?_)))))
  have j := B.bn
  refine .call rfl rfl rfl rfl en33 rfl (toInt64S_c) ?_
  rintro _ H2 ⟨f, g2, rfl, a, k⟩
  have B := B.call f
  obtain ⟨h, hga⟩ : ∃ x, x = g2 := ⟨_, rfl⟩
  rw [← hga] at a k ⊢
  clear hga
  have v3 : IntsAt b H2 (some ⟨h, 0, none⟩) c.idn := ⟨_, _, rfl, by have := j; omega, a⟩
  replace v1 := v1.keep (.of_le f) (Nat.le_refl _)
  replace v2 := v2.keep (.of_le f) (Nat.le_refl _)
  refine .q rfl (.fieldAddr fo_31_3_B rfl) (.d0 rfl rfl (.store rfl sz_22_E rfl rfl rfl B.own (Nat.le_of_ble_eq_true rfl) CIs.mk) ?_)
  show GRun _ _ _ _ _ _ (H2.set g3 (some (.row ([.int .i64 c.obj] ++ ([.slice (some ⟨e, 0, none⟩) c.src.length c.src.length] ++ ([.slice (some ⟨g, 0, none⟩) c.tgt.length c.tgt.length] ++ ([.slice (some ⟨h, 0, none⟩) c.idn.length c.idn.length] ++ ([(.slice none 0 0 : Value)]))))) 31 true)))
  have ⟨B, hk⟩ := B.store ([.int .i64 c.obj] ++ ([.slice (some ⟨e, 0, none⟩) c.src.length c.src.length] ++ ([.slice (some ⟨g, 0, none⟩) c.tgt.length c.tgt.length] ++ ([.slice (some ⟨h, 0, none⟩) c.idn.length c.idn.length] ++ ([(.slice none 0 0 : Value)])))))
  replace v1 := v1.keep hk (Nat.le_refl _)
  replace v2 := v2.keep hk (Nat.le_refl _)
  replace v3 := v3.keep hk (Nat.le_refl _)
  generalize H2.set g3 (some (.row ([.int .i64 c.obj] ++ ([.slice (some ⟨e, 0, none⟩) c.src.length c.src.length] ++ ([.slice (some ⟨g, 0, none⟩) c.tgt.length c.tgt.length] ++ ([.slice (some ⟨h, 0, none⟩) c.idn.length c.idn.length] ++ ([(.slice none 0 0 : Value)]))))) 31 true)) = H13 at *
  obtain ⟨-, -, -, -, _, -, -, -, _⟩ := (hb.mono B.le).get
  refine .nil (v _ _ (.seq (fun K7 u => .region (.q rfl (.fieldAddr fo_25_4_E rfl) (.q rfl (.lA on_23_B rfl) ?_)))))
  have j := B.bn
  refine .call rfl rfl rfl rfl en34 rfl (toInt64SS_c) ?_
  rintro _ H2 ⟨f, a2, r2, rfl, i⟩
  have B := B.call f
  obtain ⟨l, hga⟩ : ∃ x, x = a2 := ⟨_, rfl⟩
  rw [← hga] at i ⊢
  clear hga
  obtain ⟨y, hga⟩ : ∃ x, x = r2 := ⟨_, rfl⟩
  rw [← hga] at i
  clear hga
  have v4 := i.keep (.of_le (.refl _)) j
  replace v1 := v1.keep (.of_le f) (Nat.le_refl _)
  replace v2 := v2.keep (.of_le f) (Nat.le_refl _)
  replace v3 := v3.keep (.of_le f) (Nat.le_refl _)
  refine .q rfl (.fieldAddr fo_31_4_B rfl) (.d0 rfl rfl (.store rfl sz_23_E rfl rfl rfl B.own (Nat.le_of_ble_eq_true rfl) CIs.mk) ?_)
  show GRun _ _ _ _ _ _ (H2.set g3 (some (.row ([.int .i64 c.obj] ++ ([.slice (some ⟨e, 0, none⟩) c.src.length c.src.length] ++ ([.slice (some ⟨g, 0, none⟩) c.tgt.length c.tgt.length] ++ ([.slice (some ⟨h, 0, none⟩) c.idn.length c.idn.length] ++ ([.slice l c.comp.length c.comp.length]))))) 31 true)))
  have ⟨B, hk⟩ := B.store ([.int .i64 c.obj] ++ ([.slice (some ⟨e, 0, none⟩) c.src.length c.src.length] ++ ([.slice (some ⟨g, 0, none⟩) c.tgt.length c.tgt.length] ++ ([.slice (some ⟨h, 0, none⟩) c.idn.length c.idn.length] ++ ([.slice l c.comp.length c.comp.length])))))
  replace v1 := v1.keep hk (Nat.le_refl _)
  replace v2 := v2.keep hk (Nat.le_refl _)
  replace v3 := v3.keep hk (Nat.le_refl _)
  replace v4 := v4.keep hk (Nat.le_refl _)
  generalize H2.set g3 (some (.row ([.int .i64 c.obj] ++ ([.slice (some ⟨e, 0, none⟩) c.src.length c.src.length] ++ ([.slice (some ⟨g, 0, none⟩) c.tgt.length c.tgt.length] ++ ([.slice (some ⟨h, 0, none⟩) c.idn.length c.idn.length] ++ ([.slice l c.comp.length c.comp.length]))))) 31 true)) = H14 at *
  refine .nil (u _ _ (.seq (fun K8 w => .region ?_)))
  refine .q rfl (.loadM ag_31_D rfl ⟨rfl, Mem.of_get B.own⟩) ?_
  refine .d0 rfl rfl (.storeN rfl sz_31_D rfl rfl rfl rfl B.res (Nat.le_of_ble_eq_true rfl) CIs.mk) ?_
  rw [setAll_all _ _ (by rfl)]
  refine .nil (w _ _ (.ret (n _ _ ?_)))
  refine ⟨_, _, _, _, rfl, ag_31_D, (by rfl), (Mem.of_get (GHeap.get_set_eq (GHeap.ltg B.res))), ?_⟩
  exact ⟨m.trans (B.done _).1, ⟨some ⟨e, 0, none⟩, some ⟨g, 0, none⟩, some ⟨h, 0, none⟩, l, y⟩, rfl, (CatAt.keep (b := b) (b' := b) ⟨v1, v2, v3, v4⟩ (B.done _).2 (Nat.le_refl _)).keep (.of_le (.refl _)) (by have := B.l2; have := m.1; omega)⟩
theorem eqInt64S_c {a b : Option Addr} {xs : List Int} {H : GHeap} (h : Ints H a xs := by assumption) (h' : Ints H b xs := by assumption) (hx : xs.length ≤ 1048576 := by omega) :
    GCalls Try.prog 19 [.slice a xs.length xs.length, .slice b xs.length xs.length] H (Ret (.bool true) H) := by
  refine GCalls.body (N := 26) (rs := [.tmp 4]) Try.func19 rfl rfl rfl rfl (fun Qx c hend => ?_)
  refine .fg [0, 1] rfl ?_
  refine .seq (fun K1 n => .region (.mv rfl (.nil (n _ _ (.seq (fun K2 r => .seq (fun K3 u => .region (.mv rfl (.q rfl (.len sl_22_A rfl) (.mv rfl (.q rfl (.len sl_22_A rfl) (.q rfl (.cmp rfl rfl rfl) (.nil (u _ _ ?_))))))))))))))
  refine .cond rfl ?_ ?_ <;> intro j
  ·
   try simp only [sps] at j
   refine .seq (fun K4 t => .region (.mv rfl (.nil (t _ _ (.ret (c _ _ (⟨_, rfl, ?_⟩)))))))
   (exfalso; simp_all)
  try simp only [sps] at j
  refine .skip (r _ _ (.seq (fun K5 m => .seq (fun K6 v => .region (.mv rfl (.nil (v _ _ (.block ?_))))))))
  refine .loopF (σ := Nat) [0, 1] (fun k => [(5, some (.int .i64 (k : Int)))]) (fun k H' => H = H' ∧ k ≤ xs.length) (fun k => xs.length - k) (0) rfl (.p rfl) ?_ ?_
  ·
   refine ⟨rfl, ?_⟩
   omega
  rintro k _ ⟨rfl, _⟩ _ e
  dsimp only [cA, nA]
  refine .seq (fun K7 w => .seq (fun K8 o => .region (.mv rfl (.mv rfl (.q rfl (.len sl_22_A rfl) (.q rfl (.cmp rfl rfl rfl) (.nil (o _ _ ?_))))))))
  refine .cond rfl ?_ ?_ <;> intro i
  ·
   try simp only [sps] at i
   refine .skip (w _ _ (.seq (fun K9 s => .block (.seq (fun K10 g => ?_)))))
   refine .regionD mo_B (.qs [0, 1, 2, 3, 4, 5, 6, 7, 8] (.done)) (by kernel_rfl) ?_
   refine .mv rfl rfl (.mv rfl rfl (.q rfl (.iN sl_22_A rfl rfl) (.q rfl (.lI on_2_A rfl) (.mv rfl rfl (.mv rfl rfl (.q rfl (.iN sl_22_A rfl rfl) (.q rfl (.lI on_2_A rfl) (.q rfl (.cmp rfl rfl rfl) (.done (g _ _ ?_))))))))))
   refine .cond rfl ?_ ?_ <;> intro l
   ·
    try simp only [sps] at l
    refine .seq (fun K11 f => .region (.mv rfl (.nil (f _ _ (.ret (c _ _ (⟨_, rfl, ?_⟩)))))))
    (exfalso; simp_all)
   try simp only [sps] at l
   refine .skip (s _ _ (.region (.mv rfl (.q rfl (.aD rfl rfl rfl) (.mv rfl (.nil ?_))))))
   refine e (k + 1) _ _ ?_ ?_ (.p rfl)
   ·
    refine ⟨rfl, ?_⟩
    omega
   omega
  try simp only [sps] at i
  refine .exit (m _ _ (.seq (fun K12 d => .region (.mv rfl (.nil (d _ _ (.ret (c _ _ (⟨_, rfl, ?_⟩)))))))))
  exact .of rfl
theorem eqInt64SS_c {a b : Option Addr} {xss : List (List Int)} {r r' : Nat → Option Addr} {H : GHeap} (h : Intss H a xss r := by assumption) (h' : Intss H b xss r' := by assumption) (hx : xss.length ≤ 1048576 := by omega) (hy : ∀ i, (xss.getD i []).length ≤ 1048576 := by assumption) :
    GCalls Try.prog 9 [.slice a xss.length xss.length, .slice b xss.length xss.length] H (Ret (.bool true) H) := by
  refine GCalls.body (N := 27) (rs := [.tmp 4]) Try.func9 rfl rfl rfl rfl (fun Qx d hend => ?_)
  refine .fg [0, 1] rfl ?_
  refine .seq (fun K1 s => .region (.mv rfl (.nil (s _ _ (.seq (fun K2 u => .seq (fun K3 x => .region (.mv rfl (.q rfl (.len sl_23_B rfl) (.mv rfl (.q rfl (.len sl_23_B rfl) (.q rfl (.cmp rfl rfl rfl) (.nil (x _ _ ?_))))))))))))))
  refine .cond rfl ?_ ?_ <;> intro n
  ·
   try simp only [sps] at n
   refine .seq (fun K4 w => .region (.mv rfl (.nil (w _ _ (.ret (d _ _ (⟨_, rfl, ?_⟩)))))))
   (exfalso; simp_all)
  try simp only [sps] at n
  refine .skip (u _ _ (.seq (fun K5 o => .seq (fun K6 z => .region (.mv rfl (.nil (z _ _ (.block ?_))))))))
  refine .loopF (σ := Nat) [0, 1] (fun k => [(5, some (.int .i64 (k : Int)))]) (fun k H' => H = H' ∧ k ≤ xss.length) (fun k => xss.length - k) (0) rfl (.p rfl) ?_ ?_
  ·
   refine ⟨rfl, ?_⟩
   omega
  rintro k _ ⟨rfl, _⟩ _ e
  dsimp only [cA, nA]
  refine .seq (fun K7 y => .seq (fun K8 t => .region (.mv rfl (.mv rfl (.q rfl (.len sl_23_B rfl) (.q rfl (.cmp rfl rfl rfl) (.nil (t _ _ ?_))))))))
  refine .cond rfl ?_ ?_ <;> intro m
  ·
   try simp only [sps] at m
   refine .skip (y _ _ (.seq (fun K9 v => .block (.seq (fun K10 g => ?_)))))
   refine .regionD mo_B (.qs [0, 1, 2, 3, 4, 5, 6, 7] (.c 8 0 (.q 9 (.done)))) (by kernel_rfl) ?_
   have _ := hy k
   have _ := h.2 k (by omega)
   have _ := h'.2 k (by omega)
   refine .mv rfl rfl (.mv rfl rfl ?_)
   refine .q rfl (.idxN sl_23_B (Intss.sl (by assumption)) rfl rfl (by omega)) ?_
   refine .q rfl (.loadR on_22_B (by assumption) rfl (by omega)) ?_
   refine .mv rfl rfl (.mv rfl rfl ?_)
   refine .q rfl (.idxN sl_23_B (Intss.sl (by assumption)) rfl rfl (by omega)) ?_
   refine .q rfl (.loadR on_22_B (by assumption) rfl (by omega)) ?_
   refine .callQ0 rfl rfl rfl rfl rfl en19 rfl (eqInt64S_c) ?_
   refine .q rfl (.not rfl) (.done (g _ _ ?_))
   refine .cond rfl ?_ ?_ <;> intro l
   ·
    try simp only [sps] at l
    refine .seq (fun K11 j => .region (.mv rfl (.nil (j _ _ (.ret (d _ _ (⟨_, rfl, ?_⟩)))))))
    (exfalso; simp_all)
   try simp only [sps] at l
   refine .skip (v _ _ (.region (.mv rfl (.q rfl (.aD rfl rfl rfl) (.mv rfl (.nil ?_))))))
   refine e (k + 1) _ _ ?_ ?_ (.p rfl)
   ·
    refine ⟨rfl, ?_⟩
    omega
   omega
  try simp only [sps] at m
  refine .exit (o _ _ (.seq (fun K12 f => .region (.mv rfl (.nil (f _ _ (.ret (d _ _ (⟨_, rfl, ?_⟩)))))))))
  exact .of rfl
theorem eqCategory_c {c : Cat} {p p' : CatP} {H : GHeap} (hin : c.In H p := by assumption) (hin' : c.In H p' := by assumption) (hs : c.Small := by assumption) : GCalls Try.prog 18 [.agg (c.cells p).toArray, .agg (c.cells p').toArray] H (Ret (.bool true) H) := by
  refine GCalls.ret rfl ?_
  obtain ⟨_, _, _, _, _, -⟩ := hs
  refine GCalls.body (N := 34) (rs := [.tmp 4]) Try.func18 rfl rfl rfl rfl (fun Qx a hend => ?_)
  refine .fg [0, 1] rfl ?_
  refine .seq (fun K1 t => .region (.d rfl rfl rfl (.box rfl sz_31_D rfl CIs.mk) ?_))
  show GRun _ _ _ _ _ _ (H.push (.row (c.cells p) 31 true))
  have e := GHeap.le_push H (.row (c.cells p) 31 true)
  have hb : Cat.At (H.push (.row (c.cells p) 31 true)) H.next 0 c p := ⟨Mem.new _ _ _ _, hin.mono e⟩
  generalize H.push (.row (c.cells p) 31 true) = H1 at *
  refine .d rfl rfl rfl (.box rfl sz_31_D rfl CIs.mk) ?_
  show GRun _ _ _ _ _ _ (H1.push (.row (c.cells p') 31 true))
  have b := GHeap.le_push H1 (.row (c.cells p') 31 true)
  have hb' : Cat.At (H1.push (.row (c.cells p') 31 true)) H1.next 0 c p' := ⟨Mem.new _ _ _ _, (hin'.mono e).mono b⟩
  replace hb := hb.mono b
  replace e := e.trans b
  generalize H1.push (.row (c.cells p') 31 true) = H2 at *
  obtain ⟨_, _, _, _, _, _, _, _, _⟩ := hb.get
  obtain ⟨_, _, _, _, _, _, _, _, _⟩ := hb'.get
  refine .mv rfl (.nil (t _ _ (.seq (fun K2 u => .seq (fun K3 w => .region (.q rfl (.fieldAddr fo_31_0_B rfl) (.q rfl (.lA on_2_A rfl) (.q rfl (.fieldAddr fo_31_0_B rfl) (.q rfl (.lA on_2_A rfl) (.q rfl (.cmp rfl rfl rfl) (.nil (w _ _ ?_))))))))))))
  refine .cond rfl ?_ ?_ <;> intro h9
  ·
   try simp only [sps] at h9
   refine .seq (fun K4 v => .region (.mv rfl (.nil (v _ _ (.ret (a _ _ (⟨_, rfl, ?_⟩)))))))
   (exfalso; simp_all)
  try simp only [sps] at h9
  refine .skip (u _ _ (.seq (fun K5 z => .seq (fun K6 y => .region (.q rfl (.fieldAddr fo_31_1_B rfl) (.q rfl (.lA on_22_B rfl) (.q rfl (.fieldAddr fo_31_1_B rfl) (.q rfl (.lA on_22_B rfl) ?_))))))))
  refine .callQ rfl rfl rfl rfl en19 rfl (eqInt64S_c) ?_
  refine .q rfl (.not rfl) (.nil (y _ _ ?_))
  refine .cond rfl ?_ ?_ <;> intro n
  ·
   try simp only [sps] at n
   refine .seq (fun K7 x => .region (.mv rfl (.nil (x _ _ (.ret (a _ _ (⟨_, rfl, ?_⟩)))))))
   (exfalso; simp_all)
  try simp only [sps] at n
  refine .skip (z _ _ (.seq (fun K8 a0 => .seq (fun K9 a1 => .region (.q rfl (.fieldAddr fo_31_2_B rfl) (.q rfl (.lA on_22_B rfl) (.q rfl (.fieldAddr fo_31_2_B rfl) (.q rfl (.lA on_22_B rfl) ?_))))))))
  refine .callQ rfl rfl rfl rfl en19 rfl (eqInt64S_c) ?_
  refine .q rfl (.not rfl) (.nil (a1 _ _ ?_))
  refine .cond rfl ?_ ?_ <;> intro o
  ·
   try simp only [sps] at o
   refine .seq (fun K10 j => .region (.mv rfl (.nil (j _ _ (.ret (a _ _ (⟨_, rfl, ?_⟩)))))))
   (exfalso; simp_all)
  try simp only [sps] at o
  refine .skip (a0 _ _ (.seq (fun K11 f => .seq (fun K12 l => .region (.q rfl (.fieldAddr fo_31_3_B rfl) (.q rfl (.lA on_22_B rfl) (.q rfl (.fieldAddr fo_31_3_B rfl) (.q rfl (.lA on_22_B rfl) ?_))))))))
  refine .callQ rfl rfl rfl rfl en19 rfl (eqInt64S_c) ?_
  refine .q rfl (.not rfl) (.nil (l _ _ ?_))
  refine .cond rfl ?_ ?_ <;> intro r
  ·
   try simp only [sps] at r
   refine .seq (fun K13 g => .region (.mv rfl (.nil (g _ _ (.ret (a _ _ (⟨_, rfl, ?_⟩)))))))
   (exfalso; simp_all)
  try simp only [sps] at r
  refine .skip (f _ _ (.seq (fun K14 k => .seq (fun K15 h => .region (.q rfl (.fieldAddr fo_31_4_B rfl) (.q rfl (.lA on_23_B rfl) (.q rfl (.fieldAddr fo_31_4_B rfl) (.q rfl (.lA on_23_B rfl) ?_))))))))
  refine .callQ rfl rfl rfl rfl en9 rfl (eqInt64SS_c) ?_
  refine .q rfl (.not rfl) (.nil (h _ _ ?_))
  refine .cond rfl ?_ ?_ <;> intro s
  ·
   try simp only [sps] at s
   refine .seq (fun K16 i => .region (.mv rfl (.nil (i _ _ (.ret (a _ _ (⟨_, rfl, ?_⟩)))))))
   (exfalso; simp_all)
  try simp only [sps] at s
  refine .skip (k _ _ (.seq (fun K17 m => .region (.mv rfl (.nil (m _ _ (.ret (a _ _ (⟨_, rfl, ?_⟩)))))))))
  exact ⟨rfl, e⟩
end Go.Proofs.Ytddjdkpjfpnjiaa
namespace Go.Proofs.Ytddjdkpjfpnjiaa
open Go Go.GL Go.RowKit Go.Proofs
variable [MainFlag]
end Go.Proofs.Ytddjdkpjfpnjiaa
namespace Go.GL
variable [MainFlag]

abbrev Fun.A (f : Fun) (a : Int) : Int := f.ar.getD a.toNat 0
structure Fun.Fits (f : Fun) : Prop where
  ol : (f.ob.length : Int) = f.s.obj
  al : f.ar.length = f.s.src.length
  ob : ∀ i, i < f.ob.length → 0 ≤ f.ob.getD i 0 ∧ f.ob.getD i 0 < f.t.obj
  ar : ∀ i, i < f.ar.length → 0 ≤ f.ar.getD i 0 ∧ f.ar.getD i 0 < f.t.src.length
  ends : ∀ a, a < f.ar.length → f.t.src.getD (f.ar.getD a 0).toNat 0 = f.ob.getD (f.s.src.getD a 0).toNat 0 ∧ f.t.tgt.getD (f.ar.getD a 0).toNat 0 = f.ob.getD (f.s.tgt.getD a 0).toNat 0
  ids : ∀ x, x < f.s.idn.length → f.ar.getD (f.s.idn.getD x 0).toNat 0 = f.t.idn.getD (f.ob.getD x 0).toNat 0
  th : ∀ a, a < f.s.src.length → ∀ b, b < f.s.src.length → f.s.tgt.getD a 0 = f.s.src.getD b 0 → f.A (f.s.th a b) = f.t.th (f.ar.getD a 0) (f.ar.getD b 0)
def Fun.Is (f : Fun) : Prop := f.s.Is ∧ f.t.Is ∧ f.Fits

def Tra.Sq (m : Tra) (a : Nat) : Prop := m.s.t.th (m.s.ar.getD a 0) (m.co.getD (m.s.s.tgt.getD a 0).toNat 0) = m.s.t.th (m.co.getD (m.s.s.src.getD a 0).toNat 0) (m.t.ar.getD a 0)
structure Tra.Shape (m : Tra) : Prop where
  s : m.s.Is
  t : m.t.Is
  ps : m.s.s = m.t.s
  pt : m.s.t = m.t.t
  cl : (m.co.length : Int) = m.s.s.obj
  co : ∀ i, i < m.co.length → 0 ≤ m.co.getD i 0 ∧ m.co.getD i 0 < m.s.t.src.length
  ends : ∀ x, x < m.co.length → m.s.t.src.getD (m.co.getD x 0).toNat 0 = m.s.ob.getD x 0 ∧ m.s.t.tgt.getD (m.co.getD x 0).toNat 0 = m.t.ob.getD x 0
def Tra.Is (m : Tra) : Prop := m.Shape ∧ ∀ a, a < m.s.ar.length → m.Sq a
noncomputable def Tra.first (m : Tra) : Int := match firstN m.s.ar.length (fun a => !B (m.Sq a)) with | some a => (a : Int) | none => -1
section
variable {P : Program} {N : Nat} {ops : Array Oper} {Q : Slots → GHeap → Prop} {fr : Slots} {H Hb : GHeap}
end
end Go.GL
namespace Go.Proofs.Ytddjdkpjfpnjiaa
open Go Go.GL Go.RowKit Go.Proofs
variable [MainFlag]
end Go.Proofs.Ytddjdkpjfpnjiaa
namespace Go.Proofs.Ytddjdkpjfpnjiaa
open Go Go.GL Go.RowKit Go.Proofs
variable [MainFlag]
end Go.Proofs.Ytddjdkpjfpnjiaa
namespace Go.Proofs.Ytddjdkpjfpnjiaa
open Go Go.GL Go.RowKit Go.Proofs
variable [MainFlag]
end Go.Proofs.Ytddjdkpjfpnjiaa
namespace Go.GL
open Go.RowKit
variable [MainFlag]

def out : List Nat → Nat → Prop
  | [], _ => True
  | g :: r, k => k ≠ g ∧ out r k
structure St (bs : List Nat) (H H' : GHeap) : Prop where
  nx : H.next ≤ H'.next
  same : ∀ k o, out bs k → H.get k = some o → H'.get k = some o
theorem St.refl (bs : List Nat) (H : GHeap) : St bs H H := ⟨Nat.le_refl _, fun _ _ _ h => h⟩
theorem GHeap.Le.st {H0 H H' : GHeap} {bs : List Nat} (h : H0.Le H) (s : St bs H H') (hg : ∀ k, k < H0.next → out bs k) : H0.Le H' :=
  ⟨Nat.le_trans h.1 s.nx, fun k o hk => s.same k o (hg k (GHeap.ltg hk)) (h.2 k o hk)⟩
theorem St.le {bs : List Nat} {H0 H H' : GHeap} (s : St bs H0 H) (h : H.Le H') : St bs H0 H' := ⟨Nat.le_trans s.nx h.1, fun k o hk hg => h.2 k o (s.same k o hk hg)⟩
theorem St.st {bs cs : List Nat} {H0 H H' : GHeap} (s : St bs H0 H) (h : St cs H H') (hg : ∀ k, k < H0.next → out bs k → out cs k) : St bs H0 H' :=
  ⟨Nat.le_trans s.nx h.nx, fun k o hk h1 => h.same k o (hg k (GHeap.ltg h1) hk) (s.same k o hk h1)⟩
theorem St.sA {bs cs : List Nat} {H0 H H' : GHeap} (s : St bs H0 H) (h : St cs H H') (hg : ∀ k, k < H0.next → out bs k → out cs k := by intro k hk ho; simp only [out, and_true] at ho ⊢ <;> first | exact ho | exact ho.1 | exact ho.2 | exact ho.2.1 | exact ho.2.2 | exact ho.2.2.1 | exact ho.2.2.2 | omega) : St bs H0 H' := s.st h hg
theorem St.s {g k : Nat} {H H' : GHeap} {o : GObj} (s : St [g] H H') (h : H.get k = some o) (hne : k ≠ g := by first | assumption | omega) : H'.get k = some o := s.same k o ⟨hne, trivial⟩ h
theorem Keep.le {b : Nat} {H0 H H' : GHeap} (k : Keep b H0 H) (h : H.Le H') : Keep b H0 H' := fun g o hb hg => h.2 g o (k g o hb hg)
theorem Keep.st {bs : List Nat} {b : Nat} {H0 H H' : GHeap} (k : Keep b H0 H) (h : St bs H H') (hg : ∀ k, b ≤ k → k < H0.next → out bs k) : Keep b H0 H' := fun g o hb h1 => h.same g o (hg g hb (GHeap.ltg h1)) (k g o hb h1)
theorem St.of_set {g : Nat} {H : GHeap} {o : Option GObj} : St [g] H (H.set g o) := ⟨by rw [GHeap.next_set]; exact Nat.le_refl _, fun k x hk h => by rw [GHeap.get_set_ne (Ne.symm hk.1)]; exact h⟩
theorem St.push {bs : List Nat} {H H' : GHeap} {o : GObj} (s : St bs H H') : St bs H (H'.push o) := ⟨by rw [GHeap.next_push]; have := s.nx; omega, fun k x hk h => GHeap.get_push_of (s.same k x hk h)⟩

section
variable {P : Program} {N : Nat} {ops : Array Oper} {Q : Slots → GHeap → Prop} {L : List (Oper × Nat)} {fr : Slots} {H Hb : GHeap} {o : Oper} {i : Nat} {t : Tree}
theorem GRun.r {d : Tmp} {R : Option Value → GHeap → Prop} (hd : o.dst = some d) (hN : Nat.blt d N = true) (hg : o.guard = none) (hc : CDo P o fr H R) (h : ∀ v H', R v H' → GRun P N ops Q L ((d, v) :: fr) H') : GRun P N ops Q ((o, 0) :: L) fr H :=
  .c hd hN hg (by simp) hc fun v H' hR => ⟨fun e => (by cases e), h v H' hR⟩
theorem GRun.R {d : Tmp} {R : Option Value → GHeap → Prop} (h0 : stpR o N = some d) (hc : CDo P o fr H R) (h : ∀ v H', R v H' → GRun P N ops Q L ((d, v) :: fr) H') : GRun P N ops Q ((o, 0) :: L) fr H := by
  obtain ⟨h1, h2, h3⟩ := stpR.spec h0
  exact .r h1 h2 h3 hc h
theorem GRun.r0 {R : Option Value → GHeap → Prop} (hd : o.dst = none) (hg : o.guard = none) (hc : CDo P o fr H R) (h : ∀ v H', R v H' → GRun P N ops Q L fr H') : GRun P N ops Q ((o, 0) :: L) fr H :=
  .c0 hd hg (by simp) hc fun v H' hR => ⟨fun e => (by cases e), h v H' hR⟩
theorem GTree.r0 {R : Option Value → GHeap → Prop} (hi : ops[i]? = some o) (hd : o.dst = none) (hg : o.guard = none) (hc : CDo P o fr H R) (h : ∀ v H', R v H' → GTree P N ops Q t fr H' H') : GTree P N ops Q (.c i 0 t) fr Hb H := by
  unfold GTree
  refine ⟨o, hi, by unfold dstOk; rw [hd], ?_⟩
  rw [hg]
  refine .mkI fun l B w0 ρ a w hs hf next Qx hn => ?_
  exact hc.run l B w0 ρ a w hs hf next Qx fun ρ' v c H' w' hR => hn ρ' v c H' w' ⟨fun e => (by cases e), by rw [hd, if_neg (by simp)]; exact h v H' hR⟩
end

section
variable {P : Program} {H : GHeap} {fr : Slots} {o : Oper}
theorem CDo.boxR {e : TypeId} {x : Operand} {v : Value} {n : Nat} (ho : o.op = .box e x) (he : (P.info? e).map (·.size) = some n) (hx : ev fr x = some v) :
    CDo P o fr H (fun r H' => ∃ g, r = some (.pointer (some ⟨g, 0, none⟩)) ∧ H.Le H' ∧ H.next ≤ g ∧ H'.get g = some (.row v.cells.toList e true)) :=
  .box ho he hx ⟨_, rfl, GHeap.le_push _ _, Nat.le_refl _, GHeap.get_push_new _ _⟩
theorem CDo.allocR {e : TypeId} {z : List Value} {n : Nat} (ho : o.op = .alloc e) (hz : zeroT P e = some (z, n)) (hfl : z.all flat1 = true) :
    CDo P o fr H (fun r H' => ∃ g, r = some (.pointer (some ⟨g, 0, none⟩)) ∧ H.Le H' ∧ H.next ≤ g ∧ H'.get g = some (.row z e true)) :=
  .alloc ho hz hfl ⟨_, rfl, GHeap.le_push _ _, Nat.le_refl _, GHeap.get_push_new _ _⟩
theorem CDo.litR {t e : TypeId} {len n : Nat} {parts : Array (Nat × Operand)} {z vs cs : List Value} (ho : o.op = .buildSlice t len parts) (ht : sliceT P t = some (e, n)) (hz : zeroT P e = some (z, n)) (hfl : z.all flat1 = true) (hzn : z.length = n) (h0 : 0 < n)
    (hsm : len * n ≤ 16777216) (hv : evs fr (parts.toList.map (·.2)) = some vs) (hc : fillL (fun i => some (i * n, n)) (madeL z (len * n)) ((parts.toList.map (·.1)).zip vs) = some cs) :
    CDo P o fr H (fun r H' => ∃ g, r = some (.slice (some ⟨g, 0, none⟩) len len) ∧ H.Le H' ∧ H.next ≤ g ∧ H'.get g = some (.row cs e true)) :=
  .buildSlice ho ht hz hfl hzn h0 hsm hv hc ⟨_, rfl, GHeap.le_push _ _, Nat.le_refl _, GHeap.get_push_new _ _⟩
theorem CDo.makeV {t e : TypeId} {x y : Operand} {k k' : IntKind} {j c : Int} {bytes : Nat} {z : Value} (ho : o.op = .makeSlice t x y) (ht : sliceT P t = some (e, 1)) (hz : zeroT P e = some ([z], 1)) (hb : (P.info? e).map (·.bytes) = some bytes)
    (hfl : [z].all flat1 = true) (hx : ev fr x = some (.int k j)) (hy : ev fr y = some (.int k' c)) (h0 : 0 ≤ j) (hlc : j ≤ c) (hsm : bytes * c ≤ 281474976710656) (hsc : c ≤ 9223372036854775807) :
    CDo P o fr H (fun r H' => ∃ g, r = some (.slice (some ⟨g, 0, none⟩) j.toNat j.toNat) ∧ H.Le H' ∧ H.next ≤ g ∧ H'.get g = some (.row (List.replicate j.toNat z) e true)) := by
  have e1 : (j.toNat : Int) = j := Int.toNat_of_nonneg h0
  have e2 : (c.toNat : Int) = c := Int.toNat_of_nonneg (by omega)
  have e3 : bytes * c.toNat ≤ 281474976710656 := by
    have : ((bytes * c.toNat : Nat) : Int) ≤ 281474976710656 := by rw [Int.natCast_mul, e2]; exact hsm
    omega
  refine .makeSlice (l := j.toNat) (c := c.toNat) ho ht hz hb hfl rfl (by omega) (by rw [e1]; exact hx) (by rw [e2]; exact hy) (by omega) e3 (by omega) ⟨_, rfl, GHeap.le_push _ _, Nat.le_refl _, ?_⟩
  rw [GHeap.get_push_new, madeL_one, Nat.mul_one]
theorem CDo.makeB {t e : TypeId} {x y : Operand} {k k' : IntKind} {j c : Int} {bytes : Nat} (ho : o.op = .makeSlice t x y) (ht : sliceT P t = some (e, 1)) (hz : zeroT P e = some ([.bool false], 1)) (hb : (P.info? e).map (·.bytes) = some bytes)
    (hx : ev fr x = some (.int k j)) (hy : ev fr y = some (.int k' c)) (h0 : 0 ≤ j) (hlc : j ≤ c) (hsm : bytes * c ≤ 281474976710656) (hsc : c ≤ 9223372036854775807) :
    CDo P o fr H (fun r H' => ∃ g, r = some (.slice (some ⟨g, 0, none⟩) j.toNat j.toNat) ∧ H.Le H' ∧ H.next ≤ g ∧ H'.get g = some (.row (bools (List.replicate j.toNat false)) e true)) := by
  have : bools (List.replicate j.toNat false) = List.replicate j.toNat (Value.bool false) := by simp [bools]
  rw [this]
  exact .makeV ho ht hz hb rfl hx hy h0 hlc hsm hsc
theorem CDo.storeR {t : TypeId} {x y : Operand} {g off : Nat} {v : Value} {cs : List Value} {e : TypeId} (ho : o.op = .store t x y) (ht : (P.info? t).map (·.size) = some 1) (hx : ev fr x = some (.pointer (some ⟨g, off, none⟩))) (hy : ev fr y = some v)
    (h1 : v.oneCell' = true) (hg : H.get g = some (.row cs e true)) (hoff : off < cs.length) :
    CDo P o fr H (fun r H' => r = none ∧ St [g] H H' ∧ H'.get g = some (.row (cs.set off v) e true)) :=
  .store ho ht hx hy h1 hg hoff ⟨rfl, .of_set, GHeap.get_set_eq (GHeap.ltg hg)⟩
theorem CDo.storeI {t : TypeId} {x y : Operand} {g off : Nat} {m : Int} {ys : List Int} {e : TypeId} (ho : o.op = .store t x y) (ht : (P.info? t).map (·.size) = some 1) (hx : ev fr x = some (.pointer (some ⟨g, off, none⟩))) (hy : ev fr y = some (.int .i64 m))
    (hg : H.get g = some (.row (ints ys) e true)) (hoff : off < ys.length) :
    CDo P o fr H (fun r H' => r = none ∧ St [g] H H' ∧ H'.get g = some (.row (ints (ys.set off m)) e true)) := by
  rw [← ints_set]; exact .storeR ho ht hx hy rfl hg (by simpa using hoff)
theorem bools_set (ys : List Bool) (i : Nat) (v : Bool) : (bools ys).set i (.bool v) = bools (ys.set i v) := by simp [bools, List.map_set]
theorem CDo.storeB {t : TypeId} {x y : Operand} {g off : Nat} {m : Bool} {ys : List Bool} {e : TypeId} (ho : o.op = .store t x y) (ht : (P.info? t).map (·.size) = some 1) (hx : ev fr x = some (.pointer (some ⟨g, off, none⟩))) (hy : ev fr y = some (.bool m))
    (hg : H.get g = some (.row (bools ys) e true)) (hoff : off < ys.length) :
    CDo P o fr H (fun r H' => r = none ∧ St [g] H H' ∧ H'.get g = some (.row (bools (ys.set off m)) e true)) := by
  rw [← bools_set]; exact .storeR ho ht hx hy rfl hg (by simpa using hoff)
theorem CDo.storeNR {t : TypeId} {x y : Operand} {g off n : Nat} {vs : Array Value} {cs : List Value} {e : TypeId} (ho : o.op = .store t x y) (ht : (P.info? t).map (·.size) = some n) (hx : ev fr x = some (.pointer (some ⟨g, off, none⟩))) (hy : ev fr y = some (.agg vs))
    (hn : vs.size = n) (h1 : vs.toList.all (·.oneCell') = true) (hg : H.get g = some (.row cs e true)) (hoff : off + n ≤ cs.length) :
    CDo P o fr H (fun r H' => r = none ∧ St [g] H H' ∧ H'.get g = some (.row (setAll cs off vs.toList) e true)) :=
  .storeN ho ht hx hy hn h1 hg hoff ⟨rfl, .of_set, GHeap.get_set_eq (GHeap.ltg hg)⟩
theorem CDo.fillR {t : TypeId} {x y : Operand} {g n : Nat} {vs : Array Value} {cs : List Value} {e : TypeId} (ho : o.op = .store t x y) (ht : (P.info? t).map (·.size) = some n) (hx : ev fr x = some (.pointer (some ⟨g, 0, none⟩))) (hy : ev fr y = some (.agg vs))
    (hn : vs.size = n) (h1 : vs.toList.all (·.oneCell') = true) (hg : H.get g = some (.row cs e true)) (hoff : cs.length = n) :
    CDo P o fr H (fun r H' => r = none ∧ St [g] H H' ∧ H'.get g = some (.row vs.toList e true)) := by
  have : setAll cs 0 vs.toList = vs.toList := setAll_all _ _ (by simp [hoff, hn])
  have h := CDo.storeNR (P := P) (H := H) ho ht hx hy hn h1 hg (by omega)
  rw [this] at h
  exact h
theorem CDo.litA {t e : TypeId} {len n : Nat} {parts : Array (Nat × Operand)} {z vs cs : List Value} (ho : o.op = .buildSlice t len parts) (ht : sliceT P t = some (e, n)) (hz : zeroT P e = some (z, n)) (hfl : z.all flat1 = true) (hzn : z.length = n) (hv : evs fr (parts.toList.map (·.2)) = some vs) (hc : fillL (fun i => some (i * n, n)) (madeL z (len * n)) ((parts.toList.map (·.1)).zip vs) = some cs) (h0 : 0 < n := by omega)
    (hsm : len * n ≤ 16777216 := by omega) : CDo P o fr H (fun r H' => ∃ g, r = some (.slice (some ⟨g, 0, none⟩) len len) ∧ H.Le H' ∧ H.next ≤ g ∧ H'.get g = some (.row cs e true)) := .litR ho ht hz hfl hzn h0 hsm hv hc
theorem CDo.fillA {t : TypeId} {x y : Operand} {g n : Nat} {vs : Array Value} {cs : List Value} {e : TypeId} (ho : o.op = .store t x y) (ht : (P.info? t).map (·.size) = some n) (hx : ev fr x = some (.pointer (some ⟨g, 0, none⟩))) (hy : ev fr y = some (.agg vs))
    (hn : vs.size = n) (h1 : vs.toList.all (·.oneCell') = true) (hg : H.get g = some (.row cs e true) := by assumption) (hoff : cs.length = n := by first | rfl | exact Nat.le_of_ble_eq_true rfl | simp) :
    CDo P o fr H (fun r H' => r = none ∧ St [g] H H' ∧ H'.get g = some (.row vs.toList e true)) := .fillR ho ht hx hy hn h1 hg hoff
theorem CDo.appendR {t tx e : TypeId} {s x : Operand} {g off n m sz bytes : Nat} {z cs news : List Value} (ho : o.op = .call { callee := .builtin .append, args := #[s, x], argTypes := #[t, tx] }) (ht : sliceT P t = some (e, sz)) (hz : zeroT P e = some (z, sz)) (hzn : z.length = sz)
    (hb : (P.info? e).map (·.bytes) = some bytes) (hsv : ev fr s = some (.slice (some ⟨g, off, none⟩) n n)) (hg : H.get g = some (.row cs e true)) (hend : off + n * sz = cs.length) (hsrc : SrcG P fr H sz tx x m news)
    (hN : n + m ≤ 16777216) (hB : (n + m) * bytes ≤ 140737488355328) :
    CDo P o fr H (fun r H' => ∃ g', r = some (.slice (some ⟨g', 0, none⟩) (n + m) (n + m)) ∧ St [g] H H' ∧ H.next ≤ g' ∧ H'.get g' = some (.row (cs.drop off ++ news) e true)) :=
  .append ho ht hz hzn hb hsv hg hend hsrc (by unfold maxLen; omega) hB ⟨_, rfl, .push .of_set, Nat.le_refl _, by have := GHeap.get_push_new (H.set g none) (.row (cs.drop off ++ news) e true); rwa [GHeap.next_set] at this⟩
theorem CDo.appendV {t tx e e' : TypeId} {s x : Operand} {g g1 n sz bytes : Nat} {z cs vs : List Value} (ho : o.op = .call { callee := .builtin .append, args := #[s, x], argTypes := #[t, tx] }) (ht : sliceT P t = some (e, sz)) (hz : zeroT P e = some (z, sz)) (hzn : z.length = sz)
    (hb : (P.info? e).map (·.bytes) = some bytes) (htx : sliceT P tx = some (e', sz)) (hsv : ev fr s = some (.slice (some ⟨g, 0, none⟩) n n)) (hx : ev fr x = some (.slice (some ⟨g1, 0, none⟩) 1 1)) (hg : H.get g = some (.row cs e true)) (hg1 : H.get g1 = some (.row vs e' true)) (hend : n * sz = cs.length)
    (hv : vs.length = sz) (hone : vs.all (·.oneCell') = true) (hN : n + 1 ≤ 16777216) (hB : (n + 1) * bytes ≤ 140737488355328) :
    CDo P o fr H (fun r H' => ∃ g', r = some (.slice (some ⟨g', 0, none⟩) (n + 1) (n + 1)) ∧ St [g] H H' ∧ H.next ≤ g' ∧ H'.get g' = some (.row (cs ++ vs) e true)) :=
  .appendR (cs := cs) (news := vs) ho ht hz hzn hb hsv hg (by omega) (.slice htx hx (by omega) (fun i v hv => by rw [GHeap.cell_of hg1, Nat.zero_add]; exact hv) (fun v hv => List.all_eq_true.1 hone v hv)) hN hB
theorem CDo.appendI {t tx e e' : TypeId} {s x : Operand} {g g1 n bytes : Nat} {z : List Value} {ys : List Int} {m : Int} (ho : o.op = .call { callee := .builtin .append, args := #[s, x], argTypes := #[t, tx] }) (ht : sliceT P t = some (e, 1)) (hz : zeroT P e = some (z, 1)) (hzn : z.length = 1)
    (hb : (P.info? e).map (·.bytes) = some bytes) (htx : sliceT P tx = some (e', 1)) (hsv : ev fr s = some (.slice (some ⟨g, 0, none⟩) n n)) (hx : ev fr x = some (.slice (some ⟨g1, 0, none⟩) 1 1)) (hg : H.get g = some (.row (ints ys) e true)) (hg1 : H.get g1 = some (.row [.int .i64 m] e' true)) (hend : n = ys.length)
    (hN : n + 1 ≤ 16777216) (hB : (n + 1) * bytes ≤ 140737488355328) :
    CDo P o fr H (fun r H' => ∃ g', r = some (.slice (some ⟨g', 0, none⟩) (n + 1) (n + 1)) ∧ St [g] H H' ∧ H.next ≤ g' ∧ H'.get g' = some (.row (ints (ys ++ [m])) e true)) := by
  have e1 : ints (ys ++ [m]) = ints ys ++ [.int .i64 m] := by simp [ints]
  rw [e1]
  exact .appendV ho ht hz hzn hb htx hsv hx hg hg1 (by simp; omega) rfl rfl hN hB
end

def filtN (n : Nat) (p : Nat → Bool) : List Int := ((List.range n).filter p).map fun (i : Nat) => (i : Int)
theorem filtN_T {n : Nat} {p : Nat → Bool} (h : p n = true) : filtN (n + 1) p = filtN n p ++ [(n : Int)] := by simp [filtN, List.range_succ, h]
theorem filtN_F {n : Nat} {p : Nat → Bool} (h : p n = false) : filtN (n + 1) p = filtN n p := by simp [filtN, List.range_succ, h]
theorem filtN_le (n : Nat) (p : Nat → Bool) : (filtN n p).length ≤ n := by
  unfold filtN; rw [List.length_map]; exact Nat.le_trans (List.length_filter_le _ _) (by simp)
theorem mem_filtN {n : Nat} {p : Nat → Bool} {x : Int} : x ∈ filtN n p ↔ ∃ i, i < n ∧ p i = true ∧ x = i := by
  simp only [filtN, List.mem_map, List.mem_filter, List.mem_range]
  exact ⟨fun ⟨i, ⟨h1, h2⟩, h3⟩ => ⟨i, h1, h2, h3.symm⟩, fun ⟨i, h1, h2, h3⟩ => ⟨i, ⟨h1, h2⟩, h3.symm⟩⟩
theorem filtN_congr {n : Nat} {p q : Nat → Bool} (h : ∀ i, i < n → p i = q i) : filtN n p = filtN n q := by
  unfold filtN
  rw [List.filter_congr fun i hi => h i (List.mem_range.1 hi)]
theorem getD_mem {xs : List Int} {i : Nat} (h : i < xs.length) : xs.getD i 0 ∈ xs := by
  rw [List.getD_eq_getElem?_getD, List.getElem?_eq_getElem h]; exact List.getElem_mem h
theorem filtN_get {n : Nat} {p : Nat → Bool} {i : Nat} (h : i < (filtN n p).length) : ∃ j, j < n ∧ p j = true ∧ (filtN n p).getD i 0 = j := mem_filtN.1 (getD_mem h)

def firstIn (xs : List Int) (p : Int → Bool) : Int := (xs.find? p).getD (-1)
theorem CDo.apI {P : Program} {o : Oper} {fr : Slots} {H : GHeap} {t tx e e' : TypeId} {s x : Operand} {g g1 n bytes : Nat} {z : List Value} {ys : List Int} {m : Int} (ho : o.op = .call { callee := .builtin .append, args := #[s, x], argTypes := #[t, tx] }) (ht : sliceT P t = some (e, 1)) (hz : zeroT P e = some (z, 1)) (hzn : z.length = 1)
    (hb : (P.info? e).map (·.bytes) = some bytes) (htx : sliceT P tx = some (e', 1)) (hsv : ev fr s = some (.slice (some ⟨g, 0, none⟩) n n)) (hx : ev fr x = some (.slice (some ⟨g1, 0, none⟩) 1 1)) (hg : H.get g = some (.row (ints ys) e true) := by assumption) (hg1 : H.get g1 = some (.row [.int .i64 m] e' true) := by assumption) (hend : n = ys.length := by first | omega | (simp <;> omega))
    (hN : n + 1 ≤ 16777216 := by omega) (hB : (n + 1) * bytes ≤ 140737488355328 := by omega) :
    CDo P o fr H (fun r H' => ∃ g', r = some (.slice (some ⟨g', 0, none⟩) (n + 1) (n + 1)) ∧ St [g] H H' ∧ H.next ≤ g' ∧ H'.get g' = some (.row (ints (ys ++ [m])) e true)) := .appendI ho ht hz hzn hb htx hsv hx hg hg1 hend hN hB
end Go.GL
namespace Go.GL
variable [MainFlag]

def Cat.hom (c : Cat) (x y : Int) : List Int := filtN c.src.length fun f => decide (c.src.getD f 0 = x) && decide (c.tgt.getD f 0 = y)
def Cat.invB (c : Cat) (f g : Int) : Bool := decide (c.th f g = c.idn.getD (c.src.getD f.toNat 0).toNat 0) && decide (c.th g f = c.idn.getD (c.tgt.getD f.toNat 0).toNat 0)
def Cat.inv (c : Cat) (f : Int) : Int := firstIn (c.hom (c.tgt.getD f.toNat 0) (c.src.getD f.toNat 0)) (c.invB f)
theorem Cat.hom_get {c : Cat} {x y : Int} {i : Nat} (h : i < (c.hom x y).length) : ∃ f : Nat, f < c.src.length ∧ c.src.getD f 0 = x ∧ c.tgt.getD f 0 = y ∧ (c.hom x y).getD i 0 = f := by
  obtain ⟨j, h1, h2, h3⟩ := filtN_get h
  simp only [sps] at h2
  exact ⟨j, h1, h2.1, h2.2, h3⟩
theorem Cat.mem_hom {c : Cat} {x y g : Int} : g ∈ c.hom x y ↔ ∃ f : Nat, f < c.src.length ∧ c.src.getD f 0 = x ∧ c.tgt.getD f 0 = y ∧ g = f := by
  unfold Cat.hom
  rw [mem_filtN]
  simp only [sps]
  exact ⟨fun ⟨f, h1, h2, h3⟩ => ⟨f, h1, h2.1, h2.2, h3⟩, fun ⟨f, h1, h2, h3, h4⟩ => ⟨f, h1, ⟨h2, h3⟩, h4⟩⟩
theorem Cat.hom_le (c : Cat) (x y : Int) : (c.hom x y).length ≤ c.src.length := filtN_le _ _

end Go.GL
namespace Go.Proofs.Ytddjdkpjfpnjiaa
open Go Go.GL Go.RowKit Go.Proofs
variable [MainFlag]
theorem hom_c {g o : Nat} {c : Cat} {p : CatP} {x y : Int} {H : GHeap} (h : Cat.At H g o c p := by assumption) (hS : c.Shape := by assumption) :
    GCalls Try.prog 48 [.pointer (some ⟨g, o, none⟩), .int .i64 x, .int .i64 y] H (NewInts 2 H (c.hom x y)) := by
  refine GCalls.body (N := 44) (rs := [.tmp 6]) Try.func48 rfl rfl rfl rfl (fun Qx v hend => ?_)
  refine .fg [0, 1, 2] rfl ?_
  have d := GHeap.Le.refl H
  have a := h
  have _ := hS.tl
  have _ := hS.n40
  refine .seq (fun K1 a5 => .region (.mv rfl (.nil (a5 _ _ (.seq (fun K2 a6 => .region ?_))))))
  refine .R rfl (.litA rfl sl_22_A ze_2_E rfl rfl rfl rfl) ?_
  rintro _ H9 ⟨g9, rfl, b2, _, a0⟩
  replace d := d.trans b2
  have _ := GHeap.ltg a0
  replace h := a.mono d
  obtain ⟨-, c1, -, -, -, -, -, -, -⟩ := h.get
  replace a0 : GHeap.get H9 g9 = some (.row (ints []) 2 true) := a0
  refine .mv rfl (.nil (a6 _ _ (.seq (fun K3 a8 => .seq (fun K4 a7 => .region (.mv rfl (.q rfl (.nilCheck rfl) (.q rfl (.fieldAddr fo_31_1_B rfl) (.q rfl (.lA on_22_B rfl) (.q rfl (.len sl_22_A rfl) (.mv rfl (.nil (a7 _ _ (.block ?_))))))))))))))
  refine .loopF (σ := Nat × Nat × Nat) [0, 1, 2, 14] (fun (k, i, m) => [(15, some (.int .i64 (k : Int))), (7, some (.slice (some ⟨i, 0, none⟩) m m))]) (fun (k, i, m) H' => St [g9] H9 H' ∧ H'.get i = some (.row (ints (filtN k fun f => decide (c.src.getD f 0 = x) && decide (c.tgt.getD f 0 = y))) 2 true) ∧ (i = g9 ∨ H9.next ≤ i) ∧ m = (filtN k fun f => decide (c.src.getD f 0 = x) && decide (c.tgt.getD f 0 = y)).length ∧ k ≤ c.src.length) (fun (k, i, m) => c.src.length - k) ((0, _, _)) rfl (.p rfl) ?_ ?_
  ·
   refine ⟨.refl _ _, by assumption, .inl rfl, by rfl, ?_⟩
   omega
  rintro ⟨k, i, m⟩ _ ⟨b, e, _, s, _⟩ _ l
  dsimp only [cA, nA]
  have r : H.next ≤ i := by omega
  have _ := b.nx
  replace d := d.st b (fun k hk => ⟨by omega, trivial⟩)
  replace h := a.mono d
  clear c1
  obtain ⟨-, c1, c2, -, -, i1, i2, -, -⟩ := h.get
  have _ := filtN_le k fun f => decide (c.src.getD f 0 = x) && decide (c.tgt.getD f 0 = y)
  refine .seq (fun K5 b1 => .region (.q rfl (.cmp rfl rfl rfl) (.nil (b1 _ _ (.seq (fun K6 a9 => ?_))))))
  refine .cond rfl ?_ ?_ <;> intro a4
  ·
   try simp only [sps] at a4
   refine .skip (a9 _ _ (.seq (fun K7 t => .block (.seq (fun K8 b0 => .region (.mv rfl (.mv rfl (.nil (b0 _ _ (.seq (fun K9 a2 => .region (.mv rfl (.q rfl (.nilCheck rfl) (.q rfl (.fieldAddr fo_31_1_B rfl) (.q rfl (.lA on_22_B rfl) ?_)))))))))))))))
   refine .mv rfl (.q rfl (.iN sl_22_A rfl rfl) (.q rfl (.lI on_2_A rfl) (.mv rfl (.q rfl (.cmp rfl rfl rfl) (.mv rfl ?_)))))
   refine .split (fun a1 => ?_) (fun a1 => ?_)
   ·
    try simp only [sps] at a1
    refine .qg rfl (.move rfl) (.qg rfl (.nilCheck rfl) (.qg rfl (.fieldAddr fo_31_2_B rfl) (.qg rfl (.lA on_22_B rfl) (.qg rfl (.move rfl) (.qg rfl (.iN sl_22_A rfl rfl) (.qg rfl (.lI on_2_A rfl) (.qg rfl (.move rfl) (.qg rfl (.cmp rfl rfl rfl) (.q rfl (.pickT rfl rfl) (.nil (a2 _ _ ?_)))))))))))
    refine .cond rfl ?_ ?_ <;> intro a3
    ·
     try simp only [sps] at a3
     refine .region (.mv rfl (.mv rfl ?_))
     refine .R rfl (.litA rfl sl_22_A ze_2_E rfl rfl rfl rfl) ?_
     rintro _ _ ⟨_, rfl, j, _, w⟩
     replace d := d.trans j
     replace b := b.le j
     replace e := j.2 _ _ e
     have _ := GHeap.ltg w
     replace h := a.mono d
     clear c1 c2 i1 i2
     refine .R rfl (.apI rfl sl_22_A ze_2_E rfl by_2_E sl_22_A rfl rfl) ?_
     rintro _ _ ⟨_, rfl, n, _, _⟩
     replace d := d.st n (fun k hk => ⟨by omega, trivial⟩)
     replace b := b.sA n
     replace h := a.mono d
     refine .mv rfl (.nil (t _ _ (.region (.q rfl (.aD rfl rfl rfl) (.mv rfl (.nil ?_))))))
     refine l ((k + 1, _, _)) _ _ ?_ ?_ (.p rfl)
     ·
      refine ⟨b, by (rw [filtN_T (by simp only [sps]; omega)]; assumption), by omega, by (rw [filtN_T (by simp only [sps]; omega)] <;> (first | omega | (simp only [List.length_append, List.length_cons, List.length_nil] <;> omega))), ?_⟩
      omega
     (dsimp only; omega)
    try simp only [sps] at a3
    refine .skip (t _ _ (.region (.q rfl (.aD rfl rfl rfl) (.mv rfl (.nil ?_)))))
    refine l ((k + 1, _, _)) _ _ ?_ ?_ (.p rfl)
    ·
     refine ⟨b, by (rw [filtN_F (by simp only [sps]; omega)]; assumption), by omega, by (rw [filtN_F (by simp only [sps]; omega)] <;> (first | omega | (simp only [List.length_append, List.length_cons, List.length_nil] <;> omega))), ?_⟩
     omega
    (dsimp only; omega)
   try simp only [sps] at a1
   refine .z rfl (.z rfl (.z rfl (.z rfl (.z rfl (.z rfl (.z rfl (.z rfl (.z rfl (.q rfl (.pickF rfl rfl) (.nil (a2 _ _ ?_)))))))))))
   refine .condF rfl ?_
   refine .skip (t _ _ (.region (.q rfl (.aD rfl rfl rfl) (.mv rfl (.nil ?_)))))
   refine l ((k + 1, _, _)) _ _ ?_ ?_ (.p rfl)
   ·
    refine ⟨b, by (rw [filtN_F (by simp only [sps]; omega)]; assumption), by omega, by (rw [filtN_F (by simp only [sps]; omega)] <;> (first | omega | (simp only [List.length_append, List.length_cons, List.length_nil] <;> omega))), ?_⟩
    omega
   (dsimp only; omega)
  try simp only [sps] at a4
  refine .exit (a8 _ _ (.seq (fun K10 u => .region (.mv rfl (.mv rfl (.nil (u _ _ (.ret (v _ _ (⟨_, rfl, ?_⟩))))))))))
  obtain rfl : k = c.src.length := by omega
  exact ⟨d, _, by rw [s]; rfl, e, r⟩
end Go.Proofs.Ytddjdkpjfpnjiaa
namespace Go.GL
open Go.RowKit Go.WideShapes Go.ChangeShapes Go.Deep
variable [MainFlag]

def Intsss (H : GHeap) (a : Option Addr) (x : List (List (List Int))) (r : Nat → Option Addr) (s : Nat → Nat → Option Addr) : Prop :=
  SlA H a x.length (fun i => .slice (r i) (x.getD i []).length (x.getD i []).length) ∧ ∀ i, i < x.length → Intss H (r i) (x.getD i []) (s i)
def Wd2 (xss : List (List Int)) : Prop := xss.length ≤ 9223372036854775807 ∧ ∀ i, I64s (xss.getD i [])
def Wd3 (x : List (List (List Int))) : Prop := x.length ≤ 9223372036854775807 ∧ ∀ i, Wd2 (x.getD i [])
def Sm3 (x : List (List (List Int))) : Prop := x.length ≤ 1048576 ∧ ∀ i, (x.getD i []).length ≤ 1048576 ∧ ∀ j, ((x.getD i []).getD j []).length ≤ 1048576
end Go.GL
namespace Go.GL
open Go.RowKit
variable [MainFlag]
structure SFun where
  sh : Cat
  sz : List Int
  ac : List (List Int)
structure SFunP where
  sh : CatP
  a1 : Option Addr
  a2 : Option Addr
  r2 : Nat → Option Addr
def SFun.cells (c : SFun) (p : SFunP) : List Value := c.sh.cells p.sh ++ ([.slice p.a1 c.sz.length c.sz.length] ++ ([.slice p.a2 c.ac.length c.ac.length]))
def SFun.In (H : GHeap) (c : SFun) (p : SFunP) : Prop := c.sh.In H p.sh ∧ Ints H p.a1 c.sz ∧ Intss H p.a2 c.ac p.r2
theorem SFun.In.mono {H H' : GHeap} {c : SFun} {p : SFunP} (h : c.In H p) (hle : H.Le H') : c.In H' p := ⟨Cat.In.mono (h.1) hle, Ints.mono (h.2.1) hle, Intss.mono (h.2.2) hle⟩
def SFun.At (H : GHeap) (g o : Nat) (c : SFun) (p : SFunP) : Prop := Mem H g o (c.cells p) ∧ c.In H p
theorem SFun.At.mono {H H' : GHeap} {g o : Nat} {c : SFun} {p : SFunP} (h : SFun.At H g o c p) (hle : H.Le H') : SFun.At H' g o c p := ⟨h.1.mono hle, SFun.In.mono h.2 hle⟩
theorem SFun.At.get {H : GHeap} {g o : Nat} {c : SFun} {p : SFunP} (h : SFun.At H g o c p) : Cat.At H g (o + 0) c.sh p.sh ∧ H.cell g (o + 5) = some (.slice p.a1 c.sz.length c.sz.length) ∧ H.cell g (o + 6) = some (.slice p.a2 c.ac.length c.ac.length) ∧ Ints H p.a1 c.sz ∧ Intss H p.a2 c.ac p.r2 :=
  ⟨⟨h.1.left, h.2.1⟩, (h.1.right (n := 5) rfl).left 0 _ rfl, ((h.1.right (n := 5) rfl).right (n := 1) rfl) 0 _ rfl, h.2.2.1, h.2.2.2⟩
def SFun.Small (c : SFun) : Prop := c.sh.Small ∧ c.sz.length ≤ 1048576 ∧ (c.ac.length ≤ 1048576 ∧ ∀ i, (c.ac.getD i []).length ≤ 1048576)
def SFun.Wide (c : SFun) : Prop := c.sh.Wide ∧ I64s c.sz ∧ (c.ac.length ≤ 9223372036854775807 ∧ ∀ i, I64s (c.ac.getD i []))
def SFunAt (b : Nat) (H : GHeap) (c : SFun) (p : SFunP) : Prop := CatAt b H c.sh p.sh ∧ IntsAt b H p.a1 c.sz ∧ IntssAt b H p.a2 c.ac p.r2
theorem SFunAt.keep {b b' : Nat} {H H' : GHeap} {c : SFun} {p : SFunP} (h : SFunAt b H c p) (hk : Keep b' H H') (hb : b' ≤ b) : SFunAt b' H' c p := ⟨CatAt.keep (h.1) hk hb, IntsAt.keep (h.2.1) hk hb, IntssAt.keep (h.2.2) hk hb⟩
theorem SFunAt.inn {b : Nat} {H : GHeap} {c : SFun} {p : SFunP} (h : SFunAt b H c p) : c.In H p := ⟨CatAt.inn (h.1), IntsAt.ints (h.2.1), IntssAt.intss (h.2.2)⟩
def NewSFun (H : GHeap) (c : SFun) (v : Value) (H' : GHeap) : Prop := H.Le H' ∧ ∃ p, v = .agg (c.cells p).toArray ∧ SFunAt H.next H' c p
def sfunT (P : Program) (t : TypeId) : Bool := structIs P t 7 3 fun fs => fieldIs P fs 0 0 5 catT && fieldIs P fs 1 5 1 intsT && fieldIs P fs 2 6 1 intssT
def RSFun (ρ : Place) (H : GHeap) (cs : List Value) : Prop := ∃ (c : SFun) (p : SFunP), LRel ρ (c.cells p) cs ∧ c.In H p ∧ c.Wide
theorem import_sfun {P : Program} {t : TypeId} (ht : sfunT P t = true) : Imports P t RSFun := by
  intro T enc B w0 ρ H w held fuel cs x hs hB h
  obtain ⟨fs, g1, g2, g3, g4⟩ := structIs_run ht
  simp only [Bool.and_eq_true] at g4
  obtain ⟨⟨q0, q1⟩, q2⟩ := g4
  obtain ⟨xs, n, _, _, hl, hx, hf⟩ := DataW.trod_struct g1 h
  obtain ⟨ρ0, H0, s0, e0, l0, y0, p0, v0, i0, w0⟩ := import_field (fun _ h => import_cat h) q0 hx hf hs hB
  obtain ⟨ρ1, H1, s1, e1, l1, a1, x1, c1, z1, v1, i1, w1⟩ := import_field (fun _ h => import_ints h) q1 hx hf s0 hB
  obtain ⟨ρ2, H2, s2, e2, l2, a2, x2, r2, c2, z2, v2, i2, w2⟩ := import_field (fun _ h => import_intss h) q2 hx hf s1 hB
  refine ⟨ρ2, H2, s2, e0.trans (e1.trans (e2)), l0.trans (l1.trans (l2)), ⟨y0, x1, x2⟩, ⟨p0, a1, a2, r2⟩, ?_, ⟨Cat.In.mono i0 (l1.trans (l2)), i1.mono (l2), i2⟩, ⟨w0, w1, w2⟩⟩
  have hlen : cs.length = 7 := by rw [hl, g2]
  have e : cs = (cs.drop 0).take 5 ++ ((cs.drop 5).take 1 ++ ((cs.drop 6).take 1)) := by
    match cs, hlen with
    | [_, _, _, _, _, _, _], _ => rfl
  rw [e, z1, z2]
  exact (LRel.append (v0.mono (e1.trans (e2))) (LRel.append (.cons (v1.mono (e2)) (.nil _)) (.cons (v2) (.nil _))))
structure SMap where
  s : SFun
  t : SFun
  pa : List (List Int)
structure SMapP where
  s : SFunP
  t : SFunP
  a2 : Option Addr
  r2 : Nat → Option Addr
def SMap.cells (c : SMap) (p : SMapP) : List Value := c.s.cells p.s ++ (c.t.cells p.t ++ ([.slice p.a2 c.pa.length c.pa.length]))
def SMap.In (H : GHeap) (c : SMap) (p : SMapP) : Prop := c.s.In H p.s ∧ c.t.In H p.t ∧ Intss H p.a2 c.pa p.r2
def SMap.At (H : GHeap) (g o : Nat) (c : SMap) (p : SMapP) : Prop := Mem H g o (c.cells p) ∧ c.In H p
def SMap.Small (c : SMap) : Prop := c.s.Small ∧ c.t.Small ∧ (c.pa.length ≤ 1048576 ∧ ∀ i, (c.pa.getD i []).length ≤ 1048576)
def SMap.Wide (c : SMap) : Prop := c.s.Wide ∧ c.t.Wide ∧ (c.pa.length ≤ 9223372036854775807 ∧ ∀ i, I64s (c.pa.getD i []))
structure Con where
  ap : Int
  lg : List Int
structure ConP where
  a1 : Option Addr
def Con.cells (c : Con) (p : ConP) : List Value := [.int .i64 c.ap] ++ ([.slice p.a1 c.lg.length c.lg.length])
def Con.In (H : GHeap) (c : Con) (p : ConP) : Prop := Ints H p.a1 c.lg
def Con.At (H : GHeap) (g o : Nat) (c : Con) (p : ConP) : Prop := Mem H g o (c.cells p) ∧ c.In H p
def Con.Small (c : Con) : Prop := (-9223372036854775808 ≤ c.ap ∧ c.ap ≤ 9223372036854775807) ∧ c.lg.length ≤ 1048576
def Con.Wide (c : Con) : Prop := I64 c.ap ∧ I64s c.lg
structure Prt where
  me : List (List Int)
structure PrtP where
  a0 : Option Addr
  r0 : Nat → Option Addr
def Prt.cells (c : Prt) (p : PrtP) : List Value := [.slice p.a0 c.me.length c.me.length]
def Prt.In (H : GHeap) (c : Prt) (p : PrtP) : Prop := Intss H p.a0 c.me p.r0
def Prt.At (H : GHeap) (g o : Nat) (c : Prt) (p : PrtP) : Prop := Mem H g o (c.cells p) ∧ c.In H p
def Prt.Small (c : Prt) : Prop := (c.me.length ≤ 1048576 ∧ ∀ i, (c.me.getD i []).length ≤ 1048576)
def Prt.Wide (c : Prt) : Prop := (c.me.length ≤ 9223372036854775807 ∧ ∀ i, I64s (c.me.getD i []))
structure Prof where
  s : Cat
  t : Cat
  sz : List (List Int)
  be : List (List (List Int))
  bh : List (List (List Int))
structure ProfP where
  s : CatP
  t : CatP
  a2 : Option Addr
  r2 : Nat → Option Addr
  a3 : Option Addr
  r3 : Nat → Option Addr
  s3 : Nat → Nat → Option Addr
  a4 : Option Addr
  r4 : Nat → Option Addr
  s4 : Nat → Nat → Option Addr
def Prof.cells (c : Prof) (p : ProfP) : List Value := c.s.cells p.s ++ (c.t.cells p.t ++ ([.slice p.a2 c.sz.length c.sz.length] ++ ([.slice p.a3 c.be.length c.be.length] ++ ([.slice p.a4 c.bh.length c.bh.length]))))
def Prof.In (H : GHeap) (c : Prof) (p : ProfP) : Prop := c.s.In H p.s ∧ c.t.In H p.t ∧ Intss H p.a2 c.sz p.r2 ∧ Intsss H p.a3 c.be p.r3 p.s3 ∧ Intsss H p.a4 c.bh p.r4 p.s4
def Prof.At (H : GHeap) (g o : Nat) (c : Prof) (p : ProfP) : Prop := Mem H g o (c.cells p) ∧ c.In H p
def Prof.Small (c : Prof) : Prop := c.s.Small ∧ c.t.Small ∧ (c.sz.length ≤ 1048576 ∧ ∀ i, (c.sz.getD i []).length ≤ 1048576) ∧ Sm3 c.be ∧ Sm3 c.bh
def Prof.Wide (c : Prof) : Prop := c.s.Wide ∧ c.t.Wide ∧ (c.sz.length ≤ 9223372036854775807 ∧ ∀ i, I64s (c.sz.getD i [])) ∧ Wd3 c.be ∧ Wd3 c.bh
end Go.GL
namespace Go.GL
open Go.RowKit
variable [MainFlag]

end Go.GL
namespace Go.GL
variable [MainFlag]

def first2 (n : Nat) (len : Nat → Nat) (p : Nat → Nat → Bool) : Int × Int :=
  match firstN n fun a => (firstN (len a) (p a)).isSome with
  | some a => ((a : Int), (((firstN (len a) (p a)).getD 0 : Nat) : Int))
  | none => (-1, 0)
def SFun.AcOk (f : SFun) (a : Nat) : Prop :=
  ((f.ac.getD a []).length : Int) = f.sz.getD (f.sh.src.getD a 0).toNat 0 ∧ allIn (f.ac.getD a []) (f.sz.getD (f.sh.tgt.getD a 0).toNat 0) = true
structure SFun.Shape (f : SFun) : Prop where
  c : f.sh.Is
  zl : (f.sz.length : Int) = f.sh.obj
  sz : ∀ i, i < f.sz.length → 0 ≤ f.sz.getD i 0 ∧ f.sz.getD i 0 ≤ 16
  al : f.ac.length = f.sh.src.length
  ac : ∀ a, a < f.ac.length → f.AcOk a
theorem SFun.Shape.act {f : SFun} (h : f.Shape) {a : Nat} (ha : a < f.ac.length) {e : Nat} (he : e < (f.ac.getD a []).length) : 0 ≤ (f.ac.getD a []).getD e 0 ∧ (f.ac.getD a []).getD e 0 < f.sz.getD (f.sh.tgt.getD a 0).toNat 0 := allIn_iff.1 (h.ac a ha).2 e he
theorem SFun.Shape.ends {f : SFun} (h : f.Shape) {a : Nat} (ha : a < f.sh.src.length) : 0 ≤ f.sh.src.getD a 0 ∧ f.sh.src.getD a 0 < f.sz.length ∧ 0 ≤ f.sh.tgt.getD a 0 ∧ f.sh.tgt.getD a 0 < f.sz.length ∧ ((f.ac.getD a []).length : Int) = f.sz.getD (f.sh.src.getD a 0).toNat 0 := by
  have hS := h.c.1
  have q1 := hS.src a ha
  have q2 := hS.tgt a (by have := hS.tl; omega)
  have q3 := h.zl
  have q4 := (h.ac a (by have := h.al; omega)).1
  omega
structure SFun.Laws (f : SFun) : Prop where
  ids : ∀ x : Nat, x < f.sh.idn.length → ∀ e : Nat, e < (f.ac.getD (f.sh.idn.getD x 0).toNat []).length → (f.ac.getD (f.sh.idn.getD x 0).toNat []).getD e 0 = e
  th : ∀ a : Nat, a < f.sh.src.length → ∀ b : Nat, b < f.sh.src.length → f.sh.tgt.getD a 0 = f.sh.src.getD b 0 → ∀ e : Nat, e < (f.ac.getD a []).length →
    (f.ac.getD ((f.sh.comp.getD a []).getD b 0).toNat []).getD e 0 = (f.ac.getD b []).getD ((f.ac.getD a []).getD e 0).toNat 0
def SFun.Is (f : SFun) : Prop := f.Shape ∧ f.Laws

def SMap.PaOk (m : SMap) (x : Nat) : Prop := ((m.pa.getD x []).length : Int) = m.s.sz.getD x 0 ∧ allIn (m.pa.getD x []) (m.t.sz.getD x 0) = true
structure SMap.Fits (m : SMap) : Prop where
  pl : m.pa.length = m.s.sz.length
  pa : ∀ x, x < m.pa.length → m.PaOk x
structure SMap.Shape (m : SMap) : Prop where
  s : m.s.Is
  t : m.t.Is
  sh : m.s.sh = m.t.sh
  fits : m.Fits
def SMap.bad (m : SMap) (a e : Nat) : Bool := decide (¬ (m.pa.getD (m.s.sh.tgt.getD a 0).toNat []).getD ((m.s.ac.getD a []).getD e 0).toNat 0 = (m.t.ac.getD a []).getD ((m.pa.getD (m.s.sh.src.getD a 0).toNat []).getD e 0).toNat 0)
def SMap.first (m : SMap) : Int × Int := first2 m.s.ac.length (fun a => (m.s.ac.getD a []).length) m.bad
def SMap.Is (m : SMap) : Prop := m.Shape ∧ ∀ a, a < m.s.ac.length → ∀ e, e < (m.s.ac.getD a []).length → m.bad a e = false
end Go.GL
namespace Go.Proofs.Ytddjdkpjfpnjiaa
open Go Go.GL Go.RowKit Go.Proofs
variable [MainFlag]
theorem fo_33_0_P : fieldOff Try.prog 33 0 = some 0 := by kernel_rfl
theorem fo_33_1_P : fieldOff Try.prog 33 1 = some 5 := by kernel_rfl
theorem fo_33_2_P : fieldOff Try.prog 33 2 = some 6 := by kernel_rfl
theorem isMapOf_c {a : Option Addr} {xs : List Int} {m n : Int} {H : GHeap} (h : Ints H a xs := by assumption) (hn : -9223372036854775808 < n := by omega) (hn' : n ≤ 9223372036854775807 := by omega) (hl : xs.length ≤ 1048576 := by omega) :
    GCalls Try.prog 65 [.slice a xs.length xs.length, .int .i64 m, .int .i64 n] H (Ret (.bool (B ((xs.length : Int) = m ∧ allIn xs n = true))) H) := by
  refine GCalls.body (N := 16) (rs := [.tmp 6]) Try.func65 rfl rfl rfl rfl (fun Qx c hend => ?_)
  refine .fg [0, 1, 2] rfl ?_
  refine .seq (fun K1 e => .region (.mv rfl (.nil (e _ _ (.seq (fun K2 d => .region (.mv rfl (.q rfl (.len sl_22_A rfl) (.mv rfl (.q rfl (.cmp rfl rfl rfl) (.mv rfl ?_)))))))))))
  refine .split (fun b => ?_) (fun b => ?_)
  ·
   simp only [beq_iff_eq, beq_eq_false_iff_ne] at b
   refine .qg rfl (.move rfl) (.qg rfl (.move rfl) ?_)
   refine .callQg rfl rfl rfl rfl rfl rfl en64 rfl (within_c) ?_
   refine .q rfl (.pickT rfl rfl) (.mv rfl (.nil (d _ _ (.ret (c _ _ (⟨_, rfl, ?_⟩))))))
   first
   | exact .of (congrArg _ (B_false fun hh => b hh.1))
   | exact .of (congrArg _ (by rw [Bool.eq_iff_iff, B_iff]; exact ⟨fun hh => hh.2, fun hh => ⟨b, hh⟩⟩))
  simp only [beq_iff_eq, beq_eq_false_iff_ne] at b
  refine .z rfl (.z rfl (.z rfl (.q rfl (.pickF rfl rfl) (.mv rfl (.nil (d _ _ (.ret (c _ _ (⟨_, rfl, ?_⟩)))))))))
  first
  | exact .of (congrArg _ (B_false fun hh => b hh.1))
  | exact .of (congrArg _ (by rw [Bool.eq_iff_iff, B_iff]; exact ⟨fun hh => hh.2, fun hh => ⟨b, hh⟩⟩))
theorem sfShape_c {g o : Nat} {f : SFun} {p : SFunP} {H : GHeap} (h : SFun.At H g o f p := by assumption) (hs : f.Small := by assumption) : GCalls Try.prog 59 [.pointer (some ⟨g, o, none⟩)] H (Ret (.bool (B f.Shape)) H) := by
  refine GCalls.body (N := 82) (rs := [.tmp 2]) Try.func59 rfl rfl rfl rfl (fun Qx b hend => ?_)
  refine .fg [0] rfl ?_
  obtain ⟨fsh, _, _, i1, i2⟩ := h.get
  obtain ⟨_, _, _, -, -, _, _, -, -⟩ := fsh.get
  obtain ⟨_, _, _, s4⟩ := hs
  refine .seq (fun K1 a3 => .region (.mv rfl (.nil (a3 _ _ (.seq (fun K2 a4 => .region (.mv rfl (.q rfl (.nilCheck rfl) (.q rfl (.fieldAddr fo_33_0_P rfl) (.mv rfl (.nil (a4 _ _ (.seq (fun K3 a5 => .seq (fun K4 l => ?_)))))))))))))))
  refine .regionD mo_B (.q 0 (.c 1 0 (.qs [2, 3, 4, 5, 6, 7, 8, 9, 10, 11, 12, 13, 14, 15, 16, 17, 18, 19] (.c 20 0 (.qs [21, 22, 23, 24, 25, 26, 27, 28, 29] (.c 30 1 (.q 31 (.q 32 (.done))))))))) (by kernel_rfl) ?_
  refine .mv rfl rfl ?_
  refine .callQ0 rfl rfl rfl rfl rfl en63 rfl (isCategory_c) ?_
  refine .q rfl (.not rfl) (.mv rfl rfl ?_)
  refine .split (fun j => ?_) (fun j => ?_)
  ·
   try simp only [sps] at j
   refine .z rfl (.z rfl (.z rfl (.z rfl (.z rfl (.z rfl (.z rfl (.z rfl (.z rfl (.z rfl (.q rfl (.pickT rfl rfl) (.mv rfl rfl (.z rfl (.z rfl (.z rfl (.z rfl ?_)))))))))))))))
   refine .sgc rfl rfl rfl rfl rfl rfl (.z rfl (.q rfl (.pickT rfl rfl) (.mv rfl rfl (.z rfl (.z rfl (.z rfl (.z rfl (.z rfl (.z rfl (.sgc rfl rfl rfl rfl rfl rfl (.z rfl (.q rfl (.pickT rfl rfl) (.done (l _ _ ?_))))))))))))))
   refine .condT rfl ?_
   refine .seq (fun K5 a9 => .region (.mv rfl (.nil (a9 _ _ (.ret (b _ _ (⟨_, rfl, ?_⟩)))))))
   exact .of (congrArg _ (B_false fun hh => j hh.c))
  try simp only [sps] at j
  refine .qg rfl (.move rfl) (.qg rfl (.nilCheck rfl) (.qg rfl (.fieldAddr fo_33_1_P rfl) (.qg rfl (.lA on_22_B rfl) (.qg rfl (.len sl_22_A rfl) (.qg rfl (.move rfl) (.qg rfl (.nilCheck rfl) (.qg rfl (.fieldAddr fo_31_0_B rfl) (.qg rfl (.lA on_2_A rfl) (.qg rfl (.cmp rfl rfl rfl) (.q rfl (.pickF rfl rfl) (.mv rfl rfl ?_)))))))))))
  refine .split (fun e => ?_) (fun e => ?_)
  ·
   try simp only [sps] at e
   refine .z rfl (.z rfl (.z rfl (.z rfl (.sgc rfl rfl rfl rfl rfl rfl (.z rfl (.q rfl (.pickT rfl rfl) (.mv rfl rfl (.z rfl (.z rfl (.z rfl (.z rfl (.z rfl (.z rfl (.sgc rfl rfl rfl rfl rfl rfl (.z rfl ?_)))))))))))))))
   refine .q rfl (.pickT rfl rfl) (.done (l _ _ ?_))
   refine .condT rfl ?_
   refine .seq (fun K6 a7 => .region (.mv rfl (.nil (a7 _ _ (.ret (b _ _ (⟨_, rfl, ?_⟩)))))))
   exact .of (congrArg _ (B_false fun hh => e hh.zl))
  try simp only [sps] at e
  refine .qg rfl (.move rfl) (.qg rfl (.nilCheck rfl) (.qg rfl (.fieldAddr fo_33_1_P rfl) (.qg rfl (.lA on_22_B rfl) ?_)))
  refine .callQ0g rfl rfl rfl rfl rfl rfl rfl en64 rfl (within_c) ?_
  refine .qg rfl (.not rfl) (.q rfl (.pickF rfl rfl) (.mv rfl rfl ?_))
  refine .split (fun d => ?_) (fun d => ?_)
  ·
   try simp only [sps] at d
   refine .z rfl (.z rfl (.z rfl (.z rfl (.z rfl (.z rfl (.sgc rfl rfl rfl rfl rfl rfl (.z rfl (.q rfl (.pickT rfl rfl) (.done (l _ _ ?_))))))))))
   refine .condT rfl ?_
   refine .seq (fun K7 a6 => .region (.mv rfl (.nil (a6 _ _ (.ret (b _ _ (⟨_, rfl, ?_⟩)))))))
   exact .of (congrArg _ (B_false fun hh => by rw [allIn_iff.2 fun i hi => by have := hh.sz i hi; omega] at d; cases d))
  try simp only [sps] at d
  refine .qg rfl (.move rfl) (.qg rfl (.nilCheck rfl) (.qg rfl (.fieldAddr fo_33_2_P rfl) (.qg rfl (.lA on_23_B rfl) (.qg rfl (.len sl_23_B rfl) (.qg rfl (.move rfl) ?_)))))
  refine .callQ1g rfl rfl rfl rfl rfl rfl rfl en55 rfl (arrows_c) (.refl _) ?_
  refine .qg rfl (.cmp rfl rfl rfl) (.q rfl (.pickF rfl rfl) (.done (l _ _ ?_)))
  refine .cond rfl ?_ ?_ <;> intro a2
  ·
   try simp only [sps] at a2
   refine .seq (fun K8 a8 => .region (.mv rfl (.nil (a8 _ _ (.ret (b _ _ (⟨_, rfl, ?_⟩)))))))
   exact .of (congrArg _ (B_false fun hh => by have := hh.al; omega))
  try simp only [sps] at a2
  refine .skip (a5 _ _ (.seq (fun K9 b0 => .seq (fun K10 v => .region (.mv rfl (.q rfl (.nilCheck rfl) (.q rfl (.fieldAddr fo_33_2_P rfl) (.q rfl (.lA on_23_B rfl) (.q rfl (.len sl_23_B rfl) (.mv rfl (.nil (v _ _ (.block ?_)))))))))))))
  have hC := j
  have hS := hC.1
  have _ := hS.tl
  refine .loopF (σ := Nat) [0, 3, 45, 46] (fun k => [(47, some (.int .i64 (k : Int)))]) (fun k H' => H = H' ∧ (k : Int) ≤ f.ac.length ∧ ∀ a, a < k → f.AcOk a) (fun k => (f.ac.length - k : Int).toNat) (0) rfl (.p rfl) ?_ ?_
  ·
   refine ⟨rfl, ?_⟩
   exact ⟨by omega, fun _ _ => by omega⟩
  rintro k _ ⟨rfl, hI⟩ _ t
  dsimp only [cA, nA]
  obtain ⟨_, a0⟩ := hI
  refine .seq (fun K11 n => .region (.q rfl (.cmp rfl rfl rfl) (.nil (n _ _ (.seq (fun K12 x => ?_))))))
  refine .cond rfl ?_ ?_ <;> intro a1
  ·
   simp only [sps] at a1
   have _ := hS.src k (by omega)
   have _ := hS.tgt k (by omega)
   have _ := d (f.sh.tgt.getD k 0).toNat (by omega)
   have _ := i2.2 k (by omega)
   have _ := s4 k
   refine .skip (x _ _ (.seq (fun K13 r => .block (.seq (fun K14 w => .region (.mv rfl ?_))))))
   refine .q rfl (.idxN sl_23_B (Intss.sl (by assumption)) rfl rfl (by omega)) ?_
   refine .q rfl (.loadR on_22_B (by assumption) rfl (by omega)) ?_
   refine .mv rfl (.mv rfl (.nil (w _ _ (.seq (fun K15 s => ?_)))))
   refine .regionD mo_B (.qs [0, 1, 2, 3, 4, 5, 6, 7, 8, 9, 10, 11, 12, 13, 14, 15, 16, 17, 18, 19, 20, 21, 22, 23, 24, 25, 26] (.c 27 0 (.q 28 (.done)))) (by kernel_rfl) ?_
   refine .mv rfl rfl (.mv rfl rfl (.q rfl (.nilCheck rfl) (.q rfl (.fieldAddr fo_33_1_P rfl) (.q rfl (.lA on_22_B rfl) (.mv rfl rfl (.q rfl (.nilCheck rfl) (.q rfl (.fieldAddr fo_31_1_B rfl) (.q rfl (.lA on_22_B rfl) (.mv rfl rfl (.q rfl (.iN sl_22_A rfl rfl) (.q rfl (.lI on_2_A rfl) (.q rfl (.i1 sl_22_A rfl rfl) (.q rfl (.lI on_2_A rfl) (.mv rfl rfl (.q rfl (.nilCheck rfl) ?_)))))))))))))))
   refine .q rfl (.fieldAddr fo_33_1_P rfl) (.q rfl (.lA on_22_B rfl) (.mv rfl rfl (.q rfl (.nilCheck rfl) (.q rfl (.fieldAddr fo_31_2_B rfl) (.q rfl (.lA on_22_B rfl) (.mv rfl rfl (.q rfl (.iN sl_22_A rfl rfl) (.q rfl (.lI on_2_A rfl) (.q rfl (.i1 sl_22_A rfl rfl) (.q rfl (.lI on_2_A rfl) ?_))))))))))
   refine .callQ0 rfl rfl rfl rfl rfl en65 rfl (isMapOf_c) ?_
   refine .q rfl (.not rfl) (.done (s _ _ ?_))
   refine .cond rfl ?_ ?_ <;> intro m
   ·
    simp only [B_iff, B_not, Bool.not_eq_true', Bool.not_eq_false'] at m
    refine .seq (fun K16 u => .region (.mv rfl (.nil (u _ _ (.ret (b _ _ (⟨_, rfl, ?_⟩)))))))
    exact .of (congrArg _ (B_false fun hh => m (hh.ac k (by omega))))
   simp only [B_iff, B_not, Bool.not_eq_true', Bool.not_eq_false'] at m
   refine .skip (r _ _ (.region (.q rfl (.aD rfl rfl rfl) (.mv rfl (.nil ?_)))))
   refine t (k + 1) _ _ ?_ ?_ (.p rfl)
   ·
    refine ⟨rfl, ?_⟩
    refine ⟨by omega, fun a hx => ?_⟩
    by_cases hltq : a < k
    · exact a0 a hltq
    · obtain rfl : a = k := by omega
      exact m
   omega
  try simp only [sps] at a1
  refine .exit (b0 _ _ (.seq (fun K17 y => .region (.mv rfl (.nil (y _ _ (.ret (b _ _ (⟨_, rfl, ?_⟩)))))))))
  exact .of (congrArg _ (B_true ⟨hC, e, fun i hi => by have := d i hi; omega, by omega, fun a ha => a0 a (by omega)⟩))
theorem sfFault_c {g o : Nat} {f : SFun} {p : SFunP} {H : GHeap} (h : SFun.At H g o f p := by assumption) (hS : f.Shape := by assumption) :
    GCalls Try.prog 60 [.pointer (some ⟨g, o, none⟩)] H (fun v H' => (∃ k x y z, v = .tuple #[.int .i64 k, .int .i64 x, .int .i64 y, .int .i64 z] ∧ (k = 0 ↔ f.Laws)) ∧ H' = H) := by
  refine GCalls.body (N := 109) (rs := [.tmp 2, .tmp 3, .tmp 4, .tmp 5]) Try.func60 rfl rfl rfl rfl (fun Qx i hend => ?_)
  refine .fg [0] rfl ?_
  obtain ⟨fsh, -, _, -, i2⟩ := h.get
  obtain ⟨-, -, -, _, _, -, -, _, d4⟩ := fsh.get
  have hC := hS.c.1
  have _ := hC.tl
  have _ := hC.obj
  have _ := hC.n40
  have _ := hC.cl
  have _ := hC.il
  have _ := hS.al
  have _ := hS.zl
  refine .seq (fun K1 e1 => .region (.mv rfl (.mv rfl (.mv rfl (.mv rfl (.nil (e1 _ _ (.seq (fun K2 e2 => .region (.mv rfl (.q rfl (.nilCheck rfl) (.q rfl (.fieldAddr fo_33_0_P rfl) (.mv rfl (.nil (e2 _ _ ?_)))))))))))))))
  refine .seq (fun K3 e4 => .seq (fun K4 e3 => .region (.mv rfl (.q rfl (.nilCheck rfl) (.q rfl (.fieldAddr fo_31_3_B rfl) (.q rfl (.lA on_22_B rfl) (.q rfl (.len sl_22_A rfl) (.mv rfl (.nil (e3 _ _ (.block ?_)))))))))))
  refine .loopF (σ := Nat) [0, 6, 23, 24] (fun k => [(25, some (.int .i64 (k : Int)))]) (fun k H' => H = H' ∧ (k : Int) ≤ f.sh.idn.length ∧ ∀ x, x < k → ∀ e : Nat, e < (f.ac.getD (f.sh.idn.getD x 0).toNat []).length → (f.ac.getD (f.sh.idn.getD x 0).toNat []).getD e 0 = e) (fun k => (f.sh.idn.length - k : Int).toNat) (0) rfl (.p rfl) ?_ ?_
  ·
   refine ⟨rfl, ?_⟩
   exact ⟨by omega, fun _ _ => by omega⟩
  rintro k _ ⟨rfl, hI⟩ _ b4
  dsimp only [cA, nA]
  obtain ⟨_, d5⟩ := hI
  refine .seq (fun K5 e8 => .region (.q rfl (.cmp rfl rfl rfl) (.nil (e8 _ _ (.seq (fun K6 e5 => ?_))))))
  refine .cond rfl ?_ ?_ <;> intro d2
  ·
   simp only [sps] at d2
   have r1 := hC.idn k (by omega)
   have r2 := i2.2 (f.sh.idn.getD k 0).toNat (by omega)
   have r3 := hS.ends (a := (f.sh.idn.getD k 0).toNat) (by omega)
   have r4 := hS.sz (f.sh.src.getD (f.sh.idn.getD k 0).toNat 0).toNat (by omega)
   refine .skip (e5 _ _ (.seq (fun K7 e6 => .block (.seq (fun K8 e7 => .region (.mv rfl (.q rfl (.iN sl_22_A rfl rfl) (.q rfl (.lI on_2_A rfl) (.mv rfl (.mv rfl (.nil (e7 _ _ (.seq (fun K9 e9 => .region (.mv rfl ?_)))))))))))))))
   refine .q rfl (.nilCheck rfl) (.q rfl (.fieldAddr fo_33_2_P rfl) (.q rfl (.lA on_23_B rfl) (.mv rfl ?_)))
   refine .q rfl (.idx1 sl_23_B (Intss.sl (by assumption)) rfl rfl (by omega) (by omega)) ?_
   refine .q rfl (.loadR on_22_B (by assumption) rfl (by omega)) ?_
   refine .q rfl (.len sl_22_A rfl) (.mv rfl (.nil (e9 _ _ (.block ?_))))
   refine .loopF (σ := Nat) [0, 6, 7, 23, 24, 25, 36, 37] (fun l => [(38, some (.int .i64 (l : Int)))]) (fun l H' => H = H' ∧ (l : Int) ≤ (f.ac.getD (f.sh.idn.getD k 0).toNat []).length ∧ ∀ e, e < l → (f.ac.getD (f.sh.idn.getD k 0).toNat []).getD e 0 = e) (fun l => ((f.ac.getD (f.sh.idn.getD k 0).toNat []).length - l : Int).toNat) (0) rfl (.p rfl) ?_ ?_
   ·
    refine ⟨rfl, ?_⟩
    exact ⟨by omega, fun _ _ => by omega⟩
   rintro l _ ⟨rfl, hI⟩ _ c2
   dsimp only [cA, nA]
   obtain ⟨_, e0⟩ := hI
   refine .seq (fun K10 b9 => .region (.q rfl (.cmp rfl rfl rfl) (.nil (b9 _ _ (.seq (fun K11 a2 => ?_))))))
   refine .cond rfl ?_ ?_ <;> intro d1
   ·
    try simp only [sps] at d1
    refine .skip (a2 _ _ (.seq (fun K12 c1 => .block (.seq (fun K13 a6 => .region (.mv rfl (.q rfl (.iN sl_22_A rfl rfl) (.q rfl (.lI on_2_A rfl) (.mv rfl (.mv rfl (.nil (a6 _ _ (.seq (fun K14 c0 => .region (.mv rfl ?_)))))))))))))))
    refine .mv rfl (.q rfl (.cmp rfl rfl rfl) (.nil (c0 _ _ ?_)))
    refine .cond rfl ?_ ?_ <;> intro n
    ·
     try simp only [sps] at n
     refine .seq (fun K15 b2 => .region (.mv rfl (.mv rfl (.mv rfl (.mv rfl (.mv rfl (.mv rfl (.nil (b2 _ _ (.ret (i _ _ (⟨_, _, _, _, rfl, rfl, rfl, rfl, ?_⟩))))))))))))
     exact ⟨⟨_, _, _, _, rfl, ⟨fun hh => absurd hh (by decide), fun hL => absurd (hL.ids k (by omega) l (by omega)) n⟩⟩, rfl⟩
    try simp only [sps] at n
    refine .skip (c1 _ _ (.region (.q rfl (.aD rfl rfl rfl) (.mv rfl (.nil ?_)))))
    refine c2 (l + 1) _ _ ?_ ?_ (.p rfl)
    ·
     refine ⟨rfl, ?_⟩
     refine ⟨by omega, fun e hx => ?_⟩
     by_cases hltq : e < l
     · exact e0 e hltq
     · obtain rfl : e = l := by omega
       exact n
    omega
   try simp only [sps] at d1
   refine .exit (e6 _ _ (.region (.q rfl (.aD rfl rfl rfl) (.mv rfl (.nil ?_)))))
   refine b4 (k + 1) _ _ ?_ ?_ (.p rfl)
   ·
    refine ⟨rfl, ?_⟩
    refine ⟨by omega, fun x hx => ?_⟩
    by_cases hltq : x < k
    · exact d5 x hltq
    · obtain rfl : x = k := by omega
      exact fun e he => e0 e (by omega)
   omega
  try simp only [sps] at d2
  refine .exit (e4 _ _ (.seq (fun K16 b8 => .seq (fun K17 c9 => .region (.mv rfl (.q rfl (.nilCheck rfl) (.q rfl (.fieldAddr fo_31_4_B rfl) (.q rfl (.lA on_23_B rfl) (.q rfl (.len sl_23_B rfl) (.mv rfl (.nil (c9 _ _ (.block ?_)))))))))))))
  refine .loopF (σ := Nat) [0, 53, 54] (fun a => [(55, some (.int .i64 (a : Int)))]) (fun a H' => H = H' ∧ (a : Int) ≤ f.sh.comp.length ∧ ∀ a', a' < a → ∀ b : Nat, b < f.sh.src.length → f.sh.tgt.getD a' 0 = f.sh.src.getD b 0 → ∀ e : Nat, e < (f.ac.getD a' []).length → (f.ac.getD ((f.sh.comp.getD a' []).getD b 0).toNat []).getD e 0 = (f.ac.getD b []).getD ((f.ac.getD a' []).getD e 0).toNat 0) (fun a => (f.sh.comp.length - a : Int).toNat) (0) rfl (.p rfl) ?_ ?_
  ·
   refine ⟨rfl, ?_⟩
   exact ⟨by omega, fun _ _ => by omega⟩
  rintro a _ ⟨rfl, hI⟩ _ b5
  dsimp only [cA, nA]
  obtain ⟨_, d8⟩ := hI
  refine .seq (fun K18 a3 => .region (.q rfl (.cmp rfl rfl rfl) (.nil (a3 _ _ (.seq (fun K19 a4 => ?_))))))
  refine .cond rfl ?_ ?_ <;> intro d6
  ·
   simp only [sps] at d6
   have r1 := hC.row a (by omega)
   have r2 := d4.2 a (by omega)
   have r3 := i2.2 a (by omega)
   have r4 := hS.ends (a := a) (by omega)
   have _ := hS.sz (f.sh.src.getD a 0).toNat (by omega)
   refine .skip (a4 _ _ (.seq (fun K20 b7 => .block (.seq (fun K21 a5 => .region (.mv rfl ?_))))))
   refine .q rfl (.idxN sl_23_B (Intss.sl (by assumption)) rfl rfl (by omega)) ?_
   refine .q rfl (.loadR on_22_B (by assumption) rfl (by omega)) ?_
   refine .mv rfl (.mv rfl (.nil (a5 _ _ (.seq (fun K22 b6 => .region (.mv rfl (.q rfl (.len sl_22_A rfl) (.mv rfl (.nil (b6 _ _ (.block ?_)))))))))))
   refine .loopF (σ := Nat) [0, 11, 53, 54, 55, 60, 61] (fun b => [(62, some (.int .i64 (b : Int)))]) (fun b H' => H = H' ∧ (b : Int) ≤ (f.sh.comp.getD a []).length ∧ ∀ b', b' < b → f.sh.tgt.getD a 0 = f.sh.src.getD b' 0 → ∀ e : Nat, e < (f.ac.getD a []).length → (f.ac.getD ((f.sh.comp.getD a []).getD b' 0).toNat []).getD e 0 = (f.ac.getD b' []).getD ((f.ac.getD a []).getD e 0).toNat 0) (fun b => ((f.sh.comp.getD a []).length - b : Int).toNat) (0) rfl (.p rfl) ?_ ?_
   ·
    refine ⟨rfl, ?_⟩
    exact ⟨by omega, fun _ _ => by omega⟩
   rintro b _ ⟨rfl, hI⟩ _ m
   dsimp only [cA, nA]
   obtain ⟨_, a8⟩ := hI
   refine .seq (fun K23 w => .region (.q rfl (.cmp rfl rfl rfl) (.nil (w _ _ (.seq (fun K24 r => ?_))))))
   refine .cond rfl ?_ ?_ <;> intro d9
   ·
    simp only [sps] at d9
    have _ := i2.2 b (by omega)
    have t2 := hS.ends (a := b) (by omega)
    refine .skip (r _ _ (.seq (fun K25 j => .block (.seq (fun K26 b1 => .region (.mv rfl (.q rfl (.iN sl_22_A rfl rfl) (.q rfl (.lI on_2_A rfl) (.mv rfl (.mv rfl (.nil (b1 _ _ (.seq (fun K27 b0 => .seq (fun K28 a1 => .region ?_)))))))))))))))
    refine .mv rfl (.q rfl (.cmp rfl rfl rfl) (.nil (a1 _ _ ?_)))
    refine .cond rfl ?_ ?_ <;> intro d0
    ·
     try simp only [sps] at d0
     refine .exit (j _ _ (.region (.q rfl (.aD rfl rfl rfl) (.mv rfl (.nil ?_)))))
     refine m (b + 1) _ _ ?_ ?_ (.p rfl)
     ·
      refine ⟨rfl, ?_⟩
      refine ⟨by omega, fun b' hx => ?_⟩
      by_cases hltq : b' < b
      · exact a8 b' hltq
      · obtain rfl : b' = b := by omega
        first | exact fun _ e he => a0 e (by omega) | exact fun hn => absurd ((hC.th_ge (f := a) (g := b') (by omega) (by omega)).2 hn) (by show ¬ (0 ≤ (f.sh.comp.getD a []).getD b' 0); omega)
     omega
    simp only [sps] at d0
    have u1 : f.sh.tgt.getD a 0 = f.sh.src.getD b 0 := (hC.th_ge (f := a) (g := b) (by omega) (by omega)).1 d0
    have u2 := (Cat.Cell.pos u1).1 (hC.cell a (by omega) b (by omega))
    have _ := i2.2 ((f.sh.comp.getD a []).getD b 0).toNat (by omega)
    have u4 := hS.ends (a := ((f.sh.comp.getD a []).getD b 0).toNat) (by omega)
    rw [u2.2.2.1] at u4
    have u5 := t2.2.2.2.2
    rw [← u1] at u5
    refine .skip (b0 _ _ (.seq (fun K29 c5 => .region (.mv rfl (.q rfl (.nilCheck rfl) (.q rfl (.fieldAddr fo_33_2_P rfl) (.q rfl (.lA on_23_B rfl) (.mv rfl ?_))))))))
    refine .q rfl (.idxN sl_23_B (Intss.sl (by assumption)) rfl rfl (by omega)) ?_
    refine .q rfl (.loadR on_22_B (by assumption) rfl (by omega)) ?_
    refine .q rfl (.len sl_22_A rfl) (.mv rfl (.nil (c5 _ _ (.block ?_))))
    refine .loopF (σ := Nat) [0, 11, 13, 14, 53, 54, 55, 60, 61, 62, 75, 76] (fun e => [(77, some (.int .i64 (e : Int)))]) (fun e H' => H = H' ∧ (e : Int) ≤ (f.ac.getD a []).length ∧ ∀ e', e' < e → (f.ac.getD ((f.sh.comp.getD a []).getD b 0).toNat []).getD e' 0 = (f.ac.getD b []).getD ((f.ac.getD a []).getD e' 0).toNat 0) (fun e => ((f.ac.getD a []).length - e : Int).toNat) (0) rfl (.p rfl) ?_ ?_
    ·
     refine ⟨rfl, ?_⟩
     exact ⟨by omega, fun _ _ => by omega⟩
    rintro e _ ⟨rfl, hI⟩ _ a7
    dsimp only [cA, nA]
    obtain ⟨_, a0⟩ := hI
    refine .seq (fun K30 u => .region (.q rfl (.cmp rfl rfl rfl) (.nil (u _ _ (.seq (fun K31 b3 => ?_))))))
    refine .cond rfl ?_ ?_ <;> intro d7
    ·
     simp only [sps] at d7
     have _ := hS.act (a := a) (by omega) (e := e) (by omega)
     refine .skip (b3 _ _ (.seq (fun K32 c7 => .block (.seq (fun K33 s => .region (.mv rfl (.q rfl (.iN sl_22_A rfl rfl) (.q rfl (.lI on_2_A rfl) (.mv rfl (.mv rfl (.nil (s _ _ (.seq (fun K34 a9 => ?_))))))))))))))
     refine .regionD mo_B (.qs [0, 1, 2, 3, 4, 5, 6, 7, 8, 9, 10, 11, 12, 13, 14, 15, 16, 17, 18, 19, 20] (.done)) (by kernel_rfl) ?_
     refine .mv rfl rfl (.q rfl (.nilCheck rfl) (.q rfl (.fieldAddr fo_33_2_P rfl) (.q rfl (.lA on_23_B rfl) (.mv rfl rfl ?_))))
     refine .q rfl (.idx1 sl_23_B (Intss.sl (by assumption)) rfl rfl (by omega) (by omega)) ?_
     refine .q rfl (.loadR on_22_B (by assumption) rfl (by omega)) ?_
     refine .mv rfl rfl (.q rfl (.iN sl_22_A rfl rfl) (.q rfl (.lI on_2_A rfl) (.mv rfl rfl (.q rfl (.nilCheck rfl) (.q rfl (.fieldAddr fo_33_2_P rfl) (.q rfl (.lA on_23_B rfl) (.mv rfl rfl ?_)))))))
     refine .q rfl (.idxN sl_23_B (Intss.sl (by assumption)) rfl rfl (by omega)) ?_
     refine .q rfl (.loadR on_22_B (by assumption) rfl (by omega)) ?_
     refine .mv rfl rfl (.q rfl (.i1 sl_22_A rfl rfl) (.q rfl (.lI on_2_A rfl) (.q rfl (.cmp rfl rfl rfl) (.done (a9 _ _ ?_)))))
     refine .cond rfl ?_ ?_ <;> intro d
     ·
      try simp only [sps] at d
      refine .seq (fun K35 t => .region (.mv rfl (.mv rfl (.mv rfl (.mv rfl (.mv rfl (.mv rfl (.mv rfl (.nil (t _ _ (.ret (i _ _ (⟨_, _, _, _, rfl, rfl, rfl, rfl, ?_⟩)))))))))))))
      exact ⟨⟨_, _, _, _, rfl, ⟨fun hh => absurd hh (by decide), fun hL => absurd (hL.th a (by omega) b (by omega) u1 e (by omega)) d⟩⟩, rfl⟩
     try simp only [sps] at d
     refine .skip (c7 _ _ (.region (.q rfl (.aD rfl rfl rfl) (.mv rfl (.nil ?_)))))
     refine a7 (e + 1) _ _ ?_ ?_ (.p rfl)
     ·
      refine ⟨rfl, ?_⟩
      refine ⟨by omega, fun e' hx => ?_⟩
      by_cases hltq : e' < e
      · exact a0 e' hltq
      · obtain rfl : e' = e := by omega
        exact d
     omega
    try simp only [sps] at d7
    refine .exit (j _ _ (.region (.q rfl (.aD rfl rfl rfl) (.mv rfl (.nil ?_)))))
    refine m (b + 1) _ _ ?_ ?_ (.p rfl)
    ·
     refine ⟨rfl, ?_⟩
     refine ⟨by omega, fun b' hx => ?_⟩
     by_cases hltq : b' < b
     · exact a8 b' hltq
     · obtain rfl : b' = b := by omega
       first | exact fun _ e he => a0 e (by omega) | exact fun hn => absurd ((hC.th_ge (f := a) (g := b') (by omega) (by omega)).2 hn) (by show ¬ (0 ≤ (f.sh.comp.getD a []).getD b' 0); omega)
    omega
   try simp only [sps] at d9
   refine .exit (b7 _ _ (.region (.q rfl (.aD rfl rfl rfl) (.mv rfl (.nil ?_)))))
   refine b5 (a + 1) _ _ ?_ ?_ (.p rfl)
   ·
    refine ⟨rfl, ?_⟩
    refine ⟨by omega, fun a' hx => ?_⟩
    by_cases hltq : a' < a
    · exact d8 a' hltq
    · obtain rfl : a' = a := by omega
      exact fun b hb => a8 b (by omega)
   omega
  try simp only [sps] at d6
  refine .exit (b8 _ _ (.seq (fun K36 c8 => .region (.mv rfl (.mv rfl (.mv rfl (.mv rfl (.nil (c8 _ _ (.ret (i _ _ (⟨_, _, _, _, rfl, rfl, rfl, rfl, ?_⟩))))))))))))
  exact ⟨⟨_, _, _, _, rfl, ⟨fun _ => ⟨fun x hx => d5 x (by omega), fun a ha => d8 a (by omega)⟩, fun _ => rfl⟩⟩, rfl⟩
theorem isSetFunctor_c {g o : Nat} {f : SFun} {p : SFunP} {H : GHeap} (h : SFun.At H g o f p := by assumption) (hs : f.Small := by assumption) : GCalls Try.prog 47 [.pointer (some ⟨g, o, none⟩)] H (Ret (.bool (B f.Is)) H) := by
  refine GCalls.body (N := 19) (rs := [.tmp 2]) Try.func47 rfl rfl rfl rfl (fun Qx a hend => ?_)
  refine .fg [0] rfl ?_
  have _ := GHeap.Le.refl H
  have _ := h
  refine .seq (fun K1 d => .region (.mv rfl (.nil (d _ _ (.seq (fun K2 e => .seq (fun K3 j => .region (.mv rfl ?_))))))))
  refine .callQ rfl rfl rfl rfl en59 rfl (sfShape_c) ?_
  refine .q rfl (.not rfl) (.nil (j _ _ ?_))
  refine .cond rfl ?_ ?_ <;> intro h9
  ·
   try simp only [sps] at h9
   refine .seq (fun K4 i => .region (.mv rfl (.nil (i _ _ (.ret (a _ _ (⟨_, rfl, ?_⟩)))))))
   exact .of (congrArg _ (B_false fun hh => h9 hh.1))
  try simp only [sps] at h9
  refine .skip (e _ _ (.seq (fun K5 c => .region (.mv rfl ?_))))
  refine .call rfl rfl rfl rfl en60 rfl (sfFault_c) ?_
  rintro _ _ ⟨⟨_, _, _, _, rfl, b⟩, heq⟩
  obtain rfl := heq.symm
  refine .mv rfl (.q rfl (.extract rfl rfl) (.q rfl (.extract rfl rfl) (.q rfl (.extract rfl rfl) (.q rfl (.extract rfl rfl) (.mv rfl (.mv rfl (.mv rfl (.mv rfl (.nil (c _ _ (.seq (fun K6 k => .region (.mv rfl (.q rfl (.cmp rfl rfl rfl) (.mv rfl ?_)))))))))))))))
  refine .nil (k _ _ (.ret (a _ _ (⟨_, rfl, ?_⟩))))
  exact .of (congrArg _ (by rw [Bool.eq_iff_iff, B_iff]; simp only [sps]; rw [b]; exact ⟨fun hh => hh.2, fun hh => ⟨h9, hh⟩⟩))
end Go.Proofs.Ytddjdkpjfpnjiaa
