/- What a caller hands in, brought into a ghost heap; the last step of a row that says 'true, and the arguments read as they did'. No condition. -/
import Derived.Test.YtbpehbbdodahaaaGlN
import Derived.Below
import Derived.ChangeSame
import Derived.ChangeSlices
import Derived.Deep.Slices
import Derived.Deep.Matrix
import Derived.WideKeyArgs
namespace Go.GL
open Go.RowKit Go.WideShapes Go.ChangeShapes Go.Deep

def GHeap.gap (H : GHeap) : GHeap := ⟨H.objs ++ [none]⟩
@[simp] theorem GHeap.next_gap (H : GHeap) : H.gap.next = H.next + 1 := by simp [GHeap.next, GHeap.gap]
theorem GHeap.get_gap (H : GHeap) (g : Nat) : H.gap.get g = H.get g := by
  unfold GHeap.get GHeap.gap
  simp only
  rcases Nat.lt_or_ge g H.objs.length with hl | hl
  · rw [List.getElem?_append_left hl]
  · rw [List.getElem?_append_right hl, List.getElem?_eq_none hl]
    rcases Nat.eq_zero_or_pos (g - H.objs.length) with e | e
    · rw [e]; rfl
    · rw [List.getElem?_eq_none (by simp; omega)]
theorem GHeap.le_gap (H : GHeap) : H.Le H.gap := ⟨by simp, fun g o h => by rw [GHeap.get_gap]; exact h⟩

section
variable {P : Program} {B : Nat} {w0 : World} {ρ : Place} {H : GHeap} {w : World}

theorem Sim.start (P : Program) (W : World) : Sim P W.heap.size W (fun _ => none) ⟨[]⟩ W :=
  ⟨fun _ _ => rfl, fun g o h => by simp [GHeap.get] at h, fun g g' o o' s s' h => by simp [GHeap.get] at h, Nat.le_refl _, .refl _ _⟩

theorem Sim.gap (hs : Sim P B w0 ρ H w) (s : Spot) : Sim P B w0 (place ρ H.next s) H.gap w ∧ Ext ρ (place ρ H.next s) := by
  have hext : Ext ρ (place ρ H.next s) := place_ext (hs.dom _ (Nat.le_refl _))
  refine ⟨⟨fun g hg => ?_, fun g o hg => ?_, fun g g' o o' t t' h1 h2 h3 h4 h5 h6 h7 => ?_, hs.base, hs.below⟩, hext⟩
  · simp at hg
    unfold place
    rw [if_neg (by omega)]
    exact hs.dom g (by omega)
  · rw [GHeap.get_gap] at hg
    exact (hs.live g o hg).keep hext fun _ _ => rfl
  · rw [GHeap.get_gap] at h1 h2
    have e1 := GHeap.lt_of_get h1
    have e2 := GHeap.lt_of_get h2
    unfold place at h6 h7
    rw [if_neg (by omega)] at h6 h7
    exact hs.apart g g' o o' t t' h1 h2 h3 h4 h5 h6 h7

/-- A row among the old blocks, to be read alone. -/
theorem Sim.look (hs : Sim P B w0 ρ H w) {b : Nat} {C : Array Value} {e : TypeId} {fz : Nat × Nat} (hb : b < B) (hw : w.heap[b]? = some (.cells C e fz)) {off k : Nat} {vs : List Value} (hl : off + vs.length ≤ C.size)
    (hv : ∀ (i : Nat) (v : Value), vs[i]? = some v → ∃ c, C[off + i]? = some c ∧ VRel ρ v c) :
    Sim P B w0 (place ρ H.next ⟨b, off, C.size, k⟩) (H.push (.row vs e false)) w ∧ Ext ρ (place ρ H.next ⟨b, off, C.size, k⟩) := by
  have hext : Ext ρ (place ρ H.next ⟨b, off, C.size, k⟩) := place_ext (hs.dom _ (Nat.le_refl _))
  refine ⟨⟨fun g hg => ?_, fun g o hg => ?_, fun g g' o o' t t' h1 h2 h3 h4 h5 h6 h7 => ?_, hs.base, hs.below⟩, hext⟩
  · simp at hg
    unfold place
    rw [if_neg (by omega)]
    exact hs.dom g (by omega)
  · rcases Nat.lt_or_ge g H.next with hlt | hge
    · rw [GHeap.get_push_lt hlt] at hg
      exact (hs.live g o hg).keep hext fun _ _ => rfl
    · have hg' : g = H.next := by have := GHeap.lt_of_get hg; simp at this; omega
      subst hg'
      rw [GHeap.get_push_new] at hg
      cases hg
      exact ⟨_, C, fz, place_self, hw, rfl, hl, fun i v h => let ⟨c, h1, h2⟩ := hv i v h; ⟨c, h1, h2.mono hext⟩, fun h => (by cases h), fun _ => hb, fun h => (by cases h)⟩
  · have old : ∀ {k' : Nat} {x : GObj}, (H.push (.row vs e false)).get k' = some x → x.isOwn = true → k' < H.next ∧ H.get k' = some x := by
      intro k' x hx ho
      have hk := GHeap.lt_of_get hx
      simp at hk
      rcases Nat.lt_or_ge k' H.next with hlt | hge
      · rw [GHeap.get_push_lt hlt] at hx; exact ⟨hlt, hx⟩
      · obtain rfl : k' = H.next := by omega
        rw [GHeap.get_push_new] at hx
        cases hx
        cases ho
    obtain ⟨a1, a2⟩ := old h1 h3
    obtain ⟨b1, b2⟩ := old h2 h4
    unfold place at h6 h7
    rw [if_neg (by omega)] at h6 h7
    exact hs.apart g g' o o' t t' a2 b2 h3 h4 h5 h6 h7

/-- A slice whose elements are of one cell. -/
theorem Sim.list (hs : Sim P B w0 ρ H w) (hB : w.heap.size ≤ B) {a : Addr} {len cap : Nat} {V : Nat → Value} (hl : len ≤ cap) (hm : cap ≤ maxLen) (hcell : ∀ i, i < cap → w.cell? (a.add i) = some (V i)) {f : Nat → Value}
    (hf : ∀ i, i < len → VRel ρ (f i) (V i)) :
    ∃ a' ρ' H', Sim P B w0 ρ' H' w ∧ Ext ρ ρ' ∧ H.Le H' ∧ VRel ρ' (.slice a' len len) (.slice (some a) len cap) ∧ SlA H' a' len f := by
  rcases Nat.eq_zero_or_pos cap with e | hp
  · subst e
    obtain rfl : len = 0 := by omega
    obtain ⟨h1, h2⟩ := hs.gap ⟨0, 0, 0, 0⟩
    exact ⟨some ⟨H.next, 0, none⟩, _, _, h1, h2, H.le_gap, .empty place_self, .inl rfl⟩
  · have h0 := hcell 0 hp
    have hsp := World.cell?_spot h0
    obtain ⟨b, off, sp⟩ := a
    have hadd : ∀ i, (Addr.mk b off none).add i = ⟨b, off + i, none⟩ := fun i => by
      unfold Addr.add
      split
      · rename_i h; subst h; rfl
      · rfl
    obtain rfl : sp = none := by simpa [Addr.add] using hsp
    rw [hadd] at h0
    have hblk : ∃ C e fz, w.heap[b]? = some (.cells C e fz) := by
      unfold World.cell? at h0
      split at h0
      · exact ⟨_, _, _, by assumption⟩
      · cases h0
    obtain ⟨C, e, fz, hC⟩ := hblk
    have hc : ∀ i, i < cap → C[off + i]? = some (V i) := fun i hi => by
      have := hcell i hi
      rw [hadd] at this
      simpa [World.cell?, hC] using this
    have hsz : off + cap ≤ C.size := by
      have := (Array.getElem?_eq_some_iff.1 (hc (cap - 1) (by omega))).1
      omega
    have hbl : b < B := by
      have : b < w.heap.size := (Array.getElem?_eq_some_iff.1 hC).1
      omega
    obtain ⟨h1, h2⟩ := hs.look hbl hC (off := off) (k := 1) (vs := (List.range len).map f) (by simp; omega) (fun i v hv => by
      simp only [List.getElem?_map, Option.map_eq_some_iff] at hv
      obtain ⟨j, hj, rfl⟩ := hv
      have hj' := List.getElem?_eq_some_iff.1 hj
      simp at hj'
      obtain ⟨hi, rfl⟩ := hj'
      exact ⟨_, hc i (by omega), hf i hi⟩)
    refine ⟨some ⟨H.next, 0, none⟩, _, _, h1, h2, GHeap.le_push _ _, ?_, .inr ⟨H.next, 0, rfl, fun i hi => ?_⟩⟩
    · have := VRel.slice (ρ := place ρ H.next ⟨b, off, C.size, 1⟩) (g := H.next) (o := 0) (n := len) (cap := cap) place_self hl (by simp only; omega) hm
      simpa using this
    · rw [GHeap.cell_of (GHeap.get_push_new _ _)]
      simp [hi]
end

def i64T (P : Program) (t : TypeId) : Bool := match P.underlying t with | some (.int .i64) => true | _ => false
def intsT (P : Program) (t : TypeId) : Bool := match P.underlying t with | some (.slice e) => i64T P e && (P.cellsOf e == 1) | _ => false
def intssT (P : Program) (t : TypeId) : Bool := match P.underlying t with | some (.slice e) => intsT P e && (P.cellsOf e == 1) | _ => false
theorem i64T_run {P : Program} {t : TypeId} (h : i64T P t = true) : P.underlying t = some (.int .i64) := by
  unfold i64T at h
  split at h
  · assumption
  · cases h
theorem intsT_run {P : Program} {t : TypeId} (h : intsT P t = true) : ∃ e, P.underlying t = some (.slice e) ∧ P.underlying e = some (.int .i64) ∧ P.cellsOf e = 1 := by
  unfold intsT at h
  split at h
  · simp only [Bool.and_eq_true, beq_iff_eq] at h
    exact ⟨_, by assumption, i64T_run h.1, h.2⟩
  · cases h
theorem intssT_run {P : Program} {t : TypeId} (h : intssT P t = true) : ∃ e, P.underlying t = some (.slice e) ∧ intsT P e = true ∧ P.cellsOf e = 1 := by
  unfold intssT at h
  split at h
  · simp only [Bool.and_eq_true, beq_iff_eq] at h
    exact ⟨_, by assumption, h.1, h.2⟩
  · cases h

/-- Whatever is read as a t may be brought in so that R holds of its cells. -/
def Imports (P : Program) (t : TypeId) (R : Place → GHeap → List Value → Prop) : Prop :=
  ∀ {T : Type} {enc : TypeId × Value → T} {B : Nat} {w0 : World} {ρ : Place} {H : GHeap} {w : World} {held : Bool} {fuel : Nat} {cs : List Value} {x : DataW T × List MemPlace}, Sim P B w0 ρ H w → w.heap.size ≤ B →
    DataW.trod enc P w 0 (fun _ => true) held fuel t cs = some x → ∃ ρ' H', Sim P B w0 ρ' H' w ∧ Ext ρ ρ' ∧ H.Le H' ∧ R ρ' H' cs

def I64 (n : Int) : Prop := -9223372036854775808 ≤ n ∧ n ≤ 9223372036854775807
theorem I64.of_wf {n : Int} (h : (Lit.int .i64 n).wf = true) : I64 n := by
  simp [Lit.wf, IntKind.min, IntKind.max, IntKind.signed, IntKind.bits] at h
  exact ⟨by omega, by omega⟩
def I64s (xs : List Int) : Prop := xs.length ≤ 9223372036854775807 ∧ ∀ i, I64 (xs.getD i 0)

def RInt (_ : Place) (_ : GHeap) (cs : List Value) : Prop := ∃ n, cs = [.int .i64 n] ∧ I64 n
def RInts (ρ : Place) (H : GHeap) (cs : List Value) : Prop := ∃ a xs c, cs = [c] ∧ VRel ρ (.slice a xs.length xs.length) c ∧ Ints H a xs ∧ I64s xs
def RIntss (ρ : Place) (H : GHeap) (cs : List Value) : Prop := ∃ a xss r c, cs = [c] ∧ VRel ρ (.slice a xss.length xss.length) c ∧ Intss H a xss r ∧ xss.length ≤ 9223372036854775807 ∧ ∀ i, I64s (xss.getD i [])

theorem import_int {P : Program} {t : TypeId} (ht : i64T P t = true) : Imports P t RInt := by
  intro T enc B w0 ρ H w held fuel cs x hs hB h
  obtain ⟨n, h1, _, h3⟩ := DataW.trod_int (i64T_run ht) h
  exact ⟨ρ, H, hs, .refl ρ, .refl H, n, h1, .of_wf h3⟩

theorem take_getD (zs : List Int) {n i : Nat} (hi : i < n) : (zs.take n).getD i 0 = zs.getD i 0 := by
  simp [List.getD_eq_getElem?_getD, List.getElem?_take, hi]
theorem I64s.take {zs : List Int} (h : ∀ n ∈ zs, (Lit.int .i64 n).wf = true) {len : Nat} (hl : (zs.take len).length ≤ 9223372036854775807) : I64s (zs.take len) := by
  refine ⟨hl, fun i => ?_⟩
  rw [List.getD_eq_getElem?_getD]
  cases e : (zs.take len)[i]? with
  | none => simp [I64]
  | some n => exact .of_wf (h n (List.mem_of_mem_take (List.mem_of_getElem? e)))

theorem import_ints {P : Program} {t : TypeId} (ht : intsT P t = true) : Imports P t RInts := by
  intro T enc B w0 ρ H w held fuel cs x hs hB h
  obtain ⟨e, h1, h2, h3⟩ := intsT_run ht
  rcases open_ints h1 h2 h3 h with ⟨rfl, _⟩ | ⟨a, len, cap, zs, rfl, _, hl, hm, hz, _, hc, hw⟩
  · exact ⟨ρ, H, hs, .refl ρ, .refl H, none, [], _, rfl, .nilSlice, .inl rfl, by simp, fun i => by simp [I64]⟩
  · simp only [if_true] at hz
    have hlen : (zs.take len).length = len := by simp; omega
    obtain ⟨a', ρ', H', k1, k2, k3, k4, k5⟩ := hs.list hB (f := fun i => .int .i64 ((zs.take len).getD i 0)) hl hm (fun i hi => hc i (by omega)) (fun i hi => by rw [take_getD zs hi]; exact .int _ _)
    refine ⟨ρ', H', k1, k2, k3, a', zs.take len, _, rfl, by rw [hlen]; exact k4, ?_, .take hw (by rw [hlen]; unfold maxLen at hm; omega)⟩
    unfold Ints
    rw [hlen]
    exact k5

theorem import_intss {P : Program} {t : TypeId} (ht : intssT P t = true) : Imports P t RIntss := by
  intro T enc B w0 ρ H w held fuel cs x hs hB h
  obtain ⟨e, h1, h2, h3⟩ := intssT_run ht
  obtain ⟨q, g1, g2, g3⟩ := intsT_run h2
  rcases open_int_rows h1 g1 g2 h3 g3 h with ⟨rfl, _⟩ | ⟨a, len, cap, A, L, C, Z, rfl, _, hl, hm, _, hr⟩
  · exact ⟨ρ, H, hs, .refl ρ, .refl H, none, [], fun _ => none, _, rfl, .nilSlice, ⟨.inl rfl, fun i hi => by simp at hi⟩, by simp, fun i => by simp [I64s, I64]⟩
  · have hlen : ∀ r, r < cap → ((Z r).take (L r)).length = L r := fun r hi => by
      obtain ⟨_, k2, _, k4, _⟩ := hr r hi
      simp; omega
    have rows : ∀ k, k ≤ len → ∃ ρ' H', Sim P B w0 ρ' H' w ∧ Ext ρ ρ' ∧ H.Le H' ∧ ∃ rr : Nat → Option Addr, ∀ r, r < k → VRel ρ' (.slice (rr r) (L r) (L r)) (.slice (A r) (L r) (C r)) ∧ Ints H' (rr r) ((Z r).take (L r)) := by
      intro k
      induction k with
      | zero => exact fun _ => ⟨ρ, H, hs, .refl ρ, .refl H, fun _ => none, fun r hr => by omega⟩
      | succ k ih =>
        intro hk
        obtain ⟨ρ1, H1, s1, e1, l1, rr, hrr⟩ := ih (by omega)
        obtain ⟨c1, c2, c3, c4, c5, c6, c7⟩ := hr k (by omega)
        have one : ∃ a' ρ2 H2, Sim P B w0 ρ2 H2 w ∧ Ext ρ1 ρ2 ∧ H1.Le H2 ∧ VRel ρ2 (.slice a' (L k) (L k)) (.slice (A k) (L k) (C k)) ∧ Ints H2 a' ((Z k).take (L k)) := by
          cases hA : A k with
          | none =>
            have e0 := c6 hA
            have e2 : L k = 0 := by omega
            rw [e0, e2]
            exact ⟨none, ρ1, H1, s1, .refl _, .refl _, .nilSlice, .inl (by simp)⟩
          | some a' =>
            obtain ⟨_, hc⟩ := c7 a' hA
            obtain ⟨a2, ρ2, H2, k1, k2, k3, k4, k5⟩ := s1.list hB (f := fun i => .int .i64 (((Z k).take (L k)).getD i 0)) c2 c3 hc (fun i hi => by rw [take_getD (Z k) hi]; exact .int _ _)
            refine ⟨a2, ρ2, H2, k1, k2, k3, k4, ?_⟩
            unfold Ints
            rw [hlen k (by omega)]
            exact k5
        obtain ⟨a', ρ2, H2, s2, e2, l2, v2, i2⟩ := one
        refine ⟨ρ2, H2, s2, e1.trans e2, l1.trans l2, fun r => if r = k then a' else rr r, fun r hr' => ?_⟩
        by_cases ek : r = k
        · subst ek; simp only [if_true]; exact ⟨v2, i2⟩
        · simp only [ek, if_false]
          obtain ⟨v1, i1⟩ := hrr r (by omega)
          exact ⟨v1.mono e2, i1.mono l2⟩
    obtain ⟨ρ1, H1, s1, e1, l1, rr, hrr⟩ := rows len (Nat.le_refl _)
    obtain ⟨a', ρ2, H2, k1, k2, k3, k4, k5⟩ := s1.list hB (f := fun r => .slice (rr r) (L r) (L r)) hl hm (fun r hi => (hr r hi).1) (fun r hi => (hrr r hi).1)
    have hx : ((List.range len).map fun r => (Z r).take (L r)).length = len := by simp
    have hg : ∀ r, r < len → ((List.range len).map fun r => (Z r).take (L r)).getD r [] = (Z r).take (L r) := fun r hi => by simp [List.getD_eq_getElem?_getD, hi]
    refine ⟨ρ2, H2, k1, e1.trans k2, l1.trans k3, a', (List.range len).map fun r => (Z r).take (L r), rr, _, rfl, by rw [hx]; exact k4, ⟨?_, fun r hi => ?_⟩, by rw [hx]; unfold maxLen at hm; omega, fun r => ?_⟩
    · rw [hx]
      refine k5.imp id fun ⟨g, off, hga, hc⟩ => ⟨g, off, hga, fun i hi => ?_⟩
      show _ = some (Value.slice (rr i) (((List.range len).map fun r => (Z r).take (L r)).getD i []).length (((List.range len).map fun r => (Z r).take (L r)).getD i []).length)
      rw [hg i hi, hlen i (by omega)]
      exact hc i hi
    · rw [hx] at hi
      rw [hg r hi]
      exact (hrr r hi).2.mono k3
    · by_cases hi : r < len
      · rw [hg r hi]
        obtain ⟨_, c2, c3, c4, c5, _⟩ := hr r (by omega)
        exact .take c5 (by rw [hlen r (by omega)]; unfold maxLen at c3; omega)
      · rw [List.getD_eq_getElem?_getD, List.getElem?_eq_none (by rw [hx]; omega)]
        simp [I64s, I64]

/-- The field of a struct. -/
def fieldIs (P : Program) (fs : Array Field) (i off n : Nat) (chk : Program → TypeId → Bool) : Bool :=
  match fs[i]? with
  | some f => (f.offset == off) && (P.cellsOf f.type == n) && chk P f.type
  | none => false
def structIs (P : Program) (t : TypeId) (n m : Nat) (chk : Array Field → Bool) : Bool :=
  match P.underlying t with
  | some (.struct fs) => (P.cellsOf t == n) && (fs.size == m) && chk fs
  | _ => false
theorem structIs_run {P : Program} {t : TypeId} {n m : Nat} {chk : Array Field → Bool} (h : structIs P t n m chk = true) : ∃ fs, P.underlying t = some (.struct fs) ∧ P.cellsOf t = n ∧ fs.size = m ∧ chk fs = true := by
  unfold structIs at h
  split at h
  · simp only [Bool.and_eq_true, beq_iff_eq] at h
    exact ⟨_, by assumption, h.1.1, h.1.2, h.2⟩
  · cases h

section
variable {P : Program} {T : Type} {enc : TypeId × Value → T} {B : Nat} {w0 : World} {ρ : Place} {H : GHeap} {w : World} {held : Bool} {n : Nat} {cs : List Value} {fs : Array Field} {xs : List (DataW T × List MemPlace)}
theorem import_field {i off k : Nat} {chk : Program → TypeId → Bool} {R : Place → GHeap → List Value → Prop} (hI : ∀ t, chk P t = true → Imports P t R) (hfd : fieldIs P fs i off k chk = true) (hx : xs.length = fs.size)
    (hf : ∀ (i : Nat) (f : Field), fs[i]? = some f → DataW.trod enc P w 0 (fun _ => true) held n f.type ((cs.drop f.offset).take (P.cellsOf f.type)) = xs[i]?) (hs : Sim P B w0 ρ H w) (hB : w.heap.size ≤ B) :
    ∃ ρ' H', Sim P B w0 ρ' H' w ∧ Ext ρ ρ' ∧ H.Le H' ∧ R ρ' H' ((cs.drop off).take k) := by
  unfold fieldIs at hfd
  split at hfd
  · rename_i f hfi
    simp only [Bool.and_eq_true, beq_iff_eq] at hfd
    obtain ⟨⟨h1, h2⟩, h3⟩ := hfd
    have hi : i < xs.length := by rw [hx]; exact (Array.getElem?_eq_some_iff.1 hfi).1
    have := hf i f hfi
    rw [List.getElem?_eq_getElem hi, h1, h2] at this
    exact hI _ h3 hs hB this
  · cases hfd
end

theorem RInts.mono {ρ ρ' : Place} {H H' : GHeap} {cs : List Value} (h : RInts ρ H cs) (he : Ext ρ ρ') (hl : H.Le H') : RInts ρ' H' cs :=
  let ⟨a, xs, c, h1, h2, h3, h4⟩ := h; ⟨a, xs, c, h1, h2.mono he, h3.mono hl, h4⟩
theorem RIntss.mono {ρ ρ' : Place} {H H' : GHeap} {cs : List Value} (h : RIntss ρ H cs) (he : Ext ρ ρ') (hl : H.Le H') : RIntss ρ' H' cs :=
  let ⟨a, xs, r, c, h1, h2, h3, h4⟩ := h; ⟨a, xs, r, c, h1, h2.mono he, h3.mono hl, h4⟩

/-- What a category from outside may hold. -/
def Cat.Wide (c : Cat) : Prop := I64 c.obj ∧ I64s c.src ∧ I64s c.tgt ∧ I64s c.idn ∧ c.comp.length ≤ 9223372036854775807 ∧ ∀ i, I64s (c.comp.getD i [])
def Fun.Wide (f : Fun) : Prop := f.s.Wide ∧ f.t.Wide ∧ I64s f.ob ∧ I64s f.ar
def Tra.Wide (m : Tra) : Prop := m.s.Wide ∧ m.t.Wide ∧ I64s m.co

def catT (P : Program) (t : TypeId) : Bool := structIs P t 5 5 fun fs => fieldIs P fs 0 0 1 i64T && fieldIs P fs 1 1 1 intsT && fieldIs P fs 2 2 1 intsT && fieldIs P fs 3 3 1 intsT && fieldIs P fs 4 4 1 intssT
def funT (P : Program) (t : TypeId) : Bool := structIs P t 12 4 fun fs => fieldIs P fs 0 0 5 catT && fieldIs P fs 1 5 5 catT && fieldIs P fs 2 10 1 intsT && fieldIs P fs 3 11 1 intsT
def traT (P : Program) (t : TypeId) : Bool := structIs P t 25 3 fun fs => fieldIs P fs 0 0 12 funT && fieldIs P fs 1 12 12 funT && fieldIs P fs 2 24 1 intsT

def RCat (ρ : Place) (H : GHeap) (cs : List Value) : Prop := ∃ (c : Cat) (p : CatP), LRel ρ (c.cells p) cs ∧ c.In H p ∧ c.Wide
def RFun (ρ : Place) (H : GHeap) (cs : List Value) : Prop := ∃ (c : Fun) (p : FunP), LRel ρ (c.cells p) cs ∧ c.In H p ∧ c.Wide
def RTra (ρ : Place) (H : GHeap) (cs : List Value) : Prop := ∃ (c : Tra) (p : TraP), LRel ρ (c.cells p) cs ∧ c.In H p ∧ c.Wide
theorem RCat.mono {ρ ρ' : Place} {H H' : GHeap} {cs : List Value} (h : RCat ρ H cs) (he : Ext ρ ρ') (hl : H.Le H') : RCat ρ' H' cs := let ⟨c, p, h1, h2, h3⟩ := h; ⟨c, p, h1.mono he, h2.mono hl, h3⟩
theorem RFun.mono {ρ ρ' : Place} {H H' : GHeap} {cs : List Value} (h : RFun ρ H cs) (he : Ext ρ ρ') (hl : H.Le H') : RFun ρ' H' cs := let ⟨c, p, h1, h2, h3⟩ := h; ⟨c, p, h1.mono he, h2.mono hl, h3⟩
theorem RTra.mono {ρ ρ' : Place} {H H' : GHeap} {cs : List Value} (h : RTra ρ H cs) (he : Ext ρ ρ') (hl : H.Le H') : RTra ρ' H' cs := let ⟨c, p, h1, h2, h3⟩ := h; ⟨c, p, h1.mono he, h2.mono hl, h3⟩

theorem split5 {cs : List Value} {a b c d e : Value} (h0 : (cs.drop 0).take 1 = [a]) (h1 : (cs.drop 1).take 1 = [b]) (h2 : (cs.drop 2).take 1 = [c]) (h3 : (cs.drop 3).take 1 = [d]) (h4 : (cs.drop 4).take 1 = [e]) (hl : cs.length = 5) : cs = [a, b, c, d, e] := by
  match cs, hl with
  | [v0, v1, v2, v3, v4], _ => simp at h0 h1 h2 h3 h4; subst h0; subst h1; subst h2; subst h3; subst h4; rfl

theorem import_cat {P : Program} {t : TypeId} (ht : catT P t = true) : Imports P t RCat := by
  intro T enc B w0 ρ H w held fuel cs x hs hB h
  obtain ⟨fs, g1, g2, g3, g4⟩ := structIs_run ht
  simp only [Bool.and_eq_true] at g4
  obtain ⟨⟨⟨⟨q0, q1⟩, q2⟩, q3⟩, q4⟩ := g4
  obtain ⟨xs, n, _, _, hl, hx, hf⟩ := DataW.trod_struct g1 h
  obtain ⟨ρ0, H0, s0, e0, l0, nobj, r0, w0'⟩ := import_field (fun _ h => import_int h) q0 hx hf hs hB
  obtain ⟨ρ1, H1, s1, e1, l1, a1, x1, c1, r1, v1, i1, w1⟩ := import_field (fun _ h => import_ints h) q1 hx hf s0 hB
  obtain ⟨ρ2, H2, s2, e2, l2, a2, x2, c2, r2, v2, i2, w2⟩ := import_field (fun _ h => import_ints h) q2 hx hf s1 hB
  obtain ⟨ρ3, H3, s3, e3, l3, a3, x3, c3, r3, v3, i3, w3⟩ := import_field (fun _ h => import_ints h) q3 hx hf s2 hB
  obtain ⟨ρ4, H4, s4, e4, l4, a4, x4, rr, c4, r4, v4, i4, w4, w5⟩ := import_field (fun _ h => import_intss h) q4 hx hf s3 hB
  refine ⟨ρ4, H4, s4, e0.trans (e1.trans (e2.trans (e3.trans e4))), l0.trans (l1.trans (l2.trans (l3.trans l4))), ⟨nobj, x1, x2, x3, x4⟩, ⟨a1, a2, a3, a4, rr⟩, ?_, ⟨i1.mono (l2.trans (l3.trans l4)), i2.mono (l3.trans l4), i3.mono l4, i4⟩, ⟨w0', w1, w2, w3, w4, w5⟩⟩
  rw [split5 r0 r1 r2 r3 r4 (by rw [hl, g2])]
  exact .cons (.int _ _) (.cons (v1.mono (e2.trans (e3.trans e4))) (.cons (v2.mono (e3.trans e4)) (.cons (v3.mono e4) (.cons v4 (.nil _)))))

theorem import_fun {P : Program} {t : TypeId} (ht : funT P t = true) : Imports P t RFun := by
  intro T enc B w0 ρ H w held fuel cs x hs hB h
  obtain ⟨fs, g1, g2, g3, g4⟩ := structIs_run ht
  simp only [Bool.and_eq_true] at g4
  obtain ⟨⟨⟨q0, q1⟩, q2⟩, q3⟩ := g4
  obtain ⟨xs, n, _, _, hl, hx, hf⟩ := DataW.trod_struct g1 h
  obtain ⟨ρ0, H0, s0, e0, l0, y0, p0, v0, i0, w0'⟩ := import_field (fun _ h => import_cat h) q0 hx hf hs hB
  obtain ⟨ρ1, H1, s1, e1, l1, y1, p1, v1, i1, w1⟩ := import_field (fun _ h => import_cat h) q1 hx hf s0 hB
  obtain ⟨ρ2, H2, s2, e2, l2, a2, x2, c2, r2, v2, i2, w2⟩ := import_field (fun _ h => import_ints h) q2 hx hf s1 hB
  obtain ⟨ρ3, H3, s3, e3, l3, a3, x3, c3, r3, v3, i3, w3⟩ := import_field (fun _ h => import_ints h) q3 hx hf s2 hB
  refine ⟨ρ3, H3, s3, e0.trans (e1.trans (e2.trans e3)), l0.trans (l1.trans (l2.trans l3)), ⟨y0, y1, x2, x3⟩, ⟨p0, p1, a2, a3⟩, ?_, ⟨i0.mono (l1.trans (l2.trans l3)), i1.mono (l2.trans l3), i2.mono l3, i3⟩, ⟨w0', w1, w2, w3⟩⟩
  have hlen : cs.length = 12 := by rw [hl, g2]
  have e : cs = (cs.drop 0).take 5 ++ ((cs.drop 5).take 5 ++ ((cs.drop 10).take 1 ++ (cs.drop 11).take 1)) := by
    match cs, hlen with
    | [_, _, _, _, _, _, _, _, _, _, _, _], _ => rfl
  rw [e, r2, r3]
  exact (v0.mono (e1.trans (e2.trans e3))).append ((v1.mono (e2.trans e3)).append (.cons (v2.mono e3) (.cons v3 (.nil _))))

theorem import_tra {P : Program} {t : TypeId} (ht : traT P t = true) : Imports P t RTra := by
  intro T enc B w0 ρ H w held fuel cs x hs hB h
  obtain ⟨fs, g1, g2, g3, g4⟩ := structIs_run ht
  simp only [Bool.and_eq_true] at g4
  obtain ⟨⟨q0, q1⟩, q2⟩ := g4
  obtain ⟨xs, n, _, _, hl, hx, hf⟩ := DataW.trod_struct g1 h
  obtain ⟨ρ0, H0, s0, e0, l0, y0, p0, v0, i0, w0'⟩ := import_field (fun _ h => import_fun h) q0 hx hf hs hB
  obtain ⟨ρ1, H1, s1, e1, l1, y1, p1, v1, i1, w1⟩ := import_field (fun _ h => import_fun h) q1 hx hf s0 hB
  obtain ⟨ρ2, H2, s2, e2, l2, a2, x2, c2, r2, v2, i2, w2⟩ := import_field (fun _ h => import_ints h) q2 hx hf s1 hB
  refine ⟨ρ2, H2, s2, e0.trans (e1.trans e2), l0.trans (l1.trans l2), ⟨y0, y1, x2⟩, ⟨p0, p1, a2⟩, ?_, ⟨i0.mono (l1.trans l2), i1.mono l2, i2⟩, ⟨w0', w1, w2⟩⟩
  have hlen : cs.length = 25 := by rw [hl, g2]
  have e : cs = (cs.drop 0).take 12 ++ ((cs.drop 12).take 12 ++ (cs.drop 24).take 1) := by
    match cs, hlen with
    | [_, _, _, _, _, _, _, _, _, _, _, _, _, _, _, _, _, _, _, _, _, _, _, _, _], _ => rfl
  rw [e, r2]
  exact (v0.mono (e1.trans e2)).append ((v1.mono e2).append (.cons v2 (.nil _)))

/-! ### The row's last step. -/
def readB (P : Program) (ts : List TypeId) : Bool := ts.all fun t => P.readableRec t && decide (t < P.types.size)

section
variable {T : Type} {enc : TypeId × Value → T} {P : Program}
theorem args_again (hl : laidOutB P = true) {W W' : World} (hb : Below W.heap.size W W') {sp : Nat → Bool} : ∀ {ts : List TypeId} {vs : List Value} {ds : List (DataW T)} {ps : List MemPlace}, readB P ts = true →
    DataW.TrodAll enc P W 0 (fun _ => true) true ts vs ds ps → (∀ p ∈ ps, p.block < W.heap.size) → (∀ p ∈ ps, sp p.block = true) → DataW.TrodAll enc P W' 0 sp true ts vs ds ps
  | [], _, _, _, _, h, _, _ => by
    obtain ⟨rfl, rfl, rfl⟩ := trodAll_nil h
    exact trodAll_mk0
  | t :: ts, _, _, _, hr, h, hlt, hsp => by
    obtain ⟨v, vs, d, ds, p, q, rfl, rfl, rfl, h1, h2⟩ := trodAll_cons h
    simp only [readB, List.all_cons, Bool.and_eq_true, decide_eq_true_eq] at hr
    exact ⟨p, q, WideElems.Trod_stays hl hr.1.1 hr.1.2 h1 (fun x hx => hb.same (hlt x (by simp [hx]))) (fun x hx => hsp x (by simp [hx])),
      args_again hl hb (by simpa only [readB, Bool.and_eq_true] using hr.2) h2 (fun x hx => hlt x (by simp [hx])) (fun x hx => hsp x (by simp [hx])), rfl⟩

/-- True comes back, and nothing that was there has turned. -/
theorem law_post {f : Func} {s : ChangeSpec} {apart fresh handsOn again : Bool} {W W' : World} {args : Array Value} {ds gs : List (DataW T)} {before : List MemPlace} {tb : TypeId}
    (hl : laidOutB P = true) (hr : readB P f.params.toList = true) (hv : s.vars = []) (hrt : f.resultTypes = #[tb]) (htb : P.underlying tb = some .bool)
    (hW : DataW.Whole enc P f.params.toList s.vars apart W args.toList ds gs before)
    (hsr : (s.fn T ds).results = [.lit (.bool true)]) (hsa : (s.fn T ds).args = ds) (hsv : (s.fn T ds).vars = []) (hb : Below W.heap.size W W') :
    s.post enc P f apart fresh handsOn again W args (.bool true) W' := by
  have hlt := hW.lt
  have hWW := hW
  obtain ⟨p, q, hA, hV, hpq, hfz, hnd⟩ := hW
  rw [hv] at hV
  obtain ⟨rfl, rfl⟩ := trodVars_none hV
  rw [List.append_nil] at hpq
  obtain rfl := hpq.symm
  have hres : ∀ (b : Nat) (sp : Nat → Bool) (hd : Bool), DataW.TrodAll enc P W' b sp hd f.resultTypes.toList ((Value.bool true).resultList f.resultTypes.size) (s.fn T (ds ++ [])).results [] := fun b sp hd => by
    rw [List.append_nil, hsr, hrt]
    exact trodAll_mk1 (shut_bool htb true)
  have hargs : ∀ sp : Nat → Bool, (∀ x ∈ p, sp x.block = true) → DataW.TrodAll enc P W' 0 sp true f.params.toList args.toList (s.fn T (ds ++ [])).args p := fun sp hsp => by
    rw [List.append_nil, hsa]
    exact args_again hl hb hr hA hlt hsp
  have hvars : ∀ sp : Nat → Bool, DataW.TrodVars enc P W' sp s.vars (s.fn T (ds ++ [])).vars [] := fun sp => by
    rw [List.append_nil, hsv, hv]
    rfl
  have hok : ∀ (j : Nat) (t : TypeId) (r : Value), f.resultTypes[j]? = some t → ((Value.bool true).resultList f.resultTypes.size)[j]? = some r → Value.okWide P W' .any 0 t r := ok_one hrt rfl (okWide_bool_mk htb true)
  refine ⟨ds, [], p, [], p, [], hWW, hres _ _ _, hargs _ fun x hx => by simpa using hlt x hx, hvars _, hb.frame _, fun _ => ⟨hok, _, _, ([] ++ p) ++ [], ⟨[] ++ p, [], trodAll_append (hargs (fun _ => true) fun _ _ => rfl) (hres _ _ _), hvars (fun _ => true), rfl, ?_, ?_⟩, ?_⟩⟩
  · intro b off hp
    have hin : MemPlace.cell b off ∈ p := by simpa using hp
    rw [hb.frozen (hlt _ hin)]
    exact hfz b off hin
  · intro ha
    simpa using hnd ha
  · intro x hx _
    simpa using hx
end

/-- The call of a law of one argument. -/
theorem law_calls1 {P : Program} {f : FuncId} {fn : Func} {t tb : TypeId} {R : Place → GHeap → List Value → Prop} (hI : Imports P t R)
    (hst : (match P.underlying t with | some (.struct _) => true | _ => false) = true) (hp : fn.params = #[t])
    (hc : ∀ ρ H cs, R ρ H cs → ∃ vs, LRel ρ vs cs ∧ GCalls P f [.agg vs.toArray] H fun v _ => v = .bool true)
    {T : Type} {enc : TypeId × Value → T} {W : World} {base : Nat} {args : Array Value} {s : ChangeSpec} {apart fresh handsOn again : Bool} {ds gs : List (DataW T)} {before : List MemPlace}
    (hval : ∀ (j : Nat) t v, fn.params[j]? = some t → args[j]? = some v → Value.okWide P W .any base t v)
    (hW : DataW.Whole enc P fn.params.toList s.vars apart W args.toList ds gs before)
    (hl : laidOutB P = true) (hr : readB P fn.params.toList = true) (hv : s.vars = []) (hrt : fn.resultTypes = #[tb]) (htb : P.underlying tb = some .bool)
    (hs : ∀ d : DataW T, (s.fn T [d]).results = [.lit (.bool true)] ∧ (s.fn T [d]).args = [d] ∧ (s.fn T [d]).vars = []) :
    Calls P f args W fun e W' => ∃ v, e = .returned v ∧ s.post enc P fn apart fresh handsOn again W args v W' := by
  have hWW := hW
  obtain ⟨p, q, hA, _⟩ := hW
  rw [hp] at hA
  obtain ⟨v, d, rfl, rfl, h0⟩ := trodAll_one hA
  have hv0 := hval 0 t v (by rw [hp]; rfl) rfl
  have hagg : ∃ cs, v = .agg cs := by
    unfold Value.okWide at hv0
    split at hst
    · rename_i fs hu
      rw [hu] at hv0
      obtain ⟨cs, h, _⟩ := hv0
      exact ⟨cs, h⟩
    · cases hst
  obtain ⟨cs, rfl⟩ := hagg
  obtain ⟨fuel, h1⟩ := h0
  obtain ⟨ρ, H, hs', _, _, hR⟩ := hI (Sim.start P W) (Nat.le_refl _) h1
  obtain ⟨vs, hrel, hcall⟩ := hc ρ H _ hR
  have hrel' : VRel ρ (.agg vs.toArray) (.agg cs) := by
    have := VRel.agg_of hrel
    simpa [Value.cells] using this
  refine (hcall _ _ ρ [.agg cs] W hs' (.cons hrel' (.nil _))).mono fun e W' ⟨v, c, ρ', H', he, hv', _, hsim, hrv⟩ => ?_
  subst hv'
  cases hrv
  exact ⟨_, he, law_post hl hr hv hrt htb hWW (hs d).1 (hs d).2.1 (hs d).2.2 hsim.below⟩

/-- What a counting helper hands back: -1, or what is left; then it was enough. -/
def SzR (left : Int) (p : Prop) (H : GHeap) : Value → GHeap → Prop := fun v H' => H' = H ∧ ∃ l, v = .int .i64 l ∧ -1 ≤ l ∧ l ≤ left ∧ (0 ≤ l → p)
theorem SzR.of {P : Program} {f : FuncId} {args : List Value} {H : GHeap} {left : Int} {p : Prop} (h : GCalls P f args H fun v H' => H.Le H' ∧ ∃ l, v = .int .i64 l ∧ -1 ≤ l ∧ l ≤ left ∧ (0 ≤ l → p)) : GCalls P f args H (SzR left p H) :=
  (GCalls.quiet (φ := fun v => ∃ l, v = .int .i64 l ∧ -1 ≤ l ∧ l ≤ left ∧ (0 ≤ l → p)) (h.mono fun _ _ ⟨h1, l, h2, h3⟩ => ⟨⟨l, h2, h3⟩, by rw [h2]; rfl, h1⟩)).mono fun _ _ ⟨h1, h2⟩ => ⟨h2, h1⟩

theorem eq_of_getD {xs ys : List Int} (hl : ys.length = xs.length) (h : ∀ i, i < xs.length → ys.getD i 0 = xs.getD i 0) : ys = xs := by
  apply List.ext_getElem hl
  intro i h1 h2
  have := h i h2
  simpa [List.getD_eq_getElem?_getD, h1, h2] using this
theorem ints_set (ys : List Int) (i : Nat) (v : Int) : (ints ys).set i (.int .i64 v) = ints (ys.set i v) := by simp [ints, List.map_set]
theorem getD_set {ys : List Int} {k i : Nat} {v : Int} (hk : k < ys.length) : (ys.set k v).getD i 0 = if i = k then v else ys.getD i 0 := by
  simp only [List.getD_eq_getElem?_getD, List.getElem?_set]
  by_cases e : k = i
  · subst e; simp [hk]
  · simp [e, Ne.symm e]
theorem SlA.of_ints {H : GHeap} {g : Nat} {ys : List Int} {e : TypeId} {own : Bool} {n : Nat} (h : H.get g = some (.row (ints ys) e own)) (hn : ys.length = n) : SlA H (some ⟨g, 0, none⟩) n (fun i => .int .i64 (ys.getD i 0)) := by
  subst hn; exact Ints.of_get h

theorem SlA.of_row {H : GHeap} {g n : Nat} {cs : List Value} {e : TypeId} {own : Bool} (h : H.get g = some (.row cs e own)) (hn : cs.length = n) : SlA H (some ⟨g, 0, none⟩) n (fun i => cs.getD i (.bool false)) := by
  subst hn
  exact .inr ⟨g, 0, rfl, fun i hi => by rw [GHeap.cell_of h, Nat.zero_add]; simp [List.getD_eq_getElem?_getD, hi]⟩

/-- What lies from b on stays. -/
def Keep (b : Nat) (H H' : GHeap) : Prop := ∀ g o, b ≤ g → H.get g = some o → H'.get g = some o
theorem Keep.of_le {b : Nat} {H H' : GHeap} (h : H.Le H') : Keep b H H' := fun g o _ => h.2 g o
theorem Keep.set {b g : Nat} {H : GHeap} {o : Option GObj} (h : g < b) : Keep b H (H.set g o) := fun k x hk hx => by
  rw [GHeap.get_set_ne (by omega)]; exact hx
/-- A list of the call's own from block b on. -/
def IntsAt (b : Nat) (H : GHeap) (a : Option Addr) (xs : List Int) : Prop := ∃ g e, a = some ⟨g, 0, none⟩ ∧ b ≤ g ∧ H.get g = some (.row (ints xs) e true)
def IntssAt (b : Nat) (H : GHeap) (a : Option Addr) (xss : List (List Int)) (r : Nat → Option Addr) : Prop :=
  ∃ g e cs, a = some ⟨g, 0, none⟩ ∧ b ≤ g ∧ H.get g = some (.row cs e true) ∧ cs.length = xss.length ∧ (∀ i, i < xss.length → cs[i]? = some (.slice (r i) (xss.getD i []).length (xss.getD i []).length)) ∧ ∀ i, i < xss.length → IntsAt b H (r i) (xss.getD i [])
theorem IntsAt.keep {b b' : Nat} {H H' : GHeap} {a : Option Addr} {xs : List Int} (h : IntsAt b H a xs) (hk : Keep b' H H') (hb : b' ≤ b) : IntsAt b' H' a xs :=
  let ⟨g, e, h1, h2, h3⟩ := h; ⟨g, e, h1, by omega, hk g _ (by omega) h3⟩
theorem IntssAt.keep {b b' : Nat} {H H' : GHeap} {a : Option Addr} {xss : List (List Int)} {r : Nat → Option Addr} (h : IntssAt b H a xss r) (hk : Keep b' H H') (hb : b' ≤ b) : IntssAt b' H' a xss r :=
  let ⟨g, e, cs, h1, h2, h3, h4, h5, h6⟩ := h; ⟨g, e, cs, h1, by omega, hk g _ (by omega) h3, h4, h5, fun i hi => (h6 i hi).keep hk hb⟩
theorem IntsAt.ints {b : Nat} {H : GHeap} {a : Option Addr} {xs : List Int} (h : IntsAt b H a xs) : Ints H a xs := by
  obtain ⟨g, e, rfl, _, h3⟩ := h
  exact Ints.of_get h3
theorem IntssAt.intss {b : Nat} {H : GHeap} {a : Option Addr} {xss : List (List Int)} {r : Nat → Option Addr} (h : IntssAt b H a xss r) : Intss H a xss r := by
  obtain ⟨g, e, cs, rfl, _, h3, h4, h5, h6⟩ := h
  exact ⟨.inr ⟨g, 0, rfl, fun i hi => by rw [GHeap.cell_of h3, Nat.zero_add]; exact h5 i hi⟩, fun i hi => (h6 i hi).ints⟩
def NewIntss (H : GHeap) (xss : List (List Int)) (v : Value) (H' : GHeap) : Prop := H.Le H' ∧ ∃ a r, v = .slice a xss.length xss.length ∧ IntssAt H.next H' a xss r
def CatAt (b : Nat) (H : GHeap) (c : Cat) (p : CatP) : Prop := IntsAt b H p.a1 c.src ∧ IntsAt b H p.a2 c.tgt ∧ IntsAt b H p.a3 c.idn ∧ IntssAt b H p.a4 c.comp p.r
theorem CatAt.keep {b b' : Nat} {H H' : GHeap} {c : Cat} {p : CatP} (h : CatAt b H c p) (hk : Keep b' H H') (hb : b' ≤ b) : CatAt b' H' c p := ⟨h.1.keep hk hb, h.2.1.keep hk hb, h.2.2.1.keep hk hb, h.2.2.2.keep hk hb⟩
theorem CatAt.inn {b : Nat} {H : GHeap} {c : Cat} {p : CatP} (h : CatAt b H c p) : c.In H p := ⟨h.1.ints, h.2.1.ints, h.2.2.1.ints, h.2.2.2.intss⟩
def NewCat (H : GHeap) (c : Cat) (v : Value) (H' : GHeap) : Prop := H.Le H' ∧ ∃ p, v = .agg (c.cells p).toArray ∧ CatAt H.next H' c p
def FunAt (b : Nat) (H : GHeap) (f : Fun) (p : FunP) : Prop := CatAt b H f.s p.s ∧ CatAt b H f.t p.t ∧ IntsAt b H p.b1 f.ob ∧ IntsAt b H p.b2 f.ar
theorem FunAt.keep {b b' : Nat} {H H' : GHeap} {c : Fun} {p : FunP} (h : FunAt b H c p) (hk : Keep b' H H') (hb : b' ≤ b) : FunAt b' H' c p := ⟨h.1.keep hk hb, h.2.1.keep hk hb, h.2.2.1.keep hk hb, h.2.2.2.keep hk hb⟩
theorem FunAt.inn {b : Nat} {H : GHeap} {c : Fun} {p : FunP} (h : FunAt b H c p) : c.In H p := ⟨h.1.inn, h.2.1.inn, h.2.2.1.ints, h.2.2.2.ints⟩
def NewFun (H : GHeap) (c : Fun) (v : Value) (H' : GHeap) : Prop := H.Le H' ∧ ∃ p, v = .agg (c.cells p).toArray ∧ FunAt H.next H' c p
def TraAt (b : Nat) (H : GHeap) (m : Tra) (p : TraP) : Prop := FunAt b H m.s p.s ∧ FunAt b H m.t p.t ∧ IntsAt b H p.d m.co
theorem TraAt.keep {b b' : Nat} {H H' : GHeap} {c : Tra} {p : TraP} (h : TraAt b H c p) (hk : Keep b' H H') (hb : b' ≤ b) : TraAt b' H' c p := ⟨h.1.keep hk hb, h.2.1.keep hk hb, h.2.2.keep hk hb⟩
theorem TraAt.inn {b : Nat} {H : GHeap} {c : Tra} {p : TraP} (h : TraAt b H c p) : c.In H p := ⟨h.1.inn, h.2.1.inn, h.2.2.ints⟩
def NewTra (H : GHeap) (c : Tra) (v : Value) (H' : GHeap) : Prop := H.Le H' ∧ ∃ p, v = .agg (c.cells p).toArray ∧ TraAt H.next H' c p

/-- A struct under way: its own row g3, the row g2 of the result, both zero at the start. -/
structure Bld (H0 : GHeap) (b g2 g3 : Nat) (t : TypeId) (z cs : List Value) (H : GHeap) : Prop where
  le : H0.Le H
  a2 : H0.next ≤ g2
  l2 : g2 < b
  a3 : H0.next ≤ g3
  l3 : g3 < b
  ne : g2 ≠ g3
  res : H.get g2 = some (.row z t true)
  own : H.get g3 = some (.row cs t true)
  bn : b ≤ H.next
theorem Bld.start (H0 : GHeap) (t : TypeId) (z : List Value) : Bld H0 ((H0.push (.row z t true)).next + 1) H0.next (H0.push (.row z t true)).next t z z ((H0.push (.row z t true)).push (.row z t true)) where
  le := (GHeap.le_push _ _).trans (GHeap.le_push _ _)
  a2 := Nat.le_refl _
  l2 := by simp; omega
  a3 := by simp
  l3 := by omega
  ne := by simp
  res := (GHeap.le_push _ _).2 _ _ (GHeap.get_push_new _ _)
  own := GHeap.get_push_new _ _
  bn := by simp
theorem Bld.call {H0 H H' : GHeap} {b g2 g3 : Nat} {t : TypeId} {z cs : List Value} (B : Bld H0 b g2 g3 t z cs H) (h : H.Le H') : Bld H0 b g2 g3 t z cs H' :=
  ⟨B.le.trans h, B.a2, B.l2, B.a3, B.l3, B.ne, h.2 _ _ B.res, h.2 _ _ B.own, Nat.le_trans B.bn h.1⟩
theorem Bld.store {H0 H : GHeap} {b g2 g3 : Nat} {t : TypeId} {z cs : List Value} (B : Bld H0 b g2 g3 t z cs H) (cs' : List Value) : Bld H0 b g2 g3 t z cs' (H.set g3 (some (.row cs' t true))) ∧ Keep b H (H.set g3 (some (.row cs' t true))) :=
  ⟨⟨B.le.set_new B.a3, B.a2, B.l2, B.a3, B.l3, B.ne, by rw [GHeap.get_set_ne (Ne.symm B.ne)]; exact B.res, GHeap.get_set_eq (GHeap.lt_of_get B.own), by rw [GHeap.next_set]; exact B.bn⟩, .set B.l3⟩
theorem Bld.done {H0 H : GHeap} {b g2 g3 : Nat} {t : TypeId} {z cs : List Value} (B : Bld H0 b g2 g3 t z cs H) (o : Option GObj) : H0.Le (H.set g2 o) ∧ Keep b H (H.set g2 o) := ⟨B.le.set_new B.a2, .set B.l2⟩
theorem NewInts.at {H H' : GHeap} {e : TypeId} {xs : List Int} {g : Nat} (h : H'.get g = some (.row (ints xs) e true)) (hg : H.next ≤ g) : IntsAt H.next H' (some ⟨g, 0, none⟩) xs := ⟨g, e, rfl, hg, h⟩

theorem setAll_gen (vs : List Value) : ∀ (pre a rest : List Value), a.length = vs.length → setAll (pre ++ (a ++ rest)) pre.length vs = pre ++ (vs ++ rest) := by
  induction vs with
  | nil => intro pre a rest h; obtain rfl := List.length_eq_zero_iff.1 (by simpa using h); rfl
  | cons v vs ih =>
    intro pre a rest h
    match a, h with
    | x :: a, h =>
      have e : (pre ++ (x :: a ++ rest)).set pre.length v = (pre ++ [v]) ++ (a ++ rest) := by simp [List.set_append]
      have := ih (pre ++ [v]) a rest (by simpa using h)
      rw [List.length_append] at this
      unfold setAll
      rw [e]
      simpa using this
theorem setAll_all (a vs : List Value) (h : a.length = vs.length) : setAll a 0 vs = vs := by
  have := setAll_gen vs [] a [] h
  simpa using this

end Go.GL
