/- What a caller hands in, brought into a ghost heap; the last step of a row that says 'true, and the arguments read as they did'. No condition. -/
import Derived.Test.YtagkeabmdodfiaaZ6
import Derived.Below
import Derived.ChangeSame
import Derived.ChangeSlices
import Derived.Deep.Slices
import Derived.Deep.Matrix
import Derived.WideKeyArgs
namespace Go.GL
open Go.RowKit Go.WideShapes Go.ChangeShapes Go.Deep

def GHeap.gap (H : GHeap) : GHeap := ⟨H.objs ++ [none]⟩
@[simp] theorem GHeap.next_gap (H : GHeap) : H.gap.next = H.next + 1 := by simp [GHeap.next, GHeap.gap]
theorem GHeap.get_gap (H : GHeap) (g : Nat) : H.gap.get g = H.get g := by
  unfold GHeap.get GHeap.gap
  simp only
  rcases Nat.lt_or_ge g H.objs.length with hl | hl
  · rw [List.getElem?_append_left hl]
  · rw [List.getElem?_append_right hl, List.getElem?_eq_none hl]
    rcases Nat.eq_zero_or_pos (g - H.objs.length) with e | e
    · rw [e]; rfl
    · rw [List.getElem?_eq_none (by simp; omega)]
theorem GHeap.le_gap (H : GHeap) : H.Le H.gap := ⟨by simp, fun g o h => by rw [GHeap.get_gap]; exact h⟩

section
variable {P : Program} {B : Nat} {w0 : World} {ρ : Place} {H : GHeap} {w : World}

theorem Sim.start (P : Program) (W : World) : Sim P W.heap.size W (fun _ => none) ⟨[]⟩ W :=
  ⟨fun _ _ => rfl, fun g o h => by simp [GHeap.get] at h, fun g g' o o' s s' h => by simp [GHeap.get] at h, Nat.le_refl _, .refl _ _⟩

theorem Sim.gap (hs : Sim P B w0 ρ H w) (s : Spot) : Sim P B w0 (place ρ H.next s) H.gap w ∧ Ext ρ (place ρ H.next s) := by
  have hext : Ext ρ (place ρ H.next s) := place_ext (hs.dom _ (Nat.le_refl _))
  refine ⟨⟨fun g hg => ?_, fun g o hg => ?_, fun g g' o o' t t' h1 h2 h3 h4 h5 h6 h7 => ?_, hs.base, hs.below⟩, hext⟩
  · simp at hg
    unfold place
    rw [if_neg (by omega)]
    exact hs.dom g (by omega)
  · rw [GHeap.get_gap] at hg
    exact (hs.live g o hg).keep hext fun _ _ => rfl
  · rw [GHeap.get_gap] at h1 h2
    have e1 := GHeap.ltg h1
    have e2 := GHeap.ltg h2
    unfold place at h6 h7
    rw [if_neg (by omega)] at h6 h7
    exact hs.apart g g' o o' t t' h1 h2 h3 h4 h5 h6 h7

theorem Sim.look (hs : Sim P B w0 ρ H w) {b : Nat} {C : Array Value} {e : TypeId} {fz : Nat × Nat} (hb : b < B) (hw : w.heap[b]? = some (.cells C e fz)) {off k : Nat} {vs : List Value} (hl : off + vs.length ≤ C.size)
    (hv : ∀ (i : Nat) (v : Value), vs[i]? = some v → ∃ c, C[off + i]? = some c ∧ VRel ρ v c) :
    Sim P B w0 (place ρ H.next ⟨b, off, C.size, k⟩) (H.push (.row vs e false)) w ∧ Ext ρ (place ρ H.next ⟨b, off, C.size, k⟩) := by
  have hext : Ext ρ (place ρ H.next ⟨b, off, C.size, k⟩) := place_ext (hs.dom _ (Nat.le_refl _))
  refine ⟨⟨fun g hg => ?_, fun g o hg => ?_, fun g g' o o' t t' h1 h2 h3 h4 h5 h6 h7 => ?_, hs.base, hs.below⟩, hext⟩
  · simp at hg
    unfold place
    rw [if_neg (by omega)]
    exact hs.dom g (by omega)
  · rcases Nat.lt_or_ge g H.next with hlt | hge
    · rw [GHeap.get_push_lt hlt] at hg
      exact (hs.live g o hg).keep hext fun _ _ => rfl
    · have hg' : g = H.next := by have := GHeap.ltg hg; simp at this; omega
      subst hg'
      rw [GHeap.get_push_new] at hg
      cases hg
      exact ⟨_, C, fz, place_self, hw, rfl, hl, fun i v h => let ⟨c, h1, h2⟩ := hv i v h; ⟨c, h1, h2.mono hext⟩, fun h => (by cases h), fun _ => hb, fun h => (by cases h)⟩
  · have old : ∀ {k' : Nat} {x : GObj}, (H.push (.row vs e false)).get k' = some x → x.isOwn = true → k' < H.next ∧ H.get k' = some x := by
      intro k' x hx ho
      have hk := GHeap.ltg hx
      simp at hk
      rcases Nat.lt_or_ge k' H.next with hlt | hge
      · rw [GHeap.get_push_lt hlt] at hx; exact ⟨hlt, hx⟩
      · obtain rfl : k' = H.next := by omega
        rw [GHeap.get_push_new] at hx
        cases hx
        cases ho
    obtain ⟨a1, a2⟩ := old h1 h3
    obtain ⟨b1, b2⟩ := old h2 h4
    unfold place at h6 h7
    rw [if_neg (by omega)] at h6 h7
    exact hs.apart g g' o o' t t' a2 b2 h3 h4 h5 h6 h7

theorem Sim.list (hs : Sim P B w0 ρ H w) (hB : w.heap.size ≤ B) {a : Addr} {len cap : Nat} {V : Nat → Value} (hl : len ≤ cap) (hm : cap ≤ maxLen) (hcell : ∀ i, i < cap → w.cell? (a.add i) = some (V i)) {f : Nat → Value}
    (hf : ∀ i, i < len → VRel ρ (f i) (V i)) :
    ∃ a' ρ' H', Sim P B w0 ρ' H' w ∧ Ext ρ ρ' ∧ H.Le H' ∧ VRel ρ' (.slice a' len len) (.slice (some a) len cap) ∧ SlA H' a' len f := by
  rcases Nat.eq_zero_or_pos cap with e | hp
  · subst e
    obtain rfl : len = 0 := by omega
    obtain ⟨h1, h2⟩ := hs.gap ⟨0, 0, 0, 0⟩
    exact ⟨some ⟨H.next, 0, none⟩, _, _, h1, h2, H.le_gap, .empty place_self, .inl rfl⟩
  · have h0 := hcell 0 hp
    have hsp := World.cell?_spot h0
    obtain ⟨b, off, sp⟩ := a
    have hadd : ∀ i, (Addr.mk b off none).add i = ⟨b, off + i, none⟩ := fun i => by
      unfold Addr.add
      split
      · rename_i h; subst h; rfl
      · rfl
    obtain rfl : sp = none := by simpa [Addr.add] using hsp
    rw [hadd] at h0
    have hblk : ∃ C e fz, w.heap[b]? = some (.cells C e fz) := by
      unfold World.cell? at h0
      split at h0
      · exact ⟨_, _, _, by assumption⟩
      · cases h0
    obtain ⟨C, e, fz, hC⟩ := hblk
    have hc : ∀ i, i < cap → C[off + i]? = some (V i) := fun i hi => by
      have := hcell i hi
      rw [hadd] at this
      simpa [World.cell?, hC] using this
    have hsz : off + cap ≤ C.size := by
      have := (Array.getElem?_eq_some_iff.1 (hc (cap - 1) (by omega))).1
      omega
    have hbl : b < B := by
      have : b < w.heap.size := (Array.getElem?_eq_some_iff.1 hC).1
      omega
    obtain ⟨h1, h2⟩ := hs.look hbl hC (off := off) (k := 1) (vs := (List.range len).map f) (by simp; omega) (fun i v hv => by
      simp only [List.getElem?_map, Option.map_eq_some_iff] at hv
      obtain ⟨j, hj, rfl⟩ := hv
      have hj' := List.getElem?_eq_some_iff.1 hj
      simp at hj'
      obtain ⟨hi, rfl⟩ := hj'
      exact ⟨_, hc i (by omega), hf i hi⟩)
    refine ⟨some ⟨H.next, 0, none⟩, _, _, h1, h2, GHeap.le_push _ _, ?_, .inr ⟨H.next, 0, rfl, fun i hi => ?_⟩⟩
    · have := VRel.slice (ρ := place ρ H.next ⟨b, off, C.size, 1⟩) (g := H.next) (o := 0) (n := len) (cap := cap) place_self hl (by simp only; omega) hm
      simpa using this
    · rw [GHeap.cell_of (GHeap.get_push_new _ _)]
      simp [hi]
end

def i64T (P : Program) (t : TypeId) : Bool := match P.underlying t with | some (.int .i64) => true | _ => false
def intsT (P : Program) (t : TypeId) : Bool := match P.underlying t with | some (.slice e) => i64T P e && (P.cellsOf e == 1) | _ => false
def intssT (P : Program) (t : TypeId) : Bool := match P.underlying t with | some (.slice e) => intsT P e && (P.cellsOf e == 1) | _ => false
theorem i64T_run {P : Program} {t : TypeId} (h : i64T P t = true) : P.underlying t = some (.int .i64) := by
  unfold i64T at h
  split at h
  · assumption
  · cases h
theorem intsT_run {P : Program} {t : TypeId} (h : intsT P t = true) : ∃ e, P.underlying t = some (.slice e) ∧ P.underlying e = some (.int .i64) ∧ P.cellsOf e = 1 := by
  unfold intsT at h
  split at h
  · simp only [Bool.and_eq_true, beq_iff_eq] at h
    exact ⟨_, by assumption, i64T_run h.1, h.2⟩
  · cases h
theorem intssT_run {P : Program} {t : TypeId} (h : intssT P t = true) : ∃ e, P.underlying t = some (.slice e) ∧ intsT P e = true ∧ P.cellsOf e = 1 := by
  unfold intssT at h
  split at h
  · simp only [Bool.and_eq_true, beq_iff_eq] at h
    exact ⟨_, by assumption, h.1, h.2⟩
  · cases h

def Imports (P : Program) (t : TypeId) (R : Place → GHeap → List Value → Prop) : Prop :=
  ∀ {T : Type} {enc : TypeId × Value → T} {B : Nat} {w0 : World} {ρ : Place} {H : GHeap} {w : World} {held : Bool} {fuel : Nat} {cs : List Value} {x : DataW T × List MemPlace}, Sim P B w0 ρ H w → w.heap.size ≤ B →
    DataW.trod enc P w 0 (fun _ => true) held fuel t cs = some x → ∃ ρ' H', Sim P B w0 ρ' H' w ∧ Ext ρ ρ' ∧ H.Le H' ∧ R ρ' H' cs

def I64 (n : Int) : Prop := -9223372036854775808 ≤ n ∧ n ≤ 9223372036854775807
theorem I64.of_wf {n : Int} (h : (Lit.int .i64 n).wf = true) : I64 n := by
  simp [Lit.wf, IntKind.min, IntKind.max, IntKind.signed, IntKind.bits] at h
  exact ⟨by omega, by omega⟩
def I64s (xs : List Int) : Prop := xs.length ≤ 9223372036854775807 ∧ ∀ i, I64 (xs.getD i 0)

def RInt (_ : Place) (_ : GHeap) (cs : List Value) : Prop := ∃ n, cs = [.int .i64 n] ∧ I64 n
def RInts (ρ : Place) (H : GHeap) (cs : List Value) : Prop := ∃ a xs c, cs = [c] ∧ VRel ρ (.slice a xs.length xs.length) c ∧ Ints H a xs ∧ I64s xs
def RIntss (ρ : Place) (H : GHeap) (cs : List Value) : Prop := ∃ a xss r c, cs = [c] ∧ VRel ρ (.slice a xss.length xss.length) c ∧ Intss H a xss r ∧ xss.length ≤ 9223372036854775807 ∧ ∀ i, I64s (xss.getD i [])

theorem import_int {P : Program} {t : TypeId} (ht : i64T P t = true) : Imports P t RInt := by
  intro T enc B w0 ρ H w held fuel cs x hs hB h
  obtain ⟨n, h1, _, h3⟩ := DataW.trod_int (i64T_run ht) h
  exact ⟨ρ, H, hs, .refl ρ, .refl H, n, h1, .of_wf h3⟩

theorem take_getD (zs : List Int) {n i : Nat} (hi : i < n) : (zs.take n).getD i 0 = zs.getD i 0 := by
  simp [List.getD_eq_getElem?_getD, List.getElem?_take, hi]
theorem I64s.take {zs : List Int} (h : ∀ n ∈ zs, (Lit.int .i64 n).wf = true) {len : Nat} (hl : (zs.take len).length ≤ 9223372036854775807) : I64s (zs.take len) := by
  refine ⟨hl, fun i => ?_⟩
  rw [List.getD_eq_getElem?_getD]
  cases e : (zs.take len)[i]? with
  | none => simp [I64]
  | some n => exact .of_wf (h n (List.mem_of_mem_take (List.mem_of_getElem? e)))

theorem import_ints {P : Program} {t : TypeId} (ht : intsT P t = true) : Imports P t RInts := by
  intro T enc B w0 ρ H w held fuel cs x hs hB h
  obtain ⟨e, h1, h2, h3⟩ := intsT_run ht
  rcases open_ints h1 h2 h3 h with ⟨rfl, _⟩ | ⟨a, len, cap, zs, rfl, _, hl, hm, hz, _, hc, hw⟩
  · exact ⟨ρ, H, hs, .refl ρ, .refl H, none, [], _, rfl, .nilSlice, .inl rfl, by simp, fun i => by simp [I64]⟩
  · simp only [if_true] at hz
    have hlen : (zs.take len).length = len := by simp; omega
    obtain ⟨a', ρ', H', k1, k2, k3, k4, k5⟩ := hs.list hB (f := fun i => .int .i64 ((zs.take len).getD i 0)) hl hm (fun i hi => hc i (by omega)) (fun i hi => by rw [take_getD zs hi]; exact .int _ _)
    refine ⟨ρ', H', k1, k2, k3, a', zs.take len, _, rfl, by rw [hlen]; exact k4, ?_, .take hw (by rw [hlen]; unfold maxLen at hm; omega)⟩
    unfold Ints
    rw [hlen]
    exact k5

theorem import_intss {P : Program} {t : TypeId} (ht : intssT P t = true) : Imports P t RIntss := by
  intro T enc B w0 ρ H w held fuel cs x hs hB h
  obtain ⟨e, h1, h2, h3⟩ := intssT_run ht
  obtain ⟨q, g1, g2, g3⟩ := intsT_run h2
  rcases open_int_rows h1 g1 g2 h3 g3 h with ⟨rfl, _⟩ | ⟨a, len, cap, A, L, C, Z, rfl, _, hl, hm, _, hr⟩
  · exact ⟨ρ, H, hs, .refl ρ, .refl H, none, [], fun _ => none, _, rfl, .nilSlice, ⟨.inl rfl, fun i hi => by simp at hi⟩, by simp, fun i => by simp [I64s, I64]⟩
  · have hlen : ∀ r, r < cap → ((Z r).take (L r)).length = L r := fun r hi => by
      obtain ⟨_, k2, _, k4, _⟩ := hr r hi
      simp; omega
    have rows : ∀ k, k ≤ len → ∃ ρ' H', Sim P B w0 ρ' H' w ∧ Ext ρ ρ' ∧ H.Le H' ∧ ∃ rr : Nat → Option Addr, ∀ r, r < k → VRel ρ' (.slice (rr r) (L r) (L r)) (.slice (A r) (L r) (C r)) ∧ Ints H' (rr r) ((Z r).take (L r)) := by
      intro k
      induction k with
      | zero => exact fun _ => ⟨ρ, H, hs, .refl ρ, .refl H, fun _ => none, fun r hr => by omega⟩
      | succ k ih =>
        intro hk
        obtain ⟨ρ1, H1, s1, e1, l1, rr, hrr⟩ := ih (by omega)
        obtain ⟨c1, c2, c3, c4, c5, c6, c7⟩ := hr k (by omega)
        have one : ∃ a' ρ2 H2, Sim P B w0 ρ2 H2 w ∧ Ext ρ1 ρ2 ∧ H1.Le H2 ∧ VRel ρ2 (.slice a' (L k) (L k)) (.slice (A k) (L k) (C k)) ∧ Ints H2 a' ((Z k).take (L k)) := by
          cases hA : A k with
          | none =>
            have e0 := c6 hA
            have e2 : L k = 0 := by omega
            rw [e0, e2]
            exact ⟨none, ρ1, H1, s1, .refl _, .refl _, .nilSlice, .inl (by simp)⟩
          | some a' =>
            obtain ⟨_, hc⟩ := c7 a' hA
            obtain ⟨a2, ρ2, H2, k1, k2, k3, k4, k5⟩ := s1.list hB (f := fun i => .int .i64 (((Z k).take (L k)).getD i 0)) c2 c3 hc (fun i hi => by rw [take_getD (Z k) hi]; exact .int _ _)
            refine ⟨a2, ρ2, H2, k1, k2, k3, k4, ?_⟩
            unfold Ints
            rw [hlen k (by omega)]
            exact k5
        obtain ⟨a', ρ2, H2, s2, e2, l2, v2, i2⟩ := one
        refine ⟨ρ2, H2, s2, e1.trans e2, l1.trans l2, fun r => if r = k then a' else rr r, fun r hr' => ?_⟩
        by_cases ek : r = k
        · subst ek; simp only [if_true]; exact ⟨v2, i2⟩
        · simp only [ek, if_false]
          obtain ⟨v1, i1⟩ := hrr r (by omega)
          exact ⟨v1.mono e2, i1.mono l2⟩
    obtain ⟨ρ1, H1, s1, e1, l1, rr, hrr⟩ := rows len (Nat.le_refl _)
    obtain ⟨a', ρ2, H2, k1, k2, k3, k4, k5⟩ := s1.list hB (f := fun r => .slice (rr r) (L r) (L r)) hl hm (fun r hi => (hr r hi).1) (fun r hi => (hrr r hi).1)
    have hx : ((List.range len).map fun r => (Z r).take (L r)).length = len := by simp
    have hg : ∀ r, r < len → ((List.range len).map fun r => (Z r).take (L r)).getD r [] = (Z r).take (L r) := fun r hi => by simp [List.getD_eq_getElem?_getD, hi]
    refine ⟨ρ2, H2, k1, e1.trans k2, l1.trans k3, a', (List.range len).map fun r => (Z r).take (L r), rr, _, rfl, by rw [hx]; exact k4, ⟨?_, fun r hi => ?_⟩, by rw [hx]; unfold maxLen at hm; omega, fun r => ?_⟩
    · rw [hx]
      refine k5.imp id fun ⟨g, off, hga, hc⟩ => ⟨g, off, hga, fun i hi => ?_⟩
      show _ = some (Value.slice (rr i) (((List.range len).map fun r => (Z r).take (L r)).getD i []).length (((List.range len).map fun r => (Z r).take (L r)).getD i []).length)
      rw [hg i hi, hlen i (by omega)]
      exact hc i hi
    · rw [hx] at hi
      rw [hg r hi]
      exact (hrr r hi).2.mono k3
    · by_cases hi : r < len
      · rw [hg r hi]
        obtain ⟨_, c2, c3, c4, c5, _⟩ := hr r (by omega)
        exact .take c5 (by rw [hlen r (by omega)]; unfold maxLen at c3; omega)
      · rw [List.getD_eq_getElem?_getD, List.getElem?_eq_none (by rw [hx]; omega)]
        simp [I64s, I64]

def fieldIs (P : Program) (fs : Array Field) (i off n : Nat) (chk : Program → TypeId → Bool) : Bool :=
  match fs[i]? with
  | some f => (f.offset == off) && (P.cellsOf f.type == n) && chk P f.type
  | none => false
def structIs (P : Program) (t : TypeId) (n m : Nat) (chk : Array Field → Bool) : Bool :=
  match P.underlying t with
  | some (.struct fs) => (P.cellsOf t == n) && (fs.size == m) && chk fs
  | _ => false
theorem structIs_run {P : Program} {t : TypeId} {n m : Nat} {chk : Array Field → Bool} (h : structIs P t n m chk = true) : ∃ fs, P.underlying t = some (.struct fs) ∧ P.cellsOf t = n ∧ fs.size = m ∧ chk fs = true := by
  unfold structIs at h
  split at h
  · simp only [Bool.and_eq_true, beq_iff_eq] at h
    exact ⟨_, by assumption, h.1.1, h.1.2, h.2⟩
  · cases h

section
variable {P : Program} {T : Type} {enc : TypeId × Value → T} {B : Nat} {w0 : World} {ρ : Place} {H : GHeap} {w : World} {held : Bool} {n : Nat} {cs : List Value} {fs : Array Field} {xs : List (DataW T × List MemPlace)}
theorem import_field {i off k : Nat} {chk : Program → TypeId → Bool} {R : Place → GHeap → List Value → Prop} (hI : ∀ t, chk P t = true → Imports P t R) (hfd : fieldIs P fs i off k chk = true) (hx : xs.length = fs.size)
    (hf : ∀ (i : Nat) (f : Field), fs[i]? = some f → DataW.trod enc P w 0 (fun _ => true) held n f.type ((cs.drop f.offset).take (P.cellsOf f.type)) = xs[i]?) (hs : Sim P B w0 ρ H w) (hB : w.heap.size ≤ B) :
    ∃ ρ' H', Sim P B w0 ρ' H' w ∧ Ext ρ ρ' ∧ H.Le H' ∧ R ρ' H' ((cs.drop off).take k) := by
  unfold fieldIs at hfd
  split at hfd
  · rename_i f hfi
    simp only [Bool.and_eq_true, beq_iff_eq] at hfd
    obtain ⟨⟨h1, h2⟩, h3⟩ := hfd
    have hi : i < xs.length := by rw [hx]; exact (Array.getElem?_eq_some_iff.1 hfi).1
    have := hf i f hfi
    rw [List.getElem?_eq_getElem hi, h1, h2] at this
    exact hI _ h3 hs hB this
  · cases hfd
end

theorem RInts.mono {ρ ρ' : Place} {H H' : GHeap} {cs : List Value} (h : RInts ρ H cs) (he : Ext ρ ρ') (hl : H.Le H') : RInts ρ' H' cs :=
  let ⟨a, xs, c, h1, h2, h3, h4⟩ := h; ⟨a, xs, c, h1, h2.mono he, h3.mono hl, h4⟩
theorem RIntss.mono {ρ ρ' : Place} {H H' : GHeap} {cs : List Value} (h : RIntss ρ H cs) (he : Ext ρ ρ') (hl : H.Le H') : RIntss ρ' H' cs :=
  let ⟨a, xs, r, c, h1, h2, h3, h4⟩ := h; ⟨a, xs, r, c, h1, h2.mono he, h3.mono hl, h4⟩

def Cat.Wide (c : Cat) : Prop := I64 c.obj ∧ I64s c.src ∧ I64s c.tgt ∧ I64s c.idn ∧ c.comp.length ≤ 9223372036854775807 ∧ ∀ i, I64s (c.comp.getD i [])
def Fun.Wide (f : Fun) : Prop := f.s.Wide ∧ f.t.Wide ∧ I64s f.ob ∧ I64s f.ar
def Tra.Wide (m : Tra) : Prop := m.s.Wide ∧ m.t.Wide ∧ I64s m.co

def catT (P : Program) (t : TypeId) : Bool := structIs P t 5 5 fun fs => fieldIs P fs 0 0 1 i64T && fieldIs P fs 1 1 1 intsT && fieldIs P fs 2 2 1 intsT && fieldIs P fs 3 3 1 intsT && fieldIs P fs 4 4 1 intssT
def RCat (ρ : Place) (H : GHeap) (cs : List Value) : Prop := ∃ (c : Cat) (p : CatP), LRel ρ (c.cells p) cs ∧ c.In H p ∧ c.Wide
def RFun (ρ : Place) (H : GHeap) (cs : List Value) : Prop := ∃ (c : Fun) (p : FunP), LRel ρ (c.cells p) cs ∧ c.In H p ∧ c.Wide
def RTra (ρ : Place) (H : GHeap) (cs : List Value) : Prop := ∃ (c : Tra) (p : TraP), LRel ρ (c.cells p) cs ∧ c.In H p ∧ c.Wide
theorem RCat.mono {ρ ρ' : Place} {H H' : GHeap} {cs : List Value} (h : RCat ρ H cs) (he : Ext ρ ρ') (hl : H.Le H') : RCat ρ' H' cs := let ⟨c, p, h1, h2, h3⟩ := h; ⟨c, p, h1.mono he, h2.mono hl, h3⟩
theorem RFun.mono {ρ ρ' : Place} {H H' : GHeap} {cs : List Value} (h : RFun ρ H cs) (he : Ext ρ ρ') (hl : H.Le H') : RFun ρ' H' cs := let ⟨c, p, h1, h2, h3⟩ := h; ⟨c, p, h1.mono he, h2.mono hl, h3⟩
theorem RTra.mono {ρ ρ' : Place} {H H' : GHeap} {cs : List Value} (h : RTra ρ H cs) (he : Ext ρ ρ') (hl : H.Le H') : RTra ρ' H' cs := let ⟨c, p, h1, h2, h3⟩ := h; ⟨c, p, h1.mono he, h2.mono hl, h3⟩

theorem split5 {cs : List Value} {a b c d e : Value} (h0 : (cs.drop 0).take 1 = [a]) (h1 : (cs.drop 1).take 1 = [b]) (h2 : (cs.drop 2).take 1 = [c]) (h3 : (cs.drop 3).take 1 = [d]) (h4 : (cs.drop 4).take 1 = [e]) (hl : cs.length = 5) : cs = [a, b, c, d, e] := by
  match cs, hl with
  | [v0, v1, v2, v3, v4], _ => simp at h0 h1 h2 h3 h4; subst h0; subst h1; subst h2; subst h3; subst h4; rfl

theorem import_cat {P : Program} {t : TypeId} (ht : catT P t = true) : Imports P t RCat := by
  intro T enc B w0 ρ H w held fuel cs x hs hB h
  obtain ⟨fs, g1, g2, g3, g4⟩ := structIs_run ht
  simp only [Bool.and_eq_true] at g4
  obtain ⟨⟨⟨⟨q0, q1⟩, q2⟩, q3⟩, q4⟩ := g4
  obtain ⟨xs, n, _, _, hl, hx, hf⟩ := DataW.trod_struct g1 h
  obtain ⟨ρ0, H0, s0, e0, l0, nobj, r0, w0'⟩ := import_field (fun _ h => import_int h) q0 hx hf hs hB
  obtain ⟨ρ1, H1, s1, e1, l1, a1, x1, c1, r1, v1, i1, w1⟩ := import_field (fun _ h => import_ints h) q1 hx hf s0 hB
  obtain ⟨ρ2, H2, s2, e2, l2, a2, x2, c2, r2, v2, i2, w2⟩ := import_field (fun _ h => import_ints h) q2 hx hf s1 hB
  obtain ⟨ρ3, H3, s3, e3, l3, a3, x3, c3, r3, v3, i3, w3⟩ := import_field (fun _ h => import_ints h) q3 hx hf s2 hB
  obtain ⟨ρ4, H4, s4, e4, l4, a4, x4, rr, c4, r4, v4, i4, w4, w5⟩ := import_field (fun _ h => import_intss h) q4 hx hf s3 hB
  refine ⟨ρ4, H4, s4, e0.trans (e1.trans (e2.trans (e3.trans e4))), l0.trans (l1.trans (l2.trans (l3.trans l4))), ⟨nobj, x1, x2, x3, x4⟩, ⟨a1, a2, a3, a4, rr⟩, ?_, ⟨i1.mono (l2.trans (l3.trans l4)), i2.mono (l3.trans l4), i3.mono l4, i4⟩, ⟨w0', w1, w2, w3, w4, w5⟩⟩
  rw [split5 r0 r1 r2 r3 r4 (by rw [hl, g2])]
  exact .cons (.int _ _) (.cons (v1.mono (e2.trans (e3.trans e4))) (.cons (v2.mono (e3.trans e4)) (.cons (v3.mono e4) (.cons v4 (.nil _)))))

def readB (P : Program) (ts : List TypeId) : Bool := ts.all fun t => P.readableRec t && decide (t < P.types.size)

section
variable {T : Type} {enc : TypeId × Value → T} {P : Program}
theorem args_again (hl : laidOutB P = true) {W W' : World} (hb : Below W.heap.size W W') {sp : Nat → Bool} : ∀ {ts : List TypeId} {vs : List Value} {ds : List (DataW T)} {ps : List MemPlace}, readB P ts = true →
    DataW.TrodAll enc P W 0 (fun _ => true) true ts vs ds ps → (∀ p ∈ ps, p.block < W.heap.size) → (∀ p ∈ ps, sp p.block = true) → DataW.TrodAll enc P W' 0 sp true ts vs ds ps
  | [], _, _, _, _, h, _, _ => by
    obtain ⟨rfl, rfl, rfl⟩ := trodAll_nil h
    exact trodAll_mk0
  | t :: ts, _, _, _, hr, h, hlt, hsp => by
    obtain ⟨v, vs, d, ds, p, q, rfl, rfl, rfl, h1, h2⟩ := trodAll_cons h
    simp only [readB, List.all_cons, Bool.and_eq_true, decide_eq_true_eq] at hr
    exact ⟨p, q, WideElems.Trod_stays hl hr.1.1 hr.1.2 h1 (fun x hx => hb.same (hlt x (by simp [hx]))) (fun x hx => hsp x (by simp [hx])),
      args_again hl hb (by simpa only [readB, Bool.and_eq_true] using hr.2) h2 (fun x hx => hlt x (by simp [hx])) (fun x hx => hsp x (by simp [hx])), rfl⟩

theorem law_post {f : Func} {s : ChangeSpec} {apart fresh handsOn again : Bool} {W W' : World} {args : Array Value} {ds gs : List (DataW T)} {before : List MemPlace} {tb : TypeId}
    (hl : laidOutB P = true) (hr : readB P f.params.toList = true) (hv : s.vars = []) (hrt : f.resultTypes = #[tb]) (htb : P.underlying tb = some .bool)
    (hW : DataW.Whole enc P f.params.toList s.vars apart W args.toList ds gs before)
    (hsr : (s.fn T ds).results = [.lit (.bool true)]) (hsa : (s.fn T ds).args = ds) (hsv : (s.fn T ds).vars = []) (hb : Below W.heap.size W W') :
    s.post enc P f apart fresh handsOn again W args (.bool true) W' := by
  have hlt := hW.lt
  have hWW := hW
  obtain ⟨p, q, hA, hV, hpq, hfz, hnd⟩ := hW
  rw [hv] at hV
  obtain ⟨rfl, rfl⟩ := trodVars_none hV
  rw [List.append_nil] at hpq
  obtain rfl := hpq.symm
  have hres : ∀ (b : Nat) (sp : Nat → Bool) (hd : Bool), DataW.TrodAll enc P W' b sp hd f.resultTypes.toList ((Value.bool true).resultList f.resultTypes.size) (s.fn T (ds ++ [])).results [] := fun b sp hd => by
    rw [List.append_nil, hsr, hrt]
    exact trodAll_mk1 (shut_bool htb true)
  have hargs : ∀ sp : Nat → Bool, (∀ x ∈ p, sp x.block = true) → DataW.TrodAll enc P W' 0 sp true f.params.toList args.toList (s.fn T (ds ++ [])).args p := fun sp hsp => by
    rw [List.append_nil, hsa]
    exact args_again hl hb hr hA hlt hsp
  have hvars : ∀ sp : Nat → Bool, DataW.TrodVars enc P W' sp s.vars (s.fn T (ds ++ [])).vars [] := fun sp => by
    rw [List.append_nil, hsv, hv]
    rfl
  have hok : ∀ (j : Nat) (t : TypeId) (r : Value), f.resultTypes[j]? = some t → ((Value.bool true).resultList f.resultTypes.size)[j]? = some r → Value.okWide P W' .any 0 t r := ok_one hrt rfl (okWide_bool_mk htb true)
  refine ⟨ds, [], p, [], p, [], hWW, hres _ _ _, hargs _ fun x hx => by simpa using hlt x hx, hvars _, hb.frame _, fun _ => ⟨hok, _, _, ([] ++ p) ++ [], ⟨[] ++ p, [], trodAll_append (hargs (fun _ => true) fun _ _ => rfl) (hres _ _ _), hvars (fun _ => true), rfl, ?_, ?_⟩, ?_⟩⟩
  · intro b off hp
    have hin : MemPlace.cell b off ∈ p := by simpa using hp
    rw [hb.frozen (hlt _ hin)]
    exact hfz b off hin
  · intro ha
    simpa using hnd ha
  · intro x hx _
    simpa using hx
end

def SzR (left : Int) (p : Prop) (H : GHeap) : Value → GHeap → Prop := fun v H' => H' = H ∧ ∃ l, v = .int .i64 l ∧ -1 ≤ l ∧ l ≤ left ∧ (0 ≤ l → p)
theorem SzR.of {P : Program} {f : FuncId} {args : List Value} {H : GHeap} {left : Int} {p : Prop} (h : GCalls P f args H fun v H' => H.Le H' ∧ ∃ l, v = .int .i64 l ∧ -1 ≤ l ∧ l ≤ left ∧ (0 ≤ l → p)) : GCalls P f args H (SzR left p H) :=
  (GCalls.quiet (φ := fun v => ∃ l, v = .int .i64 l ∧ -1 ≤ l ∧ l ≤ left ∧ (0 ≤ l → p)) (h.mono fun _ _ ⟨h1, l, h2, h3⟩ => ⟨⟨l, h2, h3⟩, by rw [h2]; rfl, h1⟩)).mono fun _ _ ⟨h1, h2⟩ => ⟨h2, h1⟩

theorem eq_of_getD {xs ys : List Int} (hl : ys.length = xs.length) (h : ∀ i, i < xs.length → ys.getD i 0 = xs.getD i 0) : ys = xs := by
  apply List.ext_getElem hl
  intro i h1 h2
  have := h i h2
  simpa [List.getD_eq_getElem?_getD, h1, h2] using this
theorem ints_set (ys : List Int) (i : Nat) (v : Int) : (ints ys).set i (.int .i64 v) = ints (ys.set i v) := by simp [ints, List.map_set]
theorem getD_set {ys : List Int} {k i : Nat} {v : Int} (hk : k < ys.length) : (ys.set k v).getD i 0 = if i = k then v else ys.getD i 0 := by
  simp only [List.getD_eq_getElem?_getD, List.getElem?_set]
  by_cases e : k = i
  · subst e; simp [hk]
  · simp [e, Ne.symm e]
theorem SlA.of_ints {H : GHeap} {g : Nat} {ys : List Int} {e : TypeId} {own : Bool} {n : Nat} (h : H.get g = some (.row (ints ys) e own)) (hn : ys.length = n) : SlA H (some ⟨g, 0, none⟩) n (fun i => .int .i64 (ys.getD i 0)) := by
  subst hn; exact Ints.of_get h

theorem SlA.of_row {H : GHeap} {g n : Nat} {cs : List Value} {e : TypeId} {own : Bool} (h : H.get g = some (.row cs e own)) (hn : cs.length = n) : SlA H (some ⟨g, 0, none⟩) n (fun i => cs.getD i (.bool false)) := by
  subst hn
  exact .inr ⟨g, 0, rfl, fun i hi => by rw [GHeap.cell_of h, Nat.zero_add]; simp [List.getD_eq_getElem?_getD, hi]⟩

def Keep (b : Nat) (H H' : GHeap) : Prop := ∀ g o, b ≤ g → H.get g = some o → H'.get g = some o
theorem Keep.of_le {b : Nat} {H H' : GHeap} (h : H.Le H') : Keep b H H' := fun g o _ => h.2 g o
theorem Keep.set {b g : Nat} {H : GHeap} {o : Option GObj} (h : g < b) : Keep b H (H.set g o) := fun k x hk hx => by
  rw [GHeap.get_set_ne (by omega)]; exact hx
def IntsAt (b : Nat) (H : GHeap) (a : Option Addr) (xs : List Int) : Prop := ∃ g e, a = some ⟨g, 0, none⟩ ∧ b ≤ g ∧ H.get g = some (.row (ints xs) e true)
def IntssAt (b : Nat) (H : GHeap) (a : Option Addr) (xss : List (List Int)) (r : Nat → Option Addr) : Prop :=
  ∃ g e cs, a = some ⟨g, 0, none⟩ ∧ b ≤ g ∧ H.get g = some (.row cs e true) ∧ cs.length = xss.length ∧ (∀ i, i < xss.length → cs[i]? = some (.slice (r i) (xss.getD i []).length (xss.getD i []).length)) ∧ ∀ i, i < xss.length → IntsAt b H (r i) (xss.getD i [])
theorem IntsAt.keep {b b' : Nat} {H H' : GHeap} {a : Option Addr} {xs : List Int} (h : IntsAt b H a xs) (hk : Keep b' H H') (hb : b' ≤ b) : IntsAt b' H' a xs :=
  let ⟨g, e, h1, h2, h3⟩ := h; ⟨g, e, h1, by omega, hk g _ (by omega) h3⟩
theorem IntssAt.keep {b b' : Nat} {H H' : GHeap} {a : Option Addr} {xss : List (List Int)} {r : Nat → Option Addr} (h : IntssAt b H a xss r) (hk : Keep b' H H') (hb : b' ≤ b) : IntssAt b' H' a xss r :=
  let ⟨g, e, cs, h1, h2, h3, h4, h5, h6⟩ := h; ⟨g, e, cs, h1, by omega, hk g _ (by omega) h3, h4, h5, fun i hi => (h6 i hi).keep hk hb⟩
theorem IntsAt.ints {b : Nat} {H : GHeap} {a : Option Addr} {xs : List Int} (h : IntsAt b H a xs) : Ints H a xs := by
  obtain ⟨g, e, rfl, _, h3⟩ := h
  exact Ints.of_get h3
theorem IntssAt.intss {b : Nat} {H : GHeap} {a : Option Addr} {xss : List (List Int)} {r : Nat → Option Addr} (h : IntssAt b H a xss r) : Intss H a xss r := by
  obtain ⟨g, e, cs, rfl, _, h3, h4, h5, h6⟩ := h
  exact ⟨.inr ⟨g, 0, rfl, fun i hi => by rw [GHeap.cell_of h3, Nat.zero_add]; exact h5 i hi⟩, fun i hi => (h6 i hi).ints⟩
def NewIntss (H : GHeap) (xss : List (List Int)) (v : Value) (H' : GHeap) : Prop := H.Le H' ∧ ∃ a r, v = .slice a xss.length xss.length ∧ IntssAt H.next H' a xss r
def CatAt (b : Nat) (H : GHeap) (c : Cat) (p : CatP) : Prop := IntsAt b H p.a1 c.src ∧ IntsAt b H p.a2 c.tgt ∧ IntsAt b H p.a3 c.idn ∧ IntssAt b H p.a4 c.comp p.r
theorem CatAt.keep {b b' : Nat} {H H' : GHeap} {c : Cat} {p : CatP} (h : CatAt b H c p) (hk : Keep b' H H') (hb : b' ≤ b) : CatAt b' H' c p := ⟨h.1.keep hk hb, h.2.1.keep hk hb, h.2.2.1.keep hk hb, h.2.2.2.keep hk hb⟩
theorem CatAt.inn {b : Nat} {H : GHeap} {c : Cat} {p : CatP} (h : CatAt b H c p) : c.In H p := ⟨h.1.ints, h.2.1.ints, h.2.2.1.ints, h.2.2.2.intss⟩
def NewCat (H : GHeap) (c : Cat) (v : Value) (H' : GHeap) : Prop := H.Le H' ∧ ∃ p, v = .agg (c.cells p).toArray ∧ CatAt H.next H' c p
def FunAt (b : Nat) (H : GHeap) (f : Fun) (p : FunP) : Prop := CatAt b H f.s p.s ∧ CatAt b H f.t p.t ∧ IntsAt b H p.b1 f.ob ∧ IntsAt b H p.b2 f.ar
theorem FunAt.keep {b b' : Nat} {H H' : GHeap} {c : Fun} {p : FunP} (h : FunAt b H c p) (hk : Keep b' H H') (hb : b' ≤ b) : FunAt b' H' c p := ⟨h.1.keep hk hb, h.2.1.keep hk hb, h.2.2.1.keep hk hb, h.2.2.2.keep hk hb⟩
theorem FunAt.inn {b : Nat} {H : GHeap} {c : Fun} {p : FunP} (h : FunAt b H c p) : c.In H p := ⟨h.1.inn, h.2.1.inn, h.2.2.1.ints, h.2.2.2.ints⟩
def TraAt (b : Nat) (H : GHeap) (m : Tra) (p : TraP) : Prop := FunAt b H m.s p.s ∧ FunAt b H m.t p.t ∧ IntsAt b H p.d m.co
theorem TraAt.keep {b b' : Nat} {H H' : GHeap} {c : Tra} {p : TraP} (h : TraAt b H c p) (hk : Keep b' H H') (hb : b' ≤ b) : TraAt b' H' c p := ⟨h.1.keep hk hb, h.2.1.keep hk hb, h.2.2.keep hk hb⟩
theorem TraAt.inn {b : Nat} {H : GHeap} {c : Tra} {p : TraP} (h : TraAt b H c p) : c.In H p := ⟨h.1.inn, h.2.1.inn, h.2.2.ints⟩
structure Bld (H0 : GHeap) (b g2 g3 : Nat) (t : TypeId) (z cs : List Value) (H : GHeap) : Prop where
  le : H0.Le H
  a2 : H0.next ≤ g2
  l2 : g2 < b
  a3 : H0.next ≤ g3
  l3 : g3 < b
  ne : g2 ≠ g3
  res : H.get g2 = some (.row z t true)
  own : H.get g3 = some (.row cs t true)
  bn : b ≤ H.next
theorem Bld.start (H0 : GHeap) (t : TypeId) (z : List Value) : Bld H0 ((H0.push (.row z t true)).next + 1) H0.next (H0.push (.row z t true)).next t z z ((H0.push (.row z t true)).push (.row z t true)) where
  le := (GHeap.le_push _ _).trans (GHeap.le_push _ _)
  a2 := Nat.le_refl _
  l2 := by simp; omega
  a3 := by simp
  l3 := by omega
  ne := by simp
  res := (GHeap.le_push _ _).2 _ _ (GHeap.get_push_new _ _)
  own := GHeap.get_push_new _ _
  bn := by simp
theorem Bld.call {H0 H H' : GHeap} {b g2 g3 : Nat} {t : TypeId} {z cs : List Value} (B : Bld H0 b g2 g3 t z cs H) (h : H.Le H') : Bld H0 b g2 g3 t z cs H' :=
  ⟨B.le.trans h, B.a2, B.l2, B.a3, B.l3, B.ne, h.2 _ _ B.res, h.2 _ _ B.own, Nat.le_trans B.bn h.1⟩
theorem Bld.store {H0 H : GHeap} {b g2 g3 : Nat} {t : TypeId} {z cs : List Value} (B : Bld H0 b g2 g3 t z cs H) (cs' : List Value) : Bld H0 b g2 g3 t z cs' (H.set g3 (some (.row cs' t true))) ∧ Keep b H (H.set g3 (some (.row cs' t true))) :=
  ⟨⟨B.le.set_new B.a3, B.a2, B.l2, B.a3, B.l3, B.ne, by rw [GHeap.get_set_ne (Ne.symm B.ne)]; exact B.res, GHeap.get_set_eq (GHeap.ltg B.own), by rw [GHeap.next_set]; exact B.bn⟩, .set B.l3⟩
theorem Bld.done {H0 H : GHeap} {b g2 g3 : Nat} {t : TypeId} {z cs : List Value} (B : Bld H0 b g2 g3 t z cs H) (o : Option GObj) : H0.Le (H.set g2 o) ∧ Keep b H (H.set g2 o) := ⟨B.le.set_new B.a2, .set B.l2⟩
theorem NewInts.at {H H' : GHeap} {e : TypeId} {xs : List Int} {g : Nat} (h : H'.get g = some (.row (ints xs) e true)) (hg : H.next ≤ g) : IntsAt H.next H' (some ⟨g, 0, none⟩) xs := ⟨g, e, rfl, hg, h⟩

theorem setAll_gen (vs : List Value) : ∀ (pre a rest : List Value), a.length = vs.length → setAll (pre ++ (a ++ rest)) pre.length vs = pre ++ (vs ++ rest) := by
  induction vs with
  | nil => intro pre a rest h; obtain rfl := List.length_eq_zero_iff.1 (by simpa using h); rfl
  | cons v vs ih =>
    intro pre a rest h
    match a, h with
    | x :: a, h =>
      have e : (pre ++ (x :: a ++ rest)).set pre.length v = (pre ++ [v]) ++ (a ++ rest) := by simp [List.set_append]
      have := ih (pre ++ [v]) a rest (by simpa using h)
      rw [List.length_append] at this
      unfold setAll
      rw [e]
      simpa using this
theorem setAll_all (a vs : List Value) (h : a.length = vs.length) : setAll a 0 vs = vs := by
  have := setAll_gen vs [] a [] h
  simpa using this

end Go.GL
namespace Go.Proofs.Ytagkeabmdodfiaa
open Go Go.GL Go.RowKit Go.Proofs
theorem sz_25_E : (Try.prog.info? 25).map (·.size) = some 5 := by kernel_rfl
theorem fo_25_1_E : fieldOff Try.prog 25 1 = some 1 := by kernel_rfl
theorem fo_25_2_E : fieldOff Try.prog 25 2 = some 2 := by kernel_rfl
theorem fo_25_3_E : fieldOff Try.prog 25 3 = some 3 := by kernel_rfl
theorem fo_25_4_E : fieldOff Try.prog 25 4 = some 4 := by kernel_rfl
theorem sz_2_E : (Try.prog.info? 2).map (·.size) = some 1 := by kernel_rfl
theorem ze_2_E : zeroT Try.prog 2 = some ([.int .i64 0], 1) := by kernel_rfl
theorem by_2_E : (Try.prog.info? 2).map (·.bytes) = some 8 := by kernel_rfl
theorem sz_22_E : (Try.prog.info? 22).map (·.size) = some 1 := by kernel_rfl
theorem ze_22_E : zeroT Try.prog 22 = some ([.slice none 0 0], 1) := by kernel_rfl
theorem by_22_E : (Try.prog.info? 22).map (·.bytes) = some 24 := by kernel_rfl
theorem sz_23_E : (Try.prog.info? 23).map (·.size) = some 1 := by kernel_rfl
theorem ze_31_E : zeroT Try.prog 31 = some ([.int .i64 0, .slice none 0 0, .slice none 0 0, .slice none 0 0, .slice none 0 0], 5) := by kernel_rfl
theorem fo_25_0_E : fieldOff Try.prog 25 0 = some 0 := by kernel_rfl
theorem szInt64S_c {a : Option Addr} {xs : List Int} {left : Int} {H : GHeap} (hx : xs.length ≤ 9223372036854775807 := by omega) (h0 : 0 ≤ left := by omega) (h1 : left ≤ 1048576 := by omega) :
    GCalls Try.prog 37 [.slice a xs.length xs.length, .int .i64 left] H (SzR left (xs.length ≤ left) H) := by
  refine GCalls.body (N := 12) (rs := [.tmp 4]) Try.func37 rfl rfl rfl rfl (fun Qx hret hend => ?_)
  refine .forget (fr' := [(0, some _), (1, some _)]) ⟨rfl, rfl, trivial⟩ ?_
  refine .seq (fun K1 hK1 => .region (.mv rfl (.nil (hK1 _ _ (.seq (fun K2 hK2 => .region (.mv rfl (.mv rfl (.m rfl rfl rfl (.len sl_22_A rfl) ?_)))))))))
  refine .m rfl rfl rfl (.sub rfl rfl rfl (by omega) (by omega)) ?_
  refine .mv rfl (.nil (hK2 _ _ (.seq (fun K3 hK3 => .seq (fun K4 hK4 => .region (.mv rfl (.m rfl rfl rfl (.cmp rfl rfl rfl) (.nil (hK4 _ _ ?_)))))))))
  refine .cond rfl (fun h10 => ?_) (fun h10 => ?_)
  ·
   try simp only [sps] at h10
   refine .seq (fun K5 hK5 => .region (.mv rfl (.nil (hK5 _ _ ?_))))
   refine .ret ?_
   refine hret _ _ ?_
   refine ⟨_, rfl, ?_⟩
   exact ⟨rfl, _, rfl, by omega, by omega, fun h => by omega⟩
  try simp only [sps] at h10
  refine .skip ?_
  refine hK3 _ _ (.seq (fun K6 hK6 => .region (.mv rfl (.mv rfl (.nil (hK6 _ _ ?_))))))
  refine .ret ?_
  refine hret _ _ ?_
  refine ⟨_, rfl, ?_⟩
  exact ⟨rfl, _, rfl, by omega, by omega, fun h => by omega⟩
theorem szInt64SS_c {a : Option Addr} {xss : List (List Int)} {r : Nat → Option Addr} {left : Int} {H : GHeap} (h : Intss H a xss r := by assumption) (hx : xss.length ≤ 9223372036854775807 := by omega) (hy : ∀ i, I64s (xss.getD i []) := by assumption) (h0 : 0 ≤ left := by omega) (h1 : left ≤ 1048576 := by omega) :
    GCalls Try.prog 45 [.slice a xss.length xss.length, .int .i64 left] H (SzR left (xss.length ≤ left ∧ ∀ i, ((xss.getD i []).length : Int) ≤ left) H) := by
  refine GCalls.body (N := 27) (rs := [.tmp 4]) Try.func45 rfl rfl rfl rfl (fun Qx hret hend => ?_)
  refine .forget (fr' := [(0, some _), (1, some _)]) ⟨rfl, rfl, trivial⟩ ?_
  have hh := h
  obtain ⟨i1, i2⟩ := hh
  refine .seq (fun K1 hK1 => .region (.mv rfl (.nil (hK1 _ _ (.seq (fun K2 hK2 => .region (.mv rfl (.mv rfl (.m rfl rfl rfl (.len sl_23_B rfl) ?_)))))))))
  refine .m rfl rfl rfl (.sub rfl rfl rfl (by omega) (by omega)) ?_
  refine .mv rfl (.nil (hK2 _ _ (.seq (fun K3 hK3 => .seq (fun K4 hK4 => .region (.mv rfl (.m rfl rfl rfl (.cmp rfl rfl rfl) (.nil (hK4 _ _ ?_)))))))))
  refine .cond rfl (fun h11 => ?_) (fun h11 => ?_)
  ·
   try simp only [sps] at h11
   refine .seq (fun K5 hK5 => .region (.mv rfl (.nil (hK5 _ _ ?_))))
   refine .ret ?_
   refine hret _ _ ?_
   refine ⟨_, rfl, ?_⟩
   exact ⟨rfl, _, rfl, by omega, by omega, fun h => by omega⟩
  try simp only [sps] at h11
  refine .skip ?_
  refine hK3 _ _ (.seq (fun K6 hK6 => .seq (fun K7 hK7 => .region (.mv rfl (.nil (hK7 _ _ ?_))))))
  refine .block ?_
  refine .loopR (σ := Nat × Int) [(0, some _)] (fun (k, lf) => [(5, some (.int .i64 (k : Int))), (1, some (.int .i64 lf))]) (fun (k, lf) H' => H = H' ∧ k ≤ xss.length ∧ 0 ≤ lf ∧ lf ≤ left - xss.length ∧ ∀ i, i < k → ((xss.getD i []).length : Int) ≤ left) (fun (k, lf) => xss.length - k) ((0, left - xss.length)) ⟨rfl, trivial⟩ ⟨rfl, rfl, trivial⟩ ?_ ?_
  ·
   refine ⟨rfl, ?_⟩
   exact ⟨by omega, by omega, by omega, fun i hi => by omega⟩
  rintro ⟨k, lf⟩ _ ⟨rfl, hI⟩ KL1 hKL1
  refine .forget (fr' := [(5, some (.int .i64 (k : Int))), (1, some (.int .i64 lf)), (0, some _)]) ⟨rfl, rfl, rfl, trivial⟩ ?_
  obtain ⟨hk, hl0, hl1, hall⟩ := hI
  refine .seq (fun K8 hK8 => .seq (fun K9 hK9 => .region (.mv rfl (.mv rfl (.m rfl rfl rfl (.len sl_23_B rfl) (.m rfl rfl rfl (.cmp rfl rfl rfl) (.nil (hK9 _ _ ?_))))))))
  refine .cond rfl (fun h15 => ?_) (fun h15 => ?_)
  ·
   try simp only [sps] at h15
   refine .skip ?_
   refine hK8 _ _ (.seq (fun K10 hK10 => ?_))
   refine .block ?_
   refine .seq (fun K11 hK11 => .region (.mv rfl (.mv rfl ?_)))
   refine .m rfl rfl rfl (.idxN sl_23_B (Intss.sl (by assumption)) rfl rfl (by omega)) ?_
   refine .m rfl rfl rfl (.loadR on_22_B (by assumption) rfl (by omega)) ?_
   refine .mv rfl ?_
   have hyk := (hy k).1
   refine .call rfl rfl rfl rfl @Try.call37 rfl (szInt64S_c) ?_
   rintro _ _ ⟨rfl, lf, rfl, z1, z2, z3⟩
   refine .mv rfl (.nil (hK11 _ _ (.seq (fun K12 hK12 => .region (.mv rfl (.m rfl rfl rfl (.cmp rfl rfl rfl) (.nil (hK12 _ _ ?_))))))))
   refine .cond rfl (fun h25 => ?_) (fun h25 => ?_)
   ·
    try simp only [sps] at h25
    refine .seq (fun K13 hK13 => .region (.mv rfl (.nil (hK13 _ _ ?_))))
    refine .ret ?_
    refine hret _ _ ?_
    refine ⟨_, rfl, ?_⟩
    exact ⟨rfl, _, rfl, by omega, by omega, fun h => by omega⟩
   try simp only [sps] at h25
   refine .skip ?_
   refine hK10 _ _ (.region (.mv rfl ?_))
   refine .m rfl rfl rfl (.add rfl rfl rfl (by omega) (by omega)) ?_
   refine .mv rfl (.nil ?_)
   refine hKL1 ((k + 1, _)) _ _ ?_ ?_ ⟨rfl, rfl, rfl, trivial⟩
   ·
    refine ⟨rfl, ?_⟩
    refine ⟨by omega, by omega, by omega, fun i hi => ?_⟩
    by_cases e : i < k
    · exact hall i e
    · obtain rfl : i = k := by omega
      omega
   show xss.length - (k + 1) < xss.length - k; omega
  try simp only [sps] at h15
  refine .exit ?_
  refine hK6 _ _ (.seq (fun K14 hK14 => .region (.mv rfl (.mv rfl (.nil (hK14 _ _ ?_))))))
  refine .ret ?_
  refine hret _ _ ?_
  refine ⟨_, rfl, ?_⟩
  exact ⟨rfl, _, rfl, by omega, by omega, fun _ => ⟨by omega, fun i => by
    by_cases e : i < xss.length
    · exact hall i (by omega)
    · rw [List.getD_eq_getElem?_getD, List.getElem?_eq_none (by omega)]; simp; omega⟩⟩
theorem szCategory_c {c : Cat} {p : CatP} {left : Int} {H : GHeap} (hin : c.In H p := by assumption) (hw : c.Wide := by assumption) (h0 : 0 ≤ left := by omega) (h1 : left ≤ 1048576 := by omega) :
    GCalls Try.prog 36 [.agg (c.cells p).toArray, .int .i64 left] H (SzR left c.Small H) := by
  refine SzR.of ?_
  obtain ⟨⟨w1a, w1b⟩, ⟨w2, _⟩, ⟨w3, _⟩, ⟨w4, _⟩, w5, w6⟩ := hw
  refine GCalls.body (N := 30) (rs := [.tmp 4]) Try.func36 rfl rfl rfl rfl (fun Qx hret hend => ?_)
  refine .forget (fr' := [(0, some _), (1, some _)]) ⟨rfl, rfl, trivial⟩ ?_
  refine .seq (fun K1 hK1 => .region (.d rfl rfl rfl (.box rfl sz_25_E rfl CIs.mk) ?_))
  show GRun _ _ _ _ _ _ (H.push (.row (c.cells p) 25 true))
  have hle := GHeap.le_push H (.row (c.cells p) 25 true)
  have hb : Cat.At (H.push (.row (c.cells p) 25 true)) H.next 0 c p := ⟨Mem.new _ _ _ _, hin.mono hle⟩
  generalize H.push (.row (c.cells p) 25 true) = H1 at *
  generalize H.next = g at *
  obtain ⟨c0, c1, c2, c3, c4, i1, i2, i3, i4⟩ := hb.get
  have hm : MemN _ _ _ _ _ := ⟨rfl, hb.1⟩
  refine .mv rfl (.nil (hK1 _ _ (.seq (fun K2 hK2 => .region (.m rfl rfl rfl (.fieldAddr fo_25_1_E rfl) ?_)))))
  refine .m rfl rfl rfl (.load on_22_B rfl (by assumption)) ?_
  refine .mv rfl ?_
  refine .call rfl rfl rfl rfl @Try.call37 rfl (szInt64S_c) ?_
  rintro _ _ ⟨rfl, lf, rfl, z1, z2, z3⟩
  refine .mv rfl (.nil (hK2 _ _ (.seq (fun K3 hK3 => .seq (fun K4 hK4 => .region (.mv rfl (.m rfl rfl rfl (.cmp rfl rfl rfl) (.nil (hK4 _ _ ?_)))))))))
  refine .cond rfl (fun h10 => ?_) (fun h10 => ?_)
  ·
   try simp only [sps] at h10
   refine .seq (fun K5 hK5 => .region (.mv rfl (.nil (hK5 _ _ ?_))))
   refine .ret ?_
   refine hret _ _ ?_
   refine ⟨_, rfl, ?_⟩
   exact ⟨hle, _, rfl, by omega, by omega, fun h => by omega⟩
  try simp only [sps] at h10
  refine .skip ?_
  refine hK3 _ _ (.seq (fun K6 hK6 => .region (.m rfl rfl rfl (.fieldAddr fo_25_2_E rfl) ?_)))
  refine .m rfl rfl rfl (.load on_22_B rfl (by assumption)) ?_
  refine .mv rfl ?_
  refine .call rfl rfl rfl rfl @Try.call37 rfl (szInt64S_c) ?_
  rintro _ _ ⟨rfl, lf, rfl, z1, z2, z3⟩
  refine .mv rfl (.nil (hK6 _ _ (.seq (fun K7 hK7 => .seq (fun K8 hK8 => .region (.mv rfl (.m rfl rfl rfl (.cmp rfl rfl rfl) (.nil (hK8 _ _ ?_)))))))))
  refine .cond rfl (fun h16 => ?_) (fun h16 => ?_)
  ·
   try simp only [sps] at h16
   refine .seq (fun K9 hK9 => .region (.mv rfl (.nil (hK9 _ _ ?_))))
   refine .ret ?_
   refine hret _ _ ?_
   refine ⟨_, rfl, ?_⟩
   exact ⟨hle, _, rfl, by omega, by omega, fun h => by omega⟩
  try simp only [sps] at h16
  refine .skip ?_
  refine hK7 _ _ (.seq (fun K10 hK10 => .region (.m rfl rfl rfl (.fieldAddr fo_25_3_E rfl) ?_)))
  refine .m rfl rfl rfl (.load on_22_B rfl (by assumption)) ?_
  refine .mv rfl ?_
  refine .call rfl rfl rfl rfl @Try.call37 rfl (szInt64S_c) ?_
  rintro _ _ ⟨rfl, lf, rfl, z1, z2, z3⟩
  refine .mv rfl (.nil (hK10 _ _ (.seq (fun K11 hK11 => .seq (fun K12 hK12 => .region (.mv rfl (.m rfl rfl rfl (.cmp rfl rfl rfl) (.nil (hK12 _ _ ?_)))))))))
  refine .cond rfl (fun h22 => ?_) (fun h22 => ?_)
  ·
   try simp only [sps] at h22
   refine .seq (fun K13 hK13 => .region (.mv rfl (.nil (hK13 _ _ ?_))))
   refine .ret ?_
   refine hret _ _ ?_
   refine ⟨_, rfl, ?_⟩
   exact ⟨hle, _, rfl, by omega, by omega, fun h => by omega⟩
  try simp only [sps] at h22
  refine .skip ?_
  refine hK11 _ _ (.seq (fun K14 hK14 => .region (.m rfl rfl rfl (.fieldAddr fo_25_4_E rfl) ?_)))
  refine .m rfl rfl rfl (.load on_23_B rfl (by assumption)) ?_
  refine .mv rfl ?_
  refine .call rfl rfl rfl rfl @Try.call45 rfl (szInt64SS_c) ?_
  rintro _ _ ⟨rfl, lf, rfl, z1, z2, z3⟩
  refine .mv rfl (.nil (hK14 _ _ (.seq (fun K15 hK15 => .seq (fun K16 hK16 => .region (.mv rfl (.m rfl rfl rfl (.cmp rfl rfl rfl) (.nil (hK16 _ _ ?_)))))))))
  refine .cond rfl (fun h28 => ?_) (fun h28 => ?_)
  ·
   try simp only [sps] at h28
   refine .seq (fun K17 hK17 => .region (.mv rfl (.nil (hK17 _ _ ?_))))
   refine .ret ?_
   refine hret _ _ ?_
   refine ⟨_, rfl, ?_⟩
   exact ⟨hle, _, rfl, by omega, by omega, fun h => by omega⟩
  try simp only [sps] at h28
  refine .skip ?_
  refine hK15 _ _ (.seq (fun K18 hK18 => .region (.mv rfl (.mv rfl (.nil (hK18 _ _ ?_))))))
  refine .ret ?_
  refine hret _ _ ?_
  refine ⟨_, rfl, ?_⟩
  exact ⟨hle, _, rfl, by omega, by omega, fun h => ⟨by omega, by omega, by omega, by omega, fun i => by have := (z3 (by omega)).2 i; omega, ⟨w1a, w1b⟩⟩⟩
theorem toInt64S_c {a : Option Addr} {xs : List Int} {H : GHeap} (h : Ints H a xs := by assumption) (hx : xs.length ≤ 1048576 := by omega) :
    GCalls Try.prog 40 [.slice a xs.length xs.length] H (NewInts 2 H xs) := by
  refine GCalls.body (N := 22) (rs := [.tmp 2]) Try.func40 rfl rfl rfl rfl (fun Qx hret hend => ?_)
  refine .forget (fr' := [(0, some _)]) ⟨rfl, trivial⟩ ?_
  refine .seq (fun K1 hK1 => .region (.mv rfl (.nil (hK1 _ _ (.seq (fun K2 hK2 => .region (.mv rfl (.m rfl rfl rfl (.len sl_22_A rfl) ?_))))))))
  refine .d rfl rfl rfl (.makeSlice rfl sl_22_A ze_2_E by_2_E rfl rfl (by omega) rfl rfl (by omega) (by omega) (by omega) CIs.mk) ?_
  show GRun _ _ _ _ _ _ (H.push (.row (madeL [.int .i64 0] (xs.length * 1)) 2 true))
  rw [madeL_one, Nat.mul_one]
  have hrep : List.replicate xs.length (Value.int .i64 0) = ints (List.replicate xs.length 0) := by simp [ints]
  rw [hrep]
  have hle := GHeap.le_push H (.row (ints (List.replicate xs.length 0)) 2 true)
  have hn := GHeap.get_push_new H (.row (ints (List.replicate xs.length 0)) 2 true)
  generalize H.push (.row (ints (List.replicate xs.length 0)) 2 true) = H1 at *
  obtain ⟨g0, hg0⟩ : ∃ g0, g0 = H.next := ⟨_, rfl⟩
  rw [← hg0] at hn ⊢
  have hnx : H.next ≤ g0 := by omega
  clear hg0
  refine .mv rfl (.nil (hK2 _ _ (.seq (fun K3 hK3 => .seq (fun K4 hK4 => .region (.mv rfl (.nil (hK4 _ _ ?_))))))))
  refine .block ?_
  refine .loopR (σ := Nat) [(0, some _), (3, some _)] (fun k => [(4, some (.int .i64 (k : Int)))]) (fun k H' => k ≤ xs.length ∧ H.Le H' ∧ H.next ≤ g0 ∧ ∃ ys : List Int, ys.length = xs.length ∧ (∀ i, i < k → ys.getD i 0 = xs.getD i 0) ∧ H'.get g0 = some (.row (ints ys) 2 true)) (fun k => xs.length - k) (0) ⟨rfl, rfl, trivial⟩ ⟨rfl, trivial⟩ ?_ ?_
  ·
   exact ⟨by omega, hle, hnx, _, by simp, fun i hi => by omega, hn⟩
  rintro k H' hI KL1 hKL1
  refine .forget (fr' := [(4, some (.int .i64 (k : Int))), (0, some _), (3, some _)]) ⟨rfl, rfl, rfl, trivial⟩ ?_
  obtain ⟨hk, hle', hg0, ys, hys, hall, hget⟩ := hI
  have hsl := SlA.of_ints hget hys
  have hxs := h.mono hle'
  refine .seq (fun K5 hK5 => .seq (fun K6 hK6 => .region (.mv rfl (.mv rfl (.m rfl rfl rfl (.len sl_22_A rfl) (.m rfl rfl rfl (.cmp rfl rfl rfl) (.nil (hK6 _ _ ?_))))))))
  refine .cond rfl (fun h11 => ?_) (fun h11 => ?_)
  ·
   try simp only [sps] at h11
   refine .skip ?_
   refine hK5 _ _ (.seq (fun K7 hK7 => ?_))
   refine .block ?_
   refine .region (.mv rfl (.mv rfl (.mv rfl (.mv rfl ?_))))
   refine .m rfl rfl rfl (.idxN sl_22_A (by assumption) rfl rfl (by omega)) ?_
   refine .m rfl rfl rfl (.loadI on_2_A (by assumption) rfl (by omega)) ?_
   refine .m rfl rfl rfl (.idxN sl_22_A (by assumption) rfl rfl (by omega)) ?_
   refine .d0 rfl rfl (.store rfl sz_2_E rfl rfl rfl hget (by simp; omega) CIs.mk) ?_
   refine .nil (hK7 _ _ (.region (.mv rfl ?_)))
   refine .m rfl rfl rfl (.add rfl rfl rfl (by omega) (by omega)) ?_
   refine .mv rfl (.nil ?_)
   refine hKL1 (k + 1) _ _ ?_ ?_ ⟨rfl, rfl, rfl, trivial⟩
   ·
    rw [Nat.zero_add, ints_set]
    refine ⟨by omega, hle'.set_new hg0, hg0, _, by simpa using hys, fun i hi => ?_, GHeap.get_set_eq (GHeap.ltg hget)⟩
    rw [getD_set (by omega)]
    split
    · rename_i e; rw [e]
    · exact hall i (by omega)
   omega
  try simp only [sps] at h11
  refine .exit ?_
  refine hK3 _ _ (.seq (fun K8 hK8 => .region (.mv rfl (.mv rfl (.nil (hK8 _ _ ?_))))))
  refine .ret ?_
  refine hret _ _ ?_
  refine ⟨_, rfl, ?_⟩
  obtain rfl : ys = xs := eq_of_getD hys fun i hi => hall i (by omega)
  exact ⟨hle', _, rfl, hget, hg0⟩
theorem toInt64SS_c {a : Option Addr} {xss : List (List Int)} {r : Nat → Option Addr} {H : GHeap} (h : Intss H a xss r := by assumption) (hx : xss.length ≤ 1048576 := by omega) (hy : ∀ i, (xss.getD i []).length ≤ 1048576 := by assumption) :
    GCalls Try.prog 48 [.slice a xss.length xss.length] H (NewIntss H xss) := by
  refine GCalls.body (N := 23) (rs := [.tmp 2]) Try.func48 rfl rfl rfl rfl (fun Qx hret hend => ?_)
  refine .forget (fr' := [(0, some _)]) ⟨rfl, trivial⟩ ?_
  refine .seq (fun K1 hK1 => .region (.mv rfl (.nil (hK1 _ _ (.seq (fun K2 hK2 => .region (.mv rfl (.m rfl rfl rfl (.len sl_23_B rfl) ?_))))))))
  refine .d rfl rfl rfl (.makeSlice rfl sl_23_B ze_22_E by_22_E rfl rfl (by omega) rfl rfl (by omega) (by omega) (by omega) CIs.mk) ?_
  show GRun _ _ _ _ _ _ (H.push (.row (madeL [.slice none 0 0] (xss.length * 1)) 22 true))
  have hlen := length_madeL [Value.slice none 0 0] (xss.length * 1)
  rw [Nat.mul_one] at hlen ⊢
  have hle := GHeap.le_push H (.row (madeL [.slice none 0 0] xss.length) 22 true)
  have hn := GHeap.get_push_new H (.row (madeL [.slice none 0 0] xss.length) 22 true)
  generalize H.push (.row (madeL [.slice none 0 0] xss.length) 22 true) = H1 at *
  obtain ⟨g0, hg0⟩ : ∃ g0, g0 = H.next := ⟨_, rfl⟩
  rw [← hg0] at hn ⊢
  have hnx : H.next ≤ g0 := by omega
  clear hg0
  refine .mv rfl (.nil (hK2 _ _ (.seq (fun K3 hK3 => .seq (fun K4 hK4 => .region (.mv rfl (.nil (hK4 _ _ ?_))))))))
  refine .block ?_
  refine .loopR (σ := Nat) [(0, some _), (3, some _)] (fun k => [(4, some (.int .i64 (k : Int)))]) (fun k H' => k ≤ xss.length ∧ H.Le H' ∧ H.next ≤ g0 ∧ ∃ (cs : List Value) (q : Nat → Option Addr), H'.get g0 = some (.row cs 22 true) ∧ cs.length = xss.length ∧ (∀ i, i < k → cs[i]? = some (.slice (q i) (xss.getD i []).length (xss.getD i []).length)) ∧ ∀ i, i < k → IntsAt (g0 + 1) H' (q i) (xss.getD i [])) (fun k => xss.length - k) (0) ⟨rfl, rfl, trivial⟩ ⟨rfl, trivial⟩ ?_ ?_
  ·
   exact ⟨by omega, hle, hnx, _, fun _ => none, hn, hlen, fun i hi => by omega, fun i hi => by omega⟩
  rintro k H' hI KL1 hKL1
  refine .forget (fr' := [(4, some (.int .i64 (k : Int))), (0, some _), (3, some _)]) ⟨rfl, rfl, rfl, trivial⟩ ?_
  obtain ⟨hk, hle', hg0, cs, q, hget, hcs, hall, hats⟩ := hI
  have hlt := GHeap.ltg hget
  have hss := h.mono hle'
  have i2 := hss.2
  refine .seq (fun K5 hK5 => .seq (fun K6 hK6 => .region (.mv rfl (.mv rfl (.m rfl rfl rfl (.len sl_23_B rfl) (.m rfl rfl rfl (.cmp rfl rfl rfl) (.nil (hK6 _ _ ?_))))))))
  refine .cond rfl (fun h11 => ?_) (fun h11 => ?_)
  ·
   try simp only [sps] at h11
   refine .skip ?_
   refine hK5 _ _ (.seq (fun K7 hK7 => ?_))
   refine .block ?_
   refine .region (.mv rfl (.mv rfl (.mv rfl (.mv rfl ?_))))
   refine .m rfl rfl rfl (.idxN sl_23_B (Intss.sl (by assumption)) rfl rfl (by omega)) ?_
   refine .m rfl rfl rfl (.loadR on_22_B (by assumption) rfl (by omega)) ?_
   have i2k := i2 k (by omega)
   have hyk := hy k
   refine .call rfl rfl rfl rfl @Try.call40 rfl (toInt64S_c) ?_
   rintro _ H2 ⟨hl2, g2, rfl, hget2, hg2⟩
   have hget' := hl2.2 _ _ hget
   have hsl := SlA.of_row hget' hcs
   refine .m rfl rfl rfl (.idxN sl_23_B hsl rfl rfl (by omega)) ?_
   refine .d0 rfl rfl (.store rfl sz_22_E rfl rfl rfl hget' (by simp; omega) CIs.mk) ?_
   refine .nil (hK7 _ _ (.region (.mv rfl ?_)))
   refine .m rfl rfl rfl (.add rfl rfl rfl (by omega) (by omega)) ?_
   refine .mv rfl (.nil ?_)
   refine hKL1 (k + 1) _ _ ?_ ?_ ⟨rfl, rfl, rfl, trivial⟩
   ·
    rw [Nat.zero_add]
    refine ⟨by omega, (hle'.trans hl2).set_new hg0, hg0, _, fun i => if i = k then some ⟨g2, 0, none⟩ else q i, GHeap.get_set_eq (GHeap.ltg hget'), by simpa using hcs, fun i hi => ?_, fun i hi => ?_⟩
    · by_cases e : i = k
      · subst e; simp [List.getElem?_set, hcs]; omega
      · simp only [e, if_false]
        rw [List.getElem?_set_ne (Ne.symm e)]
        exact hall i (by omega)
    · by_cases e : i = k
      · subst e
        simp only [if_true]
        exact ⟨g2, _, rfl, by omega, by rw [GHeap.get_set_ne (by omega)]; exact hget2⟩
      · simp only [e, if_false]
        exact (hats i (by omega)).keep (fun g o hg ho => by rw [GHeap.get_set_ne (by omega)]; exact hl2.2 _ _ ho) (Nat.le_refl _)
   omega
  try simp only [sps] at h11
  refine .exit ?_
  refine hK3 _ _ (.seq (fun K8 hK8 => .region (.mv rfl (.mv rfl (.nil (hK8 _ _ ?_))))))
  refine .ret ?_
  refine hret _ _ ?_
  refine ⟨_, rfl, ?_⟩
  exact ⟨hle', _, q, rfl, g0, _, cs, rfl, hg0, hget, hcs, fun i hi => hall i (by omega), fun i hi => (hats i (by omega)).keep (.of_le (.refl _)) (by omega)⟩
theorem toCategory_c {c : Cat} {p : CatP} {H : GHeap} (hin : c.In H p := by assumption) (hs : c.Small := by assumption) : GCalls Try.prog 39 [.agg (c.cells p).toArray] H (NewCat H c) := by
  obtain ⟨w1, w2, w3, w4, w5, w6⟩ := hs
  refine GCalls.body (N := 24) (rs := [.cell 2 31]) Try.func39 rfl rfl rfl rfl (fun Qx hret hend => ?_)
  refine .forget (fr' := [(0, some _)]) ⟨rfl, trivial⟩ ?_
  refine .seq (fun K1 hK1 => .region (.d rfl rfl rfl (.box rfl sz_25_E rfl CIs.mk) ?_))
  show GRun _ _ _ _ _ _ (H.push (.row (c.cells p) 25 true))
  have hle := GHeap.le_push H (.row (c.cells p) 25 true)
  have hb : Cat.At (H.push (.row (c.cells p) 25 true)) H.next 0 c p := ⟨Mem.new _ _ _ _, hin.mono hle⟩
  generalize H.push (.row (c.cells p) 25 true) = H1 at *
  refine .d rfl rfl rfl (.alloc rfl ze_31_E rfl CIs.mk) (.nil (hK1 _ _ (.seq (fun K2 hK2 => .region (.d rfl rfl rfl (.alloc rfl ze_31_E rfl CIs.mk) ?_)))))
  show GRun _ _ _ _ _ _ ((H1.push (.row [(.int .i64 0 : Value), (.slice none 0 0 : Value), (.slice none 0 0 : Value), (.slice none 0 0 : Value), (.slice none 0 0 : Value)] 31 true)).push (.row [(.int .i64 0 : Value), (.slice none 0 0 : Value), (.slice none 0 0 : Value), (.slice none 0 0 : Value), (.slice none 0 0 : Value)] 31 true))
  have B := Bld.start H1 31 [(.int .i64 0 : Value), (.slice none 0 0 : Value), (.slice none 0 0 : Value), (.slice none 0 0 : Value), (.slice none 0 0 : Value)]
  generalize (H1.push (.row [(.int .i64 0 : Value), (.slice none 0 0 : Value), (.slice none 0 0 : Value), (.slice none 0 0 : Value), (.slice none 0 0 : Value)] 31 true)).next = g3 at *
  generalize (H1.push (.row [(.int .i64 0 : Value), (.slice none 0 0 : Value), (.slice none 0 0 : Value), (.slice none 0 0 : Value), (.slice none 0 0 : Value)] 31 true)).push (.row [(.int .i64 0 : Value), (.slice none 0 0 : Value), (.slice none 0 0 : Value), (.slice none 0 0 : Value), (.slice none 0 0 : Value)] 31 true) = H3 at *
  generalize g3 + 1 = b at *
  obtain ⟨c0, c1, c2, c3, c4, i1, i2, i3, i4⟩ := (hb.mono B.le).get
  refine .nil (hK2 _ _ (.seq (fun K3 hK3 => .region (.m rfl rfl rfl (.fieldAddr fo_25_0_E rfl) ?_))))
  refine .m rfl rfl rfl (.load on_2_A rfl (by assumption)) ?_
  refine .m rfl rfl rfl (.fieldAddr fo_31_0_B rfl) (.d0 rfl rfl (.store rfl sz_2_E rfl rfl rfl B.own (Nat.le_of_ble_eq_true rfl) CIs.mk) ?_)
  show GRun _ _ _ _ _ _ (H3.set g3 (some (.row ([.int .i64 c.obj] ++ ([(.slice none 0 0 : Value)] ++ ([(.slice none 0 0 : Value)] ++ ([(.slice none 0 0 : Value)] ++ ([(.slice none 0 0 : Value)]))))) 31 true)))
  have ⟨B, hk⟩ := B.store ([.int .i64 c.obj] ++ ([(.slice none 0 0 : Value)] ++ ([(.slice none 0 0 : Value)] ++ ([(.slice none 0 0 : Value)] ++ ([(.slice none 0 0 : Value)])))))
  generalize H3.set g3 (some (.row ([.int .i64 c.obj] ++ ([(.slice none 0 0 : Value)] ++ ([(.slice none 0 0 : Value)] ++ ([(.slice none 0 0 : Value)] ++ ([(.slice none 0 0 : Value)]))))) 31 true)) = H10 at *
  obtain ⟨c0, c1, c2, c3, c4, i1, i2, i3, i4⟩ := (hb.mono B.le).get
  refine .nil (hK3 _ _ (.seq (fun K4 hK4 => .region (.m rfl rfl rfl (.fieldAddr fo_25_1_E rfl) ?_))))
  refine .m rfl rfl rfl (.load on_22_B rfl (by assumption)) ?_
  have hB0 := B.bn
  refine .call rfl rfl rfl rfl @Try.call40 rfl (toInt64S_c) ?_
  rintro _ H2 ⟨hl2, g2, rfl, hget2, hg2⟩
  have B := B.call hl2
  obtain ⟨pq1, hga⟩ : ∃ x, x = g2 := ⟨_, rfl⟩
  rw [← hga] at hget2 hg2 ⊢
  clear hga
  have v1 : IntsAt b H2 (some ⟨pq1, 0, none⟩) c.src := ⟨_, _, rfl, by have := hB0; omega, hget2⟩
  refine .m rfl rfl rfl (.fieldAddr fo_31_1_B rfl) (.d0 rfl rfl (.store rfl sz_22_E rfl rfl rfl B.own (Nat.le_of_ble_eq_true rfl) CIs.mk) ?_)
  show GRun _ _ _ _ _ _ (H2.set g3 (some (.row ([.int .i64 c.obj] ++ ([.slice (some ⟨pq1, 0, none⟩) c.src.length c.src.length] ++ ([(.slice none 0 0 : Value)] ++ ([(.slice none 0 0 : Value)] ++ ([(.slice none 0 0 : Value)]))))) 31 true)))
  have ⟨B, hk⟩ := B.store ([.int .i64 c.obj] ++ ([.slice (some ⟨pq1, 0, none⟩) c.src.length c.src.length] ++ ([(.slice none 0 0 : Value)] ++ ([(.slice none 0 0 : Value)] ++ ([(.slice none 0 0 : Value)])))))
  replace v1 := v1.keep hk (Nat.le_refl _)
  generalize H2.set g3 (some (.row ([.int .i64 c.obj] ++ ([.slice (some ⟨pq1, 0, none⟩) c.src.length c.src.length] ++ ([(.slice none 0 0 : Value)] ++ ([(.slice none 0 0 : Value)] ++ ([(.slice none 0 0 : Value)]))))) 31 true)) = H11 at *
  obtain ⟨c0, c1, c2, c3, c4, i1, i2, i3, i4⟩ := (hb.mono B.le).get
  refine .nil (hK4 _ _ (.seq (fun K5 hK5 => .region (.m rfl rfl rfl (.fieldAddr fo_25_2_E rfl) ?_))))
  refine .m rfl rfl rfl (.load on_22_B rfl (by assumption)) ?_
  have hB0 := B.bn
  refine .call rfl rfl rfl rfl @Try.call40 rfl (toInt64S_c) ?_
  rintro _ H2 ⟨hl2, g2, rfl, hget2, hg2⟩
  have B := B.call hl2
  obtain ⟨pq2, hga⟩ : ∃ x, x = g2 := ⟨_, rfl⟩
  rw [← hga] at hget2 hg2 ⊢
  clear hga
  have v2 : IntsAt b H2 (some ⟨pq2, 0, none⟩) c.tgt := ⟨_, _, rfl, by have := hB0; omega, hget2⟩
  replace v1 := v1.keep (.of_le hl2) (Nat.le_refl _)
  refine .m rfl rfl rfl (.fieldAddr fo_31_2_B rfl) (.d0 rfl rfl (.store rfl sz_22_E rfl rfl rfl B.own (Nat.le_of_ble_eq_true rfl) CIs.mk) ?_)
  show GRun _ _ _ _ _ _ (H2.set g3 (some (.row ([.int .i64 c.obj] ++ ([.slice (some ⟨pq1, 0, none⟩) c.src.length c.src.length] ++ ([.slice (some ⟨pq2, 0, none⟩) c.tgt.length c.tgt.length] ++ ([(.slice none 0 0 : Value)] ++ ([(.slice none 0 0 : Value)]))))) 31 true)))
  have ⟨B, hk⟩ := B.store ([.int .i64 c.obj] ++ ([.slice (some ⟨pq1, 0, none⟩) c.src.length c.src.length] ++ ([.slice (some ⟨pq2, 0, none⟩) c.tgt.length c.tgt.length] ++ ([(.slice none 0 0 : Value)] ++ ([(.slice none 0 0 : Value)])))))
  replace v1 := v1.keep hk (Nat.le_refl _)
  replace v2 := v2.keep hk (Nat.le_refl _)
  generalize H2.set g3 (some (.row ([.int .i64 c.obj] ++ ([.slice (some ⟨pq1, 0, none⟩) c.src.length c.src.length] ++ ([.slice (some ⟨pq2, 0, none⟩) c.tgt.length c.tgt.length] ++ ([(.slice none 0 0 : Value)] ++ ([(.slice none 0 0 : Value)]))))) 31 true)) = H12 at *
  obtain ⟨c0, c1, c2, c3, c4, i1, i2, i3, i4⟩ := (hb.mono B.le).get
  refine .nil (hK5 _ _ (.seq (fun K6 hK6 => .region (.m rfl rfl rfl (.fieldAddr fo_25_3_E rfl) ?_))))
  refine .m rfl rfl rfl (.load on_22_B rfl (by assumption)) ?_
  have hB0 := B.bn
  refine .call rfl rfl rfl rfl @Try.call40 rfl (toInt64S_c) ?_
  rintro _ H2 ⟨hl2, g2, rfl, hget2, hg2⟩
  have B := B.call hl2
  obtain ⟨pq3, hga⟩ : ∃ x, x = g2 := ⟨_, rfl⟩
  rw [← hga] at hget2 hg2 ⊢
  clear hga
  have v3 : IntsAt b H2 (some ⟨pq3, 0, none⟩) c.idn := ⟨_, _, rfl, by have := hB0; omega, hget2⟩
  replace v1 := v1.keep (.of_le hl2) (Nat.le_refl _)
  replace v2 := v2.keep (.of_le hl2) (Nat.le_refl _)
  refine .m rfl rfl rfl (.fieldAddr fo_31_3_B rfl) (.d0 rfl rfl (.store rfl sz_22_E rfl rfl rfl B.own (Nat.le_of_ble_eq_true rfl) CIs.mk) ?_)
  show GRun _ _ _ _ _ _ (H2.set g3 (some (.row ([.int .i64 c.obj] ++ ([.slice (some ⟨pq1, 0, none⟩) c.src.length c.src.length] ++ ([.slice (some ⟨pq2, 0, none⟩) c.tgt.length c.tgt.length] ++ ([.slice (some ⟨pq3, 0, none⟩) c.idn.length c.idn.length] ++ ([(.slice none 0 0 : Value)]))))) 31 true)))
  have ⟨B, hk⟩ := B.store ([.int .i64 c.obj] ++ ([.slice (some ⟨pq1, 0, none⟩) c.src.length c.src.length] ++ ([.slice (some ⟨pq2, 0, none⟩) c.tgt.length c.tgt.length] ++ ([.slice (some ⟨pq3, 0, none⟩) c.idn.length c.idn.length] ++ ([(.slice none 0 0 : Value)])))))
  replace v1 := v1.keep hk (Nat.le_refl _)
  replace v2 := v2.keep hk (Nat.le_refl _)
  replace v3 := v3.keep hk (Nat.le_refl _)
  generalize H2.set g3 (some (.row ([.int .i64 c.obj] ++ ([.slice (some ⟨pq1, 0, none⟩) c.src.length c.src.length] ++ ([.slice (some ⟨pq2, 0, none⟩) c.tgt.length c.tgt.length] ++ ([.slice (some ⟨pq3, 0, none⟩) c.idn.length c.idn.length] ++ ([(.slice none 0 0 : Value)]))))) 31 true)) = H13 at *
  obtain ⟨c0, c1, c2, c3, c4, i1, i2, i3, i4⟩ := (hb.mono B.le).get
  refine .nil (hK6 _ _ (.seq (fun K7 hK7 => .region (.m rfl rfl rfl (.fieldAddr fo_25_4_E rfl) ?_))))
  refine .m rfl rfl rfl (.load on_23_B rfl (by assumption)) ?_
  have hB0 := B.bn
  refine .call rfl rfl rfl rfl @Try.call48 rfl (toInt64SS_c) ?_
  rintro _ H2 ⟨hl2, a2, r2, rfl, hat2⟩
  have B := B.call hl2
  obtain ⟨pq4, hga⟩ : ∃ x, x = a2 := ⟨_, rfl⟩
  rw [← hga] at hat2 ⊢
  clear hga
  obtain ⟨rq4, hga⟩ : ∃ x, x = r2 := ⟨_, rfl⟩
  rw [← hga] at hat2
  clear hga
  have v4 := hat2.keep (.of_le (.refl _)) hB0
  replace v1 := v1.keep (.of_le hl2) (Nat.le_refl _)
  replace v2 := v2.keep (.of_le hl2) (Nat.le_refl _)
  replace v3 := v3.keep (.of_le hl2) (Nat.le_refl _)
  refine .m rfl rfl rfl (.fieldAddr fo_31_4_B rfl) (.d0 rfl rfl (.store rfl sz_23_E rfl rfl rfl B.own (Nat.le_of_ble_eq_true rfl) CIs.mk) ?_)
  show GRun _ _ _ _ _ _ (H2.set g3 (some (.row ([.int .i64 c.obj] ++ ([.slice (some ⟨pq1, 0, none⟩) c.src.length c.src.length] ++ ([.slice (some ⟨pq2, 0, none⟩) c.tgt.length c.tgt.length] ++ ([.slice (some ⟨pq3, 0, none⟩) c.idn.length c.idn.length] ++ ([.slice pq4 c.comp.length c.comp.length]))))) 31 true)))
  have ⟨B, hk⟩ := B.store ([.int .i64 c.obj] ++ ([.slice (some ⟨pq1, 0, none⟩) c.src.length c.src.length] ++ ([.slice (some ⟨pq2, 0, none⟩) c.tgt.length c.tgt.length] ++ ([.slice (some ⟨pq3, 0, none⟩) c.idn.length c.idn.length] ++ ([.slice pq4 c.comp.length c.comp.length])))))
  replace v1 := v1.keep hk (Nat.le_refl _)
  replace v2 := v2.keep hk (Nat.le_refl _)
  replace v3 := v3.keep hk (Nat.le_refl _)
  replace v4 := v4.keep hk (Nat.le_refl _)
  generalize H2.set g3 (some (.row ([.int .i64 c.obj] ++ ([.slice (some ⟨pq1, 0, none⟩) c.src.length c.src.length] ++ ([.slice (some ⟨pq2, 0, none⟩) c.tgt.length c.tgt.length] ++ ([.slice (some ⟨pq3, 0, none⟩) c.idn.length c.idn.length] ++ ([.slice pq4 c.comp.length c.comp.length]))))) 31 true)) = H14 at *
  refine .nil (hK7 _ _ (.seq (fun K8 hK8 => .region ?_)))
  refine .m rfl rfl rfl (.loadM ag_31_D rfl ⟨rfl, Mem.of_get B.own⟩) ?_
  refine .d0 rfl rfl (.storeN rfl sz_31_D rfl rfl rfl rfl B.res (Nat.le_of_ble_eq_true rfl) CIs.mk) ?_
  rw [setAll_all _ _ (by rfl)]
  refine .nil (hK8 _ _ ?_)
  refine .ret ?_
  refine hret _ _ ?_
  refine ⟨_, _, _, _, rfl, ag_31_D, (by rfl), (Mem.of_get (GHeap.get_set_eq (GHeap.ltg B.res))), ?_⟩
  exact ⟨hle.trans (B.done _).1, ⟨some ⟨pq1, 0, none⟩, some ⟨pq2, 0, none⟩, some ⟨pq3, 0, none⟩, pq4, rq4⟩, rfl, (CatAt.keep (b := b) (b' := b) ⟨v1, v2, v3, v4⟩ (B.done _).2 (Nat.le_refl _)).keep (.of_le (.refl _)) (by have := B.l2; have := hle.1; omega)⟩
theorem eqInt64S_c {a b : Option Addr} {xs : List Int} {H : GHeap} (h : Ints H a xs := by assumption) (h' : Ints H b xs := by assumption) (hx : xs.length ≤ 1048576 := by omega) :
    GCalls Try.prog 42 [.slice a xs.length xs.length, .slice b xs.length xs.length] H (Ret (.bool true) H) := by
  refine GCalls.body (N := 26) (rs := [.tmp 4]) Try.func42 rfl rfl rfl rfl (fun Qx hret hend => ?_)
  refine .forget (fr' := [(0, some _), (1, some _)]) ⟨rfl, rfl, trivial⟩ ?_
  refine .seq (fun K1 hK1 => .region (.mv rfl (.nil (hK1 _ _ (.seq (fun K2 hK2 => .seq (fun K3 hK3 => .region (.mv rfl (.m rfl rfl rfl (.len sl_22_A rfl) (.mv rfl (.m rfl rfl rfl (.len sl_22_A rfl) (.m rfl rfl rfl (.cmp rfl rfl rfl) (.nil (hK3 _ _ ?_))))))))))))))
  refine .cond rfl (fun h10 => ?_) (fun h10 => ?_)
  ·
   try simp only [sps] at h10
   refine .seq (fun K4 hK4 => .region (.mv rfl (.nil (hK4 _ _ ?_))))
   refine .ret ?_
   refine hret _ _ ?_
   refine ⟨_, rfl, ?_⟩
   (exfalso; simp_all)
  try simp only [sps] at h10
  refine .skip ?_
  refine hK2 _ _ (.seq (fun K5 hK5 => .seq (fun K6 hK6 => .region (.mv rfl (.nil (hK6 _ _ ?_))))))
  refine .block ?_
  refine .loopR (σ := Nat) [(0, some _), (1, some _)] (fun k => [(5, some (.int .i64 (k : Int)))]) (fun k H' => H = H' ∧ k ≤ xs.length) (fun k => xs.length - k) (0) ⟨rfl, rfl, trivial⟩ ⟨rfl, trivial⟩ ?_ ?_
  ·
   refine ⟨rfl, ?_⟩
   omega
  rintro k _ ⟨rfl, hI⟩ KL1 hKL1
  refine .forget (fr' := [(5, some (.int .i64 (k : Int))), (0, some _), (1, some _)]) ⟨rfl, rfl, rfl, trivial⟩ ?_
  refine .seq (fun K7 hK7 => .seq (fun K8 hK8 => .region (.mv rfl (.mv rfl (.m rfl rfl rfl (.len sl_22_A rfl) (.m rfl rfl rfl (.cmp rfl rfl rfl) (.nil (hK8 _ _ ?_))))))))
  refine .cond rfl (fun h14 => ?_) (fun h14 => ?_)
  ·
   try simp only [sps] at h14
   refine .skip ?_
   refine hK7 _ _ (.seq (fun K9 hK9 => ?_))
   refine .block ?_
   refine .seq (fun K10 hK10 => ?_)
   refine .regionD mo_B (.q 0 (.q 1 (.q 2 (.q 3 (.q 4 (.q 5 (.q 6 (.q 7 (.q 8 (.done)))))))))) (by kernel_rfl) ?_
   refine .mv rfl rfl (.mv rfl rfl ?_)
   refine .m rfl rfl rfl rfl (.refl _) (.idxN sl_22_A (by assumption) rfl rfl (by omega)) ?_
   refine .m rfl rfl rfl rfl (.refl _) (.loadI on_2_A (by assumption) rfl (by omega)) ?_
   refine .mv rfl rfl (.mv rfl rfl ?_)
   refine .m rfl rfl rfl rfl (.refl _) (.idxN sl_22_A (by assumption) rfl rfl (by omega)) ?_
   refine .m rfl rfl rfl rfl (.refl _) (.loadI on_2_A (by assumption) rfl (by omega)) ?_
   refine .m rfl rfl rfl rfl (.refl _) (.cmp rfl rfl rfl) ?_
   refine .done ?_
   refine hK10 _ _ ?_
   refine .cond rfl (fun h25 => ?_) (fun h25 => ?_)
   ·
    try simp only [sps] at h25
    refine .seq (fun K11 hK11 => .region (.mv rfl (.nil (hK11 _ _ ?_))))
    refine .ret ?_
    refine hret _ _ ?_
    refine ⟨_, rfl, ?_⟩
    (exfalso; simp_all)
   try simp only [sps] at h25
   refine .skip ?_
   refine hK9 _ _ (.region (.mv rfl ?_))
   refine .m rfl rfl rfl (.add rfl rfl rfl (by omega) (by omega)) ?_
   refine .mv rfl (.nil ?_)
   refine hKL1 (k + 1) _ _ ?_ ?_ ⟨rfl, rfl, rfl, trivial⟩
   ·
    refine ⟨rfl, ?_⟩
    omega
   omega
  try simp only [sps] at h14
  refine .exit ?_
  refine hK5 _ _ (.seq (fun K12 hK12 => .region (.mv rfl (.nil (hK12 _ _ ?_)))))
  refine .ret ?_
  refine hret _ _ ?_
  refine ⟨_, rfl, ?_⟩
  exact .of rfl
theorem eqInt64SS_c {a b : Option Addr} {xss : List (List Int)} {r r' : Nat → Option Addr} {H : GHeap} (h : Intss H a xss r := by assumption) (h' : Intss H b xss r' := by assumption) (hx : xss.length ≤ 1048576 := by omega) (hy : ∀ i, (xss.getD i []).length ≤ 1048576 := by assumption) :
    GCalls Try.prog 12 [.slice a xss.length xss.length, .slice b xss.length xss.length] H (Ret (.bool true) H) := by
  refine GCalls.body (N := 27) (rs := [.tmp 4]) Try.func12 rfl rfl rfl rfl (fun Qx hret hend => ?_)
  refine .forget (fr' := [(0, some _), (1, some _)]) ⟨rfl, rfl, trivial⟩ ?_
  refine .seq (fun K1 hK1 => .region (.mv rfl (.nil (hK1 _ _ (.seq (fun K2 hK2 => .seq (fun K3 hK3 => .region (.mv rfl (.m rfl rfl rfl (.len sl_23_B rfl) (.mv rfl (.m rfl rfl rfl (.len sl_23_B rfl) (.m rfl rfl rfl (.cmp rfl rfl rfl) (.nil (hK3 _ _ ?_))))))))))))))
  refine .cond rfl (fun h10 => ?_) (fun h10 => ?_)
  ·
   try simp only [sps] at h10
   refine .seq (fun K4 hK4 => .region (.mv rfl (.nil (hK4 _ _ ?_))))
   refine .ret ?_
   refine hret _ _ ?_
   refine ⟨_, rfl, ?_⟩
   (exfalso; simp_all)
  try simp only [sps] at h10
  refine .skip ?_
  refine hK2 _ _ (.seq (fun K5 hK5 => .seq (fun K6 hK6 => .region (.mv rfl (.nil (hK6 _ _ ?_))))))
  refine .block ?_
  refine .loopR (σ := Nat) [(0, some _), (1, some _)] (fun k => [(5, some (.int .i64 (k : Int)))]) (fun k H' => H = H' ∧ k ≤ xss.length) (fun k => xss.length - k) (0) ⟨rfl, rfl, trivial⟩ ⟨rfl, trivial⟩ ?_ ?_
  ·
   refine ⟨rfl, ?_⟩
   omega
  rintro k _ ⟨rfl, hI⟩ KL1 hKL1
  refine .forget (fr' := [(5, some (.int .i64 (k : Int))), (0, some _), (1, some _)]) ⟨rfl, rfl, rfl, trivial⟩ ?_
  have hk := hI
  refine .seq (fun K7 hK7 => .seq (fun K8 hK8 => .region (.mv rfl (.mv rfl (.m rfl rfl rfl (.len sl_23_B rfl) (.m rfl rfl rfl (.cmp rfl rfl rfl) (.nil (hK8 _ _ ?_))))))))
  refine .cond rfl (fun h14 => ?_) (fun h14 => ?_)
  ·
   try simp only [sps] at h14
   refine .skip ?_
   refine hK7 _ _ (.seq (fun K9 hK9 => ?_))
   refine .block ?_
   refine .seq (fun K10 hK10 => ?_)
   refine .regionD mo_B (.q 0 (.q 1 (.q 2 (.q 3 (.q 4 (.q 5 (.q 6 (.q 7 (.c 8 0 (.q 9 (.done))))))))))) (by kernel_rfl) ?_
   have hyk := hy k
   have ir := h.2 k (by omega)
   have ir' := h'.2 k (by omega)
   refine .mv rfl rfl (.mv rfl rfl ?_)
   refine .m rfl rfl rfl rfl (.refl _) (.idxN sl_23_B (Intss.sl (by assumption)) rfl rfl (by omega)) ?_
   refine .m rfl rfl rfl rfl (.refl _) (.loadR on_22_B (by assumption) rfl (by omega)) ?_
   refine .mv rfl rfl (.mv rfl rfl ?_)
   refine .m rfl rfl rfl rfl (.refl _) (.idxN sl_23_B (Intss.sl (by assumption)) rfl rfl (by omega)) ?_
   refine .m rfl rfl rfl rfl (.refl _) (.loadR on_22_B (by assumption) rfl (by omega)) ?_
   refine .callQ0 rfl rfl rfl rfl rfl @Try.call42 rfl (eqInt64S_c) ?_
   refine .m rfl rfl rfl rfl (.refl _) (.not rfl) ?_
   refine .done ?_
   refine hK10 _ _ ?_
   refine .cond rfl (fun h26 => ?_) (fun h26 => ?_)
   ·
    try simp only [sps] at h26
    refine .seq (fun K11 hK11 => .region (.mv rfl (.nil (hK11 _ _ ?_))))
    refine .ret ?_
    refine hret _ _ ?_
    refine ⟨_, rfl, ?_⟩
    (exfalso; simp_all)
   try simp only [sps] at h26
   refine .skip ?_
   refine hK9 _ _ (.region (.mv rfl ?_))
   refine .m rfl rfl rfl (.add rfl rfl rfl (by omega) (by omega)) ?_
   refine .mv rfl (.nil ?_)
   refine hKL1 (k + 1) _ _ ?_ ?_ ⟨rfl, rfl, rfl, trivial⟩
   ·
    refine ⟨rfl, ?_⟩
    omega
   omega
  try simp only [sps] at h14
  refine .exit ?_
  refine hK5 _ _ (.seq (fun K12 hK12 => .region (.mv rfl (.nil (hK12 _ _ ?_)))))
  refine .ret ?_
  refine hret _ _ ?_
  refine ⟨_, rfl, ?_⟩
  exact .of rfl
theorem eqCategory_c {c : Cat} {p p' : CatP} {H : GHeap} (hin : c.In H p := by assumption) (hin' : c.In H p' := by assumption) (hs : c.Small := by assumption) : GCalls Try.prog 23 [.agg (c.cells p).toArray, .agg (c.cells p').toArray] H (Ret (.bool true) H) := by
  refine GCalls.ret rfl ?_
  obtain ⟨w1, w2, w3, w4, w5, w6⟩ := hs
  refine GCalls.body (N := 34) (rs := [.tmp 4]) Try.func23 rfl rfl rfl rfl (fun Qx hret hend => ?_)
  refine .forget (fr' := [(0, some _), (1, some _)]) ⟨rfl, rfl, trivial⟩ ?_
  refine .seq (fun K1 hK1 => .region (.d rfl rfl rfl (.box rfl sz_31_D rfl CIs.mk) ?_))
  show GRun _ _ _ _ _ _ (H.push (.row (c.cells p) 31 true))
  have hle := GHeap.le_push H (.row (c.cells p) 31 true)
  have hb : Cat.At (H.push (.row (c.cells p) 31 true)) H.next 0 c p := ⟨Mem.new _ _ _ _, hin.mono hle⟩
  generalize H.push (.row (c.cells p) 31 true) = H1 at *
  refine .d rfl rfl rfl (.box rfl sz_31_D rfl CIs.mk) ?_
  show GRun _ _ _ _ _ _ (H1.push (.row (c.cells p') 31 true))
  have hle1 := GHeap.le_push H1 (.row (c.cells p') 31 true)
  have hb' : Cat.At (H1.push (.row (c.cells p') 31 true)) H1.next 0 c p' := ⟨Mem.new _ _ _ _, (hin'.mono hle).mono hle1⟩
  replace hb := hb.mono hle1
  replace hle := hle.trans hle1
  generalize H1.push (.row (c.cells p') 31 true) = H2 at *
  obtain ⟨c0, c1, c2, c3, c4, i1, i2, i3, i4⟩ := hb.get
  obtain ⟨c0y, c1y, c2y, c3y, c4y, i1y, i2y, i3y, i4y⟩ := hb'.get
  refine .mv rfl (.nil (hK1 _ _ (.seq (fun K2 hK2 => .seq (fun K3 hK3 => .region (.m rfl rfl rfl (.fieldAddr fo_31_0_B rfl) ?_))))))
  refine .m rfl rfl rfl (.load on_2_A rfl (by assumption)) ?_
  refine .m rfl rfl rfl (.fieldAddr fo_31_0_B rfl) ?_
  refine .m rfl rfl rfl (.load on_2_A rfl (by assumption)) ?_
  refine .m rfl rfl rfl (.cmp rfl rfl rfl) (.nil (hK3 _ _ ?_))
  refine .cond rfl (fun h9 => ?_) (fun h9 => ?_)
  ·
   refine .seq (fun K4 hK4 => .region (.mv rfl (.nil (hK4 _ _ ?_))))
   refine .ret ?_
   refine hret _ _ ?_
   refine ⟨_, rfl, ?_⟩
   (exfalso; simp_all)
  refine .skip ?_
  refine hK2 _ _ (.seq (fun K5 hK5 => .seq (fun K6 hK6 => .region (.m rfl rfl rfl (.fieldAddr fo_31_1_B rfl) ?_))))
  refine .m rfl rfl rfl (.load on_22_B rfl (by assumption)) ?_
  refine .m rfl rfl rfl (.fieldAddr fo_31_1_B rfl) ?_
  refine .m rfl rfl rfl (.load on_22_B rfl (by assumption)) ?_
  refine .callQ rfl rfl rfl rfl @Try.call42 rfl (eqInt64S_c) ?_
  refine .m rfl rfl rfl (.not rfl) (.nil (hK6 _ _ ?_))
  refine .cond rfl (fun h15 => ?_) (fun h15 => ?_)
  ·
   refine .seq (fun K7 hK7 => .region (.mv rfl (.nil (hK7 _ _ ?_))))
   refine .ret ?_
   refine hret _ _ ?_
   refine ⟨_, rfl, ?_⟩
   (exfalso; simp_all)
  refine .skip ?_
  refine hK5 _ _ (.seq (fun K8 hK8 => .seq (fun K9 hK9 => .region (.m rfl rfl rfl (.fieldAddr fo_31_2_B rfl) ?_))))
  refine .m rfl rfl rfl (.load on_22_B rfl (by assumption)) ?_
  refine .m rfl rfl rfl (.fieldAddr fo_31_2_B rfl) ?_
  refine .m rfl rfl rfl (.load on_22_B rfl (by assumption)) ?_
  refine .callQ rfl rfl rfl rfl @Try.call42 rfl (eqInt64S_c) ?_
  refine .m rfl rfl rfl (.not rfl) (.nil (hK9 _ _ ?_))
  refine .cond rfl (fun h21 => ?_) (fun h21 => ?_)
  ·
   refine .seq (fun K10 hK10 => .region (.mv rfl (.nil (hK10 _ _ ?_))))
   refine .ret ?_
   refine hret _ _ ?_
   refine ⟨_, rfl, ?_⟩
   (exfalso; simp_all)
  refine .skip ?_
  refine hK8 _ _ (.seq (fun K11 hK11 => .seq (fun K12 hK12 => .region (.m rfl rfl rfl (.fieldAddr fo_31_3_B rfl) ?_))))
  refine .m rfl rfl rfl (.load on_22_B rfl (by assumption)) ?_
  refine .m rfl rfl rfl (.fieldAddr fo_31_3_B rfl) ?_
  refine .m rfl rfl rfl (.load on_22_B rfl (by assumption)) ?_
  refine .callQ rfl rfl rfl rfl @Try.call42 rfl (eqInt64S_c) ?_
  refine .m rfl rfl rfl (.not rfl) (.nil (hK12 _ _ ?_))
  refine .cond rfl (fun h27 => ?_) (fun h27 => ?_)
  ·
   refine .seq (fun K13 hK13 => .region (.mv rfl (.nil (hK13 _ _ ?_))))
   refine .ret ?_
   refine hret _ _ ?_
   refine ⟨_, rfl, ?_⟩
   (exfalso; simp_all)
  refine .skip ?_
  refine hK11 _ _ (.seq (fun K14 hK14 => .seq (fun K15 hK15 => .region (.m rfl rfl rfl (.fieldAddr fo_31_4_B rfl) ?_))))
  refine .m rfl rfl rfl (.load on_23_B rfl (by assumption)) ?_
  refine .m rfl rfl rfl (.fieldAddr fo_31_4_B rfl) ?_
  refine .m rfl rfl rfl (.load on_23_B rfl (by assumption)) ?_
  refine .callQ rfl rfl rfl rfl @Try.call12 rfl (eqInt64SS_c) ?_
  refine .m rfl rfl rfl (.not rfl) (.nil (hK15 _ _ ?_))
  refine .cond rfl (fun h33 => ?_) (fun h33 => ?_)
  ·
   refine .seq (fun K16 hK16 => .region (.mv rfl (.nil (hK16 _ _ ?_))))
   refine .ret ?_
   refine hret _ _ ?_
   refine ⟨_, rfl, ?_⟩
   (exfalso; simp_all)
  refine .skip ?_
  refine hK14 _ _ (.seq (fun K17 hK17 => .region (.mv rfl (.nil (hK17 _ _ ?_)))))
  refine .ret ?_
  refine hret _ _ ?_
  refine ⟨_, rfl, ?_⟩
  exact ⟨rfl, hle⟩
end Go.Proofs.Ytagkeabmdodfiaa
namespace Go.Proofs.Ytagkeabmdodfiaa
open Go Go.GL Go.RowKit Go.Proofs
theorem l01Same_c {a b : Option Addr} {xs ys : List Int} {H : GHeap} (h : Ints H a xs := by assumption) (h' : Ints H b ys := by assumption) (hx : xs.length ≤ 1048576 := by omega) (hy : ys.length ≤ 1048576 := by omega) :
    GCalls Try.prog 99 [.slice a xs.length xs.length, .slice b ys.length ys.length] H (Ret (.bool (decide (xs = ys))) H) := by
  refine GCalls.body (N := 26) (rs := [.tmp 4]) Try.func99 rfl rfl rfl rfl (fun Qx hret hend => ?_)
  refine .forget (fr' := [(0, some _), (1, some _)]) ⟨rfl, rfl, trivial⟩ ?_
  refine .seq (fun K1 hK1 => .region (.mv rfl (.nil (hK1 _ _ (.seq (fun K2 hK2 => .seq (fun K3 hK3 => .region (.mv rfl (.m rfl rfl rfl (.len sl_22_A rfl) (.mv rfl (.m rfl rfl rfl (.len sl_22_A rfl) (.m rfl rfl rfl (.cmp rfl rfl rfl) (.nil (hK3 _ _ ?_))))))))))))))
  refine .cond rfl (fun h10 => ?_) (fun h10 => ?_)
  ·
   try simp only [sps] at h10
   refine .seq (fun K4 hK4 => .region (.mv rfl (.nil (hK4 _ _ ?_))))
   refine .ret ?_
   refine hret _ _ ?_
   refine ⟨_, rfl, ?_⟩
   exact .of (congrArg _ (decide_eq_false fun e => by subst e; first | omega | simp_all))
  try simp only [sps] at h10
  refine .skip ?_
  refine hK2 _ _ (.seq (fun K5 hK5 => .seq (fun K6 hK6 => .region (.mv rfl (.nil (hK6 _ _ ?_))))))
  refine .block ?_
  refine .loopR (σ := Nat) [(0, some _), (1, some _)] (fun k => [(5, some (.int .i64 (k : Int)))]) (fun k H' => H = H' ∧ k ≤ xs.length ∧ ∀ i, i < k → xs.getD i 0 = ys.getD i 0) (fun k => xs.length - k) (0) ⟨rfl, rfl, trivial⟩ ⟨rfl, trivial⟩ ?_ ?_
  ·
   refine ⟨rfl, ?_⟩
   exact ⟨by omega, fun i hi => by omega⟩
  rintro k _ ⟨rfl, hI⟩ KL1 hKL1
  refine .forget (fr' := [(5, some (.int .i64 (k : Int))), (0, some _), (1, some _)]) ⟨rfl, rfl, rfl, trivial⟩ ?_
  obtain ⟨hk, hall⟩ := hI
  refine .seq (fun K7 hK7 => .seq (fun K8 hK8 => .region (.mv rfl (.mv rfl (.m rfl rfl rfl (.len sl_22_A rfl) (.m rfl rfl rfl (.cmp rfl rfl rfl) (.nil (hK8 _ _ ?_))))))))
  refine .cond rfl (fun h14 => ?_) (fun h14 => ?_)
  ·
   try simp only [sps] at h14
   refine .skip ?_
   refine hK7 _ _ (.seq (fun K9 hK9 => ?_))
   refine .block ?_
   refine .seq (fun K10 hK10 => ?_)
   refine .regionD mo_B (.q 0 (.q 1 (.q 2 (.q 3 (.q 4 (.q 5 (.q 6 (.q 7 (.q 8 (.done)))))))))) (by kernel_rfl) ?_
   refine .mv rfl rfl (.mv rfl rfl ?_)
   refine .m rfl rfl rfl rfl (.refl _) (.idxN sl_22_A (by assumption) rfl rfl (by omega)) ?_
   refine .m rfl rfl rfl rfl (.refl _) (.loadI on_2_A (by assumption) rfl (by omega)) ?_
   refine .mv rfl rfl (.mv rfl rfl ?_)
   refine .m rfl rfl rfl rfl (.refl _) (.idxN sl_22_A (by assumption) rfl rfl (by omega)) ?_
   refine .m rfl rfl rfl rfl (.refl _) (.loadI on_2_A (by assumption) rfl (by omega)) ?_
   refine .m rfl rfl rfl rfl (.refl _) (.cmp rfl rfl rfl) ?_
   refine .done ?_
   refine hK10 _ _ ?_
   refine .cond rfl (fun h25 => ?_) (fun h25 => ?_)
   ·
    try simp only [sps] at h25
    refine .seq (fun K11 hK11 => .region (.mv rfl (.nil (hK11 _ _ ?_))))
    refine .ret ?_
    refine hret _ _ ?_
    refine ⟨_, rfl, ?_⟩
    exact .of (congrArg _ (decide_eq_false fun e => by subst e; first | omega | simp_all))
   try simp only [sps] at h25
   refine .skip ?_
   refine hK9 _ _ (.region (.mv rfl ?_))
   refine .m rfl rfl rfl (.add rfl rfl rfl (by omega) (by omega)) ?_
   refine .mv rfl (.nil ?_)
   refine hKL1 (k + 1) _ _ ?_ ?_ ⟨rfl, rfl, rfl, trivial⟩
   ·
    refine ⟨rfl, ?_⟩
    refine ⟨by omega, fun i hi => ?_⟩
    by_cases e : i < k
    · exact hall i e
    · obtain rfl : i = k := by omega
      assumption
   omega
  try simp only [sps] at h14
  refine .exit ?_
  refine hK5 _ _ (.seq (fun K12 hK12 => .region (.mv rfl (.nil (hK12 _ _ ?_)))))
  refine .ret ?_
  refine hret _ _ ?_
  refine ⟨_, rfl, ?_⟩
  exact .of (congrArg _ (decide_eq_true (eq_of_getD (by omega) fun i hi => hall i (by omega))))
end Go.Proofs.Ytagkeabmdodfiaa
namespace Go.GL

abbrev Fun.A (f : Fun) (a : Int) : Int := f.ar.getD a.toNat 0
structure Fun.Fits (f : Fun) : Prop where
  ol : (f.ob.length : Int) = f.s.obj
  al : f.ar.length = f.s.src.length
  ob : ∀ i, i < f.ob.length → 0 ≤ f.ob.getD i 0 ∧ f.ob.getD i 0 < f.t.obj
  ar : ∀ i, i < f.ar.length → 0 ≤ f.ar.getD i 0 ∧ f.ar.getD i 0 < f.t.src.length
  ends : ∀ a, a < f.ar.length → f.t.src.getD (f.ar.getD a 0).toNat 0 = f.ob.getD (f.s.src.getD a 0).toNat 0 ∧ f.t.tgt.getD (f.ar.getD a 0).toNat 0 = f.ob.getD (f.s.tgt.getD a 0).toNat 0
  ids : ∀ x, x < f.s.idn.length → f.ar.getD (f.s.idn.getD x 0).toNat 0 = f.t.idn.getD (f.ob.getD x 0).toNat 0
  th : ∀ a, a < f.s.src.length → ∀ b, b < f.s.src.length → f.s.tgt.getD a 0 = f.s.src.getD b 0 → f.A (f.s.th a b) = f.t.th (f.ar.getD a 0) (f.ar.getD b 0)
def Fun.Is (f : Fun) : Prop := f.s.Is ∧ f.t.Is ∧ f.Fits

def Tra.Sq (m : Tra) (a : Nat) : Prop := m.s.t.th (m.s.ar.getD a 0) (m.co.getD (m.s.s.tgt.getD a 0).toNat 0) = m.s.t.th (m.co.getD (m.s.s.src.getD a 0).toNat 0) (m.t.ar.getD a 0)
structure Tra.Shape (m : Tra) : Prop where
  s : m.s.Is
  t : m.t.Is
  ps : m.s.s = m.t.s
  pt : m.s.t = m.t.t
  cl : (m.co.length : Int) = m.s.s.obj
  co : ∀ i, i < m.co.length → 0 ≤ m.co.getD i 0 ∧ m.co.getD i 0 < m.s.t.src.length
  ends : ∀ x, x < m.co.length → m.s.t.src.getD (m.co.getD x 0).toNat 0 = m.s.ob.getD x 0 ∧ m.s.t.tgt.getD (m.co.getD x 0).toNat 0 = m.t.ob.getD x 0
def Tra.Is (m : Tra) : Prop := m.Shape ∧ ∀ a, a < m.s.ar.length → m.Sq a
noncomputable def Tra.first (m : Tra) : Int := match firstN m.s.ar.length (fun a => !B (m.Sq a)) with | some a => (a : Int) | none => -1
theorem Sub.over {k : Nat} {v : Option Value} : ∀ {rest fr : Slots}, Sub rest fr → rest.all (fun p => p.1 != k) = true → Sub rest ((k, v) :: fr)
  | [], _, _, _ => trivial
  | (t, some u) :: r, fr, h, hk => by
    simp only [List.all_cons, Bool.and_eq_true, bne_iff_ne, ne_eq] at hk
    exact ⟨by rw [get_cons, if_neg (Ne.symm hk.1)]; exact h.1, h.2.over hk.2⟩
  | (t, none) :: r, fr, h, hk => by
    simp only [List.all_cons, Bool.and_eq_true] at hk
    exact Sub.over (rest := r) h hk.2

section
variable {P : Program} {N : Nat} {ops : Array Oper} {Q : Slots → GHeap → Prop} {fr : Slots} {H Hb : GHeap}
theorem GTree.two {a b s u : Nat} {oa ob os ou : Oper} {da db tx ty : Tmp} {e : TypeId} {z : List Value} {n : Nat} {vs ws : Array Value} (rest : Slots)
    (ha : ops[a]? = some oa) (hb : ops[b]? = some ob) (hs : ops[s]? = some os) (hu : ops[u]? = some ou) (hda : oa.dst = some da) (hdb : ob.dst = some db) (hNa : Nat.blt da N = true) (hNb : Nat.blt db N = true)
    (ga : oa.guard = none) (gb : ob.guard = none) (gs : os.guard = none) (gu : ou.guard = none) (hds : os.dst = none) (hdu : ou.dst = none)
    (oa' : oa.op = .alloc e) (ob' : ob.op = .alloc e) (os' : os.op = .store e (.tmp da) (.tmp tx)) (ou' : ou.op = .store e (.tmp db) (.tmp ty))
    (hz : zeroT P e = some (z, n)) (hfl : z.all flat1 = true) (hsz : (P.info? e).map (·.size) = some n) (hzl : z.length = n)
    (hx : fr.get tx = some (.agg vs)) (hy : fr.get ty = some (.agg ws)) (hvn : vs.size = n) (hwn : ws.size = n) (hv1 : vs.toList.all (·.oneCell') = true) (hw1 : ws.toList.all (·.oneCell') = true)
    (hne : (da != db) = true) (hxa : (tx != da) = true) (hxb : (tx != db) = true) (hya : (ty != da) = true) (hyb : (ty != db) = true)
    (hr : Sub rest fr) (hra : rest.all (fun p => p.1 != da) = true) (hrb : rest.all (fun p => p.1 != db) = true)
    (hle0 : Hb.Le H) (h : ∀ g g' H' fr', H.Le H' → H.next ≤ g → H.next ≤ g' → H'.get g = some (.row vs.toList e true) → H'.get g' = some (.row ws.toList e true) →
      Sub ((da, some (.pointer (some ⟨g, 0, none⟩))) :: (db, some (.pointer (some ⟨g', 0, none⟩))) :: rest) fr' → Q fr' H') :
    GTree P N ops Q (.or (.c a 1 (.c b 1 (.c s 1 (.c u 0 .done)))) (.c b 1 (.c a 1 (.c s 1 (.c u 0 .done))))) fr Hb H := by
  simp only [bne_iff_ne, ne_eq] at hne hxa hxb hya hyb
  have n1 := GHeap.next_push H (.row z e true)
  have l1 := GHeap.le_push H (.row z e true)
  have p1 := GHeap.get_push_new H (.row z e true)
  have n2 := GHeap.next_push (H.push (.row z e true)) (.row z e true)
  have l2 := GHeap.le_push (H.push (.row z e true)) (.row z e true)
  have p2 := GHeap.get_push_new (H.push (.row z e true)) (.row z e true)
  have p1' := l2.2 _ _ p1
  have sv : setAll z 0 vs.toList = vs.toList := setAll_all _ _ (by simp [hzl, hvn])
  have sw : setAll z 0 ws.toList = ws.toList := setAll_all _ _ (by simp [hzl, hwn])
  have le := l1.trans l2
  generalize hK : H.push (.row z e true) = H1 at *
  generalize hK2 : H1.push (.row z e true) = H2 at *
  have q1 := GHeap.ltg p1'
  have q2 := GHeap.ltg p2
  unfold GTree
  refine ⟨?_, ?_⟩
  · refine .d1 ha hda hNa ga (.alloc oa' hz hfl CIs.mk) (by rw [hK]; exact hle0.trans l1) ?_
    rw [hK]
    refine .d1 hb hdb hNb gb (.alloc ob' hz hfl CIs.mk) (by rw [hK2]; exact hle0.trans le) ?_
    rw [hK2]
    refine .s1 hs hds gs (.storeN (g := H.next) (off := 0) os' hsz (by show Slots.get _ da = _; rw [get_cons, if_neg (Ne.symm hne), get_cons, if_pos rfl]) (by show Slots.get _ tx = _; rw [get_cons, if_neg (Ne.symm hxb), get_cons, if_neg (Ne.symm hxa)]; exact hx) hvn hv1 p1' (by omega) CIs.mk) ((hle0.trans le).set_new hle0.1) ?_
    rw [sv]
    refine .s0 hu hdu gu (.storeN (g := H1.next) (off := 0) ou' hsz (by show Slots.get _ db = _; rw [get_cons, if_pos rfl]) (by show Slots.get _ ty = _; rw [get_cons, if_neg (Ne.symm hyb), get_cons, if_neg (Ne.symm hya)]; exact hy) hwn hw1 (by rw [GHeap.get_set_ne (by omega)]; exact p2) (by omega) CIs.mk) ?_
    rw [sw]
    refine GTree.done (h _ _ _ _ ((le.set_new (Nat.le_refl _)).set_new (by omega)) (Nat.le_refl _) (by omega) (by rw [GHeap.get_set_ne (by omega)]; exact GHeap.get_set_eq q1) (GHeap.get_set_eq (by simpa using q2)) ⟨?_, ?_, ?_⟩)
    · rw [get_cons, if_neg (Ne.symm hne), get_cons, if_pos rfl]
    · rw [get_cons, if_pos rfl]
    · exact (hr.over hra).over hrb
  · refine .d1 hb hdb hNb gb (.alloc ob' hz hfl CIs.mk) (by rw [hK]; exact hle0.trans l1) ?_
    rw [hK]
    refine .d1 ha hda hNa ga (.alloc oa' hz hfl CIs.mk) (by rw [hK2]; exact hle0.trans le) ?_
    rw [hK2]
    refine .s1 hs hds gs (.storeN (g := H1.next) (off := 0) os' hsz (by show Slots.get _ da = _; rw [get_cons, if_pos rfl]) (by show Slots.get _ tx = _; rw [get_cons, if_neg (Ne.symm hxa), get_cons, if_neg (Ne.symm hxb)]; exact hx) hvn hv1 p2 (by omega) CIs.mk) ((hle0.trans le).set_new (by have := hle0.1; omega)) ?_
    rw [sv]
    refine .s0 hu hdu gu (.storeN (g := H.next) (off := 0) ou' hsz (by show Slots.get _ db = _; rw [get_cons, if_neg hne, get_cons, if_pos rfl]) (by show Slots.get _ ty = _; rw [get_cons, if_neg (Ne.symm hya), get_cons, if_neg (Ne.symm hyb)]; exact hy) hwn hw1 (by rw [GHeap.get_set_ne (by omega)]; exact p1') (by omega) CIs.mk) ?_
    rw [sw]
    refine GTree.done (h H1.next H.next _ _ ((le.set_new (by omega)).set_new (Nat.le_refl _)) (by omega) (Nat.le_refl _) (by rw [GHeap.get_set_ne (by omega)]; exact GHeap.get_set_eq q2) (GHeap.get_set_eq (by simpa using q1)) ⟨?_, ?_, ?_⟩)
    · rw [get_cons, if_pos rfl]
    · rw [get_cons, if_neg hne, get_cons, if_pos rfl]
    · exact (hr.over hrb).over hra
end
end Go.GL
namespace Go.Proofs.Ytagkeabmdodfiaa
open Go Go.GL Go.RowKit Go.Proofs
end Go.Proofs.Ytagkeabmdodfiaa
namespace Go.Proofs.Ytagkeabmdodfiaa
open Go Go.GL Go.RowKit Go.Proofs
end Go.Proofs.Ytagkeabmdodfiaa
namespace Go.Proofs.Ytagkeabmdodfiaa
open Go Go.GL Go.RowKit Go.Proofs
end Go.Proofs.Ytagkeabmdodfiaa
namespace Go.GL
open Go.RowKit

def out : List Nat → Nat → Prop
  | [], _ => True
  | g :: r, k => k ≠ g ∧ out r k
structure St (bs : List Nat) (H H' : GHeap) : Prop where
  nx : H.next ≤ H'.next
  same : ∀ k o, out bs k → H.get k = some o → H'.get k = some o
theorem St.refl (bs : List Nat) (H : GHeap) : St bs H H := ⟨Nat.le_refl _, fun _ _ _ h => h⟩
theorem GHeap.Le.st {H0 H H' : GHeap} {bs : List Nat} (h : H0.Le H) (s : St bs H H') (hg : ∀ k, k < H0.next → out bs k) : H0.Le H' :=
  ⟨Nat.le_trans h.1 s.nx, fun k o hk => s.same k o (hg k (GHeap.ltg hk)) (h.2 k o hk)⟩
theorem St.le {bs : List Nat} {H0 H H' : GHeap} (s : St bs H0 H) (h : H.Le H') : St bs H0 H' := ⟨Nat.le_trans s.nx h.1, fun k o hk hg => h.2 k o (s.same k o hk hg)⟩
theorem St.st {bs cs : List Nat} {H0 H H' : GHeap} (s : St bs H0 H) (h : St cs H H') (hg : ∀ k, k < H0.next → out bs k → out cs k) : St bs H0 H' :=
  ⟨Nat.le_trans s.nx h.nx, fun k o hk h1 => h.same k o (hg k (GHeap.ltg h1) hk) (s.same k o hk h1)⟩
theorem St.of_le {bs : List Nat} {H H' : GHeap} (h : H.Le H') : St bs H H' := ⟨h.1, fun k o _ hg => h.2 k o hg⟩
theorem St.keep {bs : List Nat} {b : Nat} {H H' : GHeap} (s : St bs H H') (hg : ∀ k, b ≤ k → out bs k) : Keep b H H' := fun k o hk h => s.same k o (hg k hk) h
theorem Keep.le {b : Nat} {H0 H H' : GHeap} (k : Keep b H0 H) (h : H.Le H') : Keep b H0 H' := fun g o hb hg => h.2 g o (k g o hb hg)
theorem Keep.st {bs : List Nat} {b : Nat} {H0 H H' : GHeap} (k : Keep b H0 H) (h : St bs H H') (hg : ∀ k, b ≤ k → k < H0.next → out bs k) : Keep b H0 H' := fun g o hb h1 => h.same g o (hg g hb (GHeap.ltg h1)) (k g o hb h1)
theorem St.of_set {g : Nat} {H : GHeap} {o : Option GObj} : St [g] H (H.set g o) := ⟨by rw [GHeap.next_set]; exact Nat.le_refl _, fun k x hk h => by rw [GHeap.get_set_ne (Ne.symm hk.1)]; exact h⟩
theorem St.push {bs : List Nat} {H H' : GHeap} {o : GObj} (s : St bs H H') : St bs H (H'.push o) := ⟨by rw [GHeap.next_push]; have := s.nx; omega, fun k x hk h => GHeap.get_push_of (s.same k x hk h)⟩

section
variable {P : Program} {N : Nat} {ops : Array Oper} {Q : Slots → GHeap → Prop} {L : List (Oper × Nat)} {fr : Slots} {H Hb : GHeap} {o : Oper} {i : Nat} {t : Tree}
theorem CDo.mono {R R' : Option Value → GHeap → Prop} (h : CDo P o fr H R) (hi : ∀ v H', R v H' → R' v H') : CDo P o fr H R' :=
  .mk fun B w0 ρ a w hs hf next Qx hn => h.run B w0 ρ a w hs hf next Qx fun ρ' v c H' w' hR => hn ρ' v c H' w' (hi v H' hR)
theorem GTree.mono {Q' : Slots → GHeap → Prop} (hq : ∀ fr H, Q' fr H → Q fr H) : ∀ {t : Tree} {fr : Slots} {Hb H : GHeap}, GTree P N ops Q' t fr Hb H → GTree P N ops Q t fr Hb H
  | .done, _, _, _, h => hq _ _ h
  | .q i t, fr, Hb, H, h => by
    unfold GTree at h ⊢
    obtain ⟨o, h1, h2, h3⟩ := h
    refine ⟨o, h1, h2, ?_⟩
    split
    · rename_i hg
      rw [hg] at h3
      obtain ⟨v, Hq, k1, k2, k3, k4⟩ := h3
      exact ⟨v, Hq, k1, k2, k3, GTree.mono hq k4⟩
    · rename_i j want hg
      rw [hg] at h3
      obtain ⟨s, c, k1, k2, k3, k4⟩ := h3
      exact ⟨s, c, k1, k2, fun e => let ⟨v, Hq, l1, l2, l3, l4⟩ := k3 e; ⟨v, Hq, l1, l2, l3, GTree.mono hq l4⟩, fun e => GTree.mono hq (k4 e)⟩
  | .c i k t, fr, Hb, H, h => by
    unfold GTree at h ⊢
    obtain ⟨o, h1, h2, h3⟩ := h
    refine ⟨o, h1, h2, ?_⟩
    split
    · rename_i hg
      rw [hg] at h3
      exact h3.mono fun v H' ⟨l1, l2⟩ => ⟨l1, GTree.mono hq l2⟩
    · rename_i j want hg
      rw [hg] at h3
      obtain ⟨s, c, k1, k2, k3, k4⟩ := h3
      exact ⟨s, c, k1, k2, fun e => (k3 e).mono fun v H' ⟨l1, l2⟩ => ⟨l1, GTree.mono hq l2⟩, fun e => GTree.mono hq (k4 e)⟩
  | .or s t, fr, Hb, H, h => by
    unfold GTree at h ⊢
    exact ⟨GTree.mono hq h.1, GTree.mono hq h.2⟩
theorem GTree.cut (rest : Slots) (hr : Sub rest fr) (R : Slots → Slots → GHeap → Prop) (h : GTree P N ops (R rest) t fr Hb H) (hq : ∀ fr' H', R rest fr' H' → Q fr' H') : GTree P N ops Q t fr Hb H := h.mono hq
theorem GTree.mB {d : Tmp} {v : Value} (hi : ops[i]? = some o) (hd : o.dst = some d) (hN : Nat.blt d N = true) (hg : o.guard = none) (hle : Hb.Le H) (hm : MStep P fr Hb o.op v) (h : GTree P N ops Q t ((d, some v) :: fr) Hb H) : GTree P N ops Q (.q i t) fr Hb H := by
  unfold GTree
  refine ⟨o, hi, by unfold dstOk; rw [hd]; exact hN, ?_⟩
  rw [hg]
  exact ⟨v, Hb, .refl _, hle, hm, by rw [hd]; exact h⟩
theorem GTree.orI {s : Tree} (h : GTree P N ops Q s fr Hb H) (h' : GTree P N ops Q t fr Hb H) : GTree P N ops Q (.or s t) fr Hb H := by unfold GTree; exact ⟨h, h'⟩
theorem GRun.r {d : Tmp} {R : Option Value → GHeap → Prop} (hd : o.dst = some d) (hN : Nat.blt d N = true) (hg : o.guard = none) (hc : CDo P o fr H R) (h : ∀ v H', R v H' → GRun P N ops Q L ((d, v) :: fr) H') : GRun P N ops Q ((o, 0) :: L) fr H :=
  .c hd hN hg (by simp) hc fun v H' hR => ⟨fun e => (by cases e), h v H' hR⟩
theorem GRun.r0 {R : Option Value → GHeap → Prop} (hd : o.dst = none) (hg : o.guard = none) (hc : CDo P o fr H R) (h : ∀ v H', R v H' → GRun P N ops Q L fr H') : GRun P N ops Q ((o, 0) :: L) fr H :=
  .c0 hd hg (by simp) hc fun v H' hR => ⟨fun e => (by cases e), h v H' hR⟩
theorem GTree.r0 {R : Option Value → GHeap → Prop} (hi : ops[i]? = some o) (hd : o.dst = none) (hg : o.guard = none) (hc : CDo P o fr H R) (h : ∀ v H', R v H' → GTree P N ops Q t fr H' H') : GTree P N ops Q (.c i 0 t) fr Hb H := by
  unfold GTree
  refine ⟨o, hi, by unfold dstOk; rw [hd], ?_⟩
  rw [hg]
  refine .mk fun B w0 ρ a w hs hf next Qx hn => ?_
  exact hc.run B w0 ρ a w hs hf next Qx fun ρ' v c H' w' hR => hn ρ' v c H' w' ⟨fun e => (by cases e), by rw [hd, if_neg (by simp)]; exact h v H' hR⟩
theorem GTree.r1 {R : Option Value → GHeap → Prop} (hi : ops[i]? = some o) (hd : o.dst = none) (hg : o.guard = none) (hc : CDo P o fr H R) (h : ∀ v H', R v H' → Hb.Le H' ∧ GTree P N ops Q t fr Hb H') : GTree P N ops Q (.c i 1 t) fr Hb H := by
  unfold GTree
  refine ⟨o, hi, by unfold dstOk; rw [hd], ?_⟩
  rw [hg]
  refine .mk fun B w0 ρ a w hs hf next Qx hn => ?_
  exact hc.run B w0 ρ a w hs hf next Qx fun ρ' v c H' w' hR => hn ρ' v c H' w' ⟨fun _ => (h v H' hR).1, by rw [hd, if_pos rfl]; exact (h v H' hR).2⟩
end

section
variable {P : Program} {H : GHeap} {fr : Slots} {o : Oper}
theorem CDo.boxR {e : TypeId} {x : Operand} {v : Value} {n : Nat} (ho : o.op = .box e x) (he : (P.info? e).map (·.size) = some n) (hx : ev fr x = some v) :
    CDo P o fr H (fun r H' => ∃ g, r = some (.pointer (some ⟨g, 0, none⟩)) ∧ H.Le H' ∧ H.next ≤ g ∧ H'.get g = some (.row v.cells.toList e true)) :=
  .box ho he hx ⟨_, rfl, GHeap.le_push _ _, Nat.le_refl _, GHeap.get_push_new _ _⟩
theorem CDo.allocR {e : TypeId} {z : List Value} {n : Nat} (ho : o.op = .alloc e) (hz : zeroT P e = some (z, n)) (hfl : z.all flat1 = true) :
    CDo P o fr H (fun r H' => ∃ g, r = some (.pointer (some ⟨g, 0, none⟩)) ∧ H.Le H' ∧ H.next ≤ g ∧ H'.get g = some (.row z e true)) :=
  .alloc ho hz hfl ⟨_, rfl, GHeap.le_push _ _, Nat.le_refl _, GHeap.get_push_new _ _⟩
theorem CDo.litR {t e : TypeId} {len n : Nat} {parts : Array (Nat × Operand)} {z vs cs : List Value} (ho : o.op = .buildSlice t len parts) (ht : sliceT P t = some (e, n)) (hz : zeroT P e = some (z, n)) (hfl : z.all flat1 = true) (hzn : z.length = n) (h0 : 0 < n)
    (hsm : len * n ≤ 16777216) (hv : evs fr (parts.toList.map (·.2)) = some vs) (hc : fillL (fun i => some (i * n, n)) (madeL z (len * n)) ((parts.toList.map (·.1)).zip vs) = some cs) :
    CDo P o fr H (fun r H' => ∃ g, r = some (.slice (some ⟨g, 0, none⟩) len len) ∧ H.Le H' ∧ H.next ≤ g ∧ H'.get g = some (.row cs e true)) :=
  .buildSlice ho ht hz hfl hzn h0 hsm hv hc ⟨_, rfl, GHeap.le_push _ _, Nat.le_refl _, GHeap.get_push_new _ _⟩
theorem CDo.makeV {t e : TypeId} {x y : Operand} {k k' : IntKind} {j c : Int} {bytes : Nat} {z : Value} (ho : o.op = .makeSlice t x y) (ht : sliceT P t = some (e, 1)) (hz : zeroT P e = some ([z], 1)) (hb : (P.info? e).map (·.bytes) = some bytes)
    (hfl : [z].all flat1 = true) (hx : ev fr x = some (.int k j)) (hy : ev fr y = some (.int k' c)) (h0 : 0 ≤ j) (hlc : j ≤ c) (hsm : bytes * c ≤ 281474976710656) (hsc : c ≤ 9223372036854775807) :
    CDo P o fr H (fun r H' => ∃ g, r = some (.slice (some ⟨g, 0, none⟩) j.toNat j.toNat) ∧ H.Le H' ∧ H.next ≤ g ∧ H'.get g = some (.row (List.replicate j.toNat z) e true)) := by
  have e1 : (j.toNat : Int) = j := Int.toNat_of_nonneg h0
  have e2 : (c.toNat : Int) = c := Int.toNat_of_nonneg (by omega)
  have e3 : bytes * c.toNat ≤ 281474976710656 := by
    have : ((bytes * c.toNat : Nat) : Int) ≤ 281474976710656 := by rw [Int.natCast_mul, e2]; exact hsm
    omega
  refine .makeSlice (l := j.toNat) (c := c.toNat) ho ht hz hb hfl rfl (by omega) (by rw [e1]; exact hx) (by rw [e2]; exact hy) (by omega) e3 (by omega) ⟨_, rfl, GHeap.le_push _ _, Nat.le_refl _, ?_⟩
  rw [GHeap.get_push_new, madeL_one, Nat.mul_one]
theorem CDo.makeI {t e : TypeId} {x y : Operand} {k k' : IntKind} {j c : Int} {bytes : Nat} (ho : o.op = .makeSlice t x y) (ht : sliceT P t = some (e, 1)) (hz : zeroT P e = some ([.int .i64 0], 1)) (hb : (P.info? e).map (·.bytes) = some bytes)
    (hx : ev fr x = some (.int k j)) (hy : ev fr y = some (.int k' c)) (h0 : 0 ≤ j) (hlc : j ≤ c) (hsm : bytes * c ≤ 281474976710656) (hsc : c ≤ 9223372036854775807) :
    CDo P o fr H (fun r H' => ∃ g, r = some (.slice (some ⟨g, 0, none⟩) j.toNat j.toNat) ∧ H.Le H' ∧ H.next ≤ g ∧ H'.get g = some (.row (ints (List.replicate j.toNat 0)) e true)) := by
  have : ints (List.replicate j.toNat 0) = List.replicate j.toNat (Value.int .i64 0) := by simp [ints]
  rw [this]
  exact .makeV ho ht hz hb rfl hx hy h0 hlc hsm hsc
theorem CDo.storeR {t : TypeId} {x y : Operand} {g off : Nat} {v : Value} {cs : List Value} {e : TypeId} (ho : o.op = .store t x y) (ht : (P.info? t).map (·.size) = some 1) (hx : ev fr x = some (.pointer (some ⟨g, off, none⟩))) (hy : ev fr y = some v)
    (h1 : v.oneCell' = true) (hg : H.get g = some (.row cs e true)) (hoff : off < cs.length) :
    CDo P o fr H (fun r H' => r = none ∧ St [g] H H' ∧ H'.get g = some (.row (cs.set off v) e true)) :=
  .store ho ht hx hy h1 hg hoff ⟨rfl, .of_set, GHeap.get_set_eq (GHeap.ltg hg)⟩
theorem CDo.storeI {t : TypeId} {x y : Operand} {g off : Nat} {m : Int} {ys : List Int} {e : TypeId} (ho : o.op = .store t x y) (ht : (P.info? t).map (·.size) = some 1) (hx : ev fr x = some (.pointer (some ⟨g, off, none⟩))) (hy : ev fr y = some (.int .i64 m))
    (hg : H.get g = some (.row (ints ys) e true)) (hoff : off < ys.length) :
    CDo P o fr H (fun r H' => r = none ∧ St [g] H H' ∧ H'.get g = some (.row (ints (ys.set off m)) e true)) := by
  rw [← ints_set]; exact .storeR ho ht hx hy rfl hg (by simpa using hoff)
theorem CDo.storeNR {t : TypeId} {x y : Operand} {g off n : Nat} {vs : Array Value} {cs : List Value} {e : TypeId} (ho : o.op = .store t x y) (ht : (P.info? t).map (·.size) = some n) (hx : ev fr x = some (.pointer (some ⟨g, off, none⟩))) (hy : ev fr y = some (.agg vs))
    (hn : vs.size = n) (h1 : vs.toList.all (·.oneCell') = true) (hg : H.get g = some (.row cs e true)) (hoff : off + n ≤ cs.length) :
    CDo P o fr H (fun r H' => r = none ∧ St [g] H H' ∧ H'.get g = some (.row (setAll cs off vs.toList) e true)) :=
  .storeN ho ht hx hy hn h1 hg hoff ⟨rfl, .of_set, GHeap.get_set_eq (GHeap.ltg hg)⟩
theorem CDo.fillR {t : TypeId} {x y : Operand} {g n : Nat} {vs : Array Value} {cs : List Value} {e : TypeId} (ho : o.op = .store t x y) (ht : (P.info? t).map (·.size) = some n) (hx : ev fr x = some (.pointer (some ⟨g, 0, none⟩))) (hy : ev fr y = some (.agg vs))
    (hn : vs.size = n) (h1 : vs.toList.all (·.oneCell') = true) (hg : H.get g = some (.row cs e true)) (hoff : cs.length = n) :
    CDo P o fr H (fun r H' => r = none ∧ St [g] H H' ∧ H'.get g = some (.row vs.toList e true)) := by
  have : setAll cs 0 vs.toList = vs.toList := setAll_all _ _ (by simp [hoff, hn])
  have h := CDo.storeNR (P := P) (H := H) ho ht hx hy hn h1 hg (by omega)
  rw [this] at h
  exact h
theorem CDo.appendR {t tx e : TypeId} {s x : Operand} {g off n m sz bytes : Nat} {z cs news : List Value} (ho : o.op = .call { callee := .builtin .append, args := #[s, x], argTypes := #[t, tx] }) (ht : sliceT P t = some (e, sz)) (hz : zeroT P e = some (z, sz)) (hzn : z.length = sz)
    (hb : (P.info? e).map (·.bytes) = some bytes) (hsv : ev fr s = some (.slice (some ⟨g, off, none⟩) n n)) (hg : H.get g = some (.row cs e true)) (hend : off + n * sz = cs.length) (hsrc : SrcG P fr H sz tx x m news)
    (hN : n + m ≤ 16777216) (hB : (n + m) * bytes ≤ 140737488355328) :
    CDo P o fr H (fun r H' => ∃ g', r = some (.slice (some ⟨g', 0, none⟩) (n + m) (n + m)) ∧ St [g] H H' ∧ H.next ≤ g' ∧ H'.get g' = some (.row (cs.drop off ++ news) e true)) :=
  .append ho ht hz hzn hb hsv hg hend hsrc (by unfold maxLen; omega) hB ⟨_, rfl, .push .of_set, Nat.le_refl _, by have := GHeap.get_push_new (H.set g none) (.row (cs.drop off ++ news) e true); rwa [GHeap.next_set] at this⟩
theorem CDo.appendV {t tx e e' : TypeId} {s x : Operand} {g g1 n sz bytes : Nat} {z cs vs : List Value} (ho : o.op = .call { callee := .builtin .append, args := #[s, x], argTypes := #[t, tx] }) (ht : sliceT P t = some (e, sz)) (hz : zeroT P e = some (z, sz)) (hzn : z.length = sz)
    (hb : (P.info? e).map (·.bytes) = some bytes) (htx : sliceT P tx = some (e', sz)) (hsv : ev fr s = some (.slice (some ⟨g, 0, none⟩) n n)) (hx : ev fr x = some (.slice (some ⟨g1, 0, none⟩) 1 1)) (hg : H.get g = some (.row cs e true)) (hg1 : H.get g1 = some (.row vs e' true)) (hend : n * sz = cs.length)
    (hv : vs.length = sz) (hone : vs.all (·.oneCell') = true) (hN : n + 1 ≤ 16777216) (hB : (n + 1) * bytes ≤ 140737488355328) :
    CDo P o fr H (fun r H' => ∃ g', r = some (.slice (some ⟨g', 0, none⟩) (n + 1) (n + 1)) ∧ St [g] H H' ∧ H.next ≤ g' ∧ H'.get g' = some (.row (cs ++ vs) e true)) :=
  .appendR (cs := cs) (news := vs) ho ht hz hzn hb hsv hg (by omega) (.slice htx hx (by omega) (fun i v hv => by rw [GHeap.cell_of hg1, Nat.zero_add]; exact hv) (fun v hv => List.all_eq_true.1 hone v hv)) hN hB
theorem CDo.appendI {t tx e e' : TypeId} {s x : Operand} {g g1 n bytes : Nat} {z : List Value} {ys : List Int} {m : Int} (ho : o.op = .call { callee := .builtin .append, args := #[s, x], argTypes := #[t, tx] }) (ht : sliceT P t = some (e, 1)) (hz : zeroT P e = some (z, 1)) (hzn : z.length = 1)
    (hb : (P.info? e).map (·.bytes) = some bytes) (htx : sliceT P tx = some (e', 1)) (hsv : ev fr s = some (.slice (some ⟨g, 0, none⟩) n n)) (hx : ev fr x = some (.slice (some ⟨g1, 0, none⟩) 1 1)) (hg : H.get g = some (.row (ints ys) e true)) (hg1 : H.get g1 = some (.row [.int .i64 m] e' true)) (hend : n = ys.length)
    (hN : n + 1 ≤ 16777216) (hB : (n + 1) * bytes ≤ 140737488355328) :
    CDo P o fr H (fun r H' => ∃ g', r = some (.slice (some ⟨g', 0, none⟩) (n + 1) (n + 1)) ∧ St [g] H H' ∧ H.next ≤ g' ∧ H'.get g' = some (.row (ints (ys ++ [m])) e true)) := by
  have e1 : ints (ys ++ [m]) = ints ys ++ [.int .i64 m] := by simp [ints]
  rw [e1]
  exact .appendV ho ht hz hzn hb htx hsv hx hg hg1 (by simp; omega) rfl rfl hN hB
end

def filtN (n : Nat) (p : Nat → Bool) : List Int := ((List.range n).filter p).map fun (i : Nat) => (i : Int)
theorem filtN_T {n : Nat} {p : Nat → Bool} (h : p n = true) : filtN (n + 1) p = filtN n p ++ [(n : Int)] := by simp [filtN, List.range_succ, h]
theorem filtN_F {n : Nat} {p : Nat → Bool} (h : p n = false) : filtN (n + 1) p = filtN n p := by simp [filtN, List.range_succ, h]
theorem filtN_le (n : Nat) (p : Nat → Bool) : (filtN n p).length ≤ n := by
  unfold filtN; rw [List.length_map]; exact Nat.le_trans (List.length_filter_le _ _) (by simp)
theorem mem_filtN {n : Nat} {p : Nat → Bool} {x : Int} : x ∈ filtN n p ↔ ∃ i, i < n ∧ p i = true ∧ x = i := by
  simp only [filtN, List.mem_map, List.mem_filter, List.mem_range]
  exact ⟨fun ⟨i, ⟨h1, h2⟩, h3⟩ => ⟨i, h1, h2, h3.symm⟩, fun ⟨i, h1, h2, h3⟩ => ⟨i, ⟨h1, h2⟩, h3.symm⟩⟩
theorem getD_mem {xs : List Int} {i : Nat} (h : i < xs.length) : xs.getD i 0 ∈ xs := by
  rw [List.getD_eq_getElem?_getD, List.getElem?_eq_getElem h]; exact List.getElem_mem h
theorem filtN_get {n : Nat} {p : Nat → Bool} {i : Nat} (h : i < (filtN n p).length) : ∃ j, j < n ∧ p j = true ∧ (filtN n p).getD i 0 = j := mem_filtN.1 (getD_mem h)

def firstIn (xs : List Int) (p : Int → Bool) : Int := (xs.find? p).getD (-1)
theorem firstIn_ge {xs : List Int} {p : Int → Bool} (h0 : ∀ x ∈ xs, 0 ≤ x) : 0 ≤ firstIn xs p ↔ ∃ x ∈ xs, p x = true := by
  unfold firstIn
  cases e : xs.find? p with
  | none =>
    rw [List.find?_eq_none] at e
    simp only [Option.getD_none]
    exact ⟨fun h => by omega, fun ⟨x, hx, hp⟩ => absurd hp (e x hx)⟩
  | some y =>
    have h1 := List.mem_of_find?_eq_some e
    have h2 := List.find?_some e
    exact ⟨fun _ => ⟨y, h1, h2⟩, fun _ => h0 y h1⟩
end Go.GL
namespace Go.GL

def Cat.hom (c : Cat) (x y : Int) : List Int := filtN c.src.length fun f => decide (c.src.getD f 0 = x) && decide (c.tgt.getD f 0 = y)
def Cat.invB (c : Cat) (f g : Int) : Bool := decide (c.th f g = c.idn.getD (c.src.getD f.toNat 0).toNat 0) && decide (c.th g f = c.idn.getD (c.tgt.getD f.toNat 0).toNat 0)
def Cat.inv (c : Cat) (f : Int) : Int := firstIn (c.hom (c.tgt.getD f.toNat 0) (c.src.getD f.toNat 0)) (c.invB f)
theorem Cat.hom_get {c : Cat} {x y : Int} {i : Nat} (h : i < (c.hom x y).length) : ∃ f : Nat, f < c.src.length ∧ c.src.getD f 0 = x ∧ c.tgt.getD f 0 = y ∧ (c.hom x y).getD i 0 = f := by
  obtain ⟨j, h1, h2, h3⟩ := filtN_get h
  simp only [sps] at h2
  exact ⟨j, h1, h2.1, h2.2, h3⟩
theorem Cat.mem_hom {c : Cat} {x y g : Int} : g ∈ c.hom x y ↔ ∃ f : Nat, f < c.src.length ∧ c.src.getD f 0 = x ∧ c.tgt.getD f 0 = y ∧ g = f := by
  unfold Cat.hom
  rw [mem_filtN]
  simp only [sps]
  exact ⟨fun ⟨f, h1, h2, h3⟩ => ⟨f, h1, h2.1, h2.2, h3⟩, fun ⟨f, h1, h2, h3, h4⟩ => ⟨f, h1, ⟨h2, h3⟩, h4⟩⟩
theorem Cat.hom_le (c : Cat) (x y : Int) : (c.hom x y).length ≤ c.src.length := filtN_le _ _

end Go.GL
namespace Go.Proofs.Ytagkeabmdodfiaa
open Go Go.GL Go.RowKit Go.Proofs
theorem hom_c {g o : Nat} {c : Cat} {p : CatP} {x y : Int} {H : GHeap} (h : Cat.At H g o c p := by assumption) (hS : c.Shape := by assumption) :
    GCalls Try.prog 91 [.pointer (some ⟨g, o, none⟩), .int .i64 x, .int .i64 y] H (NewInts 2 H (c.hom x y)) := by
  refine GCalls.body (N := 44) (rs := [.tmp 6]) Try.func91 rfl rfl rfl rfl (fun Qx hret hend => ?_)
  refine .forget (fr' := [(0, some _), (1, some _), (2, some _)]) ⟨rfl, rfl, rfl, trivial⟩ ?_
  have hle := GHeap.Le.refl H
  have base_h := h
  obtain ⟨c0, c1, c2, c3, c4, i1, i2, i3, i4⟩ := h.get
  have hm : MemN _ _ _ _ _ := ⟨rfl, h.1⟩
  have hi := h.2
  have q1 := hS.tl
  have q2 := hS.n40
  refine .seq (fun K1 hK1 => .region (.mv rfl (.nil (hK1 _ _ (.seq (fun K2 hK2 => .region ?_))))))
  refine .r rfl rfl rfl (.litR rfl sl_22_A ze_2_E rfl rfl (by omega) (by omega) rfl rfl) ?_
  rintro _ H9 ⟨g9, rfl, le9, ge9, at9⟩
  have nx_H9 := le9.1
  replace hle := hle.trans le9
  have lt_at9 := GHeap.ltg at9
  replace h := base_h.mono hle
  clear c0 c1 c2 c3 c4 i1 i2 i3 i4 hm hi
  obtain ⟨c0, c1, c2, c3, c4, i1, i2, i3, i4⟩ := h.get
  have hm : MemN _ _ _ _ _ := ⟨rfl, h.1⟩
  have hi := h.2
  replace at9 : GHeap.get H9 g9 = some (.row (ints []) 2 true) := at9
  refine .mv rfl (.nil (hK2 _ _ (.seq (fun K3 hK3 => .seq (fun K4 hK4 => .region (.mv rfl (.m rfl rfl rfl (.nilCheck rfl) (.m rfl rfl rfl (.fieldAddr fo_31_1_B rfl) ?_))))))))
  refine .m rfl rfl rfl (.load on_22_B rfl (by assumption)) ?_
  refine .m rfl rfl rfl (.len sl_22_A rfl) (.mv rfl (.nil (hK4 _ _ ?_)))
  refine .block ?_
  refine .loopR (σ := Nat × Nat × Nat) [(0, some _), (1, some _), (2, some _), (14, some _)] (fun (k, gL7, nL7) => [(15, some (.int .i64 (k : Int))), (7, some (.slice (some ⟨gL7, 0, none⟩) nL7 nL7))]) (fun (k, gL7, nL7) H' => St [g9] H9 H' ∧ H'.get gL7 = some (.row (ints (filtN k fun f => decide (c.src.getD f 0 = x) && decide (c.tgt.getD f 0 = y))) 2 true) ∧ (gL7 = g9 ∨ H9.next ≤ gL7) ∧ nL7 = (filtN k fun f => decide (c.src.getD f 0 = x) && decide (c.tgt.getD f 0 = y)).length ∧ k ≤ c.src.length) (fun (k, gL7, nL7) => c.src.length - k) ((0, _, _)) ⟨rfl, rfl, rfl, rfl, trivial⟩ ⟨rfl, rfl, trivial⟩ ?_ ?_
  ·
   refine ⟨.refl _ _, by first | assumption | exact at9 | simpa using at9, .inl rfl, by first | rfl | assumption | simp | omega, ?_⟩
   omega
  rintro ⟨k, gL7, nL7⟩ HL1 ⟨lst1, at_L7, pl_L7, ln_L7, hI⟩ KL1 hKL1
  refine .forget (fr' := [(15, some (.int .i64 (k : Int))), (7, some (.slice (some ⟨gL7, 0, none⟩) nL7 nL7)), (0, some _), (1, some _), (2, some _), (14, some _)]) ⟨rfl, rfl, rfl, rfl, rfl, rfl, trivial⟩ ?_
  have ge_L7 : H.next ≤ gL7 := by omega
  have nx_HL1 := lst1.nx
  replace hle := hle.st lst1 (fun k hk => ⟨by omega, trivial⟩)
  have lt_at_L7 := GHeap.ltg at_L7
  replace h := base_h.mono hle
  clear c0 c1 c2 c3 c4 i1 i2 i3 i4 hm hi
  obtain ⟨c0, c1, c2, c3, c4, i1, i2, i3, i4⟩ := h.get
  have hm : MemN _ _ _ _ _ := ⟨rfl, h.1⟩
  have hi := h.2
  have hfl := filtN_le k fun f => decide (c.src.getD f 0 = x) && decide (c.tgt.getD f 0 = y)
  refine .seq (fun K5 hK5 => .region (.m rfl rfl rfl (.cmp rfl rfl rfl) (.nil (hK5 _ _ (.seq (fun K6 hK6 => ?_))))))
  refine .cond rfl (fun h16 => ?_) (fun h16 => ?_)
  ·
   try simp only [sps] at h16
   refine .skip ?_
   refine hK6 _ _ (.seq (fun K7 hK7 => ?_))
   refine .block ?_
   refine .seq (fun K8 hK8 => .region (.mv rfl (.mv rfl (.nil (hK8 _ _ (.seq (fun K9 hK9 => .region (.mv rfl (.m rfl rfl rfl (.nilCheck rfl) (.m rfl rfl rfl (.fieldAddr fo_31_1_B rfl) ?_))))))))))
   refine .m rfl rfl rfl (.load on_22_B rfl (by assumption)) ?_
   refine .mv rfl ?_
   refine .m rfl rfl rfl (.idxN sl_22_A (by assumption) rfl rfl (by omega)) ?_
   refine .m rfl rfl rfl (.loadI on_2_A (by assumption) rfl (by omega)) ?_
   refine .mv rfl (.m rfl rfl rfl (.cmp rfl rfl rfl) (.mv rfl ?_))
   refine .split (fun h27 => ?_) (fun h27 => ?_)
   ·
    try simp only [sps] at h27
    refine .mg rfl rfl rfl rfl rfl (.move rfl) (.mg rfl rfl rfl rfl rfl (.nilCheck rfl) (.mg rfl rfl rfl rfl rfl (.fieldAddr fo_31_2_B rfl) ?_))
    refine .mg rfl rfl rfl rfl rfl (.load on_22_B rfl (by assumption)) ?_
    refine .mg rfl rfl rfl rfl rfl (.move rfl) ?_
    refine .mg rfl rfl rfl rfl rfl (.idxN sl_22_A (by assumption) rfl rfl (by omega)) ?_
    refine .mg rfl rfl rfl rfl rfl (.loadI on_2_A (by assumption) rfl (by omega)) ?_
    refine .mg rfl rfl rfl rfl rfl (.move rfl) (.mg rfl rfl rfl rfl rfl (.cmp rfl rfl rfl) (.m rfl rfl rfl (.pickT rfl rfl) (.nil (hK9 _ _ ?_))))
    refine .cond rfl (fun h37 => ?_) (fun h37 => ?_)
    ·
     try simp only [sps] at h37
     refine .region (.mv rfl (.mv rfl ?_))
     refine .r rfl rfl rfl (.litR rfl sl_22_A ze_2_E rfl rfl (by omega) (by omega) rfl rfl) ?_
     rintro _ H40 ⟨g40, rfl, le40, ge40, at40⟩
     have nx_H40 := le40.1
     replace hle := hle.trans le40
     replace lst1 := lst1.le le40
     replace at_L7 := le40.2 _ _ at_L7
     have lt_at40 := GHeap.ltg at40
     replace h := base_h.mono hle
     clear c0 c1 c2 c3 c4 i1 i2 i3 i4 hm hi
     obtain ⟨c0, c1, c2, c3, c4, i1, i2, i3, i4⟩ := h.get
     have hm : MemN _ _ _ _ _ := ⟨rfl, h.1⟩
     have hi := h.2
     refine .r rfl rfl rfl (.appendI rfl sl_22_A ze_2_E rfl by_2_E sl_22_A rfl rfl (by assumption) (by assumption) (by first | omega | (simp <;> omega)) (by omega) (by omega)) ?_
     rintro _ H41 ⟨g41, rfl, st41, ge41, at41⟩
     have nx_H41 := st41.nx
     replace hle := hle.st st41 (fun k hk => ⟨by omega, trivial⟩)
     replace lst1 := lst1.st st41 (fun k hk ho => by simp only [out, and_true] at ho ⊢ <;> first | exact ho | exact ho.1 | exact ho.2 | exact ho.2.1 | exact ho.2.2 | exact ho.2.2.1 | exact ho.2.2.2 | omega)
     replace at40 := st41.same _ _ ⟨(by first | assumption | omega), trivial⟩ at40
     have lt_at41 := GHeap.ltg at41
     replace h := base_h.mono hle
     clear c0 c1 c2 c3 c4 i1 i2 i3 i4 hm hi
     obtain ⟨c0, c1, c2, c3, c4, i1, i2, i3, i4⟩ := h.get
     have hm : MemN _ _ _ _ _ := ⟨rfl, h.1⟩
     have hi := h.2
     refine .mv rfl (.nil (hK7 _ _ (.region ?_)))
     refine .m rfl rfl rfl (.add rfl rfl rfl (by omega) (by omega)) ?_
     refine .mv rfl (.nil ?_)
     refine hKL1 ((k + 1, _, _)) _ _ ?_ ?_ ⟨rfl, rfl, rfl, rfl, rfl, rfl, trivial⟩
     ·
      refine ⟨lst1, by first | assumption | (rw [filtN_T (by simp only [sps]; omega)]; assumption) | (rw [filtN_F (by simp only [sps]; omega)]; assumption), by omega, by first | omega | (simp only [List.length_append, List.length_cons, List.length_nil] <;> omega) | (rw [filtN_T (by simp only [sps]; omega)] <;> (first | omega | (simp only [List.length_append, List.length_cons, List.length_nil] <;> omega))) | (rw [filtN_F (by simp only [sps]; omega)] <;> (first | omega | (simp only [List.length_append, List.length_cons, List.length_nil] <;> omega))), ?_⟩
      omega
     (dsimp only; omega)
    try simp only [sps] at h37
    refine .skip ?_
    refine hK7 _ _ (.region ?_)
    refine .m rfl rfl rfl (.add rfl rfl rfl (by omega) (by omega)) ?_
    refine .mv rfl (.nil ?_)
    refine hKL1 ((k + 1, _, _)) _ _ ?_ ?_ ⟨rfl, rfl, rfl, rfl, rfl, rfl, trivial⟩
    ·
     refine ⟨lst1, by first | assumption | (rw [filtN_T (by simp only [sps]; omega)]; assumption) | (rw [filtN_F (by simp only [sps]; omega)]; assumption), by omega, by first | omega | (simp only [List.length_append, List.length_cons, List.length_nil] <;> omega) | (rw [filtN_T (by simp only [sps]; omega)] <;> (first | omega | (simp only [List.length_append, List.length_cons, List.length_nil] <;> omega))) | (rw [filtN_F (by simp only [sps]; omega)] <;> (first | omega | (simp only [List.length_append, List.length_cons, List.length_nil] <;> omega))), ?_⟩
     omega
    (dsimp only; omega)
   try simp only [sps] at h27
   refine .sg rfl rfl rfl rfl rfl (.sg rfl rfl rfl rfl rfl (.sg rfl rfl rfl rfl rfl (.sg rfl rfl rfl rfl rfl (.sg rfl rfl rfl rfl rfl (.sg rfl rfl rfl rfl rfl (.sg rfl rfl rfl rfl rfl (.sg rfl rfl rfl rfl rfl (.sg rfl rfl rfl rfl rfl (.m rfl rfl rfl (.pickF rfl rfl) (.nil (hK9 _ _ ?_)))))))))))
   refine .condF rfl ?_
   refine .skip ?_
   refine hK7 _ _ (.region ?_)
   refine .m rfl rfl rfl (.add rfl rfl rfl (by omega) (by omega)) ?_
   refine .mv rfl (.nil ?_)
   refine hKL1 ((k + 1, _, _)) _ _ ?_ ?_ ⟨rfl, rfl, rfl, rfl, rfl, rfl, trivial⟩
   ·
    refine ⟨lst1, by first | assumption | (rw [filtN_T (by simp only [sps]; omega)]; assumption) | (rw [filtN_F (by simp only [sps]; omega)]; assumption), by omega, by first | omega | (simp only [List.length_append, List.length_cons, List.length_nil] <;> omega) | (rw [filtN_T (by simp only [sps]; omega)] <;> (first | omega | (simp only [List.length_append, List.length_cons, List.length_nil] <;> omega))) | (rw [filtN_F (by simp only [sps]; omega)] <;> (first | omega | (simp only [List.length_append, List.length_cons, List.length_nil] <;> omega))), ?_⟩
    omega
   (dsimp only; omega)
  try simp only [sps] at h16
  refine .exit ?_
  refine hK3 _ _ (.seq (fun K10 hK10 => .region (.mv rfl (.mv rfl (.nil (hK10 _ _ ?_))))))
  refine .ret ?_
  refine hret _ _ ?_
  refine ⟨_, rfl, ?_⟩
  obtain rfl : k = c.src.length := by omega
  exact ⟨hle, _, by rw [ln_L7]; rfl, at_L7, ge_L7⟩
end Go.Proofs.Ytagkeabmdodfiaa
namespace Go.GL
open Go.RowKit

def thenL (f g : List Int) : List Int := f.map fun y => g.getD y.toNat 0
@[simp] theorem length_thenL (f g : List Int) : (thenL f g).length = f.length := by simp [thenL]
def Cat.Alike (c : Cat) (x y : Int) : Prop := ∃ g ∈ c.hom x y, 0 ≤ c.inv g
noncomputable def Cat.iso (c : Cat) (x y : Int) : Int := firstIn (c.hom x y) fun g => decide (0 ≤ c.inv g)
end Go.GL
namespace Go.Proofs.Ytagkeabmdodfiaa
open Go Go.GL Go.RowKit Go.Proofs
theorem l02Hom_c {c : Cat} {p : CatP} {x y : Int} {H : GHeap} (hin : c.In H p := by assumption) (hS : c.Shape := by assumption) :
    GCalls Try.prog 85 [.agg (c.cells p).toArray, .int .i64 x, .int .i64 y] H (NewInts 2 H (c.hom x y)) := by
  refine GCalls.body (N := 38) (rs := [.tmp 6]) Try.func85 rfl rfl rfl rfl (fun Qx hret hend => ?_)
  refine .forget (fr' := [(0, some _), (1, some _), (2, some _)]) ⟨rfl, rfl, rfl, trivial⟩ ?_
  have hle := GHeap.Le.refl H
  have base_hin := hin
  have q1 := hS.tl
  have q2 := hS.n40
  refine .seq (fun K1 hK1 => .region ?_)
  refine .r rfl rfl rfl (.boxR rfl sz_31_D rfl) ?_
  rintro _ H3 ⟨g3, rfl, le3, ge3, at3⟩
  have nx_H3 := le3.1
  replace hle := hle.trans le3
  have lt_at3 := GHeap.ltg at3
  replace hin := base_hin.mono hle
  have hb3 : Cat.At _ g3 0 c p := ⟨Mem.of_get at3, hin⟩
  obtain ⟨c03, c13, c23, c33, c43, i13, i23, i33, i43⟩ := hb3.get
  have hm3 : MemN _ _ _ _ _ := ⟨rfl, hb3.1⟩
  have hi3 := hb3.2
  refine .mv rfl (.nil (hK1 _ _ (.seq (fun K2 hK2 => .region ?_))))
  refine .r rfl rfl rfl (.litR rfl sl_22_A ze_2_E rfl rfl (by omega) (by omega) rfl rfl) ?_
  rintro _ H9 ⟨g9, rfl, le9, ge9, at9⟩
  have nx_H9 := le9.1
  replace hle := hle.trans le9
  replace at3 := le9.2 _ _ at3
  have lt_at9 := GHeap.ltg at9
  replace hin := base_hin.mono hle
  clear hb3 c03 c13 c23 c33 c43 i13 i23 i33 i43 hm3 hi3
  have hb3 : Cat.At _ g3 0 c p := ⟨Mem.of_get at3, hin⟩
  obtain ⟨c03, c13, c23, c33, c43, i13, i23, i33, i43⟩ := hb3.get
  have hm3 : MemN _ _ _ _ _ := ⟨rfl, hb3.1⟩
  have hi3 := hb3.2
  replace at9 : GHeap.get H9 g9 = some (.row (ints []) 2 true) := at9
  refine .mv rfl (.nil (hK2 _ _ (.seq (fun K3 hK3 => .seq (fun K4 hK4 => .region (.mv rfl (.nil (hK4 _ _ ?_))))))))
  refine .block ?_
  refine .loopR (σ := Nat × Nat × Nat) [(1, some _), (2, some _), (3, some _)] (fun (k, gL7, nL7) => [(8, some (.int .i64 (k : Int))), (7, some (.slice (some ⟨gL7, 0, none⟩) nL7 nL7))]) (fun (k, gL7, nL7) H' => St [g9] H9 H' ∧ H'.get gL7 = some (.row (ints (filtN k fun f => decide (c.src.getD f 0 = x) && decide (c.tgt.getD f 0 = y))) 2 true) ∧ (gL7 = g9 ∨ H9.next ≤ gL7) ∧ nL7 = (filtN k fun f => decide (c.src.getD f 0 = x) && decide (c.tgt.getD f 0 = y)).length ∧ k ≤ c.src.length) (fun (k, gL7, nL7) => c.src.length - k) ((0, _, _)) ⟨rfl, rfl, rfl, trivial⟩ ⟨rfl, rfl, trivial⟩ ?_ ?_
  ·
   refine ⟨.refl _ _, by first | assumption | exact at9 | simpa using at9, .inl rfl, by first | rfl | assumption | simp | omega, ?_⟩
   omega
  rintro ⟨k, gL7, nL7⟩ HL1 ⟨lst1, at_L7, pl_L7, ln_L7, hI⟩ KL1 hKL1
  refine .forget (fr' := [(8, some (.int .i64 (k : Int))), (7, some (.slice (some ⟨gL7, 0, none⟩) nL7 nL7)), (1, some _), (2, some _), (3, some _)]) ⟨rfl, rfl, rfl, rfl, rfl, trivial⟩ ?_
  have ge_L7 : H.next ≤ gL7 := by omega
  have nx_HL1 := lst1.nx
  replace hle := hle.st lst1 (fun k hk => ⟨by omega, trivial⟩)
  replace at3 := lst1.same _ _ ⟨(by first | assumption | omega), trivial⟩ at3
  have lt_at_L7 := GHeap.ltg at_L7
  replace hin := base_hin.mono hle
  clear hb3 c03 c13 c23 c33 c43 i13 i23 i33 i43 hm3 hi3
  have hb3 : Cat.At _ g3 0 c p := ⟨Mem.of_get at3, hin⟩
  obtain ⟨c03, c13, c23, c33, c43, i13, i23, i33, i43⟩ := hb3.get
  have hm3 : MemN _ _ _ _ _ := ⟨rfl, hb3.1⟩
  have hi3 := hb3.2
  have hfl := filtN_le k fun f => decide (c.src.getD f 0 = x) && decide (c.tgt.getD f 0 = y)
  refine .seq (fun K5 hK5 => .seq (fun K6 hK6 => .region (.mv rfl (.m rfl rfl rfl (.fieldAddr fo_31_1_B rfl) ?_))))
  refine .m rfl rfl rfl (.load on_22_B rfl (by first | assumption | exact Mem.of_get at3 1 _ rfl)) ?_
  refine .m rfl rfl rfl (.len sl_22_A rfl) (.m rfl rfl rfl (.cmp rfl rfl rfl) (.nil (hK6 _ _ ?_)))
  refine .cond rfl (fun h14 => ?_) (fun h14 => ?_)
  ·
   try simp only [sps] at h14
   refine .skip ?_
   refine hK5 _ _ (.seq (fun K7 hK7 => ?_))
   refine .block ?_
   refine .seq (fun K8 hK8 => .region (.m rfl rfl rfl (.fieldAddr fo_31_1_B rfl) ?_))
   refine .m rfl rfl rfl (.load on_22_B rfl (by first | assumption | exact Mem.of_get at3 1 _ rfl)) ?_
   refine .mv rfl ?_
   refine .m rfl rfl rfl (.idxN sl_22_A (by assumption) rfl rfl (by omega)) ?_
   refine .m rfl rfl rfl (.loadI on_2_A (by assumption) rfl (by omega)) ?_
   refine .mv rfl (.m rfl rfl rfl (.cmp rfl rfl rfl) (.mv rfl ?_))
   refine .split (fun h24 => ?_) (fun h24 => ?_)
   ·
    try simp only [sps] at h24
    refine .mg rfl rfl rfl rfl rfl (.fieldAddr fo_31_2_B rfl) ?_
    refine .mg rfl rfl rfl rfl rfl (.load on_22_B rfl (by first | assumption | exact Mem.of_get at3 2 _ rfl)) ?_
    refine .mg rfl rfl rfl rfl rfl (.move rfl) ?_
    refine .mg rfl rfl rfl rfl rfl (.idxN sl_22_A (by assumption) rfl rfl (by omega)) ?_
    refine .mg rfl rfl rfl rfl rfl (.loadI on_2_A (by assumption) rfl (by omega)) ?_
    refine .mg rfl rfl rfl rfl rfl (.move rfl) (.mg rfl rfl rfl rfl rfl (.cmp rfl rfl rfl) (.m rfl rfl rfl (.pickT rfl rfl) (.nil (hK8 _ _ ?_))))
    refine .cond rfl (fun h32 => ?_) (fun h32 => ?_)
    ·
     try simp only [sps] at h32
     refine .region (.mv rfl (.mv rfl ?_))
     refine .r rfl rfl rfl (.litR rfl sl_22_A ze_2_E rfl rfl (by omega) (by omega) rfl rfl) ?_
     rintro _ H35 ⟨g35, rfl, le35, ge35, at35⟩
     have nx_H35 := le35.1
     replace hle := hle.trans le35
     replace lst1 := lst1.le le35
     replace at3 := le35.2 _ _ at3
     replace at_L7 := le35.2 _ _ at_L7
     have lt_at35 := GHeap.ltg at35
     replace hin := base_hin.mono hle
     clear hb3 c03 c13 c23 c33 c43 i13 i23 i33 i43 hm3 hi3
     have hb3 : Cat.At _ g3 0 c p := ⟨Mem.of_get at3, hin⟩
     obtain ⟨c03, c13, c23, c33, c43, i13, i23, i33, i43⟩ := hb3.get
     have hm3 : MemN _ _ _ _ _ := ⟨rfl, hb3.1⟩
     have hi3 := hb3.2
     refine .r rfl rfl rfl (.appendI rfl sl_22_A ze_2_E rfl by_2_E sl_22_A rfl rfl (by assumption) (by assumption) (by first | omega | (simp <;> omega)) (by omega) (by omega)) ?_
     rintro _ H36 ⟨g36, rfl, st36, ge36, at36⟩
     have nx_H36 := st36.nx
     replace hle := hle.st st36 (fun k hk => ⟨by omega, trivial⟩)
     replace lst1 := lst1.st st36 (fun k hk ho => by simp only [out, and_true] at ho ⊢ <;> first | exact ho | exact ho.1 | exact ho.2 | exact ho.2.1 | exact ho.2.2 | exact ho.2.2.1 | exact ho.2.2.2 | omega)
     replace at3 := st36.same _ _ ⟨(by first | assumption | omega), trivial⟩ at3
     replace at35 := st36.same _ _ ⟨(by first | assumption | omega), trivial⟩ at35
     have lt_at36 := GHeap.ltg at36
     replace hin := base_hin.mono hle
     clear hb3 c03 c13 c23 c33 c43 i13 i23 i33 i43 hm3 hi3
     have hb3 : Cat.At _ g3 0 c p := ⟨Mem.of_get at3, hin⟩
     obtain ⟨c03, c13, c23, c33, c43, i13, i23, i33, i43⟩ := hb3.get
     have hm3 : MemN _ _ _ _ _ := ⟨rfl, hb3.1⟩
     have hi3 := hb3.2
     refine .mv rfl (.nil (hK7 _ _ (.region (.mv rfl ?_))))
     refine .m rfl rfl rfl (.add rfl rfl rfl (by omega) (by omega)) ?_
     refine .mv rfl (.nil ?_)
     refine hKL1 ((k + 1, _, _)) _ _ ?_ ?_ ⟨rfl, rfl, rfl, rfl, rfl, trivial⟩
     ·
      refine ⟨lst1, by first | assumption | (rw [filtN_T (by simp only [sps]; omega)]; assumption) | (rw [filtN_F (by simp only [sps]; omega)]; assumption), by omega, by first | omega | (simp only [List.length_append, List.length_cons, List.length_nil] <;> omega) | (rw [filtN_T (by simp only [sps]; omega)] <;> (first | omega | (simp only [List.length_append, List.length_cons, List.length_nil] <;> omega))) | (rw [filtN_F (by simp only [sps]; omega)] <;> (first | omega | (simp only [List.length_append, List.length_cons, List.length_nil] <;> omega))), ?_⟩
      omega
     (dsimp only; omega)
    try simp only [sps] at h32
    refine .skip ?_
    refine hK7 _ _ (.region (.mv rfl ?_))
    refine .m rfl rfl rfl (.add rfl rfl rfl (by omega) (by omega)) ?_
    refine .mv rfl (.nil ?_)
    refine hKL1 ((k + 1, _, _)) _ _ ?_ ?_ ⟨rfl, rfl, rfl, rfl, rfl, trivial⟩
    ·
     refine ⟨lst1, by first | assumption | (rw [filtN_T (by simp only [sps]; omega)]; assumption) | (rw [filtN_F (by simp only [sps]; omega)]; assumption), by omega, by first | omega | (simp only [List.length_append, List.length_cons, List.length_nil] <;> omega) | (rw [filtN_T (by simp only [sps]; omega)] <;> (first | omega | (simp only [List.length_append, List.length_cons, List.length_nil] <;> omega))) | (rw [filtN_F (by simp only [sps]; omega)] <;> (first | omega | (simp only [List.length_append, List.length_cons, List.length_nil] <;> omega))), ?_⟩
     omega
    (dsimp only; omega)
   try simp only [sps] at h24
   refine .sg rfl rfl rfl rfl rfl (.sg rfl rfl rfl rfl rfl (.sg rfl rfl rfl rfl rfl (.sg rfl rfl rfl rfl rfl (.sg rfl rfl rfl rfl rfl (.sg rfl rfl rfl rfl rfl (.sg rfl rfl rfl rfl rfl (.m rfl rfl rfl (.pickF rfl rfl) (.nil (hK8 _ _ ?_)))))))))
   refine .condF rfl ?_
   refine .skip ?_
   refine hK7 _ _ (.region (.mv rfl ?_))
   refine .m rfl rfl rfl (.add rfl rfl rfl (by omega) (by omega)) ?_
   refine .mv rfl (.nil ?_)
   refine hKL1 ((k + 1, _, _)) _ _ ?_ ?_ ⟨rfl, rfl, rfl, rfl, rfl, trivial⟩
   ·
    refine ⟨lst1, by first | assumption | (rw [filtN_T (by simp only [sps]; omega)]; assumption) | (rw [filtN_F (by simp only [sps]; omega)]; assumption), by omega, by first | omega | (simp only [List.length_append, List.length_cons, List.length_nil] <;> omega) | (rw [filtN_T (by simp only [sps]; omega)] <;> (first | omega | (simp only [List.length_append, List.length_cons, List.length_nil] <;> omega))) | (rw [filtN_F (by simp only [sps]; omega)] <;> (first | omega | (simp only [List.length_append, List.length_cons, List.length_nil] <;> omega))), ?_⟩
    omega
   (dsimp only; omega)
  try simp only [sps] at h14
  refine .exit ?_
  refine hK3 _ _ (.seq (fun K9 hK9 => .region (.mv rfl (.mv rfl (.nil (hK9 _ _ ?_))))))
  refine .ret ?_
  refine hret _ _ ?_
  refine ⟨_, rfl, ?_⟩
  obtain rfl : k = c.src.length := by omega
  exact ⟨hle, _, by rw [ln_L7]; rfl, at_L7, ge_L7⟩
theorem l02Then_c {c : Cat} {p : CatP} {f k : Int} {H : GHeap} (hin : c.In H p := by assumption) (hS : c.Shape := by assumption) (h0 : 0 ≤ f := by omega) (h1 : f < c.src.length := by omega) (h2 : 0 ≤ k := by omega) (h3 : k < c.src.length := by omega) :
    GCalls Try.prog 57 [.agg (c.cells p).toArray, .int .i64 f, .int .i64 k] H (Ret (.int .i64 (c.th f k)) H) := by
  refine GCalls.ret rfl ?_
  refine GCalls.body (N := 15) (rs := [.tmp 6]) Try.func57 rfl rfl rfl rfl (fun Qx hret hend => ?_)
  refine .forget (fr' := [(0, some _), (1, some _), (2, some _)]) ⟨rfl, rfl, rfl, trivial⟩ ?_
  have hle := GHeap.Le.refl H
  have base_hin := hin
  have q6 := hS.cl
  have q7 := hS.row f.toNat (by omega)
  refine .seq (fun K1 hK1 => .region ?_)
  refine .r rfl rfl rfl (.boxR rfl sz_31_D rfl) ?_
  rintro _ H3 ⟨g3, rfl, le3, ge3, at3⟩
  have nx_H3 := le3.1
  replace hle := hle.trans le3
  have lt_at3 := GHeap.ltg at3
  replace hin := base_hin.mono hle
  have hb3 : Cat.At _ g3 0 c p := ⟨Mem.of_get at3, hin⟩
  obtain ⟨c03, c13, c23, c33, c43, i13, i23, i33, i43⟩ := hb3.get
  have hm3 : MemN _ _ _ _ _ := ⟨rfl, hb3.1⟩
  have hi3 := hb3.2
  refine .mv rfl (.nil (hK1 _ _ (.seq (fun K2 hK2 => .region ?_))))
  have q8 := i43.2 f.toNat (by omega)
  refine .m rfl rfl rfl (.fieldAddr fo_31_4_B rfl) ?_
  refine .m rfl rfl rfl (.load on_23_B rfl (by first | assumption | exact Mem.of_get at3 4 _ rfl)) ?_
  refine .mv rfl ?_
  refine .m rfl rfl rfl (.idx1 sl_23_B (Intss.sl (by assumption)) rfl rfl (by omega) (by omega)) ?_
  refine .m rfl rfl rfl (.loadR on_22_B (by assumption) rfl (by omega)) ?_
  refine .mv rfl ?_
  refine .m rfl rfl rfl (.idx1 sl_22_A (by assumption) rfl rfl (by omega) (by omega)) ?_
  refine .m rfl rfl rfl (.loadI on_2_A (by assumption) rfl (by omega)) ?_
  refine .mv rfl (.nil (hK2 _ _ ?_))
  refine .ret ?_
  refine hret _ _ ?_
  refine ⟨_, rfl, ?_⟩
  exact ⟨rfl, hle⟩
end Go.Proofs.Ytagkeabmdodfiaa
namespace Go.GL
open Go.RowKit Go.WideShapes Go.ChangeShapes Go.Deep

def Intsss (H : GHeap) (a : Option Addr) (x : List (List (List Int))) (r : Nat → Option Addr) (s : Nat → Nat → Option Addr) : Prop :=
  SlA H a x.length (fun i => .slice (r i) (x.getD i []).length (x.getD i []).length) ∧ ∀ i, i < x.length → Intss H (r i) (x.getD i []) (s i)
theorem Intsss.mono {H H' : GHeap} {a : Option Addr} {x : List (List (List Int))} {r : Nat → Option Addr} {s : Nat → Nat → Option Addr} (h : Intsss H a x r s) (hle : H.Le H') : Intsss H' a x r s := ⟨SlA.mono h.1 hle, fun i hi => (h.2 i hi).mono hle⟩
theorem Intsss.sl {H : GHeap} {a : Option Addr} {x : List (List (List Int))} {r : Nat → Option Addr} {s : Nat → Nat → Option Addr} (h : Intsss H a x r s) : SlA H a x.length (fun i => .slice (r i) (x.getD i []).length (x.getD i []).length) := h.1
def IntsssAt (b : Nat) (H : GHeap) (a : Option Addr) (x : List (List (List Int))) (r : Nat → Option Addr) (s : Nat → Nat → Option Addr) : Prop :=
  ∃ g e cs, a = some ⟨g, 0, none⟩ ∧ b ≤ g ∧ H.get g = some (.row cs e true) ∧ cs.length = x.length ∧ (∀ i, i < x.length → cs[i]? = some (.slice (r i) (x.getD i []).length (x.getD i []).length)) ∧ ∀ i, i < x.length → IntssAt b H (r i) (x.getD i []) (s i)
theorem IntsssAt.keep {b b' : Nat} {H H' : GHeap} {a : Option Addr} {x : List (List (List Int))} {r : Nat → Option Addr} {s : Nat → Nat → Option Addr} (h : IntsssAt b H a x r s) (hk : Keep b' H H') (hb : b' ≤ b) : IntsssAt b' H' a x r s :=
  let ⟨g, e, cs, h1, h2, h3, h4, h5, h6⟩ := h; ⟨g, e, cs, h1, by omega, hk g _ (by omega) h3, h4, h5, fun i hi => (h6 i hi).keep hk hb⟩
theorem IntsssAt.intsss {b : Nat} {H : GHeap} {a : Option Addr} {x : List (List (List Int))} {r : Nat → Option Addr} {s : Nat → Nat → Option Addr} (h : IntsssAt b H a x r s) : Intsss H a x r s := by
  obtain ⟨g, e, cs, rfl, _, h3, h4, h5, h6⟩ := h
  exact ⟨.inr ⟨g, 0, rfl, fun i hi => by rw [GHeap.cell_of h3, Nat.zero_add]; exact h5 i hi⟩, fun i hi => (h6 i hi).intss⟩
def Wd2 (xss : List (List Int)) : Prop := xss.length ≤ 9223372036854775807 ∧ ∀ i, I64s (xss.getD i [])
def Wd3 (x : List (List (List Int))) : Prop := x.length ≤ 9223372036854775807 ∧ ∀ i, Wd2 (x.getD i [])
def Sm3 (x : List (List (List Int))) : Prop := x.length ≤ 1048576 ∧ ∀ i, (x.getD i []).length ≤ 1048576 ∧ ∀ j, ((x.getD i []).getD j []).length ≤ 1048576
def RIntsss (ρ : Place) (H : GHeap) (cs : List Value) : Prop := ∃ a x r s c, cs = [c] ∧ VRel ρ (.slice a x.length x.length) c ∧ Intsss H a x r s ∧ Wd3 x
theorem RIntsss.mono {ρ ρ' : Place} {H H' : GHeap} {cs : List Value} (h : RIntsss ρ H cs) (he : Ext ρ ρ') (hl : H.Le H') : RIntsss ρ' H' cs :=
  let ⟨a, x, r, s, c, h1, h2, h3, h4⟩ := h; ⟨a, x, r, s, c, h1, h2.mono he, h3.mono hl, h4⟩
theorem Wd2.nil : Wd2 [] := ⟨by simp, fun i => by simp [I64s, I64]⟩
end Go.GL
namespace Go.GL
open Go.RowKit
structure SFun where
  sh : Cat
  sz : List Int
  ac : List (List Int)
structure SFunP where
  sh : CatP
  a1 : Option Addr
  a2 : Option Addr
  r2 : Nat → Option Addr
def SFun.cells (c : SFun) (p : SFunP) : List Value := c.sh.cells p.sh ++ ([.slice p.a1 c.sz.length c.sz.length] ++ ([.slice p.a2 c.ac.length c.ac.length]))
def SFun.In (H : GHeap) (c : SFun) (p : SFunP) : Prop := c.sh.In H p.sh ∧ Ints H p.a1 c.sz ∧ Intss H p.a2 c.ac p.r2
theorem SFun.In.mono {H H' : GHeap} {c : SFun} {p : SFunP} (h : c.In H p) (hle : H.Le H') : c.In H' p := ⟨Cat.In.mono (h.1) hle, Ints.mono (h.2.1) hle, Intss.mono (h.2.2) hle⟩
def SFun.At (H : GHeap) (g o : Nat) (c : SFun) (p : SFunP) : Prop := Mem H g o (c.cells p) ∧ c.In H p
theorem SFun.At.mono {H H' : GHeap} {g o : Nat} {c : SFun} {p : SFunP} (h : SFun.At H g o c p) (hle : H.Le H') : SFun.At H' g o c p := ⟨h.1.mono hle, SFun.In.mono h.2 hle⟩
theorem SFun.At.get {H : GHeap} {g o : Nat} {c : SFun} {p : SFunP} (h : SFun.At H g o c p) : Cat.At H g (o + 0) c.sh p.sh ∧ H.cell g (o + 5) = some (.slice p.a1 c.sz.length c.sz.length) ∧ H.cell g (o + 6) = some (.slice p.a2 c.ac.length c.ac.length) ∧ Ints H p.a1 c.sz ∧ Intss H p.a2 c.ac p.r2 :=
  ⟨⟨h.1.left, h.2.1⟩, (h.1.right (n := 5) rfl).left 0 _ rfl, ((h.1.right (n := 5) rfl).right (n := 1) rfl) 0 _ rfl, h.2.2.1, h.2.2.2⟩
def SFun.Small (c : SFun) : Prop := c.sh.Small ∧ c.sz.length ≤ 1048576 ∧ (c.ac.length ≤ 1048576 ∧ ∀ i, (c.ac.getD i []).length ≤ 1048576)
def SFun.Wide (c : SFun) : Prop := c.sh.Wide ∧ I64s c.sz ∧ (c.ac.length ≤ 9223372036854775807 ∧ ∀ i, I64s (c.ac.getD i []))
def SFunAt (b : Nat) (H : GHeap) (c : SFun) (p : SFunP) : Prop := CatAt b H c.sh p.sh ∧ IntsAt b H p.a1 c.sz ∧ IntssAt b H p.a2 c.ac p.r2
theorem SFunAt.keep {b b' : Nat} {H H' : GHeap} {c : SFun} {p : SFunP} (h : SFunAt b H c p) (hk : Keep b' H H') (hb : b' ≤ b) : SFunAt b' H' c p := ⟨CatAt.keep (h.1) hk hb, IntsAt.keep (h.2.1) hk hb, IntssAt.keep (h.2.2) hk hb⟩
theorem SFunAt.inn {b : Nat} {H : GHeap} {c : SFun} {p : SFunP} (h : SFunAt b H c p) : c.In H p := ⟨CatAt.inn (h.1), IntsAt.ints (h.2.1), IntssAt.intss (h.2.2)⟩
def NewSFun (H : GHeap) (c : SFun) (v : Value) (H' : GHeap) : Prop := H.Le H' ∧ ∃ p, v = .agg (c.cells p).toArray ∧ SFunAt H.next H' c p
def sfunT (P : Program) (t : TypeId) : Bool := structIs P t 7 3 fun fs => fieldIs P fs 0 0 5 catT && fieldIs P fs 1 5 1 intsT && fieldIs P fs 2 6 1 intssT
def RSFun (ρ : Place) (H : GHeap) (cs : List Value) : Prop := ∃ (c : SFun) (p : SFunP), LRel ρ (c.cells p) cs ∧ c.In H p ∧ c.Wide
theorem import_sfun {P : Program} {t : TypeId} (ht : sfunT P t = true) : Imports P t RSFun := by
  intro T enc B w0 ρ H w held fuel cs x hs hB h
  obtain ⟨fs, g1, g2, g3, g4⟩ := structIs_run ht
  simp only [Bool.and_eq_true] at g4
  obtain ⟨⟨q0, q1⟩, q2⟩ := g4
  obtain ⟨xs, n, _, _, hl, hx, hf⟩ := DataW.trod_struct g1 h
  obtain ⟨ρ0, H0, s0, e0, l0, y0, p0, v0, i0, w0⟩ := import_field (fun _ h => import_cat h) q0 hx hf hs hB
  obtain ⟨ρ1, H1, s1, e1, l1, a1, x1, c1, z1, v1, i1, w1⟩ := import_field (fun _ h => import_ints h) q1 hx hf s0 hB
  obtain ⟨ρ2, H2, s2, e2, l2, a2, x2, r2, c2, z2, v2, i2, w2⟩ := import_field (fun _ h => import_intss h) q2 hx hf s1 hB
  refine ⟨ρ2, H2, s2, e0.trans (e1.trans (e2)), l0.trans (l1.trans (l2)), ⟨y0, x1, x2⟩, ⟨p0, a1, a2, r2⟩, ?_, ⟨Cat.In.mono i0 (l1.trans (l2)), i1.mono (l2), i2⟩, ⟨w0, w1, w2⟩⟩
  have hlen : cs.length = 7 := by rw [hl, g2]
  have e : cs = (cs.drop 0).take 5 ++ ((cs.drop 5).take 1 ++ ((cs.drop 6).take 1)) := by
    match cs, hlen with
    | [_, _, _, _, _, _, _], _ => rfl
  rw [e, z1, z2]
  exact (LRel.append (v0.mono (e1.trans (e2))) (LRel.append (.cons (v1.mono (e2)) (.nil _)) (.cons (v2) (.nil _))))
structure SMap where
  s : SFun
  t : SFun
  pa : List (List Int)
structure SMapP where
  s : SFunP
  t : SFunP
  a2 : Option Addr
  r2 : Nat → Option Addr
def SMap.cells (c : SMap) (p : SMapP) : List Value := c.s.cells p.s ++ (c.t.cells p.t ++ ([.slice p.a2 c.pa.length c.pa.length]))
def SMap.In (H : GHeap) (c : SMap) (p : SMapP) : Prop := c.s.In H p.s ∧ c.t.In H p.t ∧ Intss H p.a2 c.pa p.r2
theorem SMap.In.mono {H H' : GHeap} {c : SMap} {p : SMapP} (h : c.In H p) (hle : H.Le H') : c.In H' p := ⟨SFun.In.mono (h.1) hle, SFun.In.mono (h.2.1) hle, Intss.mono (h.2.2) hle⟩
def SMap.At (H : GHeap) (g o : Nat) (c : SMap) (p : SMapP) : Prop := Mem H g o (c.cells p) ∧ c.In H p
theorem SMap.At.mono {H H' : GHeap} {g o : Nat} {c : SMap} {p : SMapP} (h : SMap.At H g o c p) (hle : H.Le H') : SMap.At H' g o c p := ⟨h.1.mono hle, SMap.In.mono h.2 hle⟩
theorem SMap.At.get {H : GHeap} {g o : Nat} {c : SMap} {p : SMapP} (h : SMap.At H g o c p) : SFun.At H g (o + 0) c.s p.s ∧ SFun.At H g (o + 7) c.t p.t ∧ H.cell g (o + 14) = some (.slice p.a2 c.pa.length c.pa.length) ∧ Intss H p.a2 c.pa p.r2 :=
  ⟨⟨h.1.left, h.2.1⟩, ⟨(h.1.right (n := 7) rfl).left, h.2.2.1⟩, ((h.1.right (n := 7) rfl).right (n := 7) rfl) 0 _ rfl, h.2.2.2⟩
def SMap.Small (c : SMap) : Prop := c.s.Small ∧ c.t.Small ∧ (c.pa.length ≤ 1048576 ∧ ∀ i, (c.pa.getD i []).length ≤ 1048576)
def SMap.Wide (c : SMap) : Prop := c.s.Wide ∧ c.t.Wide ∧ (c.pa.length ≤ 9223372036854775807 ∧ ∀ i, I64s (c.pa.getD i []))
def SMapAt (b : Nat) (H : GHeap) (c : SMap) (p : SMapP) : Prop := SFunAt b H c.s p.s ∧ SFunAt b H c.t p.t ∧ IntssAt b H p.a2 c.pa p.r2
theorem SMapAt.keep {b b' : Nat} {H H' : GHeap} {c : SMap} {p : SMapP} (h : SMapAt b H c p) (hk : Keep b' H H') (hb : b' ≤ b) : SMapAt b' H' c p := ⟨SFunAt.keep (h.1) hk hb, SFunAt.keep (h.2.1) hk hb, IntssAt.keep (h.2.2) hk hb⟩
theorem SMapAt.inn {b : Nat} {H : GHeap} {c : SMap} {p : SMapP} (h : SMapAt b H c p) : c.In H p := ⟨SFunAt.inn (h.1), SFunAt.inn (h.2.1), IntssAt.intss (h.2.2)⟩
structure Con where
  ap : Int
  lg : List Int
structure ConP where
  a1 : Option Addr
def Con.cells (c : Con) (p : ConP) : List Value := [.int .i64 c.ap] ++ ([.slice p.a1 c.lg.length c.lg.length])
def Con.In (H : GHeap) (c : Con) (p : ConP) : Prop := Ints H p.a1 c.lg
theorem Con.In.mono {H H' : GHeap} {c : Con} {p : ConP} (h : c.In H p) (hle : H.Le H') : c.In H' p := Ints.mono (h) hle
def Con.At (H : GHeap) (g o : Nat) (c : Con) (p : ConP) : Prop := Mem H g o (c.cells p) ∧ c.In H p
theorem Con.At.mono {H H' : GHeap} {g o : Nat} {c : Con} {p : ConP} (h : Con.At H g o c p) (hle : H.Le H') : Con.At H' g o c p := ⟨h.1.mono hle, Con.In.mono h.2 hle⟩
theorem Con.At.get {H : GHeap} {g o : Nat} {c : Con} {p : ConP} (h : Con.At H g o c p) : H.cell g (o + 0) = some (.int .i64 c.ap) ∧ H.cell g (o + 1) = some (.slice p.a1 c.lg.length c.lg.length) ∧ Ints H p.a1 c.lg :=
  ⟨h.1.left 0 _ rfl, (h.1.right (n := 1) rfl) 0 _ rfl, h.2⟩
def Con.Small (c : Con) : Prop := (-9223372036854775808 ≤ c.ap ∧ c.ap ≤ 9223372036854775807) ∧ c.lg.length ≤ 1048576
def Con.Wide (c : Con) : Prop := I64 c.ap ∧ I64s c.lg
def ConAt (b : Nat) (H : GHeap) (c : Con) (p : ConP) : Prop := IntsAt b H p.a1 c.lg
theorem ConAt.keep {b b' : Nat} {H H' : GHeap} {c : Con} {p : ConP} (h : ConAt b H c p) (hk : Keep b' H H') (hb : b' ≤ b) : ConAt b' H' c p := IntsAt.keep (h) hk hb
theorem ConAt.inn {b : Nat} {H : GHeap} {c : Con} {p : ConP} (h : ConAt b H c p) : c.In H p := IntsAt.ints (h)
structure Prt where
  me : List (List Int)
structure PrtP where
  a0 : Option Addr
  r0 : Nat → Option Addr
def Prt.cells (c : Prt) (p : PrtP) : List Value := [.slice p.a0 c.me.length c.me.length]
def Prt.In (H : GHeap) (c : Prt) (p : PrtP) : Prop := Intss H p.a0 c.me p.r0
theorem Prt.In.mono {H H' : GHeap} {c : Prt} {p : PrtP} (h : c.In H p) (hle : H.Le H') : c.In H' p := Intss.mono (h) hle
def Prt.At (H : GHeap) (g o : Nat) (c : Prt) (p : PrtP) : Prop := Mem H g o (c.cells p) ∧ c.In H p
theorem Prt.At.mono {H H' : GHeap} {g o : Nat} {c : Prt} {p : PrtP} (h : Prt.At H g o c p) (hle : H.Le H') : Prt.At H' g o c p := ⟨h.1.mono hle, Prt.In.mono h.2 hle⟩
theorem Prt.At.get {H : GHeap} {g o : Nat} {c : Prt} {p : PrtP} (h : Prt.At H g o c p) : H.cell g (o + 0) = some (.slice p.a0 c.me.length c.me.length) ∧ Intss H p.a0 c.me p.r0 :=
  ⟨h.1 0 _ rfl, h.2⟩
def Prt.Small (c : Prt) : Prop := (c.me.length ≤ 1048576 ∧ ∀ i, (c.me.getD i []).length ≤ 1048576)
def Prt.Wide (c : Prt) : Prop := (c.me.length ≤ 9223372036854775807 ∧ ∀ i, I64s (c.me.getD i []))
def PrtAt (b : Nat) (H : GHeap) (c : Prt) (p : PrtP) : Prop := IntssAt b H p.a0 c.me p.r0
theorem PrtAt.keep {b b' : Nat} {H H' : GHeap} {c : Prt} {p : PrtP} (h : PrtAt b H c p) (hk : Keep b' H H') (hb : b' ≤ b) : PrtAt b' H' c p := IntssAt.keep (h) hk hb
theorem PrtAt.inn {b : Nat} {H : GHeap} {c : Prt} {p : PrtP} (h : PrtAt b H c p) : c.In H p := IntssAt.intss (h)
structure Prof where
  s : Cat
  t : Cat
  sz : List (List Int)
  be : List (List (List Int))
  bh : List (List (List Int))
structure ProfP where
  s : CatP
  t : CatP
  a2 : Option Addr
  r2 : Nat → Option Addr
  a3 : Option Addr
  r3 : Nat → Option Addr
  s3 : Nat → Nat → Option Addr
  a4 : Option Addr
  r4 : Nat → Option Addr
  s4 : Nat → Nat → Option Addr
def Prof.cells (c : Prof) (p : ProfP) : List Value := c.s.cells p.s ++ (c.t.cells p.t ++ ([.slice p.a2 c.sz.length c.sz.length] ++ ([.slice p.a3 c.be.length c.be.length] ++ ([.slice p.a4 c.bh.length c.bh.length]))))
def Prof.In (H : GHeap) (c : Prof) (p : ProfP) : Prop := c.s.In H p.s ∧ c.t.In H p.t ∧ Intss H p.a2 c.sz p.r2 ∧ Intsss H p.a3 c.be p.r3 p.s3 ∧ Intsss H p.a4 c.bh p.r4 p.s4
theorem Prof.In.mono {H H' : GHeap} {c : Prof} {p : ProfP} (h : c.In H p) (hle : H.Le H') : c.In H' p := ⟨Cat.In.mono (h.1) hle, Cat.In.mono (h.2.1) hle, Intss.mono (h.2.2.1) hle, Intsss.mono (h.2.2.2.1) hle, Intsss.mono (h.2.2.2.2) hle⟩
def Prof.At (H : GHeap) (g o : Nat) (c : Prof) (p : ProfP) : Prop := Mem H g o (c.cells p) ∧ c.In H p
theorem Prof.At.mono {H H' : GHeap} {g o : Nat} {c : Prof} {p : ProfP} (h : Prof.At H g o c p) (hle : H.Le H') : Prof.At H' g o c p := ⟨h.1.mono hle, Prof.In.mono h.2 hle⟩
theorem Prof.At.get {H : GHeap} {g o : Nat} {c : Prof} {p : ProfP} (h : Prof.At H g o c p) : Cat.At H g (o + 0) c.s p.s ∧ Cat.At H g (o + 5) c.t p.t ∧ H.cell g (o + 10) = some (.slice p.a2 c.sz.length c.sz.length) ∧ H.cell g (o + 11) = some (.slice p.a3 c.be.length c.be.length) ∧ H.cell g (o + 12) = some (.slice p.a4 c.bh.length c.bh.length) ∧ Intss H p.a2 c.sz p.r2 ∧ Intsss H p.a3 c.be p.r3 p.s3 ∧ Intsss H p.a4 c.bh p.r4 p.s4 :=
  ⟨⟨h.1.left, h.2.1⟩, ⟨(h.1.right (n := 5) rfl).left, h.2.2.1⟩, ((h.1.right (n := 5) rfl).right (n := 5) rfl).left 0 _ rfl, (((h.1.right (n := 5) rfl).right (n := 5) rfl).right (n := 1) rfl).left 0 _ rfl, ((((h.1.right (n := 5) rfl).right (n := 5) rfl).right (n := 1) rfl).right (n := 1) rfl) 0 _ rfl, h.2.2.2.1, h.2.2.2.2.1, h.2.2.2.2.2⟩
def Prof.Small (c : Prof) : Prop := c.s.Small ∧ c.t.Small ∧ (c.sz.length ≤ 1048576 ∧ ∀ i, (c.sz.getD i []).length ≤ 1048576) ∧ Sm3 c.be ∧ Sm3 c.bh
def Prof.Wide (c : Prof) : Prop := c.s.Wide ∧ c.t.Wide ∧ (c.sz.length ≤ 9223372036854775807 ∧ ∀ i, I64s (c.sz.getD i [])) ∧ Wd3 c.be ∧ Wd3 c.bh
def ProfAt (b : Nat) (H : GHeap) (c : Prof) (p : ProfP) : Prop := CatAt b H c.s p.s ∧ CatAt b H c.t p.t ∧ IntssAt b H p.a2 c.sz p.r2 ∧ IntsssAt b H p.a3 c.be p.r3 p.s3 ∧ IntsssAt b H p.a4 c.bh p.r4 p.s4
theorem ProfAt.keep {b b' : Nat} {H H' : GHeap} {c : Prof} {p : ProfP} (h : ProfAt b H c p) (hk : Keep b' H H') (hb : b' ≤ b) : ProfAt b' H' c p := ⟨CatAt.keep (h.1) hk hb, CatAt.keep (h.2.1) hk hb, IntssAt.keep (h.2.2.1) hk hb, IntsssAt.keep (h.2.2.2.1) hk hb, IntsssAt.keep (h.2.2.2.2) hk hb⟩
theorem ProfAt.inn {b : Nat} {H : GHeap} {c : Prof} {p : ProfP} (h : ProfAt b H c p) : c.In H p := ⟨CatAt.inn (h.1), CatAt.inn (h.2.1), IntssAt.intss (h.2.2.1), IntsssAt.intsss (h.2.2.2.1), IntsssAt.intsss (h.2.2.2.2)⟩
end Go.GL
namespace Go.GL

structure StM (lo hi : Nat) (H H' : GHeap) : Prop where
  nx : H.next ≤ H'.next
  same : ∀ k o, ¬ (lo ≤ k ∧ k < hi) → H.get k = some o → H'.get k = some o
  ins : ∀ k o, H.get k = some o → ∃ o', H'.get k = some o' ∧ (o' = o ∨ ∃ xs ys e, o = .row (ints xs) e true ∧ o' = .row (ints ys) e true ∧ ys.length = xs.length)
theorem StM.refl (lo hi : Nat) (H : GHeap) : StM lo hi H H := ⟨Nat.le_refl _, fun _ _ _ h => h, fun _ o h => ⟨o, h, .inl rfl⟩⟩
theorem StM.of_le {lo hi : Nat} {H H' : GHeap} (h : H.Le H') : StM lo hi H H' := ⟨h.1, fun k o _ ho => h.2 k o ho, fun _ o ho => ⟨o, h.2 _ _ ho, .inl rfl⟩⟩
theorem ints_inj {xs ys : List Int} (h : ints xs = ints ys) : xs = ys := by
  unfold ints at h
  exact (List.map_inj_right (fun a b hab => by cases hab; rfl)).1 h
theorem StM.trans {lo hi : Nat} {A B C : GHeap} (h : StM lo hi A B) (k : StM lo hi B C) : StM lo hi A C where
  nx := Nat.le_trans h.nx k.nx
  same g o hg ho := k.same g o hg (h.same g o hg ho)
  ins g o ho := by
    obtain ⟨o1, h1, h2⟩ := h.ins g o ho
    obtain ⟨o2, k1, k2⟩ := k.ins g o1 h1
    refine ⟨o2, k1, ?_⟩
    rcases h2 with rfl | ⟨xs, ys, e, rfl, rfl, hl⟩
    · exact k2
    · rcases k2 with rfl | ⟨us, vs, e', h3, rfl, hl'⟩
      · exact .inr ⟨xs, ys, e, rfl, rfl, hl⟩
      · injection h3 with h3 h4 h5
        have := ints_inj h3
        subst this
        subst h4
        exact .inr ⟨xs, vs, _, rfl, rfl, by rw [hl', hl]⟩
theorem StM.le_left {lo hi : Nat} {A B C : GHeap} (h : A.Le B) (k : StM lo hi B C) (hA : A.next ≤ lo) : A.Le C :=
  ⟨Nat.le_trans h.1 k.nx, fun g o ho => k.same g o (by have := GHeap.ltg ho; omega) (h.2 g o ho)⟩
theorem Keep.stM {b lo hi : Nat} {H0 H H' : GHeap} (k : Keep b H0 H) (h : StM lo hi H H') (hg : ∀ k, b ≤ k → k < H0.next → ¬ (lo ≤ k ∧ k < hi)) : Keep b H0 H' := fun g o hb h1 => h.same g o (hg g hb (GHeap.ltg h1)) (k g o hb h1)

def IntsW (lo hi : Nat) (H : GHeap) (a : Option Addr) (n : Nat) : Prop := n = 0 ∨ ∃ g e xs, a = some ⟨g, 0, none⟩ ∧ lo ≤ g ∧ g < hi ∧ H.get g = some (.row (ints xs) e true) ∧ xs.length = n
theorem IntsW.stm {lo hi : Nat} {H H' : GHeap} {a : Option Addr} {n : Nat} (h : IntsW lo hi H a n) (s : StM lo hi H H') : IntsW lo hi H' a n := by
  rcases h with h | ⟨g, e, xs, h1, h2, h3, h4, h5⟩
  · exact .inl h
  · obtain ⟨o', k1, k2⟩ := s.ins g _ h4
    rcases k2 with rfl | ⟨us, vs, e', h6, rfl, hl⟩
    · exact .inr ⟨g, e, xs, h1, h2, h3, k1, h5⟩
    · injection h6 with h6 h7 h8
      have := ints_inj h6
      subst this
      exact .inr ⟨g, e', vs, h1, h2, h3, k1, by rw [hl, h5]⟩
theorem IntsW.of_at {b : Nat} {H0 H : GHeap} {a : Option Addr} {xs : List Int} (h : IntsAt b H0 a xs) (k : Keep b H0 H) : IntsW b H0.next H a xs.length := by
  obtain ⟨g, e, h1, h2, h3⟩ := h
  exact .inr ⟨g, e, xs, h1, h2, GHeap.ltg h3, k g _ h2 h3, rfl⟩
def HdGe (b : Nat) (a : Option Addr) (n : Nat) : Prop := n = 0 ∨ ∃ g o, a = some ⟨g, o, none⟩ ∧ b ≤ g
theorem HdGe.le {b b' : Nat} {a : Option Addr} {n : Nat} (h : HdGe b a n) (hb : b' ≤ b) : HdGe b' a n := h.imp id fun ⟨g, o, h1, h2⟩ => ⟨g, o, h1, Nat.le_trans hb h2⟩
theorem SlA.keep {b b' : Nat} {H H' : GHeap} {a : Option Addr} {n : Nat} {f : Nat → Value} (h : SlA H a n f) (hd : HdGe b a n) (k : Keep b' H H') (hb : b' ≤ b) : SlA H' a n f := by
  rcases hd with h0 | ⟨g, o, rfl, hg⟩
  · exact .inl h0
  · rcases h with h0 | ⟨g', o', e, hc⟩
    · exact .inl h0
    · cases e
      refine .inr ⟨g, o, rfl, fun i hi => ?_⟩
      have h1 := hc i hi
      unfold GHeap.cell at h1 ⊢
      cases hx : H.get g with
      | none => rw [hx] at h1; cases h1
      | some x => rw [hx] at h1; rw [k g x (by omega) hx]; exact h1
def IntssW (lo hi : Nat) (H : GHeap) (a : Option Addr) (xss : List (List Int)) (r : Nat → Option Addr) : Prop :=
  SlA H a xss.length (fun i => .slice (r i) (xss.getD i []).length (xss.getD i []).length) ∧ (∀ i, i < xss.length → IntsW lo hi H (r i) (xss.getD i []).length) ∧ HdGe lo a xss.length
theorem SlA.stm {lo hi : Nat} {H H' : GHeap} {a : Option Addr} {n : Nat} {f : Nat → Value} (h : SlA H a n f) (s : StM lo hi H H') (hf : ∀ i m, f i ≠ .int .i64 m) : SlA H' a n f := by
  rcases h with h | ⟨g, o, e, h⟩
  · exact .inl h
  · refine .inr ⟨g, o, e, fun i hi => ?_⟩
    have hc := h i hi
    unfold GHeap.cell at hc ⊢
    split at hc
    · rename_i cs el own hg
      obtain ⟨o', k1, k2⟩ := s.ins g _ hg
      rw [k1]
      rcases k2 with rfl | ⟨us, vs, e', h6, rfl, hl⟩
      · exact hc
      · injection h6 with h6 h7 h8
        subst h6
        exfalso
        simp only [ints, List.getElem?_map, Option.map_eq_some_iff] at hc
        obtain ⟨m, _, hm⟩ := hc
        exact hf i m hm.symm
    · cases hc
theorem IntssW.stm {lo hi : Nat} {H H' : GHeap} {a : Option Addr} {xss : List (List Int)} {r : Nat → Option Addr} (h : IntssW lo hi H a xss r) (s : StM lo hi H H') : IntssW lo hi H' a xss r :=
  ⟨h.1.stm s fun i m e => (by cases e), fun i hi => (h.2.1 i hi).stm s, h.2.2⟩
theorem IntssW.of_at {b : Nat} {H0 H : GHeap} {a : Option Addr} {xss : List (List Int)} {r : Nat → Option Addr} (h : IntssAt b H0 a xss r) (k : Keep b H0 H) : IntssW b H0.next H a xss r :=
  ⟨(h.keep k (Nat.le_refl _)).intss.1, fun i hi => by obtain ⟨g, e, cs, _, _, _, _, _, h6⟩ := h; exact .of_at (h6 i hi) k, by obtain ⟨g, e, cs, h1, h2, _⟩ := h; exact .inr ⟨g, 0, h1, h2⟩⟩
def sumL : List (List Int) → Nat
  | [] => 0
  | xs :: r => xs.length + sumL r
theorem sumL_take_succ {xss : List (List Int)} {k : Nat} (h : k < xss.length) : sumL (xss.take (k + 1)) = sumL (xss.take k) + (xss.getD k []).length := by
  induction xss generalizing k with
  | nil => simp at h
  | cons x r ih =>
    cases k with
    | zero => simp [sumL]
    | succ k =>
      have := ih (k := k) (by simpa using h)
      simp only [List.take_succ_cons, sumL, List.getD_cons_succ]
      omega
theorem sumL_le {m : Nat} : ∀ {xss : List (List Int)}, (∀ i, (xss.getD i []).length ≤ m) → sumL xss ≤ xss.length * m
  | [], _ => by simp [sumL]
  | x :: r, h => by
    have h0 := h 0
    have := sumL_le (xss := r) fun i => by simpa using h (i + 1)
    simp only [sumL, List.length_cons, Nat.add_mul]
    simp at h0
    omega
theorem sumL_take_le {xss : List (List Int)} {k : Nat} : sumL (xss.take k) ≤ sumL xss := by
  induction xss generalizing k with
  | nil => simp
  | cons x r ih =>
    cases k with
    | zero => simp [sumL]
    | succ k => simp only [List.take_succ_cons, sumL]; have := ih (k := k); omega
def Cat.total (c : Cat) : Nat := c.src.length + (c.tgt.length + (c.idn.length + sumL c.comp))
def CatW (lo hi : Nat) (H : GHeap) (c : Cat) (p : CatP) : Prop := IntsW lo hi H p.a1 c.src.length ∧ IntsW lo hi H p.a2 c.tgt.length ∧ IntsW lo hi H p.a3 c.idn.length ∧ IntssW lo hi H p.a4 c.comp p.r
theorem CatW.stm {lo hi : Nat} {H H' : GHeap} {c : Cat} {p : CatP} (h : CatW lo hi H c p) (s : StM lo hi H H') : CatW lo hi H' c p := ⟨h.1.stm s, h.2.1.stm s, h.2.2.1.stm s, h.2.2.2.stm s⟩
theorem CatW.of_at {b : Nat} {H0 H : GHeap} {c : Cat} {p : CatP} (h : CatAt b H0 c p) (k : Keep b H0 H) : CatW b H0.next H c p := ⟨.of_at h.1 k, .of_at h.2.1 k, .of_at h.2.2.1 k, .of_at h.2.2.2 k⟩
def Fun.total (f : Fun) : Nat := f.s.total + (f.t.total + (f.ob.length + f.ar.length))
def FunW (lo hi : Nat) (H : GHeap) (f : Fun) (p : FunP) : Prop := CatW lo hi H f.s p.s ∧ CatW lo hi H f.t p.t ∧ IntsW lo hi H p.b1 f.ob.length ∧ IntsW lo hi H p.b2 f.ar.length
theorem FunW.stm {lo hi : Nat} {H H' : GHeap} {c : Fun} {p : FunP} (h : FunW lo hi H c p) (s : StM lo hi H H') : FunW lo hi H' c p := ⟨h.1.stm s, h.2.1.stm s, h.2.2.1.stm s, h.2.2.2.stm s⟩
theorem FunW.of_at {b : Nat} {H0 H : GHeap} {c : Fun} {p : FunP} (h : FunAt b H0 c p) (k : Keep b H0 H) : FunW b H0.next H c p := ⟨.of_at h.1 k, .of_at h.2.1 k, .of_at h.2.2.1 k, .of_at h.2.2.2 k⟩
def Con.total (c : Con) : Nat := c.lg.length
def ConW (lo hi : Nat) (H : GHeap) (c : Con) (p : ConP) : Prop := IntsW lo hi H p.a1 c.lg.length
theorem ConW.stm {lo hi : Nat} {H H' : GHeap} {c : Con} {p : ConP} (h : ConW lo hi H c p) (s : StM lo hi H H') : ConW lo hi H' c p := IntsW.stm h s
theorem ConW.of_at {b : Nat} {H0 H : GHeap} {c : Con} {p : ConP} (h : ConAt b H0 c p) (k : Keep b H0 H) : ConW b H0.next H c p := IntsW.of_at h k

def seqL (k : Int) (n : Nat) : List Int := (List.range n).map fun (i : Nat) => k + (i : Int)
@[simp] theorem length_seqL (k : Int) (n : Nat) : (seqL k n).length = n := by simp [seqL]
theorem seqL_get {k : Int} {n i : Nat} (h : i < n) : (seqL k n).getD i 0 = k + i := by simp [seqL, List.getD_eq_getElem?_getD, h]
abbrev Leaf := Option Addr × Nat
def lvBlk : Leaf → List Nat
  | (some a, _ + 1) => [a.block]
  | _ => []
def lvBlks (ls : List Leaf) : List Nat := ls.flatMap lvBlk
def lvSum : List Leaf → Nat
  | [] => 0
  | l :: r => l.2 + lvSum r
def Live1 (b : Nat) (H : GHeap) (l : Leaf) : Prop := l.2 = 0 ∨ ∃ g e xs, l.1 = some ⟨g, 0, none⟩ ∧ b ≤ g ∧ H.get g = some (.row (ints xs) e true) ∧ xs.length = l.2
def Lives (b : Nat) (H : GHeap) (ls : List Leaf) : Prop := ∀ l ∈ ls, Live1 b H l
def Held (b : Nat) (H : GHeap) : List Leaf → Int → Prop
  | [], _ => True
  | l :: r, k => (l.2 = 0 ∨ ∃ g e, l.1 = some ⟨g, 0, none⟩ ∧ b ≤ g ∧ H.get g = some (.row (ints (seqL k l.2)) e true)) ∧ Held b H r (k + l.2)
theorem Held.keep0 {b : Nat} {H H' : GHeap} : ∀ {ls : List Leaf} {k : Int}, Held b H ls k → Keep b H H' → Held b H' ls k
  | [], _, _, _ => trivial
  | _ :: _, _, h, hk => ⟨h.1.imp id fun ⟨g, e, h1, h2, h3⟩ => ⟨g, e, h1, h2, hk g _ h2 h3⟩, Held.keep0 h.2 hk⟩
theorem Held.append {b : Nat} {H : GHeap} : ∀ {ls ms : List Leaf} {k : Int}, Held b H ls k → Held b H ms (k + lvSum ls) → Held b H (ls ++ ms) k
  | [], _, _, _, h => by simpa [lvSum] using h
  | l :: r, ms, k, h, h' => ⟨h.1, Held.append h.2 (by rw [show k + (l.2 : Int) + (lvSum r : Int) = k + (lvSum (l :: r) : Int) by simp [lvSum]; omega]; exact h')⟩
structure StB (bs : List Nat) (H H' : GHeap) : Prop where
  nx : H.next ≤ H'.next
  same : ∀ k o, ¬ k ∈ bs → H.get k = some o → H'.get k = some o
theorem StB.refl (bs : List Nat) (H : GHeap) : StB bs H H := ⟨Nat.le_refl _, fun _ _ _ h => h⟩
theorem StB.trans {bs cs : List Nat} {A B C : GHeap} (h : StB bs A B) (k : StB cs B C) : StB (bs ++ cs) A C :=
  ⟨Nat.le_trans h.nx k.nx, fun g o hg ho => k.same g o (fun hc => hg (List.mem_append_right _ hc)) (h.same g o (fun hc => hg (List.mem_append_left _ hc)) ho)⟩
theorem Live1.blk {b : Nat} {H : GHeap} {l : Leaf} (h : Live1 b H l) {g : Nat} {e : TypeId} {xs : List Int} (h1 : l.1 = some ⟨g, 0, none⟩) (hn : l.2 ≠ 0) : g ∈ lvBlk l := by
  obtain ⟨a, n⟩ := l
  simp only at h1 hn
  subst h1
  cases n with
  | zero => exact absurd rfl hn
  | succ n => simp [lvBlk]
theorem Lives.stB {b : Nat} {H H' : GHeap} {ls : List Leaf} {bs : List Nat} (h : Lives b H ls) (s : StB bs H H') (hd : ∀ g ∈ lvBlks ls, ¬ g ∈ bs) : Lives b H' ls := fun l hl => by
  by_cases hn : l.2 = 0
  · exact .inl hn
  · rcases h l hl with h0 | ⟨g, e, xs, h1, h2, h3, h4⟩
    · exact .inl h0
    · exact .inr ⟨g, e, xs, h1, h2, s.same g _ (hd g (List.mem_flatMap.2 ⟨l, hl, (h l hl).blk (e := e) (xs := xs) h1 hn⟩)) h3, h4⟩
theorem Live1.keep {b : Nat} {H H' : GHeap} {l : Leaf} (h : Live1 b H l) (k : Keep b H H') : Live1 b H' l := h.imp id fun ⟨g, e, xs, h1, h2, h3, h4⟩ => ⟨g, e, xs, h1, h2, k g _ h2 h3, h4⟩
theorem Lives.keep {b : Nat} {H H' : GHeap} {ls : List Leaf} (h : Lives b H ls) (k : Keep b H H') : Lives b H' ls := fun l hl => (h l hl).keep k
theorem Held.stB {b : Nat} {H H' : GHeap} {bs : List Nat} (s : StB bs H H') : ∀ {ls : List Leaf} {k : Int}, Held b H ls k → (∀ g ∈ lvBlks ls, ¬ g ∈ bs) → Held b H' ls k
  | [], _, _, _ => trivial
  | l :: r, k, h, hd => by
    refine ⟨?_, Held.stB s h.2 fun g hg => hd g (by simp only [lvBlks, List.flatMap_cons, List.mem_append]; exact .inr hg)⟩
    by_cases hn : l.2 = 0
    · exact .inl hn
    · rcases h.1 with h0 | ⟨g, e, h1, h2, h3⟩
      · exact .inl h0
      · have hl : Live1 b H l := .inr ⟨g, e, _, h1, h2, h3, by simp⟩
        exact .inr ⟨g, e, h1, h2, s.same g _ (hd g (by simp only [lvBlks, List.flatMap_cons, List.mem_append]; exact .inl (hl.blk (e := e) (xs := seqL k l.2) h1 hn))) h3⟩
theorem Lives.app {b : Nat} {H : GHeap} {ls ms : List Leaf} (h : Lives b H ls) (h' : Lives b H ms) : Lives b H (ls ++ ms) := fun l hl => (List.mem_append.1 hl).elim (h l) (h' l)
theorem lvBlks_append (ls ms : List Leaf) : lvBlks (ls ++ ms) = lvBlks ls ++ lvBlks ms := by simp [lvBlks]
theorem lvSum_append : ∀ (ls ms : List Leaf), lvSum (ls ++ ms) = lvSum ls + lvSum ms
  | [], ms => by simp [lvSum]
  | l :: r, ms => by simp only [List.cons_append, lvSum, lvSum_append r ms]; omega

def IntsR (b : Nat) (H : GHeap) (a : Option Addr) (xs : List Int) : Prop := (xs = [] ∧ a = none) ∨ IntsAt b H a xs
theorem IntsR.keep {b b' : Nat} {H H' : GHeap} {a : Option Addr} {xs : List Int} (h : IntsR b H a xs) (k : Keep b' H H') (hb : b' ≤ b) : IntsR b' H' a xs := h.imp id fun h => h.keep k hb
theorem IntsR.ints {b : Nat} {H : GHeap} {a : Option Addr} {xs : List Int} (h : IntsR b H a xs) : Ints H a xs := by
  rcases h with ⟨rfl, _⟩ | h
  · exact .inl rfl
  · exact h.ints
theorem IntsR.live {b : Nat} {H : GHeap} {a : Option Addr} {xs : List Int} (h : IntsR b H a xs) : Live1 b H (a, xs.length) := by
  rcases h with ⟨rfl, _⟩ | ⟨g, e, h1, h2, h3⟩
  · exact .inl rfl
  · exact .inr ⟨g, e, xs, h1, h2, h3, rfl⟩
def Con.leaves (c : Con) (p : ConP) : List Leaf := [(p.a1, c.lg.length)]
def ConR (b : Nat) (H : GHeap) (c : Con) (p : ConP) : Prop := IntsR b H p.a1 c.lg
theorem ConR.keep {b b' : Nat} {H H' : GHeap} {c : Con} {p : ConP} (h : ConR b H c p) (k : Keep b' H H') (hb : b' ≤ b) : ConR b' H' c p := IntsR.keep h k hb
theorem ConR.inn {b : Nat} {H : GHeap} {c : Con} {p : ConP} (h : ConR b H c p) : c.In H p := IntsR.ints h
theorem Held.keep {b b' : Nat} {H H' : GHeap} {ls : List Leaf} {k : Int} (h : Held b H ls k) (hk : Keep b' H H') (hb : b' ≤ b) : Held b H' ls k := h.keep0 fun g o hg ho => hk g o (by omega) ho
theorem Held.app {b : Nat} {H : GHeap} : ∀ {ls ms : List Leaf} {k : Int}, Held b H (ls ++ ms) k → Held b H ls k ∧ Held b H ms (k + lvSum ls)
  | [], ms, k, h => ⟨trivial, by simpa [lvSum] using h⟩
  | l :: r, ms, k, h => by
    obtain ⟨h1, h2⟩ := Held.app (ls := r) h.2
    exact ⟨⟨h.1, h1⟩, by rw [show k + (lvSum (l :: r) : Int) = k + (l.2 : Int) + (lvSum r : Int) by simp [lvSum]; omega]; exact h2⟩
theorem Held.ints {b : Nat} {H : GHeap} {a : Option Addr} {n : Nat} {k : Int} (h : Held b H [(a, n)] k) : Ints H a (seqL k n) := by
  rcases h.1 with h0 | ⟨g, e, h1, h2, h3⟩
  · simp only at h0; subst h0; exact .inl (by simp)
  · simp only at h1 h3; subst h1; exact Ints.of_get h3

structure Marked (lo hi : Nat) (H H' : GHeap) (ls : List Leaf) (k : Int) : Prop where
  stm : StM lo hi H H'
  stb : StB (lvBlks ls) H H'
  held : (lvBlks ls).Nodup → Held lo H' ls k
theorem Marked.nil (lo hi : Nat) (H : GHeap) (k : Int) : Marked lo hi H H [] k := ⟨.refl _ _ _, .refl _ _, fun _ => trivial⟩
theorem Marked.app {lo hi : Nat} {A B C : GHeap} {ls ms : List Leaf} {k : Int} (h : Marked lo hi A B ls k) (h' : Marked lo hi B C ms (k + lvSum ls)) : Marked lo hi A C (ls ++ ms) k where
  stm := h.stm.trans h'.stm
  stb := by rw [lvBlks_append]; exact h.stb.trans h'.stb
  held := fun nd => by
    rw [lvBlks_append, List.nodup_append] at nd
    exact ((h.held nd.1).stB h'.stb fun g hg hg' => nd.2.2 g hg g hg' rfl).append (h'.held nd.2.1)
theorem Marked.le_left {lo hi : Nat} {A B C : GHeap} {ls : List Leaf} {k : Int} (h : A.Le B) (m : Marked lo hi B C ls k) : Marked lo hi A C ls k :=
  ⟨⟨Nat.le_trans h.1 m.stm.nx, fun g o hg ho => m.stm.same g o hg (h.2 g o ho), fun g o ho => m.stm.ins g o (h.2 g o ho)⟩, ⟨Nat.le_trans h.1 m.stb.nx, fun g o hg ho => m.stb.same g o hg (h.2 g o ho)⟩, m.held⟩
theorem Marked.one {lo hi g : Nat} {H H' : GHeap} {e : TypeId} {xs : List Int} {k : Int} (hlo : lo ≤ g) (hhi : g < hi) (h0 : H.get g = some (.row (ints xs) e true)) (s : St [g] H H') (h1 : H'.get g = some (.row (ints (seqL k xs.length)) e true)) (hn : xs.length ≠ 0) :
    Marked lo hi H H' [(some ⟨g, 0, none⟩, xs.length)] k where
  stm := ⟨s.nx, fun i o hi ho => s.same i o ⟨by omega, trivial⟩ ho, fun i o ho => by
    by_cases hi : i = g
    · subst hi
      rw [h0] at ho; cases ho
      exact ⟨_, h1, .inr ⟨xs, seqL k xs.length, e, rfl, rfl, by simp⟩⟩
    · exact ⟨o, s.same i o ⟨hi, trivial⟩ ho, .inl rfl⟩⟩
  stb := ⟨s.nx, fun i o hi ho => s.same i o ⟨fun e' => hi (by
    subst e'
    cases hx : xs.length with
    | zero => exact absurd hx hn
    | succ m => simp [lvBlks, lvBlk]), trivial⟩ ho⟩
  held := fun _ => ⟨.inr ⟨g, e, rfl, hlo, h1⟩, trivial⟩
def rowsL (r : Nat → Option Addr) (xss : List (List Int)) (n : Nat) : List Leaf := (List.range n).map fun i => (r i, (xss.getD i []).length)
theorem rowsL_succ (r : Nat → Option Addr) (xss : List (List Int)) (n : Nat) : rowsL r xss (n + 1) = rowsL r xss n ++ [(r n, (xss.getD n []).length)] := by simp [rowsL, List.range_succ]
theorem lvSum_rowsL (r : Nat → Option Addr) (xss : List (List Int)) : ∀ n, n ≤ xss.length → lvSum (rowsL r xss n) = sumL (xss.take n)
  | 0, _ => by simp [rowsL, lvSum, sumL]
  | n + 1, h => by rw [rowsL_succ, lvSum_append, lvSum_rowsL r xss n (by omega), sumL_take_succ (by omega)]; simp [lvSum]
def Cat.leaves (c : Cat) (p : CatP) : List Leaf := [(p.a1, c.src.length)] ++ ([(p.a2, c.tgt.length)] ++ ([(p.a3, c.idn.length)] ++ rowsL p.r c.comp c.comp.length))
theorem Cat.lvSum_leaves (c : Cat) (p : CatP) : lvSum (c.leaves p) = c.total := by
  simp only [Cat.leaves, lvSum_append, lvSum, lvSum_rowsL p.r c.comp _ (Nat.le_refl _), List.take_length, Cat.total, Nat.add_zero]
def Fun.leaves (f : Fun) (p : FunP) : List Leaf := f.s.leaves p.s ++ (f.t.leaves p.t ++ ([(p.b1, f.ob.length)] ++ [(p.b2, f.ar.length)]))
theorem Fun.lvSum_leaves (c : Fun) (p : FunP) : lvSum (c.leaves p) = c.total := by
  simp only [Fun.leaves, lvSum_append, lvSum, Cat.lvSum_leaves, Fun.total, Nat.add_zero]
theorem Con.lvSum_leaves (c : Con) (p : ConP) : lvSum (c.leaves p) = c.total := by simp [Con.leaves, lvSum, Con.total]
theorem Cat.total_le {c : Cat} (h : c.Small) : c.total ≤ 3 * 1048576 + 1048576 * 1048576 := by
  obtain ⟨h1, h2, h3, h4, h5, _⟩ := h
  have := sumL_le (m := 1048576) h5
  have h6 : c.comp.length * 1048576 ≤ 1048576 * 1048576 := Nat.mul_le_mul_right _ h4
  unfold Cat.total
  omega
theorem Marked.app' {lo hi : Nat} {A B C : GHeap} {ls ms : List Leaf} {k k' : Int} (h : Marked lo hi A B ls k) (h' : Marked lo hi B C ms k') (e : k' = k + lvSum ls) : Marked lo hi A C (ls ++ ms) k := by subst e; exact h.app h'
theorem IntsW.of_r {b : Nat} {H0 H : GHeap} {a : Option Addr} {xs : List Int} (h : IntsR b H0 a xs) (k : Keep b H0 H) : IntsW b H0.next H a xs.length := by
  rcases h with ⟨rfl, _⟩ | h
  · exact .inl rfl
  · exact .of_at h k
theorem ConW.of_r {b : Nat} {H0 H : GHeap} {c : Con} {p : ConP} (h : ConR b H0 c p) (k : Keep b H0 H) : ConW b H0.next H c p := IntsW.of_r h k
theorem IntsW.keep {lo lo' hi : Nat} {H H' : GHeap} {a : Option Addr} {n : Nat} (h : IntsW lo hi H a n) (k : Keep lo' H H') (hb : lo' ≤ lo) : IntsW lo hi H' a n := h.imp id fun ⟨g, e, xs, h1, h2, h3, h4, h5⟩ => ⟨g, e, xs, h1, h2, h3, k g _ (by omega) h4, h5⟩
theorem IntssW.keep {lo lo' hi : Nat} {H H' : GHeap} {a : Option Addr} {xss : List (List Int)} {r : Nat → Option Addr} (h : IntssW lo hi H a xss r) (k : Keep lo' H H') (hb : lo' ≤ lo) : IntssW lo hi H' a xss r := ⟨h.1.keep h.2.2 k hb, fun i hi => (h.2.1 i hi).keep k hb, h.2.2⟩
theorem CatW.keep {lo lo' hi : Nat} {H H' : GHeap} {c : Cat} {p : CatP} (h : CatW lo hi H c p) (k : Keep lo' H H') (hb : lo' ≤ lo) : CatW lo hi H' c p := ⟨h.1.keep k hb, h.2.1.keep k hb, h.2.2.1.keep k hb, h.2.2.2.keep k hb⟩
theorem FunW.keep {lo lo' hi : Nat} {H H' : GHeap} {c : Fun} {p : FunP} (h : FunW lo hi H c p) (k : Keep lo' H H') (hb : lo' ≤ lo) : FunW lo hi H' c p := ⟨h.1.keep k hb, h.2.1.keep k hb, h.2.2.1.keep k hb, h.2.2.2.keep k hb⟩
theorem ConW.keep {lo lo' hi : Nat} {H H' : GHeap} {c : Con} {p : ConP} (h : ConW lo hi H c p) (k : Keep lo' H H') (hb : lo' ≤ lo) : ConW lo hi H' c p := IntsW.keep h k hb
theorem Cat.Small.tot {c : Cat} (h : c.Small) : c.total ≤ 3 * 1048576 + 1048576 * 1048576 := Cat.total_le h
theorem Fun.Small.tot {c : Fun} (h : c.Small) : c.total ≤ 8 * 1048576 + 2 * 1048576 * 1048576 := by
  obtain ⟨h1, h2, h3, h4⟩ := h
  have := h1.tot
  have := h2.tot
  unfold Fun.total
  omega
theorem Con.Small.tot {c : Con} (h : c.Small) : c.total ≤ 1048576 := by
  obtain ⟨_, h2⟩ := h
  unfold Con.total
  omega
end Go.GL
namespace Go.Proofs.Ytagkeabmdodfiaa
open Go Go.GL Go.RowKit Go.Proofs
theorem markInt64S_own {g : Nat} {e : TypeId} {xs : List Int} {k : Int} {H : GHeap} (at0 : H.get g = some (.row (ints xs) e true)) (hk : 0 ≤ k) (hk' : k + xs.length ≤ 9223372036854775000) :
    GCalls Try.prog 43 [.slice (some ⟨g, 0, none⟩) xs.length xs.length, .int .i64 k] H (fun v H' => v = .int .i64 (k + xs.length) ∧ St [g] H H' ∧ H'.get g = some (.row (ints (seqL k xs.length)) e true)) := by
  refine GCalls.body (N := 19) (rs := [.tmp 4]) Try.func43 rfl rfl rfl rfl (fun Qx hret hend => ?_)
  refine .forget (fr' := [(0, some _), (1, some _)]) ⟨rfl, rfl, trivial⟩ ?_
  have lt_at0 := GHeap.ltg at0
  refine .seq (fun K1 hK1 => .region (.mv rfl (.nil (hK1 _ _ (.seq (fun K2 hK2 => .seq (fun K3 hK3 => .region (.mv rfl (.nil (hK3 _ _ ?_))))))))))
  refine .block ?_
  refine .loopR (σ := Nat × Int × List Int) [(0, some _)] (fun (i, q, ys) => [(5, some (.int .i64 (i : Int))), (1, some (.int .i64 q))]) (fun (i, q, ys) H' => St [g] H H' ∧ H'.get g = some (.row (ints ys) e true) ∧ i ≤ xs.length ∧ q = k + i ∧ ys.length = xs.length ∧ ∀ j, j < i → ys.getD j 0 = k + j) (fun (i, q, ys) => xs.length - i) ((0, k, xs)) ⟨rfl, trivial⟩ ⟨rfl, rfl, trivial⟩ ?_ ?_
  ·
   refine ⟨.refl _ _, by first | assumption | exact at0 | simpa using at0, ?_⟩
   exact ⟨by omega, by omega, rfl, fun _ _ => by omega⟩
  rintro ⟨i, q, ys⟩ HL1 ⟨lst1, at_L0, hI⟩ KL1 hKL1
  refine .forget (fr' := [(5, some (.int .i64 (i : Int))), (1, some (.int .i64 q)), (0, some _)]) ⟨rfl, rfl, rfl, trivial⟩ ?_
  have nx_HL1 := lst1.nx
  have lt_at_L0 := GHeap.ltg at_L0
  obtain ⟨hi, hq, hyl, ha⟩ := hI
  have hsl := SlA.of_ints at_L0 hyl
  refine .seq (fun K4 hK4 => .seq (fun K5 hK5 => .region (.mv rfl (.mv rfl (.m rfl rfl rfl (.len sl_22_A rfl) (.m rfl rfl rfl (.cmp rfl rfl rfl) (.nil (hK5 _ _ ?_))))))))
  refine .cond rfl (fun h9 => ?_) (fun h9 => ?_)
  ·
   try simp only [sps] at h9
   refine .skip ?_
   refine hK4 _ _ (.seq (fun K6 hK6 => ?_))
   refine .block ?_
   refine .seq (fun K7 hK7 => .region (.mv rfl (.mv rfl (.mv rfl ?_))))
   refine .m rfl rfl rfl (.idxN sl_22_A (by first | assumption | exact SlA.of_row at_L0 (by first | rfl | (simp; done) | (simp <;> omega))) rfl rfl (by omega)) ?_
   refine .r0 rfl rfl (.storeI rfl sz_2_E rfl rfl (by assumption) (by first | omega | (simp <;> omega))) ?_
   rintro _ H4004 ⟨rfl, st4004, at4004⟩
   have nx_H4004 := st4004.nx
   replace lst1 := lst1.st st4004 (fun k hk ho => by simp only [out, and_true] at ho ⊢ <;> first | exact ho | exact ho.1 | exact ho.2 | exact ho.2.1 | exact ho.2.2 | exact ho.2.2.1 | exact ho.2.2.2 | omega)
   have lt_at4004 := GHeap.ltg at4004
   refine .nil (hK7 _ _ (.region (.mv rfl ?_)))
   refine .m rfl rfl rfl (.add rfl rfl rfl (by omega) (by omega)) ?_
   refine .mv rfl (.nil (hK6 _ _ (.region (.mv rfl ?_))))
   refine .m rfl rfl rfl (.add rfl rfl rfl (by omega) (by omega)) ?_
   refine .mv rfl (.nil ?_)
   refine hKL1 ((i + 1, q + 1, ys.set (0 + i) q)) _ _ ?_ ?_ ⟨rfl, rfl, rfl, trivial⟩
   ·
    refine ⟨lst1, by assumption, ?_⟩
    refine ⟨by omega, by omega, by simpa using hyl, fun j hj => ?_⟩
    rw [Nat.zero_add, getD_set (by omega)]
    split
    · rename_i e; rw [e]; exact hq
    · exact ha j (by omega)
   (dsimp only; omega)
  try simp only [sps] at h9
  refine .exit ?_
  refine hK2 _ _ (.seq (fun K8 hK8 => .region (.mv rfl (.mv rfl (.nil (hK8 _ _ ?_))))))
  refine .ret ?_
  refine hret _ _ ?_
  refine ⟨_, rfl, ?_⟩
  obtain rfl : ys = seqL k xs.length := eq_of_getD (by rw [hyl, length_seqL]) fun j hj => by rw [length_seqL] at hj; rw [ha j (by omega), seqL_get hj]
  obtain rfl : i = xs.length := by omega
  exact ⟨by rw [hq], lst1, at_L0⟩
theorem markInt64S_nil {a : Option Addr} {k : Int} {H : GHeap} (hk : 0 ≤ k) (hk' : k ≤ 9223372036854775000) :
    GCalls Try.prog 43 [.slice a 0 0, .int .i64 k] H (fun v H' => v = .int .i64 k ∧ H' = H) := by
  refine GCalls.body (N := 19) (rs := [.tmp 4]) Try.func43 rfl rfl rfl rfl (fun Qx hret hend => ?_)
  refine .forget (fr' := [(0, some _), (1, some _)]) ⟨rfl, rfl, trivial⟩ ?_
  refine .seq (fun K1 hK1 => .region (.mv rfl (.nil (hK1 _ _ (.seq (fun K2 hK2 => .seq (fun K3 hK3 => .region (.mv rfl (.nil (hK3 _ _ ?_))))))))))
  refine .block ?_
  refine .loopR (σ := Unit) [(0, some _)] (fun u => [(5, some (.int .i64 0)), (1, some (.int .i64 k))]) (fun u H' => H = H' ∧ True) (fun u => 0) (()) ⟨rfl, trivial⟩ ⟨rfl, rfl, trivial⟩ ?_ ?_
  ·
   refine ⟨rfl, ?_⟩
   exact trivial
  rintro u _ ⟨rfl, hI⟩ KL1 hKL1
  refine .forget (fr' := [(5, some (.int .i64 0)), (1, some (.int .i64 k)), (0, some _)]) ⟨rfl, rfl, rfl, trivial⟩ ?_
  refine .seq (fun K4 hK4 => .seq (fun K5 hK5 => .region (.mv rfl (.mv rfl (.m rfl rfl rfl (.len sl_22_A rfl) (.m rfl rfl rfl (.cmp rfl rfl rfl) (.nil (hK5 _ _ ?_))))))))
  refine .cond rfl (fun h9 => ?_) (fun h9 => ?_)
  ·
   exact absurd h9 (by simp)
  try simp only [sps] at h9
  refine .exit ?_
  refine hK2 _ _ (.seq (fun K6 hK6 => .region (.mv rfl (.mv rfl (.nil (hK6 _ _ ?_))))))
  refine .ret ?_
  refine hret _ _ ?_
  refine ⟨_, rfl, ?_⟩
  exact ⟨rfl, rfl⟩
theorem markInt64S_c {a : Option Addr} {n lo hi : Nat} {k : Int} {H : GHeap} (h : IntsW lo hi H a n := by assumption) (hk : 0 ≤ k := by omega) (hk' : k + n ≤ 9223372036854775000 := by omega) :
    GCalls Try.prog 43 [.slice a n n, .int .i64 k] H (fun v H' => v = .int .i64 (k + n) ∧ Marked lo hi H H' [(a, n)] k) := by
  by_cases h0 : n = 0
  · subst h0
    refine (markInt64S_nil hk (by omega)).mono fun v H' ⟨h1, h2⟩ => ?_
    subst h2
    exact ⟨by rw [h1]; simp, .refl _ _ _, .refl _ _, fun _ => ⟨.inl rfl, trivial⟩⟩
  · rcases h with h | ⟨g, e, xs, rfl, h2, h3, h4, rfl⟩
    · exact absurd h h0
    · exact (markInt64S_own h4 hk hk').mono fun v H' ⟨k1, k2, k3⟩ => ⟨k1, .one h2 h3 h4 k2 k3 h0⟩
theorem heldInt64S_c {a : Option Addr} {n b : Nat} {k : Int} {H : GHeap} (h : Held b H [(a, n)] k := by assumption) (hk : 0 ≤ k := by omega) (hk' : k + n ≤ 9223372036854775000 := by omega) :
    GCalls Try.prog 44 [.slice a n n, .int .i64 k] H (Ret (.int .i64 (k + n)) H) := by
  have hi := h.ints
  have hl : (seqL k n).length = n := length_seqL k n
  have hsl : SlA H a n (fun i => .int .i64 ((seqL k n).getD i 0)) := by have hi' := hi; unfold Ints at hi'; rw [hl] at hi'; exact hi'
  refine GCalls.body (N := 21) (rs := [.tmp 4]) Try.func44 rfl rfl rfl rfl (fun Qx hret hend => ?_)
  refine .forget (fr' := [(0, some _), (1, some _)]) ⟨rfl, rfl, trivial⟩ ?_
  refine .seq (fun K1 hK1 => .region (.mv rfl (.nil (hK1 _ _ (.seq (fun K2 hK2 => .seq (fun K3 hK3 => .region (.mv rfl (.nil (hK3 _ _ ?_))))))))))
  refine .block ?_
  refine .loopR (σ := Nat × Int) [(0, some _)] (fun (i, q) => [(5, some (.int .i64 (i : Int))), (1, some (.int .i64 q))]) (fun (i, q) H' => H = H' ∧ i ≤ n ∧ q = k + i) (fun (i, q) => n - i) ((0, k)) ⟨rfl, trivial⟩ ⟨rfl, rfl, trivial⟩ ?_ ?_
  ·
   refine ⟨rfl, ?_⟩
   exact ⟨by omega, by omega⟩
  rintro ⟨i, q⟩ _ ⟨rfl, hI⟩ KL1 hKL1
  refine .forget (fr' := [(5, some (.int .i64 (i : Int))), (1, some (.int .i64 q)), (0, some _)]) ⟨rfl, rfl, rfl, trivial⟩ ?_
  obtain ⟨hi, hq⟩ := hI
  refine .seq (fun K4 hK4 => .seq (fun K5 hK5 => .region (.mv rfl (.mv rfl (.m rfl rfl rfl (.len sl_22_A rfl) (.m rfl rfl rfl (.cmp rfl rfl rfl) (.nil (hK5 _ _ ?_))))))))
  refine .cond rfl (fun h9 => ?_) (fun h9 => ?_)
  ·
   try simp only [sps] at h9
   refine .skip ?_
   refine hK4 _ _ (.seq (fun K6 hK6 => ?_))
   refine .block ?_
   refine .seq (fun K7 hK7 => .seq (fun K8 hK8 => .region (.mv rfl (.mv rfl ?_))))
   refine .m rfl rfl rfl (.idxN sl_22_A hsl rfl rfl (by omega)) ?_
   refine .m rfl rfl rfl (.loadE on_2_A hsl rfl (by omega)) ?_
   refine .mv rfl (.m rfl rfl rfl (.cmp rfl rfl rfl) (.nil (hK8 _ _ ?_)))
   refine .cond rfl (fun h17 => ?_) (fun h17 => ?_)
   ·
    simp only [sps] at h17
    rw [seqL_get (by omega)] at h17
    refine .seq (fun K9 hK9 => .region (.mv rfl (.nil (hK9 _ _ ?_))))
    refine .ret ?_
    refine hret _ _ ?_
    refine ⟨_, rfl, ?_⟩
    exact absurd hq.symm (by omega)
   try simp only [sps] at h17
   refine .skip ?_
   refine hK7 _ _ (.region (.mv rfl ?_))
   refine .m rfl rfl rfl (.add rfl rfl rfl (by omega) (by omega)) ?_
   refine .mv rfl (.nil (hK6 _ _ (.region (.mv rfl ?_))))
   refine .m rfl rfl rfl (.add rfl rfl rfl (by omega) (by omega)) ?_
   refine .mv rfl (.nil ?_)
   refine hKL1 ((i + 1, q + 1)) _ _ ?_ ?_ ⟨rfl, rfl, rfl, trivial⟩
   ·
    refine ⟨rfl, ?_⟩
    exact ⟨by omega, by omega⟩
   (dsimp only; omega)
  try simp only [sps] at h9
  refine .exit ?_
  refine hK2 _ _ (.seq (fun K10 hK10 => .region (.mv rfl (.mv rfl (.nil (hK10 _ _ ?_))))))
  refine .ret ?_
  refine hret _ _ ?_
  refine ⟨_, rfl, ?_⟩
  obtain rfl : i = n := by omega
  exact .of (by rw [hq])
theorem markInt64SS_c {a : Option Addr} {xss : List (List Int)} {r : Nat → Option Addr} {lo hi : Nat} {k : Int} {H : GHeap} (h : IntssW lo hi H a xss r := by assumption) (hk : 0 ≤ k := by omega) (hk' : k + sumL xss ≤ 9223372036854775000 := by omega) (hl : xss.length ≤ 1048576 := by omega) :
    GCalls Try.prog 15 [.slice a xss.length xss.length, .int .i64 k] H (fun v H' => v = .int .i64 (k + sumL xss) ∧ Marked lo hi H H' (rowsL r xss xss.length) k) := by
  refine GCalls.body (N := 19) (rs := [.tmp 4]) Try.func15 rfl rfl rfl rfl (fun Qx hret hend => ?_)
  refine .forget (fr' := [(0, some _), (1, some _)]) ⟨rfl, rfl, trivial⟩ ?_
  refine .seq (fun K1 hK1 => .region (.mv rfl (.nil (hK1 _ _ (.seq (fun K2 hK2 => .seq (fun K3 hK3 => .region (.mv rfl (.nil (hK3 _ _ ?_))))))))))
  refine .block ?_
  refine .loopR (σ := Nat × Int) [(0, some _)] (fun (i, q) => [(5, some (.int .i64 (i : Int))), (1, some (.int .i64 q))]) (fun (i, q) H' => i ≤ xss.length ∧ q = k + sumL (xss.take i) ∧ Marked lo hi H H' (rowsL r xss i) k) (fun (i, q) => xss.length - i) ((0, k)) ⟨rfl, trivial⟩ ⟨rfl, rfl, trivial⟩ ?_ ?_
  ·
   exact ⟨by omega, by simp [sumL], .nil _ _ _ _⟩
  rintro ⟨i, q⟩ H' hI KL1 hKL1
  refine .forget (fr' := [(5, some (.int .i64 (i : Int))), (1, some (.int .i64 q)), (0, some _)]) ⟨rfl, rfl, rfl, trivial⟩ ?_
  obtain ⟨hi', hq, hm⟩ := hI
  have hw := h.stm hm.stm
  have hsl := hw.1
  have hle1 := sumL_take_le (xss := xss) (k := i + 1)
  refine .seq (fun K4 hK4 => .seq (fun K5 hK5 => .region (.mv rfl (.mv rfl (.m rfl rfl rfl (.len sl_23_B rfl) (.m rfl rfl rfl (.cmp rfl rfl rfl) (.nil (hK5 _ _ ?_))))))))
  refine .cond rfl (fun h9 => ?_) (fun h9 => ?_)
  ·
   simp only [sps] at h9
   have hts := sumL_take_succ (xss := xss) (k := i) (by omega)
   refine .skip ?_
   refine hK4 _ _ (.seq (fun K6 hK6 => ?_))
   refine .block ?_
   refine .region (.mv rfl (.mv rfl ?_))
   refine .m rfl rfl rfl (.idxN sl_23_B hsl rfl rfl (by omega)) ?_
   refine .m rfl rfl rfl (.loadE on_22_B hsl rfl (by omega)) ?_
   refine .mv rfl ?_
   refine .call rfl rfl rfl rfl @Try.call43 rfl (markInt64S_c (hw.2.1 i (by omega)) (by omega) (by omega)) ?_
   rintro _ H17 ⟨rfl, mk17⟩
   refine .mv rfl (.nil (hK6 _ _ (.region (.mv rfl ?_))))
   refine .m rfl rfl rfl (.add rfl rfl rfl (by omega) (by omega)) ?_
   refine .mv rfl (.nil ?_)
   refine hKL1 ((i + 1, _)) _ _ ?_ ?_ ⟨rfl, rfl, rfl, trivial⟩
   ·
    exact ⟨by omega, by rw [sumL_take_succ (by omega)]; omega, by rw [rowsL_succ]; exact hm.app' mk17 (by rw [lvSum_rowsL _ _ _ (by omega)]; omega)⟩
   (dsimp only; omega)
  try simp only [sps] at h9
  refine .exit ?_
  refine hK2 _ _ (.seq (fun K7 hK7 => .region (.mv rfl (.mv rfl (.nil (hK7 _ _ ?_))))))
  refine .ret ?_
  refine hret _ _ ?_
  refine ⟨_, rfl, ?_⟩
  obtain rfl : i = xss.length := by omega
  rw [List.take_length] at hq
  exact ⟨by rw [hq], hm⟩
theorem heldRow {b : Nat} {H : GHeap} {r : Nat → Option Addr} {xss : List (List Int)} {k : Int} : ∀ {n : Nat}, n ≤ xss.length → Held b H (rowsL r xss n) k → ∀ i, i < n → Held b H [(r i, (xss.getD i []).length)] (k + sumL (xss.take i))
  | 0, _, _, i, hi => by omega
  | n + 1, hn, h, i, hi => by
    rw [rowsL_succ] at h
    obtain ⟨h1, h2⟩ := h.app
    rw [lvSum_rowsL _ _ _ (by omega)] at h2
    by_cases e : i = n
    · subst e; exact h2
    · exact heldRow (by omega) h1 i (by omega)
theorem heldInt64SS_c {a : Option Addr} {xss : List (List Int)} {r : Nat → Option Addr} {b : Nat} {k : Int} {H : GHeap} (hsl : SlA H a xss.length (fun i => .slice (r i) (xss.getD i []).length (xss.getD i []).length) := by assumption) (h : Held b H (rowsL r xss xss.length) k := by assumption) (hk : 0 ≤ k := by omega) (hk' : k + sumL xss ≤ 9223372036854775000 := by omega) (hl : xss.length ≤ 1048576 := by omega) :
    GCalls Try.prog 16 [.slice a xss.length xss.length, .int .i64 k] H (Ret (.int .i64 (k + sumL xss)) H) := by
  refine GCalls.body (N := 21) (rs := [.tmp 4]) Try.func16 rfl rfl rfl rfl (fun Qx hret hend => ?_)
  refine .forget (fr' := [(0, some _), (1, some _)]) ⟨rfl, rfl, trivial⟩ ?_
  refine .seq (fun K1 hK1 => .region (.mv rfl (.nil (hK1 _ _ (.seq (fun K2 hK2 => .seq (fun K3 hK3 => .region (.mv rfl (.nil (hK3 _ _ ?_))))))))))
  refine .block ?_
  refine .loopR (σ := Nat × Int) [(0, some _)] (fun (i, q) => [(5, some (.int .i64 (i : Int))), (1, some (.int .i64 q))]) (fun (i, q) H' => H = H' ∧ i ≤ xss.length ∧ q = k + sumL (xss.take i)) (fun (i, q) => xss.length - i) ((0, k)) ⟨rfl, trivial⟩ ⟨rfl, rfl, trivial⟩ ?_ ?_
  ·
   refine ⟨rfl, ?_⟩
   exact ⟨by omega, by simp [sumL]⟩
  rintro ⟨i, q⟩ _ ⟨rfl, hI⟩ KL1 hKL1
  refine .forget (fr' := [(5, some (.int .i64 (i : Int))), (1, some (.int .i64 q)), (0, some _)]) ⟨rfl, rfl, rfl, trivial⟩ ?_
  obtain ⟨hi', hq⟩ := hI
  have hle1 := sumL_take_le (xss := xss) (k := i + 1)
  refine .seq (fun K4 hK4 => .seq (fun K5 hK5 => .region (.mv rfl (.mv rfl (.m rfl rfl rfl (.len sl_23_B rfl) (.m rfl rfl rfl (.cmp rfl rfl rfl) (.nil (hK5 _ _ ?_))))))))
  refine .cond rfl (fun h9 => ?_) (fun h9 => ?_)
  ·
   simp only [sps] at h9
   have hts := sumL_take_succ (xss := xss) (k := i) (by omega)
   have hr := heldRow (Nat.le_refl _) h i (by omega)
   rw [← hq] at hr
   refine .skip ?_
   refine hK4 _ _ (.seq (fun K6 hK6 => ?_))
   refine .block ?_
   refine .seq (fun K7 hK7 => .region (.mv rfl (.mv rfl ?_)))
   refine .m rfl rfl rfl (.idxN sl_23_B hsl rfl rfl (by omega)) ?_
   refine .m rfl rfl rfl (.loadE on_22_B hsl rfl (by omega)) ?_
   refine .mv rfl ?_
   refine .callQ rfl rfl rfl rfl @Try.call44 rfl (heldInt64S_c) ?_
   refine .mv rfl (.nil (hK7 _ _ (.seq (fun K8 hK8 => .region (.mv rfl (.m rfl rfl rfl (.cmp rfl rfl rfl) (.nil (hK8 _ _ ?_))))))))
   refine .cond rfl (fun h19 => ?_) (fun h19 => ?_)
   ·
    exact absurd h19 (by simp; omega)
   try simp only [sps] at h19
   refine .skip ?_
   refine hK6 _ _ (.region (.mv rfl ?_))
   refine .m rfl rfl rfl (.add rfl rfl rfl (by omega) (by omega)) ?_
   refine .mv rfl (.nil ?_)
   refine hKL1 ((i + 1, _)) _ _ ?_ ?_ ⟨rfl, rfl, rfl, trivial⟩
   ·
    refine ⟨rfl, ?_⟩
    exact ⟨by omega, by rw [sumL_take_succ (by omega)]; omega⟩
   (dsimp only; omega)
  try simp only [sps] at h9
  refine .exit ?_
  refine hK2 _ _ (.seq (fun K9 hK9 => .region (.mv rfl (.mv rfl (.nil (hK9 _ _ ?_))))))
  refine .ret ?_
  refine hret _ _ ?_
  refine ⟨_, rfl, ?_⟩
  obtain rfl : i = xss.length := by omega
  rw [List.take_length] at hq
  exact .of (by rw [hq])
theorem heldInt64SSw_c {a : Option Addr} {xss : List (List Int)} {r : Nat → Option Addr} {lo hi b : Nat} {k : Int} {H : GHeap} (w : IntssW lo hi H a xss r := by assumption) (h : Held b H (rowsL r xss xss.length) k := by assumption) (hk : 0 ≤ k := by omega) (hk' : k + sumL xss ≤ 9223372036854775000 := by omega) (hl : xss.length ≤ 1048576 := by omega) :
    GCalls Try.prog 16 [.slice a xss.length xss.length, .int .i64 k] H (Ret (.int .i64 (k + sumL xss)) H) := heldInt64SS_c w.1 h hk hk' hl
theorem markCategory_c {c : Cat} {p : CatP} {lo hi : Nat} {k : Int} {H : GHeap} (w : CatW lo hi H c p := by assumption) (hs : c.Small := by assumption) (hk : 0 ≤ k := by omega) (hk' : k + c.total ≤ 9223372036854775000 := by omega) (hhi : hi ≤ H.next := by omega) :
    GCalls Try.prog 26 [.agg (c.cells p).toArray, .int .i64 k] H (fun v H' => v = .int .i64 (k + c.total) ∧ Marked lo hi H H' (c.leaves p) k) := by
  obtain ⟨w1, w2, w3, w4⟩ := w
  have ht : c.total = c.src.length + (c.tgt.length + (c.idn.length + sumL c.comp)) := rfl
  obtain ⟨s1, s2, s3, s4, s5, s6⟩ := hs
  refine GCalls.body (N := 22) (rs := [.tmp 4]) Try.func26 rfl rfl rfl rfl (fun Qx hret hend => ?_)
  refine .forget (fr' := [(0, some _), (1, some _)]) ⟨rfl, rfl, trivial⟩ ?_
  refine .seq (fun K1 hK1 => .region ?_)
  refine .r rfl rfl rfl (.boxR rfl sz_31_D rfl) ?_
  rintro _ H2 ⟨g2, rfl, le2, ge2, at2⟩
  have nx_H2 := le2.1
  have lt_at2 := GHeap.ltg at2
  have mm2 : MemN _ _ _ _ _ := ⟨rfl, Mem.of_get at2⟩
  replace w1 := w1.stm (.of_le le2)
  replace w2 := w2.stm (.of_le le2)
  replace w3 := w3.stm (.of_le le2)
  replace w4 := w4.stm (.of_le le2)
  have hc : Mem _ g2 0 (c.cells p) := Mem.of_get at2
  refine .mv rfl (.nil (hK1 _ _ (.seq (fun K2 hK2 => .region ?_))))
  have c1 : H2.cell g2 (0 + 1) = some (.slice p.a1 c.src.length c.src.length) := Mem.of_get at2 1 _ rfl
  refine .m rfl rfl rfl (.fieldAddr fo_31_1_B rfl) ?_
  refine .m rfl rfl rfl (.load on_22_B rfl (by first | assumption | exact Mem.of_get at2 1 _ rfl)) ?_
  refine .mv rfl ?_
  refine .call rfl rfl rfl rfl @Try.call43 rfl (markInt64S_c) ?_
  rintro _ H8 ⟨rfl, mk8⟩
  have sm8 := mk8.stm
  have nx_H8 := sm8.nx
  replace at2 := sm8.same _ _ (by omega) at2
  replace w1 := w1.stm sm8
  replace w2 := w2.stm sm8
  replace w3 := w3.stm sm8
  replace w4 := w4.stm sm8
  clear mm2
  have mm2 : MemN _ _ _ _ _ := ⟨rfl, Mem.of_get at2⟩
  refine .mv rfl (.nil (hK2 _ _ (.seq (fun K3 hK3 => .region ?_))))
  have c2 : H8.cell g2 (0 + 2) = some (.slice p.a2 c.tgt.length c.tgt.length) := Mem.of_get at2 2 _ rfl
  refine .m rfl rfl rfl (.fieldAddr fo_31_2_B rfl) ?_
  refine .m rfl rfl rfl (.load on_22_B rfl (by first | assumption | exact Mem.of_get at2 2 _ rfl)) ?_
  refine .mv rfl ?_
  refine .call rfl rfl rfl rfl @Try.call43 rfl (markInt64S_c) ?_
  rintro _ H12 ⟨rfl, mk12⟩
  have sm12 := mk12.stm
  have nx_H12 := sm12.nx
  replace at2 := sm12.same _ _ (by omega) at2
  replace w1 := w1.stm sm12
  replace w2 := w2.stm sm12
  replace w3 := w3.stm sm12
  replace w4 := w4.stm sm12
  clear mm2
  have mm2 : MemN _ _ _ _ _ := ⟨rfl, Mem.of_get at2⟩
  refine .mv rfl (.nil (hK3 _ _ (.seq (fun K4 hK4 => .region ?_))))
  have c3 : H12.cell g2 (0 + 3) = some (.slice p.a3 c.idn.length c.idn.length) := Mem.of_get at2 3 _ rfl
  refine .m rfl rfl rfl (.fieldAddr fo_31_3_B rfl) ?_
  refine .m rfl rfl rfl (.load on_22_B rfl (by first | assumption | exact Mem.of_get at2 3 _ rfl)) ?_
  refine .mv rfl ?_
  refine .call rfl rfl rfl rfl @Try.call43 rfl (markInt64S_c) ?_
  rintro _ H16 ⟨rfl, mk16⟩
  have sm16 := mk16.stm
  have nx_H16 := sm16.nx
  replace at2 := sm16.same _ _ (by omega) at2
  replace w1 := w1.stm sm16
  replace w2 := w2.stm sm16
  replace w3 := w3.stm sm16
  replace w4 := w4.stm sm16
  clear mm2
  have mm2 : MemN _ _ _ _ _ := ⟨rfl, Mem.of_get at2⟩
  refine .mv rfl (.nil (hK4 _ _ (.seq (fun K5 hK5 => .region ?_))))
  have c4 : H16.cell g2 (0 + 4) = some (.slice p.a4 c.comp.length c.comp.length) := Mem.of_get at2 4 _ rfl
  refine .m rfl rfl rfl (.fieldAddr fo_31_4_B rfl) ?_
  refine .m rfl rfl rfl (.load on_23_B rfl (by first | assumption | exact Mem.of_get at2 4 _ rfl)) ?_
  refine .mv rfl ?_
  refine .call rfl rfl rfl rfl @Try.call15 rfl (markInt64SS_c) ?_
  rintro _ H20 ⟨rfl, mk20⟩
  have sm20 := mk20.stm
  have nx_H20 := sm20.nx
  replace at2 := sm20.same _ _ (by omega) at2
  replace w1 := w1.stm sm20
  replace w2 := w2.stm sm20
  replace w3 := w3.stm sm20
  replace w4 := w4.stm sm20
  clear mm2
  have mm2 : MemN _ _ _ _ _ := ⟨rfl, Mem.of_get at2⟩
  refine .mv rfl (.nil (hK5 _ _ (.seq (fun K6 hK6 => .region (.mv rfl (.mv rfl (.nil (hK6 _ _ ?_))))))))
  refine .ret ?_
  refine hret _ _ ?_
  refine ⟨_, rfl, ?_⟩
  exact ⟨by rw [ht]; congr 1; omega, .le_left le2 (mk8.app' (mk12.app' (mk16.app' mk20 (by simp [lvSum])) (by simp [lvSum])) (by simp [lvSum]))⟩
theorem heldCategory_c {c : Cat} {p : CatP} {lo hi b : Nat} {k : Int} {H : GHeap} (w : CatW lo hi H c p := by assumption) (h : Held b H (c.leaves p) k := by assumption) (hs : c.Small := by assumption) (hk : 0 ≤ k := by omega) (hk' : k + c.total ≤ 9223372036854775000 := by omega) :
    GCalls Try.prog 27 [.agg (c.cells p).toArray, .int .i64 k] H (Ret (.int .i64 (k + c.total)) H) := by
  refine GCalls.ret rfl ?_
  have ht : c.total = c.src.length + (c.tgt.length + (c.idn.length + sumL c.comp)) := rfl
  obtain ⟨s1, s2, s3, s4, s5, s6⟩ := hs
  obtain ⟨v1, h⟩ := h.app
  obtain ⟨v2, h⟩ := h.app
  obtain ⟨v3, v4⟩ := h.app
  simp only [lvSum, Nat.add_zero] at v2 v3 v4
  refine GCalls.body (N := 30) (rs := [.tmp 4]) Try.func27 rfl rfl rfl rfl (fun Qx hret hend => ?_)
  refine .forget (fr' := [(0, some _), (1, some _)]) ⟨rfl, rfl, trivial⟩ ?_
  have hle := GHeap.Le.refl H
  refine .seq (fun K1 hK1 => .region ?_)
  refine .r rfl rfl rfl (.boxR rfl sz_31_D rfl) ?_
  rintro _ H2 ⟨g2, rfl, le2, ge2, at2⟩
  have nx_H2 := le2.1
  replace hle := hle.trans le2
  have lt_at2 := GHeap.ltg at2
  have mm2 : MemN _ _ _ _ _ := ⟨rfl, Mem.of_get at2⟩
  refine .mv rfl (.nil (hK1 _ _ (.seq (fun K2 hK2 => .region ?_))))
  replace v1 := v1.keep (.of_le le2) (Nat.zero_le _)
  replace v2 := v2.keep (.of_le le2) (Nat.zero_le _)
  replace v3 := v3.keep (.of_le le2) (Nat.zero_le _)
  replace v4 := v4.keep (.of_le le2) (Nat.zero_le _)
  have hsl := w.2.2.2.1.mono le2
  have c1 : H2.cell g2 (0 + 1) = some (.slice p.a1 c.src.length c.src.length) := Mem.of_get at2 1 _ rfl
  have c2 : H2.cell g2 (0 + 2) = some (.slice p.a2 c.tgt.length c.tgt.length) := Mem.of_get at2 2 _ rfl
  have c3 : H2.cell g2 (0 + 3) = some (.slice p.a3 c.idn.length c.idn.length) := Mem.of_get at2 3 _ rfl
  have c4 : H2.cell g2 (0 + 4) = some (.slice p.a4 c.comp.length c.comp.length) := Mem.of_get at2 4 _ rfl
  refine .m rfl rfl rfl (.fieldAddr fo_31_1_B rfl) ?_
  refine .m rfl rfl rfl (.load on_22_B rfl (by first | assumption | exact Mem.of_get at2 1 _ rfl)) ?_
  refine .mv rfl ?_
  refine .callQ rfl rfl rfl rfl @Try.call44 rfl (heldInt64S_c) ?_
  refine .mv rfl (.nil (hK2 _ _ (.seq (fun K3 hK3 => .seq (fun K4 hK4 => .region (.mv rfl (.m rfl rfl rfl (.cmp rfl rfl rfl) (.nil (hK4 _ _ ?_)))))))))
  refine .cond rfl (fun h10 => ?_) (fun h10 => ?_)
  ·
   exact absurd h10 (by simp; omega)
  try simp only [sps] at h10
  refine .skip ?_
  refine hK3 _ _ (.seq (fun K5 hK5 => .region (.m rfl rfl rfl (.fieldAddr fo_31_2_B rfl) ?_)))
  refine .m rfl rfl rfl (.load on_22_B rfl (by first | assumption | exact Mem.of_get at2 2 _ rfl)) ?_
  refine .mv rfl ?_
  refine .callQ rfl rfl rfl rfl @Try.call44 rfl (heldInt64S_c) ?_
  refine .mv rfl (.nil (hK5 _ _ (.seq (fun K6 hK6 => .seq (fun K7 hK7 => .region (.mv rfl (.m rfl rfl rfl (.cmp rfl rfl rfl) (.nil (hK7 _ _ ?_)))))))))
  refine .cond rfl (fun h16 => ?_) (fun h16 => ?_)
  ·
   exact absurd h16 (by simp; omega)
  try simp only [sps] at h16
  refine .skip ?_
  refine hK6 _ _ (.seq (fun K8 hK8 => .region (.m rfl rfl rfl (.fieldAddr fo_31_3_B rfl) ?_)))
  refine .m rfl rfl rfl (.load on_22_B rfl (by first | assumption | exact Mem.of_get at2 3 _ rfl)) ?_
  refine .mv rfl ?_
  refine .callQ rfl rfl rfl rfl @Try.call44 rfl (heldInt64S_c) ?_
  refine .mv rfl (.nil (hK8 _ _ (.seq (fun K9 hK9 => .seq (fun K10 hK10 => .region (.mv rfl (.m rfl rfl rfl (.cmp rfl rfl rfl) (.nil (hK10 _ _ ?_)))))))))
  refine .cond rfl (fun h22 => ?_) (fun h22 => ?_)
  ·
   exact absurd h22 (by simp; omega)
  try simp only [sps] at h22
  refine .skip ?_
  refine hK9 _ _ (.seq (fun K11 hK11 => .region (.m rfl rfl rfl (.fieldAddr fo_31_4_B rfl) ?_)))
  refine .m rfl rfl rfl (.load on_23_B rfl (by first | assumption | exact Mem.of_get at2 4 _ rfl)) ?_
  refine .mv rfl ?_
  refine .callQ rfl rfl rfl rfl @Try.call16 rfl (heldInt64SS_c) ?_
  refine .mv rfl (.nil (hK11 _ _ (.seq (fun K12 hK12 => .seq (fun K13 hK13 => .region (.mv rfl (.m rfl rfl rfl (.cmp rfl rfl rfl) (.nil (hK13 _ _ ?_)))))))))
  refine .cond rfl (fun h28 => ?_) (fun h28 => ?_)
  ·
   exact absurd h28 (by simp; omega)
  try simp only [sps] at h28
  refine .skip ?_
  refine hK12 _ _ (.seq (fun K14 hK14 => .region (.mv rfl (.mv rfl (.nil (hK14 _ _ ?_))))))
  refine .ret ?_
  refine hret _ _ ?_
  refine ⟨_, rfl, ?_⟩
  exact ⟨by rw [ht]; congr 1; omega, hle⟩
end Go.Proofs.Ytagkeabmdodfiaa
namespace Go.Proofs.Ytagkeabmdodfiaa
open Go Go.GL Go.RowKit Go.Proofs
theorem szInt64S_s {a : Option Addr} {xs : List Int} {left : Int} {H : GHeap} (hx : xs.length ≤ 9223372036854775807 := by omega) (h0 : 0 ≤ left := by omega) (h1 : left ≤ 1048576 := by omega) :
    GCalls Try.prog 37 [.slice a xs.length xs.length, .int .i64 left] H (SzR left (xs.length ≤ 1048576) H) :=
  (szInt64S_c hx h0 h1).mono fun _ _ ⟨e, l, h2, h3, h4, h5⟩ => ⟨e, l, h2, h3, h4, fun h => by have := h5 h; omega⟩
theorem szInt64SS_s {a : Option Addr} {xss : List (List Int)} {r : Nat → Option Addr} {left : Int} {H : GHeap} (h : Intss H a xss r := by assumption) (hx : xss.length ≤ 9223372036854775807 := by omega) (hy : ∀ i, I64s (xss.getD i []) := by assumption) (h0 : 0 ≤ left := by omega) (h1 : left ≤ 1048576 := by omega) :
    GCalls Try.prog 45 [.slice a xss.length xss.length, .int .i64 left] H (SzR left (xss.length ≤ 1048576 ∧ ∀ i, (xss.getD i []).length ≤ 1048576) H) :=
  (szInt64SS_c h hx hy h0 h1).mono fun _ _ ⟨e, l, h2, h3, h4, h5⟩ => ⟨e, l, h2, h3, h4, fun h => ⟨by have := (h5 h).1; omega, fun i => by have := (h5 h).2 i; omega⟩⟩
end Go.Proofs.Ytagkeabmdodfiaa
namespace Go.Proofs.Ytagkeabmdodfiaa
open Go Go.GL Go.RowKit Go.Proofs
end Go.Proofs.Ytagkeabmdodfiaa
namespace Go.GL

structure Fun.Cone (d : Fun) (p : Con) : Prop where
  ap : 0 ≤ p.ap ∧ p.ap < d.t.obj
  ll : p.lg.length = d.ob.length
  lg : ∀ j, j < p.lg.length → 0 ≤ p.lg.getD j 0 ∧ p.lg.getD j 0 < d.t.src.length
  ends : ∀ j, j < p.lg.length → d.t.src.getD (p.lg.getD j 0).toNat 0 = p.ap ∧ d.t.tgt.getD (p.lg.getD j 0).toNat 0 = d.ob.getD j 0
  tri : ∀ a, a < d.ar.length → d.t.th (p.lg.getD (d.s.src.getD a 0).toNat 0) (d.ar.getD a 0) = p.lg.getD (d.s.tgt.getD a 0).toNat 0
theorem Fun.Is.arr {f : Fun} (h : f.Is) {a : Nat} (ha : a < f.ar.length) : 0 ≤ f.s.src.getD a 0 ∧ f.s.src.getD a 0 < f.ob.length ∧ 0 ≤ f.s.tgt.getD a 0 ∧ f.s.tgt.getD a 0 < f.ob.length ∧ 0 ≤ f.ar.getD a 0 ∧ f.ar.getD a 0 < f.t.src.length ∧
    f.t.src.getD (f.ar.getD a 0).toNat 0 = f.ob.getD (f.s.src.getD a 0).toNat 0 ∧ f.t.tgt.getD (f.ar.getD a 0).toNat 0 = f.ob.getD (f.s.tgt.getD a 0).toNat 0 := by
  have hS := h.1.1
  have q0 := h.2.2.al
  have q1 := hS.src a (by omega)
  have q2 := hS.tgt a (by have := hS.tl; omega)
  have q3 := h.2.2.ol
  have q4 := h.2.2.ar a ha
  have q5 := h.2.2.ends a ha
  omega
def Con.zero : Con := ⟨0, []⟩
end Go.GL
namespace Go.Proofs.Ytagkeabmdodfiaa
open Go Go.GL Go.RowKit Go.Proofs
end Go.Proofs.Ytagkeabmdodfiaa
namespace Go.GL

def first2 (n : Nat) (len : Nat → Nat) (p : Nat → Nat → Bool) : Int × Int :=
  match firstN n fun a => (firstN (len a) (p a)).isSome with
  | some a => ((a : Int), (((firstN (len a) (p a)).getD 0 : Nat) : Int))
  | none => (-1, 0)
def SFun.AcOk (f : SFun) (a : Nat) : Prop :=
  ((f.ac.getD a []).length : Int) = f.sz.getD (f.sh.src.getD a 0).toNat 0 ∧ allIn (f.ac.getD a []) (f.sz.getD (f.sh.tgt.getD a 0).toNat 0) = true
structure SFun.Shape (f : SFun) : Prop where
  c : f.sh.Is
  zl : (f.sz.length : Int) = f.sh.obj
  sz : ∀ i, i < f.sz.length → 0 ≤ f.sz.getD i 0 ∧ f.sz.getD i 0 ≤ 16
  al : f.ac.length = f.sh.src.length
  ac : ∀ a, a < f.ac.length → f.AcOk a
theorem SFun.Shape.act {f : SFun} (h : f.Shape) {a : Nat} (ha : a < f.ac.length) {e : Nat} (he : e < (f.ac.getD a []).length) : 0 ≤ (f.ac.getD a []).getD e 0 ∧ (f.ac.getD a []).getD e 0 < f.sz.getD (f.sh.tgt.getD a 0).toNat 0 := allIn_iff.1 (h.ac a ha).2 e he
theorem SFun.Shape.ends {f : SFun} (h : f.Shape) {a : Nat} (ha : a < f.sh.src.length) : 0 ≤ f.sh.src.getD a 0 ∧ f.sh.src.getD a 0 < f.sz.length ∧ 0 ≤ f.sh.tgt.getD a 0 ∧ f.sh.tgt.getD a 0 < f.sz.length ∧ ((f.ac.getD a []).length : Int) = f.sz.getD (f.sh.src.getD a 0).toNat 0 := by
  have hS := h.c.1
  have q1 := hS.src a ha
  have q2 := hS.tgt a (by have := hS.tl; omega)
  have q3 := h.zl
  have q4 := (h.ac a (by have := h.al; omega)).1
  omega
structure SFun.Laws (f : SFun) : Prop where
  ids : ∀ x : Nat, x < f.sh.idn.length → ∀ e : Nat, e < (f.ac.getD (f.sh.idn.getD x 0).toNat []).length → (f.ac.getD (f.sh.idn.getD x 0).toNat []).getD e 0 = e
  th : ∀ a : Nat, a < f.sh.src.length → ∀ b : Nat, b < f.sh.src.length → f.sh.tgt.getD a 0 = f.sh.src.getD b 0 → ∀ e : Nat, e < (f.ac.getD a []).length →
    (f.ac.getD ((f.sh.comp.getD a []).getD b 0).toNat []).getD e 0 = (f.ac.getD b []).getD ((f.ac.getD a []).getD e 0).toNat 0
def SFun.Is (f : SFun) : Prop := f.Shape ∧ f.Laws

def SMap.PaOk (m : SMap) (x : Nat) : Prop := ((m.pa.getD x []).length : Int) = m.s.sz.getD x 0 ∧ allIn (m.pa.getD x []) (m.t.sz.getD x 0) = true
structure SMap.Fits (m : SMap) : Prop where
  pl : m.pa.length = m.s.sz.length
  pa : ∀ x, x < m.pa.length → m.PaOk x
structure SMap.Shape (m : SMap) : Prop where
  s : m.s.Is
  t : m.t.Is
  sh : m.s.sh = m.t.sh
  fits : m.Fits
def SMap.bad (m : SMap) (a e : Nat) : Bool := decide (¬ (m.pa.getD (m.s.sh.tgt.getD a 0).toNat []).getD ((m.s.ac.getD a []).getD e 0).toNat 0 = (m.t.ac.getD a []).getD ((m.pa.getD (m.s.sh.src.getD a 0).toNat []).getD e 0).toNat 0)
def SMap.first (m : SMap) : Int × Int := first2 m.s.ac.length (fun a => (m.s.ac.getD a []).length) m.bad
def SMap.Is (m : SMap) : Prop := m.Shape ∧ ∀ a, a < m.s.ac.length → ∀ e, e < (m.s.ac.getD a []).length → m.bad a e = false
end Go.GL
