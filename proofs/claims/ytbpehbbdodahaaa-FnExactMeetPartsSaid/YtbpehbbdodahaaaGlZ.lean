/- Lists of lists of lists. No condition. -/
import Derived.Test.YtbpehbbdodahaaaGlO
import Derived.Deep.Slices
namespace Go.GL
open Go.RowKit Go.WideShapes Go.ChangeShapes Go.Deep

def Intsss (H : GHeap) (a : Option Addr) (x : List (List (List Int))) (r : Nat → Option Addr) (s : Nat → Nat → Option Addr) : Prop :=
  SlA H a x.length (fun i => .slice (r i) (x.getD i []).length (x.getD i []).length) ∧ ∀ i, i < x.length → Intss H (r i) (x.getD i []) (s i)
theorem Intsss.mono {H H' : GHeap} {a : Option Addr} {x : List (List (List Int))} {r : Nat → Option Addr} {s : Nat → Nat → Option Addr} (h : Intsss H a x r s) (hle : H.Le H') : Intsss H' a x r s := ⟨SlA.mono h.1 hle, fun i hi => (h.2 i hi).mono hle⟩
theorem Intsss.sl {H : GHeap} {a : Option Addr} {x : List (List (List Int))} {r : Nat → Option Addr} {s : Nat → Nat → Option Addr} (h : Intsss H a x r s) : SlA H a x.length (fun i => .slice (r i) (x.getD i []).length (x.getD i []).length) := h.1
theorem MStep.loadRR {P : Program} {fr : Slots} {H : GHeap} {a : Option Addr} {t : TypeId} {y : Operand} {k : Nat} {x : List (List (List Int))} {r : Nat → Option Addr} {s : Nat → Nat → Option Addr} (ht : oneT P t = true) (h : Intsss H a x r s) (hx : ev fr y = some (elemPtr a k)) (hk : k < x.length) :
    MStep P fr H (.load t y) (.slice (r k) (x.getD k []).length (x.getD k []).length) := .loadE (f := fun i => .slice (r i) (x.getD i []).length (x.getD i []).length) ht h.1 hx hk
def IntsssAt (b : Nat) (H : GHeap) (a : Option Addr) (x : List (List (List Int))) (r : Nat → Option Addr) (s : Nat → Nat → Option Addr) : Prop :=
  ∃ g e cs, a = some ⟨g, 0, none⟩ ∧ b ≤ g ∧ H.get g = some (.row cs e true) ∧ cs.length = x.length ∧ (∀ i, i < x.length → cs[i]? = some (.slice (r i) (x.getD i []).length (x.getD i []).length)) ∧ ∀ i, i < x.length → IntssAt b H (r i) (x.getD i []) (s i)
theorem IntsssAt.keep {b b' : Nat} {H H' : GHeap} {a : Option Addr} {x : List (List (List Int))} {r : Nat → Option Addr} {s : Nat → Nat → Option Addr} (h : IntsssAt b H a x r s) (hk : Keep b' H H') (hb : b' ≤ b) : IntsssAt b' H' a x r s :=
  let ⟨g, e, cs, h1, h2, h3, h4, h5, h6⟩ := h; ⟨g, e, cs, h1, by omega, hk g _ (by omega) h3, h4, h5, fun i hi => (h6 i hi).keep hk hb⟩
theorem IntsssAt.intsss {b : Nat} {H : GHeap} {a : Option Addr} {x : List (List (List Int))} {r : Nat → Option Addr} {s : Nat → Nat → Option Addr} (h : IntsssAt b H a x r s) : Intsss H a x r s := by
  obtain ⟨g, e, cs, rfl, _, h3, h4, h5, h6⟩ := h
  exact ⟨.inr ⟨g, 0, rfl, fun i hi => by rw [GHeap.cell_of h3, Nat.zero_add]; exact h5 i hi⟩, fun i hi => (h6 i hi).intss⟩
def NewIntsss (H : GHeap) (x : List (List (List Int))) (v : Value) (H' : GHeap) : Prop := H.Le H' ∧ ∃ a r s, v = .slice a x.length x.length ∧ IntsssAt H.next H' a x r s

def intsssT (P : Program) (t : TypeId) : Bool := match P.underlying t with | some (.slice e) => intssT P e && (P.cellsOf e == 1) | _ => false
theorem intsssT_run {P : Program} {t : TypeId} (h : intsssT P t = true) : ∃ e, P.underlying t = some (.slice e) ∧ intssT P e = true ∧ P.cellsOf e = 1 := by
  unfold intsssT at h
  split at h
  · simp only [Bool.and_eq_true, beq_iff_eq] at h
    exact ⟨_, by assumption, h.1, h.2⟩
  · cases h
def Wd2 (xss : List (List Int)) : Prop := xss.length ≤ 9223372036854775807 ∧ ∀ i, I64s (xss.getD i [])
def Wd3 (x : List (List (List Int))) : Prop := x.length ≤ 9223372036854775807 ∧ ∀ i, Wd2 (x.getD i [])
def Sm3 (x : List (List (List Int))) : Prop := x.length ≤ 1048576 ∧ ∀ i, (x.getD i []).length ≤ 1048576 ∧ ∀ j, ((x.getD i []).getD j []).length ≤ 1048576
def RIntsss (ρ : Place) (H : GHeap) (cs : List Value) : Prop := ∃ a x r s c, cs = [c] ∧ VRel ρ (.slice a x.length x.length) c ∧ Intsss H a x r s ∧ Wd3 x
theorem RIntsss.mono {ρ ρ' : Place} {H H' : GHeap} {cs : List Value} (h : RIntsss ρ H cs) (he : Ext ρ ρ') (hl : H.Le H') : RIntsss ρ' H' cs :=
  let ⟨a, x, r, s, c, h1, h2, h3, h4⟩ := h; ⟨a, x, r, s, c, h1, h2.mono he, h3.mono hl, h4⟩
theorem Wd2.nil : Wd2 [] := ⟨by simp, fun i => by simp [I64s, I64]⟩
theorem import_intsss {P : Program} {t : TypeId} (ht : intsssT P t = true) : Imports P t RIntsss := by
  intro T enc B w0 ρ H w held fuel cs x hs hB h
  obtain ⟨e, h1, h2, h3⟩ := intsssT_run ht
  rcases open_slice1 h1 h3 h with ⟨rfl, _⟩ | ⟨a, len, cap, m, n, V, D, Pl, rfl, _, hl, hm, hmm, _, hx⟩
  · exact ⟨ρ, H, hs, .refl ρ, .refl H, none, [], fun _ => none, fun _ _ => none, _, rfl, .nilSlice, ⟨.inl rfl, fun i hi => by simp at hi⟩, by simp, fun i => by simpa using Wd2.nil⟩
  · simp only [if_true] at hmm
    subst hmm
    have rows : ∀ k, k ≤ len → ∃ ρ' H', Sim P B w0 ρ' H' w ∧ Ext ρ ρ' ∧ H.Le H' ∧ ∃ (X : Nat → List (List Int)) (rr : Nat → Option Addr) (ss : Nat → Nat → Option Addr), ∀ i, i < k → VRel ρ' (.slice (rr i) (X i).length (X i).length) (V i) ∧ Intss H' (rr i) (X i) (ss i) ∧ Wd2 (X i) := by
      intro k
      induction k with
      | zero => exact fun _ => ⟨ρ, H, hs, .refl ρ, .refl H, fun _ => [], fun _ => none, fun _ _ => none, fun i hi => by omega⟩
      | succ k ih =>
        intro hk
        obtain ⟨ρ1, H1, s1, e1, l1, X, rr, ss, hrr⟩ := ih (by omega)
        obtain ⟨ρ2, H2, s2, e2, l2, a', xs, r, c, hc, hv, hi', hw1, hw2⟩ := import_intss h2 s1 hB (hx k (by omega)).2
        have hc' : V k = c := by simpa using hc
        subst hc'
        refine ⟨ρ2, H2, s2, e1.trans e2, l1.trans l2, fun i => if i = k then xs else X i, fun i => if i = k then a' else rr i, fun i => if i = k then r else ss i, fun i hi => ?_⟩
        by_cases ek : i = k
        · subst ek; simp only [if_true]; exact ⟨hv, hi', hw1, hw2⟩
        · simp only [ek, if_false]
          obtain ⟨v1, i1, w1⟩ := hrr i (by omega)
          exact ⟨v1.mono e2, i1.mono l2, w1⟩
    obtain ⟨ρ1, H1, s1, e1, l1, X, rr, ss, hrr⟩ := rows len (Nat.le_refl _)
    obtain ⟨a', ρ2, H2, k1, k2, k3, k4, k5⟩ := s1.list hB (f := fun i => .slice (rr i) (X i).length (X i).length) hl hm (fun i hi => (hx i hi).1) (fun i hi => (hrr i hi).1)
    have hlen : ((List.range len).map X).length = len := by simp
    have hg : ∀ i, i < len → ((List.range len).map X).getD i [] = X i := fun i hi => by simp [List.getD_eq_getElem?_getD, hi]
    refine ⟨ρ2, H2, k1, e1.trans k2, l1.trans k3, a', (List.range len).map X, rr, ss, _, rfl, by rw [hlen]; exact k4, ⟨?_, fun i hi => ?_⟩, by rw [hlen]; unfold maxLen at hm; omega, fun i => ?_⟩
    · rw [hlen]
      refine k5.imp id fun ⟨g, off, hga, hc⟩ => ⟨g, off, hga, fun i hi => ?_⟩
      show _ = some (Value.slice (rr i) (((List.range len).map X).getD i []).length (((List.range len).map X).getD i []).length)
      rw [hg i hi]
      exact hc i hi
    · rw [hlen] at hi
      rw [hg i hi]
      exact (hrr i hi).2.1.mono k3
    · by_cases hi : i < len
      · rw [hg i hi]; exact (hrr i hi).2.2
      · rw [List.getD_eq_getElem?_getD, List.getElem?_eq_none (by rw [hlen]; omega)]
        exact Wd2.nil
end Go.GL
