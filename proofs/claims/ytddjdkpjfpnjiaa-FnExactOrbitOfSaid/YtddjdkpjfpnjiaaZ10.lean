/- A channel of one's own over ghost heaps. No condition. -/
import Derived.Test.YtddjdkpjfpnjiaaZ9
import Derived.Conc.SmallLaws
set_option linter.unusedSectionVars false
namespace Go.GL
open Go.RowKit Go.Conc
variable [MainFlag]

section
variable {P : Program} {B : Nat} {w0 : World} {ρ : Place} {H : GHeap} {w : World}
theorem Sim.allocO (hs : Sim P B w0 ρ H w) {R : Place → Nat → Obj → Prop} {m b} {x : Obj} (hR : R (place ρ H.next ⟨w.heap.size, 0, 0, 0⟩) w.heap.size x) :
    Sim P B w0 (place ρ H.next ⟨w.heap.size, 0, 0, 0⟩) (H.push (.oth R m b)) (w.alloc x) ∧ Ext ρ (place ρ H.next ⟨w.heap.size, 0, 0, 0⟩) := by
  have hext : Ext ρ (place ρ H.next ⟨w.heap.size, 0, 0, 0⟩) := place_ext (hs.dom _ (Nat.le_refl _))
  refine ⟨⟨fun g hg => ?_, fun g o hg => ?_, fun g g' o o' s s' h1 h2 h3 h4 h5 h6 h7 => ?_, by have := hs.base; simp; omega, hs.below.alloc hs.base _⟩, hext⟩
  · rw [GHeap.next_push] at hg
    simp only [place]
    rw [if_neg (by omega)]
    exact hs.dom g (by omega)
  · rcases Nat.lt_or_ge g H.next with hlt | hge
    · rw [GHeap.get_push_lt hlt] at hg
      exact (hs.live g o hg).keep hext fun s hsp => by
        have hb : s.blk < w.heap.size := by
          cases o with
          | row => obtain ⟨s', C', fz, h1, h2, _⟩ := hs.live g _ hg; rw [hsp] at h1; cases h1; exact (Array.getElem?_eq_some_iff.1 h2).1
          | map => obtain ⟨s', C', fz, h1, h2, _⟩ := hs.live g _ hg; rw [hsp] at h1; cases h1; exact (Array.getElem?_eq_some_iff.1 h2).1
          | oth => obtain ⟨s', x, h1, h2, _⟩ := hs.live g _ hg; rw [hsp] at h1; cases h1; exact (Array.getElem?_eq_some_iff.1 h2).1
        exact heap_alloc_old w _ hb
    · have hg' : g = H.next := by
        have := GHeap.ltg hg
        simp at this
        omega
      subst hg'
      rw [GHeap.get_push_new] at hg
      cases hg
      exact ⟨_, x, place_self, heap_alloc_new w _, hs.base, hR⟩
  · have old : ∀ {k : Nat} {y : GObj} {t : Spot}, (H.push (.oth R m b)).get k = some y → y.isOwn = true → place ρ H.next ⟨w.heap.size, 0, 0, 0⟩ k = some t → k ≠ H.next → ρ k = some t ∧ H.get k = some y ∧ t.blk < w.heap.size := by
      intro k y t hx ho ht hne
      have hlt : k < H.next := by have := GHeap.ltg hx; simp at this; omega
      rw [GHeap.get_push_lt hlt] at hx
      simp only [place, hne, if_false] at ht
      obtain ⟨s0, e0, _, e2⟩ := (hs.live k y hx).own ho
      rw [ht] at e0; cases e0
      exact ⟨ht, hx, e2⟩
    by_cases e1 : g = H.next
    · subst e1
      obtain ⟨_, _, hlt⟩ := old h2 h4 h7 (Ne.symm h5)
      rw [place_self] at h6
      cases h6
      simp only
      omega
    · obtain ⟨r1, r2, r3⟩ := old h1 h3 h6 e1
      by_cases e2 : g' = H.next
      · subst e2
        rw [place_self] at h7
        cases h7
        simp only
        omega
      · obtain ⟨t1, t2, t3⟩ := old h2 h4 h7 e2
        exact hs.apart g g' o o' s s' r2 t2 h3 h4 h5 r1 t1

def chanT (P : Program) (t : TypeId) : Option Nat := match P.underlying t with | some (.chan _ e) => (P.info? e).map (·.bytes) | _ => none
theorem chanT_run {t : TypeId} {n : Nat} (h : chanT P t = some n) : ∃ dir e i, P.underlying t = some (.chan dir e) ∧ P.info? e = some i ∧ i.bytes = n := by
  unfold chanT at h
  split at h
  · rename_i hu
    obtain ⟨i, h1, h2⟩ := Option.map_eq_some_iff.1 h
    exact ⟨_, _, i, hu, h1, h2⟩
  · cases h
theorem Sim.same {w' : World} (hs : Sim P B w0 ρ H w) (hb : Below B w0 w') (hz : w.heap.size ≤ w'.heap.size) (h : ∀ g x s, H.get g = some x → ρ g = some s → w'.heap[s.blk]? = w.heap[s.blk]?) : Sim P B w0 ρ H w' :=
  ⟨hs.dom, fun g o hg => (hs.live g o hg).keep (.refl ρ) fun s hsp => h g o s hg hsp, hs.apart, Nat.le_trans hs.base hz, hb⟩
theorem Sim.aside {w' : World} {c : Nat} (hs : Sim P B w0 ρ H w) (hB : B ≤ c) (hne : ∀ g x s, H.get g = some x → ρ g = some s → s.blk ≠ c) (ha : Aside c w w') : Sim P B w0 ρ H w' :=
  hs.same (hs.below.trans ⟨ha.os, ha.tape, ha.output, by rw [ha.size]; exact Nat.le_refl _, fun k hk => ha.block k (by omega)⟩) (by rw [ha.size]; exact Nat.le_refl _) fun g x s hg hsp => ha.block _ (hne g x s hg hsp)
theorem Live.spot {o : GObj} {g : Nat} (h : Live P B ρ w g o) : ∃ s, ρ g = some s ∧ s.blk < w.heap.size := by
  cases o with
  | row cells elem own => obtain ⟨s, C, fz, h1, h2, _⟩ := h; exact ⟨s, h1, (Array.getElem?_eq_some_iff.1 h2).1⟩
  | map es => obtain ⟨s, E, cl, h1, h2, _⟩ := h; exact ⟨s, h1, (Array.getElem?_eq_some_iff.1 h2).1⟩
  | oth R m b => obtain ⟨s, x, h1, h2, _⟩ := h; exact ⟨s, h1, (Array.getElem?_eq_some_iff.1 h2).1⟩
theorem Sim.far (hs : Sim P B w0 ρ H w) {g g' : Nat} {x y : GObj} {s s' : Spot} (hg : H.get g = some x) (hg' : H.get g' = some y) (ho : y.isOwn = true) (hne : g ≠ g') (hsp : ρ g = some s) (hsp' : ρ g' = some s') : s.blk ≠ s'.blk := by
  cases hx : x.isOwn with
  | true => exact hs.apart g g' x y s s' hg hg' hx ho hne hsp hsp'
  | false =>
    obtain ⟨t, e1, e2, _⟩ := (hs.live _ _ hg').own ho
    rw [hsp'] at e1; cases e1
    cases x with
    | row cells el own =>
      obtain ⟨t', _, _, f1, _, _, _, _, _, f7, _⟩ := hs.live _ _ hg
      rw [hsp] at f1; cases f1
      have := f7 hx
      omega
    | map es => cases hx
    | oth => cases hx

theorem opM_q {main : Bool} {K : Goroutine → World → Prop} {I : World → Prop} {b : Frame} {a : Act} {k : List Item} {cs : List Frame} {ops : Array Oper} (hC : Closed P main I K) {N : Nat} {D : List Deferred} {fr : Slots} {i : Nat} {rest : List Nat} {o : Oper} {v : Value} (hI : ∀ d, I (w.at d)) (hs : Sim P B w0 ρ H w) (hb : b.kind ≠ .early) (hf : FRel N D ρ fr a)
    (ho : ops[i]? = some o) (hg : o.guard = none) (hd : dstOk N o = true) (hm : MStep P fr H o.op v) (next : ∀ c, VRel ρ v c → FRel N D ρ (putS fr o.dst (some v)) (a.put o.dst c) → K (G (b.at (a.put o.dst c) (.inRegion ops rest :: k)) cs) w) : K (G (b.at a (.inRegion ops (i :: rest) :: k)) cs) w := by
  have hw : Region.wanted o (yielded ops a.tmps) = true := by simp [Region.wanted, hg]
  refine hC.go _ _ rfl fun d => ?_
  obtain ⟨cv, hc, hr⟩ := hm.sound (a := a) (fun t u _ hu => hf.2.2 t u hu) (hs.at d) o rfl
  rw [stepG_value ho hw hb hc]
  exact ⟨calm_listed (Calm.events _ _ _ (hm.calm (fun t u _ hu => hf.2.2 t u hu) (hs.at d) o rfl) calmA_nil), id, hC.stable _ _ d (next cv hr (hf.put hd fun x hx => by cases hx; exact hr))⟩
theorem opM_v {main : Bool} {K : Goroutine → World → Prop} {I : World → Prop} {b : Frame} {a : Act} {k : List Item} {cs : List Frame} {ops : Array Oper} (hC : Closed P main I K) {i : Nat} {rest : List Nat} {o : Oper} {v : Value} {w' : World} (hI : I w') (hb : b.kind ≠ .early) (ho : ops[i]? = some o) (hg : o.guard = none) (hcm : Calm P (execOp a.eval o))
    (hr : ∀ d, (execOp a.eval o).run P (w.at d) = .ok (.value v) (w'.at d)) (hId : ∀ w d, I w → I (w.at d)) (next : K (G (b.at (a.put o.dst v) (.inRegion ops rest :: k)) cs) w') : K (G (b.at a (.inRegion ops (i :: rest) :: k)) cs) w := by
  have hw : Region.wanted o (yielded ops a.tmps) = true := by simp [Region.wanted, hg]
  refine hC.go _ _ rfl fun d => ?_
  rw [stepG_value ho hw hb (hr d)]
  exact ⟨calm_listed (Calm.events _ _ _ hcm calmA_nil), fun _ => hId _ d hI, hC.stable _ _ d next⟩
end
end Go.GL
