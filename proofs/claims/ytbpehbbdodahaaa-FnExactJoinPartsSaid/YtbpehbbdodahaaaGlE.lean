/- Steps that make or write memory, over ghost heaps; what a call of a Go function says over ghost heaps. No condition. -/
import Derived.Test.YtbpehbbdodahaaaGlD
import Derived.Deep.AppendSrc
import Derived.Deep.Draws
namespace Go.GL
open Go.RowKit

section
variable {P : Program} {B : Nat} {w0 : World} {ρ : Place} {H : GHeap} {w : World}

def place (ρ : Place) (g : Nat) (s : Spot) : Place := fun k => if k = g then some s else ρ k
theorem place_ext {g : Nat} {s : Spot} (h : ρ g = none) : Ext ρ (place ρ g s) := fun k t hk => by
  unfold place
  by_cases e : k = g
  · subst e; rw [h] at hk; cases hk
  · simp [e, hk]
@[simp] theorem place_self {g : Nat} {s : Spot} : place ρ g s g = some s := by simp [place]

theorem spot_lt (hs : Sim P B w0 ρ H w) {g : Nat} {s : Spot} (h : ρ g = some s) : g < H.next := by
  rcases Nat.lt_or_ge g H.next with hl | hl
  · exact hl
  · rw [hs.dom g hl] at h; cases h

/-- A new row; its first cells stand for cs. -/
theorem Sim.alloc (hs : Sim P B w0 ρ H w) {cs : List Value} {C : Array Value} {e : TypeId} {n : Nat} (he : (P.info? e).map (·.size) = some n) (hl : cs.length ≤ C.size)
    (hc : ∀ (i : Nat) (v : Value), cs[i]? = some v → ∃ c, C[i]? = some c ∧ VRel ρ v c) :
    Sim P B w0 (place ρ H.next ⟨w.heap.size, 0, C.size, n⟩) (H.push (.row cs e true)) (w.alloc (.cells C e)) ∧ Ext ρ (place ρ H.next ⟨w.heap.size, 0, C.size, n⟩) := by
  have hext : Ext ρ (place ρ H.next ⟨w.heap.size, 0, C.size, n⟩) := place_ext (hs.dom _ (Nat.le_refl _))
  refine ⟨⟨fun g hg => ?_, fun g o hg => ?_, fun g g' o o' s s' h1 h2 h3 h4 h5 h6 h7 => ?_, by have := hs.base; simp; omega, hs.below.alloc hs.base _⟩, hext⟩
  · rw [GHeap.next_push] at hg
    simp only [place]
    rw [if_neg (by omega)]
    exact hs.dom g (by omega)
  · rcases Nat.lt_or_ge g H.next with hlt | hge
    · rw [GHeap.get_push_lt hlt] at hg
      exact (hs.live g o hg).keep hext fun s hsp => by
        have hb : s.blk < w.heap.size := by
          cases o with
          | row => obtain ⟨s', C', fz, h1, h2, _⟩ := hs.live g _ hg; rw [hsp] at h1; cases h1; exact (Array.getElem?_eq_some_iff.1 h2).1
          | map => obtain ⟨s', C', fz, h1, h2, _⟩ := hs.live g _ hg; rw [hsp] at h1; cases h1; exact (Array.getElem?_eq_some_iff.1 h2).1
        exact heap_alloc_old w _ hb
    · have hg' : g = H.next := by
        have := GHeap.lt_of_get hg
        simp at this
        omega
      subst hg'
      rw [GHeap.get_push_new] at hg
      cases hg
      exact ⟨_, C, (0, 0), place_self, heap_alloc_new w _, rfl, by simpa using hl, fun i v hv => by
        obtain ⟨c, h1, h2⟩ := hc i v hv
        exact ⟨c, by simpa using h1, h2.mono hext⟩, fun _ => ⟨rfl, hs.base⟩, fun h => (by cases h), fun _ => he⟩
  · have old : ∀ {k : Nat} {x : GObj} {t : Spot}, (H.push (.row cs e true)).get k = some x → x.isOwn = true → place ρ H.next ⟨w.heap.size, 0, C.size, n⟩ k = some t → k ≠ H.next → ρ k = some t ∧ H.get k = some x ∧ t.blk < w.heap.size := by
      intro k x t hx ho ht hne
      have hlt : k < H.next := by have := GHeap.lt_of_get hx; simp at this; omega
      rw [GHeap.get_push_lt hlt] at hx
      simp only [place, hne, if_false] at ht
      obtain ⟨s0, e0, _, e2⟩ := (hs.live k x hx).own ho
      rw [ht] at e0; cases e0
      exact ⟨ht, hx, e2⟩
    by_cases e1 : g = H.next
    · subst e1
      obtain ⟨_, _, hlt⟩ := old h2 h4 h7 (Ne.symm h5)
      rw [place_self] at h6
      cases h6
      simp only
      omega
    · obtain ⟨r1, r2, r3⟩ := old h1 h3 h6 e1
      by_cases e2 : g' = H.next
      · subst e2
        rw [place_self] at h7
        cases h7
        simp only
        omega
      · obtain ⟨t1, t2, t3⟩ := old h2 h4 h7 e2
        exact hs.apart g g' o o' s s' r2 t2 h3 h4 h5 r1 t1

/-- An own row is written: the world has turned at its block alone. -/
theorem Sim.update (hs : Sim P B w0 ρ H w) {g : Nat} {cs cs' : List Value} {e : TypeId} (hg : H.get g = some (.row cs e true)) {s : Spot} (hsp : ρ g = some s) {w' : World} {C' : Array Value}
    (hw : w'.heap[s.blk]? = some (.cells C' e (0, 0))) (hsz : C'.size = s.csize) (hl : s.base + cs'.length ≤ C'.size) (hc : ∀ (i : Nat) (v : Value), cs'[i]? = some v → ∃ c, C'[s.base + i]? = some c ∧ VRel ρ v c)
    (hother : ∀ k, k ≠ s.blk → w'.heap[k]? = w.heap[k]?) (hsize : w'.heap.size = w.heap.size) (hos : w'.os = w.os) (htape : w'.tape = w.tape) (hout : w'.output = w.output) :
    Sim P B w0 ρ (H.set g (some (.row cs' e true))) w' := by
  have hlt := GHeap.lt_of_get hg
  obtain ⟨s0, C, fz, k1, k2, k3, k4, k5, k6, k7, k8⟩ := hs.live _ _ hg
  rw [hsp] at k1
  cases k1
  have hB := (k6 rfl).2
  refine ⟨fun k hk => hs.dom k (by simpa using hk), fun k o hk => ?_, fun k k' o o' t t' h1 h2 h3 h4 h5 h6 h7 => ?_, by rw [hsize]; exact hs.base, ?_⟩
  · by_cases ek : k = g
    · subst ek
      rw [GHeap.get_set_eq hlt] at hk
      cases hk
      exact ⟨s, C', (0, 0), hsp, hw, hsz, hl, hc, fun _ => ⟨rfl, hB⟩, fun h => (by cases h), k8⟩
    · rw [GHeap.get_set_ne (Ne.symm ek)] at hk
      refine (hs.live k o hk).keep (.refl ρ) fun t ht => hother _ ?_
      cases ho : o.isOwn with
      | true => exact hs.apart k g o _ t s hk hg ho rfl ek ht hsp
      | false =>
        cases o with
        | row cells el own =>
          obtain ⟨s', _, _, e1, _, _, _, _, _, e7, _⟩ := hs.live _ _ hk
          rw [ht] at e1; cases e1
          have := e7 ho
          omega
        | map es => cases ho
  · have back : ∀ {k : Nat} {x : GObj}, (H.set g (some (.row cs' e true))).get k = some x → x.isOwn = true → ∃ y, H.get k = some y ∧ y.isOwn = true := by
      intro k x hx ho
      by_cases ek : k = g
      · subst ek; exact ⟨_, hg, rfl⟩
      · rw [GHeap.get_set_ne (Ne.symm ek)] at hx; exact ⟨x, hx, ho⟩
    obtain ⟨y, y1, y2⟩ := back h1 h3
    obtain ⟨z, z1, z2⟩ := back h2 h4
    exact hs.apart k k' y z t t' y1 z1 y2 z2 h5 h6 h7
  · refine hs.below.trans ⟨hos, htape, hout, by omega, fun k hk => hother k (by omega)⟩

/-- An own row is written on behind its end, and known under a new number from then on. -/
theorem Sim.onward (hs : Sim P B w0 ρ H w) {g : Nat} {cs cs' : List Value} {e : TypeId} (hg : H.get g = some (.row cs e true)) {s : Spot} (hsp : ρ g = some s) {w' : World} {C' : Array Value} {off : Nat}
    (hw : w'.heap[s.blk]? = some (.cells C' e (0, 0))) (hsz : C'.size = s.csize) (hl : s.base + off + cs'.length ≤ C'.size) (hc : ∀ (i : Nat) (v : Value), cs'[i]? = some v → ∃ c, C'[s.base + off + i]? = some c ∧ VRel ρ v c)
    (hother : ∀ k, k ≠ s.blk → w'.heap[k]? = w.heap[k]?) (hsize : w'.heap.size = w.heap.size) (hos : w'.os = w.os) (htape : w'.tape = w.tape) (hout : w'.output = w.output) :
    Sim P B w0 (place ρ H.next ⟨s.blk, s.base + off, s.csize, s.esz⟩) ((H.set g none).push (.row cs' e true)) w' ∧ Ext ρ (place ρ H.next ⟨s.blk, s.base + off, s.csize, s.esz⟩) := by
  have hlt := GHeap.lt_of_get hg
  obtain ⟨s0, C, fz, k1, k2, k3, k4, k5, k6, k7, k8⟩ := hs.live _ _ hg
  rw [hsp] at k1
  cases k1
  have hB := (k6 rfl).2
  have hext : Ext ρ (place ρ H.next ⟨s.blk, s.base + off, s.csize, s.esz⟩) := place_ext (hs.dom _ (Nat.le_refl _))
  have hn : (H.set g none).next = H.next := by simp
  -- what is live in the new heap, but the new row, was live and lies elsewhere
  have old : ∀ {k : Nat} {x : GObj}, ((H.set g none).push (.row cs' e true)).get k = some x → k ≠ H.next → k < H.next ∧ H.get k = some x ∧ k ≠ g := by
    intro k x hx hne
    have hk : k < H.next := by have := GHeap.lt_of_get hx; simp at this; omega
    rw [GHeap.get_push_lt (by rw [hn]; exact hk)] at hx
    by_cases ek : k = g
    · subst ek; rw [GHeap.get_set_eq hlt] at hx; cases hx
    · rw [GHeap.get_set_ne (Ne.symm ek)] at hx; exact ⟨hk, hx, ek⟩
  have far : ∀ {k : Nat} {x : GObj} {t : Spot}, H.get k = some x → k ≠ g → ρ k = some t → t.blk ≠ s.blk := by
    intro k x t hx hne ht
    cases ho : x.isOwn with
    | true => exact hs.apart k g x _ t s hx hg ho rfl hne ht hsp
    | false =>
      cases x with
      | row cells el own =>
        obtain ⟨s', _, _, e1, _, _, _, _, _, e7, _⟩ := hs.live _ _ hx
        rw [ht] at e1; cases e1
        have := e7 ho
        omega
      | map es => cases ho
  refine ⟨⟨fun k hk => ?_, fun k o hk => ?_, fun k k' o o' t t' h1 h2 h3 h4 h5 h6 h7 => ?_, by rw [hsize]; exact hs.base, hs.below.trans ⟨hos, htape, hout, by omega, fun k hk => hother k (by omega)⟩⟩, hext⟩
  · simp at hk
    simp only [place]
    rw [if_neg (by omega)]
    exact hs.dom k (by omega)
  · by_cases ek : k = H.next
    · subst ek
      have : ((H.set g none).push (.row cs' e true)).get H.next = some (.row cs' e true) := by rw [← hn]; exact GHeap.get_push_new _ _
      rw [this] at hk
      cases hk
      exact ⟨_, C', (0, 0), place_self, hw, hsz, hl, fun i v hv => let ⟨c, h1, h2⟩ := hc i v hv; ⟨c, h1, h2.mono hext⟩, fun _ => ⟨rfl, hB⟩, fun h => (by cases h), k8⟩
    · obtain ⟨_, hx, hne⟩ := old hk ek
      exact (hs.live k o hx).keep hext fun t ht => hother _ (far hx hne ht)
  · by_cases e1 : k = H.next
    · subst e1
      obtain ⟨_, hx, hne⟩ := old h2 (Ne.symm h5)
      rw [place_self] at h6
      cases h6
      have h7' : ρ k' = some t' := by simpa [place, Ne.symm h5] using h7
      exact (far hx hne h7').symm
    · obtain ⟨_, hx, hne⟩ := old h1 e1
      have h6' : ρ k = some t := by simpa [place, e1] using h6
      by_cases e2 : k' = H.next
      · subst e2
        rw [place_self] at h7
        cases h7
        exact far hx hne h6'
      · obtain ⟨_, hy, hne'⟩ := old h2 e2
        have h7' : ρ k' = some t' := by simpa [place, e2] using h7
        exact hs.apart k k' o o' t t' hx hy h3 h4 h5 h6' h7'
end

/-- The frame of a call of the model against the ghost's slots. -/
def FRel (N : Nat) (ρ : Place) (fr : Slots) (a : Act) : Prop := a.tmps.size = N ∧ a.defers = [] ∧ ∀ t v, fr.get t = some v → VRel ρ v (a.eval (.tmp t))

theorem FRel.mono {N : Nat} {ρ ρ' : Place} {fr : Slots} {a : Act} (h : FRel N ρ fr a) (he : Ext ρ ρ') : FRel N ρ' fr a := ⟨h.1, h.2.1, fun t v hv => (h.2.2 t v hv).mono he⟩

def putS (fr : Slots) (d : Option Tmp) (v : Option Value) : Slots := match d with | none => fr | some t => (t, v) :: fr
def dstOk (N : Nat) (o : Oper) : Bool := match o.dst with | none => true | some d => Nat.blt d N

theorem get_cons (s t : Nat) (v : Option Value) (fr : Slots) : Slots.get ((s, v) :: fr) t = if s = t then v else fr.get t := by
  show (bif Nat.beq s t then v else Slots.get fr t) = _
  by_cases h : s = t
  · subst h; simp
  · have : Nat.beq s t = false := by
      cases hb : Nat.beq s t with
      | false => rfl
      | true => exact absurd (Nat.eq_of_beq_eq_true hb) h
    rw [this, if_neg h]
    rfl

theorem eval_put (a : Act) (d t : Nat) (c : Value) (hd : d < a.tmps.size) : (a.put (some d) c).eval (.tmp t) = if d = t then c else a.eval (.tmp t) := by
  unfold Act.put Act.eval
  simp only
  by_cases h : d = t
  · subst h
    simp [Array.getD_eq_getD_getElem?, hd]
  · simp [Array.getD_eq_getD_getElem?, Array.getElem?_setIfInBounds_ne h, h]

theorem FRel.put {N : Nat} {ρ : Place} {fr : Slots} {a : Act} (h : FRel N ρ fr a) {o : Oper} (hd : dstOk N o = true) {v : Option Value} {c : Value} (hv : ∀ x, v = some x → VRel ρ x c) : FRel N ρ (putS fr o.dst v) (a.put o.dst c) := by
  unfold dstOk at hd
  cases hdst : o.dst with
  | none => exact h
  | some d =>
    rw [hdst] at hd
    have hlt : d < N := by simpa [Nat.blt_eq] using hd
    refine ⟨by simp [Act.put, h.1], h.2.1, fun t x hx => ?_⟩
    rw [eval_put a d t c (by rw [h.1]; exact hlt)]
    simp only [putS, get_cons] at hx
    by_cases e : d = t
    · simp only [e, if_true] at hx ⊢
      exact hv x hx
    · simp only [e, if_false] at hx ⊢
      exact h.2.2 t x hx

/-- One operation that may turn memory: for every world that bears H, it leaves one that bears some H' as R says. -/
structure CDo (P : Program) (o : Oper) (fr : Slots) (H : GHeap) (R : Option Value → GHeap → Prop) : Prop where
  run : ∀ (B : Nat) (w0 : World) (ρ : Place) (a : Act) (w : World), Sim P B w0 ρ H w → (∀ t v, Operand.tmp t ∈ o.op.operands → fr.get t = some v → VRel ρ v (a.eval (.tmp t))) →
    ∀ (next : Act → World → Prop) (Q : Exit → Act → World → Prop),
      (∀ ρ' v c H' w', R v H' → Ext ρ ρ' → Sim P B w0 ρ' H' w' → (∀ x, v = some x → VRel ρ' x c) → next (a.put o.dst c) w') → o.wp P a w next Q

/-- What a call of function f says over ghost heaps. -/
def GCalls (P : Program) (f : FuncId) (args : List Value) (H : GHeap) (Q : Value → GHeap → Prop) : Prop :=
  ∀ (B : Nat) (w0 : World) (ρ : Place) (cargs : List Value) (w : World), Sim P B w0 ρ H w → LRel ρ args cargs →
    Calls P f cargs.toArray w fun e w' => ∃ v c ρ' H', e = .returned c ∧ Q v H' ∧ Ext ρ ρ' ∧ Sim P B w0 ρ' H' w' ∧ VRel ρ' v c

theorem GCalls.mono {P : Program} {f : FuncId} {args : List Value} {H : GHeap} {Q Q' : Value → GHeap → Prop} (h : GCalls P f args H Q) (hq : ∀ v H', Q v H' → Q' v H') : GCalls P f args H Q' :=
  fun B w0 ρ cargs w hs hl => (h B w0 ρ cargs w hs hl).mono fun _ _ ⟨v, c, ρ', H', he, hQ, r⟩ => ⟨v, c, ρ', H', he, hq v H' hQ, r⟩

/-- A value without addresses comes back, and nothing that was there has turned: the heap is as it was. -/
theorem GCalls.quiet {P : Program} {f : FuncId} {args : List Value} {H : GHeap} {φ : Value → Prop} (h : GCalls P f args H fun v H' => φ v ∧ flat v = true ∧ H.Le H') : GCalls P f args H fun v H' => φ v ∧ H' = H :=
  fun B w0 ρ cargs w hs hl => (h B w0 ρ cargs w hs hl).mono fun _ _ ⟨v, c, ρ', H', he, ⟨hφ, hf, hle⟩, hx, hs', hv⟩ => by
    refine ⟨v, c, ρ, H, he, ⟨hφ, rfl⟩, .refl ρ, hs'.drop hs hx hle, ?_⟩
    have : c = v := by
      unfold flat at hf
      split at hf
      · exact flat_agg_eq hv hf
      · rename_i cs
        obtain ⟨ds, rfl, hr⟩ := hv.tuple_inv
        congr 1
        refine Array.ext (by simpa using hr.1.symm) fun i h₁ h₂ => ?_
        exact flat1_eq (hr.2 i _ _ (by simp [h₂]) (by simp [h₁])) (List.all_eq_true.1 hf _ (by simp))
      · exact flat1_eq hv hf
    rw [this]
    exact .flat hf
end Go.GL
