/- Steps that make or write memory, over ghost heaps; what a call of a Go function says over ghost heaps. No condition. -/
import Derived.Test.YtdnjnligclkkgaaDoorZ3
import Derived.Deep.AppendSrc
import Derived.Deep.Draws
import Derived.OrdersIn
import Derived.TacticsIn
namespace Go.GL
open Go.RowKit

section
variable {P : Program} {B : Nat} {w0 : World} {ρ : Place} {H : GHeap} {w : World}

def place (ρ : Place) (g : Nat) (s : Spot) : Place := fun k => if k = g then some s else ρ k
theorem place_ext {g : Nat} {s : Spot} (h : ρ g = none) : Ext ρ (place ρ g s) := fun k t hk => by
  unfold place
  by_cases e : k = g
  · subst e; rw [h] at hk; cases hk
  · simp [e, hk]
@[simp] theorem place_self {g : Nat} {s : Spot} : place ρ g s g = some s := by simp [place]

theorem Sim.alloc (hs : Sim P B w0 ρ H w) {cs : List Value} {C : Array Value} {e : TypeId} {n : Nat} (he : (P.info? e).map (·.size) = some n) (hl : cs.length ≤ C.size)
    (hc : ∀ (i : Nat) (v : Value), cs[i]? = some v → ∃ c, C[i]? = some c ∧ VRel ρ v c) :
    Sim P B w0 (place ρ H.next ⟨w.heap.size, 0, C.size, n⟩) (H.push (.row cs e true)) (w.alloc (.cells C e)) ∧ Ext ρ (place ρ H.next ⟨w.heap.size, 0, C.size, n⟩) := by
  have hext : Ext ρ (place ρ H.next ⟨w.heap.size, 0, C.size, n⟩) := place_ext (hs.dom _ (Nat.le_refl _))
  refine ⟨⟨fun g hg => ?_, fun g o hg => ?_, fun g g' o o' s s' h1 h2 h3 h4 h5 h6 h7 => ?_, by have := hs.base; simp; omega, hs.below.alloc hs.base _⟩, hext⟩
  · rw [GHeap.next_push] at hg
    simp only [place]
    rw [if_neg (by omega)]
    exact hs.dom g (by omega)
  · rcases Nat.lt_or_ge g H.next with hlt | hge
    · rw [GHeap.get_push_lt hlt] at hg
      exact (hs.live g o hg).keep hext fun s hsp => by
        have hb : s.blk < w.heap.size := by
          cases o with
          | row => obtain ⟨s', C', fz, h1, h2, _⟩ := hs.live g _ hg; rw [hsp] at h1; cases h1; exact (Array.getElem?_eq_some_iff.1 h2).1
          | map => obtain ⟨s', C', fz, h1, h2, _⟩ := hs.live g _ hg; rw [hsp] at h1; cases h1; exact (Array.getElem?_eq_some_iff.1 h2).1
          | oth => obtain ⟨s', x, h1, h2, _⟩ := hs.live g _ hg; rw [hsp] at h1; cases h1; exact (Array.getElem?_eq_some_iff.1 h2).1
        exact heap_alloc_old w _ hb
    · have hg' : g = H.next := by
        have := GHeap.ltg hg
        simp at this
        omega
      subst hg'
      rw [GHeap.get_push_new] at hg
      cases hg
      exact ⟨_, C, (0, 0), place_self, heap_alloc_new w _, rfl, by simpa using hl, fun i v hv => by
        obtain ⟨c, h1, h2⟩ := hc i v hv
        exact ⟨c, by simpa using h1, h2.mono hext⟩, fun _ => ⟨rfl, hs.base⟩, fun h => (by cases h), fun _ => he⟩
  · have old : ∀ {k : Nat} {x : GObj} {t : Spot}, (H.push (.row cs e true)).get k = some x → x.isOwn = true → place ρ H.next ⟨w.heap.size, 0, C.size, n⟩ k = some t → k ≠ H.next → ρ k = some t ∧ H.get k = some x ∧ t.blk < w.heap.size := by
      intro k x t hx ho ht hne
      have hlt : k < H.next := by have := GHeap.ltg hx; simp at this; omega
      rw [GHeap.get_push_lt hlt] at hx
      simp only [place, hne, if_false] at ht
      obtain ⟨s0, e0, _, e2⟩ := (hs.live k x hx).own ho
      rw [ht] at e0; cases e0
      exact ⟨ht, hx, e2⟩
    by_cases e1 : g = H.next
    · subst e1
      obtain ⟨_, _, hlt⟩ := old h2 h4 h7 (Ne.symm h5)
      rw [place_self] at h6
      cases h6
      simp only
      omega
    · obtain ⟨r1, r2, r3⟩ := old h1 h3 h6 e1
      by_cases e2 : g' = H.next
      · subst e2
        rw [place_self] at h7
        cases h7
        simp only
        omega
      · obtain ⟨t1, t2, t3⟩ := old h2 h4 h7 e2
        exact hs.apart g g' o o' s s' r2 t2 h3 h4 h5 r1 t1

theorem Sim.update (hs : Sim P B w0 ρ H w) {g : Nat} {cs cs' : List Value} {e : TypeId} (hg : H.get g = some (.row cs e true)) {s : Spot} (hsp : ρ g = some s) {w' : World} {C' : Array Value}
    (hw : w'.heap[s.blk]? = some (.cells C' e (0, 0))) (hsz : C'.size = s.csize) (hl : s.base + cs'.length ≤ C'.size) (hc : ∀ (i : Nat) (v : Value), cs'[i]? = some v → ∃ c, C'[s.base + i]? = some c ∧ VRel ρ v c)
    (hother : ∀ k, k ≠ s.blk → w'.heap[k]? = w.heap[k]?) (hsize : w'.heap.size = w.heap.size) (hos : w'.os = w.os) (htape : w'.tape = w.tape) (hout : w'.output = w.output) :
    Sim P B w0 ρ (H.set g (some (.row cs' e true))) w' := by
  have hlt := GHeap.ltg hg
  obtain ⟨s0, C, fz, k1, k2, k3, k4, k5, k6, k7, k8⟩ := hs.live _ _ hg
  rw [hsp] at k1
  cases k1
  have hB := (k6 rfl).2
  refine ⟨fun k hk => hs.dom k (by simpa using hk), fun k o hk => ?_, fun k k' o o' t t' h1 h2 h3 h4 h5 h6 h7 => ?_, by rw [hsize]; exact hs.base, ?_⟩
  · by_cases ek : k = g
    · subst ek
      rw [GHeap.get_set_eq hlt] at hk
      cases hk
      exact ⟨s, C', (0, 0), hsp, hw, hsz, hl, hc, fun _ => ⟨rfl, hB⟩, fun h => (by cases h), k8⟩
    · rw [GHeap.get_set_ne (Ne.symm ek)] at hk
      refine (hs.live k o hk).keep (.refl ρ) fun t ht => hother _ ?_
      cases ho : o.isOwn with
      | true => exact hs.apart k g o _ t s hk hg ho rfl ek ht hsp
      | false =>
        cases o with
        | row cells el own =>
          obtain ⟨s', _, _, e1, _, _, _, _, _, e7, _⟩ := hs.live _ _ hk
          rw [ht] at e1; cases e1
          have := e7 ho
          omega
        | map es => cases ho
        | oth => cases ho
  · have back : ∀ {k : Nat} {x : GObj}, (H.set g (some (.row cs' e true))).get k = some x → x.isOwn = true → ∃ y, H.get k = some y ∧ y.isOwn = true := by
      intro k x hx ho
      by_cases ek : k = g
      · subst ek; exact ⟨_, hg, rfl⟩
      · rw [GHeap.get_set_ne (Ne.symm ek)] at hx; exact ⟨x, hx, ho⟩
    obtain ⟨y, y1, y2⟩ := back h1 h3
    obtain ⟨z, z1, z2⟩ := back h2 h4
    exact hs.apart k k' y z t t' y1 z1 y2 z2 h5 h6 h7
  · refine hs.below.trans ⟨hos, htape, hout, by omega, fun k hk => hother k (by omega)⟩

theorem Sim.onward (hs : Sim P B w0 ρ H w) {g : Nat} {cs cs' : List Value} {e : TypeId} (hg : H.get g = some (.row cs e true)) {s : Spot} (hsp : ρ g = some s) {w' : World} {C' : Array Value} {off : Nat}
    (hw : w'.heap[s.blk]? = some (.cells C' e (0, 0))) (hsz : C'.size = s.csize) (hl : s.base + off + cs'.length ≤ C'.size) (hc : ∀ (i : Nat) (v : Value), cs'[i]? = some v → ∃ c, C'[s.base + off + i]? = some c ∧ VRel ρ v c)
    (hother : ∀ k, k ≠ s.blk → w'.heap[k]? = w.heap[k]?) (hsize : w'.heap.size = w.heap.size) (hos : w'.os = w.os) (htape : w'.tape = w.tape) (hout : w'.output = w.output) :
    Sim P B w0 (place ρ H.next ⟨s.blk, s.base + off, s.csize, s.esz⟩) ((H.set g none).push (.row cs' e true)) w' ∧ Ext ρ (place ρ H.next ⟨s.blk, s.base + off, s.csize, s.esz⟩) := by
  have hlt := GHeap.ltg hg
  obtain ⟨s0, C, fz, k1, k2, k3, k4, k5, k6, k7, k8⟩ := hs.live _ _ hg
  rw [hsp] at k1
  cases k1
  have hB := (k6 rfl).2
  have hext : Ext ρ (place ρ H.next ⟨s.blk, s.base + off, s.csize, s.esz⟩) := place_ext (hs.dom _ (Nat.le_refl _))
  have hn : (H.set g none).next = H.next := by simp
  have old : ∀ {k : Nat} {x : GObj}, ((H.set g none).push (.row cs' e true)).get k = some x → k ≠ H.next → k < H.next ∧ H.get k = some x ∧ k ≠ g := by
    intro k x hx hne
    have hk : k < H.next := by have := GHeap.ltg hx; simp at this; omega
    rw [GHeap.get_push_lt (by rw [hn]; exact hk)] at hx
    by_cases ek : k = g
    · subst ek; rw [GHeap.get_set_eq hlt] at hx; cases hx
    · rw [GHeap.get_set_ne (Ne.symm ek)] at hx; exact ⟨hk, hx, ek⟩
  have far : ∀ {k : Nat} {x : GObj} {t : Spot}, H.get k = some x → k ≠ g → ρ k = some t → t.blk ≠ s.blk := by
    intro k x t hx hne ht
    cases ho : x.isOwn with
    | true => exact hs.apart k g x _ t s hx hg ho rfl hne ht hsp
    | false =>
      cases x with
      | row cells el own =>
        obtain ⟨s', _, _, e1, _, _, _, _, _, e7, _⟩ := hs.live _ _ hx
        rw [ht] at e1; cases e1
        have := e7 ho
        omega
      | map es => cases ho
      | oth => cases ho
  refine ⟨⟨fun k hk => ?_, fun k o hk => ?_, fun k k' o o' t t' h1 h2 h3 h4 h5 h6 h7 => ?_, by rw [hsize]; exact hs.base, hs.below.trans ⟨hos, htape, hout, by omega, fun k hk => hother k (by omega)⟩⟩, hext⟩
  · simp at hk
    simp only [place]
    rw [if_neg (by omega)]
    exact hs.dom k (by omega)
  · by_cases ek : k = H.next
    · subst ek
      have : ((H.set g none).push (.row cs' e true)).get H.next = some (.row cs' e true) := by rw [← hn]; exact GHeap.get_push_new _ _
      rw [this] at hk
      cases hk
      exact ⟨_, C', (0, 0), place_self, hw, hsz, hl, fun i v hv => let ⟨c, h1, h2⟩ := hc i v hv; ⟨c, h1, h2.mono hext⟩, fun _ => ⟨rfl, hB⟩, fun h => (by cases h), k8⟩
    · obtain ⟨_, hx, hne⟩ := old hk ek
      exact (hs.live k o hx).keep hext fun t ht => hother _ (far hx hne ht)
  · by_cases e1 : k = H.next
    · subst e1
      obtain ⟨_, hx, hne⟩ := old h2 (Ne.symm h5)
      rw [place_self] at h6
      cases h6
      have h7' : ρ k' = some t' := by simpa [place, Ne.symm h5] using h7
      exact (far hx hne h7').symm
    · obtain ⟨_, hx, hne⟩ := old h1 e1
      have h6' : ρ k = some t := by simpa [place, e1] using h6
      by_cases e2 : k' = H.next
      · subst e2
        rw [place_self] at h7
        cases h7
        exact far hx hne h6'
      · obtain ⟨_, hy, hne'⟩ := old h2 e2
        have h7' : ρ k' = some t' := by simpa [place, e2] using h7
        exact hs.apart k k' o o' t t' hx hy h3 h4 h5 h6' h7'
end

def FRel (N : Nat) (D : List Deferred) (ρ : Place) (fr : Slots) (a : Act) : Prop := a.tmps.size = N ∧ a.defers = D ∧ ∀ t v, fr.get t = some v → VRel ρ v (a.eval (.tmp t))

theorem FRel.mono {N : Nat} {D : List Deferred} {ρ ρ' : Place} {fr : Slots} {a : Act} (h : FRel N D ρ fr a) (he : Ext ρ ρ') : FRel N D ρ' fr a := ⟨h.1, h.2.1, fun t v hv => (h.2.2 t v hv).mono he⟩

def putS (fr : Slots) (d : Option Tmp) (v : Option Value) : Slots := match d with | none => fr | some t => (t, v) :: fr
def dstOk (N : Nat) (o : Oper) : Bool := match o.dst with | none => true | some d => Nat.blt d N

theorem get_cons (s t : Nat) (v : Option Value) (fr : Slots) : Slots.get ((s, v) :: fr) t = if s = t then v else fr.get t := by
  show (bif Nat.beq s t then v else Slots.get fr t) = _
  by_cases h : s = t
  · subst h; simp
  · have : Nat.beq s t = false := by
      cases hb : Nat.beq s t with
      | false => rfl
      | true => exact absurd (Nat.eq_of_beq_eq_true hb) h
    rw [this, if_neg h]
    rfl

theorem eval_put (a : Act) (d t : Nat) (c : Value) (hd : d < a.tmps.size) : (a.put (some d) c).eval (.tmp t) = if d = t then c else a.eval (.tmp t) := by
  unfold Act.put Act.eval
  simp only
  by_cases h : d = t
  · subst h
    simp [Array.getD_eq_getD_getElem?, hd]
  · simp [Array.getD_eq_getD_getElem?, Array.getElem?_setIfInBounds_ne h, h]

theorem FRel.put {N : Nat} {D : List Deferred} {ρ : Place} {fr : Slots} {a : Act} (h : FRel N D ρ fr a) {o : Oper} (hd : dstOk N o = true) {v : Option Value} {c : Value} (hv : ∀ x, v = some x → VRel ρ x c) : FRel N D ρ (putS fr o.dst v) (a.put o.dst c) := by
  unfold dstOk at hd
  cases hdst : o.dst with
  | none => exact h
  | some d =>
    rw [hdst] at hd
    have hlt : d < N := by simpa [Nat.blt_eq] using hd
    refine ⟨by simp [Act.put, h.1], h.2.1, fun t x hx => ?_⟩
    rw [eval_put a d t c (by rw [h.1]; exact hlt)]
    simp only [putS, get_cons] at hx
    by_cases e : d = t
    · simp only [e, if_true] at hx ⊢
      exact hv x hx
    · simp only [e, if_false] at hx ⊢
      exact h.2.2 t x hx

def fnc (l : Option Nat) : Fence := { Fence.wide with round := l }
theorem wpIn_of_wp {P : Program} {o : Oper} {l : Option Nat} {a : Act} {w : World} {next : Act → World → Prop} {Q : Exit → Act → World → Prop} (hd : ∀ c, o.op ≠ .defer c) (h : o.wp P a w next Q) : o.wpIn (fnc l) 0 P a w next Q := by
  refine ⟨fun _ _ => trivial, ?_⟩
  rw [Oper.semAt_eq _ _ _ hd]
  unfold Oper.wp at h
  generalize (execOp a.eval o).run P w = r at h ⊢
  cases r with
  | ok x w' =>
    cases x with
    | value v => exact h
    | skip => exact h
    | defer d => exact h
    | enter f args => exact ⟨fun e => (by cases e), show CallsIn Fence.wide 0 P f args w' _ from callsIn_wide.2 (Calls.mono h fun e w'' he => by cases e <;> exact he)⟩
    | row row args => exact ⟨fun e => (by cases e), fun c cs _ => let ⟨v, w2, r, s⟩ := h c cs; ⟨v, w2, r, stepsIn_wide.2 s⟩⟩
    | _ => exact h.elim
  | halt x w' => cases x <;> exact h
theorem nd_of {P : Program} {o : Oper} {a : Act} {w : World} (h : o.wp P a w (fun a' _ => a'.defers = a.defers) (fun _ _ _ => False)) : ∀ c, o.op ≠ .defer c := by
  intro c hc
  unfold Oper.wp execOp at h
  simp only [hc, Sem.run_bind] at h
  generalize (resolve a.eval c o.type).run P w = r at h
  cases r with
  | ok d w' =>
    have h2 : ({ a with defers := d :: a.defers }.put o.dst undef).defers = a.defers := h
    have h3 : ({ a with defers := d :: a.defers }.put o.dst undef).defers = d :: a.defers := by cases o.dst <;> rfl
    rw [h3] at h2
    have := congrArg List.length h2
    simp at this
  | halt x w' => cases x <;> exact h
theorem uponI_value {P : Program} {o : Oper} {l : Option Nat} {a : Act} {next : Act → World → Prop} {Q : Exit → Act → World → Prop} {w w' : World} {c : Value} (h : (execOp a.eval o).run P w = .ok (.value c) w') (hn : next (a.put o.dst c) w') : o.wpIn (fnc l) 0 P a w next Q := by
  have hup : ∀ {next : Act → World → Prop} {Q : Exit → Act → World → Prop}, next (a.put o.dst c) w' → o.wp P a w next Q := fun hn => by unfold Oper.wp; rw [h]; exact hn
  exact wpIn_of_wp (nd_of (hup (by cases o.dst <;> rfl))) (hup hn)

structure CDo (P : Program) (o : Oper) (fr : Slots) (H : GHeap) (R : Option Value → GHeap → Prop) : Prop where
  mkI ::
  run : ∀ (l : Option Nat) (B : Nat) (w0 : World) (ρ : Place) (a : Act) (w : World), Sim P B w0 ρ H w → (∀ t v, Operand.tmp t ∈ o.op.operands → fr.get t = some v → VRel ρ v (a.eval (.tmp t))) →
    ∀ (next : Act → World → Prop) (Q : Exit → Act → World → Prop),
      (∀ ρ' v c H' w', R v H' → Ext ρ ρ' → Sim P B w0 ρ' H' w' → (∀ x, v = some x → VRel ρ' x c) → next (a.put o.dst c) w') → o.wpIn (fnc l) 0 P a w next Q
theorem CDo.mk {P : Program} {o : Oper} {fr : Slots} {H : GHeap} {R : Option Value → GHeap → Prop} (h : ∀ (B : Nat) (w0 : World) (ρ : Place) (a : Act) (w : World), Sim P B w0 ρ H w → (∀ t v, Operand.tmp t ∈ o.op.operands → fr.get t = some v → VRel ρ v (a.eval (.tmp t))) →
    ∀ (next : Act → World → Prop) (Q : Exit → Act → World → Prop),
      (∀ ρ' v c H' w', R v H' → Ext ρ ρ' → Sim P B w0 ρ' H' w' → (∀ x, v = some x → VRel ρ' x c) → next (a.put o.dst c) w') → o.wp P a w next Q) : CDo P o fr H R :=
  .mkI fun _ B w0 ρ a w hs hf next Q hn => wpIn_of_wp (nd_of (h B w0 ρ a w hs hf (fun a' _ => a'.defers = a.defers) (fun _ _ _ => False) fun _ _ _ _ _ _ _ _ _ => by cases o.dst <;> rfl)) (h B w0 ρ a w hs hf next Q hn)

def GCalls (P : Program) (f : FuncId) (args : List Value) (H : GHeap) (Q : Value → GHeap → Prop) : Prop :=
  ∀ (B : Nat) (w0 : World) (ρ : Place) (cargs : List Value) (w : World), Sim P B w0 ρ H w → LRel ρ args cargs →
    Calls P f cargs.toArray w fun e w' => ∃ v c ρ' H', e = .returned c ∧ Q v H' ∧ Ext ρ ρ' ∧ Sim P B w0 ρ' H' w' ∧ VRel ρ' v c

theorem GCalls.mono {P : Program} {f : FuncId} {args : List Value} {H : GHeap} {Q Q' : Value → GHeap → Prop} (h : GCalls P f args H Q) (hq : ∀ v H', Q v H' → Q' v H') : GCalls P f args H Q' :=
  fun B w0 ρ cargs w hs hl => (h B w0 ρ cargs w hs hl).mono fun _ _ ⟨v, c, ρ', H', he, hQ, r⟩ => ⟨v, c, ρ', H', he, hq v H' hQ, r⟩

theorem GCalls.quiet {P : Program} {f : FuncId} {args : List Value} {H : GHeap} {φ : Value → Prop} (h : GCalls P f args H fun v H' => φ v ∧ flat v = true ∧ H.Le H') : GCalls P f args H fun v H' => φ v ∧ H' = H :=
  fun B w0 ρ cargs w hs hl => (h B w0 ρ cargs w hs hl).mono fun _ _ ⟨v, c, ρ', H', he, ⟨hφ, hf, hle⟩, hx, hs', hv⟩ => by
    refine ⟨v, c, ρ, H, he, ⟨hφ, rfl⟩, .refl ρ, hs'.drop hs hx hle, ?_⟩
    have : c = v := by
      unfold flat at hf
      split at hf
      · exact flat_agg_eq hv hf
      · rename_i cs
        obtain ⟨_, rfl, hr⟩ := hv.tuple_inv
        congr 1
        refine Array.ext (by simpa using hr.1.symm) fun i h₁ h₂ => ?_
        exact flat1_eq (hr.2 i _ _ (by simp [h₂]) (by simp [h₁])) (List.all_eq_true.1 hf _ (by simp))
      · exact flat1_eq hv hf
    rw [this]
    exact .flat hf
end Go.GL
namespace Go.GL
open Go.RowKit

section
variable {P : Program} {H : GHeap} {fr : Slots} {o : Oper} {R : Option Value → GHeap → Prop}

theorem upon_value {a : Act} {next : Act → World → Prop} {Q : Exit → Act → World → Prop} {w w' : World} {c : Value} (h : (execOp a.eval o).run P w = .ok (.value c) w') (hn : next (a.put o.dst c) w') : o.wp P a w next Q := by
  unfold Oper.wp
  rw [h]
  exact hn
theorem upon_skip {a : Act} {next : Act → World → Prop} {Q : Exit → Act → World → Prop} {w w' : World} (h : (execOp a.eval o).run P w = .ok .skip w') (hn : next (a.put o.dst undef) w') : o.wp P a w next Q := by
  unfold Oper.wp
  rw [h]
  exact hn

theorem v_run' {s : Sem Value} {r : Value} {w w' : World} (h : s.run P w = .ok r w') : ((do pure (Next.value (← s))) : Sem Next).run P w = .ok (.value r) w' := by
  simp only [Sem.run_bind, h, Result.andThen_ok, Sem.run_pure]
theorem u_run' {s : Sem Unit} {w w' : World} (h : s.run P w = .ok () w') : ((do s; pure Next.skip) : Sem Next).run P w = .ok .skip w' := by
  simp only [Sem.run_bind, h, Result.andThen_ok, Sem.run_pure]

theorem newRow_run (e : TypeId) (C : Array Value) (w : World) : (newRow e C).run P w = .ok ⟨w.heap.size, 0, none⟩ (w.alloc (.cells C e)) := rfl

theorem new_row {B : Nat} {w0 w : World} {ρ : Place} (hs : Sim P B w0 ρ H w) {cs : List Value} {C : Array Value} {e : TypeId} {n : Nat} (he : (P.info? e).map (·.size) = some n) (hl : cs.length ≤ C.size)
    (hc : ∀ (i : Nat) (v : Value), cs[i]? = some v → ∃ c, C[i]? = some c ∧ VRel ρ v c) : ∃ ρ', Ext ρ ρ' ∧ Sim P B w0 ρ' (H.push (.row cs e true)) (w.alloc (.cells C e)) ∧ ρ' H.next = some ⟨w.heap.size, 0, C.size, n⟩ :=
  let h := hs.alloc he hl hc
  ⟨_, h.2, h.1, place_self⟩

theorem LRel.prefix {ρ : Place} {vs cs : List Value} (h : LRel ρ vs cs) : ∀ (i : Nat) (v : Value), vs[i]? = some v → ∃ c, cs.toArray[i]? = some c ∧ VRel ρ v c := fun i v hv => by
  obtain ⟨c, hc, hr⟩ := h.get hv
  exact ⟨c, by simpa using hc, hr⟩

theorem CDo.box {e : TypeId} {x : Operand} {v : Value} {n : Nat} (ho : o.op = .box e x) (he : (P.info? e).map (·.size) = some n) (hx : ev fr x = some v)
    (h : R (some (.pointer (some ⟨H.next, 0, none⟩))) (H.push (.row v.cells.toList e true))) : CDo P o fr H R := .mk fun B w0 ρ a w hs hf next Q hn => by
  rw [ho] at hf
  have hr := ev_rel hf (x := x) (by simp [Op.operands]) hx
  obtain ⟨ρ', hext, hs', hsp⟩ := new_row hs (cs := v.cells.toList) (C := (a.eval x).cells) he (by have := hr.cells.1; simp at this; simp; omega) (fun i u hu => by
    obtain ⟨c, h1, h2⟩ := hr.cells.get hu
    exact ⟨c, by simpa using h1, h2⟩)
  refine upon_value (c := .pointer (some ⟨w.heap.size, 0, none⟩)) (w' := w.alloc (.cells (a.eval x).cells e)) ?_ (hn ρ' _ _ _ _ h hext hs' fun y hy => ?_)
  · unfold execOp
    simp only [ho]
    refine v_run' ?_
    simp only [Instr.box, newVar, Sem.run_bind, newRow_run, Result.andThen_ok, Sem.run_pure]
  · cases hy
    exact .ptr (s := ⟨w.heap.size, 0, (a.eval x).cells.size, n⟩) hsp

def zeroT (P : Program) (e : TypeId) : Option (List Value × Nat) := (P.info? e).bind fun (i : TypeInfo) => i.zero.map fun z => (z.cells.toList, i.size)

theorem zeroT_run {e : TypeId} {z : List Value} {n : Nat} (h : zeroT P e = some (z, n)) : ∃ i zv, P.info? e = some i ∧ i.zero = some zv ∧ zv.cells.toList = z ∧ i.size = n := by
  unfold zeroT at h
  simp only [Option.bind_eq_some_iff, Option.map_eq_some_iff, Prod.mk.injEq] at h
  obtain ⟨i, hi, zv, hz, h1, h2⟩ := h
  exact ⟨i, zv, hi, hz, h1, h2⟩

theorem CDo.alloc {e : TypeId} {z : List Value} {n : Nat} (ho : o.op = .alloc e) (hz : zeroT P e = some (z, n)) (hfl : z.all flat1 = true)
    (h : R (some (.pointer (some ⟨H.next, 0, none⟩))) (H.push (.row z e true))) : CDo P o fr H R := .mk fun B w0 ρ a w hs hf next Q hn => by
  obtain ⟨i, zv, hi, hz0, rfl, hn'⟩ := zeroT_run hz
  obtain ⟨ρ', hext, hs', hsp⟩ := new_row hs (cs := zv.cells.toList) (C := zv.cells) (e := e) (n := n) (by simp [hi, hn']) (by simp) (fun j u hu => ⟨u, by simpa using hu, .flat1 (List.all_eq_true.1 hfl _ (List.mem_of_getElem? hu))⟩)
  refine upon_value (c := .pointer (some ⟨w.heap.size, 0, none⟩)) (w' := w.alloc (.cells zv.cells e)) ?_ (hn ρ' _ _ _ _ h hext hs' fun y hy => ?_)
  · unfold execOp
    simp only [ho]
    refine v_run' ?_
    simp only [Instr.alloc, zeroValue, typeInfo, Sem.run_bind, program, Sem.run, hi, hz0, Result.andThen_ok, Sem.run_pure, newVar, newRow_run]
  · cases hy
    exact .ptr (s := ⟨w.heap.size, 0, zv.cells.size, n⟩) hsp

def madeL (z : List Value) (n : Nat) : List Value := (List.range n).map fun i => z[i % z.length]?.getD undef
theorem length_madeL (z : List Value) (n : Nat) : (madeL z n).length = n := by simp [madeL]
theorem madeL_eq (z : Array Value) (n : Nat) (hz : n = 0 ∨ 0 < z.size) : ((Array.range n).map (z[· % z.size]!)) = (madeL z.toList n).toArray := by
  apply Array.ext'
  simp only [Array.toList_map, Array.toList_range, madeL]
  refine List.map_congr_left fun i hi => ?_
  have hi' : i < n := by simpa using hi
  have hpos : 0 < z.size := by omega
  have hlt : i % z.size < z.size := Nat.mod_lt _ hpos
  rw [getElem!_pos z (i % z.size) hlt]
  simp [hlt]
theorem madeL_rel {ρ : Place} {z : List Value} (hz : z.all flat1 = true) (n : Nat) (h0 : n = 0 ∨ 0 < z.length) : LRel ρ (madeL z n) (madeL z n) := by
  refine ⟨rfl, fun i v c hv hc => ?_⟩
  rw [hv] at hc
  cases hc
  refine .flat1 ?_
  simp only [madeL, List.getElem?_map, Option.map_eq_some_iff] at hv
  obtain ⟨j, hj, rfl⟩ := hv
  have hlt : j < n := by
    have := List.mem_of_getElem? hj
    simpa using this
  have hpos : 0 < z.length := by omega
  have hlt' : j % z.length < z.length := Nat.mod_lt _ hpos
  rw [List.getElem?_eq_getElem hlt']
  exact List.all_eq_true.1 hz _ (List.getElem_mem _)

theorem CDo.buildSlice {t e : TypeId} {len n : Nat} {parts : Array (Nat × Operand)} {z vs cs : List Value} (ho : o.op = .buildSlice t len parts) (ht : sliceT P t = some (e, n)) (hz : zeroT P e = some (z, n)) (hfl : z.all flat1 = true) (hzn : z.length = n) (h0 : 0 < n)
    (hsm : len * n ≤ 16777216) (hv : evs fr (parts.toList.map (·.2)) = some vs) (hc : fillL (fun i => some (i * n, n)) (madeL z (len * n)) ((parts.toList.map (·.1)).zip vs) = some cs)
    (h : R (some (.slice (some ⟨H.next, 0, none⟩) len len)) (H.push (.row cs e true))) : CDo P o fr H R := .mk fun B w0 ρ a w hs hf next Q hn => by
  rw [ho] at hf
  obtain ⟨hu, inf, hinf, hsz⟩ := sliceT_run ht
  obtain ⟨i, zv, hi, hz0, rfl, hn'⟩ := zeroT_run hz
  rw [hinf] at hi
  cases hi
  have hrel := evs_rel (xs := parts.toList.map (·.2)) hf (fun x hx => by simp only [Op.operands]; simpa using hx) hv
  obtain ⟨ds, hfill, hdr⟩ := fill_rel (fun i => some (i * n, n)) (parts.toList.map (·.1)) hrel (madeL_rel (ρ := ρ) hfl (len * n) (.inr (by omega))) hc
  have hlen : ds.length = len * n := by
    have e1 : ∀ (l : List (Nat × Value)) (c ds : Array Value), Instr.fill (fun i => some (i * n, n)) c l = some ds → ds.size = c.size := by
      intro l
      induction l with
      | nil => intro c ds hh; simp only [Instr.fill, Option.some.injEq] at hh; rw [hh]
      | cons p l ih =>
        intro c ds hh
        unfold Instr.fill at hh
        simp only at hh
        split at hh
        · cases hh
        · have := ih _ _ hh
          rw [this]
          have e2 := setAll_eq p.2.cells.toList c (p.1 * n) 0
          have e3 : (p.2.cells.zipIdx.foldl (fun (cs : Array Value) (x : Value × Nat) => cs.setIfInBounds (p.1 * n + x.2) x.1) c) = (setAll c.toList (p.1 * n + 0) p.2.cells.toList).toArray := by
            rw [← e2, ← Array.foldl_toList, Array.toList_zipIdx]
          rw [e3]
          simp [length_setAll]
    have := e1 _ _ _ hfill
    simpa [length_madeL] using this
  obtain ⟨ρ', hext, hs', hsp⟩ := new_row hs (cs := cs) (C := ds.toArray) (e := e) (n := n) (by simp [hinf, hsz]) (by simp [hdr.1]) (LRel.prefix hdr)
  refine upon_value (c := .slice (some ⟨w.heap.size, 0, none⟩) len len) (w' := w.alloc (.cells ds.toArray e)) ?_ (hn ρ' _ _ _ _ h hext hs' fun y hy => ?_)
  · unfold execOp
    simp only [ho]
    refine v_run' ?_
    have hpl : (parts.map fun (i, x) => (i, a.eval x)).toList = (parts.toList.map (·.1)).zip ((parts.toList.map (·.2)).map a.eval) := by
      simp [List.zip_map', Function.comp_def]
    unfold Instr.buildSlice
    simp only [Sem.run_bind, run_underlying hu, Result.andThen_ok, sizeOf_run hinf, hsz]
    rw [if_neg (by omega)]
    have hmade : ∀ zz : Array Value, ((len * n = 0 ∧ zz = #[]) ∨ zz = zv.cells) → (Array.range (len * n)).map (zz[· % zz.size]!) = (madeL zv.cells.toList (len * n)).toArray := by
      intro zz hh
      rcases hh with ⟨h0', rfl⟩ | rfl
      · rw [h0']; simp [madeL]
      · exact madeL_eq _ _ (.inr (by simp at hzn; omega))
    by_cases hz' : len * n = 0
    · rw [if_pos hz']
      simp only [Sem.run_bind, Sem.run_pure, Result.andThen_ok]
      rw [hmade #[] (.inl ⟨hz', rfl⟩), hpl, hfill]
      simp only [Sem.run_bind, newRow_run, Result.andThen_ok, Sem.run_pure]
    · rw [if_neg hz']
      simp only [zeroValue, typeInfo, Sem.run_bind, program, Sem.run, hinf, hz0, Result.andThen_ok, Sem.run_pure]
      rw [hmade zv.cells (.inr rfl), hpl, hfill]
      simp only [Sem.run_bind, newRow_run, Result.andThen_ok, Sem.run_pure]
  · cases hy
    have := VRel.slice (ρ := ρ') (g := H.next) (o := 0) (n := len) (cap := len) (s := ⟨w.heap.size, 0, ds.toArray.size, n⟩) hsp (Nat.le_refl _) (by simp [hlen]) (by
      unfold maxLen
      have : len ≤ len * n := Nat.le_mul_of_pos_right _ h0
      omega)
    simpa using this

theorem oneCell_cells {v : Value} (h : v.oneCell' = true) : v.cells = #[v] := by
  cases v <;> first | rfl | cases h

theorem CDo.store {t : TypeId} {x y : Operand} {g off : Nat} {v : Value} {cs : List Value} {e : TypeId} (ho : o.op = .store t x y) (ht : (P.info? t).map (·.size) = some 1) (hx : ev fr x = some (.pointer (some ⟨g, off, none⟩))) (hy : ev fr y = some v)
    (h1 : v.oneCell' = true) (hg : H.get g = some (.row cs e true)) (hoff : off < cs.length) (h : R none (H.set g (some (.row (cs.set off v) e true)))) : CDo P o fr H R := .mk fun B w0 ρ a w hs hf next Q hn => by
  rw [ho] at hf
  obtain ⟨sp, hsp, ex⟩ := (ev_rel hf (x := x) (by simp [Op.operands]) hx).ptr_inv
  have hr := ev_rel hf (x := y) (by simp [Op.operands]) hy
  obtain ⟨sp', C, fz, k1, k2, k3, k4, k5, k6, k7, k8⟩ := hs.live _ _ hg
  rw [hsp] at k1
  cases k1
  obtain ⟨hfz, hB⟩ := k6 rfl
  subst hfz
  have h1' : (a.eval y).oneCell' = true := by rw [hr.oneCell]; exact h1
  have hlt : sp.base + off < C.size := by omega
  have hcell : w.cell? ⟨sp.blk, sp.base + off, none⟩ = some C[sp.base + off] := by simp [World.cell?, k2, hlt]
  have hfro : w.frozen? ⟨sp.blk, sp.base + off, none⟩ = false := by simp [World.frozen?, k2]
  have hb : sp.blk < w.heap.size := (Array.getElem?_eq_some_iff.1 k2).1
  have hheap : (w.setCell ⟨sp.blk, sp.base + off, none⟩ (a.eval y)).heap[sp.blk]? = some (.cells (C.setIfInBounds (sp.base + off) (a.eval y)) e (0, 0)) := by
    simp [World.setCell, Array.getElem?_modify, k2]
  have hs' := hs.update hg hsp (w' := w.setCell ⟨sp.blk, sp.base + off, none⟩ (a.eval y)) (cs' := cs.set off v) hheap (by simp [k3]) (by simp; omega) (fun i u hu => by
    by_cases e1 : off = i
    · subst e1
      rw [List.getElem?_set_self hoff] at hu
      cases hu
      exact ⟨a.eval y, by simp [hlt], hr⟩
    · rw [List.getElem?_set_ne e1] at hu
      obtain ⟨c, h2, h3⟩ := k5 i u hu
      exact ⟨c, by rw [Array.getElem?_setIfInBounds_ne (by omega)]; exact h2, h3⟩) (fun k hk => Below.heap_setCell _ _ _ _ hk) (by simp [World.setCell]) rfl rfl rfl
  refine upon_skip (w' := w.setCell ⟨sp.blk, sp.base + off, none⟩ (a.eval y)) ?_ (hn ρ none undef _ _ h (.refl ρ) hs' fun y hy => by cases hy)
  unfold execOp
  simp only [ho, ex]
  refine u_run' ?_
  simp only [Option.map_eq_some_iff] at ht
  obtain ⟨inf, hinf, hsz⟩ := ht
  simp only [Instr.storeAt, Instr.sureAddr, storeVar, Sem.run_bind, Sem.run_pure, Result.andThen_ok, sizeOf_run hinf, hsz, oneCell_cells h1']
  simp only [List.size_toArray, List.length_cons, List.length_nil, Nat.zero_add, ne_eq, not_true_eq_false, if_false]
  simp only [storeCells, Sem.run_bind, Addr.add, if_true]
  rw [run_store P w _ _ _ h1', hcell]
  simp [hfro]

theorem setAll_get : ∀ (vs cs : List Value) (o i : Nat), o + vs.length ≤ cs.length → (setAll cs o vs)[i]? = if o ≤ i ∧ i < o + vs.length then vs[i - o]? else cs[i]?
  | [], cs, o, i, _ => by
    unfold setAll
    rw [if_neg (by simp only [List.length_nil]; omega)]
  | v :: vs, cs, o, i, h => by
    simp only [List.length_cons] at h
    unfold setAll
    rw [setAll_get vs (cs.set o v) (o + 1) i (by simp; omega)]
    by_cases h1 : o = i
    · subst h1
      rw [if_neg (by omega), if_pos (by simp)]
      rw [List.getElem?_set_self (by omega)]
      simp
    · by_cases h2 : o + 1 ≤ i ∧ i < o + 1 + vs.length
      · rw [if_pos h2, if_pos (by simp; omega)]
        rw [show i - o = (i - (o + 1)) + 1 by omega]
        simp
      · rw [if_neg h2, if_neg (by simp; omega)]
        rw [List.getElem?_set_ne h1]

theorem CDo.storeN {t : TypeId} {x y : Operand} {g off n : Nat} {vs : Array Value} {cs : List Value} {e : TypeId} (ho : o.op = .store t x y) (ht : (P.info? t).map (·.size) = some n) (hx : ev fr x = some (.pointer (some ⟨g, off, none⟩))) (hy : ev fr y = some (.agg vs))
    (hn : vs.size = n) (h1 : vs.toList.all (·.oneCell') = true) (hg : H.get g = some (.row cs e true)) (hoff : off + n ≤ cs.length) (h : R none (H.set g (some (.row (setAll cs off vs.toList) e true)))) : CDo P o fr H R := .mk fun B w0 ρ a w hs hf next Q hnx => by
  rw [ho] at hf
  obtain ⟨sp, hsp, ex⟩ := (ev_rel hf (x := x) (by simp [Op.operands]) hx).ptr_inv
  obtain ⟨ds, hd, hr⟩ := (ev_rel hf (x := y) (by simp [Op.operands]) hy).agg_inv
  obtain ⟨sp', C, fz, k1, k2, k3, k4, k5, k6, k7, k8⟩ := hs.live _ _ hg
  rw [hsp] at k1
  cases k1
  obtain ⟨hfz, hB⟩ := k6 rfl
  subst hfz
  have hdl : ds.size = n := by have := hr.1; simp at this; omega
  have h1' : ∀ c ∈ ds.toList, c.oneCell' = true := by
    intro c hc
    obtain ⟨i, hi⟩ := List.getElem?_of_mem hc
    have hil : i < vs.toList.length := by rw [hr.1]; exact (List.getElem?_eq_some_iff.1 hi).1
    have hv : vs.toList[i]? = some vs.toList[i] := List.getElem?_eq_getElem hil
    rw [(hr.2 i _ _ hv hi).oneCell]
    exact List.all_eq_true.1 h1 _ (List.getElem_mem _)
  have hst := run_storeCells_at P sp.blk (sp.base + off) e ds.toList 0 C w k2 (by simp; omega) h1'
  simp only [Nat.add_zero] at hst
  have hb : sp.blk < w.heap.size := (Array.getElem?_eq_some_iff.1 k2).1
  have hget : ∀ i, ((C.toList.take (sp.base + off) ++ ds.toList ++ C.toList.drop (sp.base + off + ds.toList.length)).toArray)[i]? = if sp.base + off ≤ i ∧ i < sp.base + off + n then ds[i - (sp.base + off)]? else C[i]? := by
    intro i
    simp only [List.getElem?_toArray, List.append_assoc]
    rw [List.getElem?_append]
    have e1 : (C.toList.take (sp.base + off)).length = sp.base + off := by simp; omega
    rw [e1]
    by_cases hi : i < sp.base + off
    · rw [if_pos hi, if_neg (by omega), List.getElem?_take, if_pos hi]
      simp
    · rw [if_neg hi, List.getElem?_append]
      by_cases hi2 : i < sp.base + off + n
      · rw [if_pos (by simp [hdl]; omega), if_pos (by omega)]
        simp
      · rw [if_neg (by simp [hdl]; omega), if_neg (by omega)]
        simp only [List.getElem?_drop, Array.length_toList, hdl, Array.getElem?_toList]
        congr 1
        omega
  have hsize : ((C.toList.take (sp.base + off) ++ ds.toList ++ C.toList.drop (sp.base + off + ds.toList.length)).toArray).size = C.size := by
    simp [hdl]; omega
  have hs' := hs.update hg hsp (w' := w.setRow sp.blk (C.toList.take (sp.base + off) ++ ds.toList ++ C.toList.drop (sp.base + off + ds.toList.length)).toArray) (cs' := setAll cs off vs.toList)
    (setRow_heap w sp.blk C _ e (0, 0) k2) (by rw [hsize]; exact k3) (by rw [hsize, length_setAll]; exact k4) (fun i u hu => by
    rw [setAll_get _ _ _ _ (by simp; omega)] at hu
    rw [hget]
    by_cases h2 : off ≤ i ∧ i < off + vs.toList.length
    · rw [if_pos h2] at hu
      simp only [Array.length_toList, hn] at h2
      rw [if_pos (by omega), show sp.base + i - (sp.base + off) = i - off by omega]
      obtain ⟨c, h3, h4⟩ := hr.get hu
      exact ⟨c, by simpa using h3, h4⟩
    · rw [if_neg h2] at hu
      simp only [Array.length_toList, hn] at h2
      rw [if_neg (by omega)]
      exact k5 i u hu) (fun k hk => setRow_other w _ k _ hk) (by simp [World.setRow]) rfl rfl rfl
  refine upon_skip (w' := w.setRow sp.blk (C.toList.take (sp.base + off) ++ ds.toList ++ C.toList.drop (sp.base + off + ds.toList.length)).toArray) ?_ (hnx ρ none undef _ _ h (.refl ρ) hs' fun y hy => by cases hy)
  unfold execOp
  simp only [ho, ex, hd]
  refine u_run' ?_
  simp only [Option.map_eq_some_iff] at ht
  obtain ⟨inf, hinf, hsz⟩ := ht
  simp only [Instr.storeAt, Instr.sureAddr, storeVar, Sem.run_bind, Sem.run_pure, Result.andThen_ok, sizeOf_run hinf, hsz]
  rw [if_neg (by simp [Value.cells, hdl])]
  exact hst
end
end Go.GL
namespace Go.GL
open Go.RowKit

inductive SrcG (P : Program) (fr : Slots) (H : GHeap) (sz : Nat) (tx : TypeId) (x : Operand) : Nat → List Value → Prop
  | slice {e : TypeId} {k g o m : Nat} {news : List Value} (ht : sliceT P tx = some (e, k)) (h : ev fr x = some (.slice (some ⟨g, o, none⟩) m m)) (hl : news.length = m * sz)
      (hc : ∀ (i : Nat) (v : Value), news[i]? = some v → H.cell g (o + i) = some v) (h1 : ∀ v ∈ news, v.oneCell' = true) : SrcG P fr H sz tx x m news
  | nil {e : TypeId} {k : Nat} (ht : sliceT P tx = some (e, k)) (h : ev fr x = some (.slice none 0 0)) : SrcG P fr H sz tx x 0 []
  | empty {e : TypeId} {k : Nat} {b : Option Addr} (ht : sliceT P tx = some (e, k)) (h : ev fr x = some (.slice b 0 0)) : SrcG P fr H sz tx x 0 []
  | str {s : ByteArray} (ht : isStringT P tx = true) (hs : sz = 1) (h : ev fr x = some (.string s)) : SrcG P fr H sz tx x s.size (byteCells s)

section
variable {P : Program} {B : Nat} {w0 : World} {ρ : Place} {H : GHeap} {w : World} {fr : Slots} {a : Act}

theorem cells_run (hs : Sim P B w0 ρ H w) {g : Nat} {sp : Spot} (hsp : ρ g = some sp) : ∀ (vs : List Value) (off : Nat), (∀ (i : Nat) (v : Value), vs[i]? = some v → H.cell g (off + i) = some v) →
    ∃ cs : List Value, LRel ρ vs cs ∧ ∀ (j : Nat) (c : Value), cs[j]? = some c → w.cell? ⟨sp.blk, sp.base + off + j, none⟩ = some c
  | [], off, _ => ⟨[], .nil ρ, fun j c hj => by simp at hj⟩
  | v :: vs, off, hc => by
    obtain ⟨cs, h1, h2⟩ := cells_run hs hsp vs (off + 1) (fun i v hv => by rw [show off + 1 + i = off + (i + 1) by omega]; exact hc (i + 1) v (by simpa using hv))
    obtain ⟨c, hcell, hr⟩ := hs.cell hsp (hc 0 v rfl)
    refine ⟨c :: cs, .cons hr h1, fun j c' hj => ?_⟩
    cases j with
    | zero => simp at hj; subst hj; exact hcell
    | succ j => rw [show sp.base + off + (j + 1) = sp.base + (off + 1) + j by omega]; exact h2 j c' (by simpa using hj)

theorem LRel.one {ρ : Place} {vs cs : List Value} (h : LRel ρ vs cs) (h1 : ∀ v ∈ vs, v.oneCell' = true) : ∀ c ∈ cs, c.oneCell' = true := by
  intro c hc
  obtain ⟨i, hi⟩ := List.getElem?_of_mem hc
  have hil : i < vs.length := by rw [h.1]; exact (List.getElem?_eq_some_iff.1 hi).1
  have hv : vs[i]? = some vs[i] := List.getElem?_eq_getElem hil
  rw [(h.2 i _ _ hv hi).oneCell]
  exact h1 _ (List.getElem_mem _)

theorem byteCells_rel (ρ : Place) (s : ByteArray) : LRel ρ (byteCells s) (byteCells s) := ⟨rfl, fun i v c hv hc => by
  rw [hv] at hc
  cases hc
  obtain ⟨b, _, rfl⟩ := List.mem_map.1 (List.mem_of_getElem? hv)
  exact .int _ _⟩

theorem SrcG.sound {sz : Nat} {tx : TypeId} {x : Operand} {m : Nat} {news : List Value} (h : SrcG P fr H sz tx x m news) (hs : Sim P B w0 ρ H w) {L : Array Operand} (hx : x ∈ L)
    (hf : ∀ t v, Operand.tmp t ∈ L → fr.get t = some v → VRel ρ v (a.eval (.tmp t))) : ∃ cnews, Src P sz tx (a.eval x) m cnews w ∧ LRel ρ news cnews ∧ news.length = m * sz := by
  cases h with
  | slice ht he hl hc h1 =>
    rename_i e k g off
    obtain ⟨hu, _⟩ := sliceT_run ht
    obtain ⟨_, sp, hsp, hb⟩ := (ev_rel hf hx he).slice_inv
    rcases hb with ⟨cap, hb, _⟩ | ⟨hm, a', hb⟩
    · obtain ⟨cs, hr, hcs⟩ := cells_run hs hsp news off hc
      refine ⟨cs, ?_, hr, hl⟩
      rw [hb]
      exact Src.ofSlice w hu _ m cap cs (by rw [← hr.1, hl]) (fun j u hj => by rw [add_mk]; exact hcs j u hj) (hr.one h1)
    · subst hm
      have hn : news = [] := List.eq_nil_of_length_eq_zero (by simpa using hl)
      subst hn
      refine ⟨[], ?_, .nil ρ, hl⟩
      rw [hb]
      exact Src.ofSlice w hu _ 0 0 [] (by simp) (fun j u hj => by simp at hj) (fun u hu => by cases hu)
  | nil ht he =>
    obtain ⟨hu, _⟩ := sliceT_run ht
    obtain ⟨_, _, hb⟩ := (ev_rel hf hx he).nilSlice_inv
    refine ⟨[], ?_, .nil ρ, by simp⟩
    rw [hb]
    exact Src.ofNil w hu 0
  | empty ht he =>
    obtain ⟨hu, _⟩ := sliceT_run ht
    have hr := ev_rel hf hx he
    refine ⟨[], ?_, .nil ρ, by simp⟩
    generalize hc : a.eval x = c at hr
    cases hr with
    | nilSlice => exact Src.ofNil w hu 0
    | slice _ _ _ _ => exact Src.ofSlice w hu _ 0 _ [] (by simp) (fun j u hj => by simp at hj) (fun u hu => by cases hu)
    | empty _ => rename_i a' _; exact Src.ofSlice w hu _ 0 _ [] (by simp) (fun j u hj => by simp at hj) (fun u hu => by cases hu)
  | str ht hsz he =>
    rename_i s
    subst hsz
    refine ⟨byteCells s, ?_, byteCells_rel ρ s, by rw [byteCells_length, Nat.mul_one]⟩
    rw [(ev_rel hf hx he).string_inv]
    exact Src.ofString w (isStringT_run ht) s

theorem append_room {t tx ty e : TypeId} {i : TypeInfo} (ht : P.underlying t = some (.slice e)) (hi : P.info? e = some i) {b off sLen sCap : Nat} {x : Value} {n : Nat} {news : List Value} (hs : Src P i.size tx x n news w) (hroom : sLen + n ≤ sCap) {w' : World}
    (hst : (storeCells ⟨b, off + sLen * i.size, none⟩ news).run P w = .ok () w') :
    (Builtin.append_ #[t, tx] ty #[.slice (some ⟨b, off, none⟩) sLen sCap, x]).run P w = .ok (.slice (some ⟨b, off, none⟩) (sLen + n) sCap) w' := by
  rcases hs.kind with ⟨e', hk⟩ | hk <;> simp [Builtin.append_, run_underlying ht, run_underlying hk, sizeOf, typeInfo, hi, hs.len, hroom, hs.cells, Addr.add_lit, hst]

theorem append_upon {o : Oper} {t tx : TypeId} {s x : Operand} (ho : o.op = .call { callee := .builtin .append, args := #[s, x], argTypes := #[t, tx] }) {next : Act → World → Prop} {Q : Exit → Act → World → Prop} {v : Value} {w' : World}
    (hr : (Builtin.append_ #[t, tx] o.type #[a.eval s, a.eval x]).run P w = .ok v w') (hn : next (a.put o.dst v) w') : o.wp P a w next Q := by
  refine upon_value (c := v) (w' := w') ?_ hn
  unfold execOp
  simp only [ho, resolve, invoke, builtin, Sem.run_bind, Sem.run_pure, Result.andThen_ok, List.map_toArray, List.map_cons, List.map_nil, hr]
end

section
variable {P : Program} {H : GHeap} {fr : Slots} {o : Oper} {R : Option Value → GHeap → Prop}

theorem grow_row {B : Nat} {w0 w : World} {ρ : Place} (hs : Sim P B w0 ρ H w) {e : TypeId} {i : TypeInfo} {z : Value} (hi : P.info? e = some i) (hzs : z.cells.size = i.size) {vs cs : List Value} (hr : LRel ρ vs cs) {need old : Nat} (hl : vs.length = need * i.size) (hm : need ≤ maxLen) :
    ∃ ρ', Ext ρ ρ' ∧ Sim P B w0 ρ' (H.push (.row vs e true)) (w.drew.alloc (.cells (cs.toArray ++ Builtin.zeroCells z.cells (grownCap w need old e - need)) e)) ∧
      VRel ρ' (.slice (some ⟨H.next, 0, none⟩) need need) (.slice (some ⟨w.heap.size, 0, none⟩) need (grownCap w need old e)) := by
  have hge := grownCap_ge w need old e
  have hd : Sim P B w0 ρ H w.drew := hs.drew
  have hcl : cs.length = need * i.size := by rw [← hr.1, hl]
  obtain ⟨ρ', hext, hs', hsp⟩ := new_row hd (cs := vs) (C := cs.toArray ++ Builtin.zeroCells z.cells (grownCap w need old e - need)) (e := e) (n := i.size) (by simp [hi]) (by simp; have := hr.1; omega) (fun j v hv => by
    obtain ⟨c, h1, h2⟩ := hr.get hv
    refine ⟨c, ?_, h2⟩
    have hj : j < cs.length := (List.getElem?_eq_some_iff.1 h1).1
    rw [Array.getElem?_append_left (by simpa using hj)]
    simpa using h1)
  refine ⟨ρ', hext, hs', ?_⟩
  have hsz : (cs.toArray ++ Builtin.zeroCells z.cells (grownCap w need old e - need)).size = grownCap w need old e * i.size := by
    simp only [Array.size_append, List.size_toArray, size_zeroCells, hzs, hcl, ← Nat.add_mul]
    congr 1
    omega
  have := VRel.slice (ρ := ρ') (g := H.next) (o := 0) (n := need) (cap := grownCap w need old e) hsp hge (by simp only [hsz]; omega) (grownCap_le_maxLen w need old e hm)
  simpa using this

theorem CDo.append {t tx e : TypeId} {s x : Operand} {g off n m sz bytes : Nat} {z cs news : List Value} (ho : o.op = .call { callee := .builtin .append, args := #[s, x], argTypes := #[t, tx] }) (ht : sliceT P t = some (e, sz)) (hz : zeroT P e = some (z, sz)) (hzn : z.length = sz)
    (hb : (P.info? e).map (·.bytes) = some bytes) (hsv : ev fr s = some (.slice (some ⟨g, off, none⟩) n n)) (hg : H.get g = some (.row cs e true)) (hend : off + n * sz = cs.length) (hsrc : SrcG P fr H sz tx x m news)
    (hN : n + m ≤ maxLen) (hB : (n + m) * bytes ≤ 140737488355328)
    (h : R (some (.slice (some ⟨H.next, 0, none⟩) (n + m) (n + m))) ((H.set g none).push (.row (cs.drop off ++ news) e true))) : CDo P o fr H R := .mk fun B w0 ρ a w hs hf next Q hn => by
  rw [ho] at hf
  obtain ⟨hu, inf, hinf, hsz⟩ := sliceT_run ht
  obtain ⟨i, zv, hi, hz0, rfl, hn'⟩ := zeroT_run hz
  rw [hinf] at hi
  cases hi
  have hbb : inf.bytes = bytes := by rw [hinf] at hb; simpa using hb
  subst hbb
  subst hsz
  obtain ⟨cnews, hsr, hnr, hnl⟩ := hsrc.sound hs (L := (Op.call { callee := .builtin .append, args := #[s, x], argTypes := #[t, tx] }).operands) (by simp [Op.operands, Call.operands]) hf
  obtain ⟨_, sp, hsp, hcase⟩ := (ev_rel hf (x := s) (by simp [Op.operands, Call.operands]) hsv).slice_inv
  obtain ⟨sp', C, fz, k1, k2, k3, k4, k5, k6, k7, k8⟩ := hs.live _ _ hg
  rw [hsp] at k1
  cases k1
  obtain ⟨hfz, hBb⟩ := k6 rfl
  subst hfz
  have hes : sp.esz = inf.size := by have k8 := k8 rfl; rw [hinf] at k8; simp at k8; omega
  have hlt := GHeap.ltg hg
  have hN' : n + m ≤ 9223372036854775807 := by unfold maxLen at hN; omega
  have hdl : (cs.drop off).length = n * inf.size := by simp; omega
  have hzs : zv.cells.size = inf.size := by simpa using hzn
  obtain ⟨olds, hor, hoc⟩ := cells_run hs hsp (cs.drop off) off (fun j v hv => by rw [GHeap.cell_of hg]; simpa using hv)
  have hol : olds.length = n * inf.size := by rw [← hor.1, hdl]
  have grow : ∀ (base : Option Addr) (sCap : Nat), sCap < n + m → (Builtin.firstCells inf.size n (.slice base n sCap)).run P w.drew = .ok olds.toArray w.drew → a.eval s = .slice base n sCap → o.wp P a w next Q := by
    intro base sCap hlt' hold hes'
    have hr := run_append_grow_src (P := P) w t tx o.type e inf zv hu hinf hz0 base n sCap olds hold (a.eval x) m cnews hsr hlt' (by omega) (growslice_fits hlt' hB)
    have hs0 : Sim P B w0 ρ (H.set g none) w := hs.fewer (by simp) (fun k y hk => by
      by_cases ek : k = g
      · subst ek; rw [GHeap.get_set_eq hlt] at hk; cases hk
      · rw [GHeap.get_set_ne (Ne.symm ek)] at hk; exact hk)
    obtain ⟨ρ', hext, hs', hv⟩ := grow_row hs0 hinf hzs (hor.append hnr) (need := n + m) (old := sCap) (by rw [List.length_append, hdl, hnl, ← Nat.add_mul]) hN
    refine append_upon ho (by rw [hes']; exact hr) (hn ρ' _ _ _ _ h hext hs' fun y hy => ?_)
    cases hy
    simpa using hv
  rcases hcase with ⟨cap, hes', hcap, hroom, hmx⟩ | ⟨hn0, a', hes'⟩
  · rw [hes] at hroom
    by_cases hfit : n + m ≤ cap
    · -- room: the cells are stored behind the old ones
      have hfit' : (n + m) * inf.size ≤ cap * inf.size := Nat.mul_le_mul_right _ hfit
      rw [Nat.add_mul] at hfit'
      have hcl : cnews.length = m * inf.size := by rw [← hnr.1, hnl]
      have hst := run_storeCells_at P sp.blk (sp.base + off + n * inf.size) e cnews 0 C w k2 (by rw [hcl, k3]; omega) (by
        intro c hc
        exact hsr.one c hc)
      simp only [Nat.add_zero] at hst
      have hr := append_room (P := P) (ty := o.type) hu hinf hsr hfit hst
      have hsize : ((C.toList.take (sp.base + off + n * inf.size) ++ cnews ++ C.toList.drop (sp.base + off + n * inf.size + cnews.length)).toArray).size = C.size := by
        simp [hcl]; omega
      obtain ⟨hs', hext⟩ := hs.onward hg hsp (w' := w.setRow sp.blk (C.toList.take (sp.base + off + n * inf.size) ++ cnews ++ C.toList.drop (sp.base + off + n * inf.size + cnews.length)).toArray) (cs' := cs.drop off ++ news) (off := off)
        (setRow_heap w sp.blk C _ e (0, 0) k2) (by rw [hsize]; exact k3) (by rw [hsize, List.length_append, hdl, hnl, k3]; omega) (fun j v hv => by
          rw [List.getElem?_append] at hv
          simp only [List.getElem?_toArray, List.append_assoc]
          rw [List.getElem?_append]
          have e1 : (C.toList.take (sp.base + off + n * inf.size)).length = sp.base + off + n * inf.size := by simp; omega
          rw [e1]
          by_cases hj : j < (cs.drop off).length
          · rw [if_pos hj] at hv
            rw [hdl] at hj
            rw [if_pos (by omega), List.getElem?_take, if_pos (by omega)]
            obtain ⟨c, h2, h3⟩ := k5 (off + j) v (by simpa using hv)
            exact ⟨c, by rw [← h2]; simp [Nat.add_assoc], h3⟩
          · rw [if_neg hj] at hv
            rw [hdl] at hj hv
            rw [if_neg (by omega)]
            obtain ⟨c, h2, h3⟩ := hnr.get hv
            have hjl := (List.getElem?_eq_some_iff.1 h2).1
            refine ⟨c, ?_, h3⟩
            rw [List.getElem?_append_left (by omega)]
            rw [← h2]
            congr 1
            omega) (fun k hk => setRow_other w _ k _ hk) (by simp [World.setRow]) rfl rfl rfl
      refine append_upon ho (by rw [hes']; exact hr) (hn _ _ _ _ _ h hext hs' fun y hy => ?_)
      cases hy
      have := VRel.slice (ρ := place ρ H.next ⟨sp.blk, sp.base + off, sp.csize, sp.esz⟩) (g := H.next) (o := 0) (n := n + m) (cap := cap) place_self hfit (by simp only [hes]; omega) hmx
      simpa using this
    · refine grow _ cap (by omega) ?_ hes'
      exact run_firstCells_some w.drew inf.size n _ n cap olds hol (fun j u hj => by rw [add_mk]; simpa using hoc j u hj)
  · subst hn0
    by_cases hm : m = 0
    · subst hm
      have hnn : news = [] := List.eq_nil_of_length_eq_zero (by simpa using hnl)
      have hcn : cnews = [] := List.eq_nil_of_length_eq_zero (by rw [← hnr.1, hnn]; rfl)
      subst hnn
      subst hcn
      have hdr : cs.drop off = [] := List.eq_nil_of_length_eq_zero (by rw [hdl]; simp)
      have hr : (Builtin.append_ #[t, tx] o.type #[.slice (some a') 0 0, a.eval x]).run P w = .ok (.slice (some a') 0 0) w := by
        rcases hsr.kind with ⟨e', hk⟩ | hk <;> simp [Builtin.append_, run_underlying hu, run_underlying hk, sizeOf, typeInfo, hinf, hsr.len, hsr.cells, storeCells]
      obtain ⟨hs', hext⟩ := hs.onward hg hsp (w' := w) (C' := C) (cs' := cs.drop off ++ []) (off := off) k2 k3 (by rw [hdr]; simp; simp at hend; omega) (fun j v hv => by rw [hdr] at hv; simp at hv) (fun _ _ => rfl) rfl rfl rfl rfl
      refine append_upon ho (by rw [hes']; exact hr) (hn _ _ _ _ _ h hext hs' fun y hy => ?_)
      cases hy
      exact .empty place_self
    · refine grow _ 0 (by omega) ?_ hes'
      have : olds = [] := List.eq_nil_of_length_eq_zero (by simpa using hol)
      subst this
      exact run_firstCells_some w.drew inf.size 0 _ 0 0 [] (by simp) (fun j u hj => by simp at hj)

theorem CDo.appendNil {t tx e : TypeId} {s x : Operand} {m sz bytes : Nat} {z news : List Value} (ho : o.op = .call { callee := .builtin .append, args := #[s, x], argTypes := #[t, tx] }) (ht : sliceT P t = some (e, sz)) (hz : zeroT P e = some (z, sz)) (hzn : z.length = sz)
    (hb : (P.info? e).map (·.bytes) = some bytes) (hsv : ev fr s = some (.slice none 0 0)) (hsrc : SrcG P fr H sz tx x m news) (hm : 0 < m) (hN : m ≤ maxLen) (hB : m * bytes ≤ 140737488355328)
    (h : R (some (.slice (some ⟨H.next, 0, none⟩) m m)) (H.push (.row news e true))) : CDo P o fr H R := .mk fun B w0 ρ a w hs hf next Q hn => by
  rw [ho] at hf
  obtain ⟨hu, inf, hinf, hsz⟩ := sliceT_run ht
  obtain ⟨i, zv, hi, hz0, rfl, hn'⟩ := zeroT_run hz
  rw [hinf] at hi
  cases hi
  have hbb : inf.bytes = bytes := by rw [hinf] at hb; simpa using hb
  subst hbb
  subst hsz
  obtain ⟨cnews, hsr, hnr, hnl⟩ := hsrc.sound hs (L := (Op.call { callee := .builtin .append, args := #[s, x], argTypes := #[t, tx] }).operands) (by simp [Op.operands, Call.operands]) hf
  obtain ⟨_, _, hes'⟩ := (ev_rel hf (x := s) (by simp [Op.operands, Call.operands]) hsv).nilSlice_inv
  have hzs : zv.cells.size = inf.size := by simpa using hzn
  have hN' : m ≤ 9223372036854775807 := by unfold maxLen at hN; omega
  have hr := run_append_grow_src (P := P) w t tx o.type e inf zv hu hinf hz0 none 0 0 [] (run_firstCells_none w.drew inf.size 0 0 0) (a.eval x) m cnews hsr (by omega) (by omega) (growslice_fits (by omega) (by rw [Nat.zero_add]; exact hB))
  obtain ⟨ρ', hext, hs', hv⟩ := grow_row hs hinf hzs hnr (need := m) (old := 0) hnl hN
  refine append_upon ho (by rw [hes']; exact hr) (hn ρ' _ _ _ _ h hext ?_ fun y hy => ?_)
  · simpa using hs'
  · cases hy
    simpa using hv

theorem CDo.call {f : FuncId} {args : Array Operand} {ts : Array TypeId} {vs : List Value} {Q : Value → GHeap → Prop} (ho : o.op = .call { callee := .value (.func f), args := args, argTypes := ts }) (hcall : ∀ (ax : Array Value) (w : World), (callFunc f ax).run P w = .ok (.enter f ax) w)
    (hv : evs fr args.toList = some vs) (hc : GCalls P f vs H Q) (h : ∀ v H', Q v H' → R (some v) H') : CDo P o fr H R := .mk fun B w0 ρ a w hs hf next Qx hn => by
  rw [ho] at hf
  have hrel := evs_rel (xs := args.toList) hf (fun x hx => by simp only [Op.operands, Call.operands]; simp; exact .inr (by simpa using hx)) hv
  have hex : (execOp a.eval o).run P w = .ok (.enter f (args.map a.eval)) w := by
    unfold execOp
    simp only [ho, resolve, Act.eval, Deferred.ofValue, invoke, Sem.run_bind, Sem.run_pure, Result.andThen_ok, hcall, Array.empty_append, Array.append_empty]
  unfold Oper.wp
  rw [hex, Oper.upon_enter]
  have hc' := hc B w0 ρ (args.toList.map a.eval) w hs hrel
  rw [show (args.toList.map a.eval).toArray = args.map a.eval from Array.ext' (by simp)] at hc'
  refine hc'.mono fun e w' ⟨v, c, ρ', H', he, hQ, hx, hs', hv'⟩ => ?_
  subst he
  exact hn ρ' (some v) c H' w' (h v H' hQ) hx hs' (fun y hy => by cases hy; exact hv')

end
end Go.GL
