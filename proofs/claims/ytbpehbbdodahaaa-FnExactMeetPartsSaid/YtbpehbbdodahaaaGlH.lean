/- Runs of a region's operations, code, and functions over ghost heaps: the rules. No condition. -/
import Derived.Test.YtbpehbbdodahaaaGlG
import Derived.Scope
namespace Go.GL
open Go.RowKit

/-- The slot that a guard looks at. -/
def guardSlot (ops : Array Oper) (j : Nat) : Option Tmp := (ops[j]?).bind (·.dst)

/-- One operation that is wanted. Kind 2: quiet; 1: it keeps all that was there; 0: whatever. -/
def GDo (P : Program) (o : Oper) (k : Nat) (fr : Slots) (H : GHeap) (K : Slots → GHeap → Prop) : Prop :=
  (∃ v, MStep P fr H o.op v ∧ K (putS fr o.dst (some v)) H) ∨ (k ≠ 2 ∧ CDo P o fr H fun v H' => (k = 1 → H.Le H') ∧ K (putS fr o.dst v) H')

/-- A region's operations, one behind the other. -/
def GRun (P : Program) (N : Nat) (ops : Array Oper) (Q : Slots → GHeap → Prop) : List (Oper × Nat) → Slots → GHeap → Prop
  | [], fr, H => Q fr H
  | (o, k) :: L, fr, H => dstOk N o = true ∧
    match o.guard with
    | none => GDo P o k fr H (GRun P N ops Q L)
    | some (j, want) => ∃ t c, guardSlot ops j = some t ∧ fr.get t = some (.bool c) ∧ (c = want → GDo P o k fr H (GRun P N ops Q L)) ∧ (c ≠ want → GRun P N ops Q L (putS fr o.dst none) H)

section
variable {P : Program} {N : Nat} {ops : Array Oper} {Q : Slots → GHeap → Prop} {L : List (Oper × Nat)} {fr : Slots} {H : GHeap} {o : Oper} {k : Nat}

theorem GRun.nil (h : Q fr H) : GRun P N ops Q [] fr H := h
theorem GRun.m {d : Tmp} {v : Value} (hd : o.dst = some d) (hN : Nat.blt d N = true) (hg : o.guard = none) (hm : MStep P fr H o.op v) (h : GRun P N ops Q L ((d, some v) :: fr) H) : GRun P N ops Q ((o, k) :: L) fr H := by
  unfold GRun
  refine ⟨by unfold dstOk; rw [hd]; exact hN, ?_⟩
  rw [hg]
  exact .inl ⟨v, hm, by rw [hd]; exact h⟩
theorem GRun.mg {d t : Tmp} {v : Value} {j : Nat} {want : Bool} (hd : o.dst = some d) (hN : Nat.blt d N = true) (hg : o.guard = some (j, want)) (ht : guardSlot ops j = some t) (hb : fr.get t = some (.bool want)) (hm : MStep P fr H o.op v) (h : GRun P N ops Q L ((d, some v) :: fr) H) :
    GRun P N ops Q ((o, k) :: L) fr H := by
  unfold GRun
  refine ⟨by unfold dstOk; rw [hd]; exact hN, ?_⟩
  rw [hg]
  exact ⟨t, want, ht, hb, fun _ => .inl ⟨v, hm, by rw [hd]; exact h⟩, fun hne => absurd rfl hne⟩
theorem GRun.sg {d t : Tmp} {j : Nat} {want : Bool} (hd : o.dst = some d) (hN : Nat.blt d N = true) (hg : o.guard = some (j, want)) (ht : guardSlot ops j = some t) (hb : fr.get t = some (.bool (!want))) (h : GRun P N ops Q L ((d, none) :: fr) H) :
    GRun P N ops Q ((o, k) :: L) fr H := by
  unfold GRun
  refine ⟨by unfold dstOk; rw [hd]; exact hN, ?_⟩
  rw [hg]
  exact ⟨t, !want, ht, hb, fun he => absurd he (by cases want <;> simp), fun _ => by rw [hd]; exact h⟩
/-- A skipped operation that writes no slot. -/
theorem GRun.sg0 {t : Tmp} {j : Nat} {want : Bool} (hd : o.dst = none) (hg : o.guard = some (j, want)) (ht : guardSlot ops j = some t) (hb : fr.get t = some (.bool (!want))) (h : GRun P N ops Q L fr H) :
    GRun P N ops Q ((o, k) :: L) fr H := by
  unfold GRun
  refine ⟨by unfold dstOk; rw [hd], ?_⟩
  rw [hg]
  exact ⟨t, !want, ht, hb, fun he => absurd he (by cases want <;> simp), fun _ => by rw [hd]; exact h⟩
theorem GRun.c {d : Tmp} {R : Option Value → GHeap → Prop} (hd : o.dst = some d) (hN : Nat.blt d N = true) (hg : o.guard = none) (hk : k ≠ 2) (hc : CDo P o fr H R) (h : ∀ v H', R v H' → (k = 1 → H.Le H') ∧ GRun P N ops Q L ((d, v) :: fr) H') :
    GRun P N ops Q ((o, k) :: L) fr H := by
  unfold GRun
  refine ⟨by unfold dstOk; rw [hd]; exact hN, ?_⟩
  rw [hg]
  refine .inr ⟨hk, .mk fun B w0 ρ a w hs hf next Qx hn => hc.run B w0 ρ a w hs hf next Qx fun ρ' v c H' w' hR he hs' hv => hn ρ' v c H' w' ?_ he hs' hv⟩
  rw [hd]
  exact h v H' hR
theorem GRun.cg {d t : Tmp} {R : Option Value → GHeap → Prop} {j : Nat} {want : Bool} (hd : o.dst = some d) (hN : Nat.blt d N = true) (hg : o.guard = some (j, want)) (ht : guardSlot ops j = some t) (hb : fr.get t = some (.bool want)) (hk : k ≠ 2) (hc : CDo P o fr H R)
    (h : ∀ v H', R v H' → (k = 1 → H.Le H') ∧ GRun P N ops Q L ((d, v) :: fr) H') : GRun P N ops Q ((o, k) :: L) fr H := by
  unfold GRun
  refine ⟨by unfold dstOk; rw [hd]; exact hN, ?_⟩
  rw [hg]
  refine ⟨t, want, ht, hb, fun _ => ?_, fun hne => absurd rfl hne⟩
  refine .inr ⟨hk, .mk fun B w0 ρ a w hs hf next Qx hn => hc.run B w0 ρ a w hs hf next Qx fun ρ' v c H' w' hR he hs' hv => hn ρ' v c H' w' ?_ he hs' hv⟩
  rw [hd]
  exact h v H' hR
/-- .. that writes no slot. -/
theorem GRun.c0 {R : Option Value → GHeap → Prop} (hd : o.dst = none) (hg : o.guard = none) (hk : k ≠ 2) (hc : CDo P o fr H R) (h : ∀ v H', R v H' → (k = 1 → H.Le H') ∧ GRun P N ops Q L fr H') : GRun P N ops Q ((o, k) :: L) fr H := by
  unfold GRun
  refine ⟨by unfold dstOk; rw [hd], ?_⟩
  rw [hg]
  refine .inr ⟨hk, .mk fun B w0 ρ a w hs hf next Qx hn => hc.run B w0 ρ a w hs hf next Qx fun ρ' v c H' w' hR he hs' hv => hn ρ' v c H' w' ?_ he hs' hv⟩
  rw [hd]
  exact h v H' hR
/-- .. whose value nobody looks at. -/
theorem GRun.m0 {v : Value} (hd : o.dst = none) (hg : o.guard = none) (hm : MStep P fr H o.op v) (h : GRun P N ops Q L fr H) : GRun P N ops Q ((o, k) :: L) fr H := by
  unfold GRun
  refine ⟨by unfold dstOk; rw [hd], ?_⟩
  rw [hg]
  exact .inl ⟨v, hm, by rw [hd]; exact h⟩

theorem wanted_none {tmps : Array Value} (h : o.guard = none) : Region.wanted o (yielded ops tmps) = true := by simp [Region.wanted, h]
theorem yielded_of {a : Act} {ρ : Place} {t : Tmp} {j : Nat} {c : Bool} (ht : guardSlot ops j = some t) (hv : VRel ρ (.bool c) (a.eval (.tmp t))) : yielded ops a.tmps j = some c := by
  have e : a.tmps.getD t undef = .bool c := hv.bool_inv
  unfold yielded
  unfold guardSlot at ht
  rw [ht]
  simp only [Option.bind_some]
  rw [Array.getD_eq_getD_getElem?] at e
  cases hx : a.tmps[t]? with
  | none => rw [hx] at e; cases e
  | some x =>
    rw [hx] at e
    simp at e
    subst e
    rfl
theorem wanted_of {a : Act} {ρ : Place} {t : Tmp} {j : Nat} {want c : Bool} (hg : o.guard = some (j, want)) (ht : guardSlot ops j = some t) (hv : VRel ρ (.bool c) (a.eval (.tmp t))) : Region.wanted o (yielded ops a.tmps) = (c == want) := by
  unfold Region.wanted
  rw [hg]
  simp only [yielded_of ht hv]
  cases c <;> cases want <;> rfl
end

/-- Code over ghost heaps. -/
def GT (P : Program) (N : Nat) (c : Code) (Q : Exit → Slots → GHeap → Prop) (fr : Slots) (H : GHeap) : Prop :=
  ∀ (B : Nat) (w0 : World) (ρ : Place) (a : Act) (w : World), Sim P B w0 ρ H w → FRel N ρ fr a →
    c.wp P (fun e a' w' => ∃ ρ' fr' H', Q e fr' H' ∧ Ext ρ ρ' ∧ Sim P B w0 ρ' H' w' ∧ FRel N ρ' fr' a') a w

theorem GRun.sound {P : Program} {N : Nat} {ops : Array Oper} {Q : Slots → GHeap → Prop} {Qx : Exit → Act → World → Prop} {B : Nat} {w0 : World} : ∀ {L : List (Oper × Nat)} {fr : Slots} {H : GHeap} {ρ : Place} {a : Act} {w : World}, GRun P N ops Q L fr H → Sim P B w0 ρ H w → FRel N ρ fr a →
    (∀ ρ' fr' H' a' w', Q fr' H' → Ext ρ ρ' → Sim P B w0 ρ' H' w' → FRel N ρ' fr' a' → Qx .normal a' w') → wpList P ops Qx (L.map (·.1)) a w
  | [], fr, H, ρ, a, w, h, hs, hf, hq => hq ρ fr H a w h (.refl ρ) hs hf
  | (o, k) :: L, fr, H, ρ, a, w, h, hs, hf, hq => by
    unfold GRun at h
    obtain ⟨hd, h⟩ := h
    have go : GDo P o k fr H (GRun P N ops Q L) → o.wp P a w (wpList P ops Qx (L.map (·.1))) Qx := by
      intro hg
      rcases hg with ⟨v, hm, hk⟩ | ⟨_, hc⟩
      · obtain ⟨c, hc, hr⟩ := hm.sound (a := a) (fun t u _ hu => hf.2.2 t u hu) hs o rfl
        exact upon_value hc (GRun.sound hk hs (hf.put hd fun x hx => by cases hx; exact hr) hq)
      · refine hc.run B w0 ρ a w hs (fun t u _ hu => hf.2.2 t u hu) _ _ fun ρ' v c H' w' hR he hs' hv => ?_
        exact GRun.sound hR.2 hs' ((hf.mono he).put hd hv) fun ρ'' fr' H'' a' w'' hQ he' => hq ρ'' fr' H'' a' w'' hQ (he.trans he')
    simp only [List.map_cons]
    unfold wpList
    cases hgd : o.guard with
    | none =>
      rw [hgd] at h
      rw [if_pos (wanted_none hgd)]
      exact .inl (go h)
    | some gw =>
      obtain ⟨j, want⟩ := gw
      rw [hgd] at h
      obtain ⟨t, c, ht, hb, h1, h2⟩ := h
      have hw := wanted_of (o := o) (a := a) hgd ht (hf.2.2 t _ hb)
      by_cases hcw : c = want
      · rw [if_pos (by rw [hw]; simp [hcw])]
        exact .inl (go (h1 hcw))
      · rw [if_neg (by rw [hw]; simp [hcw])]
        exact GRun.sound (h2 hcw) hs (hf.put hd fun x hx => by cases hx) hq

section
variable {P : Program} {N : Nat} {Q : Exit → Slots → GHeap → Prop} {fr : Slots} {H : GHeap}

theorem GT.region {id : Nat} {ops : Array Oper} (h : GRun P N ops (fun fr' H' => Q .normal fr' H') (ops.toList.map fun o => (o, 0)) fr H) : GT P N (.region id ops false) Q fr H := fun B w0 ρ a w hs hf => by
  refine wp_region_list ?_
  have := GRun.sound (Qx := fun e a' w' => ∃ ρ' fr' H', Q e fr' H' ∧ Ext ρ ρ' ∧ Sim P B w0 ρ' H' w' ∧ FRel N ρ' fr' a') h hs hf fun ρ' fr' H' a' w' hQ he hs' hf' => ⟨ρ', fr', H', hQ, he, hs', hf'⟩
  simpa [Function.comp_def] using this

def thenG (K : Slots → GHeap → Prop) (Q : Exit → Slots → GHeap → Prop) : Exit → Slots → GHeap → Prop
  | .normal, fr, H => K fr H
  | e, fr, H => Q e fr H
def inBlockG (id : Nat) (Q : Exit → Slots → GHeap → Prop) : Exit → Slots → GHeap → Prop
  | .exit id', fr, H => bif Nat.beq id' id then Q .normal fr H else Q (.exit id') fr H
  | e, fr, H => Q e fr H

theorem GT.seq {x y : Code} (h : ∀ K : Slots → GHeap → Prop, (∀ fr H, GT P N y Q fr H → K fr H) → GT P N x (thenG K Q) fr H) : GT P N (.seq x y) Q fr H := fun B w0 ρ a w hs hf => by
  refine wp_seq (wp_mono (h (fun fr H => GT P N y Q fr H) (fun _ _ h => h) B w0 ρ a w hs hf) fun e a' w' ⟨ρ', fr', H', hq, he, hs', hf'⟩ => ?_)
  cases e with
  | normal =>
    exact wp_mono (hq B w0 ρ' a' w' hs' hf') fun e a'' w'' ⟨ρ'', fr'', H'', hq', he', r⟩ => ⟨ρ'', fr'', H'', hq', he.trans he', r⟩
  | exit id => exact ⟨ρ', fr', H', hq, he, hs', hf'⟩
  | goto l => exact ⟨ρ', fr', H', hq, he, hs', hf'⟩
  | ret => exact ⟨ρ', fr', H', hq, he, hs', hf'⟩
  | panic c => exact ⟨ρ', fr', H', hq, he, hs', hf'⟩
  | outgrown => exact ⟨ρ', fr', H', hq, he, hs', hf'⟩

theorem GT.cond {c : Operand} {x y : Code} {b : Bool} (hc : ev fr c = some (.bool b)) (ht : b = true → GT P N x Q fr H) (hf : b = false → GT P N y Q fr H) : GT P N (.cond c x y) Q fr H := fun B w0 ρ a w hs hfr => by
  have e : a.eval c = .bool b := (ev_rel (L := #[c]) (fun t v _ hv => hfr.2.2 t v hv) (by simp) hc).bool_inv
  exact wp_cond_split e (fun hb => ht hb B w0 ρ a w hs hfr) (fun hb => hf hb B w0 ρ a w hs hfr)

theorem inBlockG_exit (id id' : Nat) (fr : Slots) (H : GHeap) : inBlockG id Q (.exit id') fr H = if id' = id then Q .normal fr H else Q (.exit id') fr H := by
  show (bif Nat.beq id' id then Q .normal fr H else Q (.exit id') fr H) = _
  by_cases hid : id' = id
  · subst hid
    rw [Nat.beq_refl, if_pos rfl]
    rfl
  · have : Nat.beq id' id = false := by
      cases hb : Nat.beq id' id with
      | false => rfl
      | true => exact absurd (Nat.eq_of_beq_eq_true hb) hid
    rw [this, if_neg hid]
    rfl

theorem GT.block {id : Nat} {c : Code} (h : GT P N c (inBlockG id Q) fr H) : GT P N (.block id c) Q fr H := fun B w0 ρ a w hs hf => by
  refine wp_block (wp_mono (h B w0 ρ a w hs hf) fun e a' w' ⟨ρ', fr', H', hq, he, hs', hf'⟩ => ?_)
  cases e with
  | exit id' =>
    rw [inBlockG_exit] at hq
    unfold Exit.inBlock
    by_cases hid : id' = id
    · rw [if_pos hid] at hq
      simp only [hid, if_true]
      exact ⟨ρ', fr', H', hq, he, hs', hf'⟩
    · rw [if_neg hid] at hq
      simp only [hid, if_false]
      exact ⟨ρ', fr', H', hq, he, hs', hf'⟩
  | normal => exact ⟨ρ', fr', H', hq, he, hs', hf'⟩
  | goto l => exact ⟨ρ', fr', H', hq, he, hs', hf'⟩
  | ret => exact ⟨ρ', fr', H', hq, he, hs', hf'⟩
  | panic c => exact ⟨ρ', fr', H', hq, he, hs', hf'⟩
  | outgrown => exact ⟨ρ', fr', H', hq, he, hs', hf'⟩

theorem GT.skip (h : Q .normal fr H) : GT P N .skip Q fr H := fun _ _ ρ _ _ hs hf => wp_skip ⟨ρ, fr, H, h, .refl ρ, hs, hf⟩
theorem GT.label {l : Nat} (h : Q .normal fr H) : GT P N (.label l) Q fr H := fun _ _ ρ _ _ hs hf => wp_label ⟨ρ, fr, H, h, .refl ρ, hs, hf⟩
theorem GT.exit {id : Nat} (h : Q (.exit id) fr H) : GT P N (.exit id) Q fr H := fun _ _ ρ _ _ hs hf => wp_exit ⟨ρ, fr, H, h, .refl ρ, hs, hf⟩
theorem GT.ret (h : Q .ret fr H) : GT P N .ret Q fr H := fun _ _ ρ _ _ hs hf => wp_ret ⟨ρ, fr, H, h, .refl ρ, hs, hf⟩

def noGotoG (Q : Exit → Slots → GHeap → Prop) : Exit → Slots → GHeap → Prop
  | .goto _, _, _ => False
  | e, fr, H => Q e fr H
theorem GT.scope {c : Code} (h : GT P N c (noGotoG Q) fr H) : GT P N (.scope c) Q fr H := fun B w0 ρ a w hs hf => by
  refine wp_scope_straight (wp_mono (h B w0 ρ a w hs hf) fun e a' w' ⟨ρ', fr', H', hq, he, hs', hf'⟩ => ?_)
  cases e with
  | goto l => exact hq.elim
  | exit id => exact ⟨ρ', fr', H', hq, he, hs', hf'⟩
  | normal => exact ⟨ρ', fr', H', hq, he, hs', hf'⟩
  | ret => exact ⟨ρ', fr', H', hq, he, hs', hf'⟩
  | panic c => exact ⟨ρ', fr', H', hq, he, hs', hf'⟩
  | outgrown => exact ⟨ρ', fr', H', hq, he, hs', hf'⟩

/-- Slots may be forgotten. -/
def Sub : Slots → Slots → Prop
  | [], _ => True
  | (t, some v) :: r, fr => fr.get t = some v ∧ Sub r fr
  | (_, none) :: r, fr => Sub r fr
theorem Sub.get : ∀ {fr' fr : Slots}, Sub fr' fr → ∀ t v, fr'.get t = some v → fr.get t = some v
  | [], fr, _, t, v, h => by cases h
  | (s, some u) :: r, fr, hs, t, v, h => by
    rw [get_cons] at h
    by_cases e : s = t
    · subst e; simp only [if_true] at h; cases h; exact hs.1
    · simp only [e, if_false] at h; exact hs.2.get t v h
  | (s, none) :: r, fr, hs, t, v, h => by
    rw [get_cons] at h
    by_cases e : s = t
    · simp [e] at h
    · simp only [e, if_false] at h; exact Sub.get (fr' := r) hs t v h
theorem FRel.sub {N : Nat} {ρ : Place} {fr fr' : Slots} {a : Act} (h : FRel N ρ fr a) (hs : Sub fr' fr) : FRel N ρ fr' a := ⟨h.1, h.2.1, fun t v hv => h.2.2 t v (hs.get t v hv)⟩
theorem GT.forget {c : Code} {fr' : Slots} (hs : Sub fr' fr) (h : GT P N c Q fr' H) : GT P N c Q fr H := fun B w0 ρ a w hsim hf => h B w0 ρ a w hsim (hf.sub hs)
/-- Blocks may be let go. -/
theorem GT.less {c : Code} {H' : GHeap} (hn : H'.next = H.next) (hs : ∀ g o, H'.get g = some o → H.get g = some o) (h : GT P N c Q fr H') : GT P N c Q fr H := fun B w0 ρ a w hsim hf => h B w0 ρ a w (hsim.fewer hn hs) hf

/-- A loop: σ tells the state at a round's head; F its slots, I what holds of the heap. -/
theorem GT.loop {c : Code} {σ : Type} (F : σ → Slots) (I : σ → GHeap → Prop) (μ : σ → Nat) (s0 : σ) (hF : Sub (F s0) fr) (hI : I s0 H)
    (round : ∀ s H, I s H → ∀ K : Slots → GHeap → Prop, (∀ s' fr' H', I s' H' → μ s' < μ s → Sub (F s') fr' → K fr' H') → GT P N c (thenG K Q) (F s) H) : GT P N (.loop c) Q fr H := fun B w0 ρ a w hs hf => by
  intro b k cs
  have key : ∀ n s H ρ a w, μ s = n → I s H → Sim P B w0 ρ H w → FRel N ρ (F s) a →
      ∃ e a' w', (∃ ρ' fr' H', Q e fr' H' ∧ Ext ρ ρ' ∧ Sim P B w0 ρ' H' w' ∧ FRel N ρ' fr' a') ∧ Arrives P (lone (b.at a (.code c :: .inLoop c :: k)) cs w) b k cs e a' w' := by
    intro n
    induction n using Nat.strongRecOn with
    | _ n ih =>
      intro s H ρ a w hn hI hs hf
      have h1 := round s H hI (fun fr' H' => ∃ s', I s' H' ∧ μ s' < μ s ∧ Sub (F s') fr') (fun s' fr' H' h1 h2 h3 => ⟨s', h1, h2, h3⟩) B w0 ρ a w hs hf
      obtain ⟨e, a₁, w₁, ⟨ρ', fr', H', hq, he, hs', hf'⟩, harr⟩ := h1 b (.inLoop c :: k) cs
      cases e with
      | normal =>
        obtain ⟨s', hI', hμ, hsub⟩ := hq
        obtain ⟨e₂, a₂, w₂, ⟨ρ₂, fr₂, H₂, hq₂, he₂, r⟩, harr₂⟩ := ih (μ s') (by omega) s' H' ρ' a₁ w₁ rfl hI' hs' (hf'.sub hsub)
        exact ⟨e₂, a₂, w₂, ⟨ρ₂, fr₂, H₂, hq₂, he.trans he₂, r⟩, .of_steps (Steps.trans harr (.one step_inLoop)) harr₂⟩
      | exit id => exact ⟨_, a₁, w₁, ⟨ρ', fr', H', hq, he, hs', hf'⟩, .pass (x := .inLoop c) rfl (fun _ _ => .inl (by simp)) harr⟩
      | goto l => exact ⟨_, a₁, w₁, ⟨ρ', fr', H', hq, he, hs', hf'⟩, .pass (x := .inLoop c) rfl (fun _ _ => .inl (by simp)) harr⟩
      | ret => exact ⟨_, a₁, w₁, ⟨ρ', fr', H', hq, he, hs', hf'⟩, .pass (x := .inLoop c) rfl (fun _ _ => .inl (by simp)) harr⟩
      | panic ch => exact ⟨_, a₁, w₁, ⟨ρ', fr', H', hq, he, hs', hf'⟩, .pass (x := .inLoop c) rfl (fun _ _ => .inl (by simp)) harr⟩
      | outgrown => exact ⟨_, a₁, w₁, ⟨ρ', fr', H', hq, he, hs', hf'⟩, .pass (x := .inLoop c) rfl (fun _ _ => .inl (by simp)) harr⟩
  obtain ⟨e, a', w', hq, harr⟩ := key _ s0 H ρ a w rfl hI hs (hf.sub hF)
  exact ⟨e, a', w', hq, .of_steps (.one step_loop) harr⟩
end

/-- A call's slots at its start. -/
def argSlots : Nat → List Value → Slots
  | _, [] => []
  | i, v :: r => (i, some v) :: argSlots (i + 1) r
theorem argSlots_get : ∀ (vs : List Value) (i t : Nat) (v : Value), (argSlots i vs).get t = some v → i ≤ t ∧ vs[t - i]? = some v
  | [], i, t, v, h => by cases h
  | u :: vs, i, t, v, h => by
    unfold argSlots at h
    rw [get_cons] at h
    by_cases e : i = t
    · subst e
      simp only [if_true] at h
      cases h
      simp
    · simp only [e, if_false] at h
      obtain ⟨h1, h2⟩ := argSlots_get vs (i + 1) t v h
      refine ⟨by omega, ?_⟩
      rw [show t - i = (t - (i + 1)) + 1 by omega]
      simpa using h2

/-- What the call's results are. -/
def GRes (P : Program) (rs : List ResultVar) (fr : Slots) (H : GHeap) (Q : Value → GHeap → Prop) : Prop :=
  match rs with
  | [.tmp t] => ∃ v, fr.get t = some v ∧ Q v H
  | [.tmp t, .tmp u] => ∃ v x, fr.get t = some v ∧ fr.get u = some x ∧ Q (.tuple #[v, x]) H
  | [.tmp t, .tmp u, .tmp s] => ∃ v x y, fr.get t = some v ∧ fr.get u = some x ∧ fr.get s = some y ∧ Q (.tuple #[v, x, y]) H
  | [.tmp t, .tmp u, .tmp s, .tmp r] => ∃ v x y z, fr.get t = some v ∧ fr.get u = some x ∧ fr.get s = some y ∧ fr.get r = some z ∧ Q (.tuple #[v, x, y, z]) H
  | [.tmp t, .tmp u, .tmp s, .tmp r, .tmp q] => ∃ v x y z p, fr.get t = some v ∧ fr.get u = some x ∧ fr.get s = some y ∧ fr.get r = some z ∧ fr.get q = some p ∧ Q (.tuple #[v, x, y, z, p]) H
  | [] => Q (.tuple #[]) H
  | [.cell t e] => ∃ (g off n : Nat) (vs : List Value), fr.get t = some (.pointer (some ⟨g, off, none⟩)) ∧ aggT P e = some n ∧ vs.length = n ∧ (∀ (i : Nat) (v : Value), vs[i]? = some v → H.cell g (off + i) = some v) ∧ Q (.agg vs.toArray) H
  | [.cell t e, .tmp u] => ∃ (g off n : Nat) (vs : List Value) (x : Value), fr.get t = some (.pointer (some ⟨g, off, none⟩)) ∧ aggT P e = some n ∧ vs.length = n ∧ (∀ (i : Nat) (v : Value), vs[i]? = some v → H.cell g (off + i) = some v) ∧ fr.get u = some x ∧ Q (.tuple #[.agg vs.toArray, x]) H
  | [.cell t e, .tmp u, .tmp s] => ∃ (g off n : Nat) (vs : List Value) (x y : Value), fr.get t = some (.pointer (some ⟨g, off, none⟩)) ∧ aggT P e = some n ∧ vs.length = n ∧ (∀ (i : Nat) (v : Value), vs[i]? = some v → H.cell g (off + i) = some v) ∧ fr.get u = some x ∧ fr.get s = some y ∧ Q (.tuple #[.agg vs.toArray, x, y]) H
  | _ => False

theorem FRel.tmp {N : Nat} {ρ : Place} {fr : Slots} {a : Act} (h : FRel N ρ fr a) {t : Nat} {v : Value} (hv : fr.get t = some v) : VRel ρ v (a.tmps.getD t undef) := h.2.2 t v hv

theorem loadVar_agg {P : Program} {B : Nat} {w0 : World} {ρ : Place} {H : GHeap} {w : World} (hs : Sim P B w0 ρ H w) {g off n : Nat} {e : TypeId} {vs : List Value} {c : Value} (hp : VRel ρ (.pointer (some ⟨g, off, none⟩)) c) (ht : aggT P e = some n) (hl : vs.length = n)
    (hc : ∀ (i : Nat) (v : Value), vs[i]? = some v → H.cell g (off + i) = some v) : ∃ ad u, c = .pointer (some ad) ∧ (loadVar e ad).run P w = .ok u w ∧ VRel ρ (.agg vs.toArray) u := by
  obtain ⟨sp, hsp, rfl⟩ := hp.ptr_inv
  obtain ⟨cs, hr, hcs⟩ := cells_run hs hsp vs off hc
  obtain ⟨ha, hsz⟩ := aggT_run ht w
  refine ⟨_, .agg cs.toArray, rfl, ?_, .agg_of hr⟩
  have hl' := loadCellsFrom_run (P := P) (w := w) ⟨sp.blk, sp.base + off, none⟩ n 0 #[] cs (by rw [← hr.1, hl]) (fun j c hj => by rw [add_mk, Nat.zero_add]; exact hcs j c hj)
  simp only [loadVar, Sem.run_bind, Sem.run_pure, ha, hsz, Result.andThen_ok, if_true, loadCells, hl']
  simp

theorem GRes.run {P : Program} {N : Nat} {B : Nat} {w0 : World} {ρ : Place} {H : GHeap} {w : World} {fr : Slots} {a : Act} {Q : Value → GHeap → Prop} {fn : Func} {rs : List ResultVar} (hrs : fn.results = rs.toArray) (h : GRes P rs fr H Q) (hs : Sim P B w0 ρ H w) (hf : FRel N ρ fr a) :
    ∃ v c, (results fn a.tmps).run P w = .ok c w ∧ VRel ρ v c ∧ Q v H := by
  unfold GRes at h
  split at h
  · obtain ⟨v, h1, hQ⟩ := h
    exact ⟨v, _, by simp [results, hrs], hf.tmp h1, hQ⟩
  · obtain ⟨v, x, h1, h2, hQ⟩ := h
    exact ⟨_, _, by simp [results, hrs], VRel.tuple_of (.cons (hf.tmp h1) (.cons (hf.tmp h2) (.nil ρ))), hQ⟩
  · obtain ⟨v, x, y, h1, h2, h3, hQ⟩ := h
    exact ⟨_, _, by simp [results, hrs], VRel.tuple_of (.cons (hf.tmp h1) (.cons (hf.tmp h2) (.cons (hf.tmp h3) (.nil ρ)))), hQ⟩
  · obtain ⟨v, x, y, z, h1, h2, h3, h4, hQ⟩ := h
    exact ⟨_, _, by simp [results, hrs], VRel.tuple_of (.cons (hf.tmp h1) (.cons (hf.tmp h2) (.cons (hf.tmp h3) (.cons (hf.tmp h4) (.nil ρ))))), hQ⟩
  · obtain ⟨v, x, y, z, p, h1, h2, h3, h4, h5, hQ⟩ := h
    exact ⟨_, _, by simp [results, hrs], VRel.tuple_of (.cons (hf.tmp h1) (.cons (hf.tmp h2) (.cons (hf.tmp h3) (.cons (hf.tmp h4) (.cons (hf.tmp h5) (.nil ρ)))))), hQ⟩
  · exact ⟨_, _, by simp [results, hrs], VRel.tuple_of (.nil ρ), h⟩
  · obtain ⟨g, off, n, vs, h1, ht, hl, hc, hQ⟩ := h
    obtain ⟨ad, u, had, hu, hr⟩ := loadVar_agg hs (hf.tmp h1) ht hl hc
    rw [Array.getD_eq_getD_getElem?] at had
    exact ⟨_, u, by simp [results, hrs, had, asAddr, hu], hr, hQ⟩
  · obtain ⟨g, off, n, vs, x, h1, ht, hl, hc, h2, hQ⟩ := h
    obtain ⟨ad, u, had, hu, hr⟩ := loadVar_agg hs (hf.tmp h1) ht hl hc
    rw [Array.getD_eq_getD_getElem?] at had
    exact ⟨_, _, by simp [results, hrs, had, asAddr, hu], VRel.tuple_of (.cons hr (.cons (hf.tmp h2) (.nil ρ))), hQ⟩
  · obtain ⟨g, off, n, vs, x, y, h1, ht, hl, hc, h2, h3, hQ⟩ := h
    obtain ⟨ad, u, had, hu, hr⟩ := loadVar_agg hs (hf.tmp h1) ht hl hc
    rw [Array.getD_eq_getD_getElem?] at had
    exact ⟨_, _, by simp [results, hrs, had, asAddr, hu], VRel.tuple_of (.cons hr (.cons (hf.tmp h2) (.cons (hf.tmp h3) (.nil ρ)))), hQ⟩
  · exact h.elim

/-- A function's body. -/
theorem GCalls.body {P : Program} {f : FuncId} {fn : Func} {c : Code} {N : Nat} {rs : List ResultVar} {args : List Value} {H : GHeap} {Q : Value → GHeap → Prop} (hf : P.funcs[f]? = some fn) (hb : fn.body = some c) (hn : fn.ntmps = N) (hrs : fn.results = rs.toArray) (hl : Nat.ble args.length N = true)
    (h : ∀ Qx : Exit → Slots → GHeap → Prop, (∀ fr H', GRes P rs fr H' Q → Qx .ret fr H') → (∀ fr H', GRes P rs fr H' Q → Qx .normal fr H') → GT P N c Qx (argSlots 0 args) H) : GCalls P f args H Q := fun B w0 ρ cargs w hs hrel => by
  have hle : args.length ≤ N := Nat.le_of_ble_eq_true hl
  refine calls_of_wp hf hb ?_
  have h1 := h (fun e fr H' => (e = .ret ∨ e = .normal) ∧ GRes P rs fr H' Q) (fun _ _ h => ⟨.inl rfl, h⟩) (fun _ _ h => ⟨.inr rfl, h⟩) B w0 ρ { tmps := cargs.toArray ++ Array.replicate (fn.ntmps - cargs.toArray.size) undef, defers := [] } w hs ⟨by simp [hn]; have := hrel.1; omega, rfl, fun t v hv => by
    obtain ⟨_, h2⟩ := argSlots_get args 0 t v hv
    obtain ⟨cv, h3, h4⟩ := hrel.get h2
    simp only [Nat.sub_zero] at h3
    unfold Act.eval
    simp only [Array.getD_eq_getD_getElem?]
    have hlt := (List.getElem?_eq_some_iff.1 h3).1
    rw [Array.getElem?_append_left (by simpa using hlt)]
    simp [h3]
    exact h4⟩
  refine wp_mono h1 fun e a' w' ⟨ρ', fr', H', ⟨he, hres⟩, hext, hs', hf'⟩ => ?_
  obtain ⟨v, cv, hrun, hv, hQ⟩ := hres.run hrs hs' hf'
  rcases he with rfl | rfl
  · exact ⟨hf'.2.1, cv, hrun, v, cv, ρ', H', rfl, hQ, hext, hs', hv⟩
  · exact ⟨hf'.2.1, cv, hrun, v, cv, ρ', H', rfl, hQ, hext, hs', hv⟩
end Go.GL
