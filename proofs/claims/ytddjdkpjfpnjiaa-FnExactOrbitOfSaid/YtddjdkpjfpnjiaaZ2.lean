/- Traces of a crowd in which one goroutine hands values to goroutine 0 over a channel: who knows which touch. No condition. -/
import Derived.Test.YtddjdkpjfpnjiaaZ1
import Derived.Conc.Beside
import Derived.Conc.CrowdComm
set_option linter.unusedSectionVars false
namespace Go.GL
open Go.Conc

def CalmOps (u : Trace) : Prop := ∀ op ∈ u, op.act ≠ .mark .disable ∧ op.act ≠ .mark .enable
theorem Deaf_calm (t : Trace) (g : Nat) (u : Trace) (hu : CalmOps u) : Deaf (t ++ u) g = Deaf t g := by
  obtain ⟨l⟩ := u
  rw [Deaf_append]
  induction l generalizing t with
  | nil => rfl
  | cons y l ih =>
    obtain ⟨h1, h2⟩ := hu y (by simp)
    have e1 : deafStep g (Deaf t g) y = Deaf t g := by
      unfold deafStep
      split
      · rename_i h; exact absurd h h1
      · rename_i h; exact absurd h h2
      · rfl
    rw [List.foldl_cons, e1]
    exact ih t (fun op hop => hu op (by simp at hop ⊢; exact .inr hop))
theorem calmOps_of {g : Nat} {fn : FuncId} {pos : String} {es : Array Event} (h : ∀ e ∈ es, e.loc ≠ .mark .disable ∧ e.loc ≠ .mark .enable) : CalmOps (MemOp.ofEvents g fn pos es) := fun op hop => by
  obtain ⟨e, he, rfl⟩ := Go.Conc.mem_ofEvents hop
  obtain ⟨h1, h2⟩ := h e he
  obtain ⟨loc, wr, sy⟩ := e
  constructor <;> intro hm <;> cases loc <;> cases wr <;> cases sy <;> simp_all [MemAct.ofEvent]
theorem g_of_events {g : Nat} {fn : FuncId} {pos : String} {es : Array Event} : ∀ op ∈ MemOp.ofEvents g fn pos es, op.g = g := fun op hop => by obtain ⟨e, _, rfl⟩ := Go.Conc.mem_ofEvents hop; rfl

theorem heard_of {t : Trace} {i : Nat} {op : MemOp} (hi : t[i]? = some op) (hd : t.deaf op.g i = 0) : t.heard i := ⟨op.g, by simp [Trace.g?, hi], hd⟩
theorem g?_of {t : Trace} {i : Nat} {op : MemOp} (h : t[i]? = some op) : t.g? i = some op.g := by simp [Trace.g?, h]
theorem op_of_g {t : Trace} {i g : Nat} (h : t.g? i = some g) : ∃ op, t[i]? = some op ∧ op.g = g := by
  obtain ⟨op, h1, h2⟩ := Option.map_eq_some_iff.1 h
  exact ⟨op, h1, h2⟩

structure Old (t : Trace) : Prop where
  clean : ∀ said, ¬ Race said t
  known : ∀ i a, touchAt t i = some a → a.loc.isMemory = true → Knows t 0 i
  hears : Deaf t 0 = 0

theorem Old.own {t u : Trace} (h : Old t) (hu : ∀ op ∈ u, op.g = 0) (hc : CalmOps u) : Old (t ++ u) := by
  refine ⟨fun said => noRace_append (h.clean said) hu fun i a ha _ _ b _ hcf => h.known i a ha hcf.2.1, fun i a ha hm => ?_, (Deaf_calm t 0 u hc).trans h.hears⟩
  obtain ⟨x, hx, hxa⟩ := touch_of ha
  rcases getElem?_append_cases hx with ⟨_, hx'⟩ | ⟨_, hxu⟩
  · exact (h.known i a (by rw [touchAt_of hx']; exact hxa) hm).app u
  · have := knows_own hx
    rwa [hu x hxu] at this
theorem Old.over {t : Trace} (h : Old t) : t.HandedOver := by
  intro i g hg hne hc
  obtain ⟨x, hx, hm, _⟩ := hc
  obtain ⟨q, y, h1, h2, h3⟩ := h.known i x hx hm
  refine ⟨q, by simp [Trace.g?, h1, h2], ?_⟩
  rcases h3 with rfl | h3
  · simp [Trace.g?, h1, h2] at hg; exact absurd hg.symm hne
  · exact h3
theorem old_nil : Old #[] := ⟨fun said => by rintro ⟨i, j, _, ⟨a, b, ha, _⟩, _⟩; simp [Trace.act?] at ha, fun i a ha => by simp [touchAt, Trace.act?] at ha, rfl⟩

structure Two (Mine : Loc → Prop) (fresh : Bool) (j : Nat) (t : Trace) : Prop where
  clean : ∀ said, ¬ Race said t
  d0 : Deaf t 0 = 0
  dj : Deaf t j = 0
  k0 : ∀ i a, touchAt t i = some a → a.loc.isMemory = true → Knows t 0 i ∨ (t.g? i = some j ∧ (fresh = true ∨ ¬ Mine a.loc))
  kj : ∀ i a, touchAt t i = some a → a.loc.isMemory = true → Knows t j i ∨ (fresh = false ∧ Mine a.loc)

section
variable {Mine : Loc → Prop} {fresh : Bool} {j : Nat} {t u : Trace}

theorem Two.own0 (h : Two Mine fresh j t) (hu : ∀ op ∈ u, op.g = 0) (hc : CalmOps u) (hm : ∀ op ∈ u, ∀ b, op.act.touch? = some b → fresh = false ∧ Mine b.loc) : Two Mine fresh j (t ++ u) := by
  refine ⟨fun said => noRace_append (h.clean said) hu fun i a ha op hop b hb hcf => ?_, (Deaf_calm t 0 u hc).trans h.d0, (Deaf_calm t j u hc).trans h.dj, fun i a ha hmem => ?_, fun i a ha hmem => ?_⟩
  · rcases h.k0 i a ha hcf.2.1 with hk | ⟨_, hk⟩
    · exact hk
    · obtain ⟨h1, h2⟩ := hm op hop b hb
      rcases hk with hk | hk
      · rw [h1] at hk; cases hk
      · exact absurd (hcf.1 ▸ h2) hk
  · obtain ⟨x, hx, hxa⟩ := touch_of ha
    rcases getElem?_append_cases hx with ⟨hl, hx'⟩ | ⟨_, hxu⟩
    · exact (h.k0 i a (by rw [touchAt_of hx']; exact hxa) hmem).imp (·.app u) fun ⟨x, y⟩ => ⟨by rw [g?_old hl]; exact x, y⟩
    · have := knows_own hx
      rw [hu x hxu] at this
      exact .inl this
  · obtain ⟨x, hx, hxa⟩ := touch_of ha
    rcases getElem?_append_cases hx with ⟨hl, hx'⟩ | ⟨_, hxu⟩
    · exact (h.kj i a (by rw [touchAt_of hx']; exact hxa) hmem).imp (·.app u) id
    · exact .inr (hm x hxu a hxa)
theorem Two.ownJ (h : Two Mine fresh j t) (hu : ∀ op ∈ u, op.g = j) (hc : CalmOps u) (hm : fresh = true ∨ ∀ op ∈ u, ∀ b, op.act.touch? = some b → ¬ Mine b.loc) : Two Mine fresh j (t ++ u) := by
  refine ⟨fun said => noRace_append (h.clean said) hu fun i a ha op hop b hb hcf => ?_, (Deaf_calm t 0 u hc).trans h.d0, (Deaf_calm t j u hc).trans h.dj, fun i a ha hmem => ?_, fun i a ha hmem => ?_⟩
  · rcases h.kj i a ha hcf.2.1 with hk | ⟨hf, hk⟩
    · exact hk
    · rcases hm with hm | hm
      · rw [hf] at hm; cases hm
      · exact absurd (hcf.1 ▸ hk) (hm op hop b hb)
  · obtain ⟨x, hx, hxa⟩ := touch_of ha
    rcases getElem?_append_cases hx with ⟨hl, hx'⟩ | ⟨_, hxu⟩
    · exact (h.k0 i a (by rw [touchAt_of hx']; exact hxa) hmem).imp (·.app u) fun ⟨x, y⟩ => ⟨by rw [g?_old hl]; exact x, y⟩
    · exact .inr ⟨by rw [g?_of hx, hu x hxu], hm.imp id fun hm => hm x hxu a hxa⟩
  · obtain ⟨x, hx, hxa⟩ := touch_of ha
    rcases getElem?_append_cases hx with ⟨hl, hx'⟩ | ⟨_, hxu⟩
    · exact (h.kj i a (by rw [touchAt_of hx']; exact hxa) hmem).imp (·.app u) id
    · have := knows_own hx
      rw [hu x hxu] at this
      exact .inl this

theorem Two.handed (h : Two Mine fresh j t) {c k cap : Nat} {f1 f2 f3 f4 : FuncId} {p1 p2 p3 p4 : String} :
    Two Mine false j (t ++ #[{ g := j, fn := f1, pos := p1, act := .send c k }, { g := 0, fn := f2, pos := p2, act := .recv c k cap }, { g := j, fn := f3, pos := p3, act := .sendDone c k }, { g := 0, fn := f4, pos := p4, act := .recvDone c k }]) := by
  generalize hu : (#[{ g := j, fn := f1, pos := p1, act := .send c k }, { g := 0, fn := f2, pos := p2, act := .recv c k cap }, { g := j, fn := f3, pos := p3, act := .sendDone c k }, { g := 0, fn := f4, pos := p4, act := .recvDone c k }] : Trace) = u
  have hcalm : CalmOps u := by subst hu; intro op hop; simp at hop; rcases hop with rfl | rfl | rfl | rfl <;> simp
  have hn : ∀ op ∈ u, op.act.touch? = none := by subst hu; intro op hop; simp at hop; rcases hop with rfl | rfl | rfl | rfl <;> rfl
  have old : ∀ {i a}, touchAt (t ++ u) i = some a → touchAt t i = some a ∧ i < t.size := fun {i a} ha => by
    obtain ⟨x, hx, hxa⟩ := touch_of ha
    rcases getElem?_append_cases hx with ⟨hl, hx'⟩ | ⟨_, hxu⟩
    · exact ⟨by rw [touchAt_of hx']; exact hxa, hl⟩
    · rw [hn x hxu] at hxa; cases hxa
  have e0 : (t ++ u)[t.size]? = some { g := j, fn := f1, pos := p1, act := .send c k } := by subst hu; simp
  have e3 : (t ++ u)[t.size + 3]? = some { g := 0, fn := f4, pos := p4, act := .recvDone c k } := by subst hu; simp
  have dj : ∀ m, m ≤ 4 → (t ++ u).deaf j (t.size + m) = 0 ∧ (t ++ u).deaf 0 (t.size + m) = 0 := by
    intro m hm
    have key : ∀ g, Deaf t g = 0 → (t ++ u).deaf g (t.size + m) = 0 := fun g hg => by
      have h1 : t ++ u = (t ++ u.extract 0 m) ++ u.extract m u.size := by
        rw [Array.append_assoc]
        congr 1
        apply Array.ext'
        simp
        rw [List.take_of_length_le (by simp; omega)]
      have h2 : (t ++ u.extract 0 m).size = t.size + m := by simp [show u.size = 4 by subst hu; rfl]; omega
      rw [h1, deaf_old (by omega), ← h2]
      exact (Deaf_calm t g _ fun op hop => hcalm op (by
        obtain ⟨n, hn, rfl⟩ := Array.mem_iff_getElem.1 hop
        simp)).trans hg
    exact ⟨key j h.dj, key 0 h.d0⟩
  have edge : HappensBefore (t ++ u) t.size (t.size + 3) := .single (.inr ⟨.handOver (c := c) (k := k) (by rw [act?_of e0]) (by rw [act?_of e3]), heard_of e0 (dj 0 (by omega)).1, heard_of e3 (dj 3 (by omega)).2⟩)
  have noR : ∀ said, ¬ Race said (t ++ u) := by
    rintro said ⟨i, i', hij, ⟨a, b, ha, hb, hcf⟩, n1, n2⟩
    obtain ⟨a1, a2⟩ := old ha
    obtain ⟨b1, b2⟩ := old hb
    exact h.clean said ⟨i, i', hij, ⟨a, b, a1, b1, hcf⟩, fun e => n1 (hb_app u e), fun e => n2 (hb_app u e)⟩
  refine ⟨noR, (Deaf_calm t 0 u hcalm).trans h.d0, (Deaf_calm t j u hcalm).trans h.dj, fun i a ha hm => ?_, fun i a ha hm => ?_⟩
  · obtain ⟨h1, h2⟩ := old ha
    rcases h.k0 i a h1 hm with hk | ⟨hg, _⟩
    · exact .inl (hk.app u)
    · obtain ⟨op, ho, hog⟩ := op_of_g hg
      have : HappensBefore (t ++ u) i t.size := hb_po h2 (by rw [getElem?_append_old h2]; exact ho) e0 hog
      exact .inl ⟨t.size + 3, _, e3, rfl, .inr (this.trans edge)⟩
  · obtain ⟨h1, h2⟩ := old ha
    exact (h.kj i a h1 hm).imp (·.app u) fun x => ⟨rfl, x.2⟩

structure Shut (Mine : Loc → Prop) (fresh : Bool) (j c pc : Nat) (t : Trace) : Prop extends Two Mine fresh j t where
  close : ∃ op, t[pc]? = some op ∧ op.g = j ∧ op.act = .close c ∧ t.deaf j pc = 0
  last : ∀ i a, touchAt t i = some a → t.g? i = some j → i < pc

theorem Shut.of (h : Two Mine fresh j t) {c : Nat} {fn : FuncId} {pos : String} : Shut Mine fresh j c t.size (t ++ #[{ g := j, fn, pos, act := .close c }]) := by
  refine ⟨h.ownJ (fun op hop => by simp at hop; subst hop; rfl) (fun op hop => by simp at hop; subst hop; simp) (.inr fun op hop b hb => by simp at hop; subst hop; cases hb), ⟨{ g := j, fn, pos, act := .close c }, by simp, rfl, rfl, (deaf_old (Nat.le_refl _)).trans h.dj⟩, fun i a ha _ => ?_⟩
  obtain ⟨x, hx, hxa⟩ := touch_of ha
  rcases getElem?_append_cases hx with ⟨hl, _⟩ | ⟨_, hxu⟩
  · exact hl
  · simp at hxu; subst hxu; cases hxa
theorem Shut.keep {c pc : Nat} (h : Shut Mine fresh j c pc t) (h2 : Two Mine fresh j (t ++ u)) (hn : ∀ op ∈ u, op.g = j → op.act.touch? = none) : Shut Mine fresh j c pc (t ++ u) := by
  obtain ⟨op, h3, h4, h5, h6⟩ := h.close
  have hl := lt_size_of_getElem? h3
  refine ⟨h2, ⟨op, by rw [getElem?_append_old hl]; exact h3, h4, h5, by rw [deaf_old (Nat.le_of_lt hl)]; exact h6⟩, fun i a ha hg => ?_⟩
  obtain ⟨x, hx, hxa⟩ := touch_of ha
  rcases getElem?_append_cases hx with ⟨hl', hx'⟩ | ⟨_, hxu⟩
  · exact h.last i a (by rw [touchAt_of hx']; exact hxa) (by rw [g?_old hl'] at hg; exact hg)
  · rw [hn x hxu (by rw [g?_of hx] at hg; exact Option.some.inj hg)] at hxa; cases hxa
theorem Shut.seen {c pc : Nat} (h : Shut Mine fresh j c pc t) {fn : FuncId} {pos : String} : Old (t ++ #[{ g := 0, fn, pos, act := .recvClosed c }]) := by
  generalize hu : (#[{ g := 0, fn, pos, act := .recvClosed c }] : Trace) = u
  have hcalm : CalmOps u := by subst hu; intro op hop; simp at hop; subst hop; simp
  have hn : ∀ op ∈ u, op.act.touch? = none := by subst hu; intro op hop; simp at hop; subst hop; rfl
  have h0 : ∀ op ∈ u, op.g = 0 := by subst hu; intro op hop; simp at hop; subst hop; rfl
  have elast : (t ++ u)[t.size]? = some { g := 0, fn, pos, act := .recvClosed c } := by subst hu; simp
  obtain ⟨op, h3, h4, h5, h6⟩ := h.close
  have hl := lt_size_of_getElem? h3
  have e1 : (t ++ u)[pc]? = some op := by rw [getElem?_append_old hl]; exact h3
  have edge : HappensBefore (t ++ u) pc t.size := .single (.inr ⟨.closed (c := c) (by rw [act?_of e1, h5]) (by rw [act?_of elast]), heard_of e1 (by rw [h4, deaf_old (Nat.le_of_lt hl)]; exact h6), heard_of elast (by rw [deaf_old (Nat.le_refl _)]; exact h.d0)⟩)
  refine ⟨fun said => noRace_append (h.clean said) h0 fun i a _ op hop b hb _ => (by rw [hn op hop] at hb; cases hb), fun i a ha hm => ?_, (Deaf_calm t 0 u hcalm).trans h.d0⟩
  obtain ⟨x, hx, hxa⟩ := touch_of ha
  rcases getElem?_append_cases hx with ⟨hl', hx'⟩ | ⟨_, hxu⟩
  · have ha' : touchAt t i = some a := by rw [touchAt_of hx']; exact hxa
    rcases h.k0 i a ha' hm with hk | ⟨hg, _⟩
    · exact hk.app u
    · have hlt := h.last i a ha' hg
      obtain ⟨y, hy, hyg⟩ := op_of_g hg
      have : HappensBefore (t ++ u) i pc := hb_po hlt (by rw [getElem?_append_old hl']; exact hy) e1 (hyg.trans h4.symm)
      exact ⟨t.size, _, elast, rfl, .inr (this.trans edge)⟩
  · rw [hn x hxu] at hxa; cases hxa

theorem Old.spawn (h : Old t) (hj : j ≠ 0) (hd : Deaf t j = 0) {f1 f2 : FuncId} {p1 p2 : String} : Two Mine true j (t ++ #[{ g := 0, fn := f1, pos := p1, act := .go j }, { g := j, fn := f2, pos := p2, act := .start }]) := by
  generalize hu : (#[{ g := 0, fn := f1, pos := p1, act := .go j }, { g := j, fn := f2, pos := p2, act := .start }] : Trace) = u
  have hcalm : CalmOps u := by subst hu; intro op hop; simp at hop; rcases hop with rfl | rfl <;> simp
  have hn : ∀ op ∈ u, op.act.touch? = none := by subst hu; intro op hop; simp at hop; rcases hop with rfl | rfl <;> rfl
  have old : ∀ {i a}, touchAt (t ++ u) i = some a → touchAt t i = some a ∧ i < t.size := fun {i a} ha => by
    obtain ⟨x, hx, hxa⟩ := touch_of ha
    rcases getElem?_append_cases hx with ⟨hl, hx'⟩ | ⟨_, hxu⟩
    · exact ⟨by rw [touchAt_of hx']; exact hxa, hl⟩
    · rw [hn x hxu] at hxa; cases hxa
  have e0 : (t ++ u)[t.size]? = some { g := 0, fn := f1, pos := p1, act := .go j } := by subst hu; simp
  have e1 : (t ++ u)[t.size + 1]? = some { g := j, fn := f2, pos := p2, act := .start } := by subst hu; simp
  have dj1 : (t ++ u).deaf j (t.size + 1) = 0 := by
    have h1 : t ++ u = (t ++ #[{ g := 0, fn := f1, pos := p1, act := .go j }]) ++ #[{ g := j, fn := f2, pos := p2, act := .start }] := by subst hu; rw [Array.append_assoc]; rfl
    have h2 : (t ++ #[({ g := 0, fn := f1, pos := p1, act := .go j } : MemOp)]).size = t.size + 1 := by simp
    rw [h1, deaf_old (by omega), ← h2]
    exact (Deaf_calm t j _ fun op hop => by simp at hop; subst hop; simp).trans hd
  have edge : HappensBefore (t ++ u) t.size (t.size + 1) := .single (.inr ⟨.spawn (child := j) (by rw [act?_of e0]) (by rw [act?_of e1]) (by rw [g?_of e1]), heard_of e0 (by rw [deaf_old (Nat.le_refl _)]; exact h.hears), heard_of e1 dj1⟩)
  have noR : ∀ said, ¬ Race said (t ++ u) := by
    rintro said ⟨i, i', hij, ⟨a, b, ha, hb, hcf⟩, n1, n2⟩
    obtain ⟨a1, a2⟩ := old ha
    obtain ⟨b1, b2⟩ := old hb
    exact h.clean said ⟨i, i', hij, ⟨a, b, a1, b1, hcf⟩, fun e => n1 (hb_app u e), fun e => n2 (hb_app u e)⟩
  refine ⟨noR, (Deaf_calm t 0 u hcalm).trans h.hears, (Deaf_calm t j u hcalm).trans hd, fun i a ha hm => ?_, fun i a ha hm => ?_⟩
  · obtain ⟨h1, h2⟩ := old ha
    exact .inl ((h.known i a h1 hm).app u)
  · obtain ⟨h1, h2⟩ := old ha
    obtain ⟨q, y, h3, h4, h5⟩ := h.known i a h1 hm
    have hq := lt_size_of_getElem? h3
    have : HappensBefore (t ++ u) q t.size := hb_po hq (by rw [getElem?_append_old hq]; exact h3) e0 h4
    exact .inl ⟨t.size + 1, _, e1, rfl, .inr ((h5.app u).hb (this.trans edge))⟩
end
end Go.GL
namespace Go.GL
open Go.Conc
open Go.ConcN (sumTo upd sumTo_upd upd_ne upd_same)

structure Lv (P : Program) (X : Nat → Prop) (t : Trace) (gs : Array Goroutine) (q : Nat → Nat) : Prop where
  old : ∀ i g, ¬ X i → gs[i]? = some g → QuitsIn P (q i) g
  deaf : ∀ j, Deaf t j = 0

def Ends (P : Program) (Post : Value → World → Prop) (gs : Array Goroutine) (w : World) (sl : Option (Nat × Nat)) (t : Trace) : Prop :=
  ∃ N last o w' t', runNT P (N + 1) (crowd gs w sl) t = (.ended o w', t') ∧ runN P N (crowd gs w sl) = .next last ∧ step P last = .ended o w' ∧ Good P Post last o w' t'

section
variable {P : Program} {Post : Value → World → Prop} {gs gs' : Array Goroutine} {w w' : World} {sl sl' : Option (Nat × Nat)} {t ops : Trace} {X : Nat → Prop} {q : Nat → Nat} {i0 : Nat}

theorem Ends.step (hst : stepT P (crowd gs w sl) = (.next (crowd gs' w' sl'), ops)) (h : Ends P Post gs' w' sl' (t ++ ops)) : Ends P Post gs w sl t := by
  obtain ⟨N, last, o, w₂, t', h1, h2, h3, h4⟩ := h
  refine ⟨N + 1, last, o, w₂, t', ?_, ?_, h3, h4⟩
  · rw [runNT, hst]; exact h1
  · have : Go.step P (crowd gs w sl) = .next (crowd gs' w' sl') := by rw [Go.step, hst]
    rw [runN, this]; exact h2
theorem Ends.done {o : Outcome} (hst : stepT P (crowd gs w sl) = (.ended o w', ops)) (h : Good P Post (crowd gs w sl) o w' (t ++ ops)) : Ends P Post gs w sl t :=
  ⟨0, _, o, w', t ++ ops, by rw [runNT, hst], rfl, by rw [Go.step, hst], h⟩

theorem Lv.hear (h : Lv P X t gs q) (hu : CalmOps ops) : ∀ j, Deaf (t ++ ops) j = 0 := fun j => (Deaf_calm t j ops hu).trans (h.deaf j)
theorem Lv.stepped (h : Lv P X t gs q) {i : Nat} {g g' : Goroutine} (hi : X i) (hu : CalmOps ops) : Lv P X (t ++ ops) ((gs.map (woken P g g' w')).setIfInBounds i g') q :=
  ⟨fun k x hk hx => by
    have hne : i ≠ k := fun e => hk (e ▸ hi)
    rw [Array.getElem?_setIfInBounds_ne hne, Array.getElem?_map] at hx
    obtain ⟨y, hy, rfl⟩ := Option.map_eq_some_iff.1 hx
    have hq := h.old k y hk hy
    rw [woken_quits hq]
    exact hq, h.hear hu⟩
theorem Lv.two (h : Lv P X t gs q) {i j : Nat} {x y : Goroutine} (hi : X i) (hj : X j) (hu : CalmOps ops) : Lv P X (t ++ ops) ((gs.setIfInBounds j x).setIfInBounds i y) q :=
  ⟨fun k z hk hz => by
    have h1 : i ≠ k := fun e => hk (e ▸ hi)
    have h2 : j ≠ k := fun e => hk (e ▸ hj)
    rw [Array.getElem?_setIfInBounds_ne h1, Array.getElem?_setIfInBounds_ne h2] at hz
    exact h.old k z hk hz, h.hear hu⟩
theorem Lv.one (h : Lv P X t gs q) {i : Nat} {x : Goroutine} (hi : X i) (hu : CalmOps ops) : Lv P X (t ++ ops) (gs.setIfInBounds i x) q :=
  ⟨fun k z hk hz => by
    have h1 : i ≠ k := fun e => hk (e ▸ hi)
    rw [Array.getElem?_setIfInBounds_ne h1] at hz
    exact h.old k z hk hz, h.hear hu⟩

theorem Lv.slip (h : Lv P X t gs q) {i : Nat} {g : Goroutine} (hX : ¬ X i) (hi0 : i ≠ 0) (hi : gs[i]? = some g) (hg : g.status = .running) :
    ∃ k g', runT P (crowd gs w sl) i = (.next (crowd ((gs.map (woken P g g' w)).setIfInBounds i g') w sl), #[]) ∧
      Lv P X t ((gs.map (woken P g g' w)).setIfInBounds i g') (upd q i k) ∧
      sumTo ((gs.map (woken P g g' w)).setIfInBounds i g').size (upd q i k) + 1 = sumTo gs.size q := by
  have hq := h.old i g hX hi
  have hb : (i == 0) = false := by simp; omega
  have hlt : i < gs.size := (Array.getElem?_eq_some_iff.1 hi).1
  cases hqi : q i with
  | zero => rw [hqi] at hq; rw [show g.status = .finished from hq] at hg; cases hg
  | succ k =>
    rw [hqi] at hq
    rcases hq with hf | ⟨_, g', hstp, hq'⟩
    · rw [hf] at hg; cases hg
    refine ⟨k, g', runT_crowd_go (P := P) (sl := sl) (i := i) hi (by rw [hb]; exact hstp w), ⟨fun j x hj hx => ?_, h.deaf⟩, ?_⟩
    · by_cases hji : i = j
      · subst hji
        rw [Array.getElem?_setIfInBounds_self_of_lt (by simpa using hlt)] at hx
        obtain rfl := Option.some.inj hx
        rw [upd_same]
        exact hq'
      · rw [Array.getElem?_setIfInBounds_ne hji, Array.getElem?_map] at hx
        obtain ⟨y, hy, rfl⟩ := Option.map_eq_some_iff.1 hx
        have hqj := h.old j y hj hy
        rw [woken_quits hqj, upd_ne q k (Ne.symm hji)]
        exact hqj
    · have hsum : sumTo gs.size (upd q i k) + (k + 1) = sumTo gs.size q + k := by
        have := sumTo_upd q k id hlt
        simpa [hqi] using this
      have hsz : ((gs.map (woken P g g' w)).setIfInBounds i g').size = gs.size := by simp
      rw [hsz]
      omega
theorem Ends.slip (hst : stepT P (crowd gs w sl) = runT P (crowd gs w' sl') i0) {i : Nat} {g g' : Goroutine} (hi : i0 = i) (hr : runT P (crowd gs w' sl') i = (.next (crowd ((gs.map (woken P g g' w')).setIfInBounds i g') w' sl'), #[]))
    (h : Ends P Post ((gs.map (woken P g g' w')).setIfInBounds i g') w' sl' t) : Ends P Post gs w sl t := by
  subst hi
  exact Ends.step (hst.trans hr) (by rw [Array.append_empty]; exact h)
theorem after_slip {i k : Nat} {g g' x : Goroutine} (hk : k ≠ i) (hx : gs[k]? = some x) (hw : woken P g g' w' x = x) : ((gs.map (woken P g g' w')).setIfInBounds i g')[k]? = some x := by
  rw [Array.getElem?_setIfInBounds_ne (Ne.symm hk), Array.getElem?_map, hx]
  simp [hw]
end

def Goods (P : Program) (Post : Value → World → Prop) (g : Goroutine) (w : World) : Prop :=
  ∀ (d : Nat) (gs : Array Goroutine) (sl : Option (Nat × Nat)) (t : Trace) (q : Nat → Nat), gs[0]? = some g → Lv P (· = 0) t gs q → Old t → Ends P Post gs (w.at d) sl t

structure Steady (P : Program) (main : Bool) (I : World → Prop) (K : Goroutine → World → Prop) : Prop where
  stable : ∀ g w d, K g w → K g (w.at d)
  go : ∀ g w, g.status = .running → (∀ d, (stepG P main g (w.at d)).goes fun g' w' es => CalmA es ∧ (I (w.at d) → I w') ∧ K g' w') → K g w

section
variable {P : Program} {Post : Value → World → Prop}
theorem calm_ops {g : Nat} {fn : FuncId} {pos : String} {es : Array Event} (h : CalmA es) : CalmOps (MemOp.ofEvents g fn pos es) := calmOps_of fun e he => h e he

theorem awake_lv {X : Nat → Prop} {t : Trace} {gs : Array Goroutine} {q : Nat → Nat} (h : Lv P X t gs q) (hX : ∀ i g, X i → gs[i]? = some g → awake g) : ∀ g ∈ gs, awake g := by
  intro g hg
  obtain ⟨i, hi, rfl⟩ := Array.mem_iff_getElem.1 hg
  by_cases hx : X i
  · exact hX i _ hx (Array.getElem?_eq_getElem hi)
  · exact awake_of ((h.old i _ hx (Array.getElem?_eq_getElem hi)).status.elim .inl fun x => .inr (.inr x))

theorem goods_steady (I : World → Prop) : Steady P true I (Goods P Post) := by
  refine ⟨fun g w d h d' => h d', fun g w hrun h d gs sl t q h0 hL hO => ?_⟩
  generalize hM : sumTo gs.size q = M
  induction M using Nat.strongRecOn generalizing d gs sl t q with
  | _ M ih =>
    have haw := awake_lv hL fun i x hi hx => by subst hi; rw [h0] at hx; cases hx; exact awake_of (.inl hrun)
    obtain ⟨i, x, d', sl', hi, hx, hst⟩ := crowd_pick (P := P) (w := w.at d) (sl := sl) haw ⟨0, g, h0, hrun⟩
    by_cases hi0 : i = 0
    · subst hi0
      obtain rfl : x = g := by rw [h0] at hi; exact (Option.some.inj hi).symm
      have hs := h d'
      cases hgo : stepG P true x (w.at d') with
      | go g' w' es =>
        rw [hgo, goes_go] at hs
        obtain ⟨hc, _, hK⟩ := hs
        have hrunT := runT_crowd_go (P := P) (sl := sl') (i := 0) hi (show stepG P (0 == 0) x ((w.at d).at d') = _ from hgo)
        have hlt : 0 < gs.size := (Array.getElem?_eq_some_iff.1 h0).1
        refine Ends.step (hst.trans hrunT) ?_
        exact hK w'.drawn _ _ _ q (by simp [hlt]) (hL.stepped rfl (calm_ops hc)) (hO.own g_of_events (calm_ops hc))
      | _ => rw [hgo] at hs; exact hs.elim
    · obtain ⟨k, g', hrunT, hL', hsum⟩ := hL.slip (w := (w.at d).at d') (sl := sl') hi0 hi0 hi hx
      exact Ends.slip hst rfl hrunT (ih _ (by omega) d' _ sl' _ _ (after_slip (Ne.symm hi0) h0 (woken_running hrun)) hL' hO rfl)

theorem goods_end {g : Goroutine} {w : World} {v : Value} (hrun : g.status = .running) (h : ∀ d, ∃ es, stepG P true g (w.at d) = .ended (.done v) (w.at d) es ∧ CalmA es) (hp : ∀ d, Post v (w.at d)) : Goods P Post g w := by
  intro d gs sl t q h0 hL hO
  generalize hM : sumTo gs.size q = M
  induction M using Nat.strongRecOn generalizing d gs sl t q with
  | _ M ih =>
    have haw := awake_lv hL fun i x hi hx => by subst hi; rw [h0] at hx; cases hx; exact awake_of (.inl hrun)
    obtain ⟨i, x, d', sl', hi, hx, hst⟩ := crowd_pick (P := P) (w := w.at d) (sl := sl) haw ⟨0, g, h0, hrun⟩
    by_cases hi0 : i = 0
    · subst hi0
      obtain rfl : x = g := by rw [h0] at hi; exact (Option.some.inj hi).symm
      obtain ⟨es, hend, hc⟩ := h d'
      have hrunT := runT_many_ended (P := P) (sl := sl') (i := 0) hi (show stepG P (0 == 0) x ((w.at d).at d') = _ from hend)
      have hO' := hO.own (u := MemOp.ofEvents 0 x.frame.fn x.frame.place es) g_of_events (calm_ops hc)
      refine Ends.done (hst.trans hrunT) ⟨v, rfl, hp d', hO'.clean, hO'.over, ⟨fun y hy => ?_, rfl⟩, fun j y hy hj => ?_⟩
      · obtain ⟨j, hj⟩ := List.mem_iff_getElem?.1 hy
        rw [List.getElem?_drop] at hj
        exact ⟨_, (hL.old (1 + j) y (by omega) (by simpa [crowd] using hj)).leaves⟩
      · have hq := hL.old j y hj hy
        refine ⟨q j, ?_⟩
        have e : (t ++ MemOp.ofEvents 0 x.frame.fn x.frame.place es).deaf j (t ++ MemOp.ofEvents 0 x.frame.fn x.frame.place es).size = 0 := hL.hear (calm_ops hc) j
        rw [e]
        exact hq.hears _ 0
    · obtain ⟨k, g', hrunT, hL', hsum⟩ := hL.slip (w := (w.at d).at d') (sl := sl') hi0 hi0 hi hx
      exact Ends.slip hst rfl hrunT (ih _ (by omega) d' _ sl' _ _ (after_slip (Ne.symm hi0) h0 (woken_running hrun)) hL' hO rfl)
end
end Go.GL
namespace Go.GL
open Go.Conc
open Go.ConcN (sumTo upd sumTo_upd upd_ne upd_same)

section
variable (P : Program) (c : Nat) (S : World → Prop) (Mine : Loc → Prop) (z : Value)

def Dm (fresh : Bool) (w w' : World) (es : Array Event) : Prop :=
  (S w → S w') ∧ w'.heap[c]? = w.heap[c]? ∧ (∀ e ∈ es, calmE e ∧ ∀ b, (MemAct.ofEvent e).touch? = some b → Mine b.loc) ∧ (fresh = true → es = #[])
def AtR (Next : Goroutine → World → Prop) (g : Goroutine) (w : World) : Prop :=
  g.status = .running ∧ stepG P true g w = .comm (core g) #[rcase c z] true (.recv true) w #[] ∧ ∀ w₂, Aside c w w₂ → Next (core g) w₂
def Serv (Fin : Goroutine → World → Prop) : List Value → Goroutine → World → Prop
  | [], g, w => ∃ n, Goes P true (Aside c) (Dm c S Mine false) (AtR P c z fun g₂ w₂ => Fin (Conc.served g₂ (.tuple #[z, .bool false])) w₂) n g w
  | v :: vs, g, w => ∃ n, Goes P true (Aside c) (Dm c S Mine false) (AtR P c z fun g₂ w₂ => Serv Fin vs (Conc.served g₂ (.tuple #[v, .bool true])) w₂) n g w
def StopM (Fin : Goroutine → World → Prop) : List Value → Goroutine → World → Prop
  | [] => AtR P c z fun g₂ w₂ => Fin (Conc.served g₂ (.tuple #[z, .bool false])) w₂
  | v :: vs => AtR P c z fun g₂ w₂ => Serv P c S Mine z Fin vs (Conc.served g₂ (.tuple #[v, .bool true])) w₂
theorem serv_iff (Fin : Goroutine → World → Prop) (vs : List Value) (g : Goroutine) (w : World) : Serv P c S Mine z Fin vs g w ↔ ∃ n, Goes P true (Aside c) (Dm c S Mine false) (StopM P c S Mine z Fin vs) n g w := by cases vs <;> exact Iff.rfl
def SitM (Fin : Goroutine → World → Prop) (fresh : Bool) (vs : List Value) (ra : Nat) (a : Goroutine) (w : World) : Prop :=
  (∃ n, ra = n + 1 ∧ Goes P true (Aside c) (Dm c S Mine fresh) (StopM P c S Mine z Fin vs) n a w) ∨
  (ra = 0 ∧ ∃ g, a = parked (core g) #[rcase c z] (.recv true) ∧ ∀ w₁, Aside c w w₁ → StopM P c S Mine z Fin vs g w₁)
end

section
variable {P : Program} {c : Nat} {S : World → Prop} {Mine : Loc → Prop} {z : Value} {Fin : Goroutine → World → Prop} {Post : Value → World → Prop} {fresh : Bool}

theorem StopM.running {vs : List Value} {g : Goroutine} {w : World} (h : StopM P c S Mine z Fin vs g w) : g.status = .running := by cases vs <;> exact h.1
theorem StopM.comm {vs : List Value} {g : Goroutine} {w : World} (h : StopM P c S Mine z Fin vs g w) : stepG P true g w = .comm (core g) #[rcase c z] true (.recv true) w #[] := by cases vs <;> exact h.2.1
theorem StopM.cons {v : Value} {vs : List Value} {g : Goroutine} {w : World} (h : StopM P c S Mine z Fin (v :: vs) g w) : ∀ w₂, Aside c w w₂ → Serv P c S Mine z Fin vs (Conc.served (core g) (.tuple #[v, .bool true])) w₂ := h.2.2
theorem StopM.nil {g : Goroutine} {w : World} (h : StopM P c S Mine z Fin [] g w) : ∀ w₂, Aside c w w₂ → Fin (Conc.served (core g) (.tuple #[z, .bool false])) w₂ := h.2.2
theorem StopM.again {vs : List Value} {g : Goroutine} {w : World} (h : StopM P c S Mine z Fin vs g w) : StopM P c S Mine z Fin vs { parked (core g) #[rcase c z] (.recv true) with status := .running } w := by
  have e : stepG P true { parked (core g) #[rcase c z] (.recv true) with status := .running } w = stepG P true g w := stepG_same rfl rfl rfl w
  cases vs <;> exact let ⟨_, h1, h2⟩ := h; ⟨rfl, by rw [e]; exact h1, h2⟩

theorem SitM.status {vs : List Value} {ra : Nat} {a : Goroutine} {w : World} (h : SitM P c S Mine z Fin fresh vs ra a w) : (a.status = .running ∧ 0 < ra) ∨ (a.status = .blocked ∧ ra = 0) := by
  rcases h with ⟨n, e, hg⟩ | ⟨e, g, rfl, _⟩
  · exact .inl ⟨hg.running (fun _ _ => StopM.running) w (Aside.refl c w), by omega⟩
  · exact .inr ⟨rfl, e⟩
theorem aside_trans : ∀ a b d : World, Aside c a b → Aside c b d → Aside c a d := fun _ _ _ h h' => h.trans h'
theorem SitM.rely {vs : List Value} {ra : Nat} {a : Goroutine} {w w₁ : World} (h : SitM P c S Mine z Fin fresh vs ra a w) (hr : Aside c w w₁) : SitM P c S Mine z Fin fresh vs ra a w₁ := by
  rcases h with ⟨n, e, hg⟩ | ⟨e, g, ea, hs⟩
  · exact .inl ⟨n, e, Goes.rely aside_trans hg hr⟩
  · exact .inr ⟨e, g, ea, fun w₂ h₂ => hs w₂ (hr.trans h₂)⟩
theorem SitM.woken {vs : List Value} {ra : Nat} {a g g' : Goroutine} {w w' : World} {s r : Nat} {tm : Bool} (h : SitM P c S Mine z Fin fresh vs ra a w) (hc : w'.heap[c]? = some (.chan 0 #[] false s r tm)) : woken P g g' w' a = a := by
  unfold Go.Conc.woken
  split
  · rcases h with ⟨n, e, hg⟩ | ⟨e, g, rfl, _⟩
    · exact again_running _ (.inl (hg.running (fun _ _ => StopM.running) w (Aside.refl c w)))
    · exact again_parked_open rfl hc
  · rfl

theorem aside_setChan {w : World} {s r : Nat} {buf : Array Value} {cl tm : Bool} {cap : Nat} : Aside c w (w.setChan c cap buf cl s r tm) := ⟨rfl, rfl, rfl, by simp [World.setChan], fun k hk => by simp [World.setChan, Ne.symm hk]⟩
theorem heap_chan {w : World} {o : Obj} {s r : Nat} {buf : Array Value} {cl tm : Bool} {cap : Nat} (h : w.heap[c]? = some o) : (w.setChan c cap buf cl s r tm).heap[c]? = some (.chan cap buf cl s r tm) := by
  have := (Array.getElem?_eq_some_iff.1 h).1
  simp [World.setChan, this]
theorem evB_calm {e : Event} (h : EvB Mine e) : calmE e ∧ ∀ b, (MemAct.ofEvent e).touch? = some b → ¬ Mine b.loc := by
  refine ⟨⟨fun hm => (h.1 _ hm).ne_disable rfl, fun hm => (h.1 _ hm).ne_enable rfl⟩, fun b hb => ?_⟩
  rw [(ofEvent_touch h.1 hb).1]
  exact h.2.2
theorem evB_touch {g : Nat} {fn : FuncId} {pos : String} {es : Array Event} (h : ∀ e ∈ es, EvB Mine e) : ∀ op ∈ MemOp.ofEvents g fn pos es, ∀ b, op.act.touch? = some b → ¬ Mine b.loc := fun op hop b hb => by
  obtain ⟨e, he, rfl⟩ := Go.Conc.mem_ofEvents hop
  exact (evB_calm (h e he)).2 b hb
theorem dm_touch {g : Nat} {fn : FuncId} {pos : String} {w w' : World} {es : Array Event} (h : Dm c S Mine fresh w w' es) : ∀ op ∈ MemOp.ofEvents g fn pos es, ∀ b, op.act.touch? = some b → fresh = false ∧ Mine b.loc := fun op hop b hb => by
  obtain ⟨e, he, rfl⟩ := Go.Conc.mem_ofEvents hop
  refine ⟨?_, (h.2.2.1 e he).2 b hb⟩
  cases fresh with
  | false => rfl
  | true => rw [h.2.2.2 rfl] at he; simp at he
theorem dm_calm {g : Nat} {fn : FuncId} {pos : String} {w w' : World} {es : Array Event} (h : Dm c S Mine fresh w w' es) : CalmOps (MemOp.ofEvents g fn pos es) := calmOps_of fun e he => (h.2.2.1 e he).1

theorem shut_ends {j : Nat} (hj0 : j ≠ 0) (hFin : ∀ g w, Fin g w → Goods P Post g w) : ∀ (M n : Nat) (a : Goroutine) (gs : Array Goroutine) (w : World) (sl : Option (Nat × Nat)) (t : Trace) (q : Nat → Nat) (s r : Nat) (tm : Bool) (pc : Nat),
    n + sumTo gs.size q ≤ M → w.heap[c]? = some (.chan 0 #[] true s r tm) → Goes P true (Aside c) (Dm c S Mine fresh) (StopM P c S Mine z Fin []) n a w → gs[0]? = some a → Lv P (· = 0) t gs q → Shut Mine fresh j c pc t → Ends P Post gs w sl t := by
  intro M
  induction M using Nat.strongRecOn with
  | _ M ih =>
  intro n a gs w sl t q s r tm pc hM hc hA h0 hL hT
  have hra : a.status = .running := hA.running (fun _ _ => StopM.running) w (Aside.refl c w)
  have haw := awake_lv hL fun i x hi hx => by subst hi; rw [h0] at hx; cases hx; exact awake_of (.inl hra)
  obtain ⟨i, x, d, sl', hi, hx, hst⟩ := crowd_pick (P := P) (w := w) (sl := sl) haw ⟨0, a, h0, hra⟩
  have hAs : Aside c w (w.at d) := Aside.at c w d
  have hc1 : (w.at d).heap[c]? = some (.chan 0 #[] true s r tm) := hc
  by_cases hi0 : i = 0
  · subst hi0
    obtain rfl : x = a := by rw [h0] at hi; exact (Option.some.inj hi).symm
    have hlt : 0 < gs.size := (Array.getElem?_eq_some_iff.1 h0).1
    rcases hA.cases with hstop | ⟨n', rfl, hstep⟩
    · have hat := hstop _ hAs
      have hp : partners (gs.setIfInBounds 0 ph) c true = [] := partners_nil fun k y hy => by
        rcases getElem?_stand gs 0 k y hy with ⟨_, rfl⟩ | ⟨hk, hy'⟩
        · exact offersAt_ph _ _
        · refine offersAt_of_not_blocked ?_ _ _
          rcases (hL.old k y hk hy').status with e | e <;> rw [e] <;> simp
      have hrunT := crowd_recv_closed (sl := sl') (i := 0) hi (show stepG P (0 == 0) x (w.at d) = _ from hat.comm) hc1 hp
      refine Ends.step (hst.trans hrunT) ?_
      have hO := hT.seen (fn := (core x).frame.fn) (pos := (core x).frame.place)
      rw [finishComm_recv]
      have e0 : MemOp.ofEvents 0 x.frame.fn x.frame.place #[] = #[] := rfl
      rw [e0, Array.empty_append]
      exact hFin _ _ (hat.nil _ (Aside.refl c _)) d _ sl' _ q (by simp [hlt, recvd]) (hL.one rfl (fun op hop => by simp at hop; subst hop; simp)) hO
    · obtain ⟨a', w', es, hgo, hD, hg'⟩ := hstep _ hAs
      have hrunT := runT_crowd_go (P := P) (sl := sl') (i := 0) hi (show stepG P (0 == 0) x (w.at d) = _ from hgo)
      refine Ends.step (hst.trans hrunT) ?_
      have hsz : ((gs.map (woken P x a' w')).setIfInBounds 0 a').size = gs.size := by simp
      refine ih (n' + sumTo gs.size q) (by omega) n' a' _ w' sl' _ q s r tm pc (by rw [hsz]; exact Nat.le_refl _) (hD.2.1.trans hc1) hg' (by simp [hlt]) (hL.stepped rfl (dm_calm hD)) (hT.keep (hT.toTwo.own0 g_of_events (dm_calm hD) (dm_touch hD)) fun op hop hg => ?_)
      rw [g_of_events op hop] at hg
      exact absurd hg.symm hj0
  · obtain ⟨k, g', hrunT, hL', hsum⟩ := hL.slip (w := w.at d) (sl := sl') hi0 hi0 hi hx
    exact Ends.slip hst rfl hrunT (ih (n + sumTo ((gs.map (woken P x g' (w.at d))).setIfInBounds i g').size (upd q i k)) (by omega) n a _ (w.at d) sl' _ (upd q i k) s r tm pc (Nat.le_refl _) hc1 (Goes.rely aside_trans hA hAs) (after_slip (Ne.symm hi0) h0 (woken_running hra)) hL' hT)

theorem noways_recv {w : World} {gs : Array Goroutine} {s r : Nat} {tm : Bool} (hc : w.heap[c]? = some (.chan 0 #[] false s r tm)) (hp : partners gs c true = []) : ∀ cc ∈ (#[rcase c z] : Array CommCase), NoWays w gs cc := fun cc hcc => by
  simp at hcc
  subst hcc
  refine ⟨made_recv z hc, ?_⟩
  simp [ways, rcase, hc, hp]
theorem noways_send {w : World} {gs : Array Goroutine} {s r : Nat} {tm : Bool} {v z' : Value} (hc : w.heap[c]? = some (.chan 0 #[] false s r tm)) (hp : partners gs c false = []) : ∀ cc ∈ (#[scase c v z'] : Array CommCase), NoWays w gs cc := fun cc hcc => by
  simp at hcc
  subst hcc
  refine ⟨made_send v z' hc, ?_⟩
  simp [ways, scase, hc, hp]

theorem pair_ends {j : Nat} (hj0 : j ≠ 0) (hFin : ∀ g w, Fin g w → Goods P Post g w) (hSt : ∀ w w₁, Aside c w w₁ → S w → S w₁) : ∀ (vs : List Value) (M : Nat) (fresh : Bool) (a b : Goroutine) (gs : Array Goroutine) (w : World) (sl : Option (Nat × Nat)) (t : Trace) (q : Nat → Nat) (s : Nat) (tm : Bool) (ra rb : Nat),
    ra + rb + sumTo gs.size q ≤ M → 0 < ra + rb → S w → w.heap[c]? = some (.chan 0 #[] false s s tm) → SitM P c S Mine z Fin fresh vs ra a w → SitB P c S Mine vs rb b → gs[0]? = some a → gs[j]? = some b →
      Lv P (fun i => i = 0 ∨ i = j) t gs q → Two Mine fresh j t → Ends P Post gs w sl t := by
  intro vs
  induction vs with
  | nil =>
    intro M
    induction M using Nat.strongRecOn with
    | _ M ih =>
    intro fresh a b gs w sl t q s tm ra rb hM hpos hS hc hA hB h0 hj hL hT
    have sA := hA.status
    have sB := hB.status hS
    have haw := awake_lv hL fun i x hi hx => by
      rcases hi with rfl | rfl
      · rw [h0] at hx; cases hx; exact awake_of (by rcases sA with ⟨h, _⟩ | ⟨h, _⟩ <;> simp [h])
      · rw [hj] at hx; cases hx; exact awake_of (by rcases sB with ⟨h, _⟩ | ⟨h, _⟩ <;> simp [h])
    have some1 : ∃ (i : Nat) (g : Goroutine), gs[i]? = some g ∧ g.status = .running := by
      rcases sA with ⟨h, _⟩ | ⟨_, h1⟩
      · exact ⟨0, a, h0, h⟩
      · rcases sB with ⟨h, _⟩ | ⟨_, h2⟩
        · exact ⟨j, b, hj, h⟩
        · omega
    obtain ⟨i, x, d, sl', hi, hx, hst⟩ := crowd_pick (P := P) (w := w) (sl := sl) haw some1
    have hAs : Aside c w (w.at d) := Aside.at c w d
    have hS1 : S (w.at d) := hSt _ _ hAs hS
    have hc1 : (w.at d).heap[c]? = some (.chan 0 #[] false s s tm) := hc
    have hlt0 : 0 < gs.size := (Array.getElem?_eq_some_iff.1 h0).1
    have hltj : j < gs.size := (Array.getElem?_eq_some_iff.1 hj).1
    by_cases hi0 : i = 0
    · subst hi0
      obtain rfl : x = a := by rw [h0] at hi; exact (Option.some.inj hi).symm
      rcases hA with ⟨n, rfl, hg⟩ | ⟨_, g, rfl, _⟩
      · rcases hg.cases with hstop | ⟨n', rfl, hstep⟩
        · -- it waits
          have hat := hstop _ hAs
          rcases hB with ⟨k, rfl, hgb⟩ | ⟨_, v, vs', g₂, z', hv, _⟩
          · have hbs : b.status ≠ .blocked := by rw [hgb.running (fun _ _ => StopB.running) w hS]; simp
            have hp : partners (gs.setIfInBounds 0 ph) c true = [] := partners_nil fun k y hy => by
              rcases getElem?_stand gs 0 k y hy with ⟨_, rfl⟩ | ⟨hk, hy'⟩
              · exact offersAt_ph _ _
              · refine offersAt_of_not_blocked ?_ _ _
                by_cases hkj : k = j
                · subst hkj; rw [hj] at hy'; cases hy'; exact hbs
                · rcases (hL.old k y (by omega) hy').status with e | e <;> rw [e] <;> simp
            have hrunT := crowd_waits (sl := sl') (i := 0) hi (show stepG P (0 == 0) x (w.at d) = _ from hat.comm) (noways_recv hc1 hp)
            refine Ends.step (hst.trans hrunT) ?_
            have e0 : MemOp.ofEvents 0 x.frame.fn x.frame.place #[] = #[] := rfl
            have hsz : (gs.setIfInBounds 0 (parked (core x) #[rcase c z] (.recv true))).size = gs.size := by simp
            refine ih (0 + (k + 1) + sumTo gs.size q) (by omega) fresh _ b _ (w.at d) sl' _ q s tm 0 (k + 1) (by rw [hsz]; exact Nat.le_refl _) (by omega) hS1 hc1 (.inr ⟨rfl, x, rfl, fun w₁ h₁ => hstop w₁ (hAs.trans h₁)⟩) (.inl ⟨k, rfl, hgb⟩) (by simp [hlt0]) (by rw [Array.getElem?_setIfInBounds_ne (Ne.symm hj0)]; exact hj) (hL.one (.inl rfl) (by rw [e0]; intro op hop; simp at hop)) (by rw [e0, Array.append_empty]; exact hT)
          · cases hv
        · obtain ⟨a', w', es, hgo, hD, hg'⟩ := hstep _ hAs
          have hc' : w'.heap[c]? = some (.chan 0 #[] false s s tm) := hD.2.1.trans hc1
          have hrunT := runT_crowd_go (P := P) (sl := sl') (i := 0) hi (show stepG P (0 == 0) x (w.at d) = _ from hgo)
          refine Ends.step (hst.trans hrunT) ?_
          have hsz : ((gs.map (woken P x a' w')).setIfInBounds 0 a').size = gs.size := by simp
          exact ih ((n' + 1) + rb + sumTo gs.size q) (by omega) fresh a' b _ w' sl' _ q s tm (n' + 1) rb (by rw [hsz]; exact Nat.le_refl _) (by omega) (hD.1 hS1) hc' (.inl ⟨n', rfl, hg'⟩) hB (by simp [hlt0]) (after_slip hj0 hj (hB.woken hS hc')) (hL.stepped (.inl rfl) (dm_calm hD)) (hT.own0 g_of_events (dm_calm hD) (dm_touch hD))
      · simp [parked] at hx
    · by_cases hij : i = j
      · subst hij
        obtain rfl : x = b := by rw [hj] at hi; exact (Option.some.inj hi).symm
        have hb : (i == 0) = false := by simp; omega
        rcases hB with ⟨k, rfl, hgb⟩ | ⟨_, v, vs', g₂, z', hv, _⟩
        · rcases hgb.cases with hstop | ⟨k', rfl, hstep⟩
          · -- it closes the channel
            obtain ⟨_, hwake, g₂, es, nq, hclose, hes, hq⟩ := hstop _ hS1
            have hgo := hclose _ s s tm hS1 hc1
            have hw3 : Aside c (w.at d) ((w.at d).shut c s s tm) := Aside.put c _ _
            have hc2 : ((w.at d).shut c s s tm).heap[c]? = some (.chan 0 #[] true s s tm) := heap_put hc1
            have hrunT := runT_crowd_go (P := P) (sl := sl') (i := i) hi (by rw [hb]; exact hgo)
            have hwk : ∀ o, woken P x g₂ ((w.at d).shut c s s tm) o = o.again ((w.at d).shut c s s tm) := by
              intro o; unfold Go.Conc.woken; rcases hq.status with h | h <;> simp [hwake, h]
            have hA' : ∃ n, Goes P true (Aside c) (Dm c S Mine fresh) (StopM P c S Mine z Fin []) n (a.again ((w.at d).shut c s s tm)) ((w.at d).shut c s s tm) := by
              rcases hA with ⟨n, _, hg⟩ | ⟨_, g, rfl, hs⟩
              · rw [again_running _ (.inl (hg.running (fun _ _ => StopM.running) w (Aside.refl c w)))]
                exact ⟨n, Goes.rely aside_trans hg (hAs.trans hw3)⟩
              · rw [again_parked_shut rfl hc2]
                exact ⟨0, fun w₁ h₁ => (hs w₁ ((hAs.trans hw3).trans h₁)).again⟩
            obtain ⟨na, hna⟩ := hA'
            refine Ends.step (hst.trans hrunT) ?_
            rw [ofEvents_push, ← Array.push_append]
            have hec : CalmOps (MemOp.ofEvents i x.frame.fn x.frame.place es) := calmOps_of fun e he => (evB_calm (hes e he)).1
            have hT1 := hT.ownJ (u := MemOp.ofEvents i x.frame.fn x.frame.place es) g_of_events hec (.inr (evB_touch hes))
            have hT2 := Shut.of hT1 (c := c) (fn := x.frame.fn) (pos := x.frame.place)
            have eact : MemAct.ofEvent ⟨.obj c, true, true⟩ = .close c := rfl
            have hL2 : Lv P (· = 0) ((t ++ MemOp.ofEvents i x.frame.fn x.frame.place es).push { g := i, fn := x.frame.fn, pos := x.frame.place, act := MemAct.ofEvent ⟨.obj c, true, true⟩ }) ((gs.map (woken P x g₂ ((w.at d).shut c s s tm))).setIfInBounds i g₂) (upd q i nq) := by
              refine ⟨fun k y hk hy => ?_, fun k => ?_⟩
              · by_cases hki : i = k
                · subst hki
                  rw [Array.getElem?_setIfInBounds_self_of_lt (by simpa using hltj)] at hy
                  obtain rfl := Option.some.inj hy
                  rw [upd_same]; exact hq
                · rw [Array.getElem?_setIfInBounds_ne hki, Array.getElem?_map] at hy
                  obtain ⟨y', hy', rfl⟩ := Option.map_eq_some_iff.1 hy
                  have hqk := hL.old k y' (by omega) hy'
                  rw [woken_quits hqk, upd_ne q nq (Ne.symm hki)]
                  exact hqk
              · rw [Array.push_eq_append, eact]
                exact Lv.hear ⟨hL.old, hL.hear hec⟩ (fun op hop => by simp at hop; subst hop; simp) k
            refine shut_ends hj0 hFin _ na _ _ _ sl' _ _ s s tm _ (Nat.le_refl _) hc2 hna ?_ hL2 (by rw [Array.push_eq_append]; exact hT2)
            rw [Array.getElem?_setIfInBounds_ne hi0, Array.getElem?_map, h0]
            simp [hwk]
          · obtain ⟨b', w', es, hgo, ⟨rfl, hes⟩, hg'⟩ := hstep _ hS1
            have hec : CalmOps (MemOp.ofEvents i x.frame.fn x.frame.place es) := calmOps_of fun e he => (evB_calm (hes e he)).1
            have hrunT := runT_crowd_go (P := P) (sl := sl') (i := i) hi (by rw [hb]; exact hgo)
            refine Ends.step (hst.trans hrunT) ?_
            have hsz : ((gs.map (woken P x b' (w.at d))).setIfInBounds i b').size = gs.size := by simp
            exact ih (ra + (k' + 1) + sumTo gs.size q) (by omega) fresh a b' _ (w.at d) sl' _ q s tm ra (k' + 1) (by rw [hsz]; exact Nat.le_refl _) (by omega) hS1 hc1 (hA.rely hAs) (.inl ⟨k', rfl, hg'.anyWorld default⟩) (after_slip (Ne.symm hi0) h0 (hA.woken hc1)) (by simp [hltj]) (hL.stepped (.inr rfl) hec) (hT.ownJ g_of_events hec (.inr (evB_touch hes)))
        · cases hv
      · obtain ⟨k, g', hrunT, hL', hsum⟩ := hL.slip (w := w.at d) (sl := sl') (by omega) hi0 hi hx
        exact Ends.slip hst rfl hrunT (ih (ra + rb + sumTo ((gs.map (woken P x g' (w.at d))).setIfInBounds i g').size (upd q i k)) (by omega) fresh a b _ (w.at d) sl' _ (upd q i k) s tm ra rb (Nat.le_refl _) hpos hS1 hc1 (hA.rely hAs) hB
          (after_slip (Ne.symm hi0) h0 (hA.woken hc1)) (after_slip (Ne.symm hij) hj (hB.woken hS hc1)) hL' hT)
  | cons v vs ihv =>
    intro M
    induction M using Nat.strongRecOn with
    | _ M ih =>
    intro fresh a b gs w sl t q s tm ra rb hM hpos hS hc hA hB h0 hj hL hT
    have sA := hA.status
    have sB := hB.status hS
    have haw := awake_lv hL fun i x hi hx => by
      rcases hi with rfl | rfl
      · rw [h0] at hx; cases hx; exact awake_of (by rcases sA with ⟨h, _⟩ | ⟨h, _⟩ <;> simp [h])
      · rw [hj] at hx; cases hx; exact awake_of (by rcases sB with ⟨h, _⟩ | ⟨h, _⟩ <;> simp [h])
    have some1 : ∃ (i : Nat) (g : Goroutine), gs[i]? = some g ∧ g.status = .running := by
      rcases sA with ⟨h, _⟩ | ⟨_, h1⟩
      · exact ⟨0, a, h0, h⟩
      · rcases sB with ⟨h, _⟩ | ⟨_, h2⟩
        · exact ⟨j, b, hj, h⟩
        · omega
    obtain ⟨i, x, d, sl', hi, hx, hst⟩ := crowd_pick (P := P) (w := w) (sl := sl) haw some1
    have hAs : Aside c w (w.at d) := Aside.at c w d
    have hS1 : S (w.at d) := hSt _ _ hAs hS
    have hc1 : (w.at d).heap[c]? = some (.chan 0 #[] false s s tm) := hc
    have hlt0 : 0 < gs.size := (Array.getElem?_eq_some_iff.1 h0).1
    have hltj : j < gs.size := (Array.getElem?_eq_some_iff.1 hj).1
    by_cases hi0 : i = 0
    · subst hi0
      obtain rfl : x = a := by rw [h0] at hi; exact (Option.some.inj hi).symm
      rcases hA with ⟨n, rfl, hg⟩ | ⟨_, g, rfl, _⟩
      · rcases hg.cases with hstop | ⟨n', rfl, hstep⟩
        · -- it waits
          have hat := hstop _ hAs
          rcases hB with ⟨k, rfl, hgb⟩ | ⟨rfl, v', vs', g₂, z', hv, rfl, hnext⟩
          · have hbs : b.status ≠ .blocked := by rw [hgb.running (fun _ _ => StopB.running) w hS]; simp
            have hp : partners (gs.setIfInBounds 0 ph) c true = [] := partners_nil fun k y hy => by
              rcases getElem?_stand gs 0 k y hy with ⟨_, rfl⟩ | ⟨hk, hy'⟩
              · exact offersAt_ph _ _
              · refine offersAt_of_not_blocked ?_ _ _
                by_cases hkj : k = j
                · subst hkj; rw [hj] at hy'; cases hy'; exact hbs
                · rcases (hL.old k y (by omega) hy').status with e | e <;> rw [e] <;> simp
            have hrunT := crowd_waits (sl := sl') (i := 0) hi (show stepG P (0 == 0) x (w.at d) = _ from hat.comm) (noways_recv hc1 hp)
            refine Ends.step (hst.trans hrunT) ?_
            have e0 : MemOp.ofEvents 0 x.frame.fn x.frame.place #[] = #[] := rfl
            have hsz : (gs.setIfInBounds 0 (parked (core x) #[rcase c z] (.recv true))).size = gs.size := by simp
            refine ih (0 + (k + 1) + sumTo gs.size q) (by omega) fresh _ b _ (w.at d) sl' _ q s tm 0 (k + 1) (by rw [hsz]; exact Nat.le_refl _) (by omega) hS1 hc1 (.inr ⟨rfl, x, rfl, fun w₁ h₁ => hstop w₁ (hAs.trans h₁)⟩) (.inl ⟨k, rfl, hgb⟩) (by simp [hlt0]) (by rw [Array.getElem?_setIfInBounds_ne (Ne.symm hj0)]; exact hj) (hL.one (.inl rfl) (by rw [e0]; intro op hop; simp at hop)) (by rw [e0, Array.append_empty]; exact hT)
          · injection hv with hv1 hv2
            subst hv1
            subst hv2
            have hp : partners (gs.setIfInBounds 0 ph) c true = [(j, 0)] := by
              rw [partners_one (stand_get hj0 hj) fun k y hk hy => ?_]
              · rw [offersAt_parked_send]; simp
              · rcases getElem?_stand gs 0 k y hy with ⟨_, rfl⟩ | ⟨hk0, hy'⟩
                · exact offersAt_ph _ _
                · refine offersAt_of_not_blocked ?_ _ _
                  rcases (hL.old k y (by omega) hy').status with e | e <;> rw [e] <;> simp
            have hrunT := crowd_recv_meets (sl := sl') (i := 0) hi (show stepG P (0 == 0) x (w.at d) = _ from hat.comm) hc1 hj0 hj hp
            have hw2 : Aside c (w.at d) ((w.at d).setChan c 0 #[] false (s + 1) (s + 1) tm) := aside_setChan
            obtain ⟨na, hna⟩ := (serv_iff P c S Mine z Fin vs _ _).1 (hat.cons _ hw2)
            obtain ⟨nb, hnb⟩ := (sends_iff P c S Mine vs _).1 hnext
            refine Ends.step (hst.trans hrunT) ?_
            rw [finishComm_send, finishComm_recv]
            have e0 : MemOp.ofEvents 0 x.frame.fn x.frame.place #[] = #[] := rfl
            rw [e0, Array.empty_append]
            refine ihv _ false _ _ _ _ sl' _ q (s + 1) tm (na + 1) (nb + 1) (Nat.le_refl _) (by omega) (hSt _ _ hw2 hS1) (heap_chan hc1) (.inl ⟨na, rfl, hna⟩) (.inl ⟨nb, rfl, hnb⟩) (by simp [hlt0, recvd]) ?_ (hL.two (.inl rfl) (.inr rfl) (fun op hop => by simp at hop; rcases hop with rfl | rfl | rfl | rfl <;> simp)) hT.handed
            rw [Array.getElem?_setIfInBounds_ne (Ne.symm hj0)]
            simp [hltj]
        · obtain ⟨a', w', es, hgo, hD, hg'⟩ := hstep _ hAs
          have hc' : w'.heap[c]? = some (.chan 0 #[] false s s tm) := hD.2.1.trans hc1
          have hrunT := runT_crowd_go (P := P) (sl := sl') (i := 0) hi (show stepG P (0 == 0) x (w.at d) = _ from hgo)
          refine Ends.step (hst.trans hrunT) ?_
          have hsz : ((gs.map (woken P x a' w')).setIfInBounds 0 a').size = gs.size := by simp
          exact ih ((n' + 1) + rb + sumTo gs.size q) (by omega) fresh a' b _ w' sl' _ q s tm (n' + 1) rb (by rw [hsz]; exact Nat.le_refl _) (by omega) (hD.1 hS1) hc' (.inl ⟨n', rfl, hg'⟩) hB (by simp [hlt0]) (after_slip hj0 hj (hB.woken hS hc')) (hL.stepped (.inl rfl) (dm_calm hD)) (hT.own0 g_of_events (dm_calm hD) (dm_touch hD))
      · simp [parked] at hx
    · by_cases hij : i = j
      · subst hij
        obtain rfl : x = b := by rw [hj] at hi; exact (Option.some.inj hi).symm
        have hb : (i == 0) = false := by simp; omega
        rcases hB with ⟨k, rfl, hgb⟩ | ⟨_, v', vs', g₂, z', hv, rfl, _⟩
        · rcases hgb.cases with hstop | ⟨k', rfl, hstep⟩
          · -- it sends
            obtain ⟨_, g₂, z', es, hcomm, hes, hnext⟩ := hstop _ hS1
            have hcm := hcomm _ hS1
            have hec : CalmOps (MemOp.ofEvents i x.frame.fn x.frame.place es) := calmOps_of fun e he => (evB_calm (hes e he)).1
            have hT1 := hT.ownJ (u := MemOp.ofEvents i x.frame.fn x.frame.place es) g_of_events hec (.inr (evB_touch hes))
            rcases hA with ⟨n, rfl, hg⟩ | ⟨rfl, g, rfl, hs⟩
            · have has : a.status ≠ .blocked := by rw [hg.running (fun _ _ => StopM.running) w (Aside.refl c w)]; simp
              have hp : partners (gs.setIfInBounds i ph) c false = [] := partners_nil fun k y hy => by
                rcases getElem?_stand gs i k y hy with ⟨_, rfl⟩ | ⟨hk, hy'⟩
                · exact offersAt_ph _ _
                · refine offersAt_of_not_blocked ?_ _ _
                  by_cases hk0 : k = 0
                  · subst hk0; rw [h0] at hy'; cases hy'; exact has
                  · rcases (hL.old k y (by omega) hy').status with e | e <;> rw [e] <;> simp
              have hrunT := crowd_waits (sl := sl') (i := i) hi (by rw [hb]; exact hcm) (noways_send hc1 hp)
              refine Ends.step (hst.trans hrunT) ?_
              have hsz : (gs.setIfInBounds i (parked g₂ #[scase c v z'] .send)).size = gs.size := by simp
              exact ih ((n + 1) + 0 + sumTo gs.size q) (by omega) fresh a _ _ (w.at d) sl' _ q s tm (n + 1) 0 (by rw [hsz]; exact Nat.le_refl _) (by omega) hS1 hc1 (.inl ⟨n, rfl, Goes.rely aside_trans hg hAs⟩) (.inr ⟨rfl, v, vs, g₂, z', rfl, rfl, hnext⟩) (by rw [Array.getElem?_setIfInBounds_ne hi0]; exact h0) (by simp [hltj]) (hL.one (.inr rfl) hec) hT1
            · have hp : partners (gs.setIfInBounds i ph) c false = [(0, 0)] := by
                rw [partners_one (stand_get (Ne.symm hi0) h0) fun k y hk hy => ?_]
                · rw [offersAt_parked_recv]; simp
                · rcases getElem?_stand gs i k y hy with ⟨_, rfl⟩ | ⟨hk0, hy'⟩
                  · exact offersAt_ph _ _
                  · refine offersAt_of_not_blocked ?_ _ _
                    rcases (hL.old k y (by omega) hy').status with e | e <;> rw [e] <;> simp
              have hrunT := crowd_send_meets (sl := sl') (i := i) hi (by rw [hb]; exact hcm) hc1 (Ne.symm hi0) h0 hp
              have hw2 : Aside c (w.at d) ((w.at d).setChan c 0 #[] false (s + 1) (s + 1) tm) := aside_setChan
              obtain ⟨na, hna⟩ := (serv_iff P c S Mine z Fin vs _ _).1 ((hs _ hAs).cons _ hw2)
              obtain ⟨nb, hnb⟩ := (sends_iff P c S Mine vs _).1 hnext
              refine Ends.step (hst.trans hrunT) ?_
              rw [finishComm_send, finishComm_recv, ← Array.append_assoc]
              refine ihv _ false _ _ _ _ sl' _ q (s + 1) tm (na + 1) (nb + 1) (Nat.le_refl _) (by omega) (hSt _ _ hw2 hS1) (heap_chan hc1) (.inl ⟨na, rfl, hna⟩) (.inl ⟨nb, rfl, hnb⟩) ?_ (by simp [hltj]) (Lv.two ⟨hL.old, hL.hear hec⟩ (.inr rfl) (.inl rfl) (fun op hop => by simp at hop; rcases hop with rfl | rfl | rfl | rfl <;> simp)) hT1.handed
              rw [Array.getElem?_setIfInBounds_ne hi0]
              simp [hlt0, recvd]
          · obtain ⟨b', w', es, hgo, ⟨rfl, hes⟩, hg'⟩ := hstep _ hS1
            have hec : CalmOps (MemOp.ofEvents i x.frame.fn x.frame.place es) := calmOps_of fun e he => (evB_calm (hes e he)).1
            have hrunT := runT_crowd_go (P := P) (sl := sl') (i := i) hi (by rw [hb]; exact hgo)
            refine Ends.step (hst.trans hrunT) ?_
            have hsz : ((gs.map (woken P x b' (w.at d))).setIfInBounds i b').size = gs.size := by simp
            exact ih (ra + (k' + 1) + sumTo gs.size q) (by omega) fresh a b' _ (w.at d) sl' _ q s tm ra (k' + 1) (by rw [hsz]; exact Nat.le_refl _) (by omega) hS1 hc1 (hA.rely hAs) (.inl ⟨k', rfl, hg'.anyWorld default⟩) (after_slip (Ne.symm hi0) h0 (hA.woken hc1)) (by simp [hltj]) (hL.stepped (.inr rfl) hec) (hT.ownJ g_of_events hec (.inr (evB_touch hes)))
        · simp [parked] at hx
      · obtain ⟨k, g', hrunT, hL', hsum⟩ := hL.slip (w := w.at d) (sl := sl') (by omega) hi0 hi hx
        exact Ends.slip hst rfl hrunT (ih (ra + rb + sumTo ((gs.map (woken P x g' (w.at d))).setIfInBounds i g').size (upd q i k)) (by omega) fresh a b _ (w.at d) sl' _ (upd q i k) s tm ra rb (Nat.le_refl _) hpos hS1 hc1 (hA.rely hAs) hB
          (after_slip (Ne.symm hi0) h0 (hA.woken hc1)) (after_slip (Ne.symm hij) hj (hB.woken hS hc1)) hL' hT)
end
end Go.GL
namespace Go.GL
open Go.Conc
open Go.ConcN (sumTo upd sumTo_upd upd_ne upd_same)

def Route (P : Program) (n : Nat) (a gr : Goroutine) : Prop := Goes P true (fun _ _ => True) (fun w w' es => w' = w ∧ es = #[]) (fun g _ => g = gr) n a default
def AtR0 (P : Program) (c : Nat) (z : Value) (gr : Goroutine) : Prop := gr.status = .running ∧ ∀ w, stepG P true gr w = .comm (core gr) #[rcase c z] true (.recv true) w #[]

theorem Route.stop {P : Program} {a : Goroutine} : Route P 0 a a := fun _ _ => rfl
theorem Route.step {P : Program} {n : Nat} {a a' gr : Goroutine} (hs : a.status = .running) (h : ∀ w, stepG P true a w = .go a' w #[]) (hr : Route P n a' gr) : Route P (n + 1) a gr :=
  Goes.step hs fun w _ => by rw [h w]; exact ⟨⟨rfl, rfl⟩, Goes.anyWorld (S := fun _ => True) w hr⟩
theorem Route.step' {P : Program} {n : Nat} {a a' gr : Goroutine} (hs : a.status = .running) (h : ∀ w, stepG P true a w = .go a' w) (hr : Route P n a' gr) : Route P (n + 1) a gr := Route.step hs h hr

def ExitOK (P : Program) (K : Goroutine → World → Prop) (c : Nat) (z : Value) (gr gc : Goroutine) (w : World) : Prop :=
  ∃ (S : World → Prop) (Mine : Loc → Prop) (vs : List Value), S w ∧ (∀ w w', Aside c w w' → S w → S w') ∧ Sends P c S Mine vs gc ∧ ∀ w', Aside c w w' → StopM P c S Mine z K vs gr w'

def ForkOK (P : Program) (K : Goroutine → World → Prop) (g : Goroutine) (w : World) : Prop :=
  g.status = .running ∧ ∃ (a child : Goroutine) (c : Nat) (z : Value) (gr : Goroutine) (n : Nat) (I : World → Prop),
    (∀ d, stepG P true g (w.at d) = .spawn a child (w.at d) #[]) ∧ Route P n a gr ∧ AtR0 P c z gr ∧ I w ∧ (∀ w d, I w → I (w.at d)) ∧ (∀ w', I w' → ∃ tm, w'.heap[c]? = some (.chan 0 #[] false 0 0 tm)) ∧
    ∀ KA, Steady P false I KA → (∀ gc w₁, ExitOK P K c z gr gc w₁ → KA gc w₁) → KA child w

section
variable {P : Program} {Post : Value → World → Prop} {c : Nat} {S : World → Prop} {Mine : Loc → Prop} {z : Value} {Fin : Goroutine → World → Prop}

theorem Two.any {Mine Mine' : Loc → Prop} {j : Nat} {t : Trace} (h : Two Mine true j t) : Two Mine' true j t :=
  ⟨h.clean, h.d0, h.dj, fun i a ha hm => (h.k0 i a ha hm).imp id fun x => ⟨x.1, .inl rfl⟩, fun i a ha hm => (h.kj i a ha hm).imp id fun x => by cases x.1⟩

theorem route_goes {vs : List Value} {gr : Goroutine} : ∀ {n : Nat} {a : Goroutine} {w w0 : World}, Goes P true (fun _ _ => True) (fun w w' es => w' = w ∧ es = #[]) (fun g _ => g = gr) n a w0 → (∀ w', Aside c w w' → StopM P c S Mine z Fin vs gr w') →
    Goes P true (Aside c) (Dm c S Mine true) (StopM P c S Mine z Fin vs) n a w
  | 0, a, w, w0, h, hs => fun w₁ h₁ => by rw [h w0 trivial]; exact hs w₁ h₁
  | n + 1, a, w, w0, h, hs => by
    rcases h with h | ⟨hr, h⟩
    · exact .inl fun w₁ h₁ => by rw [h w0 trivial]; exact hs w₁ h₁
    · refine .inr ⟨hr, fun w₁ h₁ => ?_⟩
      have := h w₁ trivial
      revert this
      cases stepG P true a w₁ with
      | go g' w' es =>
        simp only [goes_go]
        rintro ⟨⟨rfl, rfl⟩, hg⟩
        exact ⟨⟨id, rfl, fun e he => by simp at he, fun _ => rfl⟩, route_goes hg fun w₂ h₂ => hs w₂ (h₁.trans h₂)⟩
      | _ => exact fun x => x.elim

def OnRoute (P : Program) (c : Nat) (z : Value) (gr : Goroutine) (ra : Nat) (a : Goroutine) : Prop := (∃ n, ra = n + 1 ∧ Route P n a gr) ∨ (ra = 0 ∧ a = parked (core gr) #[rcase c z] (.recv true))
theorem OnRoute.status {gr a : Goroutine} {ra : Nat} (h0 : AtR0 P c z gr) (h : OnRoute P c z gr ra a) : (a.status = .running ∧ 0 < ra) ∨ (a.status = .blocked ∧ ra = 0) := by
  rcases h with ⟨n, e, hg⟩ | ⟨e, rfl⟩
  · exact .inl ⟨hg.running (fun g _ e => by rw [e]; exact h0.1) default trivial, by omega⟩
  · exact .inr ⟨rfl, e⟩
theorem OnRoute.woken {gr a g g' : Goroutine} {ra : Nat} {w' : World} {s r : Nat} {tm : Bool} (h0 : AtR0 P c z gr) (h : OnRoute P c z gr ra a) (hc : w'.heap[c]? = some (.chan 0 #[] false s r tm)) : woken P g g' w' a = a := by
  unfold Go.Conc.woken
  split
  · rcases h with ⟨n, e, hg⟩ | ⟨e, rfl⟩
    · exact again_running _ (.inl (hg.running (fun g _ e => by rw [e]; exact h0.1) default trivial))
    · exact again_parked_open rfl hc
  · rfl

def Works (P : Program) (Post : Value → World → Prop) (c : Nat) (z : Value) (gr : Goroutine) (I : World → Prop) (j : Nat) (g : Goroutine) (w : World) : Prop :=
  ∀ (d : Nat) (gs : Array Goroutine) (sl : Option (Nat × Nat)) (t : Trace) (q : Nat → Nat) (ra : Nat) (a : Goroutine), gs[0]? = some a → OnRoute P c z gr ra a → gs[j]? = some g → Lv P (fun i => i = 0 ∨ i = j) t gs q → Two (fun _ => False) true j t → I (w.at d) → Ends P Post gs (w.at d) sl t

theorem works_steady {gr : Goroutine} {I : World → Prop} {j : Nat} (hj0 : j ≠ 0) (hg0 : AtR0 P c z gr) (hI : ∀ w', I w' → ∃ tm, w'.heap[c]? = some (.chan 0 #[] false 0 0 tm)) (hId : ∀ w d, I w → I (w.at d)) : Steady P false I (Works P Post c z gr I j) := by
  refine ⟨fun g w d h d' => h d', fun g w hrun h d gs sl t q ra a h0 hR hj hL hT hIw => ?_⟩
  generalize hM : ra + sumTo gs.size q = M
  induction M using Nat.strongRecOn generalizing d gs sl t q ra a with
  | _ M ih =>
    have sA := hR.status hg0
    have haw := awake_lv hL fun i x hi hx => by
      rcases hi with rfl | rfl
      · rw [h0] at hx; cases hx; exact awake_of (by rcases sA with ⟨h, _⟩ | ⟨h, _⟩ <;> simp [h])
      · rw [hj] at hx; cases hx; exact awake_of (.inl hrun)
    obtain ⟨i, x, d', sl', hi, hx, hst⟩ := crowd_pick (P := P) (w := w.at d) (sl := sl) haw ⟨j, g, hj, hrun⟩
    have hI1 : I (w.at d') := hId (w.at d) d' hIw
    obtain ⟨tm, hc1⟩ := hI _ hI1
    have hlt0 : 0 < gs.size := (Array.getElem?_eq_some_iff.1 h0).1
    have hltj : j < gs.size := (Array.getElem?_eq_some_iff.1 hj).1
    by_cases hi0 : i = 0
    · subst hi0
      obtain rfl : x = a := by rw [h0] at hi; exact (Option.some.inj hi).symm
      rcases hR with ⟨n, rfl, hg⟩ | ⟨_, rfl⟩
      · rcases hg.cases with hstop | ⟨n', rfl, hstep⟩
        · obtain rfl := hstop default trivial
          have hp : partners (gs.setIfInBounds 0 ph) c true = [] := partners_nil fun k y hy => by
            rcases getElem?_stand gs 0 k y hy with ⟨_, rfl⟩ | ⟨hk, hy'⟩
            · exact offersAt_ph _ _
            · refine offersAt_of_not_blocked ?_ _ _
              by_cases hkj : k = j
              · subst hkj; rw [hj] at hy'; cases hy'; rw [hrun]; simp
              · rcases (hL.old k y (by omega) hy').status with e | e <;> rw [e] <;> simp
          have hrunT := crowd_waits (sl := sl') (i := 0) hi (show stepG P (0 == 0) x ((w.at d).at d') = _ from hg0.2 _) (noways_recv hc1 hp)
          refine Ends.step (hst.trans hrunT) ?_
          have e0 : MemOp.ofEvents 0 x.frame.fn x.frame.place #[] = #[] := rfl
          have hsz : (gs.setIfInBounds 0 (parked (core x) #[rcase c z] (.recv true))).size = gs.size := by simp
          exact ih (0 + sumTo gs.size q) (by omega) d' _ sl' _ q 0 _ (by simp [hlt0]) (.inr ⟨rfl, rfl⟩) (by rw [Array.getElem?_setIfInBounds_ne (Ne.symm hj0)]; exact hj) (hL.one (.inl rfl) (by rw [e0]; intro op hop; simp at hop)) (by rw [e0, Array.append_empty]; exact hT) hI1 (by rw [hsz])
        · obtain ⟨a', w', es, hgo, ⟨rfl, rfl⟩, hg'⟩ := hstep ((w.at d).at d') trivial
          have hrunT := runT_crowd_go (P := P) (sl := sl') (i := 0) hi (show stepG P (0 == 0) x ((w.at d).at d') = _ from hgo)
          refine Ends.step (hst.trans hrunT) ?_
          have e0 : MemOp.ofEvents 0 x.frame.fn x.frame.place #[] = #[] := rfl
          have hsz : ((gs.map (woken P x a' ((w.at d).at d'))).setIfInBounds 0 a').size = gs.size := by simp
          exact ih ((n' + 1) + sumTo gs.size q) (by omega) d' _ sl' _ q (n' + 1) a' (by simp [hlt0]) (.inl ⟨n', rfl, Goes.anyWorld (S := fun _ => True) default hg'⟩) (after_slip hj0 hj (woken_running hrun)) (hL.stepped (.inl rfl) (by rw [e0]; intro op hop; simp at hop)) (by rw [e0, Array.append_empty]; exact hT) hI1 (by rw [hsz])
      · simp [parked] at hx
    · by_cases hij : i = j
      · subst hij
        obtain rfl : x = g := by rw [hj] at hi; exact (Option.some.inj hi).symm
        have hb : (i == 0) = false := by simp; omega
        have hs := h d'
        cases hgo : stepG P false x (w.at d') with
        | go g' w' es =>
          rw [hgo, goes_go] at hs
          obtain ⟨hc, hi2, hK⟩ := hs
          have hI2 := hi2 hI1
          obtain ⟨tm', hc2⟩ := hI _ hI2
          have hrunT := runT_crowd_go (P := P) (sl := sl') (i := i) hi (by rw [hb]; exact hgo)
          refine Ends.step (hst.trans hrunT) ?_
          exact hK w'.drawn _ sl' _ q ra a (after_slip (Ne.symm hi0) h0 (hR.woken hg0 hc2)) hR (by simp [hltj]) (hL.stepped (.inr rfl) (calm_ops hc)) (hT.ownJ g_of_events (calm_ops hc) (.inl rfl)) hI2
        | _ => rw [hgo] at hs; exact hs.elim
      · obtain ⟨k, g', hrunT, hL', hsum⟩ := hL.slip (w := (w.at d).at d') (sl := sl') (by omega) hi0 hi hx
        exact Ends.slip hst rfl hrunT (ih _ (by omega) d' _ sl' _ (upd q i k) ra a (after_slip (Ne.symm hi0) h0 (hR.woken hg0 hc1)) hR (after_slip (Ne.symm hij) hj (woken_running hrun)) hL' hT hI1 rfl)

theorem works_exit {gr gc : Goroutine} {I : World → Prop} {j : Nat} {w : World} (hj0 : j ≠ 0) (hg0 : AtR0 P c z gr) (hI : ∀ w', I w' → ∃ tm, w'.heap[c]? = some (.chan 0 #[] false 0 0 tm)) (h : ExitOK P (Goods P Post) c z gr gc w) : Works P Post c z gr I j gc w := by
  obtain ⟨S, Mine, vs, hS, hSt, hB, hM⟩ := h
  intro d gs sl t q ra a h0 hR hj hL hT hIw
  obtain ⟨tm, hc⟩ := hI _ hIw
  have hAs : Aside c w (w.at d) := Aside.at c w d
  obtain ⟨nb, hnb⟩ := (sends_iff P c S Mine vs _).1 hB
  have hsit : SitM P c S Mine z (Goods P Post) true vs ra a (w.at d) := by
    rcases hR with ⟨n, rfl, hg⟩ | ⟨rfl, rfl⟩
    · exact .inl ⟨n, rfl, route_goes hg fun w' h' => hM w' (hAs.trans h')⟩
    · exact .inr ⟨rfl, gr, rfl, fun w' h' => hM w' (hAs.trans h')⟩
  exact pair_ends hj0 (fun _ _ h => h) hSt vs _ true a gc gs (w.at d) sl t q 0 tm ra (nb + 1) (Nat.le_refl _) (by omega) (hSt _ _ hAs hS) hc hsit (.inl ⟨nb, rfl, hnb⟩) h0 hj hL hT.any

theorem goods_fork {g : Goroutine} {w : World} (h : ForkOK P (Goods P Post) g w) : Goods P Post g w := by
  obtain ⟨hrun, a, child, c, z, gr, n, I, hsp, hR, hg0, hIw, hId, hI, hKA⟩ := h
  intro d gs sl t q h0 hL hO
  generalize hM : sumTo gs.size q = M
  induction M using Nat.strongRecOn generalizing d gs sl t q with
  | _ M ih =>
    have haw := awake_lv hL fun i x hi hx => by subst hi; rw [h0] at hx; cases hx; exact awake_of (.inl hrun)
    obtain ⟨i, x, d', sl', hi, hx, hst⟩ := crowd_pick (P := P) (w := w.at d) (sl := sl) haw ⟨0, g, h0, hrun⟩
    have hlt0 : 0 < gs.size := (Array.getElem?_eq_some_iff.1 h0).1
    by_cases hi0 : i = 0
    · subst hi0
      obtain rfl : x = g := by rw [h0] at hi; exact (Option.some.inj hi).symm
      have hrunT := runT_crowd_spawn (P := P) (sl := sl') (i := 0) hi (show stepG P (0 == 0) x ((w.at d).at d') = _ from hsp d')
      refine Ends.step (hst.trans hrunT) ?_
      have hj0 : gs.size ≠ 0 := by omega
      have hW := hKA (Works P Post c z gr I gs.size) (works_steady hj0 hg0 hI hId) (fun gc w₁ hx => works_exit hj0 hg0 hI hx)
      have e0 : ((MemOp.ofEvents 0 x.frame.fn x.frame.place #[]).push { g := 0, fn := x.frame.fn, pos := x.frame.place, act := .go gs.size }).push { g := gs.size, fn := child.frame.fn, pos := x.frame.place, act := .start } = #[{ g := 0, fn := x.frame.fn, pos := x.frame.place, act := .go gs.size }, { g := gs.size, fn := child.frame.fn, pos := x.frame.place, act := .start }] := rfl
      rw [e0]
      refine hW d' _ sl' _ q (n + 1) a ?_ (.inl ⟨n, rfl, hR⟩) ?_ ⟨fun k y hk hy => ?_, hL.hear (fun op hop => by simp at hop; rcases hop with rfl | rfl <;> simp)⟩ (hO.spawn hj0 (hL.deaf _)) (hId _ _ hIw)
      · rw [Array.getElem?_push]
        simp [hlt0]
        omega
      · rw [Array.getElem?_push]
        simp
      · rw [Array.getElem?_push] at hy
        simp at hy
        split at hy
        · omega
        · rw [Array.getElem?_setIfInBounds_ne (by omega)] at hy
          exact hL.old k y (by omega) hy
    · obtain ⟨k, g', hrunT, hL', hsum⟩ := hL.slip (w := (w.at d).at d') (sl := sl') hi0 hi0 hi hx
      exact Ends.slip hst rfl hrunT (ih _ (by omega) d' _ sl' _ _ (after_slip (Ne.symm hi0) h0 (woken_running hrun)) hL' hO rfl)
end
section
variable {P : Program} {a : Act} {w : World}
theorem calm_listed {fn : FuncId} {o : Oper} (h : CalmA ((execOp a.eval o).events P w #[])) : CalmA (listed P fn a o w) := fun e he => h e (mem_seen he)

theorem calm_mapM {α β : Type} {f : α → Sem β} (hf : ∀ x, Calm P (f x)) (xs : Array α) : Calm P (xs.mapM f) := by
  rw [Array.mapM_eq_foldlM_push, ← Array.foldlM_toList]
  generalize (#[] : Array β) = acc
  induction xs.toList generalizing acc with
  | nil => exact Calm.pure
  | cons x l ih =>
    simp only [List.foldlM_cons]
    exact Calm.bind (Calm.bind (hf x) fun _ => Calm.pure) fun _ => ih _
theorem calm_results {fn : Func} {tmps : Array Value} : Calm P (results fn tmps) := by
  unfold results
  refine Calm.bind (calm_mapM (fun x => ?_) _) fun _ => Calm.pure
  cases x with
  | tmp t => exact Calm.pure
  | cell a t => exact Calm.bind calm_asAddr fun _ => calm_loadVar

end
end Go.GL
namespace Go.GL
open Go.RowKit Go.Conc

class MainFlag where
  main : Bool
variable [MainFlag]
structure Closed (P : Program) (main : Bool) (I : World → Prop) (K : Goroutine → World → Prop) : Prop extends Steady P main I K where
  flag : main = MainFlag.main
  fork : main = true → ∀ g w, ForkOK P K g w → K g w
theorem goods_closed {P : Program} {Post : Value → World → Prop} (I : World → Prop) (hm : MainFlag.main = true) : Closed P true I (Goods P Post) := ⟨goods_steady I, hm.symm, fun _ _ _ h => goods_fork h⟩
theorem Steady.closed {P : Program} {I : World → Prop} {K : Goroutine → World → Prop} (h : Steady P false I K) (hm : MainFlag.main = false) : Closed P false I K := ⟨h, hm.symm, fun h => by cases h⟩

def LeavingM (P : Program) (fr : Frame) (w : World) (v : Value) : Prop :=
  fr.mode = .returning ∧ fr.defers = [] ∧ fr.kind = .normal ∧ ∃ fn, P.funcs[fr.fn]? = some fn ∧ ∀ d, (results fn fr.tmps).run P (w.at d) = .ok v (w.at d)

def CallsM (P : Program) (I : World → Prop) (f : FuncId) (args : Array Value) (w : World) (R : Ending → World → Prop) : Prop :=
  ∀ (main : Bool) (K : Goroutine → World → Prop), Closed P main I K → ∀ cs, (∀ fr v w', R (.returned v) w' → fr.fn = f → LeavingM P fr w' v → K (G fr cs) w') → K (G (Frame.enter P f args .normal) cs) w
theorem CallsM.mono {P : Program} {I : World → Prop} {f : FuncId} {args : Array Value} {w : World} {R R' : Ending → World → Prop} (h : CallsM P I f args w R) (hr : ∀ e w', R e w' → R' e w') : CallsM P I f args w R' :=
  fun main K hC cs hK => h main K hC cs fun fr v w' hR hf hl => hK fr v w' (hr _ _ hR) hf hl

def AfterM (K : Goroutine → World → Prop) (b : Frame) (k : List Item) (cs : List Frame) : Exit → Act → World → Prop
  | .normal, a, w => K (G (b.at a k) cs) w
  | .exit id, a, w => ∃ k', exitTo id k = some k' ∧ K (G (b.at a k') cs) w
  | .ret, a, w => ∀ todo, K (G { b.at a todo with mode := .returning } cs) w
  | _, _, _ => False

theorem AfterM.push {K : Goroutine → World → Prop} {b : Frame} {x : Item} {k : List Item} {cs : List Frame} {e : Exit} {a : Act} {w : World} (hx : x.plain = true) (he : e ≠ .normal) (h : AfterM K b k cs e a w) : AfterM K b (x :: k) cs e a w := by
  cases e with
  | normal => exact absurd rfl he
  | exit id => obtain ⟨k', hk, hg⟩ := h; exact ⟨k', by cases x <;> simp_all [exitTo, Item.plain], hg⟩
  | ret => exact h
  | goto l => exact h
  | panic ch => exact h
  | outgrown => exact h

end Go.GL
namespace Go
open Go.GL Go.RowKit Go.Conc
variable [MainFlag]
def Code.wpM (P : Program) (I : World → Prop) (c : Code) (Q : Exit → Act → World → Prop) (a : Act) (w : World) : Prop :=
  ∀ (main : Bool) (K : Goroutine → World → Prop), Closed P main I K → ∀ (b : Frame) (k : List Item) (cs : List Frame), b.kind ≠ .early → (∀ e a' w', Q e a' w' → AfterM K b k cs e a' w') → K (G (b.at a (.code c :: k)) cs) w

def Oper.uponM (P : Program) (I : World → Prop) (o : Oper) (a : Act) (next : Act → World → Prop) : Result Next → Prop
  | .ok (.value v) w' => next (a.put o.dst v) w'
  | .ok .skip w' => next (a.put o.dst undef) w'
  | .ok (.enter f args) w' => I w' ∧ CallsM P I f args w' fun
      | .returned v, w'' => next (a.put o.dst v) w''
      | _, _ => False
  | _ => False
def Oper.wpN (P : Program) (I : World → Prop) (o : Oper) (a : Act) (w : World) (next : Act → World → Prop) (_ : Exit → Act → World → Prop) : Prop :=
  CalmA ((execOp a.eval o).events P w #[]) ∧ o.uponM P I a next ((execOp a.eval o).run P w)
def Oper.wpM (P : Program) (I : World → Prop) (o : Oper) (a : Act) (w : World) (next : Act → World → Prop) (Q : Exit → Act → World → Prop) : Prop := ∀ d, o.wpN P I a (w.at d) (fun a' w' => I w' ∧ next a' w') Q

end Go
namespace Go.GL
open Go.RowKit Go.Conc
variable [MainFlag]
theorem uponM_mono {P : Program} {I : World → Prop} {o : Oper} {a : Act} {K K' : Act → World → Prop} (h : ∀ a w, K a w → K' a w) {r : Result Next} (hh : o.uponM P I a K r) : o.uponM P I a K' r := by
  cases r with
  | ok x w' =>
    cases x
    case value v => exact h _ _ hh
    case skip => exact h _ _ hh
    case enter f args =>
      unfold Oper.uponM at hh ⊢
      refine ⟨hh.1, CallsM.mono hh.2 fun e w'' he => ?_⟩
      cases e with
      | returned v => exact h _ _ he
      | panicked c => exact he
      | outgrown => exact he
    all_goals exact hh
  | halt x w' => exact hh
theorem Oper.wpM_mono {P : Program} {I : World → Prop} {Q : Exit → Act → World → Prop} {o : Oper} {a : Act} {w : World} {K K' : Act → World → Prop} (h : ∀ a w, K a w → K' a w) (hh : o.wpM P I a w K Q) : o.wpM P I a w K' Q := fun d => ⟨(hh d).1, uponM_mono (fun a w x => ⟨x.1, h a w x.2⟩) (hh d).2⟩

section
variable {P : Program} {main : Bool} {I : World → Prop} {K : Goroutine → World → Prop} {b : Frame} {a : Act} {k : List Item} {cs : List Frame} {w : World} {ops : Array Oper}

theorem leaveM (hC : Closed P main I K) {fr c : Frame} {v : Value} (h : LeavingM P fr w v) (hK : K (G (c.finish v) cs) w) : K (G fr (c :: cs)) w := by
  refine hC.go _ _ rfl fun d => ?_
  obtain ⟨hm, hd, hk, fn, hf, hr⟩ := h
  have hc : CalmA (seen P fr.fn ((results fn fr.tmps).events P (w.at d) #[])) := fun e he => calm_results.events _ _ #[] calmA_nil e (mem_seen he)
  have : stepG P main (G fr (c :: cs)) (w.at d) = .go (G (c.finish v) cs) (w.at d) (seen P fr.fn ((results fn fr.tmps).events P (w.at d) #[])) := by
    simp [G, stepG, unwind, doReturn, hm, hd, hk, hf, hr d, GStep.after]
  rw [this]
  exact ⟨hc, id, hC.stable _ _ d hK⟩

theorem opM (hC : Closed P main I K) {i : Nat} {rest : List Nat} {o : Oper} {next : Act → World → Prop} {Q : Exit → Act → World → Prop} (hk : b.kind ≠ .early) (ho : ops[i]? = some o) (hw : Region.wanted o (yielded ops a.tmps) = true) (h : o.wpM P I a w next Q)
    (hn : ∀ a' w', next a' w' → K (G (b.at a' (.inRegion ops rest :: k)) cs) w') : K (G (b.at a (.inRegion ops (i :: rest) :: k)) cs) w := by
  refine hC.go _ _ rfl fun d => ?_
  obtain ⟨hc, h⟩ := h d
  have hc' := calm_listed (fn := b.fn) hc
  generalize hr : (execOp a.eval o).run P (w.at d) = r at h
  have hfin : ∀ v, (b.at a (.inRegion ops (i :: rest) :: k)).finish v = b.at (a.put o.dst v) (.inRegion ops rest :: k) := fun v => by rw [Frame.finish_at, ho]; rfl
  match r, h with
  | .ok (.value v) w', h => rw [stepG_value ho hw hk hr]; exact ⟨hc', fun _ => h.1, hn _ _ h.2⟩
  | .ok .skip w', h => rw [stepG_none ho hw hk hr]; exact ⟨hc', fun _ => h.1, hn _ _ h.2⟩
  | .ok (.enter f args) w', h =>
    rw [stepG_enter ho hw hk hr]
    refine ⟨hc', fun _ => h.1, h.2 main K hC _ fun fr v w'' hR _ hl => leaveM hC hl ?_⟩
    rw [hfin]
    exact hn _ _ hR.2
theorem opM_skip (hC : Closed P main I K) {i : Nat} {rest : List Nat} {o : Oper} (ho : ops[i]? = some o) (hw : Region.wanted o (yielded ops a.tmps) = false) (hn : K (G (b.at (a.put o.dst undef) (.inRegion ops rest :: k)) cs) w) : K (G (b.at a (.inRegion ops (i :: rest) :: k)) cs) w := by
  refine hC.go _ _ rfl fun d => ?_
  rw [stepG_unwanted ho hw]
  exact ⟨calmA_nil, id, hC.stable _ _ d hn⟩
theorem moveM (hC : Closed P main I K) {g g' : Goroutine} (hg : g.status = .running) (h : ∀ w, stepG P main g w = .go g' w #[]) (hK : K g' w) : K g w :=
  hC.go _ _ hg fun d => by rw [h]; exact ⟨calmA_nil, id, hC.stable _ _ d hK⟩
theorem moveM' (hC : Closed P main I K) {g g' : Goroutine} (hg : g.status = .running) (h : ∀ w, stepG P main g w = .go g' w) (hK : K g' w) : K g w :=
  hC.go _ _ hg fun d => by rw [h]; exact ⟨calmA_nil, id, hC.stable _ _ d hK⟩
end

section
variable {P : Program} {I : World → Prop} {Q : Exit → Act → World → Prop} {a : Act} {w : World}

theorem wpM_mono {c : Code} {Q' : Exit → Act → World → Prop} (h : c.wpM P I Q a w) (hq : ∀ e a w, Q e a w → Q' e a w) : c.wpM P I Q' a w := fun main K hC b k cs hb hK => h main K hC b k cs hb fun e a' w' q => hK e a' w' (hq _ _ _ q)
theorem wpM_skip (h : Q .normal a w) : Code.skip.wpM P I Q a w := fun main K hC b k cs _ hK => moveM' hC rfl (fun w => stepG_skip) (hK _ _ _ h)
theorem wpM_ret (h : Q .ret a w) : Code.ret.wpM P I Q a w := fun main K hC b k cs _ hK => moveM' hC rfl (fun w => stepG_ret') (hK _ _ _ h _)
theorem wpM_exit {id : Nat} (h : Q (.exit id) a w) : (Code.exit id).wpM P I Q a w := fun main K hC b k cs _ hK => by
  obtain ⟨k', hk', hg⟩ := hK _ _ _ h
  exact moveM' hC rfl (fun w => stepG_exit hk') hg
theorem wpM_seq {x y : Code} (h : x.wpM P I (Exit.then (fun a' w' => y.wpM P I Q a' w') Q) a w) : (Code.seq x y).wpM P I Q a w := fun main K hC b k cs hb hK => by
  refine moveM' hC rfl (fun w => stepG_seq) (h main K hC b (.code y :: k) cs hb fun e a' w' q => ?_)
  cases e with
  | normal => exact q main K hC b k cs hb hK
  | exit id => exact (hK _ _ _ q).push rfl (by simp)
  | ret => exact (hK _ _ _ q).push (x := .code y) rfl (by simp)
  | goto l => exact hK _ _ _ q
  | panic ch => exact hK _ _ _ q
  | outgrown => exact hK _ _ _ q
theorem wpM_cond_split {c : Operand} {x y : Code} {t : Bool} (hc : a.eval c = .bool t) (ht : t = true → x.wpM P I Q a w) (hf : t = false → y.wpM P I Q a w) : (Code.cond c x y).wpM P I Q a w := fun main K hC b k cs hb hK => by
  refine moveM' hC rfl (fun w => stepG_cond hc) ?_
  cases t
  · exact hf rfl main K hC b k cs hb hK
  · exact ht rfl main K hC b k cs hb hK
theorem wpM_block {id : Nat} {c : Code} (h : c.wpM P I (Exit.inBlock id Q) a w) : (Code.block id c).wpM P I Q a w := fun main K hC b k cs hb hK => by
  refine moveM' hC rfl (fun w => stepG_block) (h main K hC b (.inBlock id :: k) cs hb fun e a' w' q => ?_)
  cases e with
  | normal => exact moveM' hC rfl (fun w => stepG_inBlock) (hK _ _ _ q)
  | exit id' =>
    by_cases hid : id' = id
    · simp only [Exit.inBlock, hid, if_true] at q
      exact ⟨k, by simp [exitTo, hid], hK _ _ _ q⟩
    · simp only [Exit.inBlock, hid, if_false] at q
      obtain ⟨k', hk', hg⟩ := hK _ _ _ q
      have : (id == id') = false := by simp; exact fun h => hid h.symm
      exact ⟨k', by simp [exitTo, this, hk'], hg⟩
  | ret => exact fun todo => hK _ _ _ q todo
  | goto l => exact hK _ _ _ q
  | panic ch => exact hK _ _ _ q
  | outgrown => exact hK _ _ _ q
def wpListM (P : Program) (I : World → Prop) (ops : Array Oper) (Q : Exit → Act → World → Prop) : List Oper → Act → World → Prop
  | [], a, w => Q .normal a w
  | o :: rest, a, w => if Region.wanted o (yielded ops a.tmps) = true then o.wpM P I a w (wpListM P I ops Q rest) Q else (FuncId → True → True) ∧ wpListM P I ops Q rest (a.put o.dst undef) w

theorem region_endM {main : Bool} {K : Goroutine → World → Prop} {b : Frame} {k : List Item} {cs : List Frame} {ops : Array Oper} (hC : Closed P main I K) (h : K (G (b.at a k) cs) w) : K (G (b.at a (.inRegion ops [] :: k)) cs) w := moveM' hC rfl (fun w => stepG_region_end) h

theorem listM_sound {main : Bool} {K : Goroutine → World → Prop} {b : Frame} {k : List Item} {cs : List Frame} {ops : Array Oper} (hC : Closed P main I K) (hb : b.kind ≠ .early) (hK : ∀ e a' w', Q e a' w' → AfterM K b k cs e a' w') :
    ∀ (rest : List Oper) (n : Nat) (a : Act) (w : World), ops.toList.drop n = rest → wpListM P I ops Q rest a w → K (G (b.at a (.inRegion ops ((List.range ops.size).drop n) :: k)) cs) w := by
  intro rest
  induction rest with
  | nil =>
    intro n a w hr h
    have : ops.size ≤ n := by simpa using hr
    rw [List.drop_of_length_le (by simpa using this)]
    exact region_endM hC (hK _ _ _ h)
  | cons o rest ih =>
    intro n a w hr h
    have hlt : n < ops.size := by
      rcases Nat.lt_or_ge n ops.size with h' | h'
      · exact h'
      · rw [List.drop_of_length_le (by simpa using h')] at hr; cases hr
    have e1 : (List.range ops.size).drop n = n :: (List.range ops.size).drop (n + 1) := by
      rw [List.drop_eq_getElem_cons (by simpa using hlt)]
      simp
    rw [List.drop_eq_getElem_cons (by simpa using hlt)] at hr
    injection hr with hr1 hr2
    have ho : ops[n]? = some o := by rw [Array.getElem?_eq_getElem hlt]; simpa using hr1
    rw [e1]
    unfold wpListM at h
    split at h
    · rename_i hw
      exact opM hC hb ho hw h fun a' w' h' => ih (n + 1) a' w' hr2 h'
    · rename_i hw
      exact opM_skip hC ho (by simpa using hw) (ih (n + 1) _ w hr2 h.2)
theorem wpM_region_list {id : Nat} {ops : Array Oper} (h : wpListM P I ops Q ops.toList a w) : (Code.region id ops false).wpM P I Q a w := fun main K hC b k cs hb hK => by
  refine moveM' hC rfl (fun w => stepG_region) ?_
  have := listM_sound hC hb hK ops.toList 0 a w (by simp) h
  simpa using this

def wpOpM (P : Program) (I : World → Prop) (ops : Array Oper) (Q : Exit → Act → World → Prop) (i : Nat) (K : Act → World → Prop) (a : Act) (w : World) : Prop :=
  match ops[i]? with
  | none => False
  | some o => if Region.wanted o (yielded ops a.tmps) = true then o.wpM P I a w K Q else (FuncId → True → True) ∧ K (a.put o.dst undef) w
theorem wpOpM_mono {ops : Array Oper} {i : Nat} {a : Act} {w : World} {K K' : Act → World → Prop} (h : ∀ a w, K a w → K' a w) (hh : wpOpM P I ops Q i K a w) : wpOpM P I ops Q i K' a w := by
  unfold wpOpM at *
  split
  · simp_all
  · rename_i o ho
    simp only [ho] at hh
    split
    · rename_i hw; simp only [hw, if_true] at hh; exact Oper.wpM_mono h hh
    · rename_i hw; rw [if_neg hw] at hh; exact ⟨fun _ _ => trivial, h _ _ hh.2⟩
def wpOpsM (P : Program) (I : World → Prop) (ops : Array Oper) (Q : Exit → Act → World → Prop) : List Nat → Act → World → Prop
  | [], a, w => Q .normal a w
  | i :: rest, a, w => wpOpM P I ops Q i (wpOpsM P I ops Q rest) a w
def wpAnyM (P : Program) (I : World → Prop) (md : Region.Mode) (ops : Array Oper) (Q : Exit → Act → World → Prop) : Nat → Array Bool → Act → World → Prop
  | 0, listed, a, w => Region.ready md ops listed = [] ∧ Q .normal a w
  | fuel + 1, listed, a, w =>
    (Region.ready md ops listed = [] → Q .normal a w) ∧
    ∀ i ∈ Region.ready md ops listed, wpOpM P I ops Q i (wpAnyM P I md ops Q fuel (listed.setIfInBounds i true)) a w

theorem wpAnyM_sound {md : Region.Mode} {ops : Array Oper} : ∀ (fuel t : Nat) (listed : Array Bool) (a : Act) (w : World), wpAnyM P I md ops Q fuel listed a w → wpOpsM P I ops Q (Region.linearise.go md ops fuel t listed []) a w := by
  intro fuel
  induction fuel with
  | zero => intro t listed a w h; simpa [Region.linearise.go, wpOpsM] using h.2
  | succ fuel ih =>
    intro t listed a w h
    obtain ⟨h₀, h₁⟩ := h
    simp only [Region.linearise.go]
    change wpOpsM P I ops Q (match (Region.ready md ops listed)[t % (Region.ready md ops listed).length]? with
      | some i => Region.linearise.go md ops fuel (t / (Region.ready md ops listed).length) (listed.setIfInBounds i true) [i]
      | none => [].reverse) a w
    cases hi : (Region.ready md ops listed)[t % (Region.ready md ops listed).length]? with
    | none =>
      have hnil : Region.ready md ops listed = [] := by
        cases hr : Region.ready md ops listed with
        | nil => rfl
        | cons x xs =>
          rw [hr] at hi
          have hlt : t % (x :: xs).length < (x :: xs).length := Nat.mod_lt _ (by simp)
          simp at hi
          simp at hlt
          omega
      simpa [wpOpsM] using h₀ hnil
    | some i =>
      simp only []
      rw [linearise_go_acc, List.reverse_singleton, List.singleton_append]
      exact wpOpM_mono (fun a w => ih _ _ a w) (h₁ i (List.mem_of_getElem? hi))

theorem opsM_sound {main : Bool} {K : Goroutine → World → Prop} {b : Frame} {k : List Item} {cs : List Frame} {ops : Array Oper} (hC : Closed P main I K) (hb : b.kind ≠ .early) (hK : ∀ e a' w', Q e a' w' → AfterM K b k cs e a' w') :
    ∀ (l : List Nat) (a : Act) (w : World), wpOpsM P I ops Q l a w → K (G (b.at a (.inRegion ops l :: k)) cs) w := by
  intro l
  induction l with
  | nil => intro a w h; exact region_endM hC (hK _ _ _ h)
  | cons i rest ih =>
    intro a w h
    unfold wpOpsM wpOpM at h
    split at h
    · exact h.elim
    · rename_i o ho
      split at h
      · rename_i hw; exact opM hC hb ho hw h fun a' w' h' => ih a' w' h'
      · rename_i hw; exact opM_skip hC ho (by simpa using hw) (ih _ w h.2)

theorem wpM_region_any {id : Nat} {ops : Array Oper} (hm : P.follows .mixedOrders = true) (hI : ∀ d, I (w.at d)) (h : ∀ d, wpAnyM P I .any ops Q ops.size (Array.replicate ops.size false) a (w.at d)) : (Code.region id ops true).wpM P I Q a w := fun main K hC b k cs hb hK => by
  refine hC.go _ _ rfl fun d => ?_
  rw [stepG_region_draw]
  refine ⟨calmA_nil, fun _ => hI (d + 1), opsM_sound hC hb hK _ _ _ ?_⟩
  simp only [Region.schedule, hm, Bool.true_or, if_true]
  exact wpAnyM_sound ops.size _ _ a _ (h (d + 1))

theorem calls_of_wpM {f : FuncId} {fn : Func} {c : Code} {args : Array Value} {R : Ending → World → Prop} (hf : P.funcs[f]? = some fn) (hb : fn.body = some c)
    (h : c.wpM P I (fun e a' w' => (e = .ret ∨ e = .normal) ∧ a'.defers = [] ∧ ∃ v, R (.returned v) w' ∧ ∀ d, (results fn a'.tmps).run P (w'.at d) = .ok v (w'.at d)) { tmps := args ++ Array.replicate (fn.ntmps - args.size) undef, defers := [] } w) : CallsM P I f args w R := fun main K hC cs hK => by
  rw [enter_at args hf hb]
  have leave : ∀ (a' : Act) (w' : World) (todo : List Item), (a'.defers = [] ∧ ∃ v, R (.returned v) w' ∧ ∀ d, (results fn a'.tmps).run P (w'.at d) = .ok v (w'.at d)) → K (G { (base f).at a' todo with mode := .returning } cs) w' := by
    rintro a' w' todo ⟨hd, v, hR, hr⟩
    exact hK _ v w' hR rfl ⟨rfl, hd, rfl, fn, hf, hr⟩
  refine h main K hC (base f) [] cs (by simp [base]) fun e a' w' ⟨he, hl⟩ => ?_
  rcases he with rfl | rfl
  · exact fun todo => leave a' w' todo hl
  · exact moveM' hC rfl (fun w => stepG_end) (leave a' w' [] hl)
end
end Go.GL
