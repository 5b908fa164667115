/- The run along a tree is sound for a region whose order is drawn. No condition. -/
import Derived.Test.YtbpehbbdodahaaaGlI
namespace Go.GL
open Go.RowKit

theorem maskOf_bit {acc : List Nat} : ∀ (l : List Nat) (s j : Nat), (l.foldl (fun s d => s ||| 2 ^ d ||| acc.getD d 0) s).testBit j = true → s.testBit j = true ∨ ∃ d ∈ l, j = d ∨ (acc.getD d 0).testBit j = true
  | [], s, j, h => .inl h
  | d :: l, s, j, h => by
    simp only [List.foldl_cons] at h
    rcases maskOf_bit l _ j h with h | ⟨e, he, h⟩
    · simp only [Nat.testBit_or, Nat.testBit_two_pow, Bool.or_eq_true, decide_eq_true_eq] at h
      rcases h with (h | h) | h
      · exact .inl h
      · exact .inr ⟨d, by simp, .inl h.symm⟩
      · exact .inr ⟨d, by simp, .inr h⟩
    · exact .inr ⟨e, by simp [he], h⟩

section
variable {ops : Array Oper}
def opAt (ops : Array Oper) (i : Nat) : Oper := ops.getD i default
def GoodMasks (ops : Array Oper) (S : Nat → Prop) (acc : List Nat) : Prop := ∀ i j, (acc.getD i 0).testBit j = true → (∀ d ∈ depsOf (opAt ops i), S d) → S j

theorem masks_good {S : Nat → Prop} (hcl : ∀ i, S i → ∀ d ∈ depsOf (opAt ops i), S d) : ∀ (r pre : List Oper) (acc : List Nat), ops.toList = pre ++ r → acc.length = pre.length → GoodMasks ops S acc → GoodMasks ops S (masksFrom r acc)
  | [], pre, acc, _, _, hg => hg
  | o :: r, pre, acc, ho, hl, hg => by
    unfold masksFrom
    refine masks_good hcl r (pre ++ [o]) (acc ++ [maskOf acc o]) (by simp [ho]) (by simp [hl]) ?_
    intro i j hb hd
    rw [List.getD_eq_getElem?_getD] at hb
    by_cases hi : i < acc.length
    · rw [List.getElem?_append_left hi] at hb
      exact hg i j (by rw [List.getD_eq_getElem?_getD]; exact hb) hd
    · by_cases hi' : i = acc.length
      · subst hi'
        rw [List.getElem?_append_right (Nat.le_refl _)] at hb
        simp only [Nat.sub_self, List.getElem?_cons_zero, Option.getD_some] at hb
        have hop : opAt ops acc.length = o := by
          unfold opAt
          rw [Array.getD_eq_getD_getElem?, ← Array.getElem?_toList, ho, hl, List.getElem?_append_right (Nat.le_refl _)]
          simp
        rw [hop] at hd
        rcases maskOf_bit _ _ _ hb with h | ⟨d, hdm, h⟩
        · simp at h
        · rcases h with rfl | h
          · exact hd _ hdm
          · exact hg d j h (hcl d (hd d hdm))
      · rw [List.getElem?_eq_none (by simp; omega)] at hb
        simp at hb
end

section
variable {P : Program} {N : Nat} {ops : Array Oper} {Q : Slots → GHeap → Prop} {Qx : Exit → Act → World → Prop} {B : Nat} {w0 : World} {ρ0 : Place}

def lis (listed : Array Bool) (i : Nat) : Prop := listed.getD i false = true

inductive Chain (ops : Array Oper) : List Nat → Prop
  | nil : Chain ops []
  | cons {i : Nat} {pre : List Nat} (hd : ∀ d ∈ depsOf (opAt ops i), d ∈ pre) (h : Chain ops pre) : Chain ops (i :: pre)

theorem Chain.first {pre : List Nat} (h : Chain ops pre) {S : Nat → Prop} (hn : ∃ j ∈ pre, ¬ S j) : ∃ j ∈ pre, ¬ S j ∧ ∀ d ∈ depsOf (opAt ops j), S d := by
  induction h with
  | nil => obtain ⟨j, hj, _⟩ := hn; cases hj
  | cons hd _ ih =>
    rename_i i pre _
    by_cases hex : ∃ j ∈ pre, ¬ S j
    · obtain ⟨j, hj, h1, h2⟩ := ih hex
      exact ⟨j, by simp [hj], h1, h2⟩
    · have hall : ∀ j ∈ pre, S j := fun j hj => Classical.byContradiction fun hns => hex ⟨j, hj, hns⟩
      obtain ⟨j, hj, hns⟩ := hn
      rcases List.mem_cons.1 hj with rfl | hj
      · exact ⟨j, by simp, hns, fun d hdm => hall d (hd d hdm)⟩
      · exact absurd (hall j hj) hns

/-- A quiet operation that the tree has run and the schedule has not. -/
def Pend (P : Program) (ops : Array Oper) (pre : List Nat) (fr : Slots) (Hb : GHeap) (j : Nat) : Prop :=
  (∀ i ∈ pre, ∀ s, (opAt ops i).dst = some s → (looks ops (opAt ops j)).contains s = true → (ctxOf ops).before j i = true) ∧
  ((((opAt ops j).guard = none ∨ ∃ g want s, (opAt ops j).guard = some (g, want) ∧ guardSlot ops g = some s ∧ fr.get s = some (.bool want)) ∧ ∃ v, MStep P fr Hb (opAt ops j).op v ∧ ∀ d, (opAt ops j).dst = some d → fr.get d = some v) ∨
   (∃ g want s c, (opAt ops j).guard = some (g, want) ∧ guardSlot ops g = some s ∧ fr.get s = some (.bool c) ∧ c ≠ want ∧ ∀ d, (opAt ops j).dst = some d → fr.get d = none))

structure Inv (P : Program) (N : Nat) (ops : Array Oper) (Q : Slots → GHeap → Prop) (B : Nat) (w0 : World) (ρ0 : Place) (pre : List Nat) (t : Tree) (fr : Slots) (Hb H : GHeap) (ρ : Place) (listed : Array Bool) (a : Act) (w : World) : Prop where
  ok : (ctxOf ops).ok pre false t = true
  tree : GTree P N ops Q t fr Hb H
  le : Hb.Le H
  ext : Ext ρ0 ρ
  sim : Sim P B w0 ρ H w
  size : a.tmps.size = N
  defers : a.defers = []
  lsize : listed.size = ops.size
  sub : ∀ i, lis listed i → i ∈ pre
  closed : ∀ i, lis listed i → ∀ d ∈ depsOf (opAt ops i), lis listed d
  chain : Chain ops pre
  lt : ∀ i ∈ pre, i < ops.size
  dsts : ∀ i ∈ pre, dstOk N (opAt ops i) = true
  frame : ∀ s v, fr.get s = some v → (∀ j ∈ pre, ¬ lis listed j → (opAt ops j).dst ≠ some s) → VRel ρ v (a.eval (.tmp s))
  pend : ∀ j ∈ pre, ¬ lis listed j → Pend P ops pre fr Hb j

theorem opAt_of {i : Nat} {o : Oper} (h : ops[i]? = some o) : opAt ops i = o := by
  unfold opAt
  rw [Array.getD_eq_getD_getElem?, h]
  rfl

theorem looks_operand {o : Oper} {t : Tmp} (h : Operand.tmp t ∈ o.op.operands) : (looks ops o).contains t = true := by
  unfold looks
  rw [List.contains_iff_mem]
  exact List.mem_append_left _ (List.mem_filterMap.2 ⟨.tmp t, by simpa using h, rfl⟩)
theorem looks_guard {o : Oper} {g : Nat} {want : Bool} {s : Tmp} (h : o.guard = some (g, want)) (hs : guardSlot ops g = some s) : (looks ops o).contains s = true := by
  unfold looks
  rw [List.contains_iff_mem]
  refine List.mem_append_right _ ?_
  rw [h]
  simp [hs]

theorem Inv.before {pre : List Nat} {t : Tree} {fr : Slots} {Hb H : GHeap} {ρ : Place} {listed : Array Bool} {a : Act} {w : World} (h : Inv P N ops Q B w0 ρ0 pre t fr Hb H ρ listed a w) {i j : Nat} (hb : (ctxOf ops).before i j = true)
    (hd : ∀ d ∈ depsOf (opAt ops i), lis listed d) : lis listed j := by
  have hg : GoodMasks ops (lis listed) (ctxOf ops).masks := masks_good h.closed ops.toList [] [] rfl rfl (fun i j hb => by simp at hb)
  exact hg i j hb hd

/-- Operands of an operation that is ready stand for what the tree holds. -/
theorem Inv.looked {pre : List Nat} {t : Tree} {fr : Slots} {Hb H : GHeap} {ρ : Place} {listed : Array Bool} {a : Act} {w : World} (h : Inv P N ops Q B w0 ρ0 pre t fr Hb H ρ listed a w) {i : Nat}
    (hr : ∀ j ∈ pre, ∀ s, (opAt ops j).dst = some s → (looks ops (opAt ops i)).contains s = true → (ctxOf ops).before i j = true) (hd : ∀ d ∈ depsOf (opAt ops i), lis listed d) {s : Tmp} {v : Value} (hl : (looks ops (opAt ops i)).contains s = true) (hv : fr.get s = some v) :
    VRel ρ v (a.eval (.tmp s)) :=
  h.frame s v hv fun j hj hn hds => hn (h.before (hr j hj s hds hl) hd)

theorem can_parts {pre : List Nat} {i : Nat} (h : (ctxOf ops).can pre i = true) : i < ops.size ∧ i ∉ pre ∧ (∀ d ∈ depsOf (opAt ops i), d ∈ pre) ∧
    (∀ j ∈ pre, ∀ s, (opAt ops j).dst = some s → (looks ops (opAt ops i)).contains s = true → (ctxOf ops).before i j = true) := by
  unfold Ctx.can at h
  simp only [Bool.and_eq_true, Bool.not_eq_true', List.all_eq_true] at h
  obtain ⟨⟨⟨h1, h2⟩, h3⟩, h4⟩ := h
  refine ⟨by have h1' : Nat.blt i ops.size = true := h1; simpa [Nat.blt_eq] using h1', fun hm => ?_, fun d hd => by simpa using h3 d hd, fun j hj s hs hl => ?_⟩
  · have : pre.contains i = true := by simpa using hm
    rw [h2] at this
    cases this
  · unfold Ctx.reads at h4
    have h5 := List.all_eq_true.1 h4 j hj
    have e : ((ctxOf ops).op j).dst = some s := hs
    rw [e] at h5
    have e2 : (looks (ctxOf ops).ops ((ctxOf ops).op i)).contains s = true := hl
    simp only [e2, Bool.not_true, Bool.false_or] at h5
    exact h5

theorem fresh_parts {pre : List Nat} {i : Nat} (h : (ctxOf ops).fresh pre i = true) {d : Tmp} (hd : (opAt ops i).dst = some d) :
    (∀ j ∈ pre, (looks ops (opAt ops j)).contains d = false ∧ (opAt ops j).dst ≠ some d) ∧ (looks ops (opAt ops i)).contains d = false := by
  unfold Ctx.fresh at h
  have e : ((ctxOf ops).op i).dst = some d := hd
  rw [e] at h
  simp only [Bool.and_eq_true, Bool.not_eq_true', List.all_eq_true] at h
  refine ⟨fun j hj => ?_, h.2⟩
  have h1 := h.1 j hj
  unfold touches at h1
  simp only [Bool.or_eq_false_iff, beq_eq_false_iff_ne, ne_eq] at h1
  exact h1

theorem writes_parts {pre : List Nat} {i : Nat} (h : (ctxOf ops).writes pre i = true) {d : Tmp} (hd : (opAt ops i).dst = some d) {j : Nat} (hj : j ∈ pre) (ht : (looks ops (opAt ops j)).contains d = true ∨ (opAt ops j).dst = some d) : (ctxOf ops).before i j = true := by
  unfold Ctx.writes at h
  have e : ((ctxOf ops).op i).dst = some d := hd
  rw [e] at h
  have h1 := List.all_eq_true.1 h j hj
  have : touches (ctxOf ops).ops ((ctxOf ops).op j) d = true := by
    unfold touches
    rw [Bool.or_eq_true]
    rcases ht with ht | ht
    · exact .inl ht
    · exact .inr (by have e3 : ((ctxOf ops).op j).dst = some d := ht; rw [e3]; simp)
  rw [this] at h1
  simpa using h1

/-- A head of the tree, taken by itself. -/
theorem head_of {fr : Slots} {Hb H : GHeap} {pre : List Nat} {i : Nat} : ∀ {t : Tree} {inOr : Bool}, (ctxOf ops).ok pre inOr t = true → GTree P N ops Q t fr Hb H → i ∈ heads t →
    ∃ k t', GTree P N ops Q (.c i k t') fr Hb H ∧ (ctxOf ops).can pre i = true ∧ (ctxOf ops).writes pre i = true ∧ (k = 1 ∨ (k = 0 ∧ ∀ j ∈ pre, (ctxOf ops).before i j = true)) ∧ (ctxOf ops).ok (i :: pre) false t' = true
  | .done, _, _, _, hi => by cases hi
  | .q j t, _, _, _, hi => by cases hi
  | .c j k t, inOr, hok, ht, hi => by
    simp only [heads, List.mem_singleton] at hi
    subst hi
    simp only [Ctx.ok, Bool.and_eq_true, Bool.or_eq_true, List.all_eq_true] at hok
    obtain ⟨⟨⟨⟨_, h2⟩, h3⟩, h4⟩, h5⟩ := hok
    refine ⟨k, t, ht, h2, h3, ?_, h5⟩
    rcases h4 with h4 | h4
    · exact .inl (Nat.eq_of_beq_eq_true h4)
    · exact .inr ⟨Nat.eq_of_beq_eq_true h4.1, h4.2⟩
  | .or s t, inOr, hok, ht, hi => by
    simp only [Ctx.ok, Bool.and_eq_true] at hok
    simp only [heads, List.mem_append] at hi
    rcases hi with hi | hi
    · exact head_of hok.1.2 ht.1 hi
    · exact head_of hok.2 ht.2 hi

theorem covers_of {pre : List Nat} {t : Tree} (hok : (ctxOf ops).ok pre false t = true) (hq : ∀ i t', t ≠ .q i t') {u : Nat} (hu : u < ops.size) (hn : u ∉ pre) (hd : ∀ d ∈ depsOf (opAt ops u), d ∈ pre) : u ∈ heads t := by
  have key : ∀ hs, (ctxOf ops).covers pre hs = true → u ∈ hs := by
    intro hs h
    unfold Ctx.covers at h
    have h1 := List.all_eq_true.1 h u (List.mem_range.2 hu)
    have e1 : pre.contains u = false := by simpa using hn
    have e2 : (depsOf ((ctxOf ops).op u)).all pre.contains = true := List.all_eq_true.2 fun d hd' => by simpa using hd d hd'
    rw [e1, e2] at h1
    simpa using h1
  cases t with
  | done =>
    simp only [Ctx.ok, Bool.and_eq_true, List.all_eq_true] at hok
    have := hok.2 u (List.mem_range.2 hu)
    exact absurd (by simpa using this) hn
  | q i t' => exact absurd rfl (hq i t')
  | c i k t' =>
    simp only [Ctx.ok, Bool.and_eq_true, Bool.false_or] at hok
    exact key _ hok.1.1.1.1
  | or s t' =>
    simp only [Ctx.ok, Bool.and_eq_true, Bool.false_or] at hok
    exact key _ hok.1.1

theorem lis_set {listed : Array Bool} {i j : Nat} (hi : i < listed.size) : lis (listed.setIfInBounds i true) j ↔ j = i ∨ lis listed j := by
  unfold lis
  simp only [Array.getD_eq_getD_getElem?]
  by_cases h : j = i
  · subst h
    simp [hi]
  · rw [Array.getElem?_setIfInBounds_ne (Ne.symm h)]
    simp [h]

theorem ready_iff {listed : Array Bool} (hl : listed.size = ops.size) {i : Nat} : i ∈ Region.ready .any ops listed ↔ i < ops.size ∧ ¬ lis listed i ∧ ∀ d ∈ depsOf (opAt ops i), lis listed d := by
  rw [mem_ready]
  constructor
  · rintro ⟨h1, o, ho, h2⟩
    have hlt : i < ops.size := (Array.getElem?_eq_some_iff.1 ho).1
    refine ⟨hlt, ?_, fun d hd => ?_⟩
    · unfold lis
      simp only [Array.getD_eq_getD_getElem?] at h1 ⊢
      have : i < listed.size := by omega
      simp only [Array.getElem?_eq_getElem this, Option.getD_some] at h1 ⊢
      simp [h1]
    · rw [opAt_of ho] at hd
      unfold depsOf at hd
      simp only [List.mem_map, List.mem_filter] at hd
      obtain ⟨e, ⟨he, hb⟩, rfl⟩ := hd
      exact h2 e (by simpa using he) hb
  · rintro ⟨hlt, h1, h2⟩
    refine ⟨?_, ops[i], by simp [hlt], fun e he hb => ?_⟩
    · unfold lis at h1
      simp only [Array.getD_eq_getD_getElem?] at h1 ⊢
      have : i < listed.size := by omega
      simp only [Array.getElem?_eq_getElem this, Option.getD_some] at h1 ⊢
      simpa using h1
    · refine h2 e.on ?_
      rw [opAt_of (show ops[i]? = some ops[i] by simp [hlt])]
      unfold depsOf
      exact List.mem_map.2 ⟨e, List.mem_filter.2 ⟨by simpa using he, hb⟩, rfl⟩

def left (ops : Array Oper) (listed : Array Bool) : Nat := ((List.range ops.size).filter fun i => !listed.getD i false).length
theorem left_set {listed : Array Bool} (hl : listed.size = ops.size) {i : Nat} (hi : i < ops.size) (hn : ¬ lis listed i) : left ops (listed.setIfInBounds i true) + 1 ≤ left ops listed := by
  unfold left
  have hsub : ∀ (L : List Nat), L.Nodup → i ∈ L → ((L.filter fun j => !(listed.setIfInBounds i true).getD j false).length) + 1 ≤ (L.filter fun j => !listed.getD j false).length := by
    intro L
    induction L with
    | nil => intro _ h; cases h
    | cons x L ih =>
      intro hnd hm
      have hle : ∀ (M : List Nat), (M.filter fun j => !(listed.setIfInBounds i true).getD j false).length ≤ (M.filter fun j => !listed.getD j false).length := by
        intro M
        induction M with
        | nil => simp
        | cons y M ihM =>
          have himp : (!(listed.setIfInBounds i true).getD y false) = true → (!listed.getD y false) = true := by
            intro h
            have h1 : ¬ lis (listed.setIfInBounds i true) y := by unfold lis; simp at h ⊢; exact h
            rw [lis_set (by omega)] at h1
            have h2 : ¬ lis listed y := fun h => h1 (.inr h)
            unfold lis at h2
            simpa using h2
          simp only [List.filter_cons]
          cases e1 : (!(listed.setIfInBounds i true).getD y false) with
          | true => rw [himp e1]; simp only [if_true, List.length_cons]; omega
          | false =>
            cases e2 : (!listed.getD y false) with
            | true => simp only [Bool.false_eq_true, if_false, if_true, List.length_cons]; omega
            | false => simp only [Bool.false_eq_true, if_false]; exact ihM
      by_cases hx : x = i
      · subst hx
        have e1 : (!(listed.setIfInBounds x true).getD x false) = false := by
          have : lis (listed.setIfInBounds x true) x := (lis_set (by omega)).2 (.inl rfl)
          unfold lis at this
          rw [this]; rfl
        have e2 : (!listed.getD x false) = true := by unfold lis at hn; simpa using hn
        simp only [List.filter_cons, e1, e2, if_true, Bool.false_eq_true, if_false, List.length_cons]
        have := hle L
        omega
      · have hm' : i ∈ L := by
          rcases List.mem_cons.1 hm with h | h
          · exact absurd h.symm hx
          · exact h
        have ih' := ih (List.nodup_cons.1 hnd).2 hm'
        have e : (!(listed.setIfInBounds i true).getD x false) = (!listed.getD x false) := by
          simp only [Array.getD_eq_getD_getElem?]
          rw [Array.getElem?_setIfInBounds_ne (fun h => hx h.symm)]
        simp only [List.filter_cons, e]
        cases (!listed.getD x false) <;> simp only [Bool.false_eq_true, if_false, if_true, List.length_cons] <;> omega
  exact hsub _ List.nodup_range (List.mem_range.2 hi)
end
end Go.GL
