/- A region whose order is drawn, over ghost heaps: the rule. Condition: the program's orders are those of the model's mixed kind. -/
import Derived.Test.YtbpehbbdodahaaaGlJ
namespace Go.GL
open Go.RowKit

section
variable {P : Program} {N : Nat} {ops : Array Oper} {Q : Slots → GHeap → Prop} {Qx : Exit → Act → World → Prop} {B : Nat} {w0 : World} {ρ0 : Place}

theorem pend_keep {pre pre' : List Nat} {fr fr' : Slots} {Hb Hb' : GHeap} {j : Nat} (h : Pend P ops pre fr Hb j)
    (hr : ∀ i ∈ pre', i ∉ pre → ∀ s, (opAt ops i).dst = some s → (looks ops (opAt ops j)).contains s = true → (ctxOf ops).before j i = true)
    (hl : ∀ s, (looks ops (opAt ops j)).contains s = true → fr'.get s = fr.get s) (hd : ∀ s, (opAt ops j).dst = some s → fr'.get s = fr.get s) (hle : Hb.Le Hb') : Pend P ops pre' fr' Hb' j := by
  obtain ⟨h1, h2⟩ := h
  refine ⟨fun i hi s hs hls => ?_, ?_⟩
  · by_cases hip : i ∈ pre
    · exact h1 i hip s hs hls
    · exact hr i hi hip s hs hls
  · rcases h2 with ⟨hg, v, hm, hv⟩ | ⟨g, want, s, c, hg, hs, hc, hne, hv⟩
    · refine .inl ⟨?_, v, hm.congr (fun t ht u hu => by rw [hl t (looks_operand ht)]; exact hu) hle, fun d hdd => by rw [hd d hdd]; exact hv d hdd⟩
      rcases hg with hg | ⟨g, want, s, hg, hs, hb⟩
      · exact .inl hg
      · exact .inr ⟨g, want, s, hg, hs, by rw [hl s (looks_guard hg hs)]; exact hb⟩
    · exact .inr ⟨g, want, s, c, hg, hs, by rw [hl s (looks_guard hg hs)]; exact hc, hne, fun d hdd => by rw [hd d hdd]; exact hv d hdd⟩

theorem putS_get {fr : Slots} {d : Option Tmp} {v : Option Value} {s : Tmp} (h : d ≠ some s) : (putS fr d v).get s = fr.get s := by
  cases d with
  | none => rfl
  | some t => simp only [putS, get_cons]; rw [if_neg (fun e => h (by rw [e]))]
theorem putS_same {fr : Slots} {d : Tmp} {v : Option Value} : (putS fr (some d) v).get d = v := by simp [putS, get_cons]

/-- The tree's quiet step. -/
theorem settle {pre : List Nat} {t : Tree} {fr : Slots} {Hb H : GHeap} {ρ : Place} {listed : Array Bool} {a : Act} {w : World} {i : Nat} (h : Inv P N ops Q B w0 ρ0 pre (.q i t) fr Hb H ρ listed a w) :
    ∃ fr' Hb', Inv P N ops Q B w0 ρ0 (i :: pre) t fr' Hb' H ρ listed a w := by
  have hok := h.ok
  simp only [Ctx.ok, Bool.and_eq_true] at hok
  obtain ⟨⟨⟨_, hcan⟩, hfr⟩, hrest⟩ := hok
  obtain ⟨hlt, hni, hdeps, hreads⟩ := can_parts hcan
  have hnl : ¬ lis listed i := fun hl => hni (h.sub i hl)
  obtain ⟨o, ho, hdst, htree⟩ := h.tree
  have hop : opAt ops i = o := opAt_of ho
  -- what the new frame keeps
  have build : ∀ (v : Option Value) (Hq : GHeap), Hb.Le Hq → Hq.Le H → GTree P N ops Q t (putS fr o.dst v) Hq H → Pend P ops (i :: pre) (putS fr o.dst v) Hq i → Inv P N ops Q B w0 ρ0 (i :: pre) t (putS fr o.dst v) Hq H ρ listed a w := by
    intro v Hq hb hq ht hp
    refine ⟨hrest, ht, hq, h.ext, h.sim, h.size, h.defers, h.lsize, fun k hk => by simp [h.sub k hk], h.closed, .cons hdeps h.chain, fun k hk => ?_, fun k hk => ?_, fun s u hu hcond => ?_, fun j hj hjn => ?_⟩
    · rcases List.mem_cons.1 hk with rfl | hk
      · exact hlt
      · exact h.lt k hk
    · rcases List.mem_cons.1 hk with rfl | hk
      · rw [hop]; exact hdst
      · exact h.dsts k hk
    · have hne : o.dst ≠ some s := by have := hcond i (by simp) hnl; rwa [hop] at this
      rw [putS_get hne] at hu
      exact h.frame s u hu fun j hj hjn => hcond j (by simp [hj]) hjn
    · rcases List.mem_cons.1 hj with rfl | hj
      · exact hp
      · have hpj := h.pend j hj hjn
        cases hd : o.dst with
        | none => exact pend_keep hpj (fun k hk hkn s hs hls => by
            rcases List.mem_cons.1 hk with rfl | hk
            · rw [hop, hd] at hs; cases hs
            · exact absurd hk hkn) (fun s _ => rfl) (fun s _ => rfl) hb
        | some d =>
          obtain ⟨hf1, hf2⟩ := fresh_parts hfr (d := d) (by rw [hop]; exact hd)
          obtain ⟨f1, f2⟩ := hf1 j hj
          refine pend_keep hpj (fun k hk hkn s hs hls => ?_) (fun s hls => putS_get (fun e => ?_)) (fun s hs => putS_get (fun e => ?_)) hb
          · rcases List.mem_cons.1 hk with rfl | hk
            · rw [hop, hd] at hs; cases hs; rw [f1] at hls; cases hls
            · exact absurd hk hkn
          · cases e; rw [f1] at hls; cases hls
          · cases e; exact f2 hs
  have selfReads : ∀ k ∈ i :: pre, ∀ s, (opAt ops k).dst = some s → (looks ops (opAt ops i)).contains s = true → (ctxOf ops).before i k = true := by
    intro k hk s hs hls
    rcases List.mem_cons.1 hk with rfl | hk
    · have := (fresh_parts hfr hs).2
      rw [this] at hls; cases hls
    · exact hreads k hk s hs hls
  have keepLooks : ∀ (v : Option Value) s, (looks ops o).contains s = true → (putS fr o.dst v).get s = fr.get s := by
    intro v s hls
    cases hd : o.dst with
    | none => rfl
    | some d =>
      have := (fresh_parts hfr (d := d) (by rw [hop]; exact hd)).2
      rw [hop] at this
      exact putS_get (fun e => by cases e; rw [this] at hls; cases hls)
  cases hg : o.guard with
  | none =>
    rw [hg] at htree
    obtain ⟨v, Hq, hb, hq, hm, ht⟩ := htree
    refine ⟨_, _, build (some v) Hq hb hq ht ⟨selfReads, .inl ⟨.inl (by rw [hop]; exact hg), v, ?_, fun d hd => ?_⟩⟩⟩
    · rw [hop]; exact hm.congr (fun t ht u hu => by rw [keepLooks _ t (looks_operand ht)]; exact hu) (.refl _)
    · rw [hop] at hd; rw [hd]; exact putS_same
  | some gw =>
    obtain ⟨g, want⟩ := gw
    rw [hg] at htree
    obtain ⟨s, c, hs, hc, h1, h2⟩ := htree
    have hls : (looks ops o).contains s = true := looks_guard hg hs
    by_cases hcw : c = want
    · obtain ⟨v, Hq, hb, hq, hm, ht⟩ := h1 hcw
      subst hcw
      refine ⟨_, _, build (some v) Hq hb hq ht ⟨selfReads, .inl ⟨.inr ⟨g, c, s, by rw [hop]; exact hg, hs, by rw [keepLooks _ s hls]; exact hc⟩, v, ?_, fun d hd => ?_⟩⟩⟩
      · rw [hop]; exact hm.congr (fun t ht u hu => by rw [keepLooks _ t (looks_operand ht)]; exact hu) (.refl _)
      · rw [hop] at hd; rw [hd]; exact putS_same
    · refine ⟨_, _, build none Hb (.refl _) h.le (h2 hcw) ⟨selfReads, .inr ⟨g, want, s, c, by rw [hop]; exact hg, hs, by rw [keepLooks _ s hls]; exact hc, hcw, fun d hd => ?_⟩⟩⟩
      rw [hop] at hd; rw [hd]; exact putS_same

theorem heads_ne {pre : List Nat} : ∀ {t : Tree}, (ctxOf ops).ok pre true t = true → ∃ i, i ∈ heads t
  | .done, h => by simp [Ctx.ok] at h
  | .q i t, h => by simp [Ctx.ok] at h
  | .c i k t, _ => ⟨i, by simp [heads]⟩
  | .or s t, h => by
    simp only [Ctx.ok, Bool.and_eq_true] at h
    obtain ⟨i, hi⟩ := heads_ne (t := s) h.1.2
    exact ⟨i, by simp [heads, hi]⟩

theorem Inv.finish {pre : List Nat} {t : Tree} {fr : Slots} {Hb H : GHeap} {ρ : Place} {listed : Array Bool} {a : Act} {w : World} (h : Inv P N ops Q B w0 ρ0 pre t fr Hb H ρ listed a w) (hnq : ∀ i t', t ≠ .q i t')
    (hr : Region.ready .any ops listed = []) (hq : ∀ ρ' fr' H' a' w', Q fr' H' → Ext ρ0 ρ' → Sim P B w0 ρ' H' w' → FRel N ρ' fr' a' → Qx .normal a' w') : Qx .normal a w := by
  have hall : ∀ j ∈ pre, lis listed j := fun j hj => Classical.byContradiction fun hn => by
    obtain ⟨k, hk, hkn, hkd⟩ := h.chain.first (S := lis listed) ⟨j, hj, hn⟩
    have : k ∈ Region.ready .any ops listed := (ready_iff h.lsize).2 ⟨h.lt k hk, hkn, hkd⟩
    rw [hr] at this
    cases this
  have nohead : ∀ i, i ∈ heads t → False := fun i hi => by
    obtain ⟨k, t', _, hcan, _⟩ := head_of h.ok h.tree hi
    obtain ⟨hlt, hni, hdeps, _⟩ := can_parts hcan
    have : i ∈ Region.ready .any ops listed := (ready_iff h.lsize).2 ⟨hlt, fun hl => hni (h.sub i hl), fun d hd => hall d (hdeps d hd)⟩
    rw [hr] at this
    cases this
  have hok := h.ok
  cases t with
  | done => exact hq ρ fr H a w h.tree h.ext h.sim ⟨h.size, h.defers, fun s v hv => h.frame s v hv fun j hj hn => absurd (hall j hj) hn⟩
  | q i t' => exact absurd rfl (hnq i t')
  | c i k t' => exact (nohead i (by simp [heads])).elim
  | or s t' =>
    simp only [Ctx.ok, Bool.and_eq_true] at hok
    obtain ⟨i, hi⟩ := heads_ne hok.1.2
    exact (nohead i (by simp [heads, hi])).elim

theorem FRelPut {fr : Slots} {a : Act} {ρ : Place} {o : Oper} (hsz : a.tmps.size = N) (hd : dstOk N o = true) {v : Option Value} {c : Value} (hv : ∀ x, v = some x → VRel ρ x c) {s : Tmp} {u : Value} (hu : (putS fr o.dst v).get s = some u)
    (hold : o.dst ≠ some s → fr.get s = some u → VRel ρ u (a.eval (.tmp s))) : VRel ρ u ((a.put o.dst c).eval (.tmp s)) := by
  cases hdst : o.dst with
  | none =>
    rw [hdst] at hu hold
    exact hold (by simp) hu
  | some d =>
    unfold dstOk at hd
    rw [hdst] at hd hu hold
    have hlt : d < N := by simpa [Nat.blt_eq] using hd
    rw [eval_put a d s c (by rw [hsz]; exact hlt)]
    by_cases e : d = s
    · subst e
      rw [putS_same] at hu
      rw [if_pos rfl]
      exact hv u hu
    · rw [if_neg e]
      exact hold (fun h => e (by cases h; rfl)) (by rw [putS_get (fun h => e (by cases h; rfl))] at hu; exact hu)

/-- A step of the schedule. -/
theorem Inv.step {pre : List Nat} {t : Tree} {fr : Slots} {Hb H : GHeap} {ρ : Place} {listed : Array Bool} {a : Act} {w : World} (h : Inv P N ops Q B w0 ρ0 pre t fr Hb H ρ listed a w) (hnq : ∀ i t', t ≠ .q i t') {i : Nat} (hi : i ∈ Region.ready .any ops listed)
    {K : Act → World → Prop} (hK : ∀ pre' t' fr' Hb' H' ρ' a' w', Inv P N ops Q B w0 ρ0 pre' t' fr' Hb' H' ρ' (listed.setIfInBounds i true) a' w' → K a' w') : wpOp P ops Qx i K a w := by
  obtain ⟨hlt, hnl, hdeps⟩ := (ready_iff h.lsize).1 hi
  have ho : ops[i]? = some (opAt ops i) := by unfold opAt; simp [Array.getD_eq_getD_getElem?, hlt]
  generalize hop : opAt ops i = o at *
  have hset : ∀ j, lis (listed.setIfInBounds i true) j ↔ j = i ∨ lis listed j := fun j => lis_set (by rw [h.lsize]; exact hlt)
  have hclosed : ∀ j, lis (listed.setIfInBounds i true) j → ∀ d ∈ depsOf (opAt ops j), lis (listed.setIfInBounds i true) d := by
    intro j hj d hd
    rw [hset] at hj ⊢
    rcases hj with rfl | hj
    · exact .inr (hdeps d (by rwa [hop] at hd))
    · exact .inr (h.closed j hj d hd)
  unfold wpOp
  simp only [ho]
  by_cases hip : i ∈ pre
  · -- it waits: the tree has its value
    have hp := h.pend i hip hnl
    obtain ⟨hreads, hp⟩ := hp
    rw [hop] at hp
    have hdk : dstOk N o = true := by have := h.dsts i hip; rwa [hop] at this
    have rel : ∀ s v, (looks ops o).contains s = true → fr.get s = some v → VRel ρ v (a.eval (.tmp s)) := fun s v hl hv =>
      h.looked (i := i) (fun j hj s' hs hls => hreads j hj s' hs hls) (by rw [hop]; exact hdeps) (by rw [hop]; exact hl) hv
    have after : ∀ (v : Option Value) (c : Value), (∀ d, o.dst = some d → fr.get d = v) → (∀ x, v = some x → VRel ρ x c) → K (a.put o.dst c) w := by
      intro v c hvd hvc
      refine hK pre t fr Hb H ρ _ _ ⟨h.ok, h.tree, h.le, h.ext, h.sim, ?_, ?_, by simp [h.lsize], fun j hj => ?_, hclosed, h.chain, h.lt, h.dsts, fun s u hu hcond => ?_, fun j hj hjn => h.pend j hj (fun hl => hjn ((hset j).2 (.inr hl)))⟩
      · cases o.dst <;> simp [Act.put, h.size]
      · cases o.dst <;> simp [Act.put, h.defers]
      · rcases (hset j).1 hj with rfl | hj
        · exact hip
        · exact h.sub j hj
      · cases hd : o.dst with
        | none =>
          refine h.frame s u hu fun j hj hjn => ?_
          by_cases e : j = i
          · subst e; rw [hop, hd]; simp
          · exact hcond j hj (fun hl => ((hset j).1 hl).elim e hjn)
        | some d =>
          have hd' := hdk
          unfold dstOk at hd'
          rw [hd] at hd'
          have hltN : d < N := by simpa [Nat.blt_eq] using hd'
          rw [eval_put a d s c (by rw [h.size]; exact hltN)]
          by_cases e : d = s
          · subst e
            rw [if_pos rfl]
            have := hvd d hd
            rw [hu] at this
            exact hvc u this.symm
          · rw [if_neg e]
            refine h.frame s u hu fun j hj hjn => ?_
            by_cases e2 : j = i
            · subst e2; rw [hop, hd]; exact fun h => e (by cases h; rfl)
            · exact hcond j hj (fun hl => ((hset j).1 hl).elim e2 hjn)
    have run : Region.wanted o (yielded ops a.tmps) = true → (∃ v, MStep P fr Hb o.op v ∧ ∀ d, o.dst = some d → fr.get d = some v) → (if Region.wanted o (yielded ops a.tmps) = true then o.wp P a w K Qx ∨ (o.asks P a w ∧ LetsOut Qx) else K (a.put o.dst undef) w) := by
      rintro hw ⟨v, hm, hv⟩
      rw [if_pos hw]
      have hm' : MStep P fr H o.op v := hm.congr (fun _ _ _ hu => hu) h.le
      obtain ⟨c, hc, hr⟩ := hm'.sound (a := a) (fun t u ht hu => rel t u (looks_operand ht) hu) h.sim o rfl
      exact .inl (upon_value hc (after (some v) c hv (fun x hx => by cases hx; exact hr)))
    rcases hp with ⟨hg, hv⟩ | ⟨g, want, s, c, hg, hs, hc, hne, hv⟩
    · refine run ?_ hv
      rcases hg with hg | ⟨g, want, s, hg, hs, hb⟩
      · exact wanted_none hg
      · rw [wanted_of hg hs (rel s _ (looks_guard hg hs) hb)]; simp
    · have hw := wanted_of (o := o) hg hs (rel s _ (looks_guard hg hs) hc)
      rw [if_neg (by rw [hw]; simp [hne])]
      exact after none undef hv (fun x hx => by cases hx)
  · -- the tree takes it now
    have hih : i ∈ heads t := covers_of h.ok hnq hlt hip (fun d hd => h.sub d (hdeps d (by rwa [hop] at hd)))
    obtain ⟨k, t', htree, hcan, hwr, hk, hok'⟩ := head_of h.ok h.tree hih
    obtain ⟨_, _, hdp, hreads⟩ := can_parts hcan
    obtain ⟨o', ho', hdk, htree⟩ := htree
    have : o' = o := by rw [ho] at ho'; exact (Option.some.inj ho').symm
    subst this
    have rel : ∀ s v, (looks ops o').contains s = true → fr.get s = some v → VRel ρ v (a.eval (.tmp s)) := fun s v hl hv =>
      h.looked (i := i) hreads (by rw [hop]; exact hdeps) (by rw [hop]; exact hl) hv
    -- who waits touches nothing that it writes
    have apart : ∀ j ∈ pre, ¬ lis listed j → ∀ d, o'.dst = some d → (looks ops (opAt ops j)).contains d = false ∧ (opAt ops j).dst ≠ some d := by
      intro j hj hjn d hd
      have no : ((looks ops (opAt ops j)).contains d = true ∨ (opAt ops j).dst = some d) → False := fun ht =>
        hjn (h.before (writes_parts hwr (d := d) (by rw [hop]; exact hd) hj ht) (by rw [hop]; exact hdeps))
      refine ⟨?_, fun e => no (.inr e)⟩
      cases e : (looks ops (opAt ops j)).contains d with
      | false => rfl
      | true => exact (no (.inl e)).elim
    have after : ∀ (v : Option Value) (c : Value) (Hb' H' : GHeap) (ρ' : Place) (w' : World), (∀ x, v = some x → VRel ρ' x c) → Ext ρ ρ' → Sim P B w0 ρ' H' w' → Hb'.Le H' → ((∃ j ∈ pre, ¬ lis listed j) → Hb.Le Hb') →
        GTree P N ops Q t' (putS fr o'.dst v) Hb' H' → K (a.put o'.dst c) w' := by
      intro v c Hb' H' ρ' w' hvc hext hsim hle hpend ht
      refine hK (i :: pre) t' _ Hb' H' ρ' _ _ ⟨hok', ht, hle, h.ext.trans hext, hsim, ?_, ?_, by simp [h.lsize], fun j hj => ?_, hclosed, .cons hdp h.chain, fun j hj => ?_, fun j hj => ?_, fun s u hu hcond => ?_, fun j hj hjn => ?_⟩
      · cases o'.dst <;> simp [Act.put, h.size]
      · cases o'.dst <;> simp [Act.put, h.defers]
      · rcases (hset j).1 hj with rfl | hj
        · simp
        · simp [h.sub j hj]
      · rcases List.mem_cons.1 hj with rfl | hj
        · exact hlt
        · exact h.lt j hj
      · rcases List.mem_cons.1 hj with rfl | hj
        · rw [hop]; exact hdk
        · exact h.dsts j hj
      · refine FRelPut h.size hdk hvc hu fun hne hus => ?_
        refine (h.frame s u hus fun j hj hjn => hcond j (by simp [hj]) (fun hl => ?_)).mono hext
        rcases (hset j).1 hl with rfl | hl
        · exact hip hj
        · exact hjn hl
      · have hjn' : ¬ lis listed j := fun hl => hjn ((hset j).2 (.inr hl))
        have hji : j ≠ i := fun e => hjn ((hset j).2 (.inl e))
        have hjp : j ∈ pre := (List.mem_cons.1 hj).elim (fun h => absurd h hji) id
        refine pend_keep (h.pend j hjp hjn') (fun k' hk' hkn s hs hls => ?_) (fun s hls => putS_get (fun e => ?_)) (fun s hs => putS_get (fun e => ?_)) (hpend ⟨j, hjp, hjn'⟩)
        · rcases List.mem_cons.1 hk' with rfl | hk'
          · rw [hop] at hs
            rw [(apart j hjp hjn' s hs).1] at hls; cases hls
          · exact absurd hk' hkn
        · rw [(apart j hjp hjn' s e).1] at hls; cases hls
        · exact (apart j hjp hjn' s e).2 hs
    have nopend : k = 0 → ¬ ∃ j ∈ pre, ¬ lis listed j := by
      rintro rfl ⟨j, hj, hjn⟩
      rcases hk with hk | hk
      · cases hk
      · exact hjn (h.before (hk.2 j hj) (by rw [hop]; exact hdeps))
    have run : Region.wanted o' (yielded ops a.tmps) = true → (CDo P o' fr H fun v H' => (k = 1 → Hb.Le H') ∧ GTree P N ops Q t' (putS fr o'.dst v) (if k = 1 then Hb else H') H') →
        (if Region.wanted o' (yielded ops a.tmps) = true then o'.wp P a w K Qx ∨ (o'.asks P a w ∧ LetsOut Qx) else K (a.put o'.dst undef) w) := by
      intro hw hc
      rw [if_pos hw]
      refine .inl (hc.run B w0 ρ a w h.sim (fun t u ht hu => rel t u (looks_operand ht) hu) K Qx fun ρ' v c H' w' ⟨h1, h2⟩ hext hsim hv => ?_)
      by_cases hk1 : k = 1
      · rw [if_pos hk1] at h2
        exact after v c Hb H' ρ' w' hv hext hsim (h1 hk1) (fun _ => .refl _) h2
      · rw [if_neg hk1] at h2
        have hk0 : k = 0 := hk.elim (fun h => absurd h hk1) (fun h => h.1)
        exact after v c H' H' ρ' w' hv hext hsim (.refl _) (fun hp => absurd hp (nopend hk0)) h2
    cases hg : o'.guard with
    | none =>
      rw [hg] at htree
      exact run (wanted_none hg) htree
    | some gw =>
      obtain ⟨g, want⟩ := gw
      rw [hg] at htree
      obtain ⟨s, c, hs, hc, h1, h2⟩ := htree
      have hw := wanted_of (o := o') hg hs (rel s _ (looks_guard hg hs) hc)
      by_cases hcw : c = want
      · exact run (by rw [hw]; simp [hcw]) (h1 hcw)
      · rw [if_neg (by rw [hw]; simp [hcw])]
        exact after none undef Hb H ρ w (fun x hx => by cases hx) (.refl ρ) h.sim h.le (fun _ => .refl _) (h2 hcw)

theorem tree_sound (hq : ∀ ρ' fr' H' a' w', Q fr' H' → Ext ρ0 ρ' → Sim P B w0 ρ' H' w' → FRel N ρ' fr' a' → Qx .normal a' w') : ∀ (fuel : Nat) (t : Tree) (pre : List Nat) (fr : Slots) (Hb H : GHeap) (ρ : Place) (listed : Array Bool) (a : Act) (w : World),
    Inv P N ops Q B w0 ρ0 pre t fr Hb H ρ listed a w → left ops listed ≤ fuel → wpAny P .any ops Qx fuel listed a w := by
  intro fuel
  induction fuel with
  | zero =>
    intro t
    induction t with
    | q i t ih =>
      intro pre fr Hb H ρ listed a w h hl
      obtain ⟨fr', Hb', h'⟩ := settle h
      exact ih _ _ _ _ _ _ _ _ h' hl
    | _ =>
      intro pre fr Hb H ρ listed a w h hl
      have hr : Region.ready .any ops listed = [] := by
        cases hrr : Region.ready .any ops listed with
        | nil => rfl
        | cons i l =>
          have hi : i ∈ Region.ready .any ops listed := by rw [hrr]; simp
          obtain ⟨h1, h2, _⟩ := (ready_iff h.lsize).1 hi
          have := left_set h.lsize h1 h2
          omega
      exact ⟨hr, h.finish (fun _ _ => by simp) hr hq⟩
  | succ fuel ihf =>
    intro t
    induction t with
    | q i t ih =>
      intro pre fr Hb H ρ listed a w h hl
      obtain ⟨fr', Hb', h'⟩ := settle h
      exact ih _ _ _ _ _ _ _ _ h' hl
    | _ =>
      intro pre fr Hb H ρ listed a w h hl
      refine ⟨fun hr => h.finish (fun _ _ => by simp) hr hq, fun i hi => ?_⟩
      obtain ⟨h1, h2, _⟩ := (ready_iff h.lsize).1 hi
      have hls := left_set h.lsize h1 h2
      exact h.step (fun _ _ => by simp) hi fun pre' t' fr' Hb' H' ρ' a' w' h' => ihf t' pre' fr' Hb' H' ρ' _ a' w' h' (by omega)
end

/-- A region whose order is drawn. -/
theorem GT.regionD {P : Program} {N : Nat} {Q : Exit → Slots → GHeap → Prop} {fr : Slots} {H : GHeap} {id : Nat} {ops : Array Oper} (hm : P.follows .mixedOrders = true) (t : Tree) (hok : (ctxOf ops).ok [] false t = true) (h : GTree P N ops (fun fr' H' => Q .normal fr' H') t fr H H) :
    GT P N (.region id ops true) Q fr H := fun B w0 ρ a w hs hf => by
  refine wp_region_any hm ?_
  refine tree_sound (ρ0 := ρ) (fun ρ' fr' H' a' w' hQ he hs' hf' => ⟨ρ', fr', H', hQ, he, hs', hf'⟩) ops.size t [] fr H H ρ _ a _ ⟨hok, h, .refl _, .refl ρ, hs.drew, hf.1, hf.2.1, by simp, fun i hi => ?_, fun i hi => ?_, .nil, (fun i hi => by cases hi), (fun i hi => by cases hi), fun s v hv _ => hf.2.2 s v hv, (fun j hj => by cases hj)⟩ ?_
  · unfold lis at hi
    simp [Array.getD_eq_getD_getElem?, Array.getElem?_replicate] at hi
    split at hi <;> simp at hi
  · unfold lis at hi
    simp [Array.getD_eq_getD_getElem?, Array.getElem?_replicate] at hi
    split at hi <;> simp at hi
  · unfold left
    exact Nat.le_trans (List.length_filter_le _ _) (by simp)
end Go.GL
