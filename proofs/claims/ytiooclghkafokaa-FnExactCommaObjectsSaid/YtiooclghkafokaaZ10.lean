/- Ranges over functions, over ghost heaps: the loop's record, the rounds, the marks among a call's deferred calls. No condition. -/
import Derived.Test.YtiooclghkafokaaZ9
import Derived.RangeFuncRecord
namespace Go.GL
open Go.RowKit

section
variable {P : Program} {B : Nat} {w0 : World} {ρ : Place} {H : GHeap} {w : World}
theorem Sim.allocO (hs : Sim P B w0 ρ H w) {R : Place → Nat → Obj → Prop} {m b} {x : Obj} (hR : R (place ρ H.next ⟨w.heap.size, 0, 0, 0⟩) w.heap.size x) :
    Sim P B w0 (place ρ H.next ⟨w.heap.size, 0, 0, 0⟩) (H.push (.oth R m b)) (w.alloc x) ∧ Ext ρ (place ρ H.next ⟨w.heap.size, 0, 0, 0⟩) := by
  have hext : Ext ρ (place ρ H.next ⟨w.heap.size, 0, 0, 0⟩) := place_ext (hs.dom _ (Nat.le_refl _))
  refine ⟨⟨fun g hg => ?_, fun g o hg => ?_, fun g g' o o' s s' h1 h2 h3 h4 h5 h6 h7 => ?_, by have := hs.base; simp; omega, hs.below.alloc hs.base _⟩, hext⟩
  · rw [GHeap.next_push] at hg
    simp only [place]
    rw [if_neg (by omega)]
    exact hs.dom g (by omega)
  · rcases Nat.lt_or_ge g H.next with hlt | hge
    · rw [GHeap.get_push_lt hlt] at hg
      exact (hs.live g o hg).keep hext fun s hsp => by
        have hb : s.blk < w.heap.size := by
          cases o with
          | row => obtain ⟨s', C', fz, h1, h2, _⟩ := hs.live g _ hg; rw [hsp] at h1; cases h1; exact (Array.getElem?_eq_some_iff.1 h2).1
          | map => obtain ⟨s', C', fz, h1, h2, _⟩ := hs.live g _ hg; rw [hsp] at h1; cases h1; exact (Array.getElem?_eq_some_iff.1 h2).1
          | oth => obtain ⟨s', x, h1, h2, _⟩ := hs.live g _ hg; rw [hsp] at h1; cases h1; exact (Array.getElem?_eq_some_iff.1 h2).1
        exact heap_alloc_old w _ hb
    · have hg' : g = H.next := by
        have := GHeap.ltg hg
        simp at this
        omega
      subst hg'
      rw [GHeap.get_push_new] at hg
      cases hg
      exact ⟨_, x, place_self, heap_alloc_new w _, hs.base, hR⟩
  · have old : ∀ {k : Nat} {y : GObj} {t : Spot}, (H.push (.oth R m b)).get k = some y → y.isOwn = true → place ρ H.next ⟨w.heap.size, 0, 0, 0⟩ k = some t → k ≠ H.next → ρ k = some t ∧ H.get k = some y ∧ t.blk < w.heap.size := by
      intro k y t hx ho ht hne
      have hlt : k < H.next := by have := GHeap.ltg hx; simp at this; omega
      rw [GHeap.get_push_lt hlt] at hx
      simp only [place, hne, if_false] at ht
      obtain ⟨s0, e0, _, e2⟩ := (hs.live k y hx).own ho
      rw [ht] at e0; cases e0
      exact ⟨ht, hx, e2⟩
    by_cases e1 : g = H.next
    · subst e1
      obtain ⟨_, _, hlt⟩ := old h2 h4 h7 (Ne.symm h5)
      rw [place_self] at h6
      cases h6
      simp only
      omega
    · obtain ⟨r1, r2, r3⟩ := old h1 h3 h6 e1
      by_cases e2 : g' = H.next
      · subst e2
        rw [place_self] at h7
        cases h7
        simp only
        omega
      · obtain ⟨t1, t2, t3⟩ := old h2 h4 h7 e2
        exact hs.apart g g' o o' s s' r2 t2 h3 h4 h5 r1 t1
theorem Sim.turnO (hs : Sim P B w0 ρ H w) {g : Nat} {R R' : Place → Nat → Obj → Prop} {m b m' b'} (hg : H.get g = some (.oth R m b)) {s : Spot} (hsp : ρ g = some s) {x : Obj} (hR : R' ρ s.blk x) :
    Sim P B w0 ρ (H.set g (some (.oth R' m' b'))) (w.putObj s.blk x) := by
  have hlt := GHeap.ltg hg
  obtain ⟨s0, x0, k1, k2, hB, _⟩ := hs.live _ _ hg
  rw [hsp] at k1
  cases k1
  have hsz := (Array.getElem?_eq_some_iff.1 k2).1
  refine ⟨fun k hk => hs.dom k (by simpa using hk), fun k o hk => ?_, fun k k' o o' t t' h1 h2 h3 h4 h5 h6 h7 => ?_, by rw [World.putObj_size]; exact hs.base, ?_⟩
  · by_cases ek : k = g
    · subst ek
      rw [GHeap.get_set_eq hlt] at hk
      cases hk
      exact ⟨s, x, hsp, World.putObj_heap_same hsz, hB, hR⟩
    · rw [GHeap.get_set_ne (Ne.symm ek)] at hk
      refine (hs.live k o hk).keep (.refl ρ) fun t ht => World.putObj_heap_other ?_
      cases ho : o.isOwn with
      | true => exact hs.apart k g o _ t s hk hg ho rfl ek ht hsp
      | false =>
        cases o with
        | row cells el own =>
          obtain ⟨s', _, _, e1, _, _, _, _, _, e7, _⟩ := hs.live _ _ hk
          rw [ht] at e1; cases e1
          have := e7 ho
          omega
        | map es => cases ho
        | oth => cases ho
  · have back : ∀ {k : Nat} {y : GObj}, (H.set g (some (.oth R' m' b'))).get k = some y → y.isOwn = true → ∃ z, H.get k = some z ∧ z.isOwn = true := by
      intro k y hx ho
      by_cases ek : k = g
      · subst ek; exact ⟨_, hg, rfl⟩
      · rw [GHeap.get_set_ne (Ne.symm ek)] at hx; exact ⟨y, hx, ho⟩
    obtain ⟨y, y1, y2⟩ := back h1 h3
    obtain ⟨z, z1, z2⟩ := back h2 h4
    exact hs.apart k k' y z t t' y1 z1 y2 z2 h5 h6 h7
  · exact hs.below.trans ⟨rfl, rfl, rfl, by rw [World.putObj_size]; exact Nat.le_refl _, fun k hk => World.putObj_heap_other (by omega)⟩
end

def dfrG : GObj := .oth (fun _ _ x => x = .deferred (some [])) (fun _ _ _ _ _ h => h) (fun _ _ _ _ _ _ h _ => h)
structure LoopM where
  N : Nat
  fr : Slots
  fn : FuncId
  ps : Array Tmp
  assign : Code
  body : Code
def recR (m : LoopM) (l : Nat) (st : LoopState) (pe : Option Code) (ρ : Place) (b : Nat) (x : Obj) : Prop :=
  b = l ∧ ∃ (T : Array Value) (d : Nat), x = .loop { state := st, pending := pe, fn := m.fn, tmps := T, params := m.ps, assign := m.assign, body := m.body, defers := d } ∧ FRel m.N [] ρ m.fr { tmps := T, defers := [] }
def recG (m : LoopM) (l : Nat) (st : LoopState) (pe : Option Code) : GObj :=
  .oth (recR m l st pe) (fun _ _ _ _ he ⟨h1, T, d, h2, h3⟩ => ⟨h1, T, d, h2, h3.mono he⟩)
    (fun _ _ _ _ _ he ⟨h1, T, d, h2, h3⟩ ⟨_, T', d', k2, k3⟩ => by
      refine ⟨h1, T, d, h2, h3.1, h3.2.1, fun t v hv => (h3.2.2 t v hv).back he (k3.2.2 t v hv)⟩)

def putPs : List Tmp → List Value → Slots → Slots
  | p :: ps, v :: vs, fr => putPs ps vs ((p, some v) :: fr)
  | _, _, fr => fr
theorem FRel.putPs {N : Nat} {ρ : Place} : ∀ {ps : List Tmp} {vs cs : List Value} {fr : Slots} {T : Array Value}, FRel N [] ρ fr { tmps := T, defers := [] } → LRel ρ vs cs → vs.length = ps.length → ps.all (fun p => Nat.blt p N) = true →
    FRel N [] ρ (GL.putPs ps vs fr) { tmps := (ps.zip cs).foldl (fun t (p, v) => t.setIfInBounds p v) T, defers := [] }
  | [], [], cs, fr, T, h, _, _, _ => by simpa [GL.putPs] using h
  | p :: ps, v :: vs, c :: cs, fr, T, h, hl, hn, hp => by
    simp only [List.all_cons, Bool.and_eq_true] at hp
    have hv : VRel ρ v c := hl.2 0 v c rfl rfl
    have ht : LRel ρ vs cs := ⟨by simpa using hl.1, fun i a b ha hb => hl.2 (i + 1) a b (by simpa using ha) (by simpa using hb)⟩
    have hlt : p < N := by simpa [Nat.blt_eq] using hp.1
    have h' : FRel N [] ρ ((p, some v) :: fr) { tmps := T.setIfInBounds p c, defers := [] } := by
      have := h.put (o := { dst := some p, op := .move (.tmp 0), guard := none, after := #[], type := 0, pos := "" }) (v := some v) (c := c) (by unfold dstOk; exact hp.1) (fun x hx => by cases hx; exact hv)
      simpa [putS, Act.put] using this
    have h2 := FRel.putPs h' ht (by simpa using hn) hp.2
    exact h2
  | [], _ :: _, _, _, _, _, _, hn, _ => by simp at hn
  | _ :: _, [], _, _, _, _, _, hn, _ => by simp at hn
  | _ :: _, _ :: _, [], _, _, _, hl, _, _ => by have := hl.1; simp at this

def GYield (P : Program) (l : Nat) (vs : List Value) (H : GHeap) (R : Bool → GHeap → Prop) : Prop :=
  ∀ (B : Nat) (w0 : World) (ρ : Place) (cargs : List Value) (w : World), Sim P B w0 ρ H w → LRel ρ vs cargs →
    ∃ fn tmps assign body, (Instr.yield l cargs.toArray).run P w = .ok (.round l fn tmps assign body) w ∧
      RoundIn Fence.wide 0 P l fn tmps assign body w fun e w' => ∃ b ρ' H', e = .returned (.bool b) ∧ R b H' ∧ Ext ρ ρ' ∧ Sim P B w0 ρ' H' w'
def roundG (r l : Nat) (m : LoopM) (R : Bool → GHeap → Prop) : Exit → Slots → GHeap → Prop
  | .normal, _, H => H.get r = some (recG m l .busy none) ∧ R true (H.set r (some (recG m l .ready none)))
  | .ret, _, H => H.get r = some (recG m l .busy none) ∧ R false (H.set r (some (recG m l .done (some .ret))))
  | _, _, _ => False
theorem GYield.of {P : Program} {l r : Nat} {m : LoopM} {vs : List Value} {H : GHeap} {R : Bool → GHeap → Prop} (hg : H.get r = some (recG m l .ready none)) (hn : vs.length = m.ps.size) (hp : m.ps.toList.all (fun p => Nat.blt p m.N) = true)
    (h : ∀ K : Slots → GHeap → Prop, (∀ fr' H', H'.get r = some (recG m l .ready none) → GT P m.N m.body (roundG r l m R) fr' (H'.set r (some (recG m l .busy none))) → K fr' H') → GT P m.N m.assign (thenG K fun _ _ _ => False) (putPs m.ps.toList vs m.fr) H) : GYield P l vs H R := by
  intro B w0 ρ cargs w hs hl
  obtain ⟨s, x, h1, h2, h3, h4, T, d, h5, h6⟩ := hs.live _ _ hg
  subst h4
  subst h5
  have hcs : cargs.toArray.size = m.ps.size := by simp [← hl.1, hn]
  have hy := run_yield (P := P) (args := cargs.toArray) h2 hcs
  refine ⟨_, _, _, _, hy, roundIn_of_wpIn trivial ?_⟩
  have hf := h6.putPs hl (by simpa using hn) hp
  have hz : ((m.ps.zip cargs.toArray).foldl (fun tmps (t, a) => tmps.setIfInBounds t a) T) = (m.ps.toList.zip cargs).foldl (fun t (p, v) => t.setIfInBounds p v) T := by
    rw [← Array.foldl_toList, Array.toList_zip]
  simp only [hz]
  refine wpIn_mono (h (fun fr' H' => H'.get r = some (recG m s.blk .ready none) ∧ GT P m.N m.body (roundG r s.blk m R) fr' (H'.set r (some (recG m s.blk .busy none)))) (fun fr' H' a b => ⟨a, b⟩) (some s.blk) [] B w0 ρ _ w hs hf) fun e a' w' ⟨ρ', fr', H', hq, he, hs', hf'⟩ => ?_
  cases e with
  | normal =>
    obtain ⟨hg', hb⟩ := hq
    obtain ⟨s', x', k1, k2, k3, k4, T', d', k5, k6⟩ := hs'.live _ _ hg'
    obtain rfl : s' = s := by have := he _ _ h1; rw [k1] at this; exact Option.some.inj this
    subst k5
    refine ⟨_, run_beginRound k2 rfl, ?_⟩
    have hs2 : Sim P B w0 ρ' (H'.set r (some (recG m s'.blk .busy none))) _ := hs'.turnO hg' k1 (x := .loop { state := .busy, pending := none, fn := m.fn, tmps := T', params := m.ps, assign := m.assign, body := m.body, defers := d' }) ⟨rfl, T', d', rfl, k6⟩
    refine wpIn_mono (hb (some s'.blk) [] B w0 ρ' a' _ hs2 hf') fun e2 a2 w2 ⟨ρ2, fr2, H2, hq2, he2, hs3, hf3⟩ => ?_
    have fin : ∀ (jump : Option Code), H2.get r = some (recG m s'.blk .busy none) → R jump.isNone (H2.set r (some (recG m s'.blk (if jump.isNone then .ready else .done) jump))) →
        ∃ v w4, (Instr.endRound s'.blk jump).run P w2 = .ok v w4 ∧ (∃ b ρ' H', Ending.returned v = .returned (.bool b) ∧ R b H' ∧ Ext ρ ρ' ∧ Sim P B w0 ρ' H' w4) := by
      intro jump hg2 hR
      obtain ⟨s2, x2, j1, j2, j3, j4, T2, d2, j5, j6⟩ := hs3.live _ _ hg2
      obtain rfl : s2 = s' := by have := he2 _ _ k1; rw [j1] at this; exact Option.some.inj this
      subst j5
      exact ⟨_, _, run_endRound jump j2, _, ρ2, _, rfl, hR, he.trans he2, hs3.turnO hg2 j1 ⟨rfl, T2, d2, rfl, j6⟩⟩
    cases e2 with
    | normal => exact fin none hq2.1 hq2.2
    | ret => exact fin (some .ret) hq2.1 hq2.2
    | exit => exact hq2.elim
    | goto => exact hq2.elim
    | panic => exact hq2.elim
    | outgrown => exact hq2.elim
  | exit => exact hq.elim
  | goto => exact hq.elim
  | ret => exact hq.elim
  | panic => exact hq.elim
  | outgrown => exact hq.elim

section
variable {P : Program} {o : Oper} {fr : Slots} {H : GHeap} {R : Option Value → GHeap → Prop}
theorem CDo.yield {l : Nat} {x : Operand} {args : Array Operand} {ts : Array TypeId} {vs : List Value} {Q : Bool → GHeap → Prop} (ho : o.op = .call { callee := .value x, args := args, argTypes := ts }) (hx : ev fr x = some (.func (.yield l) #[] #[]))
    (hv : evs fr args.toList = some vs) (hc : GYield P l vs H Q) (h : ∀ b H', Q b H' → R (some (.bool b)) H') : CDo P o fr H R := .mkI fun lo B w0 ρ a w hs hf next Qx hn => by
  have hf0 := hf
  rw [ho] at hf
  have hrel := evs_rel (xs := args.toList) hf (fun x hx => by simp only [Op.operands, Call.operands]; simp; exact .inr (by simpa using hx)) hv
  obtain ⟨_, ds, hd, hdr⟩ := (ev_rel hf (x := x) (by simp [Op.operands, Call.operands]) hx).func_inv
  obtain rfl : ds = #[] := by have := hdr.1; simp at this; exact Array.eq_empty_of_size_eq_zero (by simpa using this.symm)
  obtain ⟨fn, tmps, assign, body, hy, hr⟩ := hc B w0 ρ (args.toList.map a.eval) w hs hrel
  rw [show (args.toList.map a.eval).toArray = args.map a.eval from Array.ext' (by simp)] at hy
  have hex : (execOp a.eval o).run P w = .ok (.round l fn tmps assign body) w := by
    unfold execOp
    simp only [ho, resolve, hd, Deferred.ofValue, invoke, Sem.run_bind, Sem.run_pure, Result.andThen_ok, Array.empty_append, hy]
  refine ⟨fun _ _ => trivial, ?_⟩
  rw [Oper.semAt_eq _ _ _ (fun c hc => by rw [ho] at hc; cases hc), hex, Oper.uponIn_round]
  refine ⟨fun e => (by cases e), show RoundIn Fence.wide 0 P l fn tmps assign body w _ from hr.mono fun e w' ⟨b, ρ', H', he, hQ, hx, hs'⟩ => ?_⟩
  subst he
  exact hn ρ' (some (.bool b)) _ H' w' (h b H' hQ) hx hs' (fun y hy => by cases hy; exact .bool b)
end
section
variable {P : Program} {N : Nat} {ops : Array Oper} {Q : Slots → GHeap → Prop} {fr : Slots} {Hb H : GHeap} {t : Tree} {o : Oper} {i : Nat}
theorem GTree.yield0g {d s : Tmp} {l : Nat} {x : Operand} {args : Array Operand} {ts : Array TypeId} {vs : List Value} {R : Bool → GHeap → Prop} {j : Nat} {want : Bool} (hi : ops[i]? = some o) (hd : o.dst = some d) (hN : Nat.blt d N = true) (hg : o.guard = some (j, want)) (hs : guardSlot ops j = some s) (hb : fr.get s = some (.bool want))
    (ho : o.op = .call { callee := .value x, args := args, argTypes := ts }) (hx : ev fr x = some (.func (.yield l) #[] #[])) (hv : evs fr args.toList = some vs) (hc : GYield P l vs H R) (h : ∀ b H', R b H' → GTree P N ops Q t ((d, some (.bool b)) :: fr) H' H') : GTree P N ops Q (.c i 0 t) fr Hb H :=
  .c0g hi hd hN hg hs hb (R := fun ov X => ∃ b, ov = some (.bool b) ∧ R b X) (.yield ho hx hv hc fun b H' h => ⟨b, rfl, h⟩) fun _ H' ⟨b, h1, h2⟩ => by subst h1; exact h b H' h2
end
end Go.GL
namespace Go.Proofs.Ytiooclghkafokaa
open Go Go.GL Go.RowKit Go.Proofs
theorem on_94_Md : oneT Try.prog 94 = true := by kernel_rfl
theorem fo_98_0_Md : fieldOff Try.prog 98 0 = some 0 := by kernel_rfl
theorem fo_98_1_Md : fieldOff Try.prog 98 1 = some 1 := by kernel_rfl
theorem sz_94_Md : (Try.prog.info? 94).map (·.size) = some 1 := by kernel_rfl
set_option maxHeartbeats 4000000 in
theorem commaObjects_c {g0 o0 g1 o1 : Nat} {f k : Fun} {p q : FunP} {H : GHeap} (h : Fun.At H g0 o0 f p := by assumption) (h' : Fun.At H g1 o1 k q := by assumption) (ho : KmOk f k) :
    GCalls Try.prog 187 [.pointer (some ⟨g0, o0, none⟩), .pointer (some ⟨g1, o1, none⟩)] H (NewIntssR H (kmOb f k)) := by
  have hN := ho.n
  have q1 := ho.p.2.2.ol
  have q2 := ho.q.2.2.ol
  have hS := ho.p.2.1.1
  obtain ⟨n1, n2, n3, n4, n5⟩ := id hN
  refine GCalls.body (N := 55) (rs := [.tmp 4]) Try.func187 rfl rfl rfl rfl (fun Qx d3 hend => ?_)
  refine .fg [0, 1] rfl ?_
  have j := GHeap.Le.refl H
  have e := h
  have c := h'
  obtain ⟨fsf, ftf, u, o, a7, a6⟩ := h.get
  have hmf : MemN _ _ _ _ _ := ⟨rfl, h.1⟩
  have hif := h.2
  have hmsf : MemN _ _ _ _ _ := ⟨rfl, fsf.1⟩
  have hisf := fsf.2
  have hmtf : MemN _ _ _ _ _ := ⟨rfl, ftf.1⟩
  have hitf := ftf.2
  obtain ⟨fsk, ftk, m, l, a9, a8⟩ := h'.get
  have hmk : MemN _ _ _ _ _ := ⟨rfl, h'.1⟩
  have hik := h'.2
  have hmsk : MemN _ _ _ _ _ := ⟨rfl, fsk.1⟩
  have hisk := fsk.2
  have hmtk : MemN _ _ _ _ _ := ⟨rfl, ftk.1⟩
  have hitk := ftk.2
  refine .seq (fun K1 e4 => .region (.mv rfl (.nil (e4 _ _ (.seq (fun K2 f1 => .region ?_))))))
  refine .R rfl (.litA rfl sl_25_B ze_24_E rfl rfl rfl rfl) ?_
  rintro _ e0 ⟨d9, rfl, b8, ge12, b6⟩
  have nx_H12 := b8.1
  replace j := j.trans b8
  have lt_at12 := GHeap.ltg b6
  replace h := e.mono j
  replace h' := c.mono j
  clear fsf ftf u o a7 a6 hmf hif hmsf hisf hmtf hitf fsk ftk m l a9 a8 hmk hik hmsk hisk hmtk hitk
  obtain ⟨fsf, ftf, u, o, a7, a6⟩ := h.get
  have hmf : MemN _ _ _ _ _ := ⟨rfl, h.1⟩
  have hif := h.2
  have hmsf : MemN _ _ _ _ _ := ⟨rfl, fsf.1⟩
  have hisf := fsf.2
  have hmtf : MemN _ _ _ _ _ := ⟨rfl, ftf.1⟩
  have hitf := ftf.2
  obtain ⟨fsk, ftk, m, l, a9, a8⟩ := h'.get
  have hmk : MemN _ _ _ _ _ := ⟨rfl, h'.1⟩
  have hik := h'.2
  have hmsk : MemN _ _ _ _ _ := ⟨rfl, fsk.1⟩
  have hisk := fsk.2
  have hmtk : MemN _ _ _ _ _ := ⟨rfl, ftk.1⟩
  have hitk := ftk.2
  refine .mv rfl (.nil (f1 _ _ (.seq (fun K3 e8 => .seq (fun K4 e6 => .region (.mv rfl (.q rfl (.nilCheck rfl) (.q rfl (.fieldAddr fo_33_2_E rfl) ?_))))))))
  refine .q rfl (.load on_24_B rfl (by assumption)) ?_
  refine .q rfl (.len sl_24_A rfl) (.mv rfl (.nil (e6 _ _ ?_)))
  refine .block ?_
  refine .loopR (σ := Nat × (Nat → Option Addr) × Nat × Nat) [(0, some _), (1, some _), (16, some _), (17, some _)] (fun (a, rr, b2, b4) => [(18, some (.int .i64 (a : Int))), (5, some (.slice (some ⟨b2, 0, none⟩) b4 b4))]) (fun (a, rr, b2, b4) H' => St [d9] e0 H' ∧ H'.get b2 = some (.row ((slsL rr (kmO f k a 0 0))) 24 true) ∧ (b2 = d9 ∨ e0.next ≤ b2) ∧ b4 = (slsL rr (kmO f k a 0 0)).length ∧ a ≤ f.ob.length ∧ OwnL H.next H' 2 rr (kmO f k a 0 0)) (fun (a, rr, b2, b4) => f.ob.length - a) ((0, fun _ => none, _, _)) ⟨rfl, rfl, rfl, rfl, trivial⟩ ⟨rfl, rfl, trivial⟩ ?_ ?_
  ·
   refine ⟨.refl _ _, by first | assumption | exact b6 | simpa using b6, .inl rfl, by first | rfl | assumption | simp | omega, ?_⟩
   exact ⟨by omega, .nil _ _ _ _⟩
  rintro ⟨a, rr, b2, b4⟩ HL1 ⟨w, b0, pl_L5, b9, hI⟩ KL1 c7
  refine .forget (fr' := [(18, some (.int .i64 (a : Int))), (5, some (.slice (some ⟨b2, 0, none⟩) b4 b4)), (0, some _), (1, some _), (16, some _), (17, some _)]) ⟨rfl, rfl, rfl, rfl, rfl, rfl, trivial⟩ ?_
  have ge_L5 : H.next ≤ b2 := by omega
  have nx_HL1 := w.nx
  replace j := j.st w (fun k hk => ⟨by omega, trivial⟩)
  have lt_at_L5 := GHeap.ltg b0
  replace h := e.mono j
  replace h' := c.mono j
  clear fsf ftf u o a7 a6 hmf hif hmsf hisf hmtf hitf fsk ftk m l a9 a8 hmk hik hmsk hisk hmtk hitk
  obtain ⟨fsf, ftf, u, o, a7, a6⟩ := h.get
  have hmf : MemN _ _ _ _ _ := ⟨rfl, h.1⟩
  have hif := h.2
  have hmsf : MemN _ _ _ _ _ := ⟨rfl, fsf.1⟩
  have hisf := fsf.2
  have hmtf : MemN _ _ _ _ _ := ⟨rfl, ftf.1⟩
  have hitf := ftf.2
  obtain ⟨fsk, ftk, m, l, a9, a8⟩ := h'.get
  have hmk : MemN _ _ _ _ _ := ⟨rfl, h'.1⟩
  have hik := h'.2
  have hmsk : MemN _ _ _ _ _ := ⟨rfl, fsk.1⟩
  have hisk := fsk.2
  have hmtk : MemN _ _ _ _ _ := ⟨rfl, ftk.1⟩
  have hitk := ftk.2
  obtain ⟨ha, hR⟩ := hI
  refine .seq (fun K5 e5 => .region (.q rfl (.cmp rfl rfl rfl) (.nil (e5 _ _ (.seq (fun K6 e2 => ?_))))))
  refine .cond rfl (fun c4 => ?_) (fun c4 => ?_)
  ·
   simp only [sps] at c4
   refine .skip ?_
   refine e2 _ _ (.seq (fun K7 f0 => ?_))
   refine .block ?_
   refine .seq (fun K8 e3 => .region (.mv rfl ?_))
   refine .q rfl (.idxN sl_24_A (by assumption) rfl rfl (by omega)) ?_
   refine .q rfl (.loadI on_2_A (by assumption) rfl (by omega)) ?_
   refine .mv rfl (.mv rfl (.nil (e3 _ _ (.seq (fun K9 e9 => .region (.mv rfl (.q rfl (.nilCheck rfl) (.q rfl (.fieldAddr fo_33_2_E rfl) ?_))))))))
   refine .q rfl (.load on_24_B rfl (by assumption)) ?_
   refine .q rfl (.len sl_24_A rfl) (.mv rfl (.nil (e9 _ _ ?_)))
   refine .block ?_
   refine .loopR (σ := Nat × (Nat → Option Addr) × Nat × Nat) [(0, some _), (1, some _), (6, some _), (7, some _), (16, some _), (17, some _), (18, some _), (26, some _), (27, some _)] (fun (b, r2, d, a1) => [(28, some (.int .i64 (b : Int))), (5, some (.slice (some ⟨d, 0, none⟩) a1 a1))]) (fun (b, r2, d, a1) H' => St [b2] HL1 H' ∧ H'.get d = some (.row ((slsL r2 (kmO f k a b 0))) 24 true) ∧ (d = b2 ∨ HL1.next ≤ d) ∧ a1 = (slsL r2 (kmO f k a b 0)).length ∧ b ≤ k.ob.length ∧ OwnL H.next H' 2 r2 (kmO f k a b 0)) (fun (b, r2, d, a1) => k.ob.length - b) ((0, rr, _, _)) ⟨rfl, rfl, rfl, rfl, rfl, rfl, rfl, rfl, rfl, trivial⟩ ⟨rfl, rfl, trivial⟩ ?_ ?_
   ·
    refine ⟨.refl _ _, by first | assumption | exact b0 | simpa using b0, .inl rfl, by first | rfl | assumption | simp | omega, ?_⟩
    exact ⟨by omega, hR⟩
   rintro ⟨b, r2, d, a1⟩ HL2 ⟨z, y, pl_L5v2, ln_L5v2, hI⟩ KL2 d7
   refine .forget (fr' := [(28, some (.int .i64 (b : Int))), (5, some (.slice (some ⟨d, 0, none⟩) a1 a1)), (0, some _), (1, some _), (6, some _), (7, some _), (16, some _), (17, some _), (18, some _), (26, some _), (27, some _)]) ⟨rfl, rfl, rfl, rfl, rfl, rfl, rfl, rfl, rfl, rfl, rfl, trivial⟩ ?_
   have ge_L5v2 : H.next ≤ d := by omega
   have nx_HL2 := z.nx
   replace j := j.st z (fun k hk => ⟨by omega, trivial⟩)
   replace w := w.sA z
   have lt_at_L5v2 := GHeap.ltg y
   replace h := e.mono j
   replace h' := c.mono j
   clear fsf ftf u o a7 a6 hmf hif hmsf hisf hmtf hitf fsk ftk m l a9 a8 hmk hik hmsk hisk hmtk hitk
   obtain ⟨fsf, ftf, u, o, a7, a6⟩ := h.get
   have hmf : MemN _ _ _ _ _ := ⟨rfl, h.1⟩
   have hif := h.2
   have hmsf : MemN _ _ _ _ _ := ⟨rfl, fsf.1⟩
   have hisf := fsf.2
   have hmtf : MemN _ _ _ _ _ := ⟨rfl, ftf.1⟩
   have hitf := ftf.2
   obtain ⟨fsk, ftk, m, l, a9, a8⟩ := h'.get
   have hmk : MemN _ _ _ _ _ := ⟨rfl, h'.1⟩
   have hik := h'.2
   have hmsk : MemN _ _ _ _ _ := ⟨rfl, fsk.1⟩
   have hisk := fsk.2
   have hmtk : MemN _ _ _ _ _ := ⟨rfl, ftk.1⟩
   have hitk := ftk.2
   obtain ⟨hb, hR⟩ := hI
   refine .seq (fun K10 d2 => .region (.q rfl (.cmp rfl rfl rfl) (.nil (d2 _ _ (.seq (fun K11 d1 => ?_))))))
   refine .cond rfl (fun d6 => ?_) (fun d6 => ?_)
   ·
    simp only [sps] at d6
    have hHH : (kmH f k a b).length = (f.t.hom (f.ob.getD a 0) (k.ob.getD b 0)).length := rfl
    have hH40 : (kmH f k a b).length ≤ f.t.src.length := Cat.hom_le _ _ _
    refine .skip ?_
    refine d1 _ _ (.seq (fun K12 c8 => ?_))
    refine .block ?_
    refine .seq (fun K13 c3 => .region (.mv rfl ?_))
    refine .q rfl (.idxN sl_24_A (by assumption) rfl rfl (by omega)) ?_
    refine .q rfl (.loadI on_2_A (by assumption) rfl (by omega)) ?_
    refine .mv rfl (.mv rfl (.nil (c3 _ _ (.seq (fun K14 c6 => .region (.mv rfl (.q rfl (.nilCheck rfl) (.q rfl (.fieldAddr fo_33_1_E rfl) (.mv rfl (.mv rfl ?_))))))))))
    refine .call rfl rfl rfl rfl @Try.call123 rfl (hom_c (hS := hS)) ?_
    rintro _ e1 ⟨b1, g38, rfl, r, ge38⟩
    have nx_H38 := b1.1
    replace j := j.trans b1
    replace w := w.le b1
    replace z := z.le b1
    replace y := b1.2 _ _ y
    have lt_at38 := GHeap.ltg r
    replace h := e.mono j
    replace h' := c.mono j
    clear fsf ftf u o a7 a6 hmf hif hmsf hisf hmtf hitf fsk ftk m l a9 a8 hmk hik hmsk hisk hmtk hitk
    obtain ⟨fsf, ftf, u, o, a7, a6⟩ := h.get
    have hmf : MemN _ _ _ _ _ := ⟨rfl, h.1⟩
    have hif := h.2
    have hmsf : MemN _ _ _ _ _ := ⟨rfl, fsf.1⟩
    have hisf := fsf.2
    have hmtf : MemN _ _ _ _ _ := ⟨rfl, ftf.1⟩
    have hitf := ftf.2
    obtain ⟨fsk, ftk, m, l, a9, a8⟩ := h'.get
    have hmk : MemN _ _ _ _ _ := ⟨rfl, h'.1⟩
    have hik := h'.2
    have hmsk : MemN _ _ _ _ _ := ⟨rfl, fsk.1⟩
    have hisk := fsk.2
    have hmtk : MemN _ _ _ _ _ := ⟨rfl, ftk.1⟩
    have hitk := ftk.2
    have b5 := Ints.of_get r
    refine .q rfl (.len sl_24_A rfl) (.mv rfl (.nil (c6 _ _ ?_)))
    refine .block ?_
    refine .loopR (σ := Nat × (Nat → Option Addr) × Nat × Nat) [(0, some _), (1, some _), (6, some _), (7, some _), (8, some _), (16, some _), (17, some _), (18, some _), (26, some _), (27, some _), (28, some _), (38, some _), (39, some _)] (fun (i, r3, v, a0) => [(40, some (.int .i64 (i : Int))), (5, some (.slice (some ⟨v, 0, none⟩) a0 a0))]) (fun (i, r3, v, a0) H' => St [d] e1 H' ∧ H'.get v = some (.row ((slsL r3 (kmO f k a b i))) 24 true) ∧ (v = d ∨ e1.next ≤ v) ∧ a0 = (slsL r3 (kmO f k a b i)).length ∧ i ≤ (kmH f k a b).length ∧ OwnL H.next H' 2 r3 (kmO f k a b i)) (fun (i, r3, v, a0) => (kmH f k a b).length - i) ((0, r2, _, _)) ⟨rfl, rfl, rfl, rfl, rfl, rfl, rfl, rfl, rfl, rfl, rfl, rfl, rfl, trivial⟩ ⟨rfl, rfl, trivial⟩ ?_ ?_
    ·
     refine ⟨.refl _ _, by first | assumption | exact y | simpa using y, .inl rfl, by first | rfl | assumption | simp | omega, ?_⟩
     exact ⟨by omega, hR.keep (.of_le b1)⟩
    rintro ⟨i, r3, v, a0⟩ HL3 ⟨a2, g, pl_L5v3, ln_L5v3, hI⟩ KL3 c2
    refine .forget (fr' := [(40, some (.int .i64 (i : Int))), (5, some (.slice (some ⟨v, 0, none⟩) a0 a0)), (0, some _), (1, some _), (6, some _), (7, some _), (8, some _), (16, some _), (17, some _), (18, some _), (26, some _), (27, some _), (28, some _), (38, some _), (39, some _)]) ⟨rfl, rfl, rfl, rfl, rfl, rfl, rfl, rfl, rfl, rfl, rfl, rfl, rfl, rfl, rfl, trivial⟩ ?_
    have ge_L5v3 : H.next ≤ v := by omega
    have nx_HL3 := a2.nx
    replace j := j.st a2 (fun k hk => ⟨by omega, trivial⟩)
    replace w := w.sA a2
    replace z := z.sA a2
    replace r := a2.s r
    have lt_at_L5v3 := GHeap.ltg g
    replace h := e.mono j
    replace h' := c.mono j
    clear fsf ftf u o a7 a6 hmf hif hmsf hisf hmtf hitf fsk ftk m l a9 a8 hmk hik hmsk hisk hmtk hitk
    obtain ⟨fsf, ftf, u, o, a7, a6⟩ := h.get
    have hmf : MemN _ _ _ _ _ := ⟨rfl, h.1⟩
    have hif := h.2
    have hmsf : MemN _ _ _ _ _ := ⟨rfl, fsf.1⟩
    have hisf := fsf.2
    have hmtf : MemN _ _ _ _ _ := ⟨rfl, ftf.1⟩
    have hitf := ftf.2
    obtain ⟨fsk, ftk, m, l, a9, a8⟩ := h'.get
    have hmk : MemN _ _ _ _ _ := ⟨rfl, h'.1⟩
    have hik := h'.2
    have hmsk : MemN _ _ _ _ _ := ⟨rfl, fsk.1⟩
    have hisk := fsk.2
    have hmtk : MemN _ _ _ _ _ := ⟨rfl, ftk.1⟩
    have hitk := ftk.2
    clear b5
    have b5 := Ints.of_get r
    have rk := St.refl [v] HL3
    obtain ⟨hi, hR⟩ := hI
    have c1 := g
    have hln := kmO_le hN (a := a) (b := b) (i := i) (by omega) (by omega) hi
    have hfl : (slsL r3 (kmO f k a b i)).length = (kmO f k a b i).length := length_slsL _ _
    refine .seq (fun K15 d4 => .region (.q rfl (.cmp rfl rfl rfl) (.nil (d4 _ _ (.seq (fun K16 d0 => ?_))))))
    refine .cond rfl (fun d5 => ?_) (fun d5 => ?_)
    ·
     simp only [sps] at d5
     refine .skip ?_
     refine d0 _ _ (.seq (fun K17 d8 => ?_))
     refine .block ?_
     refine .seq (fun K18 c0 => .region ?_)
     refine .q rfl (.idxN sl_24_A (by first | assumption | exact SlA.of_row r (by first | rfl | (simp; done) | (simp <;> omega))) rfl rfl (by omega)) ?_
     refine .q rfl (.loadI on_2_A (by first | assumption | exact Ints.of_get r) rfl (by omega)) ?_
     refine .mv rfl (.nil (c0 _ _ (.region (.mv rfl (.mv rfl (.mv rfl (.mv rfl ?_)))))))
     refine .R rfl (.litA rfl sl_24_A ze_2_E rfl rfl rfl rfl) ?_
     rintro _ H48 ⟨e7, rfl, a5, ge48, b3⟩
     have nx_H48 := a5.1
     replace j := j.trans a5
     replace w := w.le a5
     replace z := z.le a5
     replace a2 := a2.le a5
     replace rk := rk.le a5
     replace r := a5.2 _ _ r
     replace g := a5.2 _ _ g
     have lt_at48 := GHeap.ltg b3
     replace h := e.mono j
     replace h' := c.mono j
     clear fsf ftf u o a7 a6 hmf hif hmsf hisf hmtf hitf fsk ftk m l a9 a8 hmk hik hmsk hisk hmtk hitk
     obtain ⟨fsf, ftf, u, o, a7, a6⟩ := h.get
     have hmf : MemN _ _ _ _ _ := ⟨rfl, h.1⟩
     have hif := h.2
     have hmsf : MemN _ _ _ _ _ := ⟨rfl, fsf.1⟩
     have hisf := fsf.2
     have hmtf : MemN _ _ _ _ _ := ⟨rfl, ftf.1⟩
     have hitf := ftf.2
     obtain ⟨fsk, ftk, m, l, a9, a8⟩ := h'.get
     have hmk : MemN _ _ _ _ _ := ⟨rfl, h'.1⟩
     have hik := h'.2
     have hmsk : MemN _ _ _ _ _ := ⟨rfl, fsk.1⟩
     have hisk := fsk.2
     have hmtk : MemN _ _ _ _ _ := ⟨rfl, ftk.1⟩
     have hitk := ftk.2
     clear b5
     have b5 := Ints.of_get r
     refine .R rfl (.litA rfl sl_25_B ze_24_E rfl rfl rfl rfl) ?_
     rintro _ H49 ⟨g49, rfl, a4, ge49, b7⟩
     have nx_H49 := a4.1
     replace j := j.trans a4
     replace w := w.le a4
     replace z := z.le a4
     replace a2 := a2.le a4
     replace rk := rk.le a4
     replace r := a4.2 _ _ r
     replace g := a4.2 _ _ g
     replace b3 := a4.2 _ _ b3
     have lt_at49 := GHeap.ltg b7
     replace h := e.mono j
     replace h' := c.mono j
     clear fsf ftf u o a7 a6 hmf hif hmsf hisf hmtf hitf fsk ftk m l a9 a8 hmk hik hmsk hisk hmtk hitk
     obtain ⟨fsf, ftf, u, o, a7, a6⟩ := h.get
     have hmf : MemN _ _ _ _ _ := ⟨rfl, h.1⟩
     have hif := h.2
     have hmsf : MemN _ _ _ _ _ := ⟨rfl, fsf.1⟩
     have hisf := fsf.2
     have hmtf : MemN _ _ _ _ _ := ⟨rfl, ftf.1⟩
     have hitf := ftf.2
     obtain ⟨fsk, ftk, m, l, a9, a8⟩ := h'.get
     have hmk : MemN _ _ _ _ _ := ⟨rfl, h'.1⟩
     have hik := h'.2
     have hmsk : MemN _ _ _ _ _ := ⟨rfl, fsk.1⟩
     have hisk := fsk.2
     have hmtk : MemN _ _ _ _ _ := ⟨rfl, ftk.1⟩
     have hitk := ftk.2
     clear b5
     have b5 := Ints.of_get r
     refine .R rfl (.appendV rfl sl_25_B ze_24_E rfl by_24_E sl_25_B rfl rfl (by assumption) (by assumption) (by first | omega | (simp <;> omega)) rfl rfl (by omega) (by omega)) ?_
     rintro _ H50 ⟨g50, rfl, a3, ge50, c9⟩
     have nx_H50 := a3.nx
     replace j := j.st a3 (fun k hk => ⟨by omega, trivial⟩)
     replace w := w.sA a3
     replace z := z.sA a3
     replace a2 := a2.sA a3
     replace rk := rk.sA a3
     replace r := a3.s r
     replace b3 := a3.s b3
     replace b7 := a3.s b7
     have lt_at50 := GHeap.ltg c9
     replace h := e.mono j
     replace h' := c.mono j
     clear fsf ftf u o a7 a6 hmf hif hmsf hisf hmtf hitf fsk ftk m l a9 a8 hmk hik hmsk hisk hmtk hitk
     obtain ⟨fsf, ftf, u, o, a7, a6⟩ := h.get
     have hmf : MemN _ _ _ _ _ := ⟨rfl, h.1⟩
     have hif := h.2
     have hmsf : MemN _ _ _ _ _ := ⟨rfl, fsf.1⟩
     have hisf := fsf.2
     have hmtf : MemN _ _ _ _ _ := ⟨rfl, ftf.1⟩
     have hitf := ftf.2
     obtain ⟨fsk, ftk, m, l, a9, a8⟩ := h'.get
     have hmk : MemN _ _ _ _ _ := ⟨rfl, h'.1⟩
     have hik := h'.2
     have hmsk : MemN _ _ _ _ _ := ⟨rfl, fsk.1⟩
     have hisk := fsk.2
     have hmtk : MemN _ _ _ _ _ := ⟨rfl, ftk.1⟩
     have hitk := ftk.2
     clear b5
     have b5 := Ints.of_get r
     refine .mv rfl (.nil (d8 _ _ (.region ?_)))
     refine .q rfl (.add rfl rfl rfl (by omega) (by omega)) ?_
     refine .mv rfl (.nil ?_)
     refine c2 ((i + 1, upd r3 (kmO f k a b i).length (some ⟨e7, 0, none⟩), _, _)) _ _ ?_ ?_ ⟨rfl, rfl, rfl, rfl, rfl, rfl, rfl, rfl, rfl, rfl, rfl, rfl, rfl, rfl, rfl, trivial⟩
     ·
      refine ⟨a2, by first | assumption | (rw [kmO_snoc, slsL_snoc]; assumption), by omega, by first | omega | (simp only [List.length_append, List.length_cons, List.length_nil] <;> omega) | (rw [kmO_snoc, slsL_snoc] <;> (first | omega | (simp only [List.length_append, List.length_cons, List.length_nil] <;> omega))), ?_⟩
      exact ⟨by omega, by rw [kmO_snoc]; exact hR.snoc (x := [(a : Int), (b : Int), (kmH f k a b).getD i 0]) (rk.lasts1 c1 rfl) (by assumption) (by omega) (by omega)⟩
     (dsimp only; omega)
    try simp only [sps] at d5
    refine .exit ?_
    refine c8 _ _ (.region ?_)
    refine .q rfl (.add rfl rfl rfl (by omega) (by omega)) ?_
    refine .mv rfl (.nil ?_)
    obtain rfl : i = (kmH f k a b).length := by omega
    refine d7 ((b + 1, r3, _, _)) _ _ ?_ ?_ ⟨rfl, rfl, rfl, rfl, rfl, rfl, rfl, rfl, rfl, rfl, rfl, trivial⟩
    ·
     refine ⟨z, by first | assumption | (rw [kmO_next2]; assumption), by omega, by first | omega | (simp only [List.length_append, List.length_cons, List.length_nil] <;> omega) | (rw [kmO_next2] <;> (first | omega | (simp only [List.length_append, List.length_cons, List.length_nil] <;> omega))), ?_⟩
     exact ⟨by omega, by rw [kmO_next2]; exact hR⟩
    (dsimp only; omega)
   try simp only [sps] at d6
   refine .exit ?_
   refine f0 _ _ (.region ?_)
   refine .q rfl (.add rfl rfl rfl (by omega) (by omega)) ?_
   refine .mv rfl (.nil ?_)
   obtain rfl : b = k.ob.length := by omega
   refine c7 ((a + 1, r2, _, _)) _ _ ?_ ?_ ⟨rfl, rfl, rfl, rfl, rfl, rfl, trivial⟩
   ·
    refine ⟨w, by first | assumption | (rw [kmO_next1]; assumption), by omega, by first | omega | (simp only [List.length_append, List.length_cons, List.length_nil] <;> omega) | (rw [kmO_next1] <;> (first | omega | (simp only [List.length_append, List.length_cons, List.length_nil] <;> omega))), ?_⟩
    exact ⟨by omega, by rw [kmO_next1]; exact hR⟩
   (dsimp only; omega)
  try simp only [sps] at c4
  refine .exit ?_
  refine e8 _ _ (.seq (fun K19 c5 => .region (.mv rfl (.mv rfl (.nil (c5 _ _ ?_))))))
  refine .ret ?_
  refine d3 _ _ ?_
  refine ⟨_, rfl, ?_⟩
  obtain rfl : a = f.ob.length := by omega
  exact ⟨j, _, rr, by rw [b9, length_slsL]; rfl, hR.done b0 (by omega)⟩
set_option maxHeartbeats 8000000 in
theorem pairs1_c {f k : Fun} {p q : FunP} {x y : List Int} {J : List (Int × Int) → Nat → Value → GHeap → Prop} {Jx : GHeap → Prop} {l b1 b2 b3 gk r gf of gg og gF : Nat} {ap aq : Option Addr} {vO vA : Value} {H0 H : GHeap} (ho : KmOk f k) (hx : KmX f k x) (hy : KmX f k y)
    (hf : Fun.At H0 gf of f p) (hk : Fun.At H0 gg og k q) (hx1 : Ints H0 ap x) (hy1 : Ints H0 aq y) (hle0 : H0.Le H) (n1 : H0.next ≤ gk) (n2 : H0.next ≤ r) (n3 : H0.next ≤ gF)
    (k1 : H.get b1 = some (.row [.pointer (some ⟨gk, 0, none⟩)] 94 true)) (k2 : H.get b2 = some (.row [.slice ap x.length x.length] 24 true)) (k3 : H.get b3 = some (.row [.slice aq y.length y.length] 24 true))
    (hgk : H.get gk = some (.row [.pointer (some ⟨gf, of, none⟩), .pointer (some ⟨gg, og, none⟩), vO, vA] 98 true)) (m1 : b1 ≠ gk ∧ b1 ≠ r ∧ b1 ≠ gF) (m2 : b2 ≠ gk ∧ b2 ≠ r ∧ b2 ≠ gF) (m3 : b3 ≠ gk ∧ b3 ≠ r ∧ b3 ≠ gF) (hlt : r < H.next ∧ gF < H.next)
    (hJ : J [] gF vA H) (hJle : ∀ {pre gV vA H H'}, J pre gV vA H → H.Le H' → J pre gV vA H')
    (hY : ∀ (i j gV : Nat) (vA : Value) (H' : GHeap), i < (kmU f x y).length → j < (kmV k x y).length → kmT f k x y ((kmU f x y).getD i 0, (kmV k x y).getD j 0) = true → J (kmS f k x y i j) gV vA H' → H'.get gk = some (.row [.pointer (some ⟨gf, of, none⟩), .pointer (some ⟨gg, og, none⟩), vO, vA] 98 true) →
      GYield Try.prog l [.int .i64 ((kmU f x y).getD i 0), .int .i64 ((kmV k x y).getD j 0)] H' fun b H'' => ∃ gV' vA', (gV' = gV ∨ H'.next ≤ gV') ∧ gV' < H''.next ∧ St [gk, r, gV] H' H'' ∧ H''.get gk = some (.row [.pointer (some ⟨gf, of, none⟩), .pointer (some ⟨gg, og, none⟩), vO, vA'] 98 true) ∧
        (b = true → J (kmS f k x y i j ++ [((kmU f x y).getD i 0, (kmV k x y).getD j 0)]) gV' vA' H'') ∧ (b = false → Jx H'')) :
    GCalls Try.prog 212 [.func (.yield l) #[] #[], .pointer (some ⟨b1, 0, none⟩), .pointer (some ⟨b2, 0, none⟩), .pointer (some ⟨b3, 0, none⟩)] H (fun _ H' => (∃ gV vA, J (kmP f k x y) gV vA H') ∨ Jx H') := by
  have hN := ho.n
  have q1 := ho.p.2.2.al
  have q2 := ho.q.2.2.al
  have q3 := ho.p.2.2.ar
  have q4 := ho.q.2.2.ar
  have q5 := ho.e
  have hS := ho.p.2.1.1
  have f5 := ho.p.1.1
  have g0 := ho.q.1.1
  have hcl := hS.cl
  obtain ⟨e1, e2, e3, e4, e5⟩ := id hN
  have q6 : k.t.src.length = f.t.src.length := by rw [q5]
  obtain ⟨x1, x2, x3, x4⟩ := id hx
  obtain ⟨y1, y2, y3, y4⟩ := id hy
  have hUU : (kmU f x y).length = (f.s.hom (x.getD 0 0) (y.getD 0 0)).length := rfl
  have hVV : (kmV k x y).length = (k.s.hom (x.getD 1 0) (y.getD 1 0)).length := rfl
  have hU40 : (kmU f x y).length ≤ f.s.src.length := Cat.hom_le _ _ _
  have hV40 : (kmV k x y).length ≤ k.s.src.length := Cat.hom_le _ _ _
  refine GCalls.body (N := 92) (rs := []) Try.func212 rfl rfl rfl rfl (fun Qx d9 d3 => ?_)
  refine .fg [0, 1, 2, 3] rfl ?_
  have lt_k1 := GHeap.ltg k1
  have lt_k2 := GHeap.ltg k2
  have lt_k3 := GHeap.ltg k3
  have lt_hgk := GHeap.ltg hgk
  have hfo := St.refl [gk, r, gF] H
  have hz := hle0.st hfo (fun k hk => ⟨by omega, by omega, by omega, trivial⟩)
  have hfz := hf.mono hz
  have hkz := hk.mono hz
  obtain ⟨fsf, ftf, a6, a3, c0, b9⟩ := hfz.get
  have hmf : MemN _ _ _ _ _ := ⟨rfl, hfz.1⟩
  have hif := hfz.2
  have hmsf : MemN _ _ _ _ _ := ⟨rfl, fsf.1⟩
  have hisf := fsf.2
  have hmtf : MemN _ _ _ _ _ := ⟨rfl, ftf.1⟩
  have hitf := ftf.2
  obtain ⟨fsg, ftg, a2, a7, c1, c2⟩ := hkz.get
  have hmg : MemN _ _ _ _ _ := ⟨rfl, hkz.1⟩
  have hig := hkz.2
  have hmsg : MemN _ _ _ _ _ := ⟨rfl, fsg.1⟩
  have hisg := fsg.2
  have hmtg : MemN _ _ _ _ _ := ⟨rfl, ftg.1⟩
  have hitg := ftg.2
  have ux := hx1.mono hz
  have uy := hy1.mono hz
  refine .seq (fun K1 f4 => .region ?_)
  refine .q rfl (.load on_94_Md rfl (by first | assumption | exact Mem.of_get k1 0 _ rfl)) ?_
  refine .q rfl (.nilCheck rfl) (.q rfl (.fieldAddr fo_98_0_Md rfl) ?_)
  refine .q rfl (.load on_79_G rfl (by first | assumption | exact Mem.of_get hgk 0 _ rfl)) ?_
  refine .q rfl (.nilCheck rfl) (.q rfl (.fieldAddr fo_33_1_E rfl) (.mv rfl (.nil (f4 _ _ (.seq (fun K2 g2 => ?_))))))
  refine .regionD mo_B (.q 0 (.q 1 (.q 2 (.q 3 (.q 4 (.q 5 (.q 6 (.q 7 (.q 8 (.q 9 (.q 10 (.q 11 (.q 14 (.c 12 1 (.q 13 (.done)))))))))))))))) (by kernel_rfl) ?_
  refine .q rfl (.load on_94_Md rfl (by first | assumption | exact Mem.of_get k1 0 _ rfl)) ?_
  refine .q rfl (.nilCheck rfl) (.q rfl (.fieldAddr fo_98_0_Md rfl) ?_)
  refine .q rfl (.load on_79_G rfl (by first | assumption | exact Mem.of_get hgk 0 _ rfl)) ?_
  refine .q rfl (.nilCheck rfl) (.q rfl (.fieldAddr fo_33_0_E rfl) ?_)
  refine .q rfl (.load on_24_B rfl (by first | assumption | exact Mem.of_get k2 0 _ rfl)) ?_
  refine .q rfl (.idxN (j := 0) sl_24_A (by assumption) rfl rfl (by omega)) ?_
  refine .q rfl (.loadI on_2_A (by assumption) rfl (by omega)) ?_
  refine .q rfl (.load on_24_B rfl (by first | assumption | exact Mem.of_get k3 0 _ rfl)) ?_
  refine .q rfl (.idxN (j := 0) sl_24_A (by assumption) rfl rfl (by omega)) ?_
  refine .q rfl (.loadI on_2_A (by assumption) rfl (by omega)) ?_
  refine .mv rfl rfl ?_
  refine .call1 rfl rfl rfl rfl rfl @Try.call123 rfl (hom_c (c := f.s) (hS := f5)) ?_
  rintro _ e9 ⟨b7, f1, rfl, g, ge28⟩
  have c6 := b7
  refine ⟨c6, ?_⟩
  have nx_H28 := b7.1
  replace hfo := hfo.le b7
  replace k1 := b7.2 _ _ k1
  replace k2 := b7.2 _ _ k2
  replace k3 := b7.2 _ _ k3
  replace hgk := b7.2 _ _ hgk
  have lt_at28 := GHeap.ltg g
  clear hz hfz hkz fsf ftf a6 a3 c0 b9 hmf hif hmsf hisf hmtf hitf fsg ftg a2 a7 c1 c2 hmg hig hmsg hisg hmtg hitg ux uy
  have hz := hle0.st hfo (fun k hk => ⟨by omega, by omega, by omega, trivial⟩)
  have hfz := hf.mono hz
  have hkz := hk.mono hz
  obtain ⟨fsf, ftf, a6, a3, c0, b9⟩ := hfz.get
  have hmf : MemN _ _ _ _ _ := ⟨rfl, hfz.1⟩
  have hif := hfz.2
  have hmsf : MemN _ _ _ _ _ := ⟨rfl, fsf.1⟩
  have hisf := fsf.2
  have hmtf : MemN _ _ _ _ _ := ⟨rfl, ftf.1⟩
  have hitf := ftf.2
  obtain ⟨fsg, ftg, a2, a7, c1, c2⟩ := hkz.get
  have hmg : MemN _ _ _ _ _ := ⟨rfl, hkz.1⟩
  have hig := hkz.2
  have hmsg : MemN _ _ _ _ _ := ⟨rfl, fsg.1⟩
  have hisg := fsg.2
  have hmtg : MemN _ _ _ _ _ := ⟨rfl, ftg.1⟩
  have hitg := ftg.2
  have ux := hx1.mono hz
  have uy := hy1.mono hz
  have c3 := Ints.of_get g
  refine .m rfl rfl rfl rfl c6 (.len sl_24_A rfl) ?_
  refine .done ?_
  refine g2 _ _ ?_
  refine .block ?_
  refine .loopR (σ := Nat × Nat × Value) [(0, some _), (1, some _), (2, some _), (3, some _), (5, some _), (28, some _), (29, some _)] (fun (i, gV, vB) => [(30, some (.int .i64 (i : Int)))]) (fun (i, gV, vB) H' => St [gk, r, gF] e9 H' ∧ H'.get gk = some (.row ([.pointer (some ⟨gf, of, none⟩), .pointer (some ⟨gg, og, none⟩), vO, vB]) 98 true) ∧ i ≤ (kmU f x y).length ∧ (gV = gF ∨ e9.next ≤ gV) ∧ gV < H'.next ∧ J (kmS f k x y i 0) gV vB H') (fun (i, gV, vB) => (kmU f x y).length - i) ((0, gF, vA)) ⟨rfl, rfl, rfl, rfl, rfl, rfl, rfl, trivial⟩ ⟨rfl, trivial⟩ ?_ ?_
  ·
   refine ⟨.refl _ _, by first | assumption | exact hgk | simpa using hgk, ?_⟩
   exact ⟨by omega, .inl rfl, by omega, by have := hJle hJ b7; simpa [kmS, nestL] using this⟩
  rintro ⟨i, gV, vB⟩ HL1 ⟨h, d, hI⟩ KL1 d6
  refine .forget (fr' := [(30, some (.int .i64 (i : Int))), (0, some _), (1, some _), (2, some _), (3, some _), (5, some _), (28, some _), (29, some _)]) ⟨rfl, rfl, rfl, rfl, rfl, rfl, rfl, rfl, trivial⟩ ?_
  have nx_HL1 := h.nx
  replace hfo := hfo.sA h
  have a1 : NE b1 gk := .a
  have b0 : NE b1 r := .a
  replace k1 := h.same _ _ ⟨a1.ne, b0.ne, (by first | assumption | omega), trivial⟩ k1
  have v : NE b2 gk := .a
  have b5 : NE b2 r := .a
  replace k2 := h.same _ _ ⟨v.ne, b5.ne, (by first | assumption | omega), trivial⟩ k2
  have w : NE b3 gk := .a
  have a9 : NE b3 r := .a
  replace k3 := h.same _ _ ⟨w.ne, a9.ne, (by first | assumption | omega), trivial⟩ k3
  have o : NE f1 gk := .a
  have a0 : NE f1 r := .a
  replace g := h.same _ _ ⟨o.ne, a0.ne, (by first | assumption | omega), trivial⟩ g
  have b8 := GHeap.ltg d
  clear hz hfz hkz fsf ftf a6 a3 c0 b9 hmf hif hmsf hisf hmtf hitf fsg ftg a2 a7 c1 c2 hmg hig hmsg hisg hmtg hitg ux uy
  have hz := hle0.st hfo (fun k hk => ⟨by omega, by omega, by omega, trivial⟩)
  have hfz := hf.mono hz
  have hkz := hk.mono hz
  obtain ⟨fsf, ftf, a6, a3, c0, b9⟩ := hfz.get
  have hmf : MemN _ _ _ _ _ := ⟨rfl, hfz.1⟩
  have hif := hfz.2
  have hmsf : MemN _ _ _ _ _ := ⟨rfl, fsf.1⟩
  have hisf := fsf.2
  have hmtf : MemN _ _ _ _ _ := ⟨rfl, ftf.1⟩
  have hitf := ftf.2
  obtain ⟨fsg, ftg, a2, a7, c1, c2⟩ := hkz.get
  have hmg : MemN _ _ _ _ _ := ⟨rfl, hkz.1⟩
  have hig := hkz.2
  have hmsg : MemN _ _ _ _ _ := ⟨rfl, fsg.1⟩
  have hisg := fsg.2
  have hmtg : MemN _ _ _ _ _ := ⟨rfl, ftg.1⟩
  have hitg := ftg.2
  have ux := hx1.mono hz
  have uy := hy1.mono hz
  clear c3
  have c3 := Ints.of_get g
  obtain ⟨hi, hgV, hgl, d5⟩ := hI
  refine .seq (fun K3 f8 => .region (.q rfl (.cmp rfl rfl rfl) (.nil (f8 _ _ (.seq (fun K4 f7 => ?_))))))
  refine .cond rfl (fun e6 => ?_) (fun e6 => ?_)
  ·
   simp only [sps] at e6
   obtain ⟨uu, uu1, uu2, uu3, uu4⟩ := Cat.hom_get (c := f.s) (x := x.getD 0 0) (y := y.getD 0 0) (i := i) (by omega)
   have q7 := q3 ((f.s.hom (x.getD 0 0) (y.getD 0 0)).getD i 0).toNat (by omega)
   refine .skip ?_
   refine f7 _ _ (.seq (fun K5 f6 => ?_))
   refine .block ?_
   refine .seq (fun K6 f2 => .region ?_)
   refine .q rfl (.idxN sl_24_A (by first | assumption | exact SlA.of_row g (by first | rfl | (simp; done) | (simp <;> omega))) rfl rfl (by omega)) ?_
   refine .q rfl (.loadI on_2_A (by first | assumption | exact Ints.of_get g) rfl (by omega)) ?_
   refine .mv rfl (.nil (f2 _ _ (.seq (fun K7 g1 => ?_))))
   refine .regionD mo_B (.q 0 (.q 1 (.q 2 (.q 3 (.q 4 (.q 5 (.q 6 (.q 7 (.q 8 (.q 9 (.q 10 (.q 11 (.q 14 (.c 12 1 (.q 13 (.done)))))))))))))))) (by kernel_rfl) ?_
   refine .q rfl (.load on_94_Md rfl (by first | assumption | exact Mem.of_get k1 0 _ rfl)) ?_
   refine .q rfl (.nilCheck rfl) (.q rfl (.fieldAddr fo_98_1_Md rfl) ?_)
   refine .q rfl (.load on_79_G rfl (by first | assumption | exact Mem.of_get d 1 _ rfl)) ?_
   refine .q rfl (.nilCheck rfl) (.q rfl (.fieldAddr fo_33_0_E rfl) ?_)
   refine .q rfl (.load on_24_B rfl (by first | assumption | exact Mem.of_get k2 0 _ rfl)) ?_
   refine .q rfl (.idxN (j := 1) sl_24_A (by assumption) rfl rfl (by omega)) ?_
   refine .q rfl (.loadI on_2_A (by assumption) rfl (by omega)) ?_
   refine .q rfl (.load on_24_B rfl (by first | assumption | exact Mem.of_get k3 0 _ rfl)) ?_
   refine .q rfl (.idxN (j := 1) sl_24_A (by assumption) rfl rfl (by omega)) ?_
   refine .q rfl (.loadI on_2_A (by assumption) rfl (by omega)) ?_
   refine .mv rfl rfl ?_
   refine .call1 rfl rfl rfl rfl rfl @Try.call123 rfl (hom_c (c := k.s) (hS := g0)) ?_
   rintro _ f0 ⟨a4, e8, rfl, a5, ge46⟩
   have c6 := a4
   refine ⟨c6, ?_⟩
   have nx_H46 := a4.1
   replace hfo := hfo.le a4
   replace h := h.le a4
   replace k1 := a4.2 _ _ k1
   replace k2 := a4.2 _ _ k2
   replace k3 := a4.2 _ _ k3
   replace g := a4.2 _ _ g
   replace d := a4.2 _ _ d
   have lt_at46 := GHeap.ltg a5
   clear hz hfz hkz fsf ftf a6 a3 c0 b9 hmf hif hmsf hisf hmtf hitf fsg ftg a2 a7 c1 c2 hmg hig hmsg hisg hmtg hitg ux uy
   have hz := hle0.st hfo (fun k hk => ⟨by omega, by omega, by omega, trivial⟩)
   have hfz := hf.mono hz
   have hkz := hk.mono hz
   obtain ⟨fsf, ftf, a6, a3, c0, b9⟩ := hfz.get
   have hmf : MemN _ _ _ _ _ := ⟨rfl, hfz.1⟩
   have hif := hfz.2
   have hmsf : MemN _ _ _ _ _ := ⟨rfl, fsf.1⟩
   have hisf := fsf.2
   have hmtf : MemN _ _ _ _ _ := ⟨rfl, ftf.1⟩
   have hitf := ftf.2
   obtain ⟨fsg, ftg, a2, a7, c1, c2⟩ := hkz.get
   have hmg : MemN _ _ _ _ _ := ⟨rfl, hkz.1⟩
   have hig := hkz.2
   have hmsg : MemN _ _ _ _ _ := ⟨rfl, fsg.1⟩
   have hisg := fsg.2
   have hmtg : MemN _ _ _ _ _ := ⟨rfl, ftg.1⟩
   have hitg := ftg.2
   have ux := hx1.mono hz
   have uy := hy1.mono hz
   clear c3
   have c3 := Ints.of_get g
   have d2 := Ints.of_get a5
   refine .m rfl rfl rfl rfl c6 (.len sl_24_A rfl) ?_
   refine .done ?_
   refine g1 _ _ ?_
   refine .block ?_
   refine .loopR (σ := Nat × Nat × Value) [(0, some _), (1, some _), (2, some _), (3, some _), (5, some _), (7, some _), (28, some _), (29, some _), (30, some _), (46, some _), (47, some _)] (fun (j, gW, vC) => [(48, some (.int .i64 (j : Int)))]) (fun (j, gW, vC) H' => St [gk, r, gV] f0 H' ∧ H'.get gk = some (.row ([.pointer (some ⟨gf, of, none⟩), .pointer (some ⟨gg, og, none⟩), vO, vC]) 98 true) ∧ j ≤ (kmV k x y).length ∧ (gW = gV ∨ f0.next ≤ gW) ∧ gW < H'.next ∧ J (kmS f k x y i j) gW vC H') (fun (j, gW, vC) => (kmV k x y).length - j) ((0, gV, vB)) ⟨rfl, rfl, rfl, rfl, rfl, rfl, rfl, rfl, rfl, rfl, rfl, trivial⟩ ⟨rfl, trivial⟩ ?_ ?_
   ·
    refine ⟨.refl _ _, by first | assumption | exact d | simpa using d, ?_⟩
    exact ⟨by omega, .inl rfl, by omega, hJle d5 a4⟩
   rintro ⟨j, gW, vC⟩ HL2 ⟨u, d, hI⟩ KL2 d0
   refine .forget (fr' := [(48, some (.int .i64 (j : Int))), (0, some _), (1, some _), (2, some _), (3, some _), (5, some _), (7, some _), (28, some _), (29, some _), (30, some _), (46, some _), (47, some _)]) ⟨rfl, rfl, rfl, rfl, rfl, rfl, rfl, rfl, rfl, rfl, rfl, rfl, trivial⟩ ?_
   have nx_HL2 := u.nx
   replace hfo := hfo.sA u
   replace h := h.sA u
   replace k1 := u.same _ _ ⟨a1.ne, b0.ne, (by first | assumption | omega), trivial⟩ k1
   replace k2 := u.same _ _ ⟨v.ne, b5.ne, (by first | assumption | omega), trivial⟩ k2
   replace k3 := u.same _ _ ⟨w.ne, a9.ne, (by first | assumption | omega), trivial⟩ k3
   replace g := u.same _ _ ⟨o.ne, a0.ne, (by first | assumption | omega), trivial⟩ g
   have a8 : NE e8 gk := .a
   have b6 : NE e8 r := .a
   replace a5 := u.same _ _ ⟨a8.ne, b6.ne, (by first | assumption | omega), trivial⟩ a5
   have b8 := GHeap.ltg d
   clear hz hfz hkz fsf ftf a6 a3 c0 b9 hmf hif hmsf hisf hmtf hitf fsg ftg a2 a7 c1 c2 hmg hig hmsg hisg hmtg hitg ux uy
   have hz := hle0.st hfo (fun k hk => ⟨by omega, by omega, by omega, trivial⟩)
   have hfz := hf.mono hz
   have hkz := hk.mono hz
   obtain ⟨fsf, ftf, a6, a3, c0, b9⟩ := hfz.get
   have hmf : MemN _ _ _ _ _ := ⟨rfl, hfz.1⟩
   have hif := hfz.2
   have hmsf : MemN _ _ _ _ _ := ⟨rfl, fsf.1⟩
   have hisf := fsf.2
   have hmtf : MemN _ _ _ _ _ := ⟨rfl, ftf.1⟩
   have hitf := ftf.2
   obtain ⟨fsg, ftg, a2, a7, c1, c2⟩ := hkz.get
   have hmg : MemN _ _ _ _ _ := ⟨rfl, hkz.1⟩
   have hig := hkz.2
   have hmsg : MemN _ _ _ _ _ := ⟨rfl, fsg.1⟩
   have hisg := fsg.2
   have hmtg : MemN _ _ _ _ _ := ⟨rfl, ftg.1⟩
   have hitg := ftg.2
   have ux := hx1.mono hz
   have uy := hy1.mono hz
   clear c3
   have c3 := Ints.of_get g
   clear d2
   have d2 := Ints.of_get a5
   obtain ⟨hj, hgW, hgl2, e0⟩ := hI
   refine .seq (fun K8 f3 => .region (.q rfl (.cmp rfl rfl rfl) (.nil (f3 _ _ (.seq (fun K9 f9 => ?_))))))
   refine .cond rfl (fun d4 => ?_) (fun d4 => ?_)
   ·
    simp only [sps] at d4
    obtain ⟨vv, vv1, vv2, vv3, vv4⟩ := Cat.hom_get (c := k.s) (x := x.getD 1 0) (y := y.getD 1 0) (i := j) (by omega)
    have q8 := q4 ((k.s.hom (x.getD 1 0) (y.getD 1 0)).getD j 0).toNat (by omega)
    have r1 := hS.row (f.ar.getD ((f.s.hom (x.getD 0 0) (y.getD 0 0)).getD i 0).toNat 0).toNat (by omega)
    have r2 := hS.row (x.getD 2 0).toNat (by omega)
    refine .skip ?_
    refine f9 _ _ (.seq (fun K10 c9 => ?_))
    refine .block ?_
    refine .seq (fun K11 d8 => .region ?_)
    refine .q rfl (.idxN sl_24_A (by first | assumption | exact SlA.of_row a5 (by first | rfl | (simp; done) | (simp <;> omega))) rfl rfl (by omega)) ?_
    refine .q rfl (.loadI on_2_A (by first | assumption | exact Ints.of_get a5) rfl (by omega)) ?_
    refine .mv rfl (.nil (d8 _ _ (.seq (fun K12 c8 => ?_))))
    refine .regionD mo_B (.q 0 (.q 1 (.q 2 (.q 3 (.q 4 (.q 5 (.q 6 (.q 7 (.q 8 (.q 9 (.q 10 (.q 11 (.q 12 (.q 13 (.q 15 (.q 16 (.q 17 (.q 18 (.q 19 (.q 20 (.q 21 (.q 22 (.q 23 (.q 24 (.q 25 (.q 26 (.q 27 (.q 28 (.c 14 1 (.c 29 0 (.q 30 (.q 31 (.q 32 (.q 33 (.q 34 (.c 35 0 (.q 36 (.q 37 (.done))))))))))))))))))))))))))))))))))))))) (by kernel_rfl) ?_
    refine .mv rfl rfl ?_
    refine .q rfl (.load on_94_Md rfl (by first | assumption | exact Mem.of_get k1 0 _ rfl)) ?_
    refine .q rfl (.nilCheck rfl) (.q rfl (.fieldAddr fo_98_0_Md rfl) ?_)
    refine .q rfl (.load on_79_G rfl (by first | assumption | exact Mem.of_get d 0 _ rfl)) ?_
    refine .q rfl (.nilCheck rfl) (.q rfl (.fieldAddr fo_33_3_E rfl) ?_)
    refine .q rfl (.load on_24_B rfl (by assumption)) ?_
    refine .mv rfl rfl ?_
    refine .q rfl (.idx1 sl_24_A (by assumption) rfl rfl (by omega) (by omega)) ?_
    refine .q rfl (.loadI on_2_A (by assumption) rfl (by omega)) ?_
    refine .q rfl (.load on_24_B rfl (by first | assumption | exact Mem.of_get k3 0 _ rfl)) ?_
    refine .q rfl (.idxN (j := 2) sl_24_A (by assumption) rfl rfl (by omega)) ?_
    refine .q rfl (.loadI on_2_A (by assumption) rfl (by omega)) ?_
    refine .mv rfl rfl ?_
    refine .q rfl (.load on_24_B rfl (by first | assumption | exact Mem.of_get k2 0 _ rfl)) ?_
    refine .q rfl (.idxN (j := 2) sl_24_A (by assumption) rfl rfl (by omega)) ?_
    refine .q rfl (.loadI on_2_A (by assumption) rfl (by omega)) ?_
    refine .q rfl (.load on_94_Md rfl (by first | assumption | exact Mem.of_get k1 0 _ rfl)) ?_
    refine .q rfl (.nilCheck rfl) (.q rfl (.fieldAddr fo_98_1_Md rfl) ?_)
    refine .q rfl (.load on_79_G rfl (by first | assumption | exact Mem.of_get d 1 _ rfl)) ?_
    refine .q rfl (.nilCheck rfl) (.q rfl (.fieldAddr fo_33_3_E rfl) ?_)
    refine .q rfl (.load on_24_B rfl (by assumption)) ?_
    refine .mv rfl rfl ?_
    refine .q rfl (.idx1 sl_24_A (by assumption) rfl rfl (by omega) (by omega)) ?_
    refine .q rfl (.loadI on_2_A (by assumption) rfl (by omega)) ?_
    refine .callQ1 rfl rfl rfl rfl rfl @Try.call118 rfl (then_c (c := f.t)) (.refl _) ?_
    refine .callQ0 rfl rfl rfl rfl rfl @Try.call118 rfl (then_c (c := f.t)) ?_
    refine .q rfl (.cmp rfl rfl rfl) (.mv rfl rfl ?_)
    refine .split (fun d1 => ?_) (fun d1 => ?_)
    ·
     simp only [sps] at d1
     have hT : kmT f k x y ((kmU f x y).getD i 0, (kmV k x y).getD j 0) = true := decide_eq_true d1
     refine .qg rfl (.move rfl) (.qg rfl (.move rfl) (.qg rfl (.move rfl) ?_))
     refine .yield0g rfl rfl rfl rfl rfl rfl rfl rfl rfl (hY i j gW vC _ (by omega) (by omega) hT e0 (by assumption)) ?_
     rintro bb87 H87 ⟨gX, vX, hgX87, hgl87, b4, e7, c5, c4⟩
     have nx_H87 := b4.nx
     replace hfo := hfo.sA b4
     replace h := h.sA b4
     replace u := u.sA b4
     replace k1 := b4.same _ _ ⟨a1.ne, b0.ne, (by first | assumption | omega), trivial⟩ k1
     replace k2 := b4.same _ _ ⟨v.ne, b5.ne, (by first | assumption | omega), trivial⟩ k2
     replace k3 := b4.same _ _ ⟨w.ne, a9.ne, (by first | assumption | omega), trivial⟩ k3
     replace g := b4.same _ _ ⟨o.ne, a0.ne, (by first | assumption | omega), trivial⟩ g
     replace a5 := b4.same _ _ ⟨a8.ne, b6.ne, (by first | assumption | omega), trivial⟩ a5
     have lt_at87 := GHeap.ltg e7
     clear hz hfz hkz fsf ftf a6 a3 c0 b9 hmf hif hmsf hisf hmtf hitf fsg ftg a2 a7 c1 c2 hmg hig hmsg hisg hmtg hitg ux uy
     have hz := hle0.st hfo (fun k hk => ⟨by omega, by omega, by omega, trivial⟩)
     have hfz := hf.mono hz
     have hkz := hk.mono hz
     obtain ⟨fsf, ftf, a6, a3, c0, b9⟩ := hfz.get
     have hmf : MemN _ _ _ _ _ := ⟨rfl, hfz.1⟩
     have hif := hfz.2
     have hmsf : MemN _ _ _ _ _ := ⟨rfl, fsf.1⟩
     have hisf := fsf.2
     have hmtf : MemN _ _ _ _ _ := ⟨rfl, ftf.1⟩
     have hitf := ftf.2
     obtain ⟨fsg, ftg, a2, a7, c1, c2⟩ := hkz.get
     have hmg : MemN _ _ _ _ _ := ⟨rfl, hkz.1⟩
     have hig := hkz.2
     have hmsg : MemN _ _ _ _ _ := ⟨rfl, fsg.1⟩
     have hisg := fsg.2
     have hmtg : MemN _ _ _ _ _ := ⟨rfl, ftg.1⟩
     have hitg := ftg.2
     have ux := hx1.mono hz
     have uy := hy1.mono hz
     clear c3
     have c3 := Ints.of_get g
     clear d2
     have d2 := Ints.of_get a5
     refine .qg rfl (.not rfl) (.q rfl (.pickT rfl rfl) ?_)
     refine .done ?_
     refine c8 _ _ ?_
     refine .cond rfl (fun c7 => ?_) (fun c7 => ?_)
     ·
      try simp only [sps] at c7
      refine .ret ?_
      refine d9 _ _ ?_
      first
      | exact .inr (c4 (by simpa using c7))
      | (have d7 : i = (kmU f x y).length := (by omega); subst d7; exact .inl ⟨_, _, d5⟩)
     have hJX := c5 (by simpa using c7)
     rw [← kmS_yes hT] at hJX
     refine .skip ?_
     refine c9 _ _ (.region ?_)
     refine .q rfl (.add rfl rfl rfl (by omega) (by omega)) ?_
     refine .mv rfl (.nil ?_)
     refine d0 ((j + 1, gX, vX)) _ _ ?_ ?_ ⟨rfl, rfl, rfl, rfl, rfl, rfl, rfl, rfl, rfl, rfl, rfl, rfl, trivial⟩
     ·
      refine ⟨u, by first | assumption | (rw [hvX]; assumption), ?_⟩
      exact ⟨by omega, by omega, by omega, hJX⟩
     (dsimp only; omega)
    simp only [sps] at d1
    have hT : kmT f k x y ((kmU f x y).getD i 0, (kmV k x y).getD j 0) = false := decide_eq_false d1
    obtain ⟨gX, hgX⟩ : ∃ z, z = gW := ⟨_, rfl⟩
    obtain ⟨vX, hvX⟩ : ∃ z, z = vC := ⟨_, rfl⟩
    have hJX : J (kmS f k x y i (j + 1)) gX vX HL2 := by rw [hgX, hvX, kmS_no hT]; exact e0
    refine .z rfl (.z rfl (.z rfl (.sgc rfl rfl rfl rfl rfl rfl (.z rfl (.q rfl (.pickF rfl rfl) ?_)))))
    refine .done ?_
    refine c8 _ _ ?_
    refine .condF rfl ?_
    refine .skip ?_
    refine c9 _ _ (.region ?_)
    refine .q rfl (.add rfl rfl rfl (by omega) (by omega)) ?_
    refine .mv rfl (.nil ?_)
    refine d0 ((j + 1, gX, vX)) _ _ ?_ ?_ ⟨rfl, rfl, rfl, rfl, rfl, rfl, rfl, rfl, rfl, rfl, rfl, rfl, trivial⟩
    ·
     refine ⟨u, by first | assumption | (rw [hvX]; assumption), ?_⟩
     exact ⟨by omega, by omega, by omega, hJX⟩
    (dsimp only; omega)
   try simp only [sps] at d4
   refine .exit ?_
   refine f6 _ _ (.region ?_)
   refine .q rfl (.add rfl rfl rfl (by omega) (by omega)) ?_
   refine .mv rfl (.nil ?_)
   obtain rfl : j = (kmV k x y).length := by omega
   refine d6 ((i + 1, gW, vC)) _ _ ?_ ?_ ⟨rfl, rfl, rfl, rfl, rfl, rfl, rfl, rfl, trivial⟩
   ·
    refine ⟨h, by assumption, ?_⟩
    exact ⟨by omega, by omega, by omega, by rw [kmS_next]; exact e0⟩
   (dsimp only; omega)
  try simp only [sps] at e6
  refine .exit ?_
  refine d3 _ _ ?_
  first
  | exact .inr (c4 (by simpa using c7))
  | (have d7 : i = (kmU f x y).length := (by omega); subst d7; exact .inl ⟨_, _, d5⟩)
theorem pairs_c {gk n m : Nat} {ap aq : Option Addr} {H : GHeap} :
    GCalls Try.prog 188 [.pointer (some ⟨gk, 0, none⟩), .slice ap n n, .slice aq m m] H (fun v H' => H.Le H' ∧ ∃ b1 b2 b3, v = .func (.func 212) #[] #[.pointer (some ⟨b1, 0, none⟩), .pointer (some ⟨b2, 0, none⟩), .pointer (some ⟨b3, 0, none⟩)] ∧
      H'.get b1 = some (.row [.pointer (some ⟨gk, 0, none⟩)] 94 true) ∧ H'.get b2 = some (.row [.slice ap n n] 24 true) ∧ H'.get b3 = some (.row [.slice aq m m] 24 true) ∧ H.next ≤ b1 ∧ H.next ≤ b2 ∧ H.next ≤ b3) := by
  refine GCalls.body (N := 8) (rs := [.tmp 6]) Try.func188 rfl rfl rfl rfl (fun Qx e hend => ?_)
  refine .fg [0, 1, 2] rfl ?_
  have a := GHeap.Le.refl H
  refine .seq (fun K1 i => .region ?_)
  refine .R rfl (.boxR rfl sz_94_Md rfl) ?_
  rintro _ H3 ⟨g3, rfl, h, ge3, b⟩
  have nx_H3 := h.1
  replace a := a.trans h
  have lt_at3 := GHeap.ltg b
  refine .R rfl (.boxR rfl sz_24_E rfl) ?_
  rintro _ H4 ⟨g4, rfl, f, ge4, c⟩
  have nx_H4 := f.1
  replace a := a.trans f
  replace b := f.2 _ _ b
  have lt_at4 := GHeap.ltg c
  refine .R rfl (.boxR rfl sz_24_E rfl) ?_
  rintro _ H5 ⟨g5, rfl, d, ge5, g⟩
  have nx_H5 := d.1
  replace a := a.trans d
  replace b := d.2 _ _ b
  replace c := d.2 _ _ c
  have lt_at5 := GHeap.ltg g
  refine .mv rfl (.nil (i _ _ (.seq (fun K2 j => .region (.q rfl (.makeFunc rfl) (.mv rfl (.nil (j _ _ ?_))))))))
  refine .ret ?_
  refine e _ _ ?_
  refine ⟨_, rfl, ?_⟩
  exact ⟨a, g3, g4, g5, rfl, b, c, g, by omega, by omega, by omega⟩
end Go.Proofs.Ytiooclghkafokaa
namespace Go.GL
open Go.RowKit

def Marks (ρ : Place) : List Nat → List Deferred → Prop
  | [], D => D = []
  | d :: M, D => ∃ s D', ρ d = some s ∧ D = { target := .collected s.blk, args := #[] } :: D' ∧ Marks ρ M D'
theorem Marks.mono {ρ ρ' : Place} (he : Ext ρ ρ') : ∀ {M : List Nat} {D : List Deferred}, Marks ρ M D → Marks ρ' M D
  | [], _, h => h
  | _ :: _, _, ⟨s, D', h1, h2, h3⟩ => ⟨s, D', he _ _ h1, h2, h3.mono he⟩

def GTM (P : Program) (N : Nat) (c : Code) (Q : Exit → Slots → GHeap → List Nat → Prop) (fr : Slots) (H : GHeap) (M : List Nat) : Prop :=
  ∀ (D : List Deferred) (B : Nat) (w0 : World) (ρ : Place) (a : Act) (w : World), Sim P B w0 ρ H w → Marks ρ M D → FRel N D ρ fr a →
    c.wp P (fun e a' w' => ∃ ρ' fr' H' M' D', Q e fr' H' M' ∧ Ext ρ ρ' ∧ Sim P B w0 ρ' H' w' ∧ Marks ρ' M' D' ∧ FRel N D' ρ' fr' a') a w

section
variable {P : Program} {N : Nat} {Q : Exit → Slots → GHeap → List Nat → Prop} {fr : Slots} {H : GHeap} {M : List Nat}
theorem GTM.lift {c : Code} {Q' : Exit → Slots → GHeap → Prop} (h : GT P N c Q' fr H) (hq : ∀ e fr' H', Q' e fr' H' → Q e fr' H' M) : GTM P N c Q fr H M := fun D B w0 ρ a w hs hm hf =>
  wpIn_wide.1 (wpIn_mono (h none D B w0 ρ a w hs hf) fun e a' w' ⟨ρ', fr', H', hQ, he, hs', hf'⟩ => ⟨ρ', fr', H', M, D, hq e fr' H' hQ, he, hs', hm.mono he, hf'⟩)
theorem GTM.seqG {x y : Code} (h : ∀ K : Slots → GHeap → Prop, (∀ fr' H', GTM P N y Q fr' H' M → K fr' H') → GT P N x (thenG K fun e fr' H' => Q e fr' H' M) fr H) : GTM P N (.seq x y) Q fr H M := fun D B w0 ρ a w hs hm hf => by
  refine wp_seq (wp_mono (wpIn_wide.1 (h (fun fr' H' => GTM P N y Q fr' H' M) (fun _ _ h => h) none D B w0 ρ a w hs hf)) fun e a' w' ⟨ρ', fr', H', hq, he, hs', hf'⟩ => ?_)
  cases e with
  | normal => exact wp_mono (hq D B w0 ρ' a' w' hs' (hm.mono he) hf') fun e a'' w'' ⟨ρ'', fr'', H'', M'', D'', hq', he', r⟩ => ⟨ρ'', fr'', H'', M'', D'', hq', he.trans he', r⟩
  | exit id => exact ⟨ρ', fr', H', M, D, hq, he, hs', hm.mono he, hf'⟩
  | goto l => exact ⟨ρ', fr', H', M, D, hq, he, hs', hm.mono he, hf'⟩
  | ret => exact ⟨ρ', fr', H', M, D, hq, he, hs', hm.mono he, hf'⟩
  | panic c => exact ⟨ρ', fr', H', M, D, hq, he, hs', hm.mono he, hf'⟩
  | outgrown => exact ⟨ρ', fr', H', M, D, hq, he, hs', hm.mono he, hf'⟩
def thenM (K : Slots → GHeap → List Nat → Prop) (Q : Exit → Slots → GHeap → List Nat → Prop) : Exit → Slots → GHeap → List Nat → Prop
  | .normal, fr, H, M => K fr H M
  | e, fr, H, M => Q e fr H M
def inBlockM (id : Nat) (Q : Exit → Slots → GHeap → List Nat → Prop) : Exit → Slots → GHeap → List Nat → Prop
  | .exit id', fr, H, M => bif Nat.beq id' id then Q .normal fr H M else Q (.exit id') fr H M
  | e, fr, H, M => Q e fr H M
theorem GTM.seq {x y : Code} (h : ∀ K : Slots → GHeap → List Nat → Prop, (∀ fr H M, GTM P N y Q fr H M → K fr H M) → GTM P N x (thenM K Q) fr H M) : GTM P N (.seq x y) Q fr H M := fun D B w0 ρ a w hs hm hf => by
  refine wp_seq (wp_mono (h (fun fr H M => GTM P N y Q fr H M) (fun _ _ _ h => h) D B w0 ρ a w hs hm hf) fun e a' w' ⟨ρ', fr', H', M', D', hq, he, hs', hm', hf'⟩ => ?_)
  cases e with
  | normal => exact wp_mono (hq D' B w0 ρ' a' w' hs' hm' hf') fun e a'' w'' ⟨ρ'', fr'', H'', M'', D'', hq', he', r⟩ => ⟨ρ'', fr'', H'', M'', D'', hq', he.trans he', r⟩
  | exit id => exact ⟨ρ', fr', H', M', D', hq, he, hs', hm', hf'⟩
  | goto l => exact ⟨ρ', fr', H', M', D', hq, he, hs', hm', hf'⟩
  | ret => exact ⟨ρ', fr', H', M', D', hq, he, hs', hm', hf'⟩
  | panic c => exact ⟨ρ', fr', H', M', D', hq, he, hs', hm', hf'⟩
  | outgrown => exact ⟨ρ', fr', H', M', D', hq, he, hs', hm', hf'⟩
theorem GTM.block {id : Nat} {c : Code} (h : GTM P N c (inBlockM id Q) fr H M) : GTM P N (.block id c) Q fr H M := fun D B w0 ρ a w hs hm hf => by
  refine wp_block (wp_mono (h D B w0 ρ a w hs hm hf) fun e a' w' ⟨ρ', fr', H', M', D', hq, he, hs', hm', hf'⟩ => ?_)
  cases e with
  | exit id' =>
    have hq2 : if id' = id then Q .normal fr' H' M' else Q (.exit id') fr' H' M' := by
      have h1 : (bif Nat.beq id' id then Q .normal fr' H' M' else Q (.exit id') fr' H' M') := hq
      by_cases hid : id' = id
      · subst hid
        rw [Nat.beq_refl] at h1
        rw [if_pos rfl]
        exact h1
      · have : Nat.beq id' id = false := by
          cases hb : Nat.beq id' id with
          | false => rfl
          | true => exact absurd (Nat.eq_of_beq_eq_true hb) hid
        rw [this] at h1
        rw [if_neg hid]
        exact h1
    unfold Exit.inBlock
    by_cases hid : id' = id
    · rw [if_pos hid] at hq2
      simp only [hid, if_true]
      exact ⟨ρ', fr', H', M', D', hq2, he, hs', hm', hf'⟩
    · rw [if_neg hid] at hq2
      simp only [hid, if_false]
      exact ⟨ρ', fr', H', M', D', hq2, he, hs', hm', hf'⟩
  | normal => exact ⟨ρ', fr', H', M', D', hq, he, hs', hm', hf'⟩
  | goto l => exact ⟨ρ', fr', H', M', D', hq, he, hs', hm', hf'⟩
  | ret => exact ⟨ρ', fr', H', M', D', hq, he, hs', hm', hf'⟩
  | panic c => exact ⟨ρ', fr', H', M', D', hq, he, hs', hm', hf'⟩
  | outgrown => exact ⟨ρ', fr', H', M', D', hq, he, hs', hm', hf'⟩
theorem GTM.ret (h : Q .ret fr H M) : GTM P N .ret Q fr H M := fun D _ _ ρ _ _ hs hm hf => wp_ret ⟨ρ, fr, H, M, D, h, .refl ρ, hs, hm, hf⟩
theorem GTM.forget {c : Code} {fr' : Slots} (hs : Sub fr' fr) (h : GTM P N c Q fr' H M) : GTM P N c Q fr H M := fun D B w0 ρ a w hsim hm hf => h D B w0 ρ a w hsim hm (hf.sub hs)
theorem GTM.loop {c : Code} {σ : Type} (F : σ → Slots) (I : σ → GHeap → List Nat → Prop) (μ : σ → Nat) (s0 : σ) (hF : Sub (F s0) fr) (hI : I s0 H M)
    (round : ∀ s H M, I s H M → ∀ K : Slots → GHeap → List Nat → Prop, (∀ s' fr' H' M', I s' H' M' → μ s' < μ s → Sub (F s') fr' → K fr' H' M') → GTM P N c (thenM K Q) (F s) H M) : GTM P N (.loop c) Q fr H M := fun D B w0 ρ a w hs hm hf => by
  intro b k cs
  have key : ∀ n s H M D ρ a w, μ s = n → I s H M → Sim P B w0 ρ H w → Marks ρ M D → FRel N D ρ (F s) a →
      ∃ e a' w', (∃ ρ' fr' H' M' D', Q e fr' H' M' ∧ Ext ρ ρ' ∧ Sim P B w0 ρ' H' w' ∧ Marks ρ' M' D' ∧ FRel N D' ρ' fr' a') ∧ Arrives P (lone (b.at a (.code c :: .inLoop c :: k)) cs w) b k cs e a' w' := by
    intro n
    induction n using Nat.strongRecOn with
    | _ n ih =>
      intro s H M D ρ a w hn hI hs hm hf
      have h1 := round s H M hI (fun fr' H' M' => ∃ s', I s' H' M' ∧ μ s' < μ s ∧ Sub (F s') fr') (fun s' fr' H' M' h1 h2 h3 => ⟨s', h1, h2, h3⟩) D B w0 ρ a w hs hm hf
      obtain ⟨e, a₁, w₁, ⟨ρ', fr', H', M', D', hq, he, hs', hm', hf'⟩, harr⟩ := h1 b (.inLoop c :: k) cs
      cases e with
      | normal =>
        obtain ⟨s', hI', hμ, hsub⟩ := hq
        obtain ⟨e₂, a₂, w₂, ⟨ρ₂, fr₂, H₂, M₂, D₂, hq₂, he₂, r⟩, harr₂⟩ := ih (μ s') (by omega) s' H' M' D' ρ' a₁ w₁ rfl hI' hs' hm' (hf'.sub hsub)
        exact ⟨e₂, a₂, w₂, ⟨ρ₂, fr₂, H₂, M₂, D₂, hq₂, he.trans he₂, r⟩, .of_steps (Steps.trans harr (.one step_inLoop)) harr₂⟩
      | exit id => exact ⟨_, a₁, w₁, ⟨ρ', fr', H', M', D', hq, he, hs', hm', hf'⟩, .pass (x := .inLoop c) rfl (fun _ _ => .inl (by simp)) harr⟩
      | goto l => exact ⟨_, a₁, w₁, ⟨ρ', fr', H', M', D', hq, he, hs', hm', hf'⟩, .pass (x := .inLoop c) rfl (fun _ _ => .inl (by simp)) harr⟩
      | ret => exact ⟨_, a₁, w₁, ⟨ρ', fr', H', M', D', hq, he, hs', hm', hf'⟩, .pass (x := .inLoop c) rfl (fun _ _ => .inl (by simp)) harr⟩
      | panic ch => exact ⟨_, a₁, w₁, ⟨ρ', fr', H', M', D', hq, he, hs', hm', hf'⟩, .pass (x := .inLoop c) rfl (fun _ _ => .inl (by simp)) harr⟩
      | outgrown => exact ⟨_, a₁, w₁, ⟨ρ', fr', H', M', D', hq, he, hs', hm', hf'⟩, .pass (x := .inLoop c) rfl (fun _ _ => .inl (by simp)) harr⟩
  obtain ⟨e, a', w', hq, harr⟩ := key _ s0 H M D ρ a w rfl hI hs hm (hf.sub hF)
  exact ⟨e, a', w', hq, .of_steps (.one step_loop) harr⟩

theorem GTM.rangeFunc {g : Operand} {ps : Array Tmp} {assign body : Code} {gf : FuncId} {cap : Array Value} (hg : ev fr g = some (.func (.func gf) #[] cap)) (hcall : ∀ (ax : Array Value) (w : World), (callFunc gf ax).run P w = .ok (.enter gf ax) w)
    (h : ∀ (l : Nat) (fn : FuncId), GCalls P gf (.func (.yield l) #[] #[] :: cap.toList) ((H.push dfrG).push (recG ⟨N, fr, fn, ps, assign, body⟩ l .ready none)) fun _ H' =>
      ∃ st pe, st ≠ .busy ∧ H'.get (H.next + 1) = some (recG ⟨N, fr, fn, ps, assign, body⟩ l st pe) ∧
        (pe = none ∧ Q .normal fr (H'.set (H.next + 1) (some (recG ⟨N, fr, fn, ps, assign, body⟩ l .exhausted pe))) (H.next :: M) ∨ pe = some .ret ∧ Q .ret fr (H'.set (H.next + 1) (some (recG ⟨N, fr, fn, ps, assign, body⟩ l .exhausted pe))) (H.next :: M))) :
    GTM P N (.rangeFunc g ps assign body) Q fr H M := fun D B w0 ρ a w hs hm hf => by
  refine wpIn_wide.1 (?_ : Code.wpIn Fence.wide 0 P (.rangeFunc g ps assign body) _ a w)
  refine wpIn_rangeFunc fun fn _ => ?_
  obtain ⟨_, ds, hd, hdr⟩ := (ev_rel (L := #[g]) (fun t v _ hv => hf.2.2 t v hv) (by simp) hg).func_inv
  obtain ⟨hs1, he1⟩ := hs.allocO (R := fun _ _ x => x = .deferred (some [])) (m := fun _ _ _ _ _ h => h) (b := fun _ _ _ _ _ _ h _ => h) (x := .deferred (some [])) rfl
  have hfr1 : FRel N [] (place ρ H.next ⟨w.heap.size, 0, 0, 0⟩) fr { tmps := a.tmps, defers := [] } := ⟨hf.1, rfl, fun t v hv => (hf.2.2 t v hv).mono he1⟩
  have hnx : (H.push dfrG).next = H.next + 1 := GHeap.next_push _ _
  have hsz : (w.alloc (.deferred (some []))).heap.size = w.heap.size + 1 := by simp
  obtain ⟨ρ2, hρ2⟩ : ∃ ρ2, ρ2 = place (place ρ H.next ⟨w.heap.size, 0, 0, 0⟩) (H.push dfrG).next ⟨(w.alloc (.deferred (some []))).heap.size, 0, 0, 0⟩ := ⟨_, rfl⟩
  have he2 : Ext (place ρ H.next ⟨w.heap.size, 0, 0, 0⟩) ρ2 := by rw [hρ2]; exact place_ext (hs1.dom _ (Nat.le_refl _))
  obtain ⟨W1, hW1⟩ : ∃ W1, W1 = (w.alloc (.deferred (some []))).alloc (.loop { state := .ready, pending := none, fn, tmps := a.tmps, params := ps, assign, body, defers := w.heap.size }) := ⟨_, rfl⟩
  have hs2 : Sim P B w0 ρ2 ((H.push dfrG).push (recG ⟨N, fr, fn, ps, assign, body⟩ (w.heap.size + 1) .ready none)) W1 := by
    rw [hρ2, hW1]
    exact (hs1.allocO ⟨hsz, a.tmps, w.heap.size, rfl, by have h5 := hfr1.mono he2; rw [hρ2] at h5; exact h5⟩).1
  have n : ρ2 H.next = some ⟨w.heap.size, 0, 0, 0⟩ := he2 _ _ place_self
  refine ⟨w.heap.size + 1, [{ target := .collected w.heap.size, args := #[] }], W1, { target := .fn (.func gf) ds, args := #[.func (.yield (w.heap.size + 1)) #[] #[]] }, W1, gf, #[.func (.yield (w.heap.size + 1)) #[] #[]] ++ ds, W1, by rw [hW1]; exact run_enterLoop_outer _ _ _ _ _, ?_, fun _ _ => trivial, ?_, fun e => (by cases e), callsIn_wide.2 ?_⟩
  · simp only [rangeCall, resolve, hd, Deferred.ofValue, Sem.run_bind, Sem.run_pure, Result.andThen_ok, List.map_toArray, List.map_cons, List.map_nil, Array.empty_append]
    rfl
  · simp only [invoke, hcall]
  · have hc := h (w.heap.size + 1) fn B w0 ρ2 (.func (.yield (w.heap.size + 1)) #[] #[] :: ds.toList) _ hs2 (.cons (.func _ rfl fun i h₁ => by simp at h₁) (hdr.mono (he1.trans he2)))
    rw [show (Value.func (.yield (w.heap.size + 1)) #[] #[] :: ds.toList).toArray = #[.func (.yield (w.heap.size + 1)) #[] #[]] ++ ds by apply Array.ext'; simp] at hc
    refine hc.mono fun e w3 ⟨v, c, ρ3, H3, hev, ⟨st, pe, hst, hg3, hq⟩, he3, hs3, _⟩ => ?_
    subst hev
    obtain ⟨s, x, k1, k2, k3, k4, T, d, k5, k6⟩ := hs3.live _ _ hg3
    subst k5
    have f : Sim P B w0 ρ3 (H3.set (H.next + 1) (some (recG ⟨N, fr, fn, ps, assign, body⟩ (w.heap.size + 1) .exhausted pe))) _ := hs3.turnO hg3 k1 ⟨k4, T, d, rfl, k6⟩
    rw [k4] at k2
    refine ⟨pe, _, run_endLoop k2 hst, ?_⟩
    have hext : Ext ρ ρ3 := he1.trans (he2.trans he3)
    have k : Marks ρ3 (H.next :: M) ({ target := .collected w.heap.size, args := #[] } :: D) := ⟨_, D, he3 _ _ n, rfl, hm.mono hext⟩
    have j : FRel N ({ target := .collected w.heap.size, args := #[] } :: D) ρ3 fr { a with defers := [{ target := .collected w.heap.size, args := #[] }] ++ a.defers } :=
      ⟨hf.1, by rw [← hf.2.1]; rfl, fun t v hv => (hf.2.2 t v hv).mono hext⟩
    rw [k4] at f
    rcases hq with ⟨rfl, hq⟩ | ⟨rfl, hq⟩
    · exact ⟨ρ3, fr, _, _, _, hq, hext, f, k, j⟩
    · exact wpIn_ret ⟨ρ3, fr, _, _, _, hq, hext, f, k, j⟩
end

theorem loadVar_one {P : Program} {B : Nat} {w0 : World} {ρ : Place} {H : GHeap} {w : World} (hs : Sim P B w0 ρ H w) {g off : Nat} {e : TypeId} {v c : Value} (hp : VRel ρ (.pointer (some ⟨g, off, none⟩)) c) (ht : oneT P e = true)
    (hc : H.cell g off = some v) : ∃ ad u, c = .pointer (some ad) ∧ (loadVar e ad).run P w = .ok u w ∧ VRel ρ v u := by
  obtain ⟨sp, hsp, rfl⟩ := hp.ptr_inv
  obtain ⟨u, hcell, hr⟩ := hs.cell hsp hc
  refine ⟨_, u, rfl, ?_, hr⟩
  simp only [loadVar, Sem.run_bind, oneT_run ht, Result.andThen_ok, Bool.false_eq_true, if_false, Go.load, Sem.run, hcell]

def Shut (M : List Nat) (H H' : GHeap) : Prop := H'.next = H.next ∧ ∀ g o, g ∉ M → H.get g = some o → H'.get g = some o
theorem Shut.nil (H : GHeap) : Shut [] H H := ⟨rfl, fun _ _ _ h => h⟩
theorem Shut.cons {d : Nat} {M : List Nat} {H H' : GHeap} {o : Option GObj} (h : Shut M (H.set d o) H') : Shut (d :: M) H H' :=
  ⟨h.1.trans (GHeap.next_set _ _ _), fun g x hg hx => h.2 g x (fun hm => hg (List.mem_cons_of_mem _ hm)) (by rw [GHeap.get_set_ne (fun e => hg (by simp [e]))]; exact hx)⟩

theorem leaves_marks {P : Program} {fn : Func} {tmps : Array Value} {B : Nat} {w0 : World} {R : Ending → World → Prop} : ∀ {M : List Nat} {D : List Deferred} {ρ : Place} {H : GHeap} {w : World}, Sim P B w0 ρ H w → Marks ρ M D → M.Nodup → (∀ d ∈ M, H.get d = some dfrG) →
    (∀ H' w', Shut M H H' → Sim P B w0 ρ H' w' → ∃ v, (results fn tmps).run P w' = .ok v w' ∧ R (.returned v) w') → LeavesInM Fence.wide 0 P fn tmps R D .returning w
  | [], D, ρ, H, w, hs, hm, _, _, h => by
    obtain rfl : D = [] := hm
    exact h H w (.nil H) hs
  | d :: M, D, ρ, H, w, hs, hm, hn, ha, h => by
    obtain ⟨s, D', h1, rfl, h3⟩ := hm
    have hg := ha d (by simp)
    obtain ⟨s', x, k1, k2, k3, rfl⟩ := hs.live _ _ hg
    obtain rfl : s' = s := by rw [h1] at k1; exact (Option.some.inj k1).symm
    have hnd := List.nodup_cons.1 hn
    have hs' : Sim P B w0 ρ (H.set d (some (.oth (fun _ _ _ => True) (fun _ _ _ _ _ h => h) (fun _ _ _ _ _ _ h _ => h)))) (w.putObj s'.blk (.deferred none)) := hs.turnO hg h1 trivial
    refine ⟨by simp, .inl ⟨s'.blk, _, rfl, run_takeDeferred k2, ?_⟩⟩
    exact leaves_marks hs' h3 hnd.2 (fun e he => by
      rw [GHeap.get_set_ne (fun h => hnd.1 (by rw [h]; exact he))]
      exact ha e (by simp [he])) fun H' w' hsh hsi => h H' w' hsh.cons hsi

def GRes2 (P : Program) (t e u f : Nat) (fr : Slots) (H : GHeap) (Q : Value → GHeap → Prop) : Prop :=
  ∃ (g o g' o' : Nat) (v x : Value), fr.get t = some (.pointer (some ⟨g, o, none⟩)) ∧ oneT P e = true ∧ H.cell g o = some v ∧ fr.get u = some (.pointer (some ⟨g', o', none⟩)) ∧ oneT P f = true ∧ H.cell g' o' = some x ∧ Q (.tuple #[v, x]) H
theorem GCalls.bodyM {P : Program} {f : FuncId} {fn : Func} {c : Code} {N t e u k : Nat} {args : List Value} {H : GHeap} {Q : Value → GHeap → Prop} (hf : P.funcs[f]? = some fn) (hb : fn.body = some c) (hn : fn.ntmps = N) (hrs : fn.results = #[.cell t e, .cell u k]) (hl : Nat.ble args.length N = true)
    (h : ∀ Qx : Exit → Slots → GHeap → List Nat → Prop, (∀ fr H' M, M.Nodup → (∀ d ∈ M, H'.get d = some dfrG) → (∀ H'', Shut M H' H'' → GRes2 P t e u k fr H'' Q) → Qx .ret fr H' M) → GTM P N c Qx (argSlots 0 args) H []) : GCalls P f args H Q := fun B w0 ρ cargs w hs hrel => by
  have hle : args.length ≤ N := Nat.le_of_ble_eq_true hl
  refine callsIn_wide.1 (callsIn_of_wp_marks hf hb trivial (n := 0) ?_ rfl)
  have h1 := h (fun e' fr H' M => e' = .ret ∧ M.Nodup ∧ (∀ d ∈ M, H'.get d = some dfrG) ∧ ∀ H'', Shut M H' H'' → GRes2 P t e u k fr H'' Q) (fun _ _ _ h1 h2 h3 => ⟨rfl, h1, h2, h3⟩) [] B w0 ρ { tmps := cargs.toArray ++ Array.replicate (fn.ntmps - cargs.toArray.size) undef, defers := [] } w hs rfl ⟨by simp [hn]; have := hrel.1; omega, rfl, fun t v hv => by
    obtain ⟨_, h2⟩ := argSlots_get args 0 t v hv
    obtain ⟨cv, h3, h4⟩ := hrel.get h2
    simp only [Nat.sub_zero] at h3
    unfold Act.eval
    simp only [Array.getD_eq_getD_getElem?]
    have hlt := (List.getElem?_eq_some_iff.1 h3).1
    rw [Array.getElem?_append_left (by simpa using hlt)]
    simp [h3]
    exact h4⟩
  refine wpIn_wide.2 (wp_mono h1 fun e' a' w' hh => ?_)
  obtain ⟨ρ', fr', H', M', D', ⟨rfl, hnd, hal, hres⟩, hext, hs', hm', hf'⟩ := hh
  show LeavesInM Fence.wide 0 P fn a'.tmps _ a'.defers .returning w'
  rw [hf'.2.1]
  refine leaves_marks hs' hm' hnd hal fun H'' w'' hsh hsi => ?_
  obtain ⟨g, o, g', o', v, x, r1, r2, r3, r4, r5, r6, hQ⟩ := hres H'' hsh
  obtain ⟨ad, y, had, hy, hvr⟩ := loadVar_one hsi (hf'.tmp r1) r2 r3
  obtain ⟨ad', y', had', hy', hvr'⟩ := loadVar_one hsi (hf'.tmp r4) r5 r6
  rw [Array.getD_eq_getD_getElem?] at had had'
  exact ⟨.tuple #[y, y'], by simp [results, hrs, had, had', asAddr, hy, hy'], .tuple #[v, x], .tuple #[y, y'], ρ', H'', rfl, hQ, hext, hsi, VRel.tuple_of (vs := [v, x]) (cs := [y, y']) (.cons hvr (.cons hvr' (.nil ρ')))⟩
end Go.GL
namespace Go.GL
open Go.RowKit
theorem GTM.loopR {P : Program} {N : Nat} {Q : Exit → Slots → GHeap → List Nat → Prop} {fr : Slots} {H : GHeap} {M : List Nat} {c : Code} {σ : Type} (rest : Slots) (F : σ → Slots) (I : σ → GHeap → Prop) (Mf : σ → List Nat) (μ : σ → Nat) (s0 : σ) (hr : Sub rest fr) (hF : Sub (F s0) fr) (hM : Mf s0 = M) (hI : I s0 H)
    (round : ∀ s H, I s H → ∀ K : Slots → GHeap → List Nat → Prop, (∀ s' fr' H', I s' H' → μ s' < μ s → Sub (F s' ++ rest) fr' → K fr' H' (Mf s')) → GTM P N c (thenM K Q) (F s ++ rest) H (Mf s)) : GTM P N (.loop c) Q fr H M :=
  GTM.loop (fun s => F s ++ rest) (fun s H M => I s H ∧ Mf s = M) μ s0 (hF.append hr) ⟨hI, hM⟩ fun s H M ⟨h1, h2⟩ K hK => by
    subst h2
    exact round s H h1 K fun s' fr' H' i1 i2 i3 => hK s' fr' H' _ ⟨i1, rfl⟩ i2 i3
theorem GTM.ofGT {P : Program} {N : Nat} {Q : Exit → Slots → GHeap → List Nat → Prop} {fr : Slots} {H : GHeap} {M : List Nat} {c : Code} (h : GT P N c (fun e fr' H' => Q e fr' H' M) fr H) : GTM P N c Q fr H M := .lift h fun _ _ _ h => h
theorem GTM.hold {P : Program} {N : Nat} {Q : Exit → Slots → GHeap → List Nat → Prop} {fr : Slots} {H : GHeap} {M : List Nat} {c : Code} (h : ∀ H', H.Le H' → H'.next = H.next + 1 → GTM P N c Q fr H' M) : GTM P N c Q fr H M := fun D B w0 ρ a w hs hm hf =>
  h ⟨H.objs ++ [none]⟩ ⟨by simp [GHeap.next], fun g o hg => by
    have hl : g < H.objs.length := GHeap.ltg hg
    unfold GHeap.get at hg ⊢
    rwa [List.getElem?_append_left hl]⟩ (by simp [GHeap.next]) D B w0 ρ a w hs.hold hm hf
theorem GTM.range {P : Program} {N : Nat} {Q : Exit → Slots → GHeap → List Nat → Prop} {fr : Slots} {H : GHeap} {M : List Nat} {g : Operand} {ps : Array Tmp} {assign body : Code} {gf : FuncId} {cap : Array Value} (hg : ev fr g = some (.func (.func gf) #[] cap)) (hcall : ∀ (ax : Array Value) (w : World), (callFunc gf ax).run P w = .ok (.enter gf ax) w)
    (h : ∀ (l : Nat) (fn : FuncId) (m : LoopM) (H2 : GHeap), m = ⟨N, fr, fn, ps, assign, body⟩ → H.Le H2 → H2.next = H.next + 2 → H2.get H.next = some dfrG → H2.get (H.next + 1) = some (recG m l .ready none) →
      GCalls P gf (.func (.yield l) #[] #[] :: cap.toList) H2 fun _ H' => ∃ st pe, st ≠ .busy ∧ H'.get (H.next + 1) = some (recG m l st pe) ∧
        (pe = none ∧ Q .normal fr (H'.set (H.next + 1) (some (recG m l .exhausted pe))) (H.next :: M) ∨ pe = some .ret ∧ Q .ret fr (H'.set (H.next + 1) (some (recG m l .exhausted pe))) (H.next :: M))) :
    GTM P N (.rangeFunc g ps assign body) Q fr H M := by
  refine .rangeFunc hg hcall fun l fn => ?_
  refine h l fn _ _ rfl ((GHeap.le_push _ _).trans (GHeap.le_push _ _)) (by simp) (GHeap.get_push_of (GHeap.get_push_new _ _)) ?_
  have := GHeap.get_push_new (H.push dfrG) (recG ⟨N, fr, fn, ps, assign, body⟩ l .ready none)
  rwa [GHeap.next_push] at this
theorem GYield.of2 {P : Program} {N l r : Nat} {fr0 : Slots} {fn : FuncId} {ps : Array Tmp} {assign body : Code} {m : LoopM} {vs : List Value} {H : GHeap} {R : Bool → GHeap → Prop} (hm : m = ⟨N, fr0, fn, ps, assign, body⟩) (hg : H.get r = some (recG m l .ready none)) (hn : vs.length = ps.size) (hp : ps.toList.all (fun p => Nat.blt p N) = true)
    (h : ∀ K : Slots → GHeap → Prop, (∀ fr' H', H'.get r = some (recG m l .ready none) → GT P N body (roundG r l m R) fr' (H'.set r (some (recG m l .busy none))) → K fr' H') → GT P N assign (thenG K fun _ _ _ => False) (putPs ps.toList vs fr0) H) : GYield P l vs H R := by
  subst hm
  exact GYield.of hg hn hp h
theorem St.fix {g : Nat} {bs : List Nat} {H H' : GHeap} {o : GObj} (s : St (g :: bs) H H') (h : H.get g = some o) (h' : H'.get g = some o) : St bs H H' :=
  ⟨s.nx, fun k x hk hx => by
    by_cases e : k = g
    · subst e; rw [h] at hx; cases hx; exact h'
    · exact s.same k x ⟨e, hk⟩ hx⟩
structure CmB (e e' : TypeId) (B : List (List Int)) (bb gk gF : Nat) (H1 : GHeap) (gA : Nat) (vB : Value) (H' : GHeap) : Prop where
  st : St [gk, gF] H1 H'
  gv : gA = gF ∨ H1.next ≤ gA
  lt : gA < H'.next
  ge : bb ≤ gA
  l40 : B.length ≤ 40
  ex : ∃ rA, vB = .slice (nz B.length gA) B.length B.length ∧ NO H' gA (slsL rA B) e' B.length ∧ OwnL bb H' e rA B
theorem CmB.le {e e' : TypeId} {B : List (List Int)} {bb gk gF gA : Nat} {H1 H' H'' : GHeap} {vB : Value} (h : CmB e e' B bb gk gF H1 gA vB H') (s : H'.Le H'') : CmB e e' B bb gk gF H1 gA vB H'' :=
  let ⟨rA, h1, h2, h3⟩ := h.ex
  ⟨h.st.le s, h.gv, by have := h.lt; have := s.1; omega, h.ge, h.l40, rA, h1, h2.le s, h3.keep (.of_le s)⟩
theorem CmB.now {e e' : TypeId} {B : List (List Int)} {bb gk gF gA : Nat} {H1 H' : GHeap} {vB : Value} (h : CmB e e' B bb gk gF H1 gA vB H') : CmB e e' B bb gk gA H' gA vB H' := ⟨.refl _ _, .inl rfl, h.lt, h.ge, h.l40, h.ex⟩
theorem CmB.back {e e' : TypeId} {B B' : List (List Int)} {bb gk gF gA gA' : Nat} {H1 H2 H' : GHeap} {vB vB' : Value} (h : CmB e e' B bb gk gF H1 gA vB H2) (h' : CmB e e' B' bb gk gA H2 gA' vB' H') : CmB e e' B' bb gk gF H1 gA' vB' H' := by
  refine ⟨h.st.st h'.st fun k hk ho => ⟨ho.1, ?_, trivial⟩, ?_, h'.lt, h'.ge, h'.l40, h'.ex⟩
  · rcases h.gv with e | e
    · rw [e]; exact ho.2.1
    · omega
  · have := h.st.nx
    have h1 := h.gv
    have h2 := h'.gv
    omega
theorem CmB.exT {e e' : TypeId} {B : List (List Int)} {bb gk gF gA g : Nat} {H1 H' H'' : GHeap} {vB : Value} (h : CmB e e' B bb gk gF H1 gA vB H') (s : St [g] H' H'') (h2 : g ≠ gA) (h3 : ∀ cs o, H'.get g ≠ some (.row cs e o)) :
    ∃ rA, vB = .slice (nz B.length gA) B.length B.length ∧ NO H'' gA (slsL rA B) e' B.length ∧ OwnL bb H'' e rA B := by
  obtain ⟨rA, e1, e2, e3⟩ := h.ex
  refine ⟨rA, e1, e2.st s ⟨Ne.symm h2, trivial⟩, e3.st s ?_⟩
  refine .cons (fun i hi ei => ?_) (.nil _ _)
  obtain ⟨x, r1, _, r3⟩ := e3.row i hi
  rw [r1] at ei
  cases ei
  exact h3 _ _ r3
theorem CmB.turn {e e' : TypeId} {B : List (List Int)} {bb gk gF gA g : Nat} {H1 H' H'' : GHeap} {vB : Value} (h : CmB e e' B bb gk gF H1 gA vB H') (s : St [g] H' H'') (h1 : H1.next ≤ g) (h2 : g ≠ gA) (h3 : ∀ cs o, H'.get g ≠ some (.row cs e o)) : CmB e e' B bb gk gF H1 gA vB H'' :=
  ⟨h.st.st s fun k hk _ => ⟨by omega, trivial⟩, h.gv, by have := h.lt; have := s.nx; omega, h.ge, h.l40, h.exT s h2 h3⟩
theorem CmB.turnN {e e' : TypeId} {B : List (List Int)} {bb gk gF gA g : Nat} {H1 H' H'' : GHeap} {vB : Value} (h : CmB e e' B bb gk gF H1 gA vB H') (s : St [g] H' H'') (h2 : g ≠ gA) (h3 : ∀ cs o, H'.get g ≠ some (.row cs e o)) : CmB e e' B bb gk gA H'' gA vB H'' :=
  ⟨.refl _ _, .inl rfl, by have := h.lt; have := s.nx; omega, h.ge, h.l40, h.exT s h2 h3⟩
structure CmM (b gA : Nat) (M : List Nat) (H' : GHeap) : Prop where
  nd : M.Nodup
  al : ∀ d ∈ M, b ≤ d ∧ d ≠ gA ∧ H'.get d = some dfrG
theorem CmM.le {b gA : Nat} {M : List Nat} {H' H'' : GHeap} (h : CmM b gA M H') (s : H'.Le H'') : CmM b gA M H'' := ⟨h.nd, fun d hd => ⟨(h.al d hd).1, (h.al d hd).2.1, s.2 _ _ (h.al d hd).2.2⟩⟩
theorem CmM.st {b gA : Nat} {M bs : List Nat} {H' H'' : GHeap} (h : CmM b gA M H') (s : St bs H' H'') (ho : ∀ d, b ≤ d → d ≠ gA → out bs d) : CmM b gA M H'' := ⟨h.nd, fun d hd => ⟨(h.al d hd).1, (h.al d hd).2.1, s.same _ _ (ho d (h.al d hd).1 (h.al d hd).2.1) (h.al d hd).2.2⟩⟩
theorem CmB.shut {e e' : TypeId} {B : List (List Int)} {bb gk gF gA b : Nat} {M : List Nat} {H1 H' H'' : GHeap} {vB : Value} (h : CmB e e' B bb gk gF H1 gA vB H') (hm : CmM b gA M H') (s : Shut M H' H'') : ∃ rA, vB = .slice (nz B.length gA) B.length B.length ∧ IntssR bb H'' (nz B.length gA) B rA := by
  obtain ⟨rA, e1, e2, e3⟩ := h.ex
  have hr : ∀ g cs e2 o, H'.get g = some (.row cs e2 o) → H''.get g = some (.row cs e2 o) := fun g cs e2 o hg => s.2 g _ (fun hgm => by rw [(hm.al g hgm).2.2] at hg; cases hg) hg
  have e2' : NO H'' gA (slsL rA B) e' B.length := ⟨by rw [s.1]; exact e2.lt, e2.or.imp id fun h => ⟨h.1, hr _ _ _ _ h.2⟩⟩
  exact ⟨rA, e1, OwnL.doneNO (e3.keep fun x xs hx => hr _ _ _ _ hx) e2' rfl h.ge⟩
end Go.GL
namespace Go.Proofs.Ytiooclghkafokaa
open Go Go.GL Go.RowKit Go.Proofs
theorem ze_94_Me : zeroT Try.prog 94 = some ([.pointer none], 1) := by kernel_rfl
theorem ze_4_Me : zeroT Try.prog 4 = some ([.bool false], 1) := by kernel_rfl
theorem bt_98_Me : buildT Try.prog 98 = some ([.pointer none, .pointer none, .slice none 0 0, .slice none 0 0], [(0, 1), (1, 1), (2, 1), (3, 1)]) := by kernel_rfl
theorem sz_98_Me : (Try.prog.info? 98).map (·.size) = some 4 := by kernel_rfl
theorem fo_98_2_Me : fieldOff Try.prog 98 2 = some 2 := by kernel_rfl
theorem sz_4_Me : (Try.prog.info? 4).map (·.size) = some 1 := by kernel_rfl
theorem on_4_Me : oneT Try.prog 4 = true := by kernel_rfl
theorem ze_3_Me : zeroT Try.prog 3 = some ([.int .i64 0], 1) := by kernel_rfl
theorem sz_3_Me : (Try.prog.info? 3).map (·.size) = some 1 := by kernel_rfl
theorem fo_98_3_Me : fieldOff Try.prog 98 3 = some 3 := by kernel_rfl
theorem on_3_Me : oneT Try.prog 3 = true := by kernel_rfl
def CmPost (H : GHeap) (f k : Fun) (v : Value) (H' : GHeap) : Prop :=
  H.Le H' ∧ ((v = .tuple #[.pointer none, .bool false] ∧ ¬ ((kmOb f k).length ≤ 8 ∧ (kmAr f k (kmOb f k)).length ≤ 40)) ∨
    (((kmOb f k).length ≤ 8 ∧ (kmAr f k (kmOb f k)).length ≤ 40) ∧ ∃ (gk : Nat) (a : Option Addr) (r : Nat → Option Addr) (b : Option Addr) (s : Nat → Option Addr), v = .tuple #[.pointer (some ⟨gk, 0, none⟩), .bool true] ∧
      H'.cell gk 2 = some (.slice a (kmOb f k).length (kmOb f k).length) ∧ H'.cell gk 3 = some (.slice b (kmAr f k (kmOb f k)).length (kmAr f k (kmOb f k)).length) ∧ IntssR H.next H' a (kmOb f k) r ∧ IntssR H.next H' b (kmAr f k (kmOb f k)) s))
set_option maxHeartbeats 8000000 in
theorem commaOf_c {g0 o0 g1 o1 : Nat} {f k : Fun} {p q : FunP} {H : GHeap} (h : Fun.At H g0 o0 f p := by assumption) (h' : Fun.At H g1 o1 k q := by assumption) (ho : KmOk f k) :
    GCalls Try.prog 141 [.pointer (some ⟨g0, o0, none⟩), .pointer (some ⟨g1, o1, none⟩)] H (CmPost H f k) := by
  have hob := kmOb_le ho.n
  refine GCalls.bodyM (N := 75) (t := 4) (e := 94) (u := 5) (k := 4) Try.func141 rfl rfl rfl rfl (fun Qx e2 => ?_)
  refine .forget (fr':=[(0, some _), (1, some _)]) ⟨rfl, rfl, trivial⟩ ?_
  refine .seqG (fun K1 n3 => ?_)
  refine .region ?_
  refine .R rfl (.allocR rfl ze_94_Me rfl) ?_
  rintro _ H4 ⟨g4, rfl, l6, ge4, d2⟩
  have nx_H4 := l6.1
  have lt_at4 := GHeap.ltg d2
  refine .R rfl (.allocR rfl ze_4_Me rfl) ?_
  rintro _ H5 ⟨g5, rfl, h9, ge5, d3⟩
  have nx_H5 := h9.1
  have lt_at5 := GHeap.ltg d3
  replace d2 := h9.2 _ _ d2
  have j7 : H.Le H5 := l6.trans h9
  replace h := h.mono j7
  replace h' := h'.mono j7
  refine .nil (n3 _ _ ?_)
  refine .seqG (fun K2 n7 => ?_)
  refine .region (.mv rfl (.mv rfl (.mv rfl (.mv rfl ?_))))
  refine .call rfl rfl rfl rfl @Try.call187 rfl (commaObjects_c (ho := ho)) ?_
  rintro _ e9 ⟨c0, f4, n5, rfl, l2⟩
  have nx_H17 := c0.1
  replace d2 := c0.2 _ _ d2
  replace d3 := c0.2 _ _ d3
  have f9 := l2.intss
  have a9 : H.Le e9 := j7.trans c0
  replace h := h.mono c0
  replace h' := h'.mono c0
  refine .q rfl (.build bt_98_Me rfl rfl rfl) ?_
  refine .R rfl (.boxR rfl sz_98_Me rfl) ?_
  rintro _ H19 ⟨a2, rfl, f1, ge19, w⟩
  have nx_H19 := f1.1
  have lt_at19 := GHeap.ltg w
  refine .R rfl (.allocR rfl ze_94_Me rfl) ?_
  rintro _ H6 ⟨g6, rfl, d5, ge6, o9⟩
  have nx_H6 := d5.1
  have lt_at6 := GHeap.ltg o9
  replace w := d5.2 _ _ w
  refine .r0 rfl rfl (.storeR rfl sz_94_Md rfl rfl rfl (by assumption) (by first | exact Nat.le_of_ble_eq_true rfl | (simp; done) | (simp <;> omega))) ?_
  rintro _ d9 ⟨rfl, b0, a⟩
  have nx_H1008 := b0.nx
  have b : a2 ≠ g6 := by omega
  replace w := b0.same _ _ ⟨b, trivial⟩ w
  have hA : e9.Le d9 := (f1.trans d5).st b0 (fun k hk => ⟨by omega, trivial⟩)
  replace d2 := hA.2 _ _ d2
  replace d3 := hA.2 _ _ d3
  have lt_at1008 := GHeap.ltg a
  try simp only [Nat.zero_add, List.set_cons_succ, List.set_cons_zero] at a
  refine .nil (n7 _ _ ?_)
  refine .seqG (fun K3 o4 => ?_)
  refine .seq (fun K4 o2 => .region ?_)
  refine .q rfl (.load on_94_Md rfl (by first | assumption | exact Mem.of_get a 0 _ rfl)) ?_
  refine .q rfl (.nilCheck rfl) (.q rfl (.fieldAddr fo_98_2_Me rfl) ?_)
  refine .q rfl (.load on_25_B rfl (by first | assumption | exact Mem.of_get w 2 _ rfl)) ?_
  refine .q rfl (.len sl_25_B rfl) (.q rfl (.cmp rfl rfl rfl) (.nil (o2 _ _ ?_)))
  refine .cond rfl (fun j9 => ?_) (fun j9 => ?_)
  · simp only [sps] at j9
    refine .seq (fun K5 p2 => .region ?_)
    refine .r0 rfl rfl (.storeR rfl sz_94_Md rfl rfl rfl (by assumption) (by first | exact Nat.le_of_ble_eq_true rfl | (simp; done) | (simp <;> omega))) ?_
    rintro _ H3000 ⟨rfl, d1, a1⟩
    have a3 : g5 ≠ g4 := by omega
    replace d3 := d1.same _ _ ⟨a3, trivial⟩ d3
    refine .r0 rfl rfl (.storeR rfl sz_4_Me rfl rfl rfl (by assumption) (by first | exact Nat.le_of_ble_eq_true rfl | (simp; done) | (simp <;> omega))) ?_
    rintro _ d8 ⟨rfl, d0, c8⟩
    replace a1 := d0.same _ _ ⟨Ne.symm a3, trivial⟩ a1
    try simp only [Nat.zero_add, List.set_cons_succ, List.set_cons_zero] at a1 c8
    refine .nil (p2 _ _ ?_)
    refine .ret ?_
    refine e2 _ _ _ List.nodup_nil (fun d hd => by cases hd) (fun H2 hsh => ?_)
    have hz : ∀ g o, d8.get g = some o → H2.get g = some o := fun g o hg => hsh.2 g o (by simp) hg
    refine ⟨_, _, _, _, _, _, rfl, on_94_Md, Mem.of_get (hz _ _ a1) 0 _ rfl, rfl, on_4_Me, Mem.of_get (hz _ _ c8) 0 _ rfl, ?_⟩
    have n8 : H.Le d8 := ((a9.trans hA).st d1 (fun k hk => ⟨by omega, trivial⟩)).st d0 (fun k hk => ⟨by omega, trivial⟩)
    exact ⟨n8.trans ⟨by rw [hsh.1]; exact Nat.le_refl _, hz⟩, .inl ⟨rfl, fun hh => by omega⟩⟩
  · simp only [sps] at j9
    have h8 : (kmOb f k).length ≤ 8 := by omega
    refine .skip ?_
    refine o4 _ _ (.seq (fun K6 m6 => ?_))
    refine .seqG (fun K7 o7 => ?_)
    refine .region ?_
    refine .q rfl (.load on_94_Md rfl (by first | assumption | exact Mem.of_get a 0 _ rfl)) ?_
    refine .q rfl (.nilCheck rfl) (.q rfl (.fieldAddr fo_98_2_Me rfl) ?_)
    refine .q rfl (.load on_25_B rfl (by first | assumption | exact Mem.of_get w 2 _ rfl)) ?_
    refine .q rfl (.len sl_25_B rfl) (.mv rfl (.nil (o7 _ _ ?_)))
    refine .block ?_
    refine .hold (fun H1 leh nxh => ?_)
    obtain ⟨gF, hgF⟩ : ∃ g, g = GHeap.next d9 := ⟨_, rfl⟩
    replace d2 := leh.2 _ _ d2
    replace d3 := leh.2 _ _ d3
    replace w := leh.2 _ _ w
    replace a := leh.2 _ _ a
    replace hA := hA.trans leh
    have B0 : CmB 2 24 (kmA f k (kmOb f k) 0 0) H.next a2 gF H1 gF (.slice none 0 0) H1 := by
      refine ⟨.refl _ _, .inl rfl, by omega, by omega, by simp [kmA], fun _ => none, rfl, .start (by omega) rfl rfl, .nil _ _ _ _⟩
    refine .loopR (σ := Nat × List Nat × Nat) [(4, some _), (5, some _), (6, some _), (29, some _), (30, some _)] (fun (s, M, gA) => [(31, some (.int .i64 (s : Int)))])
      (fun (s, M, gA) H' => s ≤ (kmOb f k).length ∧ ∃ vB, CmB 2 24 (kmA f k (kmOb f k) s 0) H.next a2 gF H1 gA vB H' ∧ H'.get a2 = some (.row [.pointer (some ⟨g0, o0, none⟩), .pointer (some ⟨g1, o1, none⟩), .slice f4 (kmOb f k).length (kmOb f k).length, vB] 98 true) ∧ CmM H1.next gA M H')
      (fun (s, M, gA) => M) (fun (s, M, gA) => (kmOb f k).length - s) (0, [], gF) ⟨rfl, rfl, rfl, rfl, rfl, trivial⟩ ⟨rfl, trivial⟩ rfl ⟨Nat.zero_le _, _, B0, w, List.nodup_nil, fun d hd => by cases hd⟩ ?_
    rintro ⟨s, M, gA⟩ HL1 ⟨hs, vB, hB, hg, hm⟩ KL1 k2
    refine .forget (fr':=[(31, some (.int .i64 (s : Int))), (4, some _), (5, some _), (6, some _), (29, some _), (30, some _)]) ⟨rfl, rfl, rfl, rfl, rfl, rfl, trivial⟩ ?_
    have nx_HL1 := hB.st.nx
    have hAL : e9.Le HL1 := hA.st hB.st (fun k hk => ⟨by omega, by omega, trivial⟩)
    refine .seqG (fun K8 p0 => ?_)
    refine .region (.q rfl (.cmp rfl rfl rfl) (.nil (p0 _ _ ?_)))
    refine .seqG (fun K9 o6 => ?_)
    refine .cond rfl (fun i5 => ?_) (fun i5 => ?_)
    · simp only [sps] at i5
      refine .skip ?_
      refine o6 _ _ (.seq (fun K10 k4 => ?_))
      refine .block ?_
      refine .seqG (fun K11 k3 => ?_)
      refine .region ?_
      have iL := f9.mono hAL
      refine .mv rfl ?_
      refine .q rfl (.idxN sl_25_B (Intss.sl iL) rfl rfl (by omega)) ?_
      refine .q rfl (.loadR on_24_B iL rfl (by omega)) ?_
      refine .R rfl (.allocR rfl ze_3_Me rfl) ?_
      rintro _ H7 ⟨g7, rfl, o3, ge7, p3⟩
      have lt_at7 := GHeap.ltg p3
      refine .r0 rfl rfl (.storeR rfl sz_3_Me rfl rfl rfl (by assumption) (by first | exact Nat.le_of_ble_eq_true rfl | (simp; done) | (simp <;> omega))) ?_
      rintro _ H8 ⟨rfl, l0, i4⟩
      have lt_at8 := GHeap.ltg i4
      have nx_H8 := l0.nx
      have g3 : HL1.Le H8 := o3.st l0 (fun k hk => ⟨by omega, trivial⟩)
      try simp only [Nat.zero_add, List.set_cons_succ, List.set_cons_zero] at i4
      refine .mv rfl (.nil (k3 _ _ ?_))
      have hgl := hB.lt
      replace hB := hB.le g3
      replace hg := g3.2 _ _ hg
      replace hm := hm.le g3
      replace hAL := hAL.trans g3
      have a6 := hB.st.same _ _ ⟨Ne.symm b, by omega, trivial⟩ a
      refine .seqG (fun K12 j4 => ?_)
      refine .region ?_
      refine .q rfl (.load on_94_Md rfl (by first | assumption | exact Mem.of_get a6 0 _ rfl)) ?_
      refine .q rfl (.nilCheck rfl) (.q rfl (.fieldAddr fo_98_2_Me rfl) ?_)
      refine .q rfl (.load on_25_B rfl (by first | assumption | exact Mem.of_get hg 2 _ rfl)) ?_
      refine .q rfl (.len sl_25_B rfl) (.mv rfl (.nil (j4 _ _ ?_)))
      refine .block ?_
      refine .loopR (σ := Nat × List Nat × Nat) [(4, some _), (5, some _), (6, some _), (7, some _), (8, some _), (29, some _), (30, some _), (31, some _), (39, some _), (40, some _)] (fun (t, M, gA) => [(41, some (.int .i64 (t : Int)))])
        (fun (t, M, gA) H' => t ≤ (kmOb f k).length ∧ H'.get g7 = some (.row [.int .i64 (s : Int)] 3 true) ∧ ∃ vB, CmB 2 24 (kmA f k (kmOb f k) s t) H.next a2 gF H1 gA vB H' ∧ H'.get a2 = some (.row [.pointer (some ⟨g0, o0, none⟩), .pointer (some ⟨g1, o1, none⟩), .slice f4 (kmOb f k).length (kmOb f k).length, vB] 98 true) ∧ CmM H1.next gA M H' ∧ gA ≠ g7 ∧ H8.next ≤ H'.next)
        (fun (t, M, gA) => M) (fun (t, M, gA) => (kmOb f k).length - t) (0, M, gA) ⟨rfl, rfl, rfl, rfl, rfl, rfl, rfl, rfl, rfl, rfl, trivial⟩ ⟨rfl, trivial⟩ rfl ⟨Nat.zero_le _, i4, _, hB, hg, hm, by omega, Nat.le_refl _⟩ ?_
      rintro ⟨t, M2, e5⟩ HL2 ⟨ht, a7, l9, d6, g2, c2, hn7, nx_8⟩ KL2 j6
      refine .forget (fr':=[(41, some (.int .i64 (t : Int))), (4, some _), (5, some _), (6, some _), (7, some _), (8, some _), (29, some _), (30, some _), (31, some _), (39, some _), (40, some _)]) ⟨rfl, rfl, rfl, rfl, rfl, rfl, rfl, rfl, rfl, rfl, rfl, trivial⟩ ?_
      have nx_HL2 := d6.st.nx
      have m0 : e9.Le HL2 := hA.st d6.st (fun k hk => ⟨by omega, by omega, trivial⟩)
      refine .seqG (fun K13 j2 => ?_)
      refine .region (.q rfl (.cmp rfl rfl rfl) (.nil (j2 _ _ ?_)))
      refine .seqG (fun K14 i3 => ?_)
      refine .cond rfl (fun i9 => ?_) (fun i9 => ?_)
      · simp only [sps] at i9
        refine .skip ?_
        refine i3 _ _ (.seq (fun K15 j5 => ?_))
        refine .block ?_
        have hgl2 := d6.lt
        refine .seqG (fun K16 i7 => ?_)
        refine .region ?_
        have l5 := f9.mono m0
        refine .mv rfl ?_
        refine .q rfl (.idxN sl_25_B (Intss.sl l5) rfl rfl (by omega)) ?_
        refine .q rfl (.loadR on_24_B l5 rfl (by omega)) ?_
        refine .R rfl (.allocR rfl ze_3_Me rfl) ?_
        rintro _ H9 ⟨g9, rfl, n2, ge9, n4⟩
        have lt_at9 := GHeap.ltg n4
        refine .r0 rfl rfl (.storeR rfl sz_3_Me rfl rfl rfl (by assumption) (by first | exact Nat.le_of_ble_eq_true rfl | (simp; done) | (simp <;> omega))) ?_
        rintro _ n0 ⟨rfl, f0, e4⟩
        have lt_at10 := GHeap.ltg e4
        have nx_H10 := f0.nx
        have c3 : HL2.Le n0 := n2.st f0 (fun k hk => ⟨by omega, trivial⟩)
        try simp only [Nat.zero_add, List.set_cons_succ, List.set_cons_zero] at e4
        refine .mv rfl (.nil (i7 _ _ ?_))
        have n9 := (d6.le c3).st.same _ _ ⟨Ne.symm b, by omega, trivial⟩ a
        refine .seqG (fun K17 i2 => ?_)
        refine .region ?_
        refine .q rfl (.load on_94_Md rfl (by first | assumption | exact Mem.of_get n9 0 _ rfl)) ?_
        refine .mv rfl (.mv rfl ?_)
        refine .call rfl rfl rfl rfl @Try.call188 rfl (pairs_c) ?_
        rintro _ v ⟨e3, b1, b2, b3, rfl, l8, k9, k6, nb1, nb2, nb3⟩
        have nx_H49 := e3.1
        have lb1 := GHeap.ltg l8
        have lb2 := GHeap.ltg k9
        have lb3 := GHeap.ltg k6
        refine .nil (i2 _ _ ?_)
        refine .block ?_
        refine .range rfl @Try.call212 (fun l fn m H2 hmm f5 nx2 hd hr => ?_)
        have leT : HL2.Le H2 := (c3.trans e3).trans f5
        have nx_2 := leT.1
        have e6 := d6.le leT
        have m1 := leT.2 _ _ g2
        have hm3 := c2.le leT
        have l1 := leT.2 _ _ a7
        have n6 := f5.2 _ _ (e3.2 _ _ e4)
        have m5 := e6.st.same _ _ ⟨Ne.symm b, by omega, trivial⟩ a
        have m4 := e6.st.same _ _ ⟨by omega, by omega, trivial⟩ d2
        have g8 := e6.st.same _ _ ⟨by omega, by omega, trivial⟩ d3
        have gvs := d6.gv
        have h6 := hA.1
        have lt7 := GHeap.ltg a7
        have nrow : ∀ {H' : GHeap} {st : LoopState} {pe : Option Code}, H'.get (v.next + 1) = some (recG m l st pe) → ∀ cs o, H'.get (v.next + 1) ≠ some (.row cs 2 o) := fun hh cs o hc => by rw [hh] at hc; cases hc
        refine (pairs1_c (x := ((kmOb f k).getD s [])) (y := ((kmOb f k).getD t [])) (J := fun pre gV vB H' => CmB 2 24 (kmA f k (kmOb f k) s t ++ pre.map (kmR s t)) H.next a2 e5 H2 gV vB H' ∧ H'.get a2 = some (.row [.pointer (some ⟨g0, o0, none⟩), .pointer (some ⟨g1, o1, none⟩), .slice f4 (kmOb f k).length (kmOb f k).length, vB] 98 true))
          (Jx := fun H' => 40 < (kmAr f k (kmOb f k)).length ∧ St [a2, e5, v.next + 1] H2 H' ∧ H'.get (v.next + 1) = some (recG m l .done (some .ret)))
          (gk := a2) (r := v.next + 1) (gF := e5) (vO := .slice f4 (kmOb f k).length (kmOb f k).length) (vA := l9) (H0 := e9) ho (kmOb_x ho (by omega)) (kmOb_x ho (by omega)) h h' (f9.2 s (by omega)) (f9.2 t (by omega)) (m0.trans leT) (by omega) (by omega) (by omega)
          (f5.2 _ _ l8) (f5.2 _ _ k9) (f5.2 _ _ k6) m1 ⟨by omega, by omega, by omega⟩ ⟨by omega, by omega, by omega⟩ ⟨by omega, by omega, by omega⟩ ⟨by omega, by omega⟩ ⟨by rw [List.map_nil, List.append_nil]; exact e6.now, m1⟩ (fun h s => ⟨h.1.le s, s.2 _ _ h.2⟩) ?_).mono ?_
        · intro i j gV vB' H' hi hj hT hJ hgk
          obtain ⟨hJ, _⟩ := hJ
          have f3 := hJ.st.same _ _ ⟨by omega, by omega, trivial⟩ hr
          have b4 := hJ.st.same _ _ ⟨by omega, by omega, trivial⟩ m4
          have b5 := hJ.st.same _ _ ⟨by omega, by omega, trivial⟩ g8
          have b6 := hJ.st.same _ _ ⟨by omega, by omega, trivial⟩ m5
          have b7 := hJ.st.same _ _ ⟨by omega, by omega, trivial⟩ l1
          have b9 := hJ.st.same _ _ ⟨by omega, by omega, trivial⟩ n6
          have f8 := hJ.st.nx
          have gvj := hJ.gv
          have ltj := hJ.lt
          have hover := kmA_over (f := f) (k := k) (O := kmOb f k) (show s < _ by omega) (show t < _ by omega) hi hj hT
          obtain ⟨rA, rfl, no, ow⟩ := hJ.ex
          have l40 := hJ.l40
          have hbe := hJ.ge
          have hap : kmA f k (kmOb f k) s t ++ (kmS f k ((kmOb f k).getD s []) ((kmOb f k).getD t []) i j ++ [((kmU f ((kmOb f k).getD s []) ((kmOb f k).getD t [])).getD i 0, (kmV k ((kmOb f k).getD s []) ((kmOb f k).getD t [])).getD j 0)]).map (kmR s t) = (kmA f k (kmOb f k) s t ++ (kmS f k ((kmOb f k).getD s []) ((kmOb f k).getD t []) i j).map (kmR s t)) ++ [[(s : Int), (t : Int), (kmU f ((kmOb f k).getD s []) ((kmOb f k).getD t [])).getD i 0, (kmV k ((kmOb f k).getD s []) ((kmOb f k).getD t [])).getD j 0]] := by
            rw [List.map_append, ← List.append_assoc]
            rfl
          rw [hap]
          clear hap
          have f6 := hJ.st
          clear hJ
          generalize kmA f k (kmOb f k) s t ++ (kmS f k ((kmOb f k).getD s []) ((kmOb f k).getD t []) i j).map (kmR s t) = Bq at *
          generalize (kmU f ((kmOb f k).getD s []) ((kmOb f k).getD t [])).getD i 0 = uq at *
          generalize (kmV k ((kmOb f k).getD s []) ((kmOb f k).getD t [])).getD j 0 = vq at *
          refine GYield.of2 hmm f3 rfl rfl (fun KA hKA => ?_)
          clear hmm
          refine .seq (fun K20 i1 => .region (.mv rfl (.nil (i1 _ _ (.region (.mv rfl (.nil ?_)))))))
          refine hKA _ _ f3 ?_
          have sb := St.of_set (g := v.next + 1) (H := H') (o := some (recG m l .busy none))
          have hbz : (H'.set (v.next + 1) (some (recG m l .busy none))).get (v.next + 1) = some (recG m l .busy none) := GHeap.get_set_eq (GHeap.ltg f3)
          generalize H'.set (v.next + 1) _ = Hb at sb hbz ⊢
          have nx_b := sb.nx
          have j1 : v.next + 1 ≠ gV := by omega
          have c4 := sb.s b4
          have c5 := sb.s b5
          have c6 := sb.s b6
          have c7 := sb.s b7
          have c9 := sb.s b9
          have ck := sb.s hgk
          have l4 := ow.st sb (.cons (fun i hi ei => by
            obtain ⟨z, r1, _, r3⟩ := ow.row i hi
            rw [r1] at ei
            cases ei
            exact nrow f3 _ _ r3) (.nil _ _))
          have o5 := no.st sb ⟨Ne.symm j1, trivial⟩
          refine .block ?_
          refine .seq (fun K21 k1 => .seq (fun K22 k5 => .region ?_))
          refine .q rfl (.load on_94_Md rfl (by first | assumption | exact Mem.of_get c6 0 _ rfl)) ?_
          refine .q rfl (.nilCheck rfl) (.q rfl (.fieldAddr fo_98_3_Me rfl) ?_)
          refine .q rfl (.load on_25_B rfl (by first | assumption | exact Mem.of_get ck 3 _ rfl)) ?_
          refine .q rfl (.len sl_25_B rfl) (.q rfl (.cmp rfl rfl rfl) (.nil (k5 _ _ ?_)))
          refine .cond rfl (fun i6 => ?_) (fun i6 => ?_)
          · simp only [sps] at i6
            refine .seq (fun K23 j0 => .region ?_)
            refine .r0 rfl rfl (.storeR rfl sz_94_Md rfl rfl rfl (by assumption) (by first | exact Nat.le_of_ble_eq_true rfl | (simp; done) | (simp <;> omega))) ?_
            rintro _ Hc ⟨rfl, sc, ac⟩
            have i0 := sc.nx
            replace c5 := sc.s c5
            refine .r0 rfl rfl (.storeR rfl sz_4_Me rfl rfl rfl (by assumption) (by first | exact Nat.le_of_ble_eq_true rfl | (simp; done) | (simp <;> omega))) ?_
            rintro _ Hd ⟨rfl, sd, ad⟩
            have j8 := sd.nx
            replace ac := sd.s ac
            try simp only [Nat.zero_add, List.set_cons_succ, List.set_cons_zero] at ac ad
            refine .nil (j0 _ _ ?_)
            refine .ret ?_
            have hbd := sd.same _ _ ⟨by omega, trivial⟩ (sc.same _ _ ⟨by omega, trivial⟩ hbz)
            refine ⟨hbd, ?_⟩
            have se := St.of_set (g := v.next + 1) (H := Hd) (o := some (recG m l .done (some .ret)))
            have hez : (Hd.set (v.next + 1) (some (recG m l .done (some .ret)))).get (v.next + 1) = some (recG m l .done (some .ret)) := GHeap.get_set_eq (GHeap.ltg hbd)
            generalize Hd.set (v.next + 1) _ = He at se hez ⊢
            have h5 := se.nx
            have hs := St.refl [g4, g5, v.next + 1] H'
            replace hs := hs.st sb (fun k hk ho => ⟨ho.2.2.1, trivial⟩)
            replace hs := hs.st sc (fun k hk ho => ⟨ho.1, trivial⟩)
            replace hs := hs.st sd (fun k hk ho => ⟨ho.2.1, trivial⟩)
            replace hs := hs.st se (fun k hk ho => ⟨ho.2.2.1, trivial⟩)
            have e7 := (hs.fix b4 (se.same _ _ ⟨by omega, trivial⟩ ac)).fix b5 (se.same _ _ ⟨by omega, trivial⟩ ad)
            have ckf := e7.s hgk
            refine ⟨gV, _, .inl rfl, by omega, (St.refl [a2, v.next + 1, gV] H').st e7 (fun k hk ho => ⟨ho.2.1, trivial⟩), ckf, fun hh => (by cases hh), fun _ => ⟨by omega, ?_, hez⟩⟩
            exact ((St.refl [a2, e5, v.next + 1] H2).st f6 (fun k hk ho => ⟨ho.1, ho.2.1, trivial⟩)).st e7 (fun k hk ho => ⟨ho.2.2.1, trivial⟩)
          · simp only [sps] at i6
            refine .skip ?_
            refine k1 _ _ ?_
            have hfl : (slsL rA Bq).length = Bq.length := length_slsL _ _
            have m2 := GHeap.get_erase_of (g := gV) c6 (by omega)
            have n1 := GHeap.get_erase_of (g := gV) c7 (by omega)
            have p1 := GHeap.get_erase_of (g := gV) c9 (by omega)
            have ckB := GHeap.get_erase_of (g := gV) ck (by omega)
            refine .regionDB mo_B (.q 0 (.q 1 (.q 2 (.q 3 (.q 4 (.q 5 (.q 6 (.q 7 (.q 8 (.c 9 1 (.c 10 1 (.c 11 1 (.q 12 (.q 13 (.c 14 0 (.done)))))))))))))))) (by kernel_rfl) (GHeap.le_erase Hb gV) ?_
            have a0 := GHeap.le_erase Hb gV
            refine .qB rfl a0 (.load on_94_Md rfl (Mem.of_get m2 0 _ rfl)) (.qB rfl a0 (.load on_94_Md rfl (Mem.of_get m2 0 _ rfl)) (.qB rfl a0 (.nilCheck rfl) (.qB rfl a0 (.fieldAddr fo_98_3_Me rfl) (.qB rfl a0 (.load on_25_B rfl (Mem.of_get ckB 3 _ rfl)) (.qB rfl a0 (.load on_3_Me rfl (Mem.of_get n1 0 _ rfl)) (.qB rfl a0 (.load on_3_Me rfl (Mem.of_get p1 0 _ rfl)) (.qB rfl a0 (.move rfl) (.qB rfl a0 (.move rfl) ?_))))))))
            refine .c1 rfl rfl rfl rfl (.litA rfl sl_24_A ze_2_E rfl rfl rfl rfl) ?_
            rintro _ H67 ⟨o8, rfl, e0, ge67, d7⟩
            replace a0 := a0.trans e0
            refine ⟨a0, ?_⟩
            have nx_67 := e0.1
            have lt67 := GHeap.ltg d7
            refine .c1 rfl rfl rfl rfl (.litA rfl sl_25_B ze_24_E rfl rfl rfl rfl) ?_
            rintro _ H68 ⟨g68, rfl, d4, ge68, at68⟩
            replace a0 := a0.trans d4
            refine ⟨a0, ?_⟩
            have nx_68 := d4.1
            have d5 := e0.trans d4
            replace d7 := d4.2 _ _ d7
            have l7 := l4.keep (.of_le d5)
            have k7 := o5.le d5
            refine .c1 rfl rfl rfl rfl (.appendNO rfl sl_25_B ze_24_E rfl by_24_E sl_25_B rfl rfl k7 (by assumption) (by rw [hfl]; omega) rfl rfl (by omega) (by omega)) ?_
            rintro _ H69 ⟨m9, rfl, a8, ge69, f2⟩
            replace a0 := a0.erase_st a8
            refine ⟨a0, ?_⟩
            have nx_69 := a8.nx
            have lt69 := GHeap.ltg f2
            have ckc := a8.same _ _ ⟨by omega, trivial⟩ (d5.2 _ _ ck)
            have f7 := a8.s d7
            have hbc := a8.same _ _ ⟨by omega, trivial⟩ (d5.2 _ _ hbz)
            refine .m rfl rfl rfl rfl a0 (.nilCheck rfl) (.q rfl (.fieldAddr fo_98_3_Me rfl) ?_)
            refine .r0 rfl rfl rfl (.storeR rfl sz_25_E rfl rfl rfl (by assumption) (by first | exact Nat.le_of_ble_eq_true rfl | (simp; done) | (simp <;> omega))) ?_
            rintro _ Hs ⟨rfl, ss, ax⟩
            have nx_s := ss.nx
            try simp only [Nat.zero_add, List.set_cons_succ, List.set_cons_zero] at ax
            refine .done ?_
            have hbd := ss.s hbc
            refine ⟨hbd, ?_⟩
            have h4 := ss.s f2
            have i8 := ss.s f7
            have m3 := l7.st a8 (.cons (l7.neNO k7 rfl rfl) (.nil _ _))
            have l3 := m3.st ss (.cons (m3.neT ckc rfl) (.nil _ _))
            have se := St.of_set (g := v.next + 1) (H := Hs) (o := some (recG m l .ready none))
            have hez : (Hs.set (v.next + 1) (some (recG m l .ready none))).get (v.next + 1) = some (recG m l .ready none) := GHeap.get_set_eq (GHeap.ltg hbd)
            generalize Hs.set (v.next + 1) _ = He at se hez ⊢
            have h5 := se.nx
            have m7 := l3.st se (.cons (fun i hi ei => by
              obtain ⟨z, r1, _, r3⟩ := l3.row i hi
              rw [r1] at ei
              cases ei
              exact nrow hbd _ _ r3) (.nil _ _))
            have hs := St.refl [v.next + 1, a2, gV] H'
            replace hs := hs.st sb (fun k hk ho => ⟨ho.1, trivial⟩)
            replace hs := hs.le d5
            replace hs := hs.st a8 (fun k hk ho => ⟨ho.2.2.1, trivial⟩)
            replace hs := hs.st ss (fun k hk ho => ⟨ho.2.1, trivial⟩)
            replace hs := hs.st se (fun k hk ho => ⟨ho.1, trivial⟩)
            have e7 := hs.fix f3 hez
            have ckf := se.s ax
            have j3 := se.s h4
            have k0 := se.s i8
            have hln : (Bq ++ [[(s : Int), (t : Int), uq, vq]]).length = Bq.length + 1 := by simp
            refine ⟨m9, _, .inr (by omega), by omega, (St.refl [a2, v.next + 1, gV] H').st e7 (fun k hk ho => ⟨ho.1, ho.2.2.1, trivial⟩), ckf, fun _ => ⟨⟨f6.st e7 (fun k hk ho => ⟨ho.1, ?_, trivial⟩), .inr (by omega), by omega, by omega, by omega, upd rA Bq.length (some ⟨o8, 0, none⟩), by rw [hln]; rfl, ?_, ?_⟩, ckf⟩, fun hh => (by cases hh)⟩
            · rcases gvj with e | e
              · rw [e]; exact ho.2.1
              · omega
            · rw [slsL_snoc]
              exact .of j3 (by omega)
            · exact m7.snoc2 k0 (l4.ne (by omega)) (by omega)
        · rintro _ H3 (⟨gV, vB', hJ, hgk⟩ | ⟨h40, e8, hrd⟩)
          · have k8 := hJ.st.same _ _ ⟨by omega, by omega, trivial⟩ hr
            have gvj := hJ.gv
            have f8 := hJ.st.nx
            have m8 : CmB 2 24 (kmA f k (kmOb f k) s (t + 1)) H.next a2 e5 H2 gV vB' H3 := by rw [kmA_next2]; exact hJ
            refine ⟨.ready, none, by simp, k8, .inl ⟨rfl, ?_⟩⟩
            refine j5 _ _ _ ?_
            have sx := St.of_set (g := v.next + 1) (H := H3) (o := some (recG m l .exhausted none))
            generalize H3.set (v.next + 1) _ = Hx at sx
            have h7 := sx.nx
            refine .ofGT ?_
            refine .region ?_
            refine .q rfl (.add rfl rfl rfl (by omega) (by omega)) ?_
            refine .mv rfl (.nil ?_)
            refine j6 (t + 1, v.next :: M2, gV) _ _ ⟨by omega, ?_, vB', (e6.back m8).turn sx (by omega) (by omega) (nrow k8), sx.same _ _ ⟨by omega, trivial⟩ hgk, ⟨?_, ?_⟩, by omega, by omega⟩ ?_ ⟨rfl, rfl, rfl, rfl, rfl, rfl, rfl, rfl, rfl, rfl, rfl, trivial⟩
            · exact sx.same _ _ ⟨by omega, trivial⟩ (hJ.st.same _ _ ⟨by omega, by omega, trivial⟩ l1)
            · refine List.nodup_cons.2 ⟨fun b8 => ?_, c2.nd⟩
              have := GHeap.ltg (c2.al _ b8).2.2
              have := c3.1
              omega
            · intro d b8
              rcases List.mem_cons.1 b8 with rfl | b8
              · exact ⟨by omega, by omega, sx.same _ _ ⟨by omega, trivial⟩ (hJ.st.same _ _ ⟨by omega, by omega, trivial⟩ hd)⟩
              · have h1 := c2.al d b8
                have h2 := GHeap.ltg h1.2.2
                have h3 := c3.1
                exact ⟨h1.1, by omega, sx.same _ _ ⟨by omega, trivial⟩ (hJ.st.same _ _ ⟨by omega, h1.2.1, trivial⟩ (leT.2 _ _ h1.2.2))⟩
            · dsimp only
              omega
          · refine ⟨.done, some .ret, by simp, hrd, .inr ⟨rfl, ?_⟩⟩
            have f8 := e8.nx
            have sx := St.of_set (g := v.next + 1) (H := H3) (o := some (recG m l .exhausted (some .ret)))
            generalize H3.set (v.next + 1) _ = Hx at sx
            have h7 := sx.nx
            have al : ∀ d ∈ v.next :: M2, H1.next ≤ d ∧ Hx.get d = some dfrG := by
              intro d b8
              rcases List.mem_cons.1 b8 with rfl | b8
              · exact ⟨by omega, sx.same _ _ ⟨by omega, trivial⟩ (e8.same _ _ ⟨by omega, by omega, by omega, trivial⟩ hd)⟩
              · have h1 := c2.al d b8
                have h2 := GHeap.ltg h1.2.2
                have h3 := c3.1
                exact ⟨h1.1, sx.same _ _ ⟨by omega, trivial⟩ (e8.same _ _ ⟨by omega, h1.2.1, by omega, trivial⟩ (leT.2 _ _ h1.2.2))⟩
            refine e2 _ _ _ (List.nodup_cons.2 ⟨fun b8 => ?_, c2.nd⟩) (fun d b8 => (al d b8).2) (fun Hf hsh => ?_)
            · have := GHeap.ltg (c2.al _ b8).2.2
              have := c3.1
              omega
            have low : ∀ g, g < H1.next → g ∉ v.next :: M2 := fun g hg hm => by have := (al g hm).1; omega
            have c4 := hsh.2 _ _ (low _ (by omega)) (sx.same _ _ ⟨by omega, trivial⟩ (e8.same _ _ ⟨by omega, by omega, by omega, trivial⟩ m4))
            have c5 := hsh.2 _ _ (low _ (by omega)) (sx.same _ _ ⟨by omega, trivial⟩ (e8.same _ _ ⟨by omega, by omega, by omega, trivial⟩ g8))
            refine ⟨_, _, _, _, _, _, rfl, on_94_Md, Mem.of_get c4 0 _ rfl, rfl, on_4_Me, Mem.of_get c5 0 _ rfl, ?_⟩
            refine ⟨⟨?_, fun g o hg => ?_⟩, .inl ⟨rfl, fun hh => by omega⟩⟩
            · have := hsh.1; have := a9.1; omega
            · have hlt := GHeap.ltg hg
              have := a9.1
              exact hsh.2 _ _ (low _ (by omega)) (sx.same _ _ ⟨by omega, trivial⟩ (e8.same _ _ ⟨by omega, by omega, by omega, trivial⟩ (e6.st.same _ _ ⟨by omega, by omega, trivial⟩ (hA.2 _ _ (a9.2 _ _ hg)))))
      · simp only [sps] at i9
        obtain rfl : t = (kmOb f k).length := by omega
        refine .exit ?_
        refine k4 _ _ _ ?_
        refine .ofGT ?_
        refine .region ?_
        refine .q rfl (.add rfl rfl rfl (by omega) (by omega)) ?_
        refine .mv rfl (.nil ?_)
        refine k2 (s + 1, M2, e5) _ _ ⟨by omega, l9, by rw [kmA_next1]; exact d6, g2, c2⟩ ?_ ⟨rfl, rfl, rfl, rfl, rfl, rfl, trivial⟩
        dsimp only
        omega
    · simp only [sps] at i5
      obtain rfl : s = (kmOb f k).length := by omega
      refine .exit ?_
      refine m6 _ _ _ ?_
      have a6 := hB.st.same _ _ ⟨Ne.symm b, by omega, trivial⟩ a
      have a4 := hB.st.same _ _ ⟨by omega, by omega, trivial⟩ d2
      have a5 := hB.st.same _ _ ⟨by omega, by omega, trivial⟩ d3
      have gvj := hB.gv
      have h6 := hA.1
      refine .seqG (fun K18 h0 => ?_)
      refine .region ?_
      refine .q rfl (.load on_94_Md rfl (by first | assumption | exact Mem.of_get a6 0 _ rfl)) ?_
      refine .r0 rfl rfl (.storeR rfl sz_94_Md rfl rfl rfl (by assumption) (by first | exact Nat.le_of_ble_eq_true rfl | (simp; done) | (simp <;> omega))) ?_
      rintro _ Hc ⟨rfl, sc, ac⟩
      have i0 := sc.nx
      have g8 := sc.s a5
      refine .r0 rfl rfl (.storeR rfl sz_4_Me rfl rfl rfl (by assumption) (by first | exact Nat.le_of_ble_eq_true rfl | (simp; done) | (simp <;> omega))) ?_
      rintro _ Hd ⟨rfl, sd, ad⟩
      have j8 := sd.nx
      replace ac := sd.s ac
      try simp only [Nat.zero_add, List.set_cons_succ, List.set_cons_zero] at ac ad
      refine .nil (h0 _ _ ?_)
      refine .ret ?_
      have d6 := (hB.turnN sc (by omega) (fun cs o hc => by rw [a4] at hc; cases hc)).turnN sd (by omega) (fun cs o hc => by rw [g8] at hc; cases hc)
      have c2 := (hm.st sc (fun d h1 _ => ⟨by omega, trivial⟩)).st sd (fun d h1 _ => ⟨by omega, trivial⟩)
      have g2 := sd.same _ _ ⟨by omega, trivial⟩ (sc.same _ _ ⟨by omega, trivial⟩ hg)
      refine e2 _ _ _ c2.nd (fun d hd => (c2.al d hd).2.2) (fun Hf hsh => ?_)
      obtain ⟨rA, e1, hR⟩ := d6.shut c2 hsh
      have low : ∀ g, g < H1.next → g ∉ M := fun g hg hd => by have := (c2.al g hd).1; omega
      have hgf := hsh.2 _ _ (low a2 (by omega)) g2
      have hkO : Keep H5.next e9 Hf := fun g o hb hg => by
        have hlt := GHeap.ltg hg
        exact hsh.2 _ _ (low g (by omega)) (sd.same _ _ ⟨by omega, trivial⟩ (sc.same _ _ ⟨by omega, trivial⟩ (hAL.2 _ _ hg)))
      have vO := (l2.keep hkO (Nat.le_refl _)).keep (b' := H.next) (.of_le (.refl _)) (by omega)
      have hAr : kmA f k (kmOb f k) (kmOb f k).length 0 = kmAr f k (kmOb f k) := rfl
      rw [hAr] at hR e1
      subst e1
      refine ⟨_, _, _, _, _, _, rfl, on_94_Md, Mem.of_get (hsh.2 _ _ (low g4 (by omega)) ac) 0 _ rfl, rfl, on_4_Me, Mem.of_get (hsh.2 _ _ (low g5 (by omega)) ad) 0 _ rfl, ?_⟩
      refine ⟨⟨?_, fun g o hg => ?_⟩, .inr ⟨⟨h8, by have := hB.l40; rw [hAr] at this; exact this⟩, a2, f4, n5, _, rA, rfl, Mem.of_get hgf 2 _ rfl, Mem.of_get hgf 3 _ rfl, vO, hR⟩⟩
      · have := hsh.1; have := a9.1; omega
      · have hlt := GHeap.ltg hg
        have := a9.1
        exact hsh.2 _ _ (low _ (by omega)) (sd.same _ _ ⟨by omega, trivial⟩ (sc.same _ _ ⟨by omega, trivial⟩ (hAL.2 _ _ (a9.2 _ _ hg))))
end Go.Proofs.Ytiooclghkafokaa
namespace Go.Proofs.Ytiooclghkafokaa
open Go Go.GL Go.RowKit Go.Proofs
theorem ze_79_Mf : zeroT Try.prog 79 = some ([.pointer none], 1) := by kernel_rfl
theorem commaOfN_c {g0 o0 g1 o1 : Nat} {f k : Fun} {p q : FunP} {H : GHeap} (h : Fun.At H g0 o0 f p := by assumption) (h' : Fun.At H g1 o1 k q := by assumption) (ho : KmOk f k) (hn : ¬ ((kmOb f k).length ≤ 8 ∧ (kmAr f k (kmOb f k)).length ≤ 40)) :
    GCalls Try.prog 141 [.pointer (some ⟨g0, o0, none⟩), .pointer (some ⟨g1, o1, none⟩)] H (fun v H' => H.Le H' ∧ v = .tuple #[.pointer none, .bool false]) :=
  (commaOf_c h h' ho).mono fun v H' ⟨hle, hv⟩ => ⟨hle, by
    rcases hv with ⟨hv, _⟩ | ⟨hh, _⟩
    · exact hv
    · exact absurd hh hn⟩
def CmRes (H : GHeap) (f k : Fun) (u v : Value) (H' : GHeap) : Prop :=
  H.Le H' ∧ ∃ (gk : Nat) (a : Option Addr) (r : Nat → Option Addr) (b : Option Addr) (s : Nat → Option Addr), v = .tuple #[.pointer (some ⟨gk, 0, none⟩), u] ∧
    H'.cell gk 2 = some (.slice a (kmOb f k).length (kmOb f k).length) ∧ H'.cell gk 3 = some (.slice b (kmAr f k (kmOb f k)).length (kmAr f k (kmOb f k)).length) ∧ IntssR H.next H' a (kmOb f k) r ∧ IntssR H.next H' b (kmAr f k (kmOb f k)) s
theorem commaOfY_c {g0 o0 g1 o1 : Nat} {f k : Fun} {p q : FunP} {H : GHeap} (h : Fun.At H g0 o0 f p := by assumption) (h' : Fun.At H g1 o1 k q := by assumption) (ho : KmOk f k) (hn : (kmOb f k).length ≤ 8 ∧ (kmAr f k (kmOb f k)).length ≤ 40) :
    GCalls Try.prog 141 [.pointer (some ⟨g0, o0, none⟩), .pointer (some ⟨g1, o1, none⟩)] H (CmRes H f k (.bool true)) :=
  (commaOf_c h h' ho).mono fun v H' ⟨hle, hv⟩ => ⟨hle, by
    rcases hv with ⟨_, hh⟩ | ⟨_, hv⟩
    · exact absurd hn hh
    · exact hv⟩
theorem commaCodeN_c {g0 o0 g1 o1 : Nat} {f k : Fun} {p q : FunP} {H : GHeap} (h : Fun.At H g0 o0 f p := by assumption) (h' : Fun.At H g1 o1 k q := by assumption) (hs : f.Small := by assumption) (hs1 : k.Small := by assumption) (hC : ¬ kmC f k = 0) :
    GCalls Try.prog 75 [.pointer (some ⟨g0, o0, none⟩), .pointer (some ⟨g1, o1, none⟩)] H (fun v H' => H.Le H' ∧ v = .tuple #[.pointer none, .int .i64 (kmC f k)]) := by
  refine GCalls.body (N := 30) (rs := [.tmp 4, .tmp 5]) Try.func75 rfl rfl rfl rfl (fun Qx r hend => ?_)
  refine .fg [0, 1] rfl ?_
  have b := GHeap.Le.refl H
  have d := h
  have a := h'
  obtain ⟨fsf, ftf, l, j, w, u⟩ := h.get
  have hmf : MemN _ _ _ _ _ := ⟨rfl, h.1⟩
  have hif := h.2
  have hmsf : MemN _ _ _ _ _ := ⟨rfl, fsf.1⟩
  have hisf := fsf.2
  have hmtf : MemN _ _ _ _ _ := ⟨rfl, ftf.1⟩
  have hitf := ftf.2
  obtain ⟨fsk, ftk, g, e, y, x⟩ := h'.get
  have hmk : MemN _ _ _ _ _ := ⟨rfl, h'.1⟩
  have hik := h'.2
  have hmsk : MemN _ _ _ _ _ := ⟨rfl, fsk.1⟩
  have hisk := fsk.2
  have hmtk : MemN _ _ _ _ _ := ⟨rfl, ftk.1⟩
  have hitk := ftk.2
  refine .seq (fun K1 a4 => .region (.mv rfl (.mv rfl (.nil (a4 _ _ (.seq (fun K2 a9 => .seq (fun K3 a7 => .region (.mv rfl (.mv rfl ?_))))))))))
  refine .R rfl (.litA rfl sl_194_G ze_79_Mf rfl rfl rfl rfl) ?_
  rintro _ H10 ⟨g10, rfl, s, ge10, m⟩
  have nx_H10 := s.1
  replace b := b.trans s
  have lt_at10 := GHeap.ltg m
  replace h := d.mono b
  replace h' := a.mono b
  clear fsf ftf l j w u hmf hif hmsf hisf hmtf hitf fsk ftk g e y x hmk hik hmsk hisk hmtk hitk
  obtain ⟨fsf, ftf, l, j, w, u⟩ := h.get
  have hmf : MemN _ _ _ _ _ := ⟨rfl, h.1⟩
  have hif := h.2
  have hmsf : MemN _ _ _ _ _ := ⟨rfl, fsf.1⟩
  have hisf := fsf.2
  have hmtf : MemN _ _ _ _ _ := ⟨rfl, ftf.1⟩
  have hitf := ftf.2
  obtain ⟨fsk, ftk, g, e, y, x⟩ := h'.get
  have hmk : MemN _ _ _ _ _ := ⟨rfl, h'.1⟩
  have hik := h'.2
  have hmsk : MemN _ _ _ _ _ := ⟨rfl, fsk.1⟩
  have hisk := fsk.2
  have hmtk : MemN _ _ _ _ _ := ⟨rfl, ftk.1⟩
  have hitk := ftk.2
  refine .callQ rfl rfl rfl rfl @Try.call139 rfl (areFunctors2_c (h1 := h) (h2 := h')) ?_
  refine .q rfl (.not rfl) (.nil (a7 _ _ ?_))
  refine .cond rfl (fun i => ?_) (fun i => ?_)
  ·
   simp only [sps] at i
   have t := kmC_1 i
   refine .seq (fun K4 a6 => .region (.mv rfl (.mv rfl (.nil (a6 _ _ ?_)))))
   refine .ret ?_
   refine r _ _ ?_
   refine ⟨_, _, rfl, rfl, ?_⟩
   exact ⟨b, by rw [t]⟩
  simp only [sps] at i
  refine .skip ?_
  refine a9 _ _ (.seq (fun K5 a5 => .seq (fun K6 a2 => ?_)))
  refine .regionD mo_B (.q 0 (.q 1 (.q 2 (.q 3 (.q 4 (.q 5 (.c 6 0 (.q 7 (.done))))))))) (by kernel_rfl) ?_
  refine .mv rfl rfl (.q rfl (.nilCheck rfl) (.q rfl (.fieldAddr fo_33_1_E rfl) (.mv rfl rfl (.q rfl (.nilCheck rfl) (.q rfl (.fieldAddr fo_33_1_E rfl) ?_)))))
  refine .callQ0 rfl rfl rfl rfl rfl @Try.call140 rfl (sameCategory_c (hs := hs.2.1) (hs' := hs1.2.1)) ?_
  refine .q rfl (.not rfl) ?_
  refine .done ?_
  refine a2 _ _ ?_
  refine .cond rfl (fun n => ?_) (fun n => ?_)
  ·
   simp only [sps] at n
   have t := kmC_5 i n
   refine .seq (fun K7 a8 => .region (.mv rfl (.mv rfl (.nil (a8 _ _ ?_)))))
   refine .ret ?_
   refine r _ _ ?_
   refine ⟨_, _, rfl, rfl, ?_⟩
   exact ⟨b, by rw [t]⟩
  simp only [sps] at n
  have ho : KmOk f k := ⟨i.1, i.2, n⟩
  have hq : ¬ ((kmOb f k).length ≤ 8 ∧ (kmAr f k (kmOb f k)).length ≤ 40) := fun hh => hC (kmC_0 i n hh.1 hh.2)
  have t := kmC_3 i n hq
  refine .skip ?_
  refine a5 _ _ (.seq (fun K8 a3 => .region (.mv rfl (.mv rfl ?_))))
  refine .call rfl rfl rfl rfl @Try.call141 rfl (commaOfN_c (ho := ho) (hn := hq)) ?_
  rintro _ H24 ⟨o, rfl⟩
  have nx_H24 := o.1
  replace b := b.trans o
  replace m := o.2 _ _ m
  replace h := d.mono b
  replace h' := a.mono b
  clear fsf ftf l j w u hmf hif hmsf hisf hmtf hitf fsk ftk g e y x hmk hik hmsk hisk hmtk hitk
  obtain ⟨fsf, ftf, l, j, w, u⟩ := h.get
  have hmf : MemN _ _ _ _ _ := ⟨rfl, h.1⟩
  have hif := h.2
  have hmsf : MemN _ _ _ _ _ := ⟨rfl, fsf.1⟩
  have hisf := fsf.2
  have hmtf : MemN _ _ _ _ _ := ⟨rfl, ftf.1⟩
  have hitf := ftf.2
  obtain ⟨fsk, ftk, g, e, y, x⟩ := h'.get
  have hmk : MemN _ _ _ _ _ := ⟨rfl, h'.1⟩
  have hik := h'.2
  have hmsk : MemN _ _ _ _ _ := ⟨rfl, fsk.1⟩
  have hisk := fsk.2
  have hmtk : MemN _ _ _ _ _ := ⟨rfl, ftk.1⟩
  have hitk := ftk.2
  refine .mv rfl (.q rfl (.extract rfl rfl) (.q rfl (.extract rfl rfl) (.mv rfl (.mv rfl (.nil (a3 _ _ (.seq (fun K9 hK9 => .seq (fun K10 a1 => .region (.mv rfl (.q rfl (.not rfl) (.nil (a1 _ _ ?_)))))))))))))
  refine .cond rfl (fun z => ?_) (fun z => ?_)
  ·
   try simp only [sps] at z
   refine .seq (fun K11 a0 => .region (.mv rfl (.mv rfl (.nil (a0 _ _ ?_)))))
   refine .ret ?_
   refine r _ _ ?_
   refine ⟨_, _, rfl, rfl, ?_⟩
   exact ⟨b, by rw [t]⟩
  simp at z
theorem commaCodeY_c {g0 o0 g1 o1 : Nat} {f k : Fun} {p q : FunP} {H : GHeap} (h : Fun.At H g0 o0 f p := by assumption) (h' : Fun.At H g1 o1 k q := by assumption) (hs : f.Small := by assumption) (hs1 : k.Small := by assumption) (hC : kmC f k = 0) :
    GCalls Try.prog 75 [.pointer (some ⟨g0, o0, none⟩), .pointer (some ⟨g1, o1, none⟩)] H (CmRes H f k (.int .i64 (kmC f k))) := by
  obtain ⟨ho, hq⟩ := kmC_inv hC
  refine GCalls.body (N := 30) (rs := [.tmp 4, .tmp 5]) Try.func75 rfl rfl rfl rfl (fun Qx a0 hend => ?_)
  refine .fg [0, 1] rfl ?_
  have d := GHeap.Le.refl H
  have b := h
  have a := h'
  obtain ⟨fsf, ftf, l, j, v, u⟩ := h.get
  have hmf : MemN _ _ _ _ _ := ⟨rfl, h.1⟩
  have hif := h.2
  have hmsf : MemN _ _ _ _ _ := ⟨rfl, fsf.1⟩
  have hisf := fsf.2
  have hmtf : MemN _ _ _ _ _ := ⟨rfl, ftf.1⟩
  have hitf := ftf.2
  obtain ⟨fsk, ftk, i, g, r, w⟩ := h'.get
  have hmk : MemN _ _ _ _ _ := ⟨rfl, h'.1⟩
  have hik := h'.2
  have hmsk : MemN _ _ _ _ _ := ⟨rfl, fsk.1⟩
  have hisk := fsk.2
  have hmtk : MemN _ _ _ _ _ := ⟨rfl, ftk.1⟩
  have hitk := ftk.2
  refine .seq (fun K1 a7 => .region (.mv rfl (.mv rfl (.nil (a7 _ _ (.seq (fun K2 b7 => .seq (fun K3 b1 => .region (.mv rfl (.mv rfl ?_))))))))))
  refine .R rfl (.litA rfl sl_194_G ze_79_Mf rfl rfl rfl rfl) ?_
  rintro _ a2 ⟨g10, rfl, o, ge10, m⟩
  have nx_H10 := o.1
  replace d := d.trans o
  have lt_at10 := GHeap.ltg m
  replace h := b.mono d
  replace h' := a.mono d
  clear fsf ftf l j v u hmf hif hmsf hisf hmtf hitf fsk ftk i g r w hmk hik hmsk hisk hmtk hitk
  obtain ⟨fsf, ftf, l, j, v, u⟩ := h.get
  have hmf : MemN _ _ _ _ _ := ⟨rfl, h.1⟩
  have hif := h.2
  have hmsf : MemN _ _ _ _ _ := ⟨rfl, fsf.1⟩
  have hisf := fsf.2
  have hmtf : MemN _ _ _ _ _ := ⟨rfl, ftf.1⟩
  have hitf := ftf.2
  obtain ⟨fsk, ftk, i, g, r, w⟩ := h'.get
  have hmk : MemN _ _ _ _ _ := ⟨rfl, h'.1⟩
  have hik := h'.2
  have hmsk : MemN _ _ _ _ _ := ⟨rfl, fsk.1⟩
  have hisk := fsk.2
  have hmtk : MemN _ _ _ _ _ := ⟨rfl, ftk.1⟩
  have hitk := ftk.2
  refine .callQ rfl rfl rfl rfl @Try.call139 rfl (areFunctors2_c (h1 := h) (h2 := h')) ?_
  refine .q rfl (.not rfl) (.nil (b1 _ _ ?_))
  refine .cond rfl (fun t => ?_) (fun t => ?_)
  ·
   simp only [sps] at t; exact absurd ⟨ho.p, ho.q⟩ t
  try simp only [sps] at t
  refine .skip ?_
  refine b7 _ _ (.seq (fun K4 b0 => .seq (fun K5 a9 => ?_)))
  refine .regionD mo_B (.q 0 (.q 1 (.q 2 (.q 3 (.q 4 (.q 5 (.c 6 0 (.q 7 (.done))))))))) (by kernel_rfl) ?_
  refine .mv rfl rfl (.q rfl (.nilCheck rfl) (.q rfl (.fieldAddr fo_33_1_E rfl) (.mv rfl rfl (.q rfl (.nilCheck rfl) (.q rfl (.fieldAddr fo_33_1_E rfl) ?_)))))
  refine .callQ0 rfl rfl rfl rfl rfl @Try.call140 rfl (sameCategory_c (hs := hs.2.1) (hs' := hs1.2.1)) ?_
  refine .q rfl (.not rfl) ?_
  refine .done ?_
  refine a9 _ _ ?_
  refine .cond rfl (fun s => ?_) (fun s => ?_)
  ·
   simp only [sps] at s; exact absurd ho.e s
  try simp only [sps] at s
  refine .skip ?_
  refine b0 _ _ (.seq (fun K6 a5 => .region (.mv rfl (.mv rfl ?_))))
  refine .call rfl rfl rfl rfl @Try.call141 rfl (commaOfY_c (ho := ho) (hn := hq)) ?_
  rintro _ x ⟨n, gk, b5, a8, b3, b2, rfl, a1, z, a3, a4⟩
  have nx_H24 := n.1
  replace d := d.trans n
  replace m := n.2 _ _ m
  have bs_v24 := a3
  have lv_v24 : Keep a2.next x x := fun _ _ _ h => h
  have bs_u24 := a4
  have lv_u24 : Keep a2.next x x := fun _ _ _ h => h
  replace h := b.mono d
  replace h' := a.mono d
  clear fsf ftf l j v u hmf hif hmsf hisf hmtf hitf fsk ftk i g r w hmk hik hmsk hisk hmtk hitk
  obtain ⟨fsf, ftf, l, j, v, u⟩ := h.get
  have hmf : MemN _ _ _ _ _ := ⟨rfl, h.1⟩
  have hif := h.2
  have hmsf : MemN _ _ _ _ _ := ⟨rfl, fsf.1⟩
  have hisf := fsf.2
  have hmtf : MemN _ _ _ _ _ := ⟨rfl, ftf.1⟩
  have hitf := ftf.2
  obtain ⟨fsk, ftk, i, g, r, w⟩ := h'.get
  have hmk : MemN _ _ _ _ _ := ⟨rfl, h'.1⟩
  have hik := h'.2
  have hmsk : MemN _ _ _ _ _ := ⟨rfl, fsk.1⟩
  have hisk := fsk.2
  have hmtk : MemN _ _ _ _ _ := ⟨rfl, ftk.1⟩
  have hitk := ftk.2
  refine .mv rfl (.q rfl (.extract rfl rfl) (.q rfl (.extract rfl rfl) (.mv rfl (.mv rfl (.nil (a5 _ _ (.seq (fun K7 b6 => .seq (fun K8 a6 => .region (.mv rfl (.q rfl (.not rfl) (.nil (a6 _ _ ?_)))))))))))))
  refine .cond rfl (fun y => ?_) (fun y => ?_)
  ·
   simp at y
  try simp only [sps] at y
  refine .skip ?_
  refine b6 _ _ (.seq (fun K9 b4 => .region (.mv rfl (.mv rfl (.mv rfl (.nil (b4 _ _ ?_)))))))
  refine .ret ?_
  refine a0 _ _ ?_
  refine ⟨_, _, rfl, rfl, ?_⟩
  exact ⟨d, gk, b5, a8, b3, b2, by rw [hC]; rfl, a1, z, a3.keep (.of_le (.refl _)) (by omega), a4.keep (.of_le (.refl _)) (by omega)⟩
theorem implCommaObjectsN_c {f k : Fun} {p q : FunP} {H : GHeap} (hin : f.In H p := by assumption) (hin1 : k.In H q := by assumption) (hs : f.Small := by assumption) (hs1 : k.Small := by assumption) (hC : ¬ kmC f k = 0) :
    GCalls Try.prog 33 [.agg (f.cells p).toArray, .agg (k.cells q).toArray] H (fun v H' => H.Le H' ∧ ∃ a r, v = .tuple #[.slice a (kmRO f k).length (kmRO f k).length, .int .i64 (kmC f k)] ∧ IntssR H.next H' a (kmRO f k) r) := by
  refine GCalls.body (N := 19) (rs := [.tmp 4, .tmp 5]) Try.func33 rfl rfl rfl rfl (fun Qx b1 hend => ?_)
  refine .fg [0, 1] rfl ?_
  have d := GHeap.Le.refl H
  have c := hin
  have b := hin1
  refine .seq (fun K1 b7 => .region ?_)
  refine .R rfl (.boxR rfl sz_33_E rfl) ?_
  rintro _ H2 ⟨g2, rfl, b5, ge2, s⟩
  have nx_H2 := b5.1
  replace d := d.trans b5
  have lt_at2 := GHeap.ltg s
  replace hin := c.mono d
  replace hin1 := b.mono d
  have e : Fun.At _ g2 0 f p := ⟨Mem.of_get s, hin⟩
  obtain ⟨g, h, o, i, a9, a6⟩ := e.get
  have a5 : MemN _ _ _ _ _ := ⟨rfl, e.1⟩
  have a8 := e.2
  have m : MemN _ _ _ _ _ := ⟨rfl, g.1⟩
  have j := g.2
  have n : MemN _ _ _ _ _ := ⟨rfl, h.1⟩
  have l := h.2
  refine .R rfl (.boxR rfl sz_33_E rfl) ?_
  rintro _ H3 ⟨g3, rfl, b0, ge3, x⟩
  have nx_H3 := b0.1
  replace d := d.trans b0
  replace s := b0.2 _ _ s
  have lt_at3 := GHeap.ltg x
  replace hin := c.mono d
  replace hin1 := b.mono d
  clear e g h o i a9 a6 a5 a8 m j n l
  have e : Fun.At _ g2 0 f p := ⟨Mem.of_get s, hin⟩
  obtain ⟨g, h, o, i, a9, a6⟩ := e.get
  have a5 : MemN _ _ _ _ _ := ⟨rfl, e.1⟩
  have a8 := e.2
  have m : MemN _ _ _ _ _ := ⟨rfl, g.1⟩
  have j := g.2
  have n : MemN _ _ _ _ _ := ⟨rfl, h.1⟩
  have l := h.2
  have t : Fun.At _ g3 0 k q := ⟨Mem.of_get x, hin1⟩
  obtain ⟨u, w, a1, a2, b3, b6⟩ := t.get
  have b2 : MemN _ _ _ _ _ := ⟨rfl, t.1⟩
  have b4 := t.2
  have y : MemN _ _ _ _ _ := ⟨rfl, u.1⟩
  have a3 := u.2
  have a0 : MemN _ _ _ _ _ := ⟨rfl, w.1⟩
  have z := w.2
  refine .mv rfl (.mv rfl (.nil (b7 _ _ (.seq (fun K2 c0 => .region ?_)))))
  refine .call rfl rfl rfl rfl @Try.call75 rfl (commaCodeN_c (hC := hC)) ?_
  rintro _ H9 ⟨a4, rfl⟩
  have nx_H9 := a4.1
  replace d := d.trans a4
  replace s := a4.2 _ _ s
  replace x := a4.2 _ _ x
  replace hin := c.mono d
  replace hin1 := b.mono d
  clear e g h o i a9 a6 a5 a8 m j n l
  have e : Fun.At _ g2 0 f p := ⟨Mem.of_get s, hin⟩
  obtain ⟨g, h, o, i, a9, a6⟩ := e.get
  have a5 : MemN _ _ _ _ _ := ⟨rfl, e.1⟩
  have a8 := e.2
  have m : MemN _ _ _ _ _ := ⟨rfl, g.1⟩
  have j := g.2
  have n : MemN _ _ _ _ _ := ⟨rfl, h.1⟩
  have l := h.2
  clear t u w a1 a2 b3 b6 b2 b4 y a3 a0 z
  have t : Fun.At _ g3 0 k q := ⟨Mem.of_get x, hin1⟩
  obtain ⟨u, w, a1, a2, b3, b6⟩ := t.get
  have b2 : MemN _ _ _ _ _ := ⟨rfl, t.1⟩
  have b4 := t.2
  have y : MemN _ _ _ _ _ := ⟨rfl, u.1⟩
  have a3 := u.2
  have a0 : MemN _ _ _ _ _ := ⟨rfl, w.1⟩
  have z := w.2
  refine .mv rfl (.q rfl (.extract rfl rfl) (.q rfl (.extract rfl rfl) (.mv rfl (.mv rfl (.nil (c0 _ _ (.seq (fun K3 hK3 => .seq (fun K4 b9 => .region (.mv rfl (.q rfl (.cmp rfl rfl rfl) (.nil (b9 _ _ ?_)))))))))))))
  refine .cond rfl (fun a7 => ?_) (fun a7 => ?_)
  ·
   try simp only [sps] at a7
   refine .seq (fun K5 b8 => .region (.mv rfl (.mv rfl (.mv rfl (.nil (b8 _ _ ?_))))))
   refine .ret ?_
   refine b1 _ _ ?_
   refine ⟨_, _, rfl, rfl, ?_⟩
   obtain ⟨e1, e2⟩ := kmR_not hC
   rw [e1]
   exact ⟨d, none, fun _ => none, rfl, .nil _ _ _⟩
  simp only [sps] at a7; exact absurd a7 hC
theorem implCommaObjectsY_c {f k : Fun} {p q : FunP} {H : GHeap} (hin : f.In H p := by assumption) (hin1 : k.In H q := by assumption) (hs : f.Small := by assumption) (hs1 : k.Small := by assumption) (hC : kmC f k = 0) :
    GCalls Try.prog 33 [.agg (f.cells p).toArray, .agg (k.cells q).toArray] H (fun v H' => H.Le H' ∧ ∃ a r, v = .tuple #[.slice a (kmRO f k).length (kmRO f k).length, .int .i64 (kmC f k)] ∧ IntssR H.next H' a (kmRO f k) r) := by
  refine GCalls.body (N := 19) (rs := [.tmp 4, .tmp 5]) Try.func33 rfl rfl rfl rfl (fun Qx b3 hend => ?_)
  refine .fg [0, 1] rfl ?_
  have d := GHeap.Le.refl H
  have c := hin
  have b := hin1
  refine .seq (fun K1 c0 => .region ?_)
  refine .R rfl (.boxR rfl sz_33_E rfl) ?_
  rintro _ H2 ⟨g2, rfl, b7, ge2, t⟩
  have nx_H2 := b7.1
  replace d := d.trans b7
  have lt_at2 := GHeap.ltg t
  replace hin := c.mono d
  replace hin1 := b.mono d
  have e : Fun.At _ g2 0 f p := ⟨Mem.of_get t, hin⟩
  obtain ⟨g, i, s, j, b1, a7⟩ := e.get
  have a6 : MemN _ _ _ _ _ := ⟨rfl, e.1⟩
  have b0 := e.2
  have n : MemN _ _ _ _ _ := ⟨rfl, g.1⟩
  have l := g.2
  have o : MemN _ _ _ _ _ := ⟨rfl, i.1⟩
  have m := i.2
  refine .R rfl (.boxR rfl sz_33_E rfl) ?_
  rintro _ H3 ⟨g3, rfl, b2, ge3, y⟩
  have nx_H3 := b2.1
  replace d := d.trans b2
  replace t := b2.2 _ _ t
  have lt_at3 := GHeap.ltg y
  replace hin := c.mono d
  replace hin1 := b.mono d
  clear e g i s j b1 a7 a6 b0 n l o m
  have e : Fun.At _ g2 0 f p := ⟨Mem.of_get t, hin⟩
  obtain ⟨g, i, s, j, b1, a7⟩ := e.get
  have a6 : MemN _ _ _ _ _ := ⟨rfl, e.1⟩
  have b0 := e.2
  have n : MemN _ _ _ _ _ := ⟨rfl, g.1⟩
  have l := g.2
  have o : MemN _ _ _ _ _ := ⟨rfl, i.1⟩
  have m := i.2
  have u : Fun.At _ g3 0 k q := ⟨Mem.of_get y, hin1⟩
  obtain ⟨w, x, a2, a3, b5, b8⟩ := u.get
  have b4 : MemN _ _ _ _ _ := ⟨rfl, u.1⟩
  have b6 := u.2
  have z : MemN _ _ _ _ _ := ⟨rfl, w.1⟩
  have a4 := w.2
  have a1 : MemN _ _ _ _ _ := ⟨rfl, x.1⟩
  have a0 := x.2
  refine .mv rfl (.mv rfl (.nil (c0 _ _ (.seq (fun K2 c5 => .region ?_)))))
  refine .call rfl rfl rfl rfl @Try.call75 rfl (commaCodeY_c (hC := hC)) ?_
  rintro _ H9 ⟨a5, gk, a9, r9, b9, s9, rfl, c1, cl9, v9, u9⟩
  have nx_H9 := a5.1
  replace d := d.trans a5
  replace t := a5.2 _ _ t
  replace y := a5.2 _ _ y
  have bs_v9 := v9
  have lv_v9 : Keep H3.next H9 H9 := fun _ _ _ h => h
  have bs_u9 := u9
  have lv_u9 : Keep H3.next H9 H9 := fun _ _ _ h => h
  replace hin := c.mono d
  replace hin1 := b.mono d
  clear e g i s j b1 a7 a6 b0 n l o m
  have e : Fun.At _ g2 0 f p := ⟨Mem.of_get t, hin⟩
  obtain ⟨g, i, s, j, b1, a7⟩ := e.get
  have a6 : MemN _ _ _ _ _ := ⟨rfl, e.1⟩
  have b0 := e.2
  have n : MemN _ _ _ _ _ := ⟨rfl, g.1⟩
  have l := g.2
  have o : MemN _ _ _ _ _ := ⟨rfl, i.1⟩
  have m := i.2
  clear u w x a2 a3 b5 b8 b4 b6 z a4 a1 a0
  have u : Fun.At _ g3 0 k q := ⟨Mem.of_get y, hin1⟩
  obtain ⟨w, x, a2, a3, b5, b8⟩ := u.get
  have b4 : MemN _ _ _ _ _ := ⟨rfl, u.1⟩
  have b6 := u.2
  have z : MemN _ _ _ _ _ := ⟨rfl, w.1⟩
  have a4 := w.2
  have a1 : MemN _ _ _ _ _ := ⟨rfl, x.1⟩
  have a0 := x.2
  refine .mv rfl (.q rfl (.extract rfl rfl) (.q rfl (.extract rfl rfl) (.mv rfl (.mv rfl (.nil (c5 _ _ (.seq (fun K3 c4 => .seq (fun K4 c3 => .region (.mv rfl (.q rfl (.cmp rfl rfl rfl) (.nil (c3 _ _ ?_)))))))))))))
  refine .cond rfl (fun a8 => ?_) (fun a8 => ?_)
  ·
   simp only [sps] at a8; exact absurd hC a8
  try simp only [sps] at a8
  refine .skip ?_
  refine c4 _ _ (.seq (fun K5 c2 => .region (.mv rfl (.q rfl (.nilCheck rfl) (.q rfl (.fieldAddr fo_98_2_Me rfl) ?_)))))
  refine .q rfl (.load on_25_B rfl (by rw [Nat.zero_add]; exact c1)) ?_
  refine .mv rfl (.mv rfl (.nil (c2 _ _ ?_)))
  refine .ret ?_
  refine b3 _ _ ?_
  refine ⟨_, _, rfl, rfl, ?_⟩
  obtain ⟨e1, e2⟩ := kmR_ok hC
  rw [e1, hC]
  exact ⟨d, _, _, rfl, v9.keep (.of_le (.refl _)) (by omega)⟩
theorem implCommaObjects_c {f k : Fun} {p q : FunP} {H : GHeap} (hin : f.In H p := by assumption) (hin1 : k.In H q := by assumption) (hs : f.Small := by assumption) (hs1 : k.Small := by assumption) :
    GCalls Try.prog 33 [.agg (f.cells p).toArray, .agg (k.cells q).toArray] H (fun v H' => H.Le H' ∧ ∃ a r, v = .tuple #[.slice a (kmRO f k).length (kmRO f k).length, .int .i64 (kmC f k)] ∧ IntssR H.next H' a (kmRO f k) r) := by
  by_cases hC : kmC f k = 0
  · exact implCommaObjectsY_c (hC := hC)
  · exact implCommaObjectsN_c (hC := hC)
end Go.Proofs.Ytiooclghkafokaa
namespace Go.Proofs.Ytiooclghkafokaa
open Go Go.GL Go.RowKit Go.Proofs
theorem markInt64S_own {g : Nat} {e : TypeId} {xs : List Int} {k : Int} {H : GHeap} (at0 : H.get g = some (.row (ints xs) e true)) (hk : 0 ≤ k) (hk' : k + xs.length ≤ 9223372036854775000) :
    GCalls Try.prog 79 [.slice (some ⟨g, 0, none⟩) xs.length xs.length, .int .i64 k] H (fun v H' => v = .int .i64 (k + xs.length) ∧ St [g] H H' ∧ H'.get g = some (.row (ints (seqL k xs.length)) e true)) := by
  refine GCalls.body (N := 19) (rs := [.tmp 4]) Try.func79 rfl rfl rfl rfl (fun Qx h hend => ?_)
  refine .fg [0, 1] rfl ?_
  refine .seq (fun K1 l => .region (.mv rfl (.nil (l _ _ (.seq (fun K2 s => .seq (fun K3 o => .region (.mv rfl (.nil (o _ _ ?_))))))))))
  refine .block ?_
  refine .loopR (σ := Nat × Int × List Int) [(0, some _)] (fun (i, q, ys) => [(5, some (.int .i64 (i : Int))), (1, some (.int .i64 q))]) (fun (i, q, ys) H' => St [g] H H' ∧ H'.get g = some (.row (ints ys) e true) ∧ i ≤ xs.length ∧ q = k + i ∧ ys.length = xs.length ∧ ∀ j, j < i → ys.getD j 0 = k + j) (fun (i, q, ys) => xs.length - i) ((0, k, xs)) ⟨rfl, trivial⟩ ⟨rfl, rfl, trivial⟩ ?_ ?_
  ·
   refine ⟨.refl _ _, by first | assumption | exact at0 | simpa using at0, ?_⟩
   exact ⟨by omega, by omega, rfl, fun _ _ => by omega⟩
  rintro ⟨i, q, ys⟩ HL1 ⟨c, a, hI⟩ KL1 f
  refine .forget (fr' := [(5, some (.int .i64 (i : Int))), (1, some (.int .i64 q)), (0, some _)]) ⟨rfl, rfl, rfl, trivial⟩ ?_
  obtain ⟨hi, hq, hyl, ha⟩ := hI
  have hsl := SlA.of_ints a hyl
  refine .seq (fun K4 m => .seq (fun K5 r => .region (.mv rfl (.mv rfl (.q rfl (.len sl_24_A rfl) (.q rfl (.cmp rfl rfl rfl) (.nil (r _ _ ?_))))))))
  refine .cond rfl (fun h9 => ?_) (fun h9 => ?_)
  ·
   try simp only [sps] at h9
   refine .skip ?_
   refine m _ _ (.seq (fun K6 p => ?_))
   refine .block ?_
   refine .seq (fun K7 n => .region (.mv rfl (.mv rfl (.mv rfl ?_))))
   refine .q rfl (.idxN sl_24_A (by first | assumption | exact SlA.of_row a (by first | rfl | (simp; done) | (simp <;> omega))) rfl rfl (by omega)) ?_
   refine .r0 rfl rfl (.storeI rfl sz_2_E rfl rfl (by assumption) (by first | omega | (simp <;> omega))) ?_
   rintro _ H4004 ⟨rfl, b, d⟩
   have nx_H4004 := b.nx
   replace c := c.sA b
   have lt_at4004 := GHeap.ltg d
   refine .nil (n _ _ (.region (.mv rfl ?_)))
   refine .q rfl (.add rfl rfl rfl (by omega) (by omega)) ?_
   refine .mv rfl (.nil (p _ _ (.region (.mv rfl ?_))))
   refine .q rfl (.add rfl rfl rfl (by omega) (by omega)) ?_
   refine .mv rfl (.nil ?_)
   refine f ((i + 1, q + 1, ys.set (0 + i) q)) _ _ ?_ ?_ ⟨rfl, rfl, rfl, trivial⟩
   ·
    refine ⟨c, by assumption, ?_⟩
    refine ⟨by omega, by omega, by simpa using hyl, fun j hj => ?_⟩
    rw [Nat.zero_add, getD_set (by omega)]
    split
    · rename_i e; rw [e]; exact hq
    · exact ha j (by omega)
   (dsimp only; omega)
  try simp only [sps] at h9
  refine .exit ?_
  refine s _ _ (.seq (fun K8 t => .region (.mv rfl (.mv rfl (.nil (t _ _ ?_))))))
  refine .ret ?_
  refine h _ _ ?_
  refine ⟨_, rfl, ?_⟩
  obtain rfl : ys = seqL k xs.length := eq_of_getD (by rw [hyl, length_seqL]) fun j hj => by rw [length_seqL] at hj; rw [ha j (by omega), seqL_get hj]
  obtain rfl : i = xs.length := by omega
  exact ⟨by rw [hq], c, a⟩
theorem markInt64S_nil {a : Option Addr} {k : Int} {H : GHeap} (hk : 0 ≤ k) (hk' : k ≤ 9223372036854775000) :
    GCalls Try.prog 79 [.slice a 0 0, .int .i64 k] H (fun v H' => v = .int .i64 k ∧ H' = H) := by
  refine GCalls.body (N := 19) (rs := [.tmp 4]) Try.func79 rfl rfl rfl rfl (fun Qx b hend => ?_)
  refine .fg [0, 1] rfl ?_
  refine .seq (fun K1 c => .region (.mv rfl (.nil (c _ _ (.seq (fun K2 g => .seq (fun K3 d => .region (.mv rfl (.nil (d _ _ ?_))))))))))
  refine .block ?_
  refine .loopR (σ := Unit) [(0, some _)] (fun u => [(5, some (.int .i64 0)), (1, some (.int .i64 k))]) (fun u H' => H = H' ∧ True) (fun u => 0) (()) ⟨rfl, trivial⟩ ⟨rfl, rfl, trivial⟩ ?_ ?_
  ·
   refine ⟨rfl, ?_⟩
   exact trivial
  rintro u _ ⟨rfl, hI⟩ KL1 hKL1
  refine .forget (fr' := [(5, some (.int .i64 0)), (1, some (.int .i64 k)), (0, some _)]) ⟨rfl, rfl, rfl, trivial⟩ ?_
  refine .seq (fun K4 hK4 => .seq (fun K5 f => .region (.mv rfl (.mv rfl (.q rfl (.len sl_24_A rfl) (.q rfl (.cmp rfl rfl rfl) (.nil (f _ _ ?_))))))))
  refine .cond rfl (fun h9 => ?_) (fun h9 => ?_)
  ·
   exact absurd h9 (by simp)
  try simp only [sps] at h9
  refine .exit ?_
  refine g _ _ (.seq (fun K6 e => .region (.mv rfl (.mv rfl (.nil (e _ _ ?_))))))
  refine .ret ?_
  refine b _ _ ?_
  refine ⟨_, rfl, ?_⟩
  exact ⟨rfl, rfl⟩
theorem markInt64S_c {a : Option Addr} {n lo hi : Nat} {k : Int} {H : GHeap} (h : IntsW lo hi H a n := by assumption) (hk : 0 ≤ k := by omega) (hk' : k + n ≤ 9223372036854775000 := by omega) :
    GCalls Try.prog 79 [.slice a n n, .int .i64 k] H (fun v H' => v = .int .i64 (k + n) ∧ Marked lo hi H H' [(a, n)] k) := by
  by_cases h0 : n = 0
  · subst h0
    refine (markInt64S_nil hk (by omega)).mono fun v H' ⟨h1, h2⟩ => ?_
    subst h2
    exact ⟨by rw [h1]; simp, .refl _ _ _, .refl _ _, fun _ => ⟨.inl rfl, trivial⟩⟩
  · rcases h with h | ⟨g, e, xs, rfl, h2, h3, h4, rfl⟩
    · exact absurd h h0
    · exact (markInt64S_own h4 hk hk').mono fun v H' ⟨k1, k2, k3⟩ => ⟨k1, .one h2 h3 h4 k2 k3 h0⟩
theorem heldInt64S_c {a : Option Addr} {n b : Nat} {k : Int} {H : GHeap} (h : Held b H [(a, n)] k := by assumption) (hk : 0 ≤ k := by omega) (hk' : k + n ≤ 9223372036854775000 := by omega) :
    GCalls Try.prog 80 [.slice a n n, .int .i64 k] H (Ret (.int .i64 (k + n)) H) := by
  have hi := h.ints
  have hl : (seqL k n).length = n := length_seqL k n
  have hsl : SlA H a n (fun i => .int .i64 ((seqL k n).getD i 0)) := by have hi' := hi; unfold Ints at hi'; rw [hl] at hi'; exact hi'
  refine GCalls.body (N := 21) (rs := [.tmp 4]) Try.func80 rfl rfl rfl rfl (fun Qx c hend => ?_)
  refine .fg [0, 1] rfl ?_
  refine .seq (fun K1 j => .region (.mv rfl (.nil (j _ _ (.seq (fun K2 s => .seq (fun K3 o => .region (.mv rfl (.nil (o _ _ ?_))))))))))
  refine .block ?_
  refine .loopR (σ := Nat × Int) [(0, some _)] (fun (i, q) => [(5, some (.int .i64 (i : Int))), (1, some (.int .i64 q))]) (fun (i, q) H' => H = H' ∧ i ≤ n ∧ q = k + i) (fun (i, q) => n - i) ((0, k)) ⟨rfl, trivial⟩ ⟨rfl, rfl, trivial⟩ ?_ ?_
  ·
   refine ⟨rfl, ?_⟩
   exact ⟨by omega, by omega⟩
  rintro ⟨i, q⟩ _ ⟨rfl, hI⟩ KL1 e
  refine .forget (fr' := [(5, some (.int .i64 (i : Int))), (1, some (.int .i64 q)), (0, some _)]) ⟨rfl, rfl, rfl, trivial⟩ ?_
  obtain ⟨hi, hq⟩ := hI
  refine .seq (fun K4 g => .seq (fun K5 r => .region (.mv rfl (.mv rfl (.q rfl (.len sl_24_A rfl) (.q rfl (.cmp rfl rfl rfl) (.nil (r _ _ ?_))))))))
  refine .cond rfl (fun h9 => ?_) (fun h9 => ?_)
  ·
   try simp only [sps] at h9
   refine .skip ?_
   refine g _ _ (.seq (fun K6 p => ?_))
   refine .block ?_
   refine .seq (fun K7 m => .seq (fun K8 t => .region (.mv rfl (.mv rfl ?_))))
   refine .q rfl (.idxN sl_24_A hsl rfl rfl (by omega)) ?_
   refine .q rfl (.loadE on_2_A hsl rfl (by omega)) ?_
   refine .mv rfl (.q rfl (.cmp rfl rfl rfl) (.nil (t _ _ ?_)))
   refine .cond rfl (fun d => ?_) (fun d => ?_)
   ·
    simp only [sps] at d
    rw [seqL_get (by omega)] at d
    refine .seq (fun K9 l => .region (.mv rfl (.nil (l _ _ ?_))))
    refine .ret ?_
    refine c _ _ ?_
    refine ⟨_, rfl, ?_⟩
    exact absurd hq.symm (by omega)
   try simp only [sps] at d
   refine .skip ?_
   refine m _ _ (.region (.mv rfl ?_))
   refine .q rfl (.add rfl rfl rfl (by omega) (by omega)) ?_
   refine .mv rfl (.nil (p _ _ (.region (.mv rfl ?_))))
   refine .q rfl (.add rfl rfl rfl (by omega) (by omega)) ?_
   refine .mv rfl (.nil ?_)
   refine e ((i + 1, q + 1)) _ _ ?_ ?_ ⟨rfl, rfl, rfl, trivial⟩
   ·
    refine ⟨rfl, ?_⟩
    exact ⟨by omega, by omega⟩
   (dsimp only; omega)
  try simp only [sps] at h9
  refine .exit ?_
  refine s _ _ (.seq (fun K10 f => .region (.mv rfl (.mv rfl (.nil (f _ _ ?_))))))
  refine .ret ?_
  refine c _ _ ?_
  refine ⟨_, rfl, ?_⟩
  obtain rfl : i = n := by omega
  exact .of (by rw [hq])
theorem markInt64SS_c {a : Option Addr} {xss : List (List Int)} {r : Nat → Option Addr} {lo hi : Nat} {k : Int} {H : GHeap} (h : IntssW lo hi H a xss r := by assumption) (hk : 0 ≤ k := by omega) (hk' : k + sumL xss ≤ 9223372036854775000 := by omega) (hl : xss.length ≤ 1048576 := by omega) :
    GCalls Try.prog 30 [.slice a xss.length xss.length, .int .i64 k] H (fun v H' => v = .int .i64 (k + sumL xss) ∧ Marked lo hi H H' (rowsL r xss xss.length) k) := by
  refine GCalls.body (N := 19) (rs := [.tmp 4]) Try.func30 rfl rfl rfl rfl (fun Qx c hend => ?_)
  refine .fg [0, 1] rfl ?_
  refine .seq (fun K1 f => .region (.mv rfl (.nil (f _ _ (.seq (fun K2 n => .seq (fun K3 j => .region (.mv rfl (.nil (j _ _ ?_))))))))))
  refine .block ?_
  refine .loopR (σ := Nat × Int) [(0, some _)] (fun (i, q) => [(5, some (.int .i64 (i : Int))), (1, some (.int .i64 q))]) (fun (i, q) H' => i ≤ xss.length ∧ q = k + sumL (xss.take i) ∧ Marked lo hi H H' (rowsL r xss i) k) (fun (i, q) => xss.length - i) ((0, k)) ⟨rfl, trivial⟩ ⟨rfl, rfl, trivial⟩ ?_ ?_
  ·
   exact ⟨by omega, by simp [sumL], .nil _ _ _ _⟩
  rintro ⟨i, q⟩ H' hI KL1 b
  refine .forget (fr' := [(5, some (.int .i64 (i : Int))), (1, some (.int .i64 q)), (0, some _)]) ⟨rfl, rfl, rfl, trivial⟩ ?_
  obtain ⟨hi', hq, hm⟩ := hI
  have hw := h.stm hm.stm
  have hsl := hw.1
  have hle1 := sumL_take_le (xss := xss) (k := i + 1)
  refine .seq (fun K4 e => .seq (fun K5 m => .region (.mv rfl (.mv rfl (.q rfl (.len sl_25_B rfl) (.q rfl (.cmp rfl rfl rfl) (.nil (m _ _ ?_))))))))
  refine .cond rfl (fun h9 => ?_) (fun h9 => ?_)
  ·
   simp only [sps] at h9
   have hts := sumL_take_succ (xss := xss) (k := i) (by omega)
   refine .skip ?_
   refine e _ _ (.seq (fun K6 l => ?_))
   refine .block ?_
   refine .region (.mv rfl (.mv rfl ?_))
   refine .q rfl (.idxN sl_25_B hsl rfl rfl (by omega)) ?_
   refine .q rfl (.loadE on_24_B hsl rfl (by omega)) ?_
   refine .mv rfl ?_
   refine .call rfl rfl rfl rfl @Try.call79 rfl (markInt64S_c (hw.2.1 i (by omega)) (by omega) (by omega)) ?_
   rintro _ H17 ⟨rfl, d⟩
   refine .mv rfl (.nil (l _ _ (.region (.mv rfl ?_))))
   refine .q rfl (.add rfl rfl rfl (by omega) (by omega)) ?_
   refine .mv rfl (.nil ?_)
   refine b ((i + 1, _)) _ _ ?_ ?_ ⟨rfl, rfl, rfl, trivial⟩
   ·
    exact ⟨by omega, by rw [sumL_take_succ (by omega)]; omega, by rw [rowsL_succ]; exact hm.app' d (by rw [lvSum_rowsL _ _ _ (by omega)]; omega)⟩
   (dsimp only; omega)
  try simp only [sps] at h9
  refine .exit ?_
  refine n _ _ (.seq (fun K7 g => .region (.mv rfl (.mv rfl (.nil (g _ _ ?_))))))
  refine .ret ?_
  refine c _ _ ?_
  refine ⟨_, rfl, ?_⟩
  obtain rfl : i = xss.length := by omega
  rw [List.take_length] at hq
  exact ⟨by rw [hq], hm⟩
theorem heldRow {b : Nat} {H : GHeap} {r : Nat → Option Addr} {xss : List (List Int)} {k : Int} : ∀ {n : Nat}, n ≤ xss.length → Held b H (rowsL r xss n) k → ∀ i, i < n → Held b H [(r i, (xss.getD i []).length)] (k + sumL (xss.take i))
  | 0, _, _, i, hi => by omega
  | n + 1, hn, h, i, hi => by
    rw [rowsL_succ] at h
    obtain ⟨h1, h2⟩ := h.app
    rw [lvSum_rowsL _ _ _ (by omega)] at h2
    by_cases e : i = n
    · subst e; exact h2
    · exact heldRow (by omega) h1 i (by omega)
theorem heldInt64SS_c {a : Option Addr} {xss : List (List Int)} {r : Nat → Option Addr} {b : Nat} {k : Int} {H : GHeap} (hsl : SlA H a xss.length (fun i => .slice (r i) (xss.getD i []).length (xss.getD i []).length) := by assumption) (h : Held b H (rowsL r xss xss.length) k := by assumption) (hk : 0 ≤ k := by omega) (hk' : k + sumL xss ≤ 9223372036854775000 := by omega) (hl : xss.length ≤ 1048576 := by omega) :
    GCalls Try.prog 31 [.slice a xss.length xss.length, .int .i64 k] H (Ret (.int .i64 (k + sumL xss)) H) := by
  refine GCalls.body (N := 21) (rs := [.tmp 4]) Try.func31 rfl rfl rfl rfl (fun Qx d hend => ?_)
  refine .fg [0, 1] rfl ?_
  refine .seq (fun K1 g => .region (.mv rfl (.nil (g _ _ (.seq (fun K2 p => .seq (fun K3 m => .region (.mv rfl (.nil (m _ _ ?_))))))))))
  refine .block ?_
  refine .loopR (σ := Nat × Int) [(0, some _)] (fun (i, q) => [(5, some (.int .i64 (i : Int))), (1, some (.int .i64 q))]) (fun (i, q) H' => H = H' ∧ i ≤ xss.length ∧ q = k + sumL (xss.take i)) (fun (i, q) => xss.length - i) ((0, k)) ⟨rfl, trivial⟩ ⟨rfl, rfl, trivial⟩ ?_ ?_
  ·
   refine ⟨rfl, ?_⟩
   exact ⟨by omega, by simp [sumL]⟩
  rintro ⟨i, q⟩ _ ⟨rfl, hI⟩ KL1 c
  refine .forget (fr' := [(5, some (.int .i64 (i : Int))), (1, some (.int .i64 q)), (0, some _)]) ⟨rfl, rfl, rfl, trivial⟩ ?_
  obtain ⟨hi', hq⟩ := hI
  have hle1 := sumL_take_le (xss := xss) (k := i + 1)
  refine .seq (fun K4 f => .seq (fun K5 o => .region (.mv rfl (.mv rfl (.q rfl (.len sl_25_B rfl) (.q rfl (.cmp rfl rfl rfl) (.nil (o _ _ ?_))))))))
  refine .cond rfl (fun h9 => ?_) (fun h9 => ?_)
  ·
   simp only [sps] at h9
   have hts := sumL_take_succ (xss := xss) (k := i) (by omega)
   have hr := heldRow (Nat.le_refl _) h i (by omega)
   rw [← hq] at hr
   refine .skip ?_
   refine f _ _ (.seq (fun K6 n => ?_))
   refine .block ?_
   refine .seq (fun K7 l => .region (.mv rfl (.mv rfl ?_)))
   refine .q rfl (.idxN sl_25_B hsl rfl rfl (by omega)) ?_
   refine .q rfl (.loadE on_24_B hsl rfl (by omega)) ?_
   refine .mv rfl ?_
   refine .callQ rfl rfl rfl rfl @Try.call80 rfl (heldInt64S_c) ?_
   refine .mv rfl (.nil (l _ _ (.seq (fun K8 s => .region (.mv rfl (.q rfl (.cmp rfl rfl rfl) (.nil (s _ _ ?_))))))))
   refine .cond rfl (fun e => ?_) (fun e => ?_)
   ·
    exact absurd e (by simp; omega)
   try simp only [sps] at e
   refine .skip ?_
   refine n _ _ (.region (.mv rfl ?_))
   refine .q rfl (.add rfl rfl rfl (by omega) (by omega)) ?_
   refine .mv rfl (.nil ?_)
   refine c ((i + 1, _)) _ _ ?_ ?_ ⟨rfl, rfl, rfl, trivial⟩
   ·
    refine ⟨rfl, ?_⟩
    exact ⟨by omega, by rw [sumL_take_succ (by omega)]; omega⟩
   (dsimp only; omega)
  try simp only [sps] at h9
  refine .exit ?_
  refine p _ _ (.seq (fun K9 j => .region (.mv rfl (.mv rfl (.nil (j _ _ ?_))))))
  refine .ret ?_
  refine d _ _ ?_
  refine ⟨_, rfl, ?_⟩
  obtain rfl : i = xss.length := by omega
  rw [List.take_length] at hq
  exact .of (by rw [hq])
theorem heldInt64SSw_c {a : Option Addr} {xss : List (List Int)} {r : Nat → Option Addr} {lo hi b : Nat} {k : Int} {H : GHeap} (w : IntssW lo hi H a xss r := by assumption) (h : Held b H (rowsL r xss xss.length) k := by assumption) (hk : 0 ≤ k := by omega) (hk' : k + sumL xss ≤ 9223372036854775000 := by omega) (hl : xss.length ≤ 1048576 := by omega) :
    GCalls Try.prog 31 [.slice a xss.length xss.length, .int .i64 k] H (Ret (.int .i64 (k + sumL xss)) H) := heldInt64SS_c w.1 h hk hk' hl
theorem markCategory_c {c : Cat} {p : CatP} {lo hi : Nat} {k : Int} {H : GHeap} (w : CatW lo hi H c p := by assumption) (hs : c.Small := by assumption) (hk : 0 ≤ k := by omega) (hk' : k + c.total ≤ 9223372036854775000 := by omega) (hhi : hi ≤ H.next := by omega) :
    GCalls Try.prog 78 [.agg (c.cells p).toArray, .int .i64 k] H (fun v H' => v = .int .i64 (k + c.total) ∧ Marked lo hi H H' (c.leaves p) k) := by
  obtain ⟨w1, w2, w3, w4⟩ := w
  have ht : c.total = c.src.length + (c.tgt.length + (c.idn.length + sumL c.comp)) := rfl
  obtain ⟨s1, s2, s3, s4, -, -⟩ := hs
  refine GCalls.body (N := 22) (rs := [.tmp 4]) Try.func78 rfl rfl rfl rfl (fun Qx i hend => ?_)
  refine .fg [0, 1] rfl ?_
  refine .seq (fun K1 m => .region ?_)
  refine .R rfl (.boxR rfl sz_27_D rfl) ?_
  rintro _ H2 ⟨g2, rfl, g, ge2, a⟩
  replace w1 := w1.stm (.of_le g)
  replace w2 := w2.stm (.of_le g)
  replace w3 := w3.stm (.of_le g)
  replace w4 := w4.stm (.of_le g)
  refine .mv rfl (.nil (m _ _ (.seq (fun K2 s => .region ?_))))
  have c1 : H2.cell g2 (0 + 1) = some (.slice p.a1 c.src.length c.src.length) := Mem.of_get a 1 _ rfl
  refine .q rfl (.fieldAddr fo_27_1_B rfl) ?_
  refine .q rfl (.load on_24_B rfl (by first | assumption | exact Mem.of_get a 1 _ rfl)) ?_
  refine .mv rfl ?_
  refine .call rfl rfl rfl rfl @Try.call79 rfl (markInt64S_c) ?_
  rintro _ H8 ⟨rfl, l⟩
  have h := l.stm
  replace a := h.same _ _ (by omega) a
  replace w2 := w2.stm h
  replace w3 := w3.stm h
  replace w4 := w4.stm h
  refine .mv rfl (.nil (s _ _ (.seq (fun K3 o => .region ?_))))
  have c2 : H8.cell g2 (0 + 2) = some (.slice p.a2 c.tgt.length c.tgt.length) := Mem.of_get a 2 _ rfl
  refine .q rfl (.fieldAddr fo_27_2_B rfl) ?_
  refine .q rfl (.load on_24_B rfl (by first | assumption | exact Mem.of_get a 2 _ rfl)) ?_
  refine .mv rfl ?_
  refine .call rfl rfl rfl rfl @Try.call79 rfl (markInt64S_c) ?_
  rintro _ t ⟨rfl, e⟩
  have b := e.stm
  replace a := b.same _ _ (by omega) a
  replace w3 := w3.stm b
  replace w4 := w4.stm b
  refine .mv rfl (.nil (o _ _ (.seq (fun K4 n => .region ?_))))
  have c3 : t.cell g2 (0 + 3) = some (.slice p.a3 c.idn.length c.idn.length) := Mem.of_get a 3 _ rfl
  refine .q rfl (.fieldAddr fo_27_3_B rfl) ?_
  refine .q rfl (.load on_24_B rfl (by first | assumption | exact Mem.of_get a 3 _ rfl)) ?_
  refine .mv rfl ?_
  refine .call rfl rfl rfl rfl @Try.call79 rfl (markInt64S_c) ?_
  rintro _ x ⟨rfl, f⟩
  have d := f.stm
  replace a := d.same _ _ (by omega) a
  replace w4 := w4.stm d
  refine .mv rfl (.nil (n _ _ (.seq (fun K5 u => .region ?_))))
  have c4 : x.cell g2 (0 + 4) = some (.slice p.a4 c.comp.length c.comp.length) := Mem.of_get a 4 _ rfl
  refine .q rfl (.fieldAddr fo_27_4_B rfl) ?_
  refine .q rfl (.load on_25_B rfl (by first | assumption | exact Mem.of_get a 4 _ rfl)) ?_
  refine .mv rfl ?_
  refine .call rfl rfl rfl rfl @Try.call30 rfl (markInt64SS_c) ?_
  rintro _ H20 ⟨rfl, j⟩
  refine .mv rfl (.nil (u _ _ (.seq (fun K6 r => .region (.mv rfl (.mv rfl (.nil (r _ _ ?_))))))))
  refine .ret ?_
  refine i _ _ ?_
  refine ⟨_, rfl, ?_⟩
  exact ⟨by rw [ht]; congr 1; omega, .le_left g (l.app' (e.app' (f.app' j (by simp [lvSum])) (by simp [lvSum])) (by simp [lvSum]))⟩
theorem markFunctor_c {c : Fun} {p : FunP} {lo hi : Nat} {k : Int} {H : GHeap} (w : FunW lo hi H c p := by assumption) (hs : c.Small := by assumption) (hk : 0 ≤ k := by omega) (hk' : k + c.total ≤ 9223372036854775000 := by omega) (hhi : hi ≤ H.next := by omega) :
    GCalls Try.prog 29 [.agg (c.cells p).toArray, .int .i64 k] H (fun v H' => v = .int .i64 (k + c.total) ∧ Marked lo hi H H' (c.leaves p) k) := by
  obtain ⟨w1, w2, w3, w4⟩ := w
  have ht : c.total = c.s.total + (c.t.total + (c.ob.length + c.ar.length)) := rfl
  obtain ⟨s1, s2, s3, s4⟩ := hs
  refine GCalls.body (N := 22) (rs := [.tmp 4]) Try.func29 rfl rfl rfl rfl (fun Qx i hend => ?_)
  refine .fg [0, 1] rfl ?_
  refine .seq (fun K1 m => .region ?_)
  refine .R rfl (.boxR rfl sz_33_E rfl) ?_
  rintro _ H2 ⟨g2, rfl, d, ge2, a⟩
  have nx_H2 := d.1
  have lt_at2 := GHeap.ltg a
  replace w1 := w1.stm (.of_le d)
  replace w2 := w2.stm (.of_le d)
  replace w3 := w3.stm (.of_le d)
  replace w4 := w4.stm (.of_le d)
  refine .mv rfl (.nil (m _ _ (.seq (fun K2 x => .region ?_))))
  have m1 : MemN H2 g2 (0 + 0) 5 (c.s.cells p.s) := ⟨rfl, Mem.left (bs := c.t.cells p.t ++ _) (Mem.of_get a)⟩
  refine .q rfl (.fieldAddr fo_33_0_E rfl) ?_
  refine .q rfl (.loadM ag_27_D rfl (by assumption)) ?_
  refine .mv rfl ?_
  refine .call rfl rfl rfl rfl @Try.call78 rfl (markCategory_c) ?_
  rintro _ H8 ⟨rfl, l⟩
  have e := l.stm
  have nx_H8 := e.nx
  replace a := e.same _ _ (by omega) a
  replace w2 := w2.stm e
  replace w3 := w3.stm e
  replace w4 := w4.stm e
  refine .mv rfl (.nil (x _ _ (.seq (fun K3 r => .region ?_))))
  have hx : Mem H8 g2 0 (c.s.cells p.s ++ (c.t.cells p.t ++ [.slice p.b1 c.ob.length c.ob.length, .slice p.b2 c.ar.length c.ar.length])) := Mem.of_get a
  have m2 : MemN H8 g2 (0 + 5) 5 (c.t.cells p.t) := ⟨rfl, (hx.right (n := 5) rfl).left⟩
  refine .q rfl (.fieldAddr fo_33_1_E rfl) ?_
  refine .q rfl (.loadM ag_27_D rfl (by assumption)) ?_
  refine .mv rfl ?_
  refine .call rfl rfl rfl rfl @Try.call78 rfl (markCategory_c) ?_
  rintro _ y ⟨rfl, g⟩
  have b := g.stm
  replace a := b.same _ _ (by omega) a
  replace w3 := w3.stm b
  replace w4 := w4.stm b
  refine .mv rfl (.nil (r _ _ (.seq (fun K4 o => .region ?_))))
  have c1 : y.cell g2 (0 + 10) = some (.slice p.b1 c.ob.length c.ob.length) := Mem.of_get a 10 _ rfl
  refine .q rfl (.fieldAddr fo_33_2_E rfl) ?_
  refine .q rfl (.load on_24_B rfl (by first | assumption | exact Mem.of_get a 10 _ rfl)) ?_
  refine .mv rfl ?_
  refine .call rfl rfl rfl rfl @Try.call79 rfl (markInt64S_c) ?_
  rintro _ a0 ⟨rfl, h⟩
  have f := h.stm
  replace a := f.same _ _ (by omega) a
  replace w4 := w4.stm f
  refine .mv rfl (.nil (o _ _ (.seq (fun K5 z => .region ?_))))
  have c1 : a0.cell g2 (0 + 11) = some (.slice p.b2 c.ar.length c.ar.length) := Mem.of_get a 11 _ rfl
  refine .q rfl (.fieldAddr fo_33_3_E rfl) ?_
  refine .q rfl (.load on_24_B rfl (by first | assumption | exact Mem.of_get a 11 _ rfl)) ?_
  refine .mv rfl ?_
  refine .call rfl rfl rfl rfl @Try.call79 rfl (markInt64S_c) ?_
  rintro _ H20 ⟨rfl, j⟩
  refine .mv rfl (.nil (z _ _ (.seq (fun K6 u => .region (.mv rfl (.mv rfl (.nil (u _ _ ?_))))))))
  refine .ret ?_
  refine i _ _ ?_
  refine ⟨_, rfl, ?_⟩
  exact ⟨by rw [ht]; congr 1; omega, .le_left d (l.app' (g.app' (h.app' j (by simp [lvSum])) (by rw [Cat.lvSum_leaves])) (by rw [Cat.lvSum_leaves]))⟩
end Go.Proofs.Ytiooclghkafokaa
namespace Go.Proofs.Ytiooclghkafokaa
open Go Go.GL Go.RowKit Go.Proofs
end Go.Proofs.Ytiooclghkafokaa
namespace Go.Proofs.Ytiooclghkafokaa
open Go Go.GL Go.RowKit Go.Proofs
end Go.Proofs.Ytiooclghkafokaa
namespace Go.Proofs.Ytiooclghkafokaa
open Go Go.GL Go.RowKit Go.Proofs
end Go.Proofs.Ytiooclghkafokaa
namespace Go.Proofs.Ytiooclghkafokaa
open Go Go.GL Go.RowKit Go.Proofs
end Go.Proofs.Ytiooclghkafokaa
namespace Go.Proofs.Ytiooclghkafokaa
open Go Go.GL Go.RowKit Go.Proofs
end Go.Proofs.Ytiooclghkafokaa
namespace Go.Proofs.Ytiooclghkafokaa
open Go Go.GL Go.RowKit Go.Proofs
end Go.Proofs.Ytiooclghkafokaa
