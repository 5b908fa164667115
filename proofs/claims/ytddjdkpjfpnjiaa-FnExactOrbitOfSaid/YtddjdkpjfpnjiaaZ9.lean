/- The other goroutine's own walk: quiet operations over ghost heaps, in whatever world that bears them. No condition. -/
import Derived.Test.YtddjdkpjfpnjiaaZ8
import Derived.Conc.PipeGen
set_option linter.unusedSectionVars false
namespace Go.GL
open Go.RowKit Go.Conc
variable [MainFlag]

def okQ (P : Program) (fr : Slots) : Op → Prop
  | .move _ | .assign _ | .nilCheck _ | .fieldAddr .. | .indexAddr .. => True
  | .load t _ => oneT P t = true
  | .binOp _ _ x _ _ => ∃ k n, ev fr x = some (.int k n)
  | .call { callee := .builtin .len, .. } => True
  | _ => False

section
variable {P : Program} {B : Nat} {w0 w : World} {ρ : Place} {H : GHeap} {fr : Slots} {a : Act} {Mine : Loc → Prop} {c : Nat} {S : World → Prop}

theorem eventsV {s : Sem Value} {es : Array Event} : ((do pure (Next.value (← s))) : Sem Next).events P w es = s.events P w es := by
  rw [Sem.events_bind]
  cases s.run P w <;> rfl

theorem MStep.reads {op : Op} {v : Value} (hm : MStep P fr H op v) (hop : okQ P fr op) (hf : ∀ t u, Operand.tmp t ∈ op.operands → fr.get t = some u → VRel ρ u (a.eval (.tmp t))) (hs : Sim P B w0 ρ H w) (o : Oper) (ho : o.op = op) :
    ∀ e ∈ (execOp a.eval o).events P w #[], ∃ (g : Nat) (s : Spot) (ad : Addr), (∃ x, H.get g = some x) ∧ ρ g = some s ∧ e = ⟨.cell ad, false, false⟩ ∧ ad.block = s.blk := by
  intro e he
  have none : ∀ {x : Array Event}, x = #[] → e ∈ x → False := fun h1 h2 => by rw [h1] at h2; simp at h2
  cases hm with
  | move h => unfold execOp at he; rw [ho] at he; exact (none rfl he).elim
  | assign h => unfold execOp at he; rw [ho] at he; exact (none rfl he).elim
  | pickT => exact hop.elim
  | pickF => exact hop.elim
  | nilCheck h =>
    obtain ⟨b, hb⟩ := (ev_rel hf (by simp [Op.operands]) h).ptr_some
    unfold execOp at he
    rw [ho] at he
    simp only [hb] at he
    exact (none rfl he).elim
  | fieldAddr hk h =>
    obtain ⟨b, hb⟩ := (ev_rel hf (by simp [Op.operands]) h).ptr_some
    obtain ⟨fs, fd, i, f1, f2, f3, f4, f5⟩ := fieldOff_run hk
    unfold execOp at he
    rw [ho] at he
    dsimp only at he
    rw [eventsV] at he
    refine (none ?_ he).elim
    simp [Instr.fieldAt, run_underlying f1, f2, hb, Instr.sureAddr, fieldPlace, sizeOf, typeInfo, f3, f4]
  | @load t1 x1 g1 o1 _ ht h hc =>
    obtain ⟨s, hsp, hb⟩ := (ev_rel hf (by simp [Op.operands]) h).ptr_inv
    obtain ⟨u, hu, _⟩ := hs.cell hsp hc
    unfold execOp at he
    rw [ho] at he
    dsimp only at he
    rw [eventsV] at he
    have : (Instr.loadAt t1 (a.eval x1)).events P w #[] = #[⟨.cell ⟨s.blk, s.base + o1, Option.none⟩, false, false⟩] := by
      rw [hb]
      simp [Instr.loadAt, Instr.sureAddr, loadVar, oneT_run ht, hu]
    rw [this] at he
    simp at he
    subst he
    have hg : ∃ x, H.get g1 = some x := by
      unfold GHeap.cell at hc
      split at hc
      · rename_i hh; exact ⟨_, hh⟩
      · cases hc
    exact ⟨g1, s, _, hg, hsp, rfl, rfl⟩
  | loadN ht h hn hc =>
    have this := hop
    unfold okQ oneT at this
    dsimp only at this
    unfold aggT at ht
    split at this
    · cases this
    · cases this
    · cases this
    · rename_i x1 x2 x3
      split at ht
      · rename_i hh; exact absurd hh (x1 _)
      · rename_i hh; exact absurd hh (x2 _ _)
      · cases ht
  | indexAddr ht h hi h0 h1' =>
    obtain ⟨hu, inf, hinf, hsz⟩ := sliceT_run ht
    have ei := (ev_rel hf (by simp [Op.operands]) hi).int_inv
    obtain ⟨_, s, hsp, hcase⟩ := (ev_rel hf (by simp [Op.operands]) h).slice_inv
    unfold execOp at he
    rw [ho] at he
    dsimp only at he
    rw [eventsV] at he
    refine (none ?_ he).elim
    rcases hcase with ⟨cap, hes, hcap, _⟩ | ⟨hn0, _⟩
    · rw [hes, ei]
      simp [Instr.indexAt, asIntOf, run_underlying hu, h0, h1', sizeOf, typeInfo, hinf]
    · omega
  | @len t1 _ x1 _ _ _ ht h =>
    obtain ⟨hu, inf, hinf, hsz⟩ := sliceT_run ht
    obtain ⟨_, a', cap, hes, _⟩ := (ev_rel hf (by simp [Op.operands, Call.operands]) h).slice_len
    have : (execOp a.eval o).events P w #[] = (Builtin.len_ #[t1] o.type #[a.eval x1]).events P w #[] := by
      unfold execOp
      rw [ho]
      rw [show #[a.eval x1] = (#[x1].map a.eval) by simp]
      exact eventsV (s := Builtin.len_ #[t1] o.type (#[x1].map a.eval))
    rw [this, hes] at he
    refine (none ?_ he).elim
    simp [Builtin.len_, run_underlying hu]
  | cmp hx hy hr =>
    have e1 := (ev_rel hf (by simp [Op.operands]) hx).int_inv
    have e2 := (ev_rel hf (by simp [Op.operands]) hy).int_inv
    unfold execOp at he
    rw [ho] at he
    dsimp only at he
    rw [eventsV, e1, e2] at he
    refine (none ?_ he).elim
    rename_i op _ _ _ _ _ _ _ _ 
    cases op <;> simp [cmpI] at hr <;> simp [eqGuard, binOp, Op.intCmp]
  | arith hx hy hr =>
    have e1 := (ev_rel hf (by simp [Op.operands]) hx).int_inv
    have e2 := (ev_rel hf (by simp [Op.operands]) hy).int_inv
    unfold execOp at he
    rw [ho] at he
    dsimp only at he
    rw [eventsV, e1, e2] at he
    refine (none ?_ he).elim
    rename_i op _ _ _ _ _ _ _ _ 
    cases op <;> simp [arithI] at hr <;> simp [eqGuard, binOp, Op.intArith]
  | aggNe hg hx =>
    obtain ⟨k, n, hk⟩ := hop
    rw [hk] at hx; cases hx
  | not => exact hop.elim
  | build => exact hop.elim
  | extract => exact hop.elim

abbrev RS (S : World → Prop) : World → World → Prop := fun _ w₁ => S w₁
end
end Go.GL
namespace Go.GL
open Go.RowKit Go.Conc
variable [MainFlag]

def baseD (f : FuncId) : Frame := { (default : Frame) with fn := f, kind := .deferred }
def bot (P : Program) : Frame := { (default : Frame) with fn := P.funcs.size, defers := [], mode := .panicking [goexitEntry] }

section
variable {P : Program} {B : Nat} {w0 w : World} {ρ : Place} {H : GHeap} {fr : Slots} {a : Act} {Mine : Loc → Prop} {c : Nat} {S : World → Prop} {b : Frame} {k : List Item} {cs : List Frame}

theorem born_enter {f : FuncId} {fn : Func} {code : Code} {d : Deferred} (hd : d.target = .fn (.func f) #[]) (hf : P.funcs[f]? = some fn) (hn : (fn.name == "runtime.NumGoroutine") = false) (hb : fn.body = some code) (w : World) :
    stepG P false (born P d) w = .go (G ((baseD f).at { tmps := d.args ++ Array.replicate (fn.ntmps - d.args.size) undef, defers := [] } [.code code]) [bot P]) w #[] := by
  obtain ⟨tg, args⟩ := d
  dsimp only at hd
  subst hd
  have h1 : ¬ fn.name = "runtime.NumGoroutine" := by simpa using hn
  simp [born, stepG, unwind, callDeferred, invoke, callFunc, hf, hb, h1, seen, GStep.after, G, Frame.enter, Frame.at, baseD, bot]

theorem quits_end {fn : Func} {ops : Array Oper} (hk : b.kind = .deferred) (hd : a.defers = []) (hf : P.funcs[b.fn]? = some fn) (hr : fn.results = #[]) : QuitsIn P 4 (G (b.at a [.inRegion ops []]) [bot P]) := by
  refine .inr ⟨rfl, _, fun w => stepG_region_end, ?_⟩
  refine .inr ⟨rfl, _, fun w => stepG_end, ?_⟩
  refine .inr ⟨rfl, G (bot P) [], fun w => ?_, ?_⟩
  · simp [G, stepG, unwind, doReturn, results, Frame.at, hk, hd, bot, hf, hr, seen, GStep.after, goexitEntry]
  refine .inr ⟨rfl, { G (bot P) [] with status := .finished }, fun w => ?_, rfl⟩
  simp [G, stepG, unwind, bot, goexitEntry, Frame.catches]
  rfl

theorem goes_c {Stop : Goroutine → World → Prop} {n : Nat} {g g' : Goroutine} {w : World} (hs : g.status = .running) (h : ∀ w, stepG P false g w = .go g' w) (hg : ∀ w, Goes P false (RS S) (DB Mine) Stop n g' w) : Goes P false (RS S) (DB Mine) Stop (n + 1) g w :=
  Goes.step hs fun w₁ _ => by rw [h]; exact ⟨⟨rfl, by simp⟩, hg w₁⟩
theorem goes_q {Stop : Goroutine → World → Prop} {N : Nat} {D : List Deferred} {ops : Array Oper} {i : Nat} {rest : List Nat} {o : Oper} {n : Nat} {v : Value} (hS : ∀ w, S w → Sim P B w0 ρ H w) (hM : ∀ (g : Nat) (x : GObj) (s : Spot) (ad : Addr), H.get g = some x → ρ g = some s → ad.block = s.blk → ¬ Mine (.cell ad))
    (hk : b.kind ≠ .early) (hf : FRel N D ρ fr a) (ho : ops[i]? = some o) (hg : o.guard = none) (hd : dstOk N o = true) (hm : MStep P fr H o.op v) (hok : okQ P fr o.op)
    (next : ∀ c w', FRel N D ρ (putS fr o.dst (some v)) (a.put o.dst c) → Goes P false (RS S) (DB Mine) Stop n (G (b.at (a.put o.dst c) (.inRegion ops rest :: k)) cs) w') : Goes P false (RS S) (DB Mine) Stop (n + 1) (G (b.at a (.inRegion ops (i :: rest) :: k)) cs) w := by
  have hw : Region.wanted o (yielded ops a.tmps) = true := by simp [Region.wanted, hg]
  refine Goes.step rfl fun w₁ h₁ => ?_
  have hs := hS w₁ h₁
  obtain ⟨cv, hc, hr⟩ := hm.sound (a := a) (fun t u _ hu => hf.2.2 t u hu) hs o rfl
  rw [stepG_value ho hw hk hc]
  refine ⟨⟨rfl, fun e he => ?_⟩, next cv w₁ (hf.put hd fun x hx => by cases hx; exact hr)⟩
  obtain ⟨g, s, ad, ⟨x, hx⟩, hsp, rfl, hb⟩ := hm.reads hok (fun t u _ hu => hf.2.2 t u hu) hs o rfl e (mem_seen he)
  exact ⟨(fun m hm => by cases hm), rfl, hM g x s ad hx hsp hb⟩

theorem goes_r {Stop : Goroutine → World → Prop} {n id : Nat} {ops : Array Oper} {l : List Nat} {w : World} (hl : List.range ops.size = l) (hg : ∀ w, Goes P false (RS S) (DB Mine) Stop n (G (b.at a (.inRegion ops l :: k)) cs) w) : Goes P false (RS S) (DB Mine) Stop (n + 1) (G (b.at a (.code (.region id ops false) :: k)) cs) w :=
  goes_c rfl (fun _ => stepG_region) (hl ▸ hg)
theorem goes_cond {Stop : Goroutine → World → Prop} {n N : Nat} {D : List Deferred} {s : Tmp} {x y : Code} {t : Bool} {w : World} (hf : FRel N D ρ fr a) (hv : fr.get s = some (.bool t)) (hg : ∀ w, Goes P false (RS S) (DB Mine) Stop n (G (b.at a (.code (if t then x else y) :: k)) cs) w) :
    Goes P false (RS S) (DB Mine) Stop (n + 1) (G (b.at a (.code (.cond (.tmp s) x y) :: k)) cs) w := goes_c rfl (fun _ => stepG_cond (hf.2.2 s _ hv).bool_inv) hg
theorem goes_ex {Stop : Goroutine → World → Prop} {n id : Nat} {k' : List Item} {w : World} (he : exitTo id k = some k') (hg : ∀ w, Goes P false (RS S) (DB Mine) Stop n (G (b.at a k') cs) w) : Goes P false (RS S) (DB Mine) Stop (n + 1) (G (b.at a (.code (.exit id) :: k)) cs) w := goes_c rfl (fun _ => stepG_exit he) hg
theorem VRel.chan_inv {ρ : Place} {g : Nat} {c : Value} (h : VRel ρ (.chan (some g)) c) : ∃ s, ρ g = some s ∧ c = .chan (some s.blk) := by cases h with | chan h => exact ⟨_, h, rfl⟩
theorem send_stop {ops : Array Oper} {i : Nat} {rest : List Nat} {o : Oper} {x y : Operand} {v : Value} {vs : List Value} {n : Nat} (ho : ops[i]? = some o) (hop : o.op = .send x y) (hg : o.guard = none) (hd : o.dst = none) (hk : b.kind ≠ .early) (hx : a.eval x = .chan (some c)) (hy : a.eval y = v)
    (next : Goes P false (RS S) (DB Mine) (StopB P c S Mine vs) n (G (b.at a (.inRegion ops rest :: k)) cs) default) : AtSend P c S Mine v (Sends P c S Mine vs) (G (b.at a (.inRegion ops (i :: rest) :: k)) cs) := by
  refine atSend_of ho (by simp [Region.wanted, hg]) hk hop hx hy ?_
  rw [hd]
  exact (sends_iff P c S Mine vs _).2 ⟨n, next⟩
theorem close_stop {fn : Func} {ops : Array Oper} {i : Nat} {o : Oper} {x : Operand} {ts : Array TypeId} (hkd : b.kind = .deferred) (ho : ops[i]? = some o) (hop : o.op = .call { callee := .builtin .close, args := #[x], argTypes := ts }) (hg : o.guard = none) (hx : a.eval x = .chan (some c)) (hdf : a.defers = []) (hf : P.funcs[b.fn]? = some fn)
    (hr : fn.results = #[]) (hl : fn.norace = false) (hM : ¬ Mine (.obj c)) : AtClose P c S Mine (G (b.at a [.inRegion ops [i]]) [bot P]) := by
  have hw : Region.wanted o (yielded ops a.tmps) = true := by simp [Region.wanted, hg]
  have hk : b.kind ≠ .early := by rw [hkd]; simp
  have e : execOp a.eval o = (do pure (Next.value (← Builtin.close_ ts o.type #[.chan (some c)])) : Sem Next) := by
    unfold execOp
    rw [hop]
    show builtin .close ts o.type #[] ((#[x] : Array Operand).map a.eval) = _
    rw [show ((#[x] : Array Operand).map a.eval) = #[.chan (some c)] by simp [hx]]
    rfl
  refine atClose_of (n := 4) ho hw hk (fun w s r tm hc => ?_) (fun w s r tm hc => ?_) (by simp [hf, hl]) hM ?_ (quits_end hkd ?_ hf hr)
  · rw [e]
    simp [run_close_open ts o.type hc, World.shut]
  · rw [e, eventsV, events_close_open ts o.type hc]
    rfl
  · simp [mayWake, G, Frame.at, ho, hop]
  · cases o.dst <;> exact hdf

theorem frel_args {N : Nat} {args cargs : List Value} (hl : args.length ≤ N) (hrel : LRel ρ args cargs) : FRel N [] ρ (argSlots 0 args) { tmps := cargs.toArray ++ Array.replicate (N - cargs.toArray.size) undef, defers := [] } := by
  refine ⟨by have := hrel.1; simp; omega, rfl, fun t v hv => ?_⟩
  obtain ⟨_, h2⟩ := argSlots_get args 0 t v hv
  obtain ⟨cv, h3, h4⟩ := hrel.get h2
  simp only [Nat.sub_zero] at h3
  unfold Act.eval
  simp only [Array.getD_eq_getD_getElem?]
  have hlt := (List.getElem?_eq_some_iff.1 h3).1
  rw [Array.getElem?_append_left (by simpa using hlt)]
  simp [h3]
  exact h4
end
end Go.GL
namespace Go.Proofs.Ytddjdkpjfpnjiaa
open Go Go.GL Go.RowKit Go.Proofs Go.Conc
variable [MainFlag]
section
variable {B : Nat} {w0 : World} {ρ : GL.Place} {H : GHeap} {Mine : Loc → Prop} {c : Nat} {S : World → Prop} {a0 : Option Addr} {xs : List Int} {t : Int} {gp : Addr} {gc : Nat}

set_option maxRecDepth 100000 in
set_option maxRecDepth 100000 in
end
end Go.Proofs.Ytddjdkpjfpnjiaa
