/- Rules for walking texts over ghost heaps, and views of what lies in a ghost heap. No condition. -/
import Derived.Test.YtbpehbbdodahaaaGlK
namespace Go.GL
open Go.RowKit

section
variable {P : Program} {N : Nat} {ops : Array Oper} {Q : Slots → GHeap → Prop} {L : List (Oper × Nat)} {fr : Slots} {H H' Hb : GHeap} {o : Oper} {i : Nat} {t : Tree}

/-- A step whose outcome is known. -/
def CIs (v : Option Value) (H' : GHeap) : Option Value → GHeap → Prop := fun ov X => ov = v ∧ X = H'
theorem CIs.mk {v : Option Value} {H' : GHeap} : CIs v H' v H' := ⟨rfl, rfl⟩

theorem GRun.mb {d : Tmp} {b : Bool} (hd : o.dst = some d) (hN : Nat.blt d N = true) (hg : o.guard = none) (hm : MStep P fr H o.op (.bool b)) (ht : b = true → GRun P N ops Q L ((d, some (.bool true)) :: fr) H) (hf : b = false → GRun P N ops Q L ((d, some (.bool false)) :: fr) H) :
    GRun P N ops Q ((o, 0) :: L) fr H := by
  cases b
  · exact .m hd hN hg hm (hf rfl)
  · exact .m hd hN hg hm (ht rfl)
theorem GRun.d {d : Tmp} {v : Value} (hd : o.dst = some d) (hN : Nat.blt d N = true) (hg : o.guard = none) (hc : CDo P o fr H (CIs (some v) H')) (h : GRun P N ops Q L ((d, some v) :: fr) H') : GRun P N ops Q ((o, 0) :: L) fr H :=
  .c hd hN hg (by simp) hc fun _ _ ⟨h1, h2⟩ => by subst h1; subst h2; exact ⟨fun e => (by cases e), h⟩
theorem GRun.d0 (hd : o.dst = none) (hg : o.guard = none) (hc : CDo P o fr H (CIs none H')) (h : GRun P N ops Q L fr H') : GRun P N ops Q ((o, 0) :: L) fr H :=
  .c0 hd hg (by simp) hc fun _ _ ⟨h1, h2⟩ => by subst h1; subst h2; exact ⟨fun e => (by cases e), h⟩
theorem GRun.dg {d s : Tmp} {v : Value} {j : Nat} {want : Bool} (hd : o.dst = some d) (hN : Nat.blt d N = true) (hg : o.guard = some (j, want)) (hs : guardSlot ops j = some s) (hb : fr.get s = some (.bool want)) (hc : CDo P o fr H (CIs (some v) H')) (h : GRun P N ops Q L ((d, some v) :: fr) H') : GRun P N ops Q ((o, 0) :: L) fr H :=
  .cg hd hN hg hs hb (by simp) hc fun _ _ ⟨h1, h2⟩ => by subst h1; subst h2; exact ⟨fun e => (by cases e), h⟩
theorem GRun.call {d : Tmp} {f : FuncId} {args : Array Operand} {ts : Array TypeId} {vs : List Value} {R : Value → GHeap → Prop} (hd : o.dst = some d) (hN : Nat.blt d N = true) (hg : o.guard = none) (ho : o.op = .call { callee := .value (.func f), args := args, argTypes := ts })
    (hcall : ∀ (as : Array Value) (w : World), (callFunc f as).run P w = .ok (.enter f as) w) (hv : evs fr args.toList = some vs) (hc : GCalls P f vs H R) (h : ∀ v H', R v H' → GRun P N ops Q L ((d, some v) :: fr) H') : GRun P N ops Q ((o, 0) :: L) fr H :=
  .c hd hN hg (by simp) (R := fun ov X => ∃ v, ov = some v ∧ R v X) (.call ho hcall hv hc fun v H' h => ⟨v, rfl, h⟩) fun _ H' ⟨v, h1, h2⟩ => by subst h1; exact ⟨fun e => (by cases e), h v H' h2⟩
theorem GRun.callg {d s : Tmp} {f : FuncId} {args : Array Operand} {ts : Array TypeId} {vs : List Value} {R : Value → GHeap → Prop} {j : Nat} {want : Bool} (hd : o.dst = some d) (hN : Nat.blt d N = true) (hg : o.guard = some (j, want)) (hs : guardSlot ops j = some s) (hb : fr.get s = some (.bool want)) (ho : o.op = .call { callee := .value (.func f), args := args, argTypes := ts })
    (hcall : ∀ (as : Array Value) (w : World), (callFunc f as).run P w = .ok (.enter f as) w) (hv : evs fr args.toList = some vs) (hc : GCalls P f vs H R) (h : ∀ v H', R v H' → GRun P N ops Q L ((d, some v) :: fr) H') : GRun P N ops Q ((o, 0) :: L) fr H :=
  .cg hd hN hg hs hb (by simp) (R := fun ov X => ∃ v, ov = some v ∧ R v X) (.call ho hcall hv hc fun v H' h => ⟨v, rfl, h⟩) fun _ H' ⟨v, h1, h2⟩ => by subst h1; exact ⟨fun e => (by cases e), h v H' h2⟩
/-- .. whose result nobody keeps. -/
theorem GRun.call0 {f : FuncId} {args : Array Operand} {ts : Array TypeId} {vs : List Value} {R : Value → GHeap → Prop} (hd : o.dst = none) (hg : o.guard = none) (ho : o.op = .call { callee := .value (.func f), args := args, argTypes := ts })
    (hcall : ∀ (as : Array Value) (w : World), (callFunc f as).run P w = .ok (.enter f as) w) (hv : evs fr args.toList = some vs) (hc : GCalls P f vs H R) (h : ∀ v H', R v H' → GRun P N ops Q L fr H') : GRun P N ops Q ((o, 0) :: L) fr H :=
  .c0 hd hg (by simp) (R := fun ov X => ∃ v, ov = some v ∧ R v X) (.call ho hcall hv hc fun v H' h => ⟨v, rfl, h⟩) fun _ H' ⟨v, h1, h2⟩ => by subst h1; exact ⟨fun e => (by cases e), h v H' h2⟩
theorem GRun.callV {d : Tmp} {f : FuncId} {x : Operand} {args : Array Operand} {ts : Array TypeId} {cap : Array Value} {vs : List Value} {R : Value → GHeap → Prop} (hd : o.dst = some d) (hN : Nat.blt d N = true) (hg : o.guard = none) (ho : o.op = .call { callee := .value x, args := args, argTypes := ts }) (hx : ev fr x = some (.func (.func f) #[] cap))
    (hcall : ∀ (as : Array Value) (w : World), (callFunc f as).run P w = .ok (.enter f as) w) (hv : evs fr args.toList = some vs) (hc : GCalls P f (vs ++ cap.toList) H R) (h : ∀ v H', R v H' → GRun P N ops Q L ((d, some v) :: fr) H') : GRun P N ops Q ((o, 0) :: L) fr H :=
  .c hd hN hg (by simp) (R := fun ov X => ∃ v, ov = some v ∧ R v X) (.callV ho hx hcall hv hc fun v H' h => ⟨v, rfl, h⟩) fun _ H' ⟨v, h1, h2⟩ => by subst h1; exact ⟨fun e => (by cases e), h v H' h2⟩
theorem GRun.callV0 {f : FuncId} {x : Operand} {args : Array Operand} {ts : Array TypeId} {cap : Array Value} {vs : List Value} {R : Value → GHeap → Prop} (hd : o.dst = none) (hg : o.guard = none) (ho : o.op = .call { callee := .value x, args := args, argTypes := ts }) (hx : ev fr x = some (.func (.func f) #[] cap))
    (hcall : ∀ (as : Array Value) (w : World), (callFunc f as).run P w = .ok (.enter f as) w) (hv : evs fr args.toList = some vs) (hc : GCalls P f (vs ++ cap.toList) H R) (h : ∀ v H', R v H' → GRun P N ops Q L fr H') : GRun P N ops Q ((o, 0) :: L) fr H :=
  .c0 hd hg (by simp) (R := fun ov X => ∃ v, ov = some v ∧ R v X) (.callV ho hx hcall hv hc fun v H' h => ⟨v, rfl, h⟩) fun _ H' ⟨v, h1, h2⟩ => by subst h1; exact ⟨fun e => (by cases e), h v H' h2⟩

theorem GTree.done (h : Q fr H) : GTree P N ops Q .done fr Hb H := h
theorem GTree.m {d : Tmp} {v : Value} (hi : ops[i]? = some o) (hd : o.dst = some d) (hN : Nat.blt d N = true) (hg : o.guard = none) (hle : Hb.Le H) (hm : MStep P fr H o.op v) (h : GTree P N ops Q t ((d, some v) :: fr) H H) : GTree P N ops Q (.q i t) fr Hb H := by
  unfold GTree
  refine ⟨o, hi, by unfold dstOk; rw [hd]; exact hN, ?_⟩
  rw [hg]
  exact ⟨v, H, hle, .refl _, hm, by rw [hd]; exact h⟩
theorem GTree.mb {d : Tmp} {b : Bool} (hi : ops[i]? = some o) (hd : o.dst = some d) (hN : Nat.blt d N = true) (hg : o.guard = none) (hle : Hb.Le H) (hm : MStep P fr H o.op (.bool b)) (ht : b = true → GTree P N ops Q t ((d, some (.bool true)) :: fr) H H)
    (hf : b = false → GTree P N ops Q t ((d, some (.bool false)) :: fr) H H) : GTree P N ops Q (.q i t) fr Hb H := by
  cases b
  · exact .m hi hd hN hg hle hm (hf rfl)
  · exact .m hi hd hN hg hle hm (ht rfl)
theorem GTree.mg {d s : Tmp} {v : Value} {j : Nat} {want : Bool} (hi : ops[i]? = some o) (hd : o.dst = some d) (hN : Nat.blt d N = true) (hg : o.guard = some (j, want)) (hs : guardSlot ops j = some s) (hb : fr.get s = some (.bool want)) (hle : Hb.Le H) (hm : MStep P fr H o.op v)
    (h : GTree P N ops Q t ((d, some v) :: fr) H H) : GTree P N ops Q (.q i t) fr Hb H := by
  unfold GTree
  refine ⟨o, hi, by unfold dstOk; rw [hd]; exact hN, ?_⟩
  rw [hg]
  exact ⟨s, want, hs, hb, fun _ => ⟨v, H, hle, .refl _, hm, by rw [hd]; exact h⟩, fun hne => absurd rfl hne⟩
theorem GTree.mbg {d s : Tmp} {b : Bool} {j : Nat} {want : Bool} (hi : ops[i]? = some o) (hd : o.dst = some d) (hN : Nat.blt d N = true) (hg : o.guard = some (j, want)) (hs : guardSlot ops j = some s) (hb : fr.get s = some (.bool want)) (hle : Hb.Le H) (hm : MStep P fr H o.op (.bool b))
    (ht : b = true → GTree P N ops Q t ((d, some (.bool true)) :: fr) H H) (hf : b = false → GTree P N ops Q t ((d, some (.bool false)) :: fr) H H) : GTree P N ops Q (.q i t) fr Hb H := by
  cases b
  · exact .mg hi hd hN hg hs hb hle hm (hf rfl)
  · exact .mg hi hd hN hg hs hb hle hm (ht rfl)
theorem GTree.sg {d s : Tmp} {j : Nat} {want : Bool} (hi : ops[i]? = some o) (hd : o.dst = some d) (hN : Nat.blt d N = true) (hg : o.guard = some (j, want)) (hs : guardSlot ops j = some s) (hb : fr.get s = some (.bool (!want))) (h : GTree P N ops Q t ((d, none) :: fr) Hb H) :
    GTree P N ops Q (.q i t) fr Hb H := by
  unfold GTree
  refine ⟨o, hi, by unfold dstOk; rw [hd]; exact hN, ?_⟩
  rw [hg]
  exact ⟨s, !want, hs, hb, fun he => absurd he (by cases want <;> simp), fun _ => by rw [hd]; exact h⟩
theorem GTree.sgc {d s : Tmp} {j k : Nat} {want : Bool} (hi : ops[i]? = some o) (hd : o.dst = some d) (hN : Nat.blt d N = true) (hg : o.guard = some (j, want)) (hs : guardSlot ops j = some s) (hb : fr.get s = some (.bool (!want))) (h : GTree P N ops Q t ((d, none) :: fr) Hb H) :
    GTree P N ops Q (.c i k t) fr Hb H := by
  unfold GTree
  refine ⟨o, hi, by unfold dstOk; rw [hd]; exact hN, ?_⟩
  rw [hg]
  exact ⟨s, !want, hs, hb, fun he => absurd he (by cases want <;> simp), fun _ => by rw [hd]; exact h⟩
theorem GTree.sgc0 {s : Tmp} {j k : Nat} {want : Bool} (hi : ops[i]? = some o) (hd : o.dst = none) (hg : o.guard = some (j, want)) (hs : guardSlot ops j = some s) (hb : fr.get s = some (.bool (!want))) (h : GTree P N ops Q t fr Hb H) :
    GTree P N ops Q (.c i k t) fr Hb H := by
  unfold GTree
  refine ⟨o, hi, by unfold dstOk; rw [hd], ?_⟩
  rw [hg]
  exact ⟨s, !want, hs, hb, fun he => absurd he (by cases want <;> simp), fun _ => by rw [hd]; exact h⟩

/-- The value of a step, forgotten or not. -/
theorem GTree.c1 {d : Tmp} {R : Option Value → GHeap → Prop} (hi : ops[i]? = some o) (hd : o.dst = some d) (hN : Nat.blt d N = true) (hg : o.guard = none) (hc : CDo P o fr H R) (h : ∀ v H', R v H' → Hb.Le H' ∧ GTree P N ops Q t ((d, v) :: fr) Hb H') : GTree P N ops Q (.c i 1 t) fr Hb H := by
  unfold GTree
  refine ⟨o, hi, by unfold dstOk; rw [hd]; exact hN, ?_⟩
  rw [hg]
  refine .mk fun B w0 ρ a w hs hf next Qx hn => ?_
  exact hc.run B w0 ρ a w hs hf next Qx fun ρ' v c H' w' hR => hn ρ' v c H' w' ⟨fun _ => (h v H' hR).1, by rw [hd, if_pos rfl]; exact (h v H' hR).2⟩
theorem GTree.c1g {d s : Tmp} {R : Option Value → GHeap → Prop} {j : Nat} {want : Bool} (hi : ops[i]? = some o) (hd : o.dst = some d) (hN : Nat.blt d N = true) (hg : o.guard = some (j, want)) (hs : guardSlot ops j = some s) (hb : fr.get s = some (.bool want)) (hc : CDo P o fr H R)
    (h : ∀ v H', R v H' → Hb.Le H' ∧ GTree P N ops Q t ((d, v) :: fr) Hb H') : GTree P N ops Q (.c i 1 t) fr Hb H := by
  unfold GTree
  refine ⟨o, hi, by unfold dstOk; rw [hd]; exact hN, ?_⟩
  rw [hg]
  refine ⟨s, want, hs, hb, fun _ => ?_, fun hne => absurd rfl hne⟩
  refine .mk fun B w0 ρ a w hs hf next Qx hn => ?_
  exact hc.run B w0 ρ a w hs hf next Qx fun ρ' v c H' w' hR => hn ρ' v c H' w' ⟨fun _ => (h v H' hR).1, by rw [hd, if_pos rfl]; exact (h v H' hR).2⟩
theorem GTree.c0 {d : Tmp} {R : Option Value → GHeap → Prop} (hi : ops[i]? = some o) (hd : o.dst = some d) (hN : Nat.blt d N = true) (hg : o.guard = none) (hc : CDo P o fr H R) (h : ∀ v H', R v H' → GTree P N ops Q t ((d, v) :: fr) H' H') : GTree P N ops Q (.c i 0 t) fr Hb H := by
  unfold GTree
  refine ⟨o, hi, by unfold dstOk; rw [hd]; exact hN, ?_⟩
  rw [hg]
  refine .mk fun B w0 ρ a w hs hf next Qx hn => ?_
  exact hc.run B w0 ρ a w hs hf next Qx fun ρ' v c H' w' hR => hn ρ' v c H' w' ⟨fun e => (by cases e), by rw [hd, if_neg (by simp)]; exact h v H' hR⟩
theorem GTree.c0g {d s : Tmp} {R : Option Value → GHeap → Prop} {j : Nat} {want : Bool} (hi : ops[i]? = some o) (hd : o.dst = some d) (hN : Nat.blt d N = true) (hg : o.guard = some (j, want)) (hs : guardSlot ops j = some s) (hb : fr.get s = some (.bool want)) (hc : CDo P o fr H R)
    (h : ∀ v H', R v H' → GTree P N ops Q t ((d, v) :: fr) H' H') : GTree P N ops Q (.c i 0 t) fr Hb H := by
  unfold GTree
  refine ⟨o, hi, by unfold dstOk; rw [hd]; exact hN, ?_⟩
  rw [hg]
  refine ⟨s, want, hs, hb, fun _ => ?_, fun hne => absurd rfl hne⟩
  refine .mk fun B w0 ρ a w hs hf next Qx hn => ?_
  exact hc.run B w0 ρ a w hs hf next Qx fun ρ' v c H' w' hR => hn ρ' v c H' w' ⟨fun e => (by cases e), by rw [hd, if_neg (by simp)]; exact h v H' hR⟩
/-- A store. -/
theorem GTree.s0 (hi : ops[i]? = some o) (hd : o.dst = none) (hg : o.guard = none) (hc : CDo P o fr H (CIs none H')) (h : GTree P N ops Q t fr H' H') : GTree P N ops Q (.c i 0 t) fr Hb H := by
  unfold GTree
  refine ⟨o, hi, by unfold dstOk; rw [hd], ?_⟩
  rw [hg]
  refine .mk fun B w0 ρ a w hs hf next Qx hn => ?_
  exact hc.run B w0 ρ a w hs hf next Qx fun ρ' v c H' w' ⟨h1, h2⟩ => hn ρ' v c H' w' (by subst h1; subst h2; exact ⟨fun e => (by cases e), by rw [hd, if_neg (by simp)]; exact h⟩)
theorem GTree.s1 (hi : ops[i]? = some o) (hd : o.dst = none) (hg : o.guard = none) (hc : CDo P o fr H (CIs none H')) (hle : Hb.Le H') (h : GTree P N ops Q t fr Hb H') : GTree P N ops Q (.c i 1 t) fr Hb H := by
  unfold GTree
  refine ⟨o, hi, by unfold dstOk; rw [hd], ?_⟩
  rw [hg]
  refine .mk fun B w0 ρ a w hs hf next Qx hn => ?_
  exact hc.run B w0 ρ a w hs hf next Qx fun ρ' v c H' w' ⟨h1, h2⟩ => hn ρ' v c H' w' (by subst h1; subst h2; exact ⟨fun _ => hle, by rw [hd, if_pos rfl]; exact h⟩)
theorem GTree.d0 {d : Tmp} {v : Value} (hi : ops[i]? = some o) (hd : o.dst = some d) (hN : Nat.blt d N = true) (hg : o.guard = none) (hc : CDo P o fr H (CIs (some v) H')) (h : GTree P N ops Q t ((d, some v) :: fr) H' H') : GTree P N ops Q (.c i 0 t) fr Hb H :=
  .c0 hi hd hN hg hc fun _ _ ⟨h1, h2⟩ => by subst h1; subst h2; exact h
theorem GTree.d0g {d s : Tmp} {v : Value} {j : Nat} {want : Bool} (hi : ops[i]? = some o) (hd : o.dst = some d) (hN : Nat.blt d N = true) (hg : o.guard = some (j, want)) (hs : guardSlot ops j = some s) (hb : fr.get s = some (.bool want)) (hc : CDo P o fr H (CIs (some v) H')) (h : GTree P N ops Q t ((d, some v) :: fr) H' H') : GTree P N ops Q (.c i 0 t) fr Hb H :=
  .c0g hi hd hN hg hs hb hc fun _ _ ⟨h1, h2⟩ => by subst h1; subst h2; exact h
theorem GTree.d1 {d : Tmp} {v : Value} (hi : ops[i]? = some o) (hd : o.dst = some d) (hN : Nat.blt d N = true) (hg : o.guard = none) (hc : CDo P o fr H (CIs (some v) H')) (hle : Hb.Le H') (h : GTree P N ops Q t ((d, some v) :: fr) Hb H') : GTree P N ops Q (.c i 1 t) fr Hb H :=
  .c1 hi hd hN hg hc fun _ _ ⟨h1, h2⟩ => by subst h1; subst h2; exact ⟨hle, h⟩
theorem GTree.d1g {d s : Tmp} {v : Value} {j : Nat} {want : Bool} (hi : ops[i]? = some o) (hd : o.dst = some d) (hN : Nat.blt d N = true) (hg : o.guard = some (j, want)) (hs : guardSlot ops j = some s) (hb : fr.get s = some (.bool want)) (hc : CDo P o fr H (CIs (some v) H')) (hle : Hb.Le H') (h : GTree P N ops Q t ((d, some v) :: fr) Hb H') :
    GTree P N ops Q (.c i 1 t) fr Hb H := .c1g hi hd hN hg hs hb hc fun _ _ ⟨h1, h2⟩ => by subst h1; subst h2; exact ⟨hle, h⟩
/-- Calls; kind 1: what was there stays. -/
theorem GTree.call1 {d : Tmp} {f : FuncId} {args : Array Operand} {ts : Array TypeId} {vs : List Value} {R : Value → GHeap → Prop} (hi : ops[i]? = some o) (hd : o.dst = some d) (hN : Nat.blt d N = true) (hg : o.guard = none) (ho : o.op = .call { callee := .value (.func f), args := args, argTypes := ts })
    (hcall : ∀ (as : Array Value) (w : World), (callFunc f as).run P w = .ok (.enter f as) w) (hv : evs fr args.toList = some vs) (hc : GCalls P f vs H R) (h : ∀ v H', R v H' → Hb.Le H' ∧ GTree P N ops Q t ((d, some v) :: fr) Hb H') : GTree P N ops Q (.c i 1 t) fr Hb H :=
  .c1 hi hd hN hg (R := fun ov X => ∃ v, ov = some v ∧ R v X) (.call ho hcall hv hc fun v H' h => ⟨v, rfl, h⟩) fun _ H' ⟨v, h1, h2⟩ => by subst h1; exact h v H' h2
theorem GTree.call1g {d s : Tmp} {f : FuncId} {args : Array Operand} {ts : Array TypeId} {vs : List Value} {R : Value → GHeap → Prop} {j : Nat} {want : Bool} (hi : ops[i]? = some o) (hd : o.dst = some d) (hN : Nat.blt d N = true) (hg : o.guard = some (j, want)) (hs : guardSlot ops j = some s) (hb : fr.get s = some (.bool want))
    (ho : o.op = .call { callee := .value (.func f), args := args, argTypes := ts }) (hcall : ∀ (as : Array Value) (w : World), (callFunc f as).run P w = .ok (.enter f as) w) (hv : evs fr args.toList = some vs) (hc : GCalls P f vs H R) (h : ∀ v H', R v H' → Hb.Le H' ∧ GTree P N ops Q t ((d, some v) :: fr) Hb H') :
    GTree P N ops Q (.c i 1 t) fr Hb H :=
  .c1g hi hd hN hg hs hb (R := fun ov X => ∃ v, ov = some v ∧ R v X) (.call ho hcall hv hc fun v H' h => ⟨v, rfl, h⟩) fun _ H' ⟨v, h1, h2⟩ => by subst h1; exact h v H' h2
theorem GTree.call0 {d : Tmp} {f : FuncId} {args : Array Operand} {ts : Array TypeId} {vs : List Value} {R : Value → GHeap → Prop} (hi : ops[i]? = some o) (hd : o.dst = some d) (hN : Nat.blt d N = true) (hg : o.guard = none) (ho : o.op = .call { callee := .value (.func f), args := args, argTypes := ts })
    (hcall : ∀ (as : Array Value) (w : World), (callFunc f as).run P w = .ok (.enter f as) w) (hv : evs fr args.toList = some vs) (hc : GCalls P f vs H R) (h : ∀ v H', R v H' → GTree P N ops Q t ((d, some v) :: fr) H' H') : GTree P N ops Q (.c i 0 t) fr Hb H :=
  .c0 hi hd hN hg (R := fun ov X => ∃ v, ov = some v ∧ R v X) (.call ho hcall hv hc fun v H' h => ⟨v, rfl, h⟩) fun _ H' ⟨v, h1, h2⟩ => by subst h1; exact h v H' h2
theorem GTree.callV0 {d : Tmp} {f : FuncId} {x : Operand} {args : Array Operand} {ts : Array TypeId} {cap : Array Value} {vs : List Value} {R : Value → GHeap → Prop} (hi : ops[i]? = some o) (hd : o.dst = some d) (hN : Nat.blt d N = true) (hg : o.guard = none) (ho : o.op = .call { callee := .value x, args := args, argTypes := ts }) (hx : ev fr x = some (.func (.func f) #[] cap))
    (hcall : ∀ (as : Array Value) (w : World), (callFunc f as).run P w = .ok (.enter f as) w) (hv : evs fr args.toList = some vs) (hc : GCalls P f (vs ++ cap.toList) H R) (h : ∀ v H', R v H' → GTree P N ops Q t ((d, some v) :: fr) H' H') : GTree P N ops Q (.c i 0 t) fr Hb H :=
  .c0 hi hd hN hg (R := fun ov X => ∃ v, ov = some v ∧ R v X) (.callV ho hx hcall hv hc fun v H' h => ⟨v, rfl, h⟩) fun _ H' ⟨v, h1, h2⟩ => by subst h1; exact h v H' h2
theorem GTree.callV1 {d : Tmp} {f : FuncId} {x : Operand} {args : Array Operand} {ts : Array TypeId} {cap : Array Value} {vs : List Value} {R : Value → GHeap → Prop} (hi : ops[i]? = some o) (hd : o.dst = some d) (hN : Nat.blt d N = true) (hg : o.guard = none) (ho : o.op = .call { callee := .value x, args := args, argTypes := ts }) (hx : ev fr x = some (.func (.func f) #[] cap))
    (hcall : ∀ (as : Array Value) (w : World), (callFunc f as).run P w = .ok (.enter f as) w) (hv : evs fr args.toList = some vs) (hc : GCalls P f (vs ++ cap.toList) H R) (h : ∀ v H', R v H' → Hb.Le H' ∧ GTree P N ops Q t ((d, some v) :: fr) Hb H') : GTree P N ops Q (.c i 1 t) fr Hb H :=
  .c1 hi hd hN hg (R := fun ov X => ∃ v, ov = some v ∧ R v X) (.callV ho hx hcall hv hc fun v H' h => ⟨v, rfl, h⟩) fun _ H' ⟨v, h1, h2⟩ => by subst h1; exact h v H' h2
theorem GTree.call0g {d s : Tmp} {f : FuncId} {args : Array Operand} {ts : Array TypeId} {vs : List Value} {R : Value → GHeap → Prop} {j : Nat} {want : Bool} (hi : ops[i]? = some o) (hd : o.dst = some d) (hN : Nat.blt d N = true) (hg : o.guard = some (j, want)) (hs : guardSlot ops j = some s) (hb : fr.get s = some (.bool want))
    (ho : o.op = .call { callee := .value (.func f), args := args, argTypes := ts }) (hcall : ∀ (as : Array Value) (w : World), (callFunc f as).run P w = .ok (.enter f as) w) (hv : evs fr args.toList = some vs) (hc : GCalls P f vs H R) (h : ∀ v H', R v H' → GTree P N ops Q t ((d, some v) :: fr) H' H') :
    GTree P N ops Q (.c i 0 t) fr Hb H :=
  .c0g hi hd hN hg hs hb (R := fun ov X => ∃ v, ov = some v ∧ R v X) (.call ho hcall hv hc fun v H' h => ⟨v, rfl, h⟩) fun _ H' ⟨v, h1, h2⟩ => by subst h1; exact h v H' h2
end

section
variable {P : Program} {N : Nat} {Q : Exit → Slots → GHeap → Prop} {fr : Slots} {H : GHeap}
theorem GT.condT {c : Operand} {x y : Code} (hc : ev fr c = some (.bool true)) (h : GT P N x Q fr H) : GT P N (.cond c x y) Q fr H := .cond hc (fun _ => h) (fun e => by cases e)
theorem GT.condF {c : Operand} {x y : Code} (hc : ev fr c = some (.bool false)) (h : GT P N y Q fr H) : GT P N (.cond c x y) Q fr H := .cond hc (fun e => by cases e) (fun _ => h)
end

/-- What the cells of a slice are; f: the i-th cell. -/
def SlA (H : GHeap) (a : Option Addr) (n : Nat) (f : Nat → Value) : Prop := n = 0 ∨ ∃ g off, a = some ⟨g, off, none⟩ ∧ ∀ i, i < n → H.cell g (off + i) = some (f i)
def elemPtr (a : Option Addr) (k : Nat) : Value := match a with | some ⟨g, o, _⟩ => .pointer (some ⟨g, o + k, none⟩) | none => .pointer none

section
variable {P : Program} {fr : Slots} {H H' : GHeap} {a : Option Addr} {n : Nat} {f : Nat → Value}
theorem SlA.mono (h : SlA H a n f) (hle : H.Le H') : SlA H' a n f := h.imp id fun ⟨g, off, ha, hc⟩ => ⟨g, off, ha, fun i hi => hle.cell (hc i hi)⟩
theorem SlA.nil : SlA H none 0 f := .inl rfl

theorem MStep.idx {t e : TypeId} {x i : Operand} {k : IntKind} {j : Int} {sz m : Nat} (ht : sliceT P t = some (e, sz)) (h : SlA H a (n * sz) f) (hsz : 0 < sz) (hx : ev fr x = some (.slice a n n)) (hi : ev fr i = some (.int k j)) (h0 : 0 ≤ j) (h1 : j < n) (hm : j.toNat * sz = m) : MStep P fr H (.indexAddr t x i) (elemPtr a m) := by
  rcases h with h | ⟨g, off, rfl, _⟩
  · have := Nat.mul_eq_zero.1 h; omega
  · subst hm
    exact .indexAddr ht hx hi h0 h1
/-- Elements of one cell. -/
theorem MStep.idx1 {t e : TypeId} {x i : Operand} {k : IntKind} {j : Int} (ht : sliceT P t = some (e, 1)) (h : SlA H a n f) (hx : ev fr x = some (.slice a n n)) (hi : ev fr i = some (.int k j)) (h0 : 0 ≤ j) (h1 : j < n) : MStep P fr H (.indexAddr t x i) (elemPtr a j.toNat) :=
  .idx ht (by rw [Nat.mul_one]; exact h) (by omega) hx hi h0 h1 (by omega)
theorem MStep.loadE {t : TypeId} {x : Operand} {k : Nat} (ht : oneT P t = true) (h : SlA H a n f) (hx : ev fr x = some (elemPtr a k)) (hk : k < n) : MStep P fr H (.load t x) (f k) := by
  rcases h with h | ⟨g, off, rfl, hc⟩
  · omega
  · exact .load ht hx (hc k hk)

/-- A list of numbers. -/
def Ints (H : GHeap) (a : Option Addr) (xs : List Int) : Prop := SlA H a xs.length fun i => .int .i64 (xs.getD i 0)
/-- A list of marks. -/
def Bools (H : GHeap) (a : Option Addr) (xs : List Bool) : Prop := SlA H a xs.length fun i => .bool (xs.getD i false)
/-- A list of lists of numbers; r: where each lies. -/
def Intss (H : GHeap) (a : Option Addr) (xss : List (List Int)) (r : Nat → Option Addr) : Prop :=
  (SlA H a xss.length fun i => .slice (r i) (xss.getD i []).length (xss.getD i []).length) ∧ ∀ i, i < xss.length → Ints H (r i) (xss.getD i [])
theorem Ints.mono {xs : List Int} (h : Ints H a xs) (hle : H.Le H') : Ints H' a xs := SlA.mono h hle
theorem Bools.mono {xs : List Bool} (h : Bools H a xs) (hle : H.Le H') : Bools H' a xs := SlA.mono h hle
theorem Intss.mono {xss : List (List Int)} {r : Nat → Option Addr} (h : Intss H a xss r) (hle : H.Le H') : Intss H' a xss r := ⟨SlA.mono h.1 hle, fun i hi => (h.2 i hi).mono hle⟩

theorem MStep.loadI {t : TypeId} {x : Operand} {k : Nat} {xs : List Int} (ht : oneT P t = true) (h : Ints H a xs) (hx : ev fr x = some (elemPtr a k)) (hk : k < xs.length) : MStep P fr H (.load t x) (.int .i64 (xs.getD k 0)) := .loadE ht h hx hk
theorem MStep.loadB {t : TypeId} {x : Operand} {k : Nat} {xs : List Bool} (ht : oneT P t = true) (h : Bools H a xs) (hx : ev fr x = some (elemPtr a k)) (hk : k < xs.length) : MStep P fr H (.load t x) (.bool (xs.getD k false)) := .loadE ht h hx hk
theorem MStep.loadR {t : TypeId} {x : Operand} {k : Nat} {xss : List (List Int)} {r : Nat → Option Addr} (ht : oneT P t = true) (h : Intss H a xss r) (hx : ev fr x = some (elemPtr a k)) (hk : k < xss.length) :
    MStep P fr H (.load t x) (.slice (r k) (xss.getD k []).length (xss.getD k []).length) := .loadE (n := xss.length) (f := fun i => .slice (r i) (xss.getD i []).length (xss.getD i []).length) ht h.1 hx hk
/-- Sums that stay in range. -/
theorem MStep.add {t u : TypeId} {x y : Operand} {p q r : Int} (hx : ev fr x = some (.int .i64 p)) (hy : ev fr y = some (.int .i64 q)) (hr : p + q = r) (h0 : -9223372036854775808 ≤ r) (h1 : r ≤ 9223372036854775807) : MStep P fr H (.binOp .add t x y u) (.int .i64 r) := by
  refine .arith hx hy ?_
  simp only [arithI, Option.some.injEq]
  rw [hr, IntKind.wrap_i64]
  omega
theorem MStep.sub {t u : TypeId} {x y : Operand} {p q r : Int} (hx : ev fr x = some (.int .i64 p)) (hy : ev fr y = some (.int .i64 q)) (hr : p - q = r) (h0 : -9223372036854775808 ≤ r) (h1 : r ≤ 9223372036854775807) : MStep P fr H (.binOp .sub t x y u) (.int .i64 r) := by
  refine .arith hx hy ?_
  simp only [arithI, Option.some.injEq]
  rw [hr, IntKind.wrap_i64]
  omega
theorem MStep.mul {t u : TypeId} {x y : Operand} {p q r : Int} (hx : ev fr x = some (.int .i64 p)) (hy : ev fr y = some (.int .i64 q)) (hr : p * q = r) (h0 : -9223372036854775808 ≤ r) (h1 : r ≤ 9223372036854775807) : MStep P fr H (.binOp .mul t x y u) (.int .i64 r) := by
  refine .arith hx hy ?_
  simp only [arithI, Option.some.injEq]
  rw [hr, IntKind.wrap_i64]
  omega
theorem MStep.conv64 {s t : TypeId} {x : Operand} {n : Int} (hs : (P.underlying s).isSome = true) (ht : intT P t = some .i64) (h : ev fr x = some (.int .i64 n)) (h0 : -9223372036854775808 ≤ n) (h1 : n ≤ 9223372036854775807) : MStep P fr H (.convert s t x) (.int .i64 n) := by
  have := MStep.conv (P := P) (H := H) hs ht h
  rw [IntKind.wrap_i64] at this
  rwa [show (n + 9223372036854775808) % 18446744073709551616 - 9223372036854775808 = n by omega] at this
end

/-- A call that hands back r and leaves the heap alone. -/
def Ret (r : Value) (H : GHeap) : Value → GHeap → Prop := fun v H' => r = v ∧ H = H'
theorem Ret.mk {r : Value} {H : GHeap} : Ret r H r H := ⟨rfl, rfl⟩
theorem Ret.of {r v : Value} {H : GHeap} (h : r = v) : Ret r H v H := ⟨h, rfl⟩
/-- A call whose new memory may be forgotten. -/
theorem GCalls.ret {P : Program} {f : FuncId} {args : List Value} {H : GHeap} {r : Value} (hr : flat r = true) (h : GCalls P f args H fun v H' => r = v ∧ H.Le H') : GCalls P f args H (Ret r H) :=
  ((h.mono fun _ _ ⟨h1, h2⟩ => (⟨h1, by rw [← h1]; exact hr, h2⟩ : r = _ ∧ flat _ = true ∧ _)).quiet (φ := fun v => r = v)).mono fun _ _ ⟨h1, h2⟩ => ⟨h1, h2.symm⟩

section
variable {P : Program} {N : Nat} {ops : Array Oper} {Q : Slots → GHeap → Prop} {L : List (Oper × Nat)} {fr : Slots} {H H' Hb : GHeap} {o : Oper} {i k : Nat} {t : Tree}
theorem GRun.split {d : Tmp} {b : Bool} (ht : b = true → GRun P N ops Q L ((d, some (.bool true)) :: fr) H) (hf : b = false → GRun P N ops Q L ((d, some (.bool false)) :: fr) H) : GRun P N ops Q L ((d, some (.bool b)) :: fr) H := by
  cases b
  · exact hf rfl
  · exact ht rfl
theorem GTree.split {d : Tmp} {b : Bool} (ht : b = true → GTree P N ops Q t ((d, some (.bool true)) :: fr) Hb H) (hf : b = false → GTree P N ops Q t ((d, some (.bool false)) :: fr) Hb H) : GTree P N ops Q t ((d, some (.bool b)) :: fr) Hb H := by
  cases b
  · exact hf rfl
  · exact ht rfl
theorem GRun.callQ {d : Tmp} {f : FuncId} {args : Array Operand} {ts : Array TypeId} {vs : List Value} {r : Value} (hd : o.dst = some d) (hN : Nat.blt d N = true) (hg : o.guard = none) (ho : o.op = .call { callee := .value (.func f), args := args, argTypes := ts })
    (hcall : ∀ (as : Array Value) (w : World), (callFunc f as).run P w = .ok (.enter f as) w) (hv : evs fr args.toList = some vs) (hc : GCalls P f vs H (Ret r H)) (h : GRun P N ops Q L ((d, some r) :: fr) H) : GRun P N ops Q ((o, 0) :: L) fr H :=
  .call hd hN hg ho hcall hv hc fun _ _ ⟨h1, h2⟩ => by subst h1; subst h2; exact h
theorem GRun.callQg {d s : Tmp} {f : FuncId} {args : Array Operand} {ts : Array TypeId} {vs : List Value} {r : Value} {j : Nat} {want : Bool} (hd : o.dst = some d) (hN : Nat.blt d N = true) (hg : o.guard = some (j, want)) (hs : guardSlot ops j = some s) (hb : fr.get s = some (.bool want)) (ho : o.op = .call { callee := .value (.func f), args := args, argTypes := ts })
    (hcall : ∀ (as : Array Value) (w : World), (callFunc f as).run P w = .ok (.enter f as) w) (hv : evs fr args.toList = some vs) (hc : GCalls P f vs H (Ret r H)) (h : GRun P N ops Q L ((d, some r) :: fr) H) : GRun P N ops Q ((o, 0) :: L) fr H :=
  .callg hd hN hg hs hb ho hcall hv hc fun _ _ ⟨h1, h2⟩ => by subst h1; subst h2; exact h
theorem GTree.callQ1 {d : Tmp} {f : FuncId} {args : Array Operand} {ts : Array TypeId} {vs : List Value} {r : Value} (hi : ops[i]? = some o) (hd : o.dst = some d) (hN : Nat.blt d N = true) (hg : o.guard = none) (ho : o.op = .call { callee := .value (.func f), args := args, argTypes := ts })
    (hcall : ∀ (as : Array Value) (w : World), (callFunc f as).run P w = .ok (.enter f as) w) (hv : evs fr args.toList = some vs) (hc : GCalls P f vs H (Ret r H)) (hle : Hb.Le H) (h : GTree P N ops Q t ((d, some r) :: fr) Hb H) : GTree P N ops Q (.c i 1 t) fr Hb H :=
  .call1 hi hd hN hg ho hcall hv hc fun _ _ ⟨h1, h2⟩ => by subst h1; subst h2; exact ⟨hle, h⟩
theorem GTree.callQ1g {d s : Tmp} {f : FuncId} {args : Array Operand} {ts : Array TypeId} {vs : List Value} {r : Value} {j : Nat} {want : Bool} (hi : ops[i]? = some o) (hd : o.dst = some d) (hN : Nat.blt d N = true) (hg : o.guard = some (j, want)) (hs : guardSlot ops j = some s) (hb : fr.get s = some (.bool want))
    (ho : o.op = .call { callee := .value (.func f), args := args, argTypes := ts }) (hcall : ∀ (as : Array Value) (w : World), (callFunc f as).run P w = .ok (.enter f as) w) (hv : evs fr args.toList = some vs) (hc : GCalls P f vs H (Ret r H)) (hle : Hb.Le H) (h : GTree P N ops Q t ((d, some r) :: fr) Hb H) : GTree P N ops Q (.c i 1 t) fr Hb H :=
  .call1g hi hd hN hg hs hb ho hcall hv hc fun _ _ ⟨h1, h2⟩ => by subst h1; subst h2; exact ⟨hle, h⟩
theorem GTree.callQ0 {d : Tmp} {f : FuncId} {args : Array Operand} {ts : Array TypeId} {vs : List Value} {r : Value} (hi : ops[i]? = some o) (hd : o.dst = some d) (hN : Nat.blt d N = true) (hg : o.guard = none) (ho : o.op = .call { callee := .value (.func f), args := args, argTypes := ts })
    (hcall : ∀ (as : Array Value) (w : World), (callFunc f as).run P w = .ok (.enter f as) w) (hv : evs fr args.toList = some vs) (hc : GCalls P f vs H (Ret r H)) (h : GTree P N ops Q t ((d, some r) :: fr) H H) : GTree P N ops Q (.c i 0 t) fr Hb H :=
  .call0 hi hd hN hg ho hcall hv hc fun _ _ ⟨h1, h2⟩ => by subst h1; subst h2; exact h
theorem GTree.callQ0g {d s : Tmp} {f : FuncId} {args : Array Operand} {ts : Array TypeId} {vs : List Value} {r : Value} {j : Nat} {want : Bool} (hi : ops[i]? = some o) (hd : o.dst = some d) (hN : Nat.blt d N = true) (hg : o.guard = some (j, want)) (hs : guardSlot ops j = some s) (hb : fr.get s = some (.bool want))
    (ho : o.op = .call { callee := .value (.func f), args := args, argTypes := ts }) (hcall : ∀ (as : Array Value) (w : World), (callFunc f as).run P w = .ok (.enter f as) w) (hv : evs fr args.toList = some vs) (hc : GCalls P f vs H (Ret r H)) (h : GTree P N ops Q t ((d, some r) :: fr) H H) : GTree P N ops Q (.c i 0 t) fr Hb H :=
  .call0g hi hd hN hg hs hb ho hcall hv hc fun _ _ ⟨h1, h2⟩ => by subst h1; subst h2; exact h
end

theorem Sub.append {fr : Slots} : ∀ {a b : Slots}, Sub a fr → Sub b fr → Sub (a ++ b) fr
  | [], _, _, hb => hb
  | (_, some _) :: _, _, ha, hb => ⟨ha.1, Sub.append ha.2 hb⟩
  | (_, none) :: r, _, ha, hb => Sub.append (a := r) ha hb
/-- A loop, the slots that the rounds leave alone apart. -/
theorem GT.loopR {P : Program} {N : Nat} {Q : Exit → Slots → GHeap → Prop} {fr : Slots} {H : GHeap} {c : Code} {σ : Type} (rest : Slots) (F : σ → Slots) (I : σ → GHeap → Prop) (μ : σ → Nat) (s0 : σ) (hr : Sub rest fr) (hF : Sub (F s0) fr) (hI : I s0 H)
    (round : ∀ s H, I s H → ∀ K : Slots → GHeap → Prop, (∀ s' fr' H', I s' H' → μ s' < μ s → Sub (F s' ++ rest) fr' → K fr' H') → GT P N c (thenG K Q) (F s ++ rest) H) : GT P N (.loop c) Q fr H :=
  GT.loop (fun s => F s ++ rest) I μ s0 (hF.append hr) hI round
end Go.GL
