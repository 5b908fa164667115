/- A go statement and the loop that hears its goroutine to the end: the rule over code in company. No condition. -/
import Derived.Test.YtddjdkpjfpnjiaaZ7
import Derived.Conc.CompanyWords
import Derived.Conc.AppendWalk
set_option linter.unusedSectionVars false
namespace Go.GL
open Go.RowKit Go.Conc
variable [MainFlag]

section
variable {P : Program} {c : Nat} {S : World → Prop} {Mine : Loc → Prop} {z : Value} {K : Goroutine → World → Prop}

theorem dm_terms {fresh : Bool} : Terms (Aside c) (Dm c S Mine fresh) := ⟨aside_trans, fun _ => ⟨id, rfl, fun e he => by simp at he, fun _ => rfl⟩⟩

structure RangeLoop (P : Program) (c : Nat) (z : Value) where
  n : Nat
  idr : Nat
  orv : Oper
  oex : Oper
  tr : Tmp
  tk : Tmp
  tc : Tmp
  ty : TypeId
  body : Code
  hrv : orv.op = .recv ty (.tmp tc) true
  hrg : orv.guard = none
  hrd : orv.dst = some tr
  hex : oex.op = .extract (.tmp tr) 1
  heg : oex.guard = none
  hed : oex.dst = some tk
  hne : tr ≠ tk
  hz : ∃ dir elem info, P.underlying ty = some (.chan dir elem) ∧ P.info? elem = some info ∧ info.zero = some z
namespace RangeLoop
variable (L : RangeLoop P c z)
def ops : Array Oper := #[L.orv, L.oex]
def tail : Code := .seq (.cond (.tmp L.tk) .skip (.exit L.n)) L.body
def round : Code := .seq (.region L.idr L.ops false) L.tail
def rest (k : List Item) : List Item := .code L.tail :: .inLoop L.round :: .inBlock L.n :: k
def at_ (b : Frame) (a : Act) (k : List Item) (cs : List Frame) : Goroutine := G (b.at a (.inRegion L.ops [0, 1] :: L.rest k)) cs

theorem recv_run {a : Act} (hc : a.eval (.tmp L.tc) = .chan (some c)) (w : World) : (execOp a.eval L.orv).run P w = .ok (.comm #[rcase c z] true (.recv true)) w ∧ (execOp a.eval L.orv).events P w #[] = #[] := by
  obtain ⟨dir, elem, info, h1, h2, h3⟩ := L.hz
  unfold execOp
  rw [L.hrv]
  simp [run_underlying h1, zeroValue, typeInfo, h2, h3, hc, rcase]
theorem at_recv {b : Frame} {a : Act} {k : List Item} {cs : List Frame} (hb : b.kind ≠ .early) (hc : a.eval (.tmp L.tc) = .chan (some c)) (w : World) :
    stepG P true (L.at_ b a k cs) w = .comm (core (L.at_ b a k cs)) #[rcase c z] true (.recv true) w #[] := by
  obtain ⟨h1, h2⟩ := L.recv_run hc w
  have hw : Region.wanted L.orv (yielded L.ops a.tmps) = true := by simp [Region.wanted, L.hrg]
  unfold at_
  rw [stepG_comm (o := L.orv) rfl hw hb h1]
  unfold listed
  rw [h2, seen_none]
  rfl
theorem served_at {b : Frame} {a : Act} {k : List Item} {cs : List Frame} (v : Value) : Conc.served (core (L.at_ b a k cs)) v = G (b.at (a.put (some L.tr) v) (.inRegion L.ops [1] :: L.rest k)) cs := by
  unfold at_
  rw [core_G, served_G]
  have : ((L.ops)[0]?).bind (·.dst) = some L.tr := by simp [ops, L.hrd]
  rw [this]
theorem ex_run {a : Act} {v : Value} {t : Bool} (hs : L.tr < a.tmps.size) (w : World) : (execOp (a.put (some L.tr) (.tuple #[v, .bool t])).eval L.oex).run P w = .ok (.value (.bool t)) w ∧ (execOp (a.put (some L.tr) (.tuple #[v, .bool t])).eval L.oex).events P w #[] = #[] := by
  have e : (a.put (some L.tr) (.tuple #[v, .bool t])).eval (.tmp L.tr) = .tuple #[v, .bool t] := by
    simp [Act.put, Act.eval, Array.getD_eq_getD_getElem?, hs]
  unfold execOp
  rw [L.hex]
  simp [Instr.extract, e]

def got (a : Act) (v : Value) (t : Bool) : Act := (a.put (some L.tr) (.tuple #[v, .bool t])).put (some L.tk) (.bool t)
theorem got_ok {a : Act} {v : Value} {t : Bool} (hk : L.tk < a.tmps.size) : (L.got a v t).eval (.tmp L.tk) = .bool t := by
  simp [got, Act.put, Act.eval, Array.getD_eq_getD_getElem?, hk]

theorem goes_body {b : Frame} {a : Act} {k : List Item} {cs : List Frame} {v : Value} {w : World} {Stop : Goroutine → World → Prop} {n : Nat} (hb : b.kind ≠ .early) (hs : L.tr < a.tmps.size) (hk : L.tk < a.tmps.size)
    (h : Goes P true (Aside c) (Dm c S Mine false) Stop n (G (b.at (L.got a v true) (.code L.body :: .inLoop L.round :: .inBlock L.n :: k)) cs) w) :
    Goes P true (Aside c) (Dm c S Mine false) Stop (n + 5) (G (b.at (a.put (some L.tr) (.tuple #[v, .bool true])) (.inRegion L.ops [1] :: L.rest k)) cs) w := by
  have T := dm_terms (c := c) (S := S) (Mine := Mine) (fresh := false)
  have hw : Region.wanted L.oex (yielded L.ops (a.put (some L.tr) (.tuple #[v, .bool true])).tmps) = true := by simp [Region.wanted, L.heg]
  refine Goes.step rfl fun w1 h1 => ?_
  obtain ⟨r1, r2⟩ := L.ex_run (P := P) (v := v) (t := true) hs w1
  rw [stepG_value (o := L.oex) rfl hw hb r1, listed_nil r2, L.hed]
  refine ⟨T.idle _, Goes.step rfl fun w2 h2 => ?_⟩
  rw [stepG_region_end]
  refine ⟨T.idle _, Goes.step rfl fun w3 h3 => ?_⟩
  unfold rest tail
  rw [stepG_seq]
  refine ⟨T.idle _, Goes.step rfl fun w4 h4 => ?_⟩
  have hk' : ((a.put (some L.tr) (.tuple #[v, .bool true])).put (some L.tk) (.bool true)).eval (.tmp L.tk) = .bool true := L.got_ok hk
  rw [stepG_cond (t := true) hk']
  refine ⟨T.idle _, Goes.step rfl fun w5 h5 => ?_⟩
  simp only [if_true]
  rw [stepG_skip]
  exact ⟨T.idle _, h.rely T.trans (((h1.trans h2).trans h3).trans (h4.trans h5))⟩

theorem goes_next {b : Frame} {a : Act} {k : List Item} {cs : List Frame} {w : World} {Stop : Goroutine → World → Prop} (h : ∀ w', Aside c w w' → Stop (L.at_ b a k cs) w') : Goes P true (Aside c) (Dm c S Mine false) Stop 3 (G (b.at a (.inLoop L.round :: .inBlock L.n :: k)) cs) w := by
  have T := dm_terms (c := c) (S := S) (Mine := Mine) (fresh := false)
  refine Goes.step rfl fun w1 h1 => ?_
  rw [stepG_inLoop]
  refine ⟨T.idle _, Goes.step rfl fun w2 h2 => ?_⟩
  unfold round
  rw [stepG_seq]
  refine ⟨T.idle _, Goes.step rfl fun w3 h3 => ?_⟩
  rw [stepG_region]
  refine ⟨T.idle _, Goes.stop fun w4 h4 => h w4 ((h1.trans h2).trans (h3.trans h4))⟩

theorem hears {b : Frame} {k : List Item} {cs : List Frame} {nb : Nat} {vs : List Value} {Inv : Nat → Act → World → Prop} {I : World → Prop} (hC : Closed P true I K) (hb : b.kind ≠ .early)
    (hInv : ∀ i a w, Inv i a w → a.eval (.tmp L.tc) = .chan (some c) ∧ L.tr < a.tmps.size ∧ L.tk < a.tmps.size ∧ (∀ w', Aside c w w' → Inv i a w') ∧ ∀ v t, Inv i (L.got a v t) w)
    (hbody : ∀ i a w v, vs[i]? = some v → Inv i a w → a.eval (.tmp L.tr) = .tuple #[v, .bool true] → L.body.wpC P true (Aside c) (Dm c S Mine false) b.fn nb (fun e a' w' => e = .normal ∧ Inv (i + 1) a' w') a w)
    (hfin : ∀ a w, Inv vs.length a w → K (G (b.at a k) cs) w) : ∀ (vs' : List Value) (i : Nat) (a : Act) (w : World), vs.drop i = vs' → i ≤ vs.length → Inv i a w → StopM P c S Mine z K vs' (L.at_ b a k cs) w := by
  intro vs'
  induction vs' with
  | nil =>
    intro i a w hd hi hI
    have hlen : i = vs.length := by have := congrArg List.length hd; simp at this; omega
    subst hlen
    obtain ⟨h1, h2, h3, h4, h5⟩ := hInv _ _ _ hI
    refine ⟨rfl, L.at_recv hb h1 w, fun w' h' => ?_⟩
    dsimp only
    rw [L.served_at]
    have hw : Region.wanted L.oex (yielded L.ops (a.put (some L.tr) (.tuple #[z, .bool false])).tmps) = true := by simp [Region.wanted, L.heg]
    refine hC.go _ _ rfl fun d => ?_
    obtain ⟨r1, r2⟩ := L.ex_run (P := P) (v := z) (t := false) h2 (w'.at d)
    rw [stepG_value (o := L.oex) rfl hw hb r1, listed_nil r2, L.hed]
    refine ⟨calmA_nil, id, ?_⟩
    refine region_endM hC ?_
    unfold rest tail
    refine moveM' hC rfl (fun w => stepG_seq) (moveM' hC rfl (fun w => stepG_cond (t := false) (L.got_ok h3)) ?_)
    simp only [Bool.false_eq_true, if_false]
    exact moveM' hC rfl (fun w => stepG_exit (k' := k) (by simp [exitTo])) (hC.stable _ _ d (hfin _ _ (by
      obtain ⟨_, _, _, _, h5'⟩ := hInv _ _ _ (h4 w' h')
      exact h5' z false)))
  | cons v vs' ih =>
    intro i a w hd hi hI
    have hlt : i < vs.length := by
      rcases Nat.lt_or_ge i vs.length with h | h
      · exact h
      · rw [List.drop_of_length_le h] at hd; cases hd
    have hv : vs[i]? = some v := by
      have := congrArg (·[0]?) hd
      simpa using this
    have hd' : vs.drop (i + 1) = vs' := by
      have := congrArg List.tail hd
      simpa using this
    obtain ⟨h1, h2, h3, h4, h5⟩ := hInv _ _ _ hI
    refine ⟨rfl, L.at_recv hb h1 w, fun w' h' => ?_⟩
    dsimp only
    rw [L.served_at]
    rw [serv_iff]
    have hI' := h4 w' h'
    obtain ⟨_, _, _, _, h5'⟩ := hInv _ _ _ hI'
    have hI2 : Inv i (L.got a v true) w' := h5' v true
    refine ⟨_, L.goes_body (n := 3 + nb) hb h2 h3 ?_⟩
    have he : (L.got a v true).eval (.tmp L.tr) = .tuple #[v, .bool true] := by
      have : ¬ L.tk = L.tr := fun e => L.hne e.symm
      simp [got, Act.put, Act.eval, Array.getD_eq_getD_getElem?, Array.getElem?_setIfInBounds_ne this, h2, Array.getElem_setIfInBounds, this]
    refine (hbody i _ w' v hv hI2 he) b (.inLoop L.round :: .inBlock L.n :: k) cs _ 3 rfl hb fun e a' w'' ⟨he', hI3⟩ => ?_
    subst he'
    exact L.goes_next fun w3 h3' => ih (i + 1) a' w3 hd' (by omega) (by
      obtain ⟨_, _, _, h4', _⟩ := hInv _ _ _ hI3
      exact h4' w3 h3')
end RangeLoop

structure Hears (P : Program) (c : Nat) (z : Value) (L : RangeLoop P c z) (K : Goroutine → World → Prop) (b : Frame) (k : List Item) (cs : List Frame) (a : Act) (gc : Goroutine) (w : World) where
  S : World → Prop
  Mine : Loc → Prop
  vs : List Value
  Inv : Nat → Act → World → Prop
  nb : Nat
  hS : S w
  hSt : ∀ w w', Aside c w w' → S w → S w'
  sends : Sends P c S Mine vs gc
  start : Inv 0 a w
  inv : ∀ i a w, Inv i a w → a.eval (.tmp L.tc) = .chan (some c) ∧ L.tr < a.tmps.size ∧ L.tk < a.tmps.size ∧ (∀ w', Aside c w w' → Inv i a w') ∧ ∀ v t, Inv i (L.got a v t) w
  body : ∀ i a w v, vs[i]? = some v → Inv i a w → a.eval (.tmp L.tr) = .tuple #[v, .bool true] → L.body.wpC P true (Aside c) (Dm c S Mine false) b.fn nb (fun e a' w' => e = .normal ∧ Inv (i + 1) a' w') a w
  fin : ∀ a w, Inv vs.length a w → K (G (b.at a k) cs) w

theorem route_seq {b : Frame} {a : Act} {k : List Item} {cs : List Frame} {x y : Code} {n : Nat} {gr : Goroutine} (h : Route P n (G (b.at a (.code x :: .code y :: k)) cs) gr) : Route P (n + 1) (G (b.at a (.code (.seq x y) :: k)) cs) gr := Route.step' rfl (fun _ => stepG_seq) h

theorem fork_range {main : Bool} {I I0 : World → Prop} (hC : Closed P main I K) (hm : MainFlag.main = true) (L : RangeLoop P c z) {b : Frame} {a : Act} {k : List Item} {cs : List Frame} {w : World} {ops : Array Oper} {i id8 : Nat} {o o8 : Oper} {x : Operand} {rest : Code} {d : Deferred} {f : Fn} {caps : Array Value}
    (hb : b.kind ≠ .early) (ho : ops[i]? = some o) (hg : o.guard = none) (hd : o.dst = none) (hr : ∀ w, (execOp a.eval o).run P w = .ok (.spawn d) w) (he : ∀ w, (execOp a.eval o).events P w #[] = #[]) (hdt : d.target = .fn f caps)
    (h8 : o8.op = .move x) (g8 : o8.guard = none) (d8 : o8.dst = some L.tc) (hx : a.eval x = .chan (some c)) (hsz : L.tc < a.tmps.size) (hIw : I0 w) (hId : ∀ w d, I0 w → I0 (w.at d)) (hI : ∀ w', I0 w' → ∃ tm, w'.heap[c]? = some (.chan 0 #[] false 0 0 tm))
    (child : ∀ KA, Steady P false I0 KA → (∀ gc w₁, I0 w₁ → Hears P c z L K b (.code rest :: k) cs (a.put (some L.tc) (.chan (some c))) gc w₁ → KA gc w₁) → KA (born P d) w) :
    K (G (b.at a (.inRegion ops [i] :: .code (.seq (.seq (.region id8 #[o8] false) (.block L.n (.loop L.round))) rest) :: k)) cs) w := by
  have hmt : main = true := hC.flag.trans hm
  subst hmt
  have hw : Region.wanted o (yielded ops a.tmps) = true := by simp [Region.wanted, hg]
  have hc1 : (a.put (some L.tc) (.chan (some c))).eval (.tmp L.tc) = .chan (some c) := by simp [Act.put, Act.eval, Array.getD_eq_getD_getElem?, hsz]
  have hroute : Route P 10 (G (b.at (a.put o.dst undef) (.inRegion ops [] :: .code (.seq (.seq (.region id8 #[o8] false) (.block L.n (.loop L.round))) rest) :: k)) cs) (L.at_ b (a.put (some L.tc) (.chan (some c))) (.code rest :: k) cs) := by
    rw [hd]
    refine Route.step' rfl (fun _ => stepG_region_end) (route_seq (route_seq (Route.step' rfl (fun _ => stepG_region) ?_)))
    have hw8 : Region.wanted o8 (yielded #[o8] (a.put none undef).tmps) = true := by simp [Region.wanted, g8]
    have e8 : ∀ w, stepG P true (G (b.at (a.put none undef) (.inRegion #[o8] (List.range (#[o8] : Array Oper).size) :: .code (.block L.n (.loop L.round)) :: .code rest :: k)) cs) w =
        .go (G (b.at (a.put (some L.tc) (.chan (some c))) (.inRegion #[o8] [] :: .code (.block L.n (.loop L.round)) :: .code rest :: k)) cs) w := fun w => by
      have r8 : (execOp (a.put none undef).eval o8).run P w = .ok (.value (.chan (some c))) w := by
        unfold execOp
        rw [h8]
        show Result.ok _ _ = _
        rw [show (a.put none undef).eval x = .chan (some c) from hx]
      have v8 : (execOp (a.put none undef).eval o8).events P w #[] = #[] := by
        unfold execOp
        rw [h8]
        rfl
      have : List.range (#[o8] : Array Oper).size = [0] := rfl
      rw [this, stepG_value (o := o8) rfl hw8 hb r8, listed_nil v8, d8]
      rfl
    refine Route.step' rfl e8 (Route.step' rfl (fun _ => stepG_region_end) (Route.step' rfl (fun _ => stepG_block) (Route.step' rfl (fun _ => stepG_loop) ?_)))
    unfold RangeLoop.round
    exact route_seq (Route.step' rfl (fun _ => stepG_region) Route.stop)
  refine hC.fork rfl _ _ ⟨rfl, _, born P d, c, z, _, 10, I0, fun e => ?_, hroute, ⟨rfl, fun w => L.at_recv hb hc1 w⟩, hIw, hId, hI, fun KA hKA hex => child KA hKA fun gc w₁ _ hh => hex gc w₁ ?_⟩
  · rw [stepG_spawn ho hw hb (hr _) hdt, listed_nil (he _)]
  · exact ⟨hh.S, hh.Mine, hh.vs, hh.hS, hh.hSt, hh.sends, fun w' h' => L.hears hC hb hh.inv hh.body hh.fin hh.vs 0 _ w' rfl (Nat.zero_le _) ((hh.inv _ _ _ hh.start).2.2.2.1 w' h')⟩
end
end Go.GL
namespace Go.GL
open Go.RowKit
variable [MainFlag]

def out : List Nat → Nat → Prop
  | [], _ => True
  | g :: r, k => k ≠ g ∧ out r k
structure St (bs : List Nat) (H H' : GHeap) : Prop where
  nx : H.next ≤ H'.next
  same : ∀ k o, out bs k → H.get k = some o → H'.get k = some o
theorem St.refl (bs : List Nat) (H : GHeap) : St bs H H := ⟨Nat.le_refl _, fun _ _ _ h => h⟩
theorem GHeap.Le.st {H0 H H' : GHeap} {bs : List Nat} (h : H0.Le H) (s : St bs H H') (hg : ∀ k, k < H0.next → out bs k) : H0.Le H' :=
  ⟨Nat.le_trans h.1 s.nx, fun k o hk => s.same k o (hg k (GHeap.ltg hk)) (h.2 k o hk)⟩
theorem St.le {bs : List Nat} {H0 H H' : GHeap} (s : St bs H0 H) (h : H.Le H') : St bs H0 H' := ⟨Nat.le_trans s.nx h.1, fun k o hk hg => h.2 k o (s.same k o hk hg)⟩
theorem St.st {bs cs : List Nat} {H0 H H' : GHeap} (s : St bs H0 H) (h : St cs H H') (hg : ∀ k, k < H0.next → out bs k → out cs k) : St bs H0 H' :=
  ⟨Nat.le_trans s.nx h.nx, fun k o hk h1 => h.same k o (hg k (GHeap.ltg h1) hk) (s.same k o hk h1)⟩
theorem St.sA {bs cs : List Nat} {H0 H H' : GHeap} (s : St bs H0 H) (h : St cs H H') (hg : ∀ k, k < H0.next → out bs k → out cs k := by intro k hk ho; simp only [out, and_true] at ho ⊢ <;> first | exact ho | exact ho.1 | exact ho.2 | exact ho.2.1 | exact ho.2.2 | exact ho.2.2.1 | exact ho.2.2.2 | omega) : St bs H0 H' := s.st h hg
theorem St.s {g k : Nat} {H H' : GHeap} {o : GObj} (s : St [g] H H') (h : H.get k = some o) (hne : k ≠ g := by first | assumption | omega) : H'.get k = some o := s.same k o ⟨hne, trivial⟩ h
theorem Keep.le {b : Nat} {H0 H H' : GHeap} (k : Keep b H0 H) (h : H.Le H') : Keep b H0 H' := fun g o hb hg => h.2 g o (k g o hb hg)
theorem Keep.st {bs : List Nat} {b : Nat} {H0 H H' : GHeap} (k : Keep b H0 H) (h : St bs H H') (hg : ∀ k, b ≤ k → k < H0.next → out bs k) : Keep b H0 H' := fun g o hb h1 => h.same g o (hg g hb (GHeap.ltg h1)) (k g o hb h1)
theorem St.of_set {g : Nat} {H : GHeap} {o : Option GObj} : St [g] H (H.set g o) := ⟨by rw [GHeap.next_set]; exact Nat.le_refl _, fun k x hk h => by rw [GHeap.get_set_ne (Ne.symm hk.1)]; exact h⟩
theorem St.push {bs : List Nat} {H H' : GHeap} {o : GObj} (s : St bs H H') : St bs H (H'.push o) := ⟨by rw [GHeap.next_push]; have := s.nx; omega, fun k x hk h => GHeap.get_push_of (s.same k x hk h)⟩

section
variable {P : Program} {N : Nat} {ops : Array Oper} {Q : Slots → GHeap → Prop} {L : List (Oper × Nat)} {fr : Slots} {H Hb : GHeap} {o : Oper} {i : Nat} {t : Tree}
theorem GRun.r {d : Tmp} {R : Option Value → GHeap → Prop} (hd : o.dst = some d) (hN : Nat.blt d N = true) (hg : o.guard = none) (hc : CDo P o fr H R) (h : ∀ v H', R v H' → GRun P N ops Q L ((d, v) :: fr) H') : GRun P N ops Q ((o, 0) :: L) fr H :=
  .c hd hN hg (by simp) hc fun v H' hR => ⟨fun e => (by cases e), h v H' hR⟩
theorem GRun.R {d : Tmp} {R : Option Value → GHeap → Prop} (h0 : stpR o N = some d) (hc : CDo P o fr H R) (h : ∀ v H', R v H' → GRun P N ops Q L ((d, v) :: fr) H') : GRun P N ops Q ((o, 0) :: L) fr H := by
  obtain ⟨h1, h2, h3⟩ := stpR.spec h0
  exact .r h1 h2 h3 hc h
theorem GRun.r0 {R : Option Value → GHeap → Prop} (hd : o.dst = none) (hg : o.guard = none) (hc : CDo P o fr H R) (h : ∀ v H', R v H' → GRun P N ops Q L fr H') : GRun P N ops Q ((o, 0) :: L) fr H :=
  .c0 hd hg (by simp) hc fun v H' hR => ⟨fun e => (by cases e), h v H' hR⟩
theorem GTree.r0 {R : Option Value → GHeap → Prop} (hi : ops[i]? = some o) (hd : o.dst = none) (hg : o.guard = none) (hc : CDo P o fr H R) (h : ∀ v H', R v H' → GTree P N ops Q t fr H' H') : GTree P N ops Q (.c i 0 t) fr Hb H := by
  unfold GTree
  refine ⟨o, hi, by unfold dstOk; rw [hd], ?_⟩
  rw [hg]
  refine .mkI fun l B w0 ρ a w hs hf next Qx hn => ?_
  exact hc.run l B w0 ρ a w hs hf next Qx fun ρ' v c H' w' hR => hn ρ' v c H' w' ⟨fun e => (by cases e), by rw [hd, if_neg (by simp)]; exact h v H' hR⟩
end

section
variable {P : Program} {H : GHeap} {fr : Slots} {o : Oper}
theorem CDo.boxR {e : TypeId} {x : Operand} {v : Value} {n : Nat} (ho : o.op = .box e x) (he : (P.info? e).map (·.size) = some n) (hx : ev fr x = some v) :
    CDo P o fr H (fun r H' => ∃ g, r = some (.pointer (some ⟨g, 0, none⟩)) ∧ H.Le H' ∧ H.next ≤ g ∧ H'.get g = some (.row v.cells.toList e true)) :=
  .box ho he hx ⟨_, rfl, GHeap.le_push _ _, Nat.le_refl _, GHeap.get_push_new _ _⟩
theorem CDo.allocR {e : TypeId} {z : List Value} {n : Nat} (ho : o.op = .alloc e) (hz : zeroT P e = some (z, n)) (hfl : z.all flat1 = true) :
    CDo P o fr H (fun r H' => ∃ g, r = some (.pointer (some ⟨g, 0, none⟩)) ∧ H.Le H' ∧ H.next ≤ g ∧ H'.get g = some (.row z e true)) :=
  .alloc ho hz hfl ⟨_, rfl, GHeap.le_push _ _, Nat.le_refl _, GHeap.get_push_new _ _⟩
theorem CDo.litR {t e : TypeId} {len n : Nat} {parts : Array (Nat × Operand)} {z vs cs : List Value} (ho : o.op = .buildSlice t len parts) (ht : sliceT P t = some (e, n)) (hz : zeroT P e = some (z, n)) (hfl : z.all flat1 = true) (hzn : z.length = n) (h0 : 0 < n)
    (hsm : len * n ≤ 16777216) (hv : evs fr (parts.toList.map (·.2)) = some vs) (hc : fillL (fun i => some (i * n, n)) (madeL z (len * n)) ((parts.toList.map (·.1)).zip vs) = some cs) :
    CDo P o fr H (fun r H' => ∃ g, r = some (.slice (some ⟨g, 0, none⟩) len len) ∧ H.Le H' ∧ H.next ≤ g ∧ H'.get g = some (.row cs e true)) :=
  .buildSlice ho ht hz hfl hzn h0 hsm hv hc ⟨_, rfl, GHeap.le_push _ _, Nat.le_refl _, GHeap.get_push_new _ _⟩
theorem CDo.makeV {t e : TypeId} {x y : Operand} {k k' : IntKind} {j c : Int} {bytes : Nat} {z : Value} (ho : o.op = .makeSlice t x y) (ht : sliceT P t = some (e, 1)) (hz : zeroT P e = some ([z], 1)) (hb : (P.info? e).map (·.bytes) = some bytes)
    (hfl : [z].all flat1 = true) (hx : ev fr x = some (.int k j)) (hy : ev fr y = some (.int k' c)) (h0 : 0 ≤ j) (hlc : j ≤ c) (hsm : bytes * c ≤ 281474976710656) (hsc : c ≤ 9223372036854775807) :
    CDo P o fr H (fun r H' => ∃ g, r = some (.slice (some ⟨g, 0, none⟩) j.toNat j.toNat) ∧ H.Le H' ∧ H.next ≤ g ∧ H'.get g = some (.row (List.replicate j.toNat z) e true)) := by
  have e1 : (j.toNat : Int) = j := Int.toNat_of_nonneg h0
  have e2 : (c.toNat : Int) = c := Int.toNat_of_nonneg (by omega)
  have e3 : bytes * c.toNat ≤ 281474976710656 := by
    have : ((bytes * c.toNat : Nat) : Int) ≤ 281474976710656 := by rw [Int.natCast_mul, e2]; exact hsm
    omega
  refine .makeSlice (l := j.toNat) (c := c.toNat) ho ht hz hb hfl rfl (by omega) (by rw [e1]; exact hx) (by rw [e2]; exact hy) (by omega) e3 (by omega) ⟨_, rfl, GHeap.le_push _ _, Nat.le_refl _, ?_⟩
  rw [GHeap.get_push_new, madeL_one, Nat.mul_one]
theorem CDo.makeI {t e : TypeId} {x y : Operand} {k k' : IntKind} {j c : Int} {bytes : Nat} (ho : o.op = .makeSlice t x y) (ht : sliceT P t = some (e, 1)) (hz : zeroT P e = some ([.int .i64 0], 1)) (hb : (P.info? e).map (·.bytes) = some bytes)
    (hx : ev fr x = some (.int k j)) (hy : ev fr y = some (.int k' c)) (h0 : 0 ≤ j) (hlc : j ≤ c) (hsm : bytes * c ≤ 281474976710656) (hsc : c ≤ 9223372036854775807) :
    CDo P o fr H (fun r H' => ∃ g, r = some (.slice (some ⟨g, 0, none⟩) j.toNat j.toNat) ∧ H.Le H' ∧ H.next ≤ g ∧ H'.get g = some (.row (ints (List.replicate j.toNat 0)) e true)) := by
  have : ints (List.replicate j.toNat 0) = List.replicate j.toNat (Value.int .i64 0) := by simp [ints]
  rw [this]
  exact .makeV ho ht hz hb rfl hx hy h0 hlc hsm hsc
theorem CDo.makeB {t e : TypeId} {x y : Operand} {k k' : IntKind} {j c : Int} {bytes : Nat} (ho : o.op = .makeSlice t x y) (ht : sliceT P t = some (e, 1)) (hz : zeroT P e = some ([.bool false], 1)) (hb : (P.info? e).map (·.bytes) = some bytes)
    (hx : ev fr x = some (.int k j)) (hy : ev fr y = some (.int k' c)) (h0 : 0 ≤ j) (hlc : j ≤ c) (hsm : bytes * c ≤ 281474976710656) (hsc : c ≤ 9223372036854775807) :
    CDo P o fr H (fun r H' => ∃ g, r = some (.slice (some ⟨g, 0, none⟩) j.toNat j.toNat) ∧ H.Le H' ∧ H.next ≤ g ∧ H'.get g = some (.row (bools (List.replicate j.toNat false)) e true)) := by
  have : bools (List.replicate j.toNat false) = List.replicate j.toNat (Value.bool false) := by simp [bools]
  rw [this]
  exact .makeV ho ht hz hb rfl hx hy h0 hlc hsm hsc
theorem CDo.storeR {t : TypeId} {x y : Operand} {g off : Nat} {v : Value} {cs : List Value} {e : TypeId} (ho : o.op = .store t x y) (ht : (P.info? t).map (·.size) = some 1) (hx : ev fr x = some (.pointer (some ⟨g, off, none⟩))) (hy : ev fr y = some v)
    (h1 : v.oneCell' = true) (hg : H.get g = some (.row cs e true)) (hoff : off < cs.length) :
    CDo P o fr H (fun r H' => r = none ∧ St [g] H H' ∧ H'.get g = some (.row (cs.set off v) e true)) :=
  .store ho ht hx hy h1 hg hoff ⟨rfl, .of_set, GHeap.get_set_eq (GHeap.ltg hg)⟩
theorem CDo.storeI {t : TypeId} {x y : Operand} {g off : Nat} {m : Int} {ys : List Int} {e : TypeId} (ho : o.op = .store t x y) (ht : (P.info? t).map (·.size) = some 1) (hx : ev fr x = some (.pointer (some ⟨g, off, none⟩))) (hy : ev fr y = some (.int .i64 m))
    (hg : H.get g = some (.row (ints ys) e true)) (hoff : off < ys.length) :
    CDo P o fr H (fun r H' => r = none ∧ St [g] H H' ∧ H'.get g = some (.row (ints (ys.set off m)) e true)) := by
  rw [← ints_set]; exact .storeR ho ht hx hy rfl hg (by simpa using hoff)
theorem bools_set (ys : List Bool) (i : Nat) (v : Bool) : (bools ys).set i (.bool v) = bools (ys.set i v) := by simp [bools, List.map_set]
theorem CDo.storeB {t : TypeId} {x y : Operand} {g off : Nat} {m : Bool} {ys : List Bool} {e : TypeId} (ho : o.op = .store t x y) (ht : (P.info? t).map (·.size) = some 1) (hx : ev fr x = some (.pointer (some ⟨g, off, none⟩))) (hy : ev fr y = some (.bool m))
    (hg : H.get g = some (.row (bools ys) e true)) (hoff : off < ys.length) :
    CDo P o fr H (fun r H' => r = none ∧ St [g] H H' ∧ H'.get g = some (.row (bools (ys.set off m)) e true)) := by
  rw [← bools_set]; exact .storeR ho ht hx hy rfl hg (by simpa using hoff)
theorem CDo.storeNR {t : TypeId} {x y : Operand} {g off n : Nat} {vs : Array Value} {cs : List Value} {e : TypeId} (ho : o.op = .store t x y) (ht : (P.info? t).map (·.size) = some n) (hx : ev fr x = some (.pointer (some ⟨g, off, none⟩))) (hy : ev fr y = some (.agg vs))
    (hn : vs.size = n) (h1 : vs.toList.all (·.oneCell') = true) (hg : H.get g = some (.row cs e true)) (hoff : off + n ≤ cs.length) :
    CDo P o fr H (fun r H' => r = none ∧ St [g] H H' ∧ H'.get g = some (.row (setAll cs off vs.toList) e true)) :=
  .storeN ho ht hx hy hn h1 hg hoff ⟨rfl, .of_set, GHeap.get_set_eq (GHeap.ltg hg)⟩
theorem CDo.fillR {t : TypeId} {x y : Operand} {g n : Nat} {vs : Array Value} {cs : List Value} {e : TypeId} (ho : o.op = .store t x y) (ht : (P.info? t).map (·.size) = some n) (hx : ev fr x = some (.pointer (some ⟨g, 0, none⟩))) (hy : ev fr y = some (.agg vs))
    (hn : vs.size = n) (h1 : vs.toList.all (·.oneCell') = true) (hg : H.get g = some (.row cs e true)) (hoff : cs.length = n) :
    CDo P o fr H (fun r H' => r = none ∧ St [g] H H' ∧ H'.get g = some (.row vs.toList e true)) := by
  have : setAll cs 0 vs.toList = vs.toList := setAll_all _ _ (by simp [hoff, hn])
  have h := CDo.storeNR (P := P) (H := H) ho ht hx hy hn h1 hg (by omega)
  rw [this] at h
  exact h
theorem CDo.litA {t e : TypeId} {len n : Nat} {parts : Array (Nat × Operand)} {z vs cs : List Value} (ho : o.op = .buildSlice t len parts) (ht : sliceT P t = some (e, n)) (hz : zeroT P e = some (z, n)) (hfl : z.all flat1 = true) (hzn : z.length = n) (hv : evs fr (parts.toList.map (·.2)) = some vs) (hc : fillL (fun i => some (i * n, n)) (madeL z (len * n)) ((parts.toList.map (·.1)).zip vs) = some cs) (h0 : 0 < n := by omega)
    (hsm : len * n ≤ 16777216 := by omega) : CDo P o fr H (fun r H' => ∃ g, r = some (.slice (some ⟨g, 0, none⟩) len len) ∧ H.Le H' ∧ H.next ≤ g ∧ H'.get g = some (.row cs e true)) := .litR ho ht hz hfl hzn h0 hsm hv hc
theorem CDo.fillA {t : TypeId} {x y : Operand} {g n : Nat} {vs : Array Value} {cs : List Value} {e : TypeId} (ho : o.op = .store t x y) (ht : (P.info? t).map (·.size) = some n) (hx : ev fr x = some (.pointer (some ⟨g, 0, none⟩))) (hy : ev fr y = some (.agg vs))
    (hn : vs.size = n) (h1 : vs.toList.all (·.oneCell') = true) (hg : H.get g = some (.row cs e true) := by assumption) (hoff : cs.length = n := by first | rfl | exact Nat.le_of_ble_eq_true rfl | simp) :
    CDo P o fr H (fun r H' => r = none ∧ St [g] H H' ∧ H'.get g = some (.row vs.toList e true)) := .fillR ho ht hx hy hn h1 hg hoff
theorem CDo.appendR {t tx e : TypeId} {s x : Operand} {g off n m sz bytes : Nat} {z cs news : List Value} (ho : o.op = .call { callee := .builtin .append, args := #[s, x], argTypes := #[t, tx] }) (ht : sliceT P t = some (e, sz)) (hz : zeroT P e = some (z, sz)) (hzn : z.length = sz)
    (hb : (P.info? e).map (·.bytes) = some bytes) (hsv : ev fr s = some (.slice (some ⟨g, off, none⟩) n n)) (hg : H.get g = some (.row cs e true)) (hend : off + n * sz = cs.length) (hsrc : SrcG P fr H sz tx x m news)
    (hN : n + m ≤ 16777216) (hB : (n + m) * bytes ≤ 140737488355328) :
    CDo P o fr H (fun r H' => ∃ g', r = some (.slice (some ⟨g', 0, none⟩) (n + m) (n + m)) ∧ St [g] H H' ∧ H.next ≤ g' ∧ H'.get g' = some (.row (cs.drop off ++ news) e true)) :=
  .append ho ht hz hzn hb hsv hg hend hsrc (by unfold maxLen; omega) hB ⟨_, rfl, .push .of_set, Nat.le_refl _, by have := GHeap.get_push_new (H.set g none) (.row (cs.drop off ++ news) e true); rwa [GHeap.next_set] at this⟩
theorem CDo.appendV {t tx e e' : TypeId} {s x : Operand} {g g1 n sz bytes : Nat} {z cs vs : List Value} (ho : o.op = .call { callee := .builtin .append, args := #[s, x], argTypes := #[t, tx] }) (ht : sliceT P t = some (e, sz)) (hz : zeroT P e = some (z, sz)) (hzn : z.length = sz)
    (hb : (P.info? e).map (·.bytes) = some bytes) (htx : sliceT P tx = some (e', sz)) (hsv : ev fr s = some (.slice (some ⟨g, 0, none⟩) n n)) (hx : ev fr x = some (.slice (some ⟨g1, 0, none⟩) 1 1)) (hg : H.get g = some (.row cs e true)) (hg1 : H.get g1 = some (.row vs e' true)) (hend : n * sz = cs.length)
    (hv : vs.length = sz) (hone : vs.all (·.oneCell') = true) (hN : n + 1 ≤ 16777216) (hB : (n + 1) * bytes ≤ 140737488355328) :
    CDo P o fr H (fun r H' => ∃ g', r = some (.slice (some ⟨g', 0, none⟩) (n + 1) (n + 1)) ∧ St [g] H H' ∧ H.next ≤ g' ∧ H'.get g' = some (.row (cs ++ vs) e true)) :=
  .appendR (cs := cs) (news := vs) ho ht hz hzn hb hsv hg (by omega) (.slice htx hx (by omega) (fun i v hv => by rw [GHeap.cell_of hg1, Nat.zero_add]; exact hv) (fun v hv => List.all_eq_true.1 hone v hv)) hN hB
theorem CDo.appendI {t tx e e' : TypeId} {s x : Operand} {g g1 n bytes : Nat} {z : List Value} {ys : List Int} {m : Int} (ho : o.op = .call { callee := .builtin .append, args := #[s, x], argTypes := #[t, tx] }) (ht : sliceT P t = some (e, 1)) (hz : zeroT P e = some (z, 1)) (hzn : z.length = 1)
    (hb : (P.info? e).map (·.bytes) = some bytes) (htx : sliceT P tx = some (e', 1)) (hsv : ev fr s = some (.slice (some ⟨g, 0, none⟩) n n)) (hx : ev fr x = some (.slice (some ⟨g1, 0, none⟩) 1 1)) (hg : H.get g = some (.row (ints ys) e true)) (hg1 : H.get g1 = some (.row [.int .i64 m] e' true)) (hend : n = ys.length)
    (hN : n + 1 ≤ 16777216) (hB : (n + 1) * bytes ≤ 140737488355328) :
    CDo P o fr H (fun r H' => ∃ g', r = some (.slice (some ⟨g', 0, none⟩) (n + 1) (n + 1)) ∧ St [g] H H' ∧ H.next ≤ g' ∧ H'.get g' = some (.row (ints (ys ++ [m])) e true)) := by
  have e1 : ints (ys ++ [m]) = ints ys ++ [.int .i64 m] := by simp [ints]
  rw [e1]
  exact .appendV ho ht hz hzn hb htx hsv hx hg hg1 (by simp; omega) rfl rfl hN hB
end

def filtN (n : Nat) (p : Nat → Bool) : List Int := ((List.range n).filter p).map fun (i : Nat) => (i : Int)
theorem filtN_T {n : Nat} {p : Nat → Bool} (h : p n = true) : filtN (n + 1) p = filtN n p ++ [(n : Int)] := by simp [filtN, List.range_succ, h]
theorem filtN_F {n : Nat} {p : Nat → Bool} (h : p n = false) : filtN (n + 1) p = filtN n p := by simp [filtN, List.range_succ, h]
theorem filtN_le (n : Nat) (p : Nat → Bool) : (filtN n p).length ≤ n := by
  unfold filtN; rw [List.length_map]; exact Nat.le_trans (List.length_filter_le _ _) (by simp)
theorem mem_filtN {n : Nat} {p : Nat → Bool} {x : Int} : x ∈ filtN n p ↔ ∃ i, i < n ∧ p i = true ∧ x = i := by
  simp only [filtN, List.mem_map, List.mem_filter, List.mem_range]
  exact ⟨fun ⟨i, ⟨h1, h2⟩, h3⟩ => ⟨i, h1, h2, h3.symm⟩, fun ⟨i, h1, h2, h3⟩ => ⟨i, ⟨h1, h2⟩, h3.symm⟩⟩
theorem getD_mem {xs : List Int} {i : Nat} (h : i < xs.length) : xs.getD i 0 ∈ xs := by
  rw [List.getD_eq_getElem?_getD, List.getElem?_eq_getElem h]; exact List.getElem_mem h
theorem mem_getD {xs : List Int} {x : Int} (h : x ∈ xs) : ∃ i, i < xs.length ∧ xs.getD i 0 = x := by
  obtain ⟨i, hi, e⟩ := List.getElem_of_mem h
  exact ⟨i, hi, by rw [List.getD_eq_getElem?_getD, List.getElem?_eq_getElem hi]; exact e⟩
theorem filtN_get {n : Nat} {p : Nat → Bool} {i : Nat} (h : i < (filtN n p).length) : ∃ j, j < n ∧ p j = true ∧ (filtN n p).getD i 0 = j := mem_filtN.1 (getD_mem h)

def firstIn (xs : List Int) (p : Int → Bool) : Int := (xs.find? p).getD (-1)
theorem CDo.apI {P : Program} {o : Oper} {fr : Slots} {H : GHeap} {t tx e e' : TypeId} {s x : Operand} {g g1 n bytes : Nat} {z : List Value} {ys : List Int} {m : Int} (ho : o.op = .call { callee := .builtin .append, args := #[s, x], argTypes := #[t, tx] }) (ht : sliceT P t = some (e, 1)) (hz : zeroT P e = some (z, 1)) (hzn : z.length = 1)
    (hb : (P.info? e).map (·.bytes) = some bytes) (htx : sliceT P tx = some (e', 1)) (hsv : ev fr s = some (.slice (some ⟨g, 0, none⟩) n n)) (hx : ev fr x = some (.slice (some ⟨g1, 0, none⟩) 1 1)) (hg : H.get g = some (.row (ints ys) e true) := by assumption) (hg1 : H.get g1 = some (.row [.int .i64 m] e' true) := by assumption) (hend : n = ys.length := by first | omega | (simp <;> omega))
    (hN : n + 1 ≤ 16777216 := by omega) (hB : (n + 1) * bytes ≤ 140737488355328 := by omega) :
    CDo P o fr H (fun r H' => ∃ g', r = some (.slice (some ⟨g', 0, none⟩) (n + 1) (n + 1)) ∧ St [g] H H' ∧ H.next ≤ g' ∧ H'.get g' = some (.row (ints (ys ++ [m])) e true)) := .appendI ho ht hz hzn hb htx hsv hx hg hg1 hend hN hB
end Go.GL
namespace Go.GL
variable [MainFlag]

def Cat.hom (c : Cat) (x y : Int) : List Int := filtN c.src.length fun f => decide (c.src.getD f 0 = x) && decide (c.tgt.getD f 0 = y)
def Cat.invB (c : Cat) (f g : Int) : Bool := decide (c.th f g = c.idn.getD (c.src.getD f.toNat 0).toNat 0) && decide (c.th g f = c.idn.getD (c.tgt.getD f.toNat 0).toNat 0)
def Cat.inv (c : Cat) (f : Int) : Int := firstIn (c.hom (c.tgt.getD f.toNat 0) (c.src.getD f.toNat 0)) (c.invB f)
end Go.GL
