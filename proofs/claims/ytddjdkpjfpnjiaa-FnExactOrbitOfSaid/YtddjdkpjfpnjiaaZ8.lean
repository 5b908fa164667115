/- A go statement and the loop that hears its goroutine to the end: the rule over code in company. No condition. -/
import Derived.Test.YtddjdkpjfpnjiaaZ7
import Derived.Conc.CompanyWords
import Derived.Conc.AppendWalk
set_option linter.unusedSectionVars false
namespace Go.GL
open Go.RowKit Go.Conc
variable [MainFlag]

section
variable {P : Program} {c : Nat} {S : World → Prop} {Mine : Loc → Prop} {z : Value} {K : Goroutine → World → Prop}

theorem dm_terms {fresh : Bool} : Terms (Aside c) (Dm c S Mine fresh) := ⟨aside_trans, fun _ => ⟨id, rfl, fun e he => by simp at he, fun _ => rfl⟩⟩

structure RangeLoop (P : Program) (c : Nat) (z : Value) where
  n : Nat
  idr : Nat
  orv : Oper
  oex : Oper
  tr : Tmp
  tk : Tmp
  tc : Tmp
  ty : TypeId
  body : Code
  hrv : orv.op = .recv ty (.tmp tc) true
  hrg : orv.guard = none
  hrd : orv.dst = some tr
  hex : oex.op = .extract (.tmp tr) 1
  heg : oex.guard = none
  hed : oex.dst = some tk
  hne : tr ≠ tk
  hz : ∃ dir elem info, P.underlying ty = some (.chan dir elem) ∧ P.info? elem = some info ∧ info.zero = some z
namespace RangeLoop
variable (L : RangeLoop P c z)
def ops : Array Oper := #[L.orv, L.oex]
def tail : Code := .seq (.cond (.tmp L.tk) .skip (.exit L.n)) L.body
def round : Code := .seq (.region L.idr L.ops false) L.tail
def rest (k : List Item) : List Item := .code L.tail :: .inLoop L.round :: .inBlock L.n :: k
def at_ (b : Frame) (a : Act) (k : List Item) (cs : List Frame) : Goroutine := G (b.at a (.inRegion L.ops [0, 1] :: L.rest k)) cs

theorem recv_run {a : Act} (hc : a.eval (.tmp L.tc) = .chan (some c)) (w : World) : (execOp a.eval L.orv).run P w = .ok (.comm #[rcase c z] true (.recv true)) w ∧ (execOp a.eval L.orv).events P w #[] = #[] := by
  obtain ⟨dir, elem, info, h1, h2, h3⟩ := L.hz
  unfold execOp
  rw [L.hrv]
  simp [run_underlying h1, zeroValue, typeInfo, h2, h3, hc, rcase]
theorem at_recv {b : Frame} {a : Act} {k : List Item} {cs : List Frame} (hb : b.kind ≠ .early) (hc : a.eval (.tmp L.tc) = .chan (some c)) (w : World) :
    stepG P true (L.at_ b a k cs) w = .comm (core (L.at_ b a k cs)) #[rcase c z] true (.recv true) w #[] := by
  obtain ⟨h1, h2⟩ := L.recv_run hc w
  have hw : Region.wanted L.orv (yielded L.ops a.tmps) = true := by simp [Region.wanted, L.hrg]
  unfold at_
  rw [stepG_comm (o := L.orv) rfl hw hb h1]
  unfold listed
  rw [h2, seen_none]
  rfl
theorem served_at {b : Frame} {a : Act} {k : List Item} {cs : List Frame} (v : Value) : Conc.served (core (L.at_ b a k cs)) v = G (b.at (a.put (some L.tr) v) (.inRegion L.ops [1] :: L.rest k)) cs := by
  unfold at_
  rw [core_G, served_G]
  have : ((L.ops)[0]?).bind (·.dst) = some L.tr := by simp [ops, L.hrd]
  rw [this]
theorem ex_run {a : Act} {v : Value} {t : Bool} (hs : L.tr < a.tmps.size) (w : World) : (execOp (a.put (some L.tr) (.tuple #[v, .bool t])).eval L.oex).run P w = .ok (.value (.bool t)) w ∧ (execOp (a.put (some L.tr) (.tuple #[v, .bool t])).eval L.oex).events P w #[] = #[] := by
  have e : (a.put (some L.tr) (.tuple #[v, .bool t])).eval (.tmp L.tr) = .tuple #[v, .bool t] := by
    simp [Act.put, Act.eval, Array.getD_eq_getD_getElem?, hs]
  unfold execOp
  rw [L.hex]
  simp [Instr.extract, e]

def got (a : Act) (v : Value) (t : Bool) : Act := (a.put (some L.tr) (.tuple #[v, .bool t])).put (some L.tk) (.bool t)
theorem got_ok {a : Act} {v : Value} {t : Bool} (hk : L.tk < a.tmps.size) : (L.got a v t).eval (.tmp L.tk) = .bool t := by
  simp [got, Act.put, Act.eval, Array.getD_eq_getD_getElem?, hk]

theorem goes_body {b : Frame} {a : Act} {k : List Item} {cs : List Frame} {v : Value} {w : World} {Stop : Goroutine → World → Prop} {n : Nat} (hb : b.kind ≠ .early) (hs : L.tr < a.tmps.size) (hk : L.tk < a.tmps.size)
    (h : Goes P true (Aside c) (Dm c S Mine false) Stop n (G (b.at (L.got a v true) (.code L.body :: .inLoop L.round :: .inBlock L.n :: k)) cs) w) :
    Goes P true (Aside c) (Dm c S Mine false) Stop (n + 5) (G (b.at (a.put (some L.tr) (.tuple #[v, .bool true])) (.inRegion L.ops [1] :: L.rest k)) cs) w := by
  have T := dm_terms (c := c) (S := S) (Mine := Mine) (fresh := false)
  have hw : Region.wanted L.oex (yielded L.ops (a.put (some L.tr) (.tuple #[v, .bool true])).tmps) = true := by simp [Region.wanted, L.heg]
  refine Goes.step rfl fun w1 h1 => ?_
  obtain ⟨r1, r2⟩ := L.ex_run (P := P) (v := v) (t := true) hs w1
  rw [stepG_value (o := L.oex) rfl hw hb r1, listed_nil r2, L.hed]
  refine ⟨T.idle _, Goes.step rfl fun w2 h2 => ?_⟩
  rw [stepG_region_end]
  refine ⟨T.idle _, Goes.step rfl fun w3 h3 => ?_⟩
  unfold rest tail
  rw [stepG_seq]
  refine ⟨T.idle _, Goes.step rfl fun w4 h4 => ?_⟩
  have hk' : ((a.put (some L.tr) (.tuple #[v, .bool true])).put (some L.tk) (.bool true)).eval (.tmp L.tk) = .bool true := L.got_ok hk
  rw [stepG_cond (t := true) hk']
  refine ⟨T.idle _, Goes.step rfl fun w5 h5 => ?_⟩
  simp only [if_true]
  rw [stepG_skip]
  exact ⟨T.idle _, h.rely T.trans (((h1.trans h2).trans h3).trans (h4.trans h5))⟩

theorem goes_next {b : Frame} {a : Act} {k : List Item} {cs : List Frame} {w : World} {Stop : Goroutine → World → Prop} (h : ∀ w', Aside c w w' → Stop (L.at_ b a k cs) w') : Goes P true (Aside c) (Dm c S Mine false) Stop 3 (G (b.at a (.inLoop L.round :: .inBlock L.n :: k)) cs) w := by
  have T := dm_terms (c := c) (S := S) (Mine := Mine) (fresh := false)
  refine Goes.step rfl fun w1 h1 => ?_
  rw [stepG_inLoop]
  refine ⟨T.idle _, Goes.step rfl fun w2 h2 => ?_⟩
  unfold round
  rw [stepG_seq]
  refine ⟨T.idle _, Goes.step rfl fun w3 h3 => ?_⟩
  rw [stepG_region]
  refine ⟨T.idle _, Goes.stop fun w4 h4 => h w4 ((h1.trans h2).trans (h3.trans h4))⟩

theorem hears {b : Frame} {k : List Item} {cs : List Frame} {nb : Nat} {vs : List Value} {Inv : Nat → Act → World → Prop} {I : World → Prop} (hC : Closed P true I K) (hb : b.kind ≠ .early)
    (hInv : ∀ i a w, Inv i a w → a.eval (.tmp L.tc) = .chan (some c) ∧ L.tr < a.tmps.size ∧ L.tk < a.tmps.size ∧ (∀ w', Aside c w w' → Inv i a w') ∧ ∀ v t, Inv i (L.got a v t) w)
    (hbody : ∀ i a w v, vs[i]? = some v → Inv i a w → a.eval (.tmp L.tr) = .tuple #[v, .bool true] → L.body.wpC P true (Aside c) (Dm c S Mine false) b.fn nb (fun e a' w' => e = .normal ∧ Inv (i + 1) a' w') a w)
    (hfin : ∀ a w, Inv vs.length a w → K (G (b.at a k) cs) w) : ∀ (vs' : List Value) (i : Nat) (a : Act) (w : World), vs.drop i = vs' → i ≤ vs.length → Inv i a w → StopM P c S Mine z K vs' (L.at_ b a k cs) w := by
  intro vs'
  induction vs' with
  | nil =>
    intro i a w hd hi hI
    have hlen : i = vs.length := by have := congrArg List.length hd; simp at this; omega
    subst hlen
    obtain ⟨h1, h2, h3, h4, h5⟩ := hInv _ _ _ hI
    refine ⟨rfl, L.at_recv hb h1 w, fun w' h' => ?_⟩
    dsimp only
    rw [L.served_at]
    have hw : Region.wanted L.oex (yielded L.ops (a.put (some L.tr) (.tuple #[z, .bool false])).tmps) = true := by simp [Region.wanted, L.heg]
    refine hC.go _ _ rfl fun d => ?_
    obtain ⟨r1, r2⟩ := L.ex_run (P := P) (v := z) (t := false) h2 (w'.at d)
    rw [stepG_value (o := L.oex) rfl hw hb r1, listed_nil r2, L.hed]
    refine ⟨calmA_nil, id, ?_⟩
    refine region_endM hC ?_
    unfold rest tail
    refine moveM' hC rfl (fun w => stepG_seq) (moveM' hC rfl (fun w => stepG_cond (t := false) (L.got_ok h3)) ?_)
    simp only [Bool.false_eq_true, if_false]
    exact moveM' hC rfl (fun w => stepG_exit (k' := k) (by simp [exitTo])) (hC.stable _ _ d (hfin _ _ (by
      obtain ⟨_, _, _, _, h5'⟩ := hInv _ _ _ (h4 w' h')
      exact h5' z false)))
  | cons v vs' ih =>
    intro i a w hd hi hI
    have hlt : i < vs.length := by
      rcases Nat.lt_or_ge i vs.length with h | h
      · exact h
      · rw [List.drop_of_length_le h] at hd; cases hd
    have hv : vs[i]? = some v := by
      have := congrArg (·[0]?) hd
      simpa using this
    have hd' : vs.drop (i + 1) = vs' := by
      have := congrArg List.tail hd
      simpa using this
    obtain ⟨h1, h2, h3, h4, h5⟩ := hInv _ _ _ hI
    refine ⟨rfl, L.at_recv hb h1 w, fun w' h' => ?_⟩
    dsimp only
    rw [L.served_at]
    rw [serv_iff]
    have hI' := h4 w' h'
    obtain ⟨_, _, _, _, h5'⟩ := hInv _ _ _ hI'
    have hI2 : Inv i (L.got a v true) w' := h5' v true
    refine ⟨_, L.goes_body (n := 3 + nb) hb h2 h3 ?_⟩
    have he : (L.got a v true).eval (.tmp L.tr) = .tuple #[v, .bool true] := by
      have : ¬ L.tk = L.tr := fun e => L.hne e.symm
      simp [got, Act.put, Act.eval, Array.getD_eq_getD_getElem?, Array.getElem?_setIfInBounds_ne this, h2, Array.getElem_setIfInBounds, this]
    refine (hbody i _ w' v hv hI2 he) b (.inLoop L.round :: .inBlock L.n :: k) cs _ 3 rfl hb fun e a' w'' ⟨he', hI3⟩ => ?_
    subst he'
    exact L.goes_next fun w3 h3' => ih (i + 1) a' w3 hd' (by omega) (by
      obtain ⟨_, _, _, h4', _⟩ := hInv _ _ _ hI3
      exact h4' w3 h3')
end RangeLoop

structure Hears (P : Program) (c : Nat) (z : Value) (L : RangeLoop P c z) (K : Goroutine → World → Prop) (b : Frame) (k : List Item) (cs : List Frame) (a : Act) (gc : Goroutine) (w : World) where
  S : World → Prop
  Mine : Loc → Prop
  vs : List Value
  Inv : Nat → Act → World → Prop
  nb : Nat
  hS : S w
  hSt : ∀ w w', Aside c w w' → S w → S w'
  sends : Sends P c S Mine vs gc
  start : Inv 0 a w
  inv : ∀ i a w, Inv i a w → a.eval (.tmp L.tc) = .chan (some c) ∧ L.tr < a.tmps.size ∧ L.tk < a.tmps.size ∧ (∀ w', Aside c w w' → Inv i a w') ∧ ∀ v t, Inv i (L.got a v t) w
  body : ∀ i a w v, vs[i]? = some v → Inv i a w → a.eval (.tmp L.tr) = .tuple #[v, .bool true] → L.body.wpC P true (Aside c) (Dm c S Mine false) b.fn nb (fun e a' w' => e = .normal ∧ Inv (i + 1) a' w') a w
  fin : ∀ a w, Inv vs.length a w → K (G (b.at a k) cs) w

theorem route_seq {b : Frame} {a : Act} {k : List Item} {cs : List Frame} {x y : Code} {n : Nat} {gr : Goroutine} (h : Route P n (G (b.at a (.code x :: .code y :: k)) cs) gr) : Route P (n + 1) (G (b.at a (.code (.seq x y) :: k)) cs) gr := Route.step' rfl (fun _ => stepG_seq) h

theorem fork_range {main : Bool} {I I0 : World → Prop} (hC : Closed P main I K) (hm : MainFlag.main = true) (L : RangeLoop P c z) {b : Frame} {a : Act} {k : List Item} {cs : List Frame} {w : World} {ops : Array Oper} {i id8 : Nat} {o o8 : Oper} {x : Operand} {rest : Code} {d : Deferred} {f : Fn} {caps : Array Value}
    (hb : b.kind ≠ .early) (ho : ops[i]? = some o) (hg : o.guard = none) (hd : o.dst = none) (hr : ∀ w, (execOp a.eval o).run P w = .ok (.spawn d) w) (he : ∀ w, (execOp a.eval o).events P w #[] = #[]) (hdt : d.target = .fn f caps)
    (h8 : o8.op = .move x) (g8 : o8.guard = none) (d8 : o8.dst = some L.tc) (hx : a.eval x = .chan (some c)) (hsz : L.tc < a.tmps.size) (hIw : I0 w) (hId : ∀ w d, I0 w → I0 (w.at d)) (hI : ∀ w', I0 w' → ∃ tm, w'.heap[c]? = some (.chan 0 #[] false 0 0 tm))
    (child : ∀ KA, Steady P false I0 KA → (∀ gc w₁, I0 w₁ → Hears P c z L K b (.code rest :: k) cs (a.put (some L.tc) (.chan (some c))) gc w₁ → KA gc w₁) → KA (born P d) w) :
    K (G (b.at a (.inRegion ops [i] :: .code (.seq (.seq (.region id8 #[o8] false) (.block L.n (.loop L.round))) rest) :: k)) cs) w := by
  have hmt : main = true := hC.flag.trans hm
  subst hmt
  have hw : Region.wanted o (yielded ops a.tmps) = true := by simp [Region.wanted, hg]
  have hc1 : (a.put (some L.tc) (.chan (some c))).eval (.tmp L.tc) = .chan (some c) := by simp [Act.put, Act.eval, Array.getD_eq_getD_getElem?, hsz]
  have hroute : Route P 10 (G (b.at (a.put o.dst undef) (.inRegion ops [] :: .code (.seq (.seq (.region id8 #[o8] false) (.block L.n (.loop L.round))) rest) :: k)) cs) (L.at_ b (a.put (some L.tc) (.chan (some c))) (.code rest :: k) cs) := by
    rw [hd]
    refine Route.step' rfl (fun _ => stepG_region_end) (route_seq (route_seq (Route.step' rfl (fun _ => stepG_region) ?_)))
    have hw8 : Region.wanted o8 (yielded #[o8] (a.put none undef).tmps) = true := by simp [Region.wanted, g8]
    have e8 : ∀ w, stepG P true (G (b.at (a.put none undef) (.inRegion #[o8] (List.range (#[o8] : Array Oper).size) :: .code (.block L.n (.loop L.round)) :: .code rest :: k)) cs) w =
        .go (G (b.at (a.put (some L.tc) (.chan (some c))) (.inRegion #[o8] [] :: .code (.block L.n (.loop L.round)) :: .code rest :: k)) cs) w := fun w => by
      have r8 : (execOp (a.put none undef).eval o8).run P w = .ok (.value (.chan (some c))) w := by
        unfold execOp
        rw [h8]
        show Result.ok _ _ = _
        rw [show (a.put none undef).eval x = .chan (some c) from hx]
      have v8 : (execOp (a.put none undef).eval o8).events P w #[] = #[] := by
        unfold execOp
        rw [h8]
        rfl
      have : List.range (#[o8] : Array Oper).size = [0] := rfl
      rw [this, stepG_value (o := o8) rfl hw8 hb r8, listed_nil v8, d8]
      rfl
    refine Route.step' rfl e8 (Route.step' rfl (fun _ => stepG_region_end) (Route.step' rfl (fun _ => stepG_block) (Route.step' rfl (fun _ => stepG_loop) ?_)))
    unfold RangeLoop.round
    exact route_seq (Route.step' rfl (fun _ => stepG_region) Route.stop)
  refine hC.fork rfl _ _ ⟨rfl, _, born P d, c, z, _, 10, I0, fun e => ?_, hroute, ⟨rfl, fun w => L.at_recv hb hc1 w⟩, hIw, hId, hI, fun KA hKA hex => child KA hKA fun gc w₁ _ hh => hex gc w₁ ?_⟩
  · rw [stepG_spawn ho hw hb (hr _) hdt, listed_nil (he _)]
  · exact ⟨hh.S, hh.Mine, hh.vs, hh.hS, hh.hSt, hh.sends, fun w' h' => L.hears hC hb hh.inv hh.body hh.fin hh.vs 0 _ w' rfl (Nat.zero_le _) ((hh.inv _ _ _ hh.start).2.2.2.1 w' h')⟩
end
end Go.GL
