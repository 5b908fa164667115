/- A region whose order is drawn, run by a tree: quiet operations as soon as they can be, the others in each order that is left open. No condition. -/
import Derived.Test.YtbpehbbdodahaaaGlH
namespace Go.GL
open Go.RowKit

section
variable {P : Program} {fr fr' : Slots} {H H' : GHeap}

theorem ev_congr {x : Operand} {u : Value} (hx : ∀ t, x = .tmp t → ∀ u, fr.get t = some u → fr'.get t = some u) (h : ev fr x = some u) : ev fr' x = some u := by
  cases x with
  | tmp t => exact hx t rfl u h
  | const v => exact h
  | func f => exact h
  | global g => exact h
theorem evs_congr : ∀ {xs : List Operand} {us : List Value}, (∀ t, Operand.tmp t ∈ xs → ∀ u, fr.get t = some u → fr'.get t = some u) → evs fr xs = some us → evs fr' xs = some us
  | [], us, _, h => h
  | x :: xs, us, hx, h => by
    unfold evs at h ⊢
    split at h
    · cases h
    · rename_i v hv
      split at h
      · cases h
      · rename_i vs hvs
        rw [ev_congr (fun t ht => hx t (by simp [ht])) hv, evs_congr (fun t ht => hx t (by simp [ht])) hvs]
        exact h

theorem MStep.congr {op : Op} {v : Value} (hm : MStep P fr H op v) (hf : ∀ t, Operand.tmp t ∈ op.operands → ∀ u, fr.get t = some u → fr'.get t = some u) (hle : H.Le H') : MStep P fr' H' op v := by
  have e : ∀ {x : Operand} {u : Value}, x ∈ op.operands → ev fr x = some u → ev fr' x = some u := fun hx h => ev_congr (fun t ht => hf t (ht ▸ hx)) h
  have es : ∀ {xs : List Operand} {us : List Value}, (∀ x ∈ xs, x ∈ op.operands) → evs fr xs = some us → evs fr' xs = some us := fun hx h => evs_congr (fun t ht => hf t (hx _ ht)) h
  cases hm with
  | move h => exact .move (e (by simp [Op.operands]) h)
  | assign h => exact .assign (e (by simp [Op.operands]) h)
  | pickT hc h => exact .pickT (e (by simp [Op.operands]) hc) (e (by simp [Op.operands]) h)
  | pickF hc h => exact .pickF (e (by simp [Op.operands]) hc) (e (by simp [Op.operands]) h)
  | nilCheck h => exact .nilCheck (e (by simp [Op.operands]) h)
  | fieldAddr hk h => exact .fieldAddr hk (e (by simp [Op.operands]) h)
  | load ht h hc => exact .load ht (e (by simp [Op.operands]) h) (hle.cell hc)
  | loadN ht h hn hc => exact .loadN ht (e (by simp [Op.operands]) h) hn (fun i v hv => hle.cell (hc i v hv))
  | indexAddr ht h hi h0 h1 => exact .indexAddr ht (e (by simp [Op.operands]) h) (e (by simp [Op.operands]) hi) h0 h1
  | indexArr ht h hi h0 h1 => exact .indexArr ht (e (by simp [Op.operands]) h) (e (by simp [Op.operands]) hi) h0 h1
  | indexStr ht h hi h0 hb => exact .indexStr ht (e (by simp [Op.operands]) h) (e (by simp [Op.operands]) hi) h0 hb
  | len ht h => exact .len ht (e (by simp [Op.operands, Call.operands]) h)
  | lenStr ht h => exact .lenStr ht (e (by simp [Op.operands, Call.operands]) h)
  | cmp hx hy hr => exact .cmp (e (by simp [Op.operands]) hx) (e (by simp [Op.operands]) hy) hr
  | arith hx hy hr => exact .arith (e (by simp [Op.operands]) hx) (e (by simp [Op.operands]) hy) hr
  | quo hx hy h0 => exact .quo (e (by simp [Op.operands]) hx) (e (by simp [Op.operands]) hy) h0
  | rem hx hy h0 => exact .rem (e (by simp [Op.operands]) hx) (e (by simp [Op.operands]) hy) h0
  | strCmp hx hy hr => exact .strCmp (e (by simp [Op.operands]) hx) (e (by simp [Op.operands]) hy) hr
  | strAdd hx hy hl => exact .strAdd (e (by simp [Op.operands]) hx) (e (by simp [Op.operands]) hy) hl
  | boolEq ht hx hy => exact .boolEq ht (e (by simp [Op.operands]) hx) (e (by simp [Op.operands]) hy)
  | boolNe ht hx hy => exact .boolNe ht (e (by simp [Op.operands]) hx) (e (by simp [Op.operands]) hy)
  | aggEq hg hx hy ha hb hr => exact .aggEq hg (e (by simp [Op.operands]) hx) (e (by simp [Op.operands]) hy) ha hb hr
  | aggNe hg hx hy ha hb hr => exact .aggNe hg (e (by simp [Op.operands]) hx) (e (by simp [Op.operands]) hy) ha hb hr
  | not h => exact .not (e (by simp [Op.operands]) h)
  | neg h => exact .neg (e (by simp [Op.operands]) h)
  | conv hs ht h => exact .conv hs ht (e (by simp [Op.operands]) h)
  | build ht hz hv hc => exact .build ht hz (es (fun x hx => by simp only [Op.operands]; simpa using hx) hv) hc
  | extract h hv => exact .extract (e (by simp [Op.operands]) h) hv
  | field ht hf' h1 h hv => exact .field ht hf' h1 (e (by simp [Op.operands]) h) hv
  | fieldN ht hf' h1 h => exact .fieldN ht hf' h1 (e (by simp [Op.operands]) h)
  | slice ht hx hg hlo hhi h0 h1 =>
    rename_i t el x lo hi g off n sz l h cs
    refine .slice ht (e (by simp [Op.operands]) hx) (hle.2 _ _ hg) ?_ ?_ h0 h1
    · cases lo with
      | none => exact hlo
      | some y => obtain ⟨k, hk⟩ := hlo; exact ⟨k, e (by simp [Op.operands]) hk⟩
    · cases hi with
      | none => exact hhi
      | some y => obtain ⟨k, hk⟩ := hhi; exact ⟨k, e (by simp [Op.operands]) hk⟩
  | sliceNil ht hx hlo hhi =>
    rename_i t el x lo hi sz
    refine .sliceNil ht (e (by simp [Op.operands]) hx) ?_ ?_
    · cases lo with
      | none => trivial
      | some y => obtain ⟨k, hk⟩ := hlo; exact ⟨k, e (by simp [Op.operands]) hk⟩
    · cases hi with
      | none => trivial
      | some y => obtain ⟨k, hk⟩ := hhi; exact ⟨k, e (by simp [Op.operands]) hk⟩
  | sliceStr ht hx hlo hhi h0 h1 =>
    rename_i t x lo hi s l h
    refine .sliceStr ht (e (by simp [Op.operands]) hx) ?_ ?_ h0 h1
    · cases lo with
      | none => exact hlo
      | some y => obtain ⟨k, hk⟩ := hlo; exact ⟨k, e (by simp [Op.operands]) hk⟩
    · cases hi with
      | none => exact hhi
      | some y => obtain ⟨k, hk⟩ := hhi; exact ⟨k, e (by simp [Op.operands]) hk⟩
  | sliceTo ht hx hy h1 => exact .sliceTo ht (e (by simp [Op.operands]) hx) (e (by simp [Op.operands]) hy) h1
  | mkIface ht h => exact .mkIface ht (e (by simp [Op.operands]) h)
  | makeFunc h => exact .makeFunc (es (fun x hx => by simp only [Op.operands]; simpa using hx) h)
  | max2 hx hy => exact .max2 (e (by simp [Op.operands, Call.operands]) hx) (e (by simp [Op.operands, Call.operands]) hy)
  | min2 hx hy => exact .min2 (e (by simp [Op.operands, Call.operands]) hx) (e (by simp [Op.operands, Call.operands]) hy)
  | sliceNilEq ht hx hy hop => exact .sliceNilEq ht (e (by simp [Op.operands]) hx) (e (by simp [Op.operands]) hy) hop
end

/-- The orders in which a region may be run. 'q': quiet, early; 'c': next; 'or': either. -/
inductive Tree where
  | done
  | q (i : Nat) (t : Tree)
  | c (i k : Nat) (t : Tree)
  | or (s t : Tree)

/-- The operations that a region's operation waits for. -/
def depsOf (o : Oper) : List Nat := (o.after.toList.filter (Region.binds .any)).map (·.on)
/-- The slots that it looks at. -/
def looks (ops : Array Oper) (o : Oper) : List Tmp :=
  (o.op.operands.toList.filterMap fun | .tmp t => some t | _ => none) ++ (match o.guard with | some (j, _) => (guardSlot ops j).toList | none => [])
def touches (ops : Array Oper) (o : Oper) (d : Tmp) : Bool := (looks ops o).contains d || o.dst == some d

/-- All that comes before, as numbers' bits. -/
def maskOf (acc : List Nat) (o : Oper) : Nat := (depsOf o).foldl (fun s j => s ||| 2 ^ j ||| acc.getD j 0) 0
def masksFrom : List Oper → List Nat → List Nat
  | [], acc => acc
  | o :: r, acc => masksFrom r (acc ++ [maskOf acc o])

structure Ctx where
  ops : Array Oper
  n : Nat
  masks : List Nat

def Ctx.op (c : Ctx) (i : Nat) : Oper := c.ops.getD i default
def Ctx.before (c : Ctx) (i j : Nat) : Bool := (c.masks.getD i 0).testBit j

/-- The writers, among those that were, of what i looks at are all before it. -/
def Ctx.reads (c : Ctx) (pre : List Nat) (i : Nat) : Bool := pre.all fun j => match (c.op j).dst with | some d => !(looks c.ops (c.op i)).contains d || c.before i j | none => true
/-- Those that touch what i writes are all before it. -/
def Ctx.writes (c : Ctx) (pre : List Nat) (i : Nat) : Bool := match (c.op i).dst with | some d => pre.all fun j => !touches c.ops (c.op j) d || c.before i j | none => true
def Ctx.fresh (c : Ctx) (pre : List Nat) (i : Nat) : Bool := match (c.op i).dst with | some d => (pre.all fun j => !touches c.ops (c.op j) d) && !(looks c.ops (c.op i)).contains d | none => true
def Ctx.can (c : Ctx) (pre : List Nat) (i : Nat) : Bool := Nat.blt i c.n && !pre.contains i && (depsOf (c.op i)).all pre.contains && c.reads pre i

def heads : Tree → List Nat
  | .c i _ _ => [i]
  | .or s t => heads s ++ heads t
  | _ => []
/-- Whatever may come next is there. -/
def Ctx.covers (c : Ctx) (pre : List Nat) (hs : List Nat) : Bool := (List.range c.n).all fun u => pre.contains u || hs.contains u || !((depsOf (c.op u)).all pre.contains)

/-- 'inOr': the node stands under an 'or': what it covers has been asked. -/
def Ctx.ok (c : Ctx) (pre : List Nat) (inOr : Bool) : Tree → Bool
  | .done => !inOr && (List.range c.n).all pre.contains
  | .q i t => !inOr && c.can pre i && c.fresh pre i && c.ok (i :: pre) false t
  | .c i k t => (inOr || c.covers pre [i]) && c.can pre i && c.writes pre i && (Nat.beq k 1 || (Nat.beq k 0 && pre.all (c.before i))) && c.ok (i :: pre) false t
  | .or s t => (inOr || c.covers pre (heads s ++ heads t)) && c.ok pre true s && c.ok pre true t

def ctxOf (ops : Array Oper) : Ctx := ⟨ops, ops.size, masksFrom ops.toList []⟩

/-- The run along a tree. Hb: the heap at which the early quiet operations looked. -/
def GTree (P : Program) (N : Nat) (ops : Array Oper) (Q : Slots → GHeap → Prop) : Tree → Slots → GHeap → GHeap → Prop
  | .done, fr, _, H => Q fr H
  | .q i t, fr, Hb, H => ∃ o, ops[i]? = some o ∧ dstOk N o = true ∧
    (match o.guard with
    | none => ∃ v Hq, Hb.Le Hq ∧ Hq.Le H ∧ MStep P fr Hq o.op v ∧ GTree P N ops Q t (putS fr o.dst (some v)) Hq H
    | some (j, want) => ∃ s c, guardSlot ops j = some s ∧ fr.get s = some (.bool c) ∧ (c = want → ∃ v Hq, Hb.Le Hq ∧ Hq.Le H ∧ MStep P fr Hq o.op v ∧ GTree P N ops Q t (putS fr o.dst (some v)) Hq H) ∧
      (c ≠ want → GTree P N ops Q t (putS fr o.dst none) Hb H))
  | .c i k t, fr, Hb, H => ∃ o, ops[i]? = some o ∧ dstOk N o = true ∧
    (match o.guard with
    | none => CDo P o fr H fun v H' => (k = 1 → Hb.Le H') ∧ GTree P N ops Q t (putS fr o.dst v) (if k = 1 then Hb else H') H'
    | some (j, want) => ∃ s c, guardSlot ops j = some s ∧ fr.get s = some (.bool c) ∧ (c = want → CDo P o fr H fun v H' => (k = 1 → Hb.Le H') ∧ GTree P N ops Q t (putS fr o.dst v) (if k = 1 then Hb else H') H') ∧
      (c ≠ want → GTree P N ops Q t (putS fr o.dst none) Hb H))
  | .or s t, fr, Hb, H => GTree P N ops Q s fr Hb H ∧ GTree P N ops Q t fr Hb H
end Go.GL
