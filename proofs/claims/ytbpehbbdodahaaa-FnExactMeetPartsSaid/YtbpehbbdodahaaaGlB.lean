/- The quiet operations over ghost values: what each yields, and that the model's operation yields what stands for it. No condition. -/
import Derived.Test.YtbpehbbdodahaaaGlA
namespace Go.GL
open Go.RowKit

/-- The known slots of a call's frame; 'none': forgotten. The newest first. -/
abbrev Slots := List (Nat × Option Value)

def Slots.get : Slots → Nat → Option Value
  | [], _ => none
  | (s, v) :: r, t => bif Nat.beq s t then v else Slots.get r t

def ev (fr : Slots) : Operand → Option Value
  | .tmp t => Slots.get fr t
  | .const v => bif flat v then some v else none
  | .func f => some (.func (.func f) #[] #[])
  | .global _ => none

def evs (fr : Slots) : List Operand → Option (List Value)
  | [] => some []
  | x :: r => match ev fr x with
    | none => none
    | some v => match evs fr r with
      | none => none
      | some vs => some (v :: vs)

/-- Closed facts of the program's types. -/
def fieldOff (P : Program) (s : TypeId) (f : Nat) : Option Nat :=
  match P.underlying s with
  | some (.struct fs) => match fs[f]? with
    | some fd => match P.info? fd.type with
      | some i => if i.size = 0 then none else some fd.offset
      | none => none
    | none => none
  | _ => none
def oneT (P : Program) (t : TypeId) : Bool :=
  match P.underlying t with
  | some (.struct _) | some (.array ..) | none => false
  | _ => true
def aggT (P : Program) (t : TypeId) : Option Nat :=
  match P.underlying t with
  | some (.struct _) | some (.array ..) => (P.info? t).map (·.size)
  | _ => none
def sliceT (P : Program) (t : TypeId) : Option (TypeId × Nat) :=
  match P.underlying t with
  | some (.slice e) => (P.info? e).map fun i => (e, i.size)
  | _ => none
def arrayT (P : Program) (t : TypeId) : Option (Nat × Nat) :=
  match P.underlying t with
  | some (.array n e) => (P.info? e).map fun i => (n, i.size)
  | _ => none
def intT (P : Program) (t : TypeId) : Option IntKind :=
  match P.underlying t with
  | some (.int k) => some k
  | _ => none
def isStringT (P : Program) (t : TypeId) : Bool := match P.underlying t with | some .string => true | _ => false
def isBoolT (P : Program) (t : TypeId) : Bool := match P.underlying t with | some .bool => true | _ => false

theorem oneT_run {P : Program} {t : TypeId} (h : oneT P t = true) (w : World) : (isAgg t).run P w = .ok false w := by
  unfold oneT at h
  cases hu : P.underlying t with
  | none => simp [hu] at h
  | some d =>
    simp only [isAgg, Sem.run_bind, run_underlying hu, Result.andThen_ok]
    rw [hu] at h
    cases d <;> first | rfl | (simp at h)
theorem aggT_run {P : Program} {t : TypeId} {n : Nat} (h : aggT P t = some n) (w : World) : (isAgg t).run P w = .ok true w ∧ (sizeOf t).run P w = .ok n w := by
  unfold aggT at h
  split at h
  · rename_i hu
    simp only [Option.map_eq_some_iff] at h
    obtain ⟨i, hi, rfl⟩ := h
    exact ⟨by simp [isAgg, run_underlying hu], by simp [sizeOf, typeInfo, hi]⟩
  · rename_i hu
    simp only [Option.map_eq_some_iff] at h
    obtain ⟨i, hi, rfl⟩ := h
    exact ⟨by simp [isAgg, run_underlying hu], by simp [sizeOf, typeInfo, hi]⟩
  · cases h
theorem sliceT_run {P : Program} {t e : TypeId} {n : Nat} (h : sliceT P t = some (e, n)) : P.underlying t = some (.slice e) ∧ ∃ i, P.info? e = some i ∧ i.size = n := by
  unfold sliceT at h
  split at h
  · rename_i hu
    simp only [Option.map_eq_some_iff, Prod.mk.injEq] at h
    obtain ⟨i, hi, rfl, rfl⟩ := h
    exact ⟨hu, i, hi, rfl⟩
  · cases h
theorem arrayT_run {P : Program} {t : TypeId} {m n : Nat} (h : arrayT P t = some (m, n)) : ∃ e, P.underlying t = some (.array m e) ∧ ∃ i, P.info? e = some i ∧ i.size = n := by
  unfold arrayT at h
  split at h
  · rename_i hu
    simp only [Option.map_eq_some_iff, Prod.mk.injEq] at h
    obtain ⟨i, hi, rfl, rfl⟩ := h
    exact ⟨_, hu, i, hi, rfl⟩
  · cases h
theorem intT_run {P : Program} {t : TypeId} {k : IntKind} (h : intT P t = some k) : P.underlying t = some (.int k) := by
  unfold intT at h
  split at h
  · rename_i hu; rw [hu, Option.some.inj h]
  · cases h
theorem isStringT_run {P : Program} {t : TypeId} (h : isStringT P t = true) : P.underlying t = some .string := by
  unfold isStringT at h
  split at h
  · assumption
  · cases h
theorem fieldOff_run {P : Program} {s : TypeId} {f k : Nat} (h : fieldOff P s f = some k) :
    ∃ fs fd i, P.underlying s = some (.struct fs) ∧ fs[f]? = some fd ∧ P.info? fd.type = some i ∧ i.size ≠ 0 ∧ fd.offset = k := by
  unfold fieldOff at h
  split at h
  · rename_i fs hu
    split at h
    · rename_i fd hf
      split at h
      · rename_i i hi
        split at h
        · cases h
        · rename_i h0
          exact ⟨fs, fd, i, hu, hf, hi, h0, Option.some.inj h⟩
      · cases h
    · cases h
  · cases h

/-- Comparisons and sums of whole numbers. -/
def cmpI : BinOp → Int → Int → Option Bool
  | .eql, a, b => some (a == b)
  | .neq, a, b => some (a != b)
  | .lss, a, b => some (decide (a < b))
  | .leq, a, b => some (decide (a ≤ b))
  | .gtr, a, b => some (decide (a > b))
  | .geq, a, b => some (decide (a ≥ b))
  | _, _, _ => none
def arithI : BinOp → IntKind → Int → Int → Option Int
  | .add, k, a, b => some (k.wrap (a + b))
  | .sub, k, a, b => some (k.wrap (a - b))
  | .mul, k, a, b => some (k.wrap (a * b))
  | _, _, _, _ => none
def strI : BinOp → ByteArray → ByteArray → Option Bool
  | .eql, a, b => some (a.toList == b.toList)
  | .neq, a, b => some (!(a.toList == b.toList))
  | .lss, a, b => some (Op.bytesLess a.toList b.toList)
  | _, _, _ => none

/-- The parts of a struct that is built: the cells of zero, the fields' places. -/
def buildT (P : Program) (t : TypeId) : Option (List Value × List (Nat × Nat)) :=
  match P.underlying t, (P.info? t).bind (·.zero) with
  | some (.struct fs), some z => (fs.toList.mapM fun (f : Field) => (P.info? f.type).map fun (i : TypeInfo) => (f.offset, i.size)).map fun ps => (z.cells.toList, ps)
  | _, _ => none
def setAll : List Value → Nat → List Value → List Value
  | cs, _, [] => cs
  | cs, o, v :: r => setAll (cs.set o v) (o + 1) r
def fillL (places : Nat → Option (Nat × Nat)) : List Value → List (Nat × Value) → Option (List Value)
  | cs, [] => some cs
  | cs, (i, v) :: r =>
    match places i with
    | none => none
    | some (off, size) => bif Nat.beq v.cells.size size && Nat.ble (off + v.cells.size) cs.length then fillL places (setAll cs off v.cells.toList) r else none

def noIfaceT (P : Program) (t : TypeId) : Bool := match P.underlying t with | some (.interface _) | none => false | _ => true

inductive MStep (P : Program) (fr : Slots) (H : GHeap) : Op → Value → Prop
  | move {x : Operand} {v : Value} (h : ev fr x = some v) : MStep P fr H (.move x) v
  | assign {x : Operand} {v : Value} (h : ev fr x = some v) : MStep P fr H (.assign x) v
  | pickT {c a b : Operand} {v : Value} (hc : ev fr c = some (.bool true)) (h : ev fr a = some v) : MStep P fr H (.pick c a b) v
  | pickF {c a b : Operand} {v : Value} (hc : ev fr c = some (.bool false)) (h : ev fr b = some v) : MStep P fr H (.pick c a b) v
  | nilCheck {x : Operand} {a : Addr} (h : ev fr x = some (.pointer (some a))) : MStep P fr H (.nilCheck x) (.pointer (some a))
  | fieldAddr {s : TypeId} {x : Operand} {f g o k : Nat} (hk : fieldOff P s f = some k) (h : ev fr x = some (.pointer (some ⟨g, o, none⟩))) : MStep P fr H (.fieldAddr s x f) (.pointer (some ⟨g, o + k, none⟩))
  | load {t : TypeId} {x : Operand} {g o : Nat} {v : Value} (ht : oneT P t = true) (h : ev fr x = some (.pointer (some ⟨g, o, none⟩))) (hc : H.cell g o = some v) : MStep P fr H (.load t x) v
  | loadN {t : TypeId} {x : Operand} {g o n : Nat} {vs : List Value} (ht : aggT P t = some n) (h : ev fr x = some (.pointer (some ⟨g, o, none⟩))) (hn : vs.length = n) (hc : ∀ i v, vs[i]? = some v → H.cell g (o + i) = some v) :
      MStep P fr H (.load t x) (.agg vs.toArray)
  | indexAddr {t e : TypeId} {x i : Operand} {g o n sz : Nat} {k : IntKind} {j : Int} (ht : sliceT P t = some (e, sz)) (h : ev fr x = some (.slice (some ⟨g, o, none⟩) n n)) (hi : ev fr i = some (.int k j)) (h0 : 0 ≤ j) (h1 : j < n) :
      MStep P fr H (.indexAddr t x i) (.pointer (some ⟨g, o + j.toNat * sz, none⟩))
  | indexArr {t : TypeId} {x i : Operand} {g o n sz : Nat} {k : IntKind} {j : Int} (ht : arrayT P t = some (n, sz)) (h : ev fr x = some (.pointer (some ⟨g, o, none⟩))) (hi : ev fr i = some (.int k j)) (h0 : 0 ≤ j) (h1 : j < n) :
      MStep P fr H (.indexAddr t x i) (.pointer (some ⟨g, o + j.toNat * sz, none⟩))
  | indexStr {t : TypeId} {x i : Operand} {s : ByteArray} {k : IntKind} {j : Int} {b : UInt8} (ht : isStringT P t = true) (h : ev fr x = some (.string s)) (hi : ev fr i = some (.int k j)) (h0 : 0 ≤ j) (hb : s[j.toNat]? = some b) :
      MStep P fr H (.index t x i) (.int .u8 b.toNat)
  | len {t e : TypeId} {x : Operand} {a : Option Addr} {n sz : Nat} (ht : sliceT P t = some (e, sz)) (h : ev fr x = some (.slice a n n)) : MStep P fr H (.call { callee := .builtin .len, args := #[x], argTypes := #[t] }) (.int .i64 n)
  | lenStr {t : TypeId} {x : Operand} {s : ByteArray} (ht : isStringT P t = true) (h : ev fr x = some (.string s)) : MStep P fr H (.call { callee := .builtin .len, args := #[x], argTypes := #[t] }) (.int .i64 s.size)
  | cmp {op : BinOp} {t u : TypeId} {x y : Operand} {k : IntKind} {a b : Int} {r : Bool} (hx : ev fr x = some (.int k a)) (hy : ev fr y = some (.int k b)) (hr : cmpI op a b = some r) : MStep P fr H (.binOp op t x y u) (.bool r)
  | arith {op : BinOp} {t u : TypeId} {x y : Operand} {k : IntKind} {a b r : Int} (hx : ev fr x = some (.int k a)) (hy : ev fr y = some (.int k b)) (hr : arithI op k a b = some r) : MStep P fr H (.binOp op t x y u) (.int k r)
  | quo {t u : TypeId} {x y : Operand} {k : IntKind} {a b : Int} (hx : ev fr x = some (.int k a)) (hy : ev fr y = some (.int k b)) (h0 : b ≠ 0) : MStep P fr H (.binOp .quo t x y u) (.int k (k.wrap (a.tdiv b)))
  | rem {t u : TypeId} {x y : Operand} {k : IntKind} {a b : Int} (hx : ev fr x = some (.int k a)) (hy : ev fr y = some (.int k b)) (h0 : b ≠ 0) : MStep P fr H (.binOp .rem t x y u) (.int k (a.tmod b))
  | strCmp {op : BinOp} {t u : TypeId} {x y : Operand} {a b : ByteArray} {r : Bool} (hx : ev fr x = some (.string a)) (hy : ev fr y = some (.string b)) (hr : strI op a b = some r) : MStep P fr H (.binOp op t x y u) (.bool r)
  | strAdd {t u : TypeId} {x y : Operand} {a b : ByteArray} (hx : ev fr x = some (.string a)) (hy : ev fr y = some (.string b)) (hl : a.size + b.size ≤ 9223372036854775807) : MStep P fr H (.binOp .add t x y u) (.string (a ++ b))
  | boolEq {t u : TypeId} {x y : Operand} {a b : Bool} (ht : isBoolT P t = true) (hx : ev fr x = some (.bool a)) (hy : ev fr y = some (.bool b)) : MStep P fr H (.binOp .eql t x y u) (.bool (a == b))
  | boolNe {t u : TypeId} {x y : Operand} {a b : Bool} (ht : isBoolT P t = true) (hx : ev fr x = some (.bool a)) (hy : ev fr y = some (.bool b)) : MStep P fr H (.binOp .neq t x y u) (.bool (!(a == b)))
  | aggEq {t u : TypeId} {x y : Operand} {as bs : Array Value} {r : Bool} (hg : P.eqGuardType P.depth t = false) (hx : ev fr x = some (.agg as)) (hy : ev fr y = some (.agg bs)) (ha : flat (.agg as) = true) (hb : flat (.agg bs) = true)
      (hr : ∀ w, (Op.equal t (.agg as) (.agg bs)).run P w = .ok r w) : MStep P fr H (.binOp .eql t x y u) (.bool r)
  | aggNe {t u : TypeId} {x y : Operand} {as bs : Array Value} {r : Bool} (hg : P.eqGuardType P.depth t = false) (hx : ev fr x = some (.agg as)) (hy : ev fr y = some (.agg bs)) (ha : flat (.agg as) = true) (hb : flat (.agg bs) = true)
      (hr : ∀ w, (Op.equal t (.agg as) (.agg bs)).run P w = .ok r w) : MStep P fr H (.binOp .neq t x y u) (.bool !r)
  | not {t : TypeId} {x : Operand} {b : Bool} (h : ev fr x = some (.bool b)) : MStep P fr H (.unOp .not t x) (.bool !b)
  | neg {t : TypeId} {x : Operand} {k : IntKind} {n : Int} (h : ev fr x = some (.int k n)) : MStep P fr H (.unOp .neg t x) (.int k (k.wrap (0 - n)))
  | conv {s t : TypeId} {x : Operand} {k j : IntKind} {n : Int} (hs : (P.underlying s).isSome = true) (ht : intT P t = some k) (h : ev fr x = some (.int j n)) : MStep P fr H (.convert s t x) (.int k (k.wrap n))
  | build {t : TypeId} {parts : Array (Nat × Operand)} {z : List Value} {ps : List (Nat × Nat)} {vs : List Value} {cs : List Value} (ht : buildT P t = some (z, ps)) (hz : z.all flat1 = true)
      (hv : evs fr (parts.toList.map (·.2)) = some vs) (hc : fillL (ps[·]?) z ((parts.toList.map (·.1)).zip vs) = some cs) : MStep P fr H (.build t parts) (.agg cs.toArray)
  | extract {x : Operand} {ix : Nat} {vs : Array Value} {v : Value} (h : ev fr x = some (.tuple vs)) (hv : vs[ix]? = some v) : MStep P fr H (.extract x ix) v
  | field {t : TypeId} {x : Operand} {f : Nat} {fs : Array Field} {fd : Field} {cs : Array Value} {v : Value} (ht : P.underlying t = some (.struct fs)) (hf : fs[f]? = some fd) (h1 : oneT P fd.type = true) (h : ev fr x = some (.agg cs)) (hv : cs[fd.offset]? = some v) :
      MStep P fr H (.field t x f) v
  | fieldN {t : TypeId} {x : Operand} {f n : Nat} {fs : Array Field} {fd : Field} {cs : Array Value} (ht : P.underlying t = some (.struct fs)) (hf : fs[f]? = some fd) (h1 : aggT P fd.type = some n) (h : ev fr x = some (.agg cs)) :
      MStep P fr H (.field t x f) (.agg (cs.extract fd.offset (fd.offset + n)))
  | slice {t e : TypeId} {x : Operand} {lo hi : Option Operand} {g o n sz l h : Nat} {cs : List Value} (ht : sliceT P t = some (e, sz)) (hx : ev fr x = some (.slice (some ⟨g, o, none⟩) n n)) (hg : H.get g = some (.row cs e true))
      (hlo : match lo with | none => l = 0 | some y => ∃ k, ev fr y = some (.int k l)) (hhi : match hi with | none => h = n | some y => ∃ k, ev fr y = some (.int k h)) (h0 : l ≤ h) (h1 : h ≤ n) :
      MStep P fr H (.slice t x lo hi none) (.slice (some ⟨g, o + l * sz, none⟩) (h - l) (h - l))
  | sliceNil {t e : TypeId} {x : Operand} {lo hi : Option Operand} {sz : Nat} (ht : sliceT P t = some (e, sz)) (hx : ev fr x = some (.slice none 0 0))
      (hlo : match lo with | none => True | some y => ∃ k, ev fr y = some (.int k 0)) (hhi : match hi with | none => True | some y => ∃ k, ev fr y = some (.int k 0)) :
      MStep P fr H (.slice t x lo hi none) (.slice none 0 0)
  | sliceStr {t : TypeId} {x : Operand} {lo hi : Option Operand} {s : ByteArray} {l h : Nat} (ht : isStringT P t = true) (hx : ev fr x = some (.string s))
      (hlo : match lo with | none => l = 0 | some y => ∃ k, ev fr y = some (.int k l)) (hhi : match hi with | none => h = s.size | some y => ∃ k, ev fr y = some (.int k h)) (h0 : l ≤ h) (h1 : h ≤ s.size) :
      MStep P fr H (.slice t x lo hi none) (.string (s.extract l h))
  | sliceTo {t e : TypeId} {x y : Operand} {a : Option Addr} {n sz h : Nat} {k : IntKind} (ht : sliceT P t = some (e, sz)) (hx : ev fr x = some (.slice a n n)) (hy : ev fr y = some (.int k h)) (h1 : h ≤ n) :
      MStep P fr H (.slice t x none (some y) none) (.slice a h h)
  | mkIface {t : TypeId} {x : Operand} {v : Value} (ht : noIfaceT P t = true) (h : ev fr x = some v) : MStep P fr H (.makeInterface t x) (.iface t v)
  | makeFunc {fn : Fn} {captured : Array Operand} {vs : List Value} (h : evs fr captured.toList = some vs) : MStep P fr H (.makeFunc fn #[] captured) (.func fn #[] vs.toArray)
  | max2 {ts : Array TypeId} {x y : Operand} {k : IntKind} {a b : Int} (hx : ev fr x = some (.int k a)) (hy : ev fr y = some (.int k b)) : MStep P fr H (.call { callee := .builtin .max, args := #[x, y], argTypes := ts }) (.int k (max a b))
  | min2 {ts : Array TypeId} {x y : Operand} {k : IntKind} {a b : Int} (hx : ev fr x = some (.int k a)) (hy : ev fr y = some (.int k b)) : MStep P fr H (.call { callee := .builtin .min, args := #[x, y], argTypes := ts }) (.int k (min a b))
  | sliceNilEq {op : BinOp} {t u e : TypeId} {x y : Operand} {a : Option Addr} {n sz : Nat} (ht : sliceT P t = some (e, sz)) (hx : ev fr x = some (.slice a n n)) (hy : ev fr y = some (.slice none 0 0)) (hop : op = .eql ∨ op = .neq) :
      MStep P fr H (.binOp op t x y u) (.bool (match op with | .neq => a.isSome | _ => a.isNone))

end Go.GL
