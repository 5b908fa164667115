/- Operations that say neither 'disable' nor 'enable': a property of their text, not of their run. No condition. -/
import Derived.Conc.Beside
import Derived.Conc.CompanyDraw
import Derived.Conc.Own5
import Derived.OrdersIn
import Derived.Scope
import Derived.Deep.AppendSrc
import Derived.Deep.Draws
import Derived.TacticsIn
set_option linter.unusedSectionVars false
namespace Go.GL
open Go.RowKit Go.Conc

def calmE (e : Event) : Prop := e.loc ≠ .mark .disable ∧ e.loc ≠ .mark .enable
def CalmA (es : Array Event) : Prop := ∀ e ∈ es, calmE e
theorem calmA_nil : CalmA #[] := fun e h => by simp at h
theorem CalmA.push {es : Array Event} {e : Event} (h : CalmA es) (he : calmE e) : CalmA (es.push e) := fun x hx => (Array.mem_push.1 hx).elim (h x) fun h => h ▸ he
theorem CalmA.cells {es : Array Event} {l : List Addr} {wr sy : Bool} (h : CalmA es) : CalmA (es ++ l.toArray.map (⟨.cell ·, wr, sy⟩)) := fun x hx => (Array.mem_append.1 hx).elim (h x) fun h => by
  obtain ⟨a, _, rfl⟩ := Array.mem_map.1 h
  exact ⟨by simp, by simp⟩

def Calm (P : Program) {α : Type} : Sem α → Prop
  | .pure _ => True
  | .load _ _ k => ∀ v, Calm P (k v)
  | .store _ _ _ k => Calm P k
  | .new _ k => ∀ r, Calm P (k r)
  | .shape _ k => ∀ s, Calm P (k s)
  | .freeze _ _ k => Calm P k
  | .frozen _ k => ∀ b, Calm P (k b)
  | .getObj _ k => ∀ o, Calm P (k o)
  | .setObj _ _ k => Calm P k
  | .choose _ k => ∀ n, Calm P (k n)
  | .sys _ k => ∀ r, Calm P (k r)
  | .program k => Calm P (k P)
  | .mark m k => (m ≠ .disable ∧ m ≠ .enable) ∧ Calm P k
  | .halt _ => True

theorem Calm.events {P : Program} {α : Type} : ∀ (x : Sem α) (w : World) (es : Array Event), Calm P x → CalmA es → CalmA (x.events P w es) := by
  intro x
  unfold Sem.events
  induction x with
  | pure a => intro w es h he; simpa [Sem.runT, -Sem.runT_eq] using he
  | load m a k ih =>
    intro w es h he
    simp only [Sem.runT]
    split
    · exact ih _ _ _ (h _) (he.push ⟨by simp, by simp⟩)
    · split
      · exact ih _ _ _ (h _) he.cells
      · exact he
  | store m a v k ih =>
    intro w es h he
    have key : ∀ v : Value, v.oneCell' = true → CalmA ((Sem.store m a v k).runT P w es).2 := by
      intro v hv
      cases v <;> first
        | (simp [Value.oneCell'] at hv; done)
        | (simp only [Sem.runT]
           split
           · split
             · exact he
             · exact ih _ _ h (he.push ⟨by simp, by simp⟩)
           · split
             · exact ih _ _ h he.cells
             · exact he)
    cases hv : v.oneCell' with
    | true => exact key v hv
    | false => cases v <;> first | (simp only [Sem.runT]; exact he) | (simp [Value.oneCell'] at hv; done)
  | new o k ih => intro w es h he; exact ih _ _ _ (h _) he
  | shape r k ih => intro w es h he; exact ih _ _ _ (h _) he
  | freeze a n k ih => intro w es h he; exact ih _ _ h he
  | frozen a k ih => intro w es h he; exact ih _ _ _ (h _) he
  | getObj r k ih =>
    intro w es h he
    simp only [Sem.runT]
    split
    · exact he
    · exact ih _ _ _ (h _) (he.push ⟨by simp, by simp⟩)
    · exact he
  | setObj r o k ih =>
    intro w es h he
    simp only [Sem.runT]
    split
    · exact he
    · exact ih _ _ h (he.push ⟨by simp, by simp⟩)
    · exact he
  | choose q k ih => intro w es h he; simp only [Sem.runT]; split <;> exact ih _ _ _ (h _) he
  | sys c k ih => intro w es h he; exact ih _ _ _ (h _) (he.push ⟨by simp, by simp⟩)
  | program k ih => intro w es h he; exact ih _ _ _ h he
  | mark m k ih => intro w es h he; exact ih _ _ h.2 (he.push ⟨by simp [h.1.1], by simp [h.1.2]⟩)
  | halt h => intro w es _ he; exact he

section
variable {P : Program} {α β : Type}
theorem Calm.pure {a : α} : Calm P (Pure.pure a : Sem α) := trivial
theorem Calm.bind' : ∀ {x : Sem α} {f : α → Sem β}, Calm P x → (∀ a, Calm P (f a)) → Calm P (x.bind f) := by
  intro x f
  induction x with
  | pure a => intro _ h; exact h a
  | load m a k ih => intro hx h v; exact ih v (hx v) h
  | store m a v k ih => intro hx h; exact ih hx h
  | new o k ih => intro hx h v; exact ih v (hx v) h
  | shape r k ih => intro hx h v; exact ih v (hx v) h
  | freeze a n k ih => intro hx h; exact ih hx h
  | frozen a k ih => intro hx h v; exact ih v (hx v) h
  | getObj r k ih => intro hx h v; exact ih v (hx v) h
  | setObj r o k ih => intro hx h; exact ih hx h
  | choose q k ih => intro hx h v; exact ih v (hx v) h
  | sys c k ih => intro hx h v; exact ih v (hx v) h
  | program k ih => intro hx h; exact ih _ hx h
  | mark m k ih => intro hx h; exact ⟨hx.1, ih hx.2 h⟩
  | halt h => intro _ _; trivial
theorem Calm.bind {x : Sem α} {f : α → Sem β} (hx : Calm P x) (h : ∀ a, Calm P (f a)) : Calm P (x >>= f) := Calm.bind' hx h
theorem Calm.map {x : Sem α} {f : α → β} (hx : Calm P x) : Calm P (Functor.map f x) := Calm.bind' (f := fun a => .pure (f a)) hx fun _ => trivial
theorem Calm.load {a : Addr} {m : Mode} : Calm P (Go.load a m) := fun _ => trivial
theorem Calm.store {a : Addr} {v : Value} {m : Mode} : Calm P (Go.store a v m) := trivial
theorem Calm.newObj {o : Obj} : Calm P (Go.newObj o) := fun _ => trivial
theorem Calm.shape {r : Nat} : Calm P (Go.shape r) := fun _ => trivial
theorem Calm.frozen {a : Addr} : Calm P (Go.frozen a) := fun _ => trivial
theorem Calm.getObj {r : Nat} : Calm P (Go.getObj r) := fun _ => trivial
theorem Calm.choose {q : Question} : Calm P (Go.choose q) := fun _ => trivial
theorem Calm.program : Calm P Go.program := trivial
theorem Calm.noRoom : Calm P (Go.mark .noRoom) := ⟨⟨by simp, by simp⟩, trivial⟩
theorem Calm.stuck {s : String} : Calm P (Go.stuck s : Sem α) := trivial
theorem Calm.unsupported {s : Unsupported} : Calm P (Go.unsupported s : Sem α) := trivial
theorem Calm.goPanic {v : Value} : Calm P (Go.goPanic v : Sem α) := trivial
theorem Calm.ite {c : Prop} [Decidable c] {x y : Sem α} (hx : Calm P x) (hy : Calm P y) : Calm P (if c then x else y) := by split <;> assumption
end


section
variable {P : Program}
theorem calm_typeInfo {t : TypeId} : Calm P (typeInfo t) := by unfold typeInfo; (repeat' (first | (with_reducible first | exact Calm.pure | exact Calm.program | exact Calm.stuck | refine Calm.bind ?_ ?_) | (intro _) | (split) | (dsimp only)))
theorem calm_underlying {t : TypeId} : Calm P (underlying t) := by unfold underlying; (repeat' (first | (with_reducible first | exact Calm.pure | exact Calm.program | exact Calm.stuck | refine Calm.bind ?_ ?_) | (intro _) | (split) | (dsimp only)))
theorem calm_zeroValue {t : TypeId} : Calm P (zeroValue t) := by unfold zeroValue; (repeat' (first | (with_reducible first | exact calm_typeInfo | exact Calm.pure | exact Calm.unsupported | refine Calm.bind ?_ ?_) | (intro _) | (split) | (dsimp only)))
theorem calm_sizeOf {t : TypeId} : Calm P (sizeOf t) := by unfold sizeOf; (repeat' (first | (with_reducible first | exact calm_typeInfo | exact Calm.pure | refine Calm.bind ?_ ?_) | (intro _) | (split) | (dsimp only)))
theorem calm_isAgg {t : TypeId} : Calm P (isAgg t) := by unfold isAgg; (repeat' (first | (with_reducible first | exact calm_underlying | exact Calm.pure | refine Calm.bind ?_ ?_) | (intro _) | (split) | (dsimp only)))
theorem calm_askRoom {n : Nat} : Calm P (askRoom n) := by unfold askRoom; (repeat' (first | (with_reducible first | exact Calm.pure | exact Calm.noRoom | refine Calm.ite ?_ ?_) | (intro _) | (split) | (dsimp only)))
theorem calm_newRow {e : TypeId} {c : Array Value} : Calm P (newRow e c) := by unfold newRow; (repeat' (first | (with_reducible first | exact Calm.pure | exact Calm.newObj | refine Calm.bind ?_ ?_) | (intro _) | (split) | (dsimp only)))
theorem calm_newVar {e : TypeId} {v : Value} : Calm P (newVar e v) := by unfold newVar; (repeat' (first | (with_reducible first | exact calm_newRow) | (intro _) | (split) | (dsimp only)))
theorem calm_loadCellsFrom {a : Addr} : ∀ {n i : Nat} {acc : Array Value}, Calm P (loadCellsFrom a i n acc)
  | 0, _, _ => Calm.pure
  | _ + 1, _, _ => Calm.bind Calm.load fun _ => calm_loadCellsFrom
theorem calm_loadCells {a : Addr} {n : Nat} : Calm P (loadCells a n) := calm_loadCellsFrom
theorem calm_storeCells {a : Addr} : ∀ {vs : List Value} {i : Nat}, Calm P (storeCells a vs i)
  | [], _ => Calm.pure
  | _ :: _, _ => Calm.bind Calm.store fun _ => calm_storeCells
theorem calm_loadVar {t : TypeId} {a : Addr} : Calm P (loadVar t a) := by unfold loadVar; (repeat' (first | (with_reducible first | exact calm_loadCells | exact calm_sizeOf | exact calm_isAgg | exact Calm.pure | exact Calm.load | refine Calm.bind ?_ ?_ | refine Calm.ite ?_ ?_) | (intro _) | (split) | (dsimp only)))
theorem calm_storeVar {t : TypeId} {a : Addr} {v : Value} : Calm P (storeVar t a v) := by unfold storeVar; (repeat' (first | (with_reducible first | exact calm_storeCells | exact calm_sizeOf | exact Calm.stuck | refine Calm.bind ?_ ?_ | refine Calm.ite ?_ ?_) | (intro _) | (split) | (dsimp only)))
theorem calm_elemOf {t : TypeId} : Calm P (elemOf t) := by unfold elemOf; (repeat' (first | (with_reducible first | exact calm_underlying | exact Calm.pure | exact Calm.stuck | refine Calm.bind ?_ ?_) | (intro _) | (split) | (dsimp only)))
theorem calm_runtimePanic {α : Type} {e : RuntimeError} : Calm P (runtimePanic e : Sem α) := by unfold runtimePanic; (repeat' (first | (with_reducible first | exact calm_elemOf | exact calm_newVar | exact Calm.program | exact Calm.goPanic | refine Calm.bind ?_ ?_) | (intro _) | (split) | (dsimp only)))
theorem calm_boundsPanic {α : Type} {k : IntKind} {x y : Int} {c : BoundsCode} : Calm P (boundsPanic k x y c : Sem α) := by unfold boundsPanic; (repeat' (first | (with_reducible first | exact calm_runtimePanic | exact Calm.pure | exact Calm.choose | refine Calm.bind ?_ ?_ | refine Calm.map ?_ | refine Calm.ite ?_ ?_) | (intro _) | (split) | (dsimp only)))
theorem calm_asIntOf {v : Value} : Calm P (asIntOf v) := by unfold asIntOf; (repeat' (first | (with_reducible first | exact Calm.pure | exact Calm.stuck | exact Calm.unsupported) | (intro _) | (split) | (dsimp only)))
theorem calm_asBool {v : Value} : Calm P (asBool v) := by unfold asBool; (repeat' (first | (with_reducible first | exact Calm.pure | exact Calm.stuck) | (intro _) | (split) | (dsimp only)))
theorem calm_asAddr {v : Value} : Calm P (asAddr v) := by unfold asAddr; (repeat' (first | (with_reducible first | exact calm_runtimePanic | exact Calm.pure | exact Calm.stuck) | (intro _) | (split) | (dsimp only)))
theorem calm_sureAddr {v : Value} : Calm P (Instr.sureAddr v) := by unfold Instr.sureAddr; (repeat' (first | (with_reducible first | exact Calm.pure | exact Calm.stuck) | (intro _) | (split) | (dsimp only)))
theorem calm_asInt {v : Value} : Calm P (asInt v) := by unfold asInt; (repeat' (first | (with_reducible first | exact calm_asIntOf | exact Calm.pure | refine Calm.bind ?_ ?_) | (intro _) | (split) | (dsimp only)))
theorem calm_alloc {e : TypeId} {b : Bool} {v : Value} : Calm P (Instr.alloc e b v) := by unfold Instr.alloc; (repeat' (first | (with_reducible first | exact calm_storeVar | exact calm_newVar | exact calm_zeroValue | exact Calm.pure | refine Calm.bind ?_ ?_) | (intro _) | (split) | (dsimp only)))
theorem calm_box {e : TypeId} {v : Value} : Calm P (Instr.box e v) := by unfold Instr.box; (repeat' (first | (with_reducible first | exact calm_newVar | exact Calm.pure | refine Calm.bind ?_ ?_) | (intro _) | (split) | (dsimp only)))
theorem calm_buildSlice {t : TypeId} {n : Nat} {ps : Array (Nat × Value)} : Calm P (Instr.buildSlice t n ps) := by unfold Instr.buildSlice; (repeat' (first | (with_reducible first | exact calm_zeroValue | exact calm_sizeOf | exact calm_newRow | exact calm_underlying | exact Calm.pure | exact Calm.stuck | exact Calm.unsupported | refine Calm.bind ?_ ?_ | refine Calm.ite ?_ ?_) | (intro _) | (split) | (dsimp only)))
theorem calm_loadAt {t : TypeId} {v : Value} : Calm P (Instr.loadAt t v) := by unfold Instr.loadAt; (repeat' (first | (with_reducible first | exact calm_sureAddr | exact calm_loadVar | refine Calm.bind ?_ ?_) | (intro _) | (split) | (dsimp only)))
theorem calm_storeAt {t : TypeId} {v x : Value} : Calm P (Instr.storeAt t v x) := by unfold Instr.storeAt; (repeat' (first | (with_reducible first | exact calm_sureAddr | exact calm_storeVar | refine Calm.bind ?_ ?_) | (intro _) | (split) | (dsimp only)))
theorem calm_makeSlice {t : TypeId} {v x : Value} : Calm P (Instr.makeSlice t v x) := by unfold Instr.makeSlice; (repeat' (first | (with_reducible first | exact calm_asInt | exact calm_runtimePanic | exact calm_zeroValue | exact calm_sizeOf | exact calm_askRoom | exact calm_newRow | exact calm_typeInfo | exact calm_underlying | exact Calm.pure | exact Calm.choose | exact Calm.stuck | refine Calm.bind ?_ ?_ | refine Calm.ite ?_ ?_) | (intro _) | (split) | (dsimp only)))
theorem calm_makeChan {t : TypeId} {v : Value} : Calm P (Instr.makeChan t v) := by unfold Instr.makeChan; (repeat' (first | (with_reducible first | exact calm_asInt | exact calm_runtimePanic | exact calm_typeInfo | exact calm_underlying | exact Calm.pure | exact Calm.newObj | exact Calm.stuck | refine Calm.bind ?_ ?_ | refine Calm.ite ?_ ?_) | (intro _) | (split) | (dsimp only)))
theorem calm_indexAt {t : TypeId} {v x : Value} : Calm P (Instr.indexAt t v x) := by unfold Instr.indexAt; (repeat' (first | (with_reducible first | exact calm_boundsPanic | exact calm_asIntOf | exact calm_sureAddr | exact calm_sizeOf | exact calm_underlying | exact Calm.pure | exact Calm.stuck | exact Calm.unsupported | refine Calm.bind ?_ ?_ | refine Calm.ite ?_ ?_) | (intro _) | (split) | (dsimp only)))
theorem calm_extract {v : Value} {n : Nat} : Calm P (Instr.extract v n) := by unfold Instr.extract; (repeat' (first | (with_reducible first | exact Calm.pure | exact Calm.stuck) | (intro _) | (split) | (dsimp only)))
theorem calm_len {ts : Array TypeId} {t : TypeId} {a : Array Value} : Calm P (Builtin.len_ ts t a) := by unfold Builtin.len_; (repeat' (first | (with_reducible first | exact calm_underlying | exact Calm.pure | exact Calm.getObj | exact Calm.stuck | refine Calm.bind ?_ ?_) | (intro _) | (split) | (dsimp only)))
theorem calm_holdsCells {a : Addr} {n : Nat} : Calm P (Builtin.holdsCells a n) := by unfold Builtin.holdsCells; (repeat' (first | (with_reducible first | exact Calm.pure | exact Calm.shape | refine Calm.bind ?_ ?_) | (intro _) | (split) | (dsimp only)))
theorem calm_lenOf {v : Value} : Calm P (Builtin.lenOf v) := by unfold Builtin.lenOf; (repeat' (first | (with_reducible first | exact Calm.pure | exact Calm.stuck) | (intro _) | (split) | (dsimp only)))
theorem calm_firstCells {s n : Nat} {v : Value} : Calm P (Builtin.firstCells s n v) := by unfold Builtin.firstCells; (repeat' (first | (with_reducible first | exact calm_loadCells | exact Calm.pure | exact Calm.stuck) | (intro _) | (split) | (dsimp only)))
theorem calm_mayShare {s l n : Nat} {b : Option Addr} {v : Value} : Calm P (Builtin.mayShare s l n b v) := by unfold Builtin.mayShare; (repeat' (first | (with_reducible first | exact calm_holdsCells | exact Calm.pure | exact Calm.frozen | refine Calm.bind ?_ ?_ | refine Calm.ite ?_ ?_) | (intro _) | (split) | (dsimp only)))
set_option maxHeartbeats 4000000 in
theorem calm_append {ts : Array TypeId} {t : TypeId} {a : Array Value} : Calm P (Builtin.append_ ts t a) := by unfold Builtin.append_; (repeat' (first | (with_reducible first | exact calm_mayShare | exact calm_lenOf | exact calm_firstCells | exact calm_asInt | exact calm_runtimePanic | exact calm_storeCells | exact calm_zeroValue | exact calm_sizeOf | exact calm_askRoom | exact calm_newRow | exact calm_typeInfo | exact calm_underlying | exact Calm.pure | exact Calm.choose | exact Calm.noRoom | exact Calm.stuck | exact Calm.unsupported | refine Calm.bind ?_ ?_ | refine Calm.ite ?_ ?_) | (intro _) | (split) | (dsimp only)))
theorem calm_unary {op : UnOp} {v : Value} : Calm P (Op.unary op v) := by unfold Op.unary; unfold Op.intArith; unfold Op.intBits; (repeat' (first | (with_reducible first | exact Calm.pure | exact Calm.stuck | exact Calm.unsupported) | (intro _) | (split) | (dsimp only)))
end
end Go.GL
