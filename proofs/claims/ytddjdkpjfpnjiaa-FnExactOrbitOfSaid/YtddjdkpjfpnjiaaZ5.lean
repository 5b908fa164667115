/- Maps from numbers to numbers: lookups in the model. No condition. -/
import Derived.Test.YtddjdkpjfpnjiaaZ4
import Derived.MapKept
import Derived.Laws.BytesString
import Derived.Deep.AppendSrc
import Derived.Deep.Draws
import Derived.OrdersIn
import Derived.TacticsIn
import Derived.Scope
set_option linter.unusedSectionVars false
namespace Go.GL
open Go.RowKit
section
variable {P : Program} {B : Nat} {w0 : World} {ρ : Place} {H : GHeap} {w : World} {fr : Slots} {o : Oper} {R : Option Value → GHeap → Prop}
end
end Go.GL
namespace Go.GL
open Go.RowKit

section
variable {P : Program} {B : Nat} {w0 : World} {ρ : Place} {H : GHeap} {w : World} {fr : Slots} {a : Act}

theorem eqGuard_flat (op : BinOp) (t : TypeId) (x y : Operand) (u v : Value) (h1 : ¬ (u = .nilIface ∧ v = .nilIface)) (h2 : ∀ as bs, u = .agg as → v = .agg bs → P.eqGuardType P.depth t = false) :
    (eqGuard op t x y u v).run P w = .ok () w := by
  unfold eqGuard
  cases op <;> first | rfl | skip
  all_goals
    simp only [Bool.not_true, Bool.false_eq_true, if_false]
    split
    · exact absurd ⟨rfl, rfl⟩ h1
    · rename_i as bs
      simp only [Sem.run_bind, program, Sem.run, Result.andThen_ok, h2 as bs rfl rfl]
      rfl
    · rfl

theorem bin_run (o : Oper) {op : BinOp} {t u : TypeId} {x y : Operand} (ho : o.op = .binOp op t x y u) {r : Value}
    (hg : (eqGuard op t x y (a.eval x) (a.eval y)).run P w = .ok () w) (hr : (binOp op t (a.eval x) (a.eval y)).run P w = .ok r w) : (execOp a.eval o).run P w = .ok (.value r) w := by
  unfold execOp
  simp only [ho, Sem.run_bind, hg, hr, Result.andThen_ok, Sem.run_pure]

theorem v_run {s : Sem Value} {r : Value} (h : s.run P w = .ok r w) : ((do pure (Next.value (← s))) : Sem Next).run P w = .ok (.value r) w := by
  simp only [Sem.run_bind, h, Result.andThen_ok, Sem.run_pure]

theorem sizeOf_run {P : Program} {t : TypeId} {i : TypeInfo} (h : P.info? t = some i) (w : World) : (sizeOf t).run P w = .ok i.size w := by
  simp only [sizeOf, typeInfo, Sem.run_bind, program, Sem.run, h, Sem.run_pure, Result.andThen_ok]

theorem mapM_buildT {P : Program} : ∀ (fs : List Field) (ps : List (Nat × Nat)) (w : World), (fs.mapM fun (f : Field) => (P.info? f.type).map fun (i : TypeInfo) => (f.offset, i.size)) = some ps →
    (fs.mapM (fun (f : Field) => (do pure (f.offset, ← sizeOf f.type) : Sem (Nat × Nat)))).run P w = .ok ps w
  | [], ps, w, h => by
    simp only [List.mapM_nil] at h
    cases h
    rfl
  | f :: fs, ps, w, h => by
    simp only [List.mapM_cons] at h
    cases hi : P.info? f.type with
    | none => rw [hi] at h; cases h
    | some i =>
      rw [hi] at h
      cases hr : (fs.mapM fun (f : Field) => (P.info? f.type).map fun (i : TypeInfo) => (f.offset, i.size)) with
      | none => rw [hr] at h; cases h
      | some qs =>
        rw [hr] at h
        cases h
        have ih := mapM_buildT fs qs w hr
        simp only [List.mapM_cons, Sem.run_bind, sizeOf_run hi, Sem.run_pure, Result.andThen_ok, ih]

set_option maxHeartbeats 1000000 in
theorem MStep.sound {op : Op} {v : Value} (hm : MStep P fr H op v) (hf : ∀ t u, Operand.tmp t ∈ op.operands → fr.get t = some u → VRel ρ u (a.eval (.tmp t))) (hs : Sim P B w0 ρ H w) (o : Oper) (ho : o.op = op) :
    ∃ c, (execOp a.eval o).run P w = .ok (.value c) w ∧ VRel ρ v c := by
  cases hm with
  | move h =>
    rename_i x
    exact ⟨_, by unfold execOp; simp only [ho]; rfl, ev_rel hf (by simp [Op.operands]) h⟩
  | assign h =>
    rename_i x
    exact ⟨_, by unfold execOp; simp only [ho]; rfl, ev_rel hf (by simp [Op.operands]) h⟩
  | pickT hc h =>
    rename_i c x y
    have e := (ev_rel hf (x := c) (by simp [Op.operands]) hc).bool_inv
    exact ⟨_, by unfold execOp; simp only [ho, e]; rfl, ev_rel hf (by simp [Op.operands]) h⟩
  | pickF hc h =>
    rename_i c x y
    have e := (ev_rel hf (x := c) (by simp [Op.operands]) hc).bool_inv
    exact ⟨_, by unfold execOp; simp only [ho, e]; rfl, ev_rel hf (by simp [Op.operands]) h⟩
  | nilCheck h =>
    rename_i x p
    have hr := ev_rel hf (x := x) (by simp [Op.operands]) h
    obtain ⟨b, hb⟩ := hr.ptr_some
    rw [hb] at hr
    exact ⟨_, by unfold execOp; simp only [ho, hb]; rfl, hr⟩
  | fieldAddr hk h =>
    rename_i s x f g off k
    obtain ⟨sp, hg, hb⟩ := (ev_rel hf (x := x) (by simp [Op.operands]) h).ptr_inv
    obtain ⟨fs, fd, i, hu, hfd, hi, hne, rfl⟩ := fieldOff_run hk
    refine ⟨.pointer (some ⟨sp.blk, sp.base + off + fd.offset, none⟩), ?_, ?_⟩
    · unfold execOp
      simp only [ho, hb]
      refine v_run ?_
      simp [Instr.fieldAt, run_underlying hu, hfd, Instr.sureAddr, fieldPlace, sizeOf, typeInfo, hi, hne, add_mk]
    · rw [Nat.add_assoc]; exact .ptr hg
  | load ht h hc =>
    rename_i t x g off
    obtain ⟨sp, hg, hb⟩ := (ev_rel hf (x := x) (by simp [Op.operands]) h).ptr_inv
    obtain ⟨c, hcell, hr⟩ := hs.cell hg hc
    refine ⟨c, ?_, hr⟩
    unfold execOp
    simp only [ho, hb]
    refine v_run ?_
    simp only [Instr.loadAt, Instr.sureAddr, loadVar, Sem.run_bind, Sem.run_pure, oneT_run ht, Result.andThen_ok, Bool.false_eq_true, if_false, Go.load, Sem.run, hcell]
  | loadN ht h hn hc =>
    rename_i t x g off n vs
    obtain ⟨sp, hg, hb⟩ := (ev_rel hf (x := x) (by simp [Op.operands]) h).ptr_inv
    have hex : ∃ cs : List Value, LRel ρ vs cs ∧ ∀ j c, cs[j]? = some c → w.cell? ⟨sp.blk, sp.base + off + j, none⟩ = some c := by
      have key : ∀ (vs : List Value) (off : Nat), (∀ i v, vs[i]? = some v → H.cell g (off + i) = some v) → ∃ cs : List Value, LRel ρ vs cs ∧ ∀ (j : Nat) (c : Value), cs[j]? = some c → w.cell? ⟨sp.blk, sp.base + off + j, none⟩ = some c := by
        intro vs
        induction vs with
        | nil => exact fun off _ => ⟨[], .nil ρ, fun j c hj => by simp at hj⟩
        | cons v vs ih =>
          intro off hc
          obtain ⟨cs, h1, h2⟩ := ih (off + 1) (fun i v hv => by rw [show off + 1 + i = off + (i + 1) by omega]; exact hc (i + 1) v (by simpa using hv))
          obtain ⟨c, hcell, hr⟩ := hs.cell hg (hc 0 v rfl)
          refine ⟨c :: cs, .cons hr h1, fun j c' hj => ?_⟩
          cases j with
          | zero => simp at hj; subst hj; exact hcell
          | succ j => rw [show sp.base + off + (j + 1) = sp.base + (off + 1) + j by omega]; exact h2 j c' (by simpa using hj)
      exact key vs off hc
    obtain ⟨cs, hrel, hcells⟩ := hex
    refine ⟨.agg cs.toArray, ?_, .agg_of hrel⟩
    unfold execOp
    simp only [ho, hb]
    refine v_run ?_
    obtain ⟨ha, hsz⟩ := aggT_run ht w
    have hl := loadCellsFrom_run (P := P) (w := w) ⟨sp.blk, sp.base + off, none⟩ n 0 #[] cs (by rw [← hrel.1, hn]) (fun j c hj => by rw [add_mk, Nat.zero_add]; exact hcells j c hj)
    simp only [Instr.loadAt, Instr.sureAddr, loadVar, Sem.run_bind, Sem.run_pure, ha, hsz, Result.andThen_ok, if_true, loadCells, hl]
    simp
  | indexAddr ht h hi h0 h1 =>
    rename_i t e x i g off n sz k j
    obtain ⟨hu, inf, hinf, hsz⟩ := sliceT_run ht
    have hei := (ev_rel hf (x := i) (by simp [Op.operands]) hi).int_inv
    obtain ⟨_, sp, hg, hb⟩ := (ev_rel hf (x := x) (by simp [Op.operands]) h).slice_inv
    rcases hb with ⟨cap, hb, _⟩ | ⟨hn, _⟩
    · refine ⟨.pointer (some ⟨sp.blk, sp.base + (off + j.toNat * sz), none⟩), ?_, .ptr hg⟩
      unfold execOp
      simp only [ho, hb, hei]
      refine v_run ?_
      simp only [Instr.indexAt, asIntOf, Sem.run_bind, Sem.run_pure, run_underlying hu, Result.andThen_ok]
      rw [if_pos ⟨h0, h1⟩]
      simp only [sizeOf, typeInfo, Sem.run_bind, program, Sem.run, hinf, Result.andThen_ok, Sem.run_pure, hsz, add_mk, Nat.add_assoc]
    · omega
  | len ht h =>
    rename_i t e x p n sz
    obtain ⟨hu, _⟩ := sliceT_run ht
    obtain ⟨_, a', cap, hb, _⟩ := (ev_rel hf (x := x) (by simp [Op.operands, Call.operands]) h).slice_len
    refine ⟨.int .i64 n, ?_, .int _ _⟩
    unfold execOp
    simp only [ho, resolve, invoke, builtin, Sem.run_bind, Sem.run_pure, Result.andThen_ok, List.map_toArray, List.map_cons, List.map_nil, hb]
    simp [Builtin.len_, run_underlying hu, goInt]
  | cmp hx hy hr =>
    rename_i op t u x y k m n r
    have ex := (ev_rel hf (x := x) (by simp [Op.operands]) hx).int_inv
    have ey := (ev_rel hf (x := y) (by simp [Op.operands]) hy).int_inv
    refine ⟨.bool r, bin_run o ho (by rw [ex, ey]; exact eqGuard_flat _ _ _ _ _ _ (by simp) (by simp)) ?_, .bool _⟩
    rw [ex, ey]
    cases op <;> simp only [cmpI, Option.some.injEq, reduceCtorEq] at hr <;> subst hr <;> simp [binOp, Op.intCmp]
  | arith hx hy hr =>
    rename_i op t u x y k m n r
    have ex := (ev_rel hf (x := x) (by simp [Op.operands]) hx).int_inv
    have ey := (ev_rel hf (x := y) (by simp [Op.operands]) hy).int_inv
    refine ⟨.int k r, bin_run o ho (by rw [ex, ey]; exact eqGuard_flat _ _ _ _ _ _ (by simp) (by simp)) ?_, .int _ _⟩
    rw [ex, ey]
    cases op <;> simp only [arithI, Option.some.injEq, reduceCtorEq] at hr <;> subst hr <;> simp [binOp, Op.intArith]
  | aggNe hg hx hy ha hb hr =>
    rename_i t u x y as bs r
    have ex := flat_agg_eq (ev_rel hf (x := x) (by simp [Op.operands]) hx) ha
    have ey := flat_agg_eq (ev_rel hf (x := y) (by simp [Op.operands]) hy) hb
    refine ⟨_, bin_run o ho (by rw [ex, ey]; exact eqGuard_flat _ _ _ _ _ _ (by simp) (fun _ _ _ _ => hg)) ?_, .bool _⟩
    rw [ex, ey]
    simp [binOp, hr w]
  | not h =>
    rename_i t x b
    have ex := (ev_rel hf (x := x) (by simp [Op.operands]) h).bool_inv
    refine ⟨.bool !b, ?_, .bool _⟩
    unfold execOp
    simp only [ho, ex]
    exact v_run (by simp [Op.unary])
  | build ht hz hv hc =>
    rename_i t parts z ps vs cs
    have hrel := evs_rel (xs := parts.toList.map (·.2)) hf (fun x hx => by simp only [Op.operands]; simpa using hx) hv
    unfold buildT at ht
    split at ht
    · rename_i fs zv hu hzv
      simp only [Option.map_eq_some_iff, Prod.mk.injEq] at ht
      obtain ⟨ps', hps, rfl, rfl⟩ := ht
      simp only [Option.bind_eq_some_iff] at hzv
      obtain ⟨inf, hinf, hz0⟩ := hzv
      have hzrel : LRel ρ zv.cells.toList zv.cells.toList := ⟨rfl, fun i p q hp hq => by
        rw [hp] at hq
        cases hq
        exact .flat1 (List.all_eq_true.1 hz _ (List.mem_of_getElem? hp))⟩
      obtain ⟨ds, hfill, hdr⟩ := fill_rel (ps'[·]?) (parts.toList.map (·.1)) hrel hzrel hc
      refine ⟨.agg ds.toArray, ?_, .agg_of hdr⟩
      unfold execOp
      simp only [ho]
      refine v_run ?_
      have hM := mapM_buildT fs.toList ps' w hps
      have hpl : (parts.map fun (i, x) => (i, a.eval x)).toList = (parts.toList.map (·.1)).zip ((parts.toList.map (·.2)).map a.eval) := by
        simp [List.zip_map', Function.comp_def]
      unfold Instr.build
      simp only [zeroValue, typeInfo, Sem.run_bind, program, Sem.run, hinf, hz0, run_underlying hu, Result.andThen_ok, Sem.run_pure]
      rw [← Array.toArray_toList (xs := fs)]
      simp only [List.mapM_toArray, Sem.run_map, hM, Result.andThen_ok]
      have hfill' : Instr.fill (fun i => ps'.toArray[i]?) zv.cells (parts.map fun (i, x) => (i, a.eval x)).toList = some ds.toArray := by
        rw [hpl]
        simpa using hfill
      rw [hfill']
      rfl
    · cases ht
  | extract h hv =>
    rename_i x ix vs
    obtain ⟨ds, hd, hr⟩ := (ev_rel hf (x := x) (by simp [Op.operands]) h).tuple_inv
    obtain ⟨c, hc, hvr⟩ := hr.get (i := ix) (by simpa using hv)
    refine ⟨c, ?_, hvr⟩
    unfold execOp
    simp only [ho, hd]
    refine v_run ?_
    simp only [Array.getElem?_toList] at hc
    simp only [Instr.extract, hc]
    rfl
end
end Go.GL
namespace Go.GL
open Go.RowKit Go.Conc

section
variable {P : Program}

theorem calm_forInL {α β : Type} {f : α → β → Sem (ForInStep β)} (hf : ∀ x b, Calm P (f x b)) : ∀ (l : List α) (b : β), Calm P (forIn l b f)
  | [], b => Calm.pure
  | x :: l, b => by
    rw [List.forIn_cons]
    refine Calm.bind (hf x b) fun r => ?_
    cases r with
    | done b => exact Calm.pure
    | yield b => exact calm_forInL hf l b
theorem calm_forIn {α β : Type} {f : α → β → Sem (ForInStep β)} (hf : ∀ x b, Calm P (f x b)) (xs : Array α) (b : β) : Calm P (forIn xs b f) := by
  rw [← Array.forIn_toList]
  exact calm_forInL hf _ b
theorem calm_forInR {β : Type} {f : Nat → β → Sem (ForInStep β)} (hf : ∀ x b, Calm P (f x b)) (xs : Std.Legacy.Range) (b : β) : Calm P (forIn xs b f) := by
  rw [Std.Legacy.Range.forIn_eq_forIn_range']
  exact calm_forInL hf _ b

theorem calm_part {t : TypeId} {cs : Array Value} {o : Nat} : Calm P (part t cs o) := by unfold part; (repeat' (first | (with_reducible first | exact calm_sizeOf | exact calm_isAgg | exact Calm.pure | exact Calm.stuck | refine Calm.bind ?_ ?_ | refine Calm.ite ?_ ?_) | (intro _) | (split) | (dsimp only)))
theorem calm_viewAt {r : Nat} : Calm P (viewAt r) := by unfold viewAt; (repeat' (first | (with_reducible first | exact Calm.pure | exact Calm.shape | exact Calm.getObj | refine Calm.bind ?_ ?_ | refine Calm.ite ?_ ?_) | (intro _) | (split) | (dsimp only)))
theorem calm_numberAt {r : Nat} : Calm P (numberAt r) := by unfold numberAt; (repeat' (first | (with_reducible first | exact Calm.pure | exact Calm.shape | exact Calm.getObj | refine Calm.bind ?_ ?_ | refine Calm.ite ?_ ?_) | (intro _) | (split) | (dsimp only)))
theorem calm_typeStr {r : TypeId} : Calm P (typeStr r) := by unfold typeStr; (repeat' (first | (with_reducible first | exact calm_typeInfo | exact Calm.pure | exact Calm.unsupported | refine Calm.bind ?_ ?_ | refine Calm.ite ?_ ?_) | (intro _) | (split) | (dsimp only)))
theorem calm_stringish {r : Addr} : Calm P (stringish r) := by unfold stringish; (repeat' (first | (with_reducible first | exact Calm.pure | exact Calm.shape | exact Calm.frozen | refine Calm.bind ?_ ?_ | refine Calm.ite ?_ ?_) | (intro _) | (split) | (dsimp only)))
theorem calm_behindNumber {n : Addr} : Calm P (behindNumber n) := by unfold behindNumber; (repeat' (first | (with_reducible first | exact calm_numberAt | exact Calm.pure | refine Calm.bind ?_ ?_) | (intro _) | (split) | (dsimp only)))
theorem calm_noView {n : Addr} : Calm P (noView n) := by unfold noView; (repeat' (first | (with_reducible first | exact calm_viewAt | exact Calm.pure | exact Calm.unsupported | refine Calm.bind ?_ ?_ | refine Calm.ite ?_ ?_) | (intro _) | (split) | (dsimp only)))
theorem calm_mayBeOne {a b : Addr} : Calm P (mayBeOne a b) := by unfold mayBeOne; (repeat' (first | (with_reducible first | exact calm_stringish | exact Calm.pure | exact Calm.shape | refine Calm.bind ?_ ?_) | (intro _) | (split) | (dsimp only)))
theorem calm_sameAddr {a b : Addr} : Calm P (sameAddr a b) := by unfold sameAddr; (repeat' (first | (with_reducible first | exact calm_noView | exact calm_mayBeOne | exact Calm.pure | exact Calm.frozen | exact Calm.choose | exact Calm.unsupported | refine Calm.bind ?_ ?_ | refine Calm.ite ?_ ?_) | (intro _) | (split) | (dsimp only)))
theorem calm_samePointer {a b : Option Addr} : Calm P (samePointer a b) := by unfold samePointer; (repeat' (first | (with_reducible first | exact calm_sameAddr | exact Calm.pure) | (intro _) | (split) | (dsimp only)))
theorem calm_byteOf {a : Addr} : Calm P (byteOf a) := by unfold byteOf; (repeat' (first | (with_reducible first | exact calm_noView | exact Calm.pure | exact Calm.shape | exact Calm.program | exact Calm.stuck | refine Calm.bind ?_ ?_ | refine Calm.ite ?_ ?_) | (intro _) | (split) | (dsimp only)))
theorem calm_partAt {a : Addr} {n m : Nat} : Calm P (partAt a n m) := by unfold partAt; (repeat' (first | (with_reducible first | exact calm_byteOf | exact Calm.pure | refine Calm.bind ?_ ?_) | (intro _) | (split) | (dsimp only)))
theorem calm_fieldPlace {a : Addr} {f : Field} : Calm P (fieldPlace a f) := by unfold fieldPlace; (repeat' (first | (with_reducible first | exact calm_partAt | exact calm_sizeOf | exact Calm.pure | refine Calm.bind ?_ ?_ | refine Calm.ite ?_ ?_) | (intro _) | (split) | (dsimp only)))
theorem calm_fieldAt {s : TypeId} {v : Value} {n : Nat} : Calm P (Instr.fieldAt s v n) := by unfold Instr.fieldAt; (repeat' (first | (with_reducible first | exact calm_fieldPlace | exact calm_sureAddr | exact calm_underlying | exact Calm.pure | exact Calm.stuck | refine Calm.bind ?_ ?_) | (intro _) | (split) | (dsimp only)))
theorem calm_build {t : TypeId} {ps : Array (Nat × Value)} : Calm P (Instr.build t ps) := by
  unfold Instr.build
  refine Calm.bind calm_zeroValue fun z => Calm.bind calm_underlying fun d => ?_
  split
  · refine Calm.bind (calm_mapM (fun x => Calm.bind calm_sizeOf fun _ => Calm.pure) _) fun _ => ?_
    (repeat' (first | (with_reducible first | exact calm_zeroValue | exact calm_sizeOf | exact calm_underlying | exact Calm.pure | exact Calm.stuck | refine Calm.bind ?_ ?_) | (intro _) | (split) | (dsimp only)))
  · (repeat' (first | (with_reducible first | exact calm_zeroValue | exact calm_sizeOf | exact calm_underlying | exact Calm.pure | exact Calm.stuck | refine Calm.bind ?_ ?_) | (intro _) | (split) | (dsimp only)))
  · (repeat' (first | (with_reducible first | exact calm_zeroValue | exact calm_sizeOf | exact calm_underlying | exact Calm.pure | exact Calm.stuck | refine Calm.bind ?_ ?_) | (intro _) | (split) | (dsimp only)))
theorem calm_equalIn : ∀ {d : Nat} {t : TypeId} {x y : Value}, Calm P (Op.equalIn d t x y)
  | 0, _, _, _ => Calm.unsupported
  | d + 1, t, x, y => by
    have ih : ∀ {t : TypeId} {x y : Value}, Calm P (Op.equalIn d t x y) := calm_equalIn
    unfold Op.equalIn
    refine Calm.bind calm_underlying fun u => ?_
    split <;> first | (with_reducible first | exact calm_samePointer | exact calm_byteOf | exact calm_sameAddr | exact calm_behindNumber | exact calm_part | exact calm_typeStr | refine calm_forIn ?_ _ _ | refine calm_forInR ?_ _ _ | exact calm_runtimePanic | exact calm_sizeOf | exact calm_typeInfo | exact calm_underlying | exact Calm.pure | exact Calm.choose | exact Calm.program | exact Calm.stuck | exact Calm.unsupported) | ((repeat' (first | (with_reducible first | exact calm_samePointer | exact calm_byteOf | exact calm_sameAddr | exact calm_behindNumber | exact calm_part | exact calm_typeStr | refine calm_forIn ?_ _ _ | refine calm_forInR ?_ _ _ | exact calm_runtimePanic | exact calm_sizeOf | exact calm_typeInfo | exact calm_underlying | exact Calm.pure | exact Calm.choose | exact Calm.program | exact Calm.stuck | exact Calm.unsupported | refine Calm.bind ?_ ?_ | refine Calm.ite ?_ ?_) | (intro _) | (split) | (dsimp only))); done) | (repeat' (first | (with_reducible first | exact calm_samePointer | exact calm_byteOf | exact calm_sameAddr | exact calm_behindNumber | exact calm_part | exact calm_typeStr | refine calm_forIn ?_ _ _ | refine calm_forInR ?_ _ _ | exact calm_runtimePanic | exact calm_sizeOf | exact calm_typeInfo | exact calm_underlying | exact Calm.pure | exact Calm.choose | exact Calm.program | exact Calm.stuck | exact Calm.unsupported) | exact ih | (with_reducible refine Calm.bind ?_ ?_) | (with_reducible refine Calm.ite ?_ ?_) | (intro _) | (split) | (dsimp only)))
theorem calm_eqGuardIn : ∀ {d : Nat} {t : TypeId} {x y : Value}, Calm P (Op.eqGuardIn d t x y)
  | 0, _, _, _ => Calm.unsupported
  | d + 1, t, x, y => by
    have ih : ∀ {t : TypeId} {x y : Value}, Calm P (Op.eqGuardIn d t x y) := calm_eqGuardIn
    unfold Op.eqGuardIn
    refine Calm.bind calm_underlying fun u => ?_
    split <;> first | (with_reducible first | exact calm_part | refine calm_forIn ?_ _ _ | refine calm_forInR ?_ _ _ | exact calm_sizeOf | exact calm_underlying | exact Calm.pure | exact Calm.unsupported) | ((repeat' (first | (with_reducible first | exact calm_part | refine calm_forIn ?_ _ _ | refine calm_forInR ?_ _ _ | exact calm_sizeOf | exact calm_underlying | exact Calm.pure | exact Calm.unsupported | refine Calm.bind ?_ ?_ | refine Calm.ite ?_ ?_) | (intro _) | (split) | (dsimp only))); done) | (repeat' (first | (with_reducible first | exact calm_part | refine calm_forIn ?_ _ _ | refine calm_forInR ?_ _ _ | exact calm_sizeOf | exact calm_underlying | exact Calm.pure | exact Calm.unsupported) | exact ih | (with_reducible refine Calm.bind ?_ ?_) | (with_reducible refine Calm.ite ?_ ?_) | (intro _) | (split) | (dsimp only)))
theorem calm_equal {t : TypeId} {x y : Value} : Calm P (Op.equal t x y) := calm_equalIn
theorem calm_eqGuard {op : BinOp} {t : TypeId} {x y : Operand} {a b : Value} : Calm P (eqGuard op t x y a b) := by unfold eqGuard; (repeat' (first | (with_reducible first | exact calm_eqGuardIn | exact Calm.pure | exact Calm.program | exact Calm.unsupported | refine Calm.bind ?_ ?_ | refine Calm.ite ?_ ?_) | (intro _) | (split) | (dsimp only)))
theorem calm_binInt {op : BinOp} {t : TypeId} {k : IntKind} {m n : Int} : Calm P (binOp op t (.int k m) (.int k n)) := by
  cases op <;> simp only [binOp, ne_eq, not_true_eq_false, if_false] <;> first | (unfold Op.shift; (repeat' (first | (with_reducible first | exact calm_runtimePanic | exact Calm.pure | refine Calm.ite ?_ ?_) | (intro _) | (split) | (dsimp only))); done) | (unfold Op.intArith; (repeat' (first | (with_reducible first | exact calm_runtimePanic | exact Calm.pure | refine Calm.ite ?_ ?_) | (intro _) | (split) | (dsimp only))); done) | (unfold Op.intDiv; (repeat' (first | (with_reducible first | exact calm_runtimePanic | exact Calm.pure | refine Calm.ite ?_ ?_) | (intro _) | (split) | (dsimp only))); done) | (unfold Op.intBits; dsimp only; (repeat' (first | (with_reducible first | exact calm_runtimePanic | exact Calm.pure | refine Calm.ite ?_ ?_) | (intro _) | (split) | (dsimp only))); done) | (unfold Op.intCmp; (repeat' (first | (with_reducible first | exact calm_runtimePanic | exact Calm.pure | refine Calm.ite ?_ ?_) | (intro _) | (split) | (dsimp only))); done)
theorem calm_value {s : Sem Value} (h : Calm P s) : Calm P (do pure (Next.value (← s))) := Calm.bind h fun _ => Calm.pure
theorem calm_unit {s : Sem Unit} (h : Calm P s) : Calm P (do s; pure Next.skip) := Calm.bind h fun _ => Calm.pure
theorem calm_bin {op : BinOp} {t : TypeId} {x y : Operand} {a b : Value} (h : Calm P (binOp op t a b)) : Calm P (do pure (Next.value (← (do eqGuard op t x y a b; binOp op t a b)))) := calm_value (Calm.bind calm_eqGuard fun _ => h)
theorem calm_aggBin {op : BinOp} {t : TypeId} {as bs : Array Value} (h : op = .eql ∨ op = .neq) : Calm P (binOp op t (.agg as) (.agg bs)) := by
  rcases h with rfl | rfl <;> exact Calm.bind calm_equal fun _ => Calm.pure
theorem calm_bop {b : Builtin} {ts : Array TypeId} {args : Array Operand} {o : Oper} {ρ : Operand → Value} (ho : o.op = .call { callee := .builtin b, args := args, argTypes := ts }) (h : ∀ cs, Calm P (builtin b ts o.type cs (args.map ρ))) : Calm P (execOp ρ o) := by
  unfold execOp
  rw [ho]
  exact h _
theorem calm_lenOp {ts : Array TypeId} {args : Array Operand} {o : Oper} {ρ : Operand → Value} (ho : o.op = .call { callee := .builtin .len, args := args, argTypes := ts }) : Calm P (execOp ρ o) := calm_bop ho fun _ => calm_value calm_len
theorem calm_appendOp {ts : Array TypeId} {args : Array Operand} {o : Oper} {ρ : Operand → Value} (ho : o.op = .call { callee := .builtin .append, args := args, argTypes := ts }) : Calm P (execOp ρ o) := calm_bop ho fun _ => calm_value calm_append

theorem MStep.calm {B : Nat} {w0 w : World} {ρ : Place} {fr : Slots} {H : GHeap} {a : Act} {op : Op} {v : Value} (hm : MStep P fr H op v) (hf : ∀ t u, Operand.tmp t ∈ op.operands → fr.get t = some u → VRel ρ u (a.eval (.tmp t))) (hs : Sim P B w0 ρ H w) (o : Oper) (ho : o.op = op) : Calm P (execOp a.eval o) := by
  cases hm with
  | move h => unfold execOp; rw [ho]; exact Calm.pure
  | assign h => unfold execOp; rw [ho]; exact Calm.pure
  | pickT hc h => unfold execOp; rw [ho]; exact Calm.bind calm_asBool fun _ => Calm.pure
  | pickF hc h => unfold execOp; rw [ho]; exact Calm.bind calm_asBool fun _ => Calm.pure
  | nilCheck h =>
    obtain ⟨b, hb⟩ := (ev_rel hf (by simp [Op.operands]) h).ptr_some
    unfold execOp
    rw [ho]
    simp only [hb]
    exact Calm.pure
  | fieldAddr hk h => unfold execOp; rw [ho]; exact calm_value calm_fieldAt
  | load ht h hc => unfold execOp; rw [ho]; exact calm_value calm_loadAt
  | loadN ht h hn hc => unfold execOp; rw [ho]; exact calm_value calm_loadAt
  | indexAddr ht h hi h0 h1 => unfold execOp; rw [ho]; exact calm_value calm_indexAt
  | len ht h => exact calm_lenOp ho
  | cmp hx hy hr =>
    have e1 := (ev_rel hf (by simp [Op.operands]) hx).int_inv
    have e2 := (ev_rel hf (by simp [Op.operands]) hy).int_inv
    unfold execOp
    rw [ho]
    simp only [e1, e2]
    exact calm_bin calm_binInt
  | arith hx hy hr =>
    have e1 := (ev_rel hf (by simp [Op.operands]) hx).int_inv
    have e2 := (ev_rel hf (by simp [Op.operands]) hy).int_inv
    unfold execOp
    rw [ho]
    simp only [e1, e2]
    exact calm_bin calm_binInt
  | aggNe hg hx hy ha hb hr =>
    have e1 := flat_agg_eq (ev_rel hf (by simp [Op.operands]) hx) ha
    have e2 := flat_agg_eq (ev_rel hf (by simp [Op.operands]) hy) hb
    unfold execOp
    rw [ho]
    simp only [e1, e2]
    exact calm_bin (calm_aggBin (.inr rfl))
  | not h => unfold execOp; rw [ho]; exact calm_value calm_unary
  | build ht hz hv hc => unfold execOp; rw [ho]; exact calm_value calm_build
  | extract h hv => unfold execOp; rw [ho]; exact calm_value calm_extract
end

structure Enters (P : Program) (f : FuncId) : Prop where
  run : ∀ (ax : Array Value) (w : World), (callFunc f ax).run P w = .ok (.enter f ax) w
  calm : ∀ (ax : Array Value), Calm P (callFunc f ax)
theorem entersOf {P : Program} {f : FuncId} {fn : Func} (hf : P.funcs[f]? = some fn) (hn : (fn.name == "runtime.NumGoroutine") = false) (hb : fn.body.isNone = false) : Enters P f := by
  have h1 : ¬ fn.name = "runtime.NumGoroutine" := by simpa using hn
  have h2 : ¬ fn.body = none := by cases hx : fn.body <;> simp_all
  refine ⟨fun ax w => by simp [callFunc, hf, h1, h2], fun ax => ?_⟩
  unfold callFunc
  show Calm P (match P.funcs[f]? with | none => _ | some fn => _)
  rw [hf]
  simp only [hn, hb, Bool.false_eq_true, if_false]
  exact Calm.pure
theorem calm_callF {P : Program} {f : FuncId} {args : Array Operand} {ts : Array TypeId} {o : Oper} {ρ : Operand → Value} (ho : o.op = .call { callee := .value (.func f), args := args, argTypes := ts }) (hρ : ρ (.func f) = .func (.func f) #[] #[]) (h : Enters P f) : Calm P (execOp ρ o) := by
  unfold execOp
  rw [ho]
  show Calm P (Sem.bind (Deferred.ofValue (ρ (.func f)) (args.map ρ)) fun d => invoke d.target d.args)
  rw [hρ]
  exact h.calm _
end Go.GL
namespace Go.GL
open Go.RowKit
variable [MainFlag]

section
variable {P : Program} {B : Nat} {w0 : World} {ρ : Place} {H : GHeap} {w : World}

def place (ρ : Place) (g : Nat) (s : Spot) : Place := fun k => if k = g then some s else ρ k
theorem place_ext {g : Nat} {s : Spot} (h : ρ g = none) : Ext ρ (place ρ g s) := fun k t hk => by
  unfold place
  by_cases e : k = g
  · subst e; rw [h] at hk; cases hk
  · simp [e, hk]
@[simp] theorem place_self {g : Nat} {s : Spot} : place ρ g s g = some s := by simp [place]

theorem Sim.alloc (hs : Sim P B w0 ρ H w) {cs : List Value} {C : Array Value} {e : TypeId} {n : Nat} (he : (P.info? e).map (·.size) = some n) (hl : cs.length ≤ C.size)
    (hc : ∀ (i : Nat) (v : Value), cs[i]? = some v → ∃ c, C[i]? = some c ∧ VRel ρ v c) :
    Sim P B w0 (place ρ H.next ⟨w.heap.size, 0, C.size, n⟩) (H.push (.row cs e true)) (w.alloc (.cells C e)) ∧ Ext ρ (place ρ H.next ⟨w.heap.size, 0, C.size, n⟩) := by
  have hext : Ext ρ (place ρ H.next ⟨w.heap.size, 0, C.size, n⟩) := place_ext (hs.dom _ (Nat.le_refl _))
  refine ⟨⟨fun g hg => ?_, fun g o hg => ?_, fun g g' o o' s s' h1 h2 h3 h4 h5 h6 h7 => ?_, by have := hs.base; simp; omega, hs.below.alloc hs.base _⟩, hext⟩
  · rw [GHeap.next_push] at hg
    simp only [place]
    rw [if_neg (by omega)]
    exact hs.dom g (by omega)
  · rcases Nat.lt_or_ge g H.next with hlt | hge
    · rw [GHeap.get_push_lt hlt] at hg
      exact (hs.live g o hg).keep hext fun s hsp => by
        have hb : s.blk < w.heap.size := by
          cases o with
          | row => obtain ⟨s', C', fz, h1, h2, _⟩ := hs.live g _ hg; rw [hsp] at h1; cases h1; exact (Array.getElem?_eq_some_iff.1 h2).1
          | map => obtain ⟨s', C', fz, h1, h2, _⟩ := hs.live g _ hg; rw [hsp] at h1; cases h1; exact (Array.getElem?_eq_some_iff.1 h2).1
          | oth => obtain ⟨s', x, h1, h2, _⟩ := hs.live g _ hg; rw [hsp] at h1; cases h1; exact (Array.getElem?_eq_some_iff.1 h2).1
        exact heap_alloc_old w _ hb
    · have hg' : g = H.next := by
        have := GHeap.ltg hg
        simp at this
        omega
      subst hg'
      rw [GHeap.get_push_new] at hg
      cases hg
      exact ⟨_, C, (0, 0), place_self, heap_alloc_new w _, rfl, by simpa using hl, fun i v hv => by
        obtain ⟨c, h1, h2⟩ := hc i v hv
        exact ⟨c, by simpa using h1, h2.mono hext⟩, fun _ => ⟨rfl, hs.base⟩, fun h => (by cases h), fun _ => he⟩
  · have old : ∀ {k : Nat} {x : GObj} {t : Spot}, (H.push (.row cs e true)).get k = some x → x.isOwn = true → place ρ H.next ⟨w.heap.size, 0, C.size, n⟩ k = some t → k ≠ H.next → ρ k = some t ∧ H.get k = some x ∧ t.blk < w.heap.size := by
      intro k x t hx ho ht hne
      have hlt : k < H.next := by have := GHeap.ltg hx; simp at this; omega
      rw [GHeap.get_push_lt hlt] at hx
      simp only [place, hne, if_false] at ht
      obtain ⟨s0, e0, _, e2⟩ := (hs.live k x hx).own ho
      rw [ht] at e0; cases e0
      exact ⟨ht, hx, e2⟩
    by_cases e1 : g = H.next
    · subst e1
      obtain ⟨_, _, hlt⟩ := old h2 h4 h7 (Ne.symm h5)
      rw [place_self] at h6
      cases h6
      simp only
      omega
    · obtain ⟨r1, r2, r3⟩ := old h1 h3 h6 e1
      by_cases e2 : g' = H.next
      · subst e2
        rw [place_self] at h7
        cases h7
        simp only
        omega
      · obtain ⟨t1, t2, t3⟩ := old h2 h4 h7 e2
        exact hs.apart g g' o o' s s' r2 t2 h3 h4 h5 r1 t1

theorem Sim.update (hs : Sim P B w0 ρ H w) {g : Nat} {cs cs' : List Value} {e : TypeId} (hg : H.get g = some (.row cs e true)) {s : Spot} (hsp : ρ g = some s) {w' : World} {C' : Array Value}
    (hw : w'.heap[s.blk]? = some (.cells C' e (0, 0))) (hsz : C'.size = s.csize) (hl : s.base + cs'.length ≤ C'.size) (hc : ∀ (i : Nat) (v : Value), cs'[i]? = some v → ∃ c, C'[s.base + i]? = some c ∧ VRel ρ v c)
    (hother : ∀ k, k ≠ s.blk → w'.heap[k]? = w.heap[k]?) (hsize : w'.heap.size = w.heap.size) (hos : w'.os = w.os) (htape : w'.tape = w.tape) (hout : w'.output = w.output) :
    Sim P B w0 ρ (H.set g (some (.row cs' e true))) w' := by
  have hlt := GHeap.ltg hg
  obtain ⟨s0, C, fz, k1, k2, k3, k4, k5, k6, k7, k8⟩ := hs.live _ _ hg
  rw [hsp] at k1
  cases k1
  have hB := (k6 rfl).2
  refine ⟨fun k hk => hs.dom k (by simpa using hk), fun k o hk => ?_, fun k k' o o' t t' h1 h2 h3 h4 h5 h6 h7 => ?_, by rw [hsize]; exact hs.base, ?_⟩
  · by_cases ek : k = g
    · subst ek
      rw [GHeap.get_set_eq hlt] at hk
      cases hk
      exact ⟨s, C', (0, 0), hsp, hw, hsz, hl, hc, fun _ => ⟨rfl, hB⟩, fun h => (by cases h), k8⟩
    · rw [GHeap.get_set_ne (Ne.symm ek)] at hk
      refine (hs.live k o hk).keep (.refl ρ) fun t ht => hother _ ?_
      cases ho : o.isOwn with
      | true => exact hs.apart k g o _ t s hk hg ho rfl ek ht hsp
      | false =>
        cases o with
        | row cells el own =>
          obtain ⟨s', _, _, e1, _, _, _, _, _, e7, _⟩ := hs.live _ _ hk
          rw [ht] at e1; cases e1
          have := e7 ho
          omega
        | map es => cases ho
        | oth => cases ho
  · have back : ∀ {k : Nat} {x : GObj}, (H.set g (some (.row cs' e true))).get k = some x → x.isOwn = true → ∃ y, H.get k = some y ∧ y.isOwn = true := by
      intro k x hx ho
      by_cases ek : k = g
      · subst ek; exact ⟨_, hg, rfl⟩
      · rw [GHeap.get_set_ne (Ne.symm ek)] at hx; exact ⟨x, hx, ho⟩
    obtain ⟨y, y1, y2⟩ := back h1 h3
    obtain ⟨z, z1, z2⟩ := back h2 h4
    exact hs.apart k k' y z t t' y1 z1 y2 z2 h5 h6 h7
  · refine hs.below.trans ⟨hos, htape, hout, by omega, fun k hk => hother k (by omega)⟩

theorem Sim.onward (hs : Sim P B w0 ρ H w) {g : Nat} {cs cs' : List Value} {e : TypeId} (hg : H.get g = some (.row cs e true)) {s : Spot} (hsp : ρ g = some s) {w' : World} {C' : Array Value} {off : Nat}
    (hw : w'.heap[s.blk]? = some (.cells C' e (0, 0))) (hsz : C'.size = s.csize) (hl : s.base + off + cs'.length ≤ C'.size) (hc : ∀ (i : Nat) (v : Value), cs'[i]? = some v → ∃ c, C'[s.base + off + i]? = some c ∧ VRel ρ v c)
    (hother : ∀ k, k ≠ s.blk → w'.heap[k]? = w.heap[k]?) (hsize : w'.heap.size = w.heap.size) (hos : w'.os = w.os) (htape : w'.tape = w.tape) (hout : w'.output = w.output) :
    Sim P B w0 (place ρ H.next ⟨s.blk, s.base + off, s.csize, s.esz⟩) ((H.set g none).push (.row cs' e true)) w' ∧ Ext ρ (place ρ H.next ⟨s.blk, s.base + off, s.csize, s.esz⟩) := by
  have hlt := GHeap.ltg hg
  obtain ⟨s0, C, fz, k1, k2, k3, k4, k5, k6, k7, k8⟩ := hs.live _ _ hg
  rw [hsp] at k1
  cases k1
  have hB := (k6 rfl).2
  have hext : Ext ρ (place ρ H.next ⟨s.blk, s.base + off, s.csize, s.esz⟩) := place_ext (hs.dom _ (Nat.le_refl _))
  have hn : (H.set g none).next = H.next := by simp
  have old : ∀ {k : Nat} {x : GObj}, ((H.set g none).push (.row cs' e true)).get k = some x → k ≠ H.next → k < H.next ∧ H.get k = some x ∧ k ≠ g := by
    intro k x hx hne
    have hk : k < H.next := by have := GHeap.ltg hx; simp at this; omega
    rw [GHeap.get_push_lt (by rw [hn]; exact hk)] at hx
    by_cases ek : k = g
    · subst ek; rw [GHeap.get_set_eq hlt] at hx; cases hx
    · rw [GHeap.get_set_ne (Ne.symm ek)] at hx; exact ⟨hk, hx, ek⟩
  have far : ∀ {k : Nat} {x : GObj} {t : Spot}, H.get k = some x → k ≠ g → ρ k = some t → t.blk ≠ s.blk := by
    intro k x t hx hne ht
    cases ho : x.isOwn with
    | true => exact hs.apart k g x _ t s hx hg ho rfl hne ht hsp
    | false =>
      cases x with
      | row cells el own =>
        obtain ⟨s', _, _, e1, _, _, _, _, _, e7, _⟩ := hs.live _ _ hx
        rw [ht] at e1; cases e1
        have := e7 ho
        omega
      | map es => cases ho
      | oth => cases ho
  refine ⟨⟨fun k hk => ?_, fun k o hk => ?_, fun k k' o o' t t' h1 h2 h3 h4 h5 h6 h7 => ?_, by rw [hsize]; exact hs.base, hs.below.trans ⟨hos, htape, hout, by omega, fun k hk => hother k (by omega)⟩⟩, hext⟩
  · simp at hk
    simp only [place]
    rw [if_neg (by omega)]
    exact hs.dom k (by omega)
  · by_cases ek : k = H.next
    · subst ek
      have : ((H.set g none).push (.row cs' e true)).get H.next = some (.row cs' e true) := by rw [← hn]; exact GHeap.get_push_new _ _
      rw [this] at hk
      cases hk
      exact ⟨_, C', (0, 0), place_self, hw, hsz, hl, fun i v hv => let ⟨c, h1, h2⟩ := hc i v hv; ⟨c, h1, h2.mono hext⟩, fun _ => ⟨rfl, hB⟩, fun h => (by cases h), k8⟩
    · obtain ⟨_, hx, hne⟩ := old hk ek
      exact (hs.live k o hx).keep hext fun t ht => hother _ (far hx hne ht)
  · by_cases e1 : k = H.next
    · subst e1
      obtain ⟨_, hx, hne⟩ := old h2 (Ne.symm h5)
      rw [place_self] at h6
      cases h6
      have h7' : ρ k' = some t' := by simpa [place, Ne.symm h5] using h7
      exact (far hx hne h7').symm
    · obtain ⟨_, hx, hne⟩ := old h1 e1
      have h6' : ρ k = some t := by simpa [place, e1] using h6
      by_cases e2 : k' = H.next
      · subst e2
        rw [place_self] at h7
        cases h7
        exact far hx hne h6'
      · obtain ⟨_, hy, hne'⟩ := old h2 e2
        have h7' : ρ k' = some t' := by simpa [place, e2] using h7
        exact hs.apart k k' o o' t t' hx hy h3 h4 h5 h6' h7'
end

def FRel (N : Nat) (D : List Deferred) (ρ : Place) (fr : Slots) (a : Act) : Prop := a.tmps.size = N ∧ a.defers = D ∧ ∀ t v, fr.get t = some v → VRel ρ v (a.eval (.tmp t))

theorem FRel.mono {N : Nat} {D : List Deferred} {ρ ρ' : Place} {fr : Slots} {a : Act} (h : FRel N D ρ fr a) (he : Ext ρ ρ') : FRel N D ρ' fr a := ⟨h.1, h.2.1, fun t v hv => (h.2.2 t v hv).mono he⟩

def putS (fr : Slots) (d : Option Tmp) (v : Option Value) : Slots := match d with | none => fr | some t => (t, v) :: fr
def dstOk (N : Nat) (o : Oper) : Bool := match o.dst with | none => true | some d => Nat.blt d N

theorem get_cons (s t : Nat) (v : Option Value) (fr : Slots) : Slots.get ((s, v) :: fr) t = if s = t then v else fr.get t := by
  show (bif Nat.beq s t then v else Slots.get fr t) = _
  by_cases h : s = t
  · subst h; simp
  · have : Nat.beq s t = false := by
      cases hb : Nat.beq s t with
      | false => rfl
      | true => exact absurd (Nat.eq_of_beq_eq_true hb) h
    rw [this, if_neg h]
    rfl

theorem eval_put (a : Act) (d t : Nat) (c : Value) (hd : d < a.tmps.size) : (a.put (some d) c).eval (.tmp t) = if d = t then c else a.eval (.tmp t) := by
  unfold Act.put Act.eval
  simp only
  by_cases h : d = t
  · subst h
    simp [Array.getD_eq_getD_getElem?, hd]
  · simp [Array.getD_eq_getD_getElem?, Array.getElem?_setIfInBounds_ne h, h]

theorem FRel.put {N : Nat} {D : List Deferred} {ρ : Place} {fr : Slots} {a : Act} (h : FRel N D ρ fr a) {o : Oper} (hd : dstOk N o = true) {v : Option Value} {c : Value} (hv : ∀ x, v = some x → VRel ρ x c) : FRel N D ρ (putS fr o.dst v) (a.put o.dst c) := by
  unfold dstOk at hd
  cases hdst : o.dst with
  | none => exact h
  | some d =>
    rw [hdst] at hd
    have hlt : d < N := by simpa [Nat.blt_eq] using hd
    refine ⟨by simp [Act.put, h.1], h.2.1, fun t x hx => ?_⟩
    rw [eval_put a d t c (by rw [h.1]; exact hlt)]
    simp only [putS, get_cons] at hx
    by_cases e : d = t
    · simp only [e, if_true] at hx ⊢
      exact hv x hx
    · simp only [e, if_false] at hx ⊢
      exact h.2.2 t x hx

theorem Sim.at {P : Program} {B : Nat} {w0 w : World} {ρ : Place} {H : GHeap} (hs : Sim P B w0 ρ H w) (d : Nat) : Sim P B w0 ρ H (w.at d) := ⟨hs.dom, fun g o hg => (hs.live g o hg).keep (.refl ρ) fun _ _ => rfl, hs.apart, hs.base, ⟨hs.below.os, hs.below.tape, hs.below.output, hs.below.size, hs.below.block⟩⟩
theorem MStep.wpM {P : Program} {B : Nat} {w0 w : World} {ρ : Place} {fr : Slots} {H : GHeap} {a : Act} {o : Oper} {v : Value} {next : Act → World → Prop} {Q : Exit → Act → World → Prop} (hm : MStep P fr H o.op v)
    (hf : ∀ t u, Operand.tmp t ∈ o.op.operands → fr.get t = some u → VRel ρ u (a.eval (.tmp t))) (hs : Sim P B w0 ρ H w) (hn : ∀ c d, VRel ρ v c → Sim P B w0 ρ H (w.at d) → next (a.put o.dst c) (w.at d)) : o.wpM P (Below B w0) a w next Q := fun d => by
  obtain ⟨c, hc, hr⟩ := hm.sound (a := a) hf (hs.at d) o rfl
  refine ⟨Calm.events _ _ _ (hm.calm hf (hs.at d) o rfl) calmA_nil, ?_⟩
  rw [hc]
  exact ⟨(hs.at d).below, hn c d hr (hs.at d)⟩

structure CDo (P : Program) (o : Oper) (fr : Slots) (H : GHeap) (R : Option Value → GHeap → Prop) : Prop where
  mkI ::
  run : ∀ (l : Option Nat) (B : Nat) (w0 : World) (ρ : Place) (a : Act) (w : World), Sim P B w0 ρ H w → (∀ t v, Operand.tmp t ∈ o.op.operands → fr.get t = some v → VRel ρ v (a.eval (.tmp t))) →
    ∀ (next : Act → World → Prop) (Q : Exit → Act → World → Prop),
      (∀ ρ' v c H' w', R v H' → Ext ρ ρ' → Sim P B w0 ρ' H' w' → (∀ x, v = some x → VRel ρ' x c) → next (a.put o.dst c) w') → o.wpM P (Below B w0) a w next Q
theorem CDo.mk {P : Program} {o : Oper} {fr : Slots} {H : GHeap} {R : Option Value → GHeap → Prop} (h : ∀ (B : Nat) (w0 : World) (ρ : Place) (a : Act) (w : World), Sim P B w0 ρ H w → (∀ t v, Operand.tmp t ∈ o.op.operands → fr.get t = some v → VRel ρ v (a.eval (.tmp t))) →
    ∀ (next : Act → World → Prop) (Q : Exit → Act → World → Prop),
      (∀ ρ' v c H' w', R v H' → Ext ρ ρ' → Sim P B w0 ρ' H' w' → (∀ x, v = some x → VRel ρ' x c) → next (a.put o.dst c) w') → o.wpN P (Below B w0) a w next Q) : CDo P o fr H R :=
  .mkI fun _ B w0 ρ a w hs hf next Q hn d => h B w0 ρ a (w.at d) (hs.at d) hf (fun a' w' => Below B w0 w' ∧ next a' w') Q fun ρ' v c H' w' hR he hs' hv => ⟨hs'.below, hn ρ' v c H' w' hR he hs' hv⟩

def GCalls (P : Program) (f : FuncId) (args : List Value) (H : GHeap) (Q : Value → GHeap → Prop) : Prop :=
  ∀ (B : Nat) (w0 : World) (ρ : Place) (cargs : List Value) (w : World), Sim P B w0 ρ H w → LRel ρ args cargs →
    CallsM P (Below B w0) f cargs.toArray w fun e w' => ∃ v c ρ' H', e = .returned c ∧ Q v H' ∧ Ext ρ ρ' ∧ Sim P B w0 ρ' H' w' ∧ VRel ρ' v c

theorem GCalls.mono {P : Program} {f : FuncId} {args : List Value} {H : GHeap} {Q Q' : Value → GHeap → Prop} (h : GCalls P f args H Q) (hq : ∀ v H', Q v H' → Q' v H') : GCalls P f args H Q' :=
  fun B w0 ρ cargs w hs hl => (h B w0 ρ cargs w hs hl).mono fun _ _ ⟨v, c, ρ', H', he, hQ, r⟩ => ⟨v, c, ρ', H', he, hq v H' hQ, r⟩

theorem GCalls.quiet {P : Program} {f : FuncId} {args : List Value} {H : GHeap} {φ : Value → Prop} (h : GCalls P f args H fun v H' => φ v ∧ flat v = true ∧ H.Le H') : GCalls P f args H fun v H' => φ v ∧ H' = H :=
  fun B w0 ρ cargs w hs hl => (h B w0 ρ cargs w hs hl).mono fun _ _ ⟨v, c, ρ', H', he, ⟨hφ, hf, hle⟩, hx, hs', hv⟩ => by
    refine ⟨v, c, ρ, H, he, ⟨hφ, rfl⟩, .refl ρ, hs'.drop hs hx hle, ?_⟩
    have : c = v := by
      unfold flat at hf
      split at hf
      · exact flat_agg_eq hv hf
      · rename_i cs
        obtain ⟨_, rfl, hr⟩ := hv.tuple_inv
        congr 1
        refine Array.ext (by simpa using hr.1.symm) fun i h₁ h₂ => ?_
        exact flat1_eq (hr.2 i _ _ (by simp [h₂]) (by simp [h₁])) (List.all_eq_true.1 hf _ (by simp))
      · exact flat1_eq hv hf
    rw [this]
    exact .flat hf
end Go.GL
namespace Go.GL
open Go.RowKit
variable [MainFlag]

section
variable {P : Program} {H : GHeap} {fr : Slots} {o : Oper} {R : Option Value → GHeap → Prop}

theorem upon_value {I : World → Prop} {a : Act} {next : Act → World → Prop} {Q : Exit → Act → World → Prop} {w w' : World} {c : Value} (h : (execOp a.eval o).run P w = .ok (.value c) w') (hn : next (a.put o.dst c) w') (hcm : Calm P (execOp a.eval o) := by (first | exact calm_appendOp ho | (unfold execOp; rw [ho]; first | exact calm_value calm_box | exact calm_value calm_alloc | exact calm_value calm_buildSlice | exact calm_value calm_makeSlice | exact calm_value calm_makeChan | exact calm_unit calm_storeAt | exact calm_value calm_loadAt | exact calm_value calm_build))) : o.wpN P I a w next Q := by
  refine ⟨Calm.events _ _ _ hcm calmA_nil, ?_⟩
  rw [h]
  exact hn
theorem upon_skip {I : World → Prop} {a : Act} {next : Act → World → Prop} {Q : Exit → Act → World → Prop} {w w' : World} (h : (execOp a.eval o).run P w = .ok .skip w') (hn : next (a.put o.dst undef) w') (hcm : Calm P (execOp a.eval o) := by (first | exact calm_appendOp ho | (unfold execOp; rw [ho]; first | exact calm_value calm_box | exact calm_value calm_alloc | exact calm_value calm_buildSlice | exact calm_value calm_makeSlice | exact calm_value calm_makeChan | exact calm_unit calm_storeAt | exact calm_value calm_loadAt | exact calm_value calm_build))) : o.wpN P I a w next Q := by
  refine ⟨Calm.events _ _ _ hcm calmA_nil, ?_⟩
  rw [h]
  exact hn

theorem v_run' {s : Sem Value} {r : Value} {w w' : World} (h : s.run P w = .ok r w') : ((do pure (Next.value (← s))) : Sem Next).run P w = .ok (.value r) w' := by
  simp only [Sem.run_bind, h, Result.andThen_ok, Sem.run_pure]
theorem u_run' {s : Sem Unit} {w w' : World} (h : s.run P w = .ok () w') : ((do s; pure Next.skip) : Sem Next).run P w = .ok .skip w' := by
  simp only [Sem.run_bind, h, Result.andThen_ok, Sem.run_pure]

theorem newRow_run (e : TypeId) (C : Array Value) (w : World) : (newRow e C).run P w = .ok ⟨w.heap.size, 0, none⟩ (w.alloc (.cells C e)) := rfl

theorem new_row {B : Nat} {w0 w : World} {ρ : Place} (hs : Sim P B w0 ρ H w) {cs : List Value} {C : Array Value} {e : TypeId} {n : Nat} (he : (P.info? e).map (·.size) = some n) (hl : cs.length ≤ C.size)
    (hc : ∀ (i : Nat) (v : Value), cs[i]? = some v → ∃ c, C[i]? = some c ∧ VRel ρ v c) : ∃ ρ', Ext ρ ρ' ∧ Sim P B w0 ρ' (H.push (.row cs e true)) (w.alloc (.cells C e)) ∧ ρ' H.next = some ⟨w.heap.size, 0, C.size, n⟩ :=
  let h := hs.alloc he hl hc
  ⟨_, h.2, h.1, place_self⟩

theorem LRel.prfx {ρ : Place} {vs cs : List Value} (h : LRel ρ vs cs) : ∀ (i : Nat) (v : Value), vs[i]? = some v → ∃ c, cs.toArray[i]? = some c ∧ VRel ρ v c := fun i v hv => by
  obtain ⟨c, hc, hr⟩ := h.get hv
  exact ⟨c, by simpa using hc, hr⟩

theorem CDo.box {e : TypeId} {x : Operand} {v : Value} {n : Nat} (ho : o.op = .box e x) (he : (P.info? e).map (·.size) = some n) (hx : ev fr x = some v)
    (h : R (some (.pointer (some ⟨H.next, 0, none⟩))) (H.push (.row v.cells.toList e true))) : CDo P o fr H R := .mk fun B w0 ρ a w hs hf next Q hn => by
  rw [ho] at hf
  have hr := ev_rel hf (x := x) (by simp [Op.operands]) hx
  obtain ⟨ρ', hext, hs', hsp⟩ := new_row hs (cs := v.cells.toList) (C := (a.eval x).cells) he (by have := hr.cells.1; simp at this; simp; omega) (fun i u hu => by
    obtain ⟨c, h1, h2⟩ := hr.cells.get hu
    exact ⟨c, by simpa using h1, h2⟩)
  refine upon_value (c := .pointer (some ⟨w.heap.size, 0, none⟩)) (w' := w.alloc (.cells (a.eval x).cells e)) ?_ (hn ρ' _ _ _ _ h hext hs' fun y hy => ?_)
  · unfold execOp
    simp only [ho]
    refine v_run' ?_
    simp only [Instr.box, newVar, Sem.run_bind, newRow_run, Result.andThen_ok, Sem.run_pure]
  · cases hy
    exact .ptr (s := ⟨w.heap.size, 0, (a.eval x).cells.size, n⟩) hsp

def zeroT (P : Program) (e : TypeId) : Option (List Value × Nat) := (P.info? e).bind fun (i : TypeInfo) => i.zero.map fun z => (z.cells.toList, i.size)

theorem zeroT_run {e : TypeId} {z : List Value} {n : Nat} (h : zeroT P e = some (z, n)) : ∃ i zv, P.info? e = some i ∧ i.zero = some zv ∧ zv.cells.toList = z ∧ i.size = n := by
  unfold zeroT at h
  simp only [Option.bind_eq_some_iff, Option.map_eq_some_iff, Prod.mk.injEq] at h
  obtain ⟨i, hi, zv, hz, h1, h2⟩ := h
  exact ⟨i, zv, hi, hz, h1, h2⟩

theorem CDo.alloc {e : TypeId} {z : List Value} {n : Nat} (ho : o.op = .alloc e) (hz : zeroT P e = some (z, n)) (hfl : z.all flat1 = true)
    (h : R (some (.pointer (some ⟨H.next, 0, none⟩))) (H.push (.row z e true))) : CDo P o fr H R := .mk fun B w0 ρ a w hs hf next Q hn => by
  obtain ⟨i, zv, hi, hz0, rfl, hn'⟩ := zeroT_run hz
  obtain ⟨ρ', hext, hs', hsp⟩ := new_row hs (cs := zv.cells.toList) (C := zv.cells) (e := e) (n := n) (by simp [hi, hn']) (by simp) (fun j u hu => ⟨u, by simpa using hu, .flat1 (List.all_eq_true.1 hfl _ (List.mem_of_getElem? hu))⟩)
  refine upon_value (c := .pointer (some ⟨w.heap.size, 0, none⟩)) (w' := w.alloc (.cells zv.cells e)) ?_ (hn ρ' _ _ _ _ h hext hs' fun y hy => ?_)
  · unfold execOp
    simp only [ho]
    refine v_run' ?_
    simp only [Instr.alloc, zeroValue, typeInfo, Sem.run_bind, program, Sem.run, hi, hz0, Result.andThen_ok, Sem.run_pure, newVar, newRow_run]
  · cases hy
    exact .ptr (s := ⟨w.heap.size, 0, zv.cells.size, n⟩) hsp

def madeL (z : List Value) (n : Nat) : List Value := (List.range n).map fun i => z[i % z.length]?.getD undef
theorem length_madeL (z : List Value) (n : Nat) : (madeL z n).length = n := by simp [madeL]
theorem madeL_eq (z : Array Value) (n : Nat) (hz : n = 0 ∨ 0 < z.size) : ((Array.range n).map (z[· % z.size]!)) = (madeL z.toList n).toArray := by
  apply Array.ext'
  simp only [Array.toList_map, Array.toList_range, madeL]
  refine List.map_congr_left fun i hi => ?_
  have hi' : i < n := by simpa using hi
  have hpos : 0 < z.size := by omega
  have hlt : i % z.size < z.size := Nat.mod_lt _ hpos
  rw [getElem!_pos z (i % z.size) hlt]
  simp [hlt]
theorem madeL_one (z : Value) (n : Nat) : madeL [z] n = List.replicate n z := by
  unfold madeL
  apply List.ext_getElem
  · simp
  · intro i h1 h2
    simp [Nat.mod_one]
theorem madeL_rel {ρ : Place} {z : List Value} (hz : z.all flat1 = true) (n : Nat) (h0 : n = 0 ∨ 0 < z.length) : LRel ρ (madeL z n) (madeL z n) := by
  refine ⟨rfl, fun i v c hv hc => ?_⟩
  rw [hv] at hc
  cases hc
  refine .flat1 ?_
  simp only [madeL, List.getElem?_map, Option.map_eq_some_iff] at hv
  obtain ⟨j, hj, rfl⟩ := hv
  have hlt : j < n := by
    have := List.mem_of_getElem? hj
    simpa using this
  have hpos : 0 < z.length := by omega
  have hlt' : j % z.length < z.length := Nat.mod_lt _ hpos
  rw [List.getElem?_eq_getElem hlt']
  exact List.all_eq_true.1 hz _ (List.getElem_mem _)

theorem CDo.buildSlice {t e : TypeId} {len n : Nat} {parts : Array (Nat × Operand)} {z vs cs : List Value} (ho : o.op = .buildSlice t len parts) (ht : sliceT P t = some (e, n)) (hz : zeroT P e = some (z, n)) (hfl : z.all flat1 = true) (hzn : z.length = n) (h0 : 0 < n)
    (hsm : len * n ≤ 16777216) (hv : evs fr (parts.toList.map (·.2)) = some vs) (hc : fillL (fun i => some (i * n, n)) (madeL z (len * n)) ((parts.toList.map (·.1)).zip vs) = some cs)
    (h : R (some (.slice (some ⟨H.next, 0, none⟩) len len)) (H.push (.row cs e true))) : CDo P o fr H R := .mk fun B w0 ρ a w hs hf next Q hn => by
  rw [ho] at hf
  obtain ⟨hu, inf, hinf, hsz⟩ := sliceT_run ht
  obtain ⟨i, zv, hi, hz0, rfl, hn'⟩ := zeroT_run hz
  rw [hinf] at hi
  cases hi
  have hrel := evs_rel (xs := parts.toList.map (·.2)) hf (fun x hx => by simp only [Op.operands]; simpa using hx) hv
  obtain ⟨ds, hfill, hdr⟩ := fill_rel (fun i => some (i * n, n)) (parts.toList.map (·.1)) hrel (madeL_rel (ρ := ρ) hfl (len * n) (.inr (by omega))) hc
  have hlen : ds.length = len * n := by
    have e1 : ∀ (l : List (Nat × Value)) (c ds : Array Value), Instr.fill (fun i => some (i * n, n)) c l = some ds → ds.size = c.size := by
      intro l
      induction l with
      | nil => intro c ds hh; simp only [Instr.fill, Option.some.injEq] at hh; rw [hh]
      | cons p l ih =>
        intro c ds hh
        unfold Instr.fill at hh
        simp only at hh
        split at hh
        · cases hh
        · have := ih _ _ hh
          rw [this]
          have e2 := setAll_eq p.2.cells.toList c (p.1 * n) 0
          have e3 : (p.2.cells.zipIdx.foldl (fun (cs : Array Value) (x : Value × Nat) => cs.setIfInBounds (p.1 * n + x.2) x.1) c) = (setAll c.toList (p.1 * n + 0) p.2.cells.toList).toArray := by
            rw [← e2, ← Array.foldl_toList, Array.toList_zipIdx]
          rw [e3]
          simp [length_setAll]
    have := e1 _ _ _ hfill
    simpa [length_madeL] using this
  obtain ⟨ρ', hext, hs', hsp⟩ := new_row hs (cs := cs) (C := ds.toArray) (e := e) (n := n) (by simp [hinf, hsz]) (by simp [hdr.1]) (LRel.prfx hdr)
  refine upon_value (c := .slice (some ⟨w.heap.size, 0, none⟩) len len) (w' := w.alloc (.cells ds.toArray e)) ?_ (hn ρ' _ _ _ _ h hext hs' fun y hy => ?_)
  · unfold execOp
    simp only [ho]
    refine v_run' ?_
    have hpl : (parts.map fun (i, x) => (i, a.eval x)).toList = (parts.toList.map (·.1)).zip ((parts.toList.map (·.2)).map a.eval) := by
      simp [List.zip_map', Function.comp_def]
    unfold Instr.buildSlice
    simp only [Sem.run_bind, run_underlying hu, Result.andThen_ok, sizeOf_run hinf, hsz]
    rw [if_neg (by omega)]
    have hmade : ∀ zz : Array Value, ((len * n = 0 ∧ zz = #[]) ∨ zz = zv.cells) → (Array.range (len * n)).map (zz[· % zz.size]!) = (madeL zv.cells.toList (len * n)).toArray := by
      intro zz hh
      rcases hh with ⟨h0', rfl⟩ | rfl
      · rw [h0']; simp [madeL]
      · exact madeL_eq _ _ (.inr (by simp at hzn; omega))
    by_cases hz' : len * n = 0
    · rw [if_pos hz']
      simp only [Sem.run_bind, Sem.run_pure, Result.andThen_ok]
      rw [hmade #[] (.inl ⟨hz', rfl⟩), hpl, hfill]
      simp only [Sem.run_bind, newRow_run, Result.andThen_ok, Sem.run_pure]
    · rw [if_neg hz']
      simp only [zeroValue, typeInfo, Sem.run_bind, program, Sem.run, hinf, hz0, Result.andThen_ok, Sem.run_pure]
      rw [hmade zv.cells (.inr rfl), hpl, hfill]
      simp only [Sem.run_bind, newRow_run, Result.andThen_ok, Sem.run_pure]
  · cases hy
    have := VRel.slice (ρ := ρ') (g := H.next) (o := 0) (n := len) (cap := len) (s := ⟨w.heap.size, 0, ds.toArray.size, n⟩) hsp (Nat.le_refl _) (by simp [hlen]) (by
      unfold maxLen
      have : len ≤ len * n := Nat.le_mul_of_pos_right _ h0
      omega)
    simpa using this

theorem CDo.makeSlice {t e : TypeId} {x y : Operand} {k k' : IntKind} {l c n bytes : Nat} {z : List Value} (ho : o.op = .makeSlice t x y) (ht : sliceT P t = some (e, n)) (hz : zeroT P e = some (z, n)) (hb : (P.info? e).map (·.bytes) = some bytes)
    (hfl : z.all flat1 = true) (hzn : z.length = n) (h0 : 0 < n) (hx : ev fr x = some (.int k l)) (hy : ev fr y = some (.int k' c)) (hlc : l ≤ c) (hsm : bytes * c ≤ 281474976710656) (hsc : c ≤ 9223372036854775807)
    (h : R (some (.slice (some ⟨H.next, 0, none⟩) l l)) (H.push (.row (madeL z (l * n)) e true))) : CDo P o fr H R := .mk fun B w0 ρ a w hs hf next Q hn => by
  rw [ho] at hf
  obtain ⟨hu, inf, hinf, hsz⟩ := sliceT_run ht
  obtain ⟨i, zv, hi, hz0, rfl, hn'⟩ := zeroT_run hz
  rw [hinf] at hi
  cases hi
  have ex := (ev_rel hf (x := x) (by simp [Op.operands]) hx).int_inv
  have ey := (ev_rel hf (x := y) (by simp [Op.operands]) hy).int_inv
  have hbb : inf.bytes = bytes := by rw [hinf] at hb; simpa using hb
  have hzp : 0 < zv.cells.size := by simp at hzn; omega
  have hmk : madeCells zv.cells (c * n) = (madeL zv.cells.toList (c * n)).toArray := madeL_eq _ _ (.inr hzp)
  have hpre : ∀ (i : Nat) (v : Value), (madeL zv.cells.toList (l * n))[i]? = some v → ∃ u, (madeCells zv.cells (c * n))[i]? = some u ∧ VRel ρ v u := by
    intro i v hv
    have hil : i < l * n := by
      have := (List.getElem?_eq_some_iff.1 hv).1
      simpa [length_madeL] using this
    have hic : i < c * n := Nat.lt_of_lt_of_le hil (Nat.mul_le_mul_right _ hlc)
    refine ⟨v, ?_, (madeL_rel (ρ := ρ) hfl (l * n) (.inr (by omega))).2 i v v hv hv⟩
    rw [hmk]
    simp only [madeL, List.getElem?_toArray, List.getElem?_map, List.getElem?_range hil, List.getElem?_range hic] at hv ⊢
    exact hv
  obtain ⟨ρ', hext, hs', hsp⟩ := new_row hs (cs := madeL zv.cells.toList (l * n)) (C := madeCells zv.cells (c * n)) (e := e) (n := n) (by simp [hinf, hsz]) (by rw [length_madeL, size_madeCells]; exact Nat.mul_le_mul_right _ hlc) hpre
  have hrun := run_make (P := P) w t e inf zv hu hinf hz0 k k' (l : Int) (c : Int) (by omega) (by omega) (by rw [hbb]; omega) (by omega)
  simp only [Int.toNat_natCast, hsz] at hrun
  refine upon_value (c := .slice (some ⟨w.heap.size, 0, none⟩) l c) (w' := w.alloc (.cells (madeCells zv.cells (c * n)) e)) ?_ (hn ρ' _ _ _ _ h hext hs' fun y hy => ?_)
  · unfold execOp
    simp only [ho, ex, ey]
    exact v_run' hrun
  · cases hy
    have := VRel.slice (ρ := ρ') (g := H.next) (o := 0) (n := l) (cap := c) (s := ⟨w.heap.size, 0, (madeCells zv.cells (c * n)).size, n⟩) hsp hlc (by simp [size_madeCells]) (by unfold maxLen; omega)
    simpa using this

theorem oneCell_cells {v : Value} (h : v.oneCell' = true) : v.cells = #[v] := by
  cases v <;> first | rfl | cases h

theorem CDo.store {t : TypeId} {x y : Operand} {g off : Nat} {v : Value} {cs : List Value} {e : TypeId} (ho : o.op = .store t x y) (ht : (P.info? t).map (·.size) = some 1) (hx : ev fr x = some (.pointer (some ⟨g, off, none⟩))) (hy : ev fr y = some v)
    (h1 : v.oneCell' = true) (hg : H.get g = some (.row cs e true)) (hoff : off < cs.length) (h : R none (H.set g (some (.row (cs.set off v) e true)))) : CDo P o fr H R := .mk fun B w0 ρ a w hs hf next Q hn => by
  rw [ho] at hf
  obtain ⟨sp, hsp, ex⟩ := (ev_rel hf (x := x) (by simp [Op.operands]) hx).ptr_inv
  have hr := ev_rel hf (x := y) (by simp [Op.operands]) hy
  obtain ⟨sp', C, fz, k1, k2, k3, k4, k5, k6, k7, k8⟩ := hs.live _ _ hg
  rw [hsp] at k1
  cases k1
  obtain ⟨hfz, hB⟩ := k6 rfl
  subst hfz
  have h1' : (a.eval y).oneCell' = true := by rw [hr.oneCell]; exact h1
  have hlt : sp.base + off < C.size := by omega
  have hcell : w.cell? ⟨sp.blk, sp.base + off, none⟩ = some C[sp.base + off] := by simp [World.cell?, k2, hlt]
  have hfro : w.frozen? ⟨sp.blk, sp.base + off, none⟩ = false := by simp [World.frozen?, k2]
  have hb : sp.blk < w.heap.size := (Array.getElem?_eq_some_iff.1 k2).1
  have hheap : (w.setCell ⟨sp.blk, sp.base + off, none⟩ (a.eval y)).heap[sp.blk]? = some (.cells (C.setIfInBounds (sp.base + off) (a.eval y)) e (0, 0)) := by
    simp [World.setCell, Array.getElem?_modify, k2]
  have hs' := hs.update hg hsp (w' := w.setCell ⟨sp.blk, sp.base + off, none⟩ (a.eval y)) (cs' := cs.set off v) hheap (by simp [k3]) (by simp; omega) (fun i u hu => by
    by_cases e1 : off = i
    · subst e1
      rw [List.getElem?_set_self hoff] at hu
      cases hu
      exact ⟨a.eval y, by simp [hlt], hr⟩
    · rw [List.getElem?_set_ne e1] at hu
      obtain ⟨c, h2, h3⟩ := k5 i u hu
      exact ⟨c, by rw [Array.getElem?_setIfInBounds_ne (by omega)]; exact h2, h3⟩) (fun k hk => Below.heap_setCell _ _ _ _ hk) (by simp [World.setCell]) rfl rfl rfl
  refine upon_skip (w' := w.setCell ⟨sp.blk, sp.base + off, none⟩ (a.eval y)) ?_ (hn ρ none undef _ _ h (.refl ρ) hs' fun y hy => by cases hy)
  unfold execOp
  simp only [ho, ex]
  refine u_run' ?_
  simp only [Option.map_eq_some_iff] at ht
  obtain ⟨inf, hinf, hsz⟩ := ht
  simp only [Instr.storeAt, Instr.sureAddr, storeVar, Sem.run_bind, Sem.run_pure, Result.andThen_ok, sizeOf_run hinf, hsz, oneCell_cells h1']
  simp only [List.size_toArray, List.length_cons, List.length_nil, Nat.zero_add, ne_eq, not_true_eq_false, if_false]
  simp only [storeCells, Sem.run_bind, Addr.add, if_true]
  rw [run_store P w _ _ _ h1', hcell]
  simp [hfro]

theorem setAll_get : ∀ (vs cs : List Value) (o i : Nat), o + vs.length ≤ cs.length → (setAll cs o vs)[i]? = if o ≤ i ∧ i < o + vs.length then vs[i - o]? else cs[i]?
  | [], cs, o, i, _ => by
    unfold setAll
    rw [if_neg (by simp only [List.length_nil]; omega)]
  | v :: vs, cs, o, i, h => by
    simp only [List.length_cons] at h
    unfold setAll
    rw [setAll_get vs (cs.set o v) (o + 1) i (by simp; omega)]
    by_cases h1 : o = i
    · subst h1
      rw [if_neg (by omega), if_pos (by simp)]
      rw [List.getElem?_set_self (by omega)]
      simp
    · by_cases h2 : o + 1 ≤ i ∧ i < o + 1 + vs.length
      · rw [if_pos h2, if_pos (by simp; omega)]
        rw [show i - o = (i - (o + 1)) + 1 by omega]
        simp
      · rw [if_neg h2, if_neg (by simp; omega)]
        rw [List.getElem?_set_ne h1]

theorem CDo.storeN {t : TypeId} {x y : Operand} {g off n : Nat} {vs : Array Value} {cs : List Value} {e : TypeId} (ho : o.op = .store t x y) (ht : (P.info? t).map (·.size) = some n) (hx : ev fr x = some (.pointer (some ⟨g, off, none⟩))) (hy : ev fr y = some (.agg vs))
    (hn : vs.size = n) (h1 : vs.toList.all (·.oneCell') = true) (hg : H.get g = some (.row cs e true)) (hoff : off + n ≤ cs.length) (h : R none (H.set g (some (.row (setAll cs off vs.toList) e true)))) : CDo P o fr H R := .mk fun B w0 ρ a w hs hf next Q hnx => by
  rw [ho] at hf
  obtain ⟨sp, hsp, ex⟩ := (ev_rel hf (x := x) (by simp [Op.operands]) hx).ptr_inv
  obtain ⟨ds, hd, hr⟩ := (ev_rel hf (x := y) (by simp [Op.operands]) hy).agg_inv
  obtain ⟨sp', C, fz, k1, k2, k3, k4, k5, k6, k7, k8⟩ := hs.live _ _ hg
  rw [hsp] at k1
  cases k1
  obtain ⟨hfz, hB⟩ := k6 rfl
  subst hfz
  have hdl : ds.size = n := by have := hr.1; simp at this; omega
  have h1' : ∀ c ∈ ds.toList, c.oneCell' = true := by
    intro c hc
    obtain ⟨i, hi⟩ := List.getElem?_of_mem hc
    have hil : i < vs.toList.length := by rw [hr.1]; exact (List.getElem?_eq_some_iff.1 hi).1
    have hv : vs.toList[i]? = some vs.toList[i] := List.getElem?_eq_getElem hil
    rw [(hr.2 i _ _ hv hi).oneCell]
    exact List.all_eq_true.1 h1 _ (List.getElem_mem _)
  have hst := run_storeCells_at P sp.blk (sp.base + off) e ds.toList 0 C w k2 (by simp; omega) h1'
  simp only [Nat.add_zero] at hst
  have hb : sp.blk < w.heap.size := (Array.getElem?_eq_some_iff.1 k2).1
  have hget : ∀ i, ((C.toList.take (sp.base + off) ++ ds.toList ++ C.toList.drop (sp.base + off + ds.toList.length)).toArray)[i]? = if sp.base + off ≤ i ∧ i < sp.base + off + n then ds[i - (sp.base + off)]? else C[i]? := by
    intro i
    simp only [List.getElem?_toArray, List.append_assoc]
    rw [List.getElem?_append]
    have e1 : (C.toList.take (sp.base + off)).length = sp.base + off := by simp; omega
    rw [e1]
    by_cases hi : i < sp.base + off
    · rw [if_pos hi, if_neg (by omega), List.getElem?_take, if_pos hi]
      simp
    · rw [if_neg hi, List.getElem?_append]
      by_cases hi2 : i < sp.base + off + n
      · rw [if_pos (by simp [hdl]; omega), if_pos (by omega)]
        simp
      · rw [if_neg (by simp [hdl]; omega), if_neg (by omega)]
        simp only [List.getElem?_drop, Array.length_toList, hdl, Array.getElem?_toList]
        congr 1
        omega
  have hsize : ((C.toList.take (sp.base + off) ++ ds.toList ++ C.toList.drop (sp.base + off + ds.toList.length)).toArray).size = C.size := by
    simp [hdl]; omega
  have hs' := hs.update hg hsp (w' := w.setRow sp.blk (C.toList.take (sp.base + off) ++ ds.toList ++ C.toList.drop (sp.base + off + ds.toList.length)).toArray) (cs' := setAll cs off vs.toList)
    (setRow_heap w sp.blk C _ e (0, 0) k2) (by rw [hsize]; exact k3) (by rw [hsize, length_setAll]; exact k4) (fun i u hu => by
    rw [setAll_get _ _ _ _ (by simp; omega)] at hu
    rw [hget]
    by_cases h2 : off ≤ i ∧ i < off + vs.toList.length
    · rw [if_pos h2] at hu
      simp only [Array.length_toList, hn] at h2
      rw [if_pos (by omega), show sp.base + i - (sp.base + off) = i - off by omega]
      obtain ⟨c, h3, h4⟩ := hr.get hu
      exact ⟨c, by simpa using h3, h4⟩
    · rw [if_neg h2] at hu
      simp only [Array.length_toList, hn] at h2
      rw [if_neg (by omega)]
      exact k5 i u hu) (fun k hk => setRow_other w _ k _ hk) (by simp [World.setRow]) rfl rfl rfl
  refine upon_skip (w' := w.setRow sp.blk (C.toList.take (sp.base + off) ++ ds.toList ++ C.toList.drop (sp.base + off + ds.toList.length)).toArray) ?_ (hnx ρ none undef _ _ h (.refl ρ) hs' fun y hy => by cases hy)
  unfold execOp
  simp only [ho, ex, hd]
  refine u_run' ?_
  simp only [Option.map_eq_some_iff] at ht
  obtain ⟨inf, hinf, hsz⟩ := ht
  simp only [Instr.storeAt, Instr.sureAddr, storeVar, Sem.run_bind, Sem.run_pure, Result.andThen_ok, sizeOf_run hinf, hsz]
  rw [if_neg (by simp [Value.cells, hdl])]
  exact hst
end
end Go.GL
namespace Go.GL
open Go.RowKit
variable [MainFlag]

inductive SrcG (P : Program) (fr : Slots) (H : GHeap) (sz : Nat) (tx : TypeId) (x : Operand) : Nat → List Value → Prop
  | slice {e : TypeId} {k g o m : Nat} {news : List Value} (ht : sliceT P tx = some (e, k)) (h : ev fr x = some (.slice (some ⟨g, o, none⟩) m m)) (hl : news.length = m * sz)
      (hc : ∀ (i : Nat) (v : Value), news[i]? = some v → H.cell g (o + i) = some v) (h1 : ∀ v ∈ news, v.oneCell' = true) : SrcG P fr H sz tx x m news
  | nil {e : TypeId} {k : Nat} (ht : sliceT P tx = some (e, k)) (h : ev fr x = some (.slice none 0 0)) : SrcG P fr H sz tx x 0 []
  | empty {e : TypeId} {k : Nat} {b : Option Addr} (ht : sliceT P tx = some (e, k)) (h : ev fr x = some (.slice b 0 0)) : SrcG P fr H sz tx x 0 []
  | str {s : ByteArray} (ht : isStringT P tx = true) (hs : sz = 1) (h : ev fr x = some (.string s)) : SrcG P fr H sz tx x s.size (byteCells s)

section
variable {P : Program} {B : Nat} {w0 : World} {ρ : Place} {H : GHeap} {w : World} {fr : Slots} {a : Act}

theorem cells_run (hs : Sim P B w0 ρ H w) {g : Nat} {sp : Spot} (hsp : ρ g = some sp) : ∀ (vs : List Value) (off : Nat), (∀ (i : Nat) (v : Value), vs[i]? = some v → H.cell g (off + i) = some v) →
    ∃ cs : List Value, LRel ρ vs cs ∧ ∀ (j : Nat) (c : Value), cs[j]? = some c → w.cell? ⟨sp.blk, sp.base + off + j, none⟩ = some c
  | [], off, _ => ⟨[], .nil ρ, fun j c hj => by simp at hj⟩
  | v :: vs, off, hc => by
    obtain ⟨cs, h1, h2⟩ := cells_run hs hsp vs (off + 1) (fun i v hv => by rw [show off + 1 + i = off + (i + 1) by omega]; exact hc (i + 1) v (by simpa using hv))
    obtain ⟨c, hcell, hr⟩ := hs.cell hsp (hc 0 v rfl)
    refine ⟨c :: cs, .cons hr h1, fun j c' hj => ?_⟩
    cases j with
    | zero => simp at hj; subst hj; exact hcell
    | succ j => rw [show sp.base + off + (j + 1) = sp.base + (off + 1) + j by omega]; exact h2 j c' (by simpa using hj)

theorem LRel.one {ρ : Place} {vs cs : List Value} (h : LRel ρ vs cs) (h1 : ∀ v ∈ vs, v.oneCell' = true) : ∀ c ∈ cs, c.oneCell' = true := by
  intro c hc
  obtain ⟨i, hi⟩ := List.getElem?_of_mem hc
  have hil : i < vs.length := by rw [h.1]; exact (List.getElem?_eq_some_iff.1 hi).1
  have hv : vs[i]? = some vs[i] := List.getElem?_eq_getElem hil
  rw [(h.2 i _ _ hv hi).oneCell]
  exact h1 _ (List.getElem_mem _)

theorem byteCells_rel (ρ : Place) (s : ByteArray) : LRel ρ (byteCells s) (byteCells s) := ⟨rfl, fun i v c hv hc => by
  rw [hv] at hc
  cases hc
  obtain ⟨b, _, rfl⟩ := List.mem_map.1 (List.mem_of_getElem? hv)
  exact .int _ _⟩

theorem SrcG.sound {sz : Nat} {tx : TypeId} {x : Operand} {m : Nat} {news : List Value} (h : SrcG P fr H sz tx x m news) (hs : Sim P B w0 ρ H w) {L : Array Operand} (hx : x ∈ L)
    (hf : ∀ t v, Operand.tmp t ∈ L → fr.get t = some v → VRel ρ v (a.eval (.tmp t))) : ∃ cnews, Src P sz tx (a.eval x) m cnews w ∧ LRel ρ news cnews ∧ news.length = m * sz := by
  cases h with
  | slice ht he hl hc h1 =>
    rename_i e k g off
    obtain ⟨hu, _⟩ := sliceT_run ht
    obtain ⟨_, sp, hsp, hb⟩ := (ev_rel hf hx he).slice_inv
    rcases hb with ⟨cap, hb, _⟩ | ⟨hm, a', hb⟩
    · obtain ⟨cs, hr, hcs⟩ := cells_run hs hsp news off hc
      refine ⟨cs, ?_, hr, hl⟩
      rw [hb]
      exact Src.ofSlice w hu _ m cap cs (by rw [← hr.1, hl]) (fun j u hj => by rw [add_mk]; exact hcs j u hj) (hr.one h1)
    · subst hm
      have hn : news = [] := List.eq_nil_of_length_eq_zero (by simpa using hl)
      subst hn
      refine ⟨[], ?_, .nil ρ, hl⟩
      rw [hb]
      exact Src.ofSlice w hu _ 0 0 [] (by simp) (fun j u hj => by simp at hj) (fun u hu => by cases hu)
  | nil ht he =>
    obtain ⟨hu, _⟩ := sliceT_run ht
    obtain ⟨_, _, hb⟩ := (ev_rel hf hx he).nilSlice_inv
    refine ⟨[], ?_, .nil ρ, by simp⟩
    rw [hb]
    exact Src.ofNil w hu 0
  | empty ht he =>
    obtain ⟨hu, _⟩ := sliceT_run ht
    have hr := ev_rel hf hx he
    refine ⟨[], ?_, .nil ρ, by simp⟩
    generalize hc : a.eval x = c at hr
    cases hr with
    | nilSlice => exact Src.ofNil w hu 0
    | slice _ _ _ _ => exact Src.ofSlice w hu _ 0 _ [] (by simp) (fun j u hj => by simp at hj) (fun u hu => by cases hu)
    | empty _ => rename_i a' _; exact Src.ofSlice w hu _ 0 _ [] (by simp) (fun j u hj => by simp at hj) (fun u hu => by cases hu)
  | str ht hsz he =>
    rename_i s
    subst hsz
    refine ⟨byteCells s, ?_, byteCells_rel ρ s, by rw [byteCells_length, Nat.mul_one]⟩
    rw [(ev_rel hf hx he).string_inv]
    exact Src.ofString w (isStringT_run ht) s

theorem append_room {t tx ty e : TypeId} {i : TypeInfo} (ht : P.underlying t = some (.slice e)) (hi : P.info? e = some i) {b off sLen sCap : Nat} {x : Value} {n : Nat} {news : List Value} (hs : Src P i.size tx x n news w) (hroom : sLen + n ≤ sCap) {w' : World}
    (hst : (storeCells ⟨b, off + sLen * i.size, none⟩ news).run P w = .ok () w') :
    (Builtin.append_ #[t, tx] ty #[.slice (some ⟨b, off, none⟩) sLen sCap, x]).run P w = .ok (.slice (some ⟨b, off, none⟩) (sLen + n) sCap) w' := by
  rcases hs.kind with ⟨e', hk⟩ | hk <;> simp [Builtin.append_, run_underlying ht, run_underlying hk, sizeOf, typeInfo, hi, hs.len, hroom, hs.cells, Addr.add_lit, hst]

theorem append_upon {o : Oper} {t tx : TypeId} {s x : Operand} (ho : o.op = .call { callee := .builtin .append, args := #[s, x], argTypes := #[t, tx] }) {next : Act → World → Prop} {Q : Exit → Act → World → Prop} {v : Value} {w' : World}
    (hr : (Builtin.append_ #[t, tx] o.type #[a.eval s, a.eval x]).run P w = .ok v w') (hn : next (a.put o.dst v) w') : o.wpN P (Below B w0) a w next Q := by
  refine upon_value (c := v) (w' := w') ?_ hn
  unfold execOp
  simp only [ho, resolve, invoke, builtin, Sem.run_bind, Sem.run_pure, Result.andThen_ok, List.map_toArray, List.map_cons, List.map_nil, hr]
end

section
variable {P : Program} {H : GHeap} {fr : Slots} {o : Oper} {R : Option Value → GHeap → Prop}

theorem grow_row {B : Nat} {w0 w : World} {ρ : Place} (hs : Sim P B w0 ρ H w) {e : TypeId} {i : TypeInfo} {z : Value} (hi : P.info? e = some i) (hzs : z.cells.size = i.size) {vs cs : List Value} (hr : LRel ρ vs cs) {need old : Nat} (hl : vs.length = need * i.size) (hm : need ≤ maxLen) :
    ∃ ρ', Ext ρ ρ' ∧ Sim P B w0 ρ' (H.push (.row vs e true)) (w.drew.alloc (.cells (cs.toArray ++ Builtin.zeroCells z.cells (grownCap w need old e - need)) e)) ∧
      VRel ρ' (.slice (some ⟨H.next, 0, none⟩) need need) (.slice (some ⟨w.heap.size, 0, none⟩) need (grownCap w need old e)) := by
  have hge := grownCap_ge w need old e
  have hd : Sim P B w0 ρ H w.drew := hs.drew
  have hcl : cs.length = need * i.size := by rw [← hr.1, hl]
  obtain ⟨ρ', hext, hs', hsp⟩ := new_row hd (cs := vs) (C := cs.toArray ++ Builtin.zeroCells z.cells (grownCap w need old e - need)) (e := e) (n := i.size) (by simp [hi]) (by simp; have := hr.1; omega) (fun j v hv => by
    obtain ⟨c, h1, h2⟩ := hr.get hv
    refine ⟨c, ?_, h2⟩
    have hj : j < cs.length := (List.getElem?_eq_some_iff.1 h1).1
    rw [Array.getElem?_append_left (by simpa using hj)]
    simpa using h1)
  refine ⟨ρ', hext, hs', ?_⟩
  have hsz : (cs.toArray ++ Builtin.zeroCells z.cells (grownCap w need old e - need)).size = grownCap w need old e * i.size := by
    simp only [Array.size_append, List.size_toArray, size_zeroCells, hzs, hcl, ← Nat.add_mul]
    congr 1
    omega
  have := VRel.slice (ρ := ρ') (g := H.next) (o := 0) (n := need) (cap := grownCap w need old e) hsp hge (by simp only [hsz]; omega) (grownCap_le_maxLen w need old e hm)
  simpa using this

theorem CDo.append {t tx e : TypeId} {s x : Operand} {g off n m sz bytes : Nat} {z cs news : List Value} (ho : o.op = .call { callee := .builtin .append, args := #[s, x], argTypes := #[t, tx] }) (ht : sliceT P t = some (e, sz)) (hz : zeroT P e = some (z, sz)) (hzn : z.length = sz)
    (hb : (P.info? e).map (·.bytes) = some bytes) (hsv : ev fr s = some (.slice (some ⟨g, off, none⟩) n n)) (hg : H.get g = some (.row cs e true)) (hend : off + n * sz = cs.length) (hsrc : SrcG P fr H sz tx x m news)
    (hN : n + m ≤ maxLen) (hB : (n + m) * bytes ≤ 140737488355328)
    (h : R (some (.slice (some ⟨H.next, 0, none⟩) (n + m) (n + m))) ((H.set g none).push (.row (cs.drop off ++ news) e true))) : CDo P o fr H R := .mk fun B w0 ρ a w hs hf next Q hn => by
  rw [ho] at hf
  obtain ⟨hu, inf, hinf, hsz⟩ := sliceT_run ht
  obtain ⟨i, zv, hi, hz0, rfl, hn'⟩ := zeroT_run hz
  rw [hinf] at hi
  cases hi
  have hbb : inf.bytes = bytes := by rw [hinf] at hb; simpa using hb
  subst hbb
  subst hsz
  obtain ⟨cnews, hsr, hnr, hnl⟩ := hsrc.sound hs (L := (Op.call { callee := .builtin .append, args := #[s, x], argTypes := #[t, tx] }).operands) (by simp [Op.operands, Call.operands]) hf
  obtain ⟨_, sp, hsp, hcase⟩ := (ev_rel hf (x := s) (by simp [Op.operands, Call.operands]) hsv).slice_inv
  obtain ⟨sp', C, fz, k1, k2, k3, k4, k5, k6, k7, k8⟩ := hs.live _ _ hg
  rw [hsp] at k1
  cases k1
  obtain ⟨hfz, hBb⟩ := k6 rfl
  subst hfz
  have hes : sp.esz = inf.size := by have k8 := k8 rfl; rw [hinf] at k8; simp at k8; omega
  have hlt := GHeap.ltg hg
  have hN' : n + m ≤ 9223372036854775807 := by unfold maxLen at hN; omega
  have hdl : (cs.drop off).length = n * inf.size := by simp; omega
  have hzs : zv.cells.size = inf.size := by simpa using hzn
  obtain ⟨olds, hor, hoc⟩ := cells_run hs hsp (cs.drop off) off (fun j v hv => by rw [GHeap.cell_of hg]; simpa using hv)
  have hol : olds.length = n * inf.size := by rw [← hor.1, hdl]
  have grow : ∀ (base : Option Addr) (sCap : Nat), sCap < n + m → (Builtin.firstCells inf.size n (.slice base n sCap)).run P w.drew = .ok olds.toArray w.drew → a.eval s = .slice base n sCap → o.wpN P (Below B w0) a w next Q := by
    intro base sCap hlt' hold hes'
    have hr := run_append_grow_src (P := P) w t tx o.type e inf zv hu hinf hz0 base n sCap olds hold (a.eval x) m cnews hsr hlt' (by omega) (growslice_fits hlt' hB)
    have hs0 : Sim P B w0 ρ (H.set g none) w := hs.fewer (by simp) (fun k y hk => by
      by_cases ek : k = g
      · subst ek; rw [GHeap.get_set_eq hlt] at hk; cases hk
      · rw [GHeap.get_set_ne (Ne.symm ek)] at hk; exact hk)
    obtain ⟨ρ', hext, hs', hv⟩ := grow_row hs0 hinf hzs (hor.append hnr) (need := n + m) (old := sCap) (by rw [List.length_append, hdl, hnl, ← Nat.add_mul]) hN
    refine append_upon ho (by rw [hes']; exact hr) (hn ρ' _ _ _ _ h hext hs' fun y hy => ?_)
    cases hy
    simpa using hv
  rcases hcase with ⟨cap, hes', hcap, hroom, hmx⟩ | ⟨hn0, a', hes'⟩
  · rw [hes] at hroom
    by_cases hfit : n + m ≤ cap
    · -- room: the cells are stored behind the old ones
      have hfit' : (n + m) * inf.size ≤ cap * inf.size := Nat.mul_le_mul_right _ hfit
      rw [Nat.add_mul] at hfit'
      have hcl : cnews.length = m * inf.size := by rw [← hnr.1, hnl]
      have hst := run_storeCells_at P sp.blk (sp.base + off + n * inf.size) e cnews 0 C w k2 (by rw [hcl, k3]; omega) (by
        intro c hc
        exact hsr.one c hc)
      simp only [Nat.add_zero] at hst
      have hr := append_room (P := P) (ty := o.type) hu hinf hsr hfit hst
      have hsize : ((C.toList.take (sp.base + off + n * inf.size) ++ cnews ++ C.toList.drop (sp.base + off + n * inf.size + cnews.length)).toArray).size = C.size := by
        simp [hcl]; omega
      obtain ⟨hs', hext⟩ := hs.onward hg hsp (w' := w.setRow sp.blk (C.toList.take (sp.base + off + n * inf.size) ++ cnews ++ C.toList.drop (sp.base + off + n * inf.size + cnews.length)).toArray) (cs' := cs.drop off ++ news) (off := off)
        (setRow_heap w sp.blk C _ e (0, 0) k2) (by rw [hsize]; exact k3) (by rw [hsize, List.length_append, hdl, hnl, k3]; omega) (fun j v hv => by
          rw [List.getElem?_append] at hv
          simp only [List.getElem?_toArray, List.append_assoc]
          rw [List.getElem?_append]
          have e1 : (C.toList.take (sp.base + off + n * inf.size)).length = sp.base + off + n * inf.size := by simp; omega
          rw [e1]
          by_cases hj : j < (cs.drop off).length
          · rw [if_pos hj] at hv
            rw [hdl] at hj
            rw [if_pos (by omega), List.getElem?_take, if_pos (by omega)]
            obtain ⟨c, h2, h3⟩ := k5 (off + j) v (by simpa using hv)
            exact ⟨c, by rw [← h2]; simp [Nat.add_assoc], h3⟩
          · rw [if_neg hj] at hv
            rw [hdl] at hj hv
            rw [if_neg (by omega)]
            obtain ⟨c, h2, h3⟩ := hnr.get hv
            have hjl := (List.getElem?_eq_some_iff.1 h2).1
            refine ⟨c, ?_, h3⟩
            rw [List.getElem?_append_left (by omega)]
            rw [← h2]
            congr 1
            omega) (fun k hk => setRow_other w _ k _ hk) (by simp [World.setRow]) rfl rfl rfl
      refine append_upon ho (by rw [hes']; exact hr) (hn _ _ _ _ _ h hext hs' fun y hy => ?_)
      cases hy
      have := VRel.slice (ρ := place ρ H.next ⟨sp.blk, sp.base + off, sp.csize, sp.esz⟩) (g := H.next) (o := 0) (n := n + m) (cap := cap) place_self hfit (by simp only [hes]; omega) hmx
      simpa using this
    · refine grow _ cap (by omega) ?_ hes'
      exact run_firstCells_some w.drew inf.size n _ n cap olds hol (fun j u hj => by rw [add_mk]; simpa using hoc j u hj)
  · subst hn0
    by_cases hm : m = 0
    · subst hm
      have hnn : news = [] := List.eq_nil_of_length_eq_zero (by simpa using hnl)
      have hcn : cnews = [] := List.eq_nil_of_length_eq_zero (by rw [← hnr.1, hnn]; rfl)
      subst hnn
      subst hcn
      have hdr : cs.drop off = [] := List.eq_nil_of_length_eq_zero (by rw [hdl]; simp)
      have hr : (Builtin.append_ #[t, tx] o.type #[.slice (some a') 0 0, a.eval x]).run P w = .ok (.slice (some a') 0 0) w := by
        rcases hsr.kind with ⟨e', hk⟩ | hk <;> simp [Builtin.append_, run_underlying hu, run_underlying hk, sizeOf, typeInfo, hinf, hsr.len, hsr.cells, storeCells]
      obtain ⟨hs', hext⟩ := hs.onward hg hsp (w' := w) (C' := C) (cs' := cs.drop off ++ []) (off := off) k2 k3 (by rw [hdr]; simp; simp at hend; omega) (fun j v hv => by rw [hdr] at hv; simp at hv) (fun _ _ => rfl) rfl rfl rfl rfl
      refine append_upon ho (by rw [hes']; exact hr) (hn _ _ _ _ _ h hext hs' fun y hy => ?_)
      cases hy
      exact .empty place_self
    · refine grow _ 0 (by omega) ?_ hes'
      have : olds = [] := List.eq_nil_of_length_eq_zero (by simpa using hol)
      subst this
      exact run_firstCells_some w.drew inf.size 0 _ 0 0 [] (by simp) (fun j u hj => by simp at hj)

theorem CDo.call {f : FuncId} {args : Array Operand} {ts : Array TypeId} {vs : List Value} {Q : Value → GHeap → Prop} (ho : o.op = .call { callee := .value (.func f), args := args, argTypes := ts }) (hcall : Enters P f)
    (hv : evs fr args.toList = some vs) (hc : GCalls P f vs H Q) (h : ∀ v H', Q v H' → R (some v) H') : CDo P o fr H R := .mk fun B w0 ρ a w hs hf next Qx hn => by
  rw [ho] at hf
  have hrel := evs_rel (xs := args.toList) hf (fun x hx => by simp only [Op.operands, Call.operands]; simp; exact .inr (by simpa using hx)) hv
  have hex : (execOp a.eval o).run P w = .ok (.enter f (args.map a.eval)) w := by
    unfold execOp
    simp only [ho, resolve, Act.eval, Deferred.ofValue, invoke, Sem.run_bind, Sem.run_pure, Result.andThen_ok, hcall.run, Array.empty_append, Array.append_empty]
  refine ⟨Calm.events _ _ _ (calm_callF ho rfl hcall) calmA_nil, ?_⟩
  rw [hex]
  unfold Oper.uponM
  refine ⟨hs.below, ?_⟩
  have hc' := hc B w0 ρ (args.toList.map a.eval) w hs hrel
  rw [show (args.toList.map a.eval).toArray = args.map a.eval from Array.ext' (by simp)] at hc'
  refine hc'.mono fun e w' ⟨v, c, ρ', H', he, hQ, hx, hs', hv'⟩ => ?_
  subst he
  exact hn ρ' (some v) c H' w' (h v H' hQ) hx hs' (fun y hy => by cases hy; exact hv')

end
end Go.GL
namespace Go.GL
open Go.RowKit Go.Conc
variable [MainFlag]

def guardSlot (ops : Array Oper) (j : Nat) : Option Tmp := (ops[j]?).bind (·.dst)

def GV (u : Value) : Prop := (∃ c, u = .bool c) ∨ u = undef
theorem vrel_undef (ρ : Place) : VRel ρ undef undef := .tuple rfl (fun i h => by simp at h)
def GDo (P : Program) (o : Oper) (k : Nat) (fr : Slots) (H : GHeap) (K : Slots → GHeap → Prop) : Prop :=
  (∃ v, MStep P fr H o.op v ∧ K (putS fr o.dst (some v)) H) ∨ (k ≠ 2 ∧ CDo P o fr H fun v H' => (k = 1 → H.Le H') ∧ K (putS fr o.dst v) H')

def GRun (P : Program) (N : Nat) (ops : Array Oper) (Q : Slots → GHeap → Prop) : List (Oper × Nat) → Slots → GHeap → Prop
  | [], fr, H => Q fr H
  | (o, k) :: L, fr, H => dstOk N o = true ∧
    match o.guard with
    | none => GDo P o k fr H (GRun P N ops Q L)
    | some (j, want) => ∃ t u, guardSlot ops j = some t ∧ fr.get t = some u ∧ GV u ∧ (u = .bool want → GDo P o k fr H (GRun P N ops Q L)) ∧ (u ≠ .bool want → GRun P N ops Q L (putS fr o.dst (some undef)) H)

section
variable {P : Program} {N : Nat} {ops : Array Oper} {Q : Slots → GHeap → Prop} {L : List (Oper × Nat)} {fr : Slots} {H : GHeap} {o : Oper} {k : Nat}

theorem GRun.nil (h : Q fr H) : GRun P N ops Q [] fr H := h
theorem GRun.m {d : Tmp} {v : Value} (hd : o.dst = some d) (hN : Nat.blt d N = true) (hg : o.guard = none) (hm : MStep P fr H o.op v) (h : GRun P N ops Q L ((d, some v) :: fr) H) : GRun P N ops Q ((o, k) :: L) fr H := by
  unfold GRun
  refine ⟨by unfold dstOk; rw [hd]; exact hN, ?_⟩
  rw [hg]
  exact .inl ⟨v, hm, by rw [hd]; exact h⟩
theorem GRun.mg {d t : Tmp} {v : Value} {j : Nat} {want : Bool} (hd : o.dst = some d) (hN : Nat.blt d N = true) (hg : o.guard = some (j, want)) (ht : guardSlot ops j = some t) (hb : fr.get t = some (.bool want)) (hm : MStep P fr H o.op v) (h : GRun P N ops Q L ((d, some v) :: fr) H) :
    GRun P N ops Q ((o, k) :: L) fr H := by
  unfold GRun
  refine ⟨by unfold dstOk; rw [hd]; exact hN, ?_⟩
  rw [hg]
  exact ⟨t, .bool want, ht, hb, .inl ⟨_, rfl⟩, fun _ => .inl ⟨v, hm, by rw [hd]; exact h⟩, fun hne => absurd rfl hne⟩
theorem GRun.sg {d t : Tmp} {j : Nat} {want : Bool} (hd : o.dst = some d) (hN : Nat.blt d N = true) (hg : o.guard = some (j, want)) (ht : guardSlot ops j = some t) (hb : fr.get t = some (.bool (!want))) (h : GRun P N ops Q L ((d, some undef) :: fr) H) :
    GRun P N ops Q ((o, k) :: L) fr H := by
  unfold GRun
  refine ⟨by unfold dstOk; rw [hd]; exact hN, ?_⟩
  rw [hg]
  exact ⟨t, .bool (!want), ht, hb, .inl ⟨_, rfl⟩, fun he => absurd he (by cases want <;> simp), fun _ => by rw [hd]; exact h⟩
theorem GRun.c {d : Tmp} {R : Option Value → GHeap → Prop} (hd : o.dst = some d) (hN : Nat.blt d N = true) (hg : o.guard = none) (hk : k ≠ 2) (hc : CDo P o fr H R) (h : ∀ v H', R v H' → (k = 1 → H.Le H') ∧ GRun P N ops Q L ((d, v) :: fr) H') :
    GRun P N ops Q ((o, k) :: L) fr H := by
  unfold GRun
  refine ⟨by unfold dstOk; rw [hd]; exact hN, ?_⟩
  rw [hg]
  refine .inr ⟨hk, .mkI fun l B w0 ρ a w hs hf next Qx hn => hc.run l B w0 ρ a w hs hf next Qx fun ρ' v c H' w' hR he hs' hv => hn ρ' v c H' w' ?_ he hs' hv⟩
  rw [hd]
  exact h v H' hR
theorem GRun.cg {d t : Tmp} {R : Option Value → GHeap → Prop} {j : Nat} {want : Bool} (hd : o.dst = some d) (hN : Nat.blt d N = true) (hg : o.guard = some (j, want)) (ht : guardSlot ops j = some t) (hb : fr.get t = some (.bool want)) (hk : k ≠ 2) (hc : CDo P o fr H R)
    (h : ∀ v H', R v H' → (k = 1 → H.Le H') ∧ GRun P N ops Q L ((d, v) :: fr) H') : GRun P N ops Q ((o, k) :: L) fr H := by
  unfold GRun
  refine ⟨by unfold dstOk; rw [hd]; exact hN, ?_⟩
  rw [hg]
  refine ⟨t, .bool want, ht, hb, .inl ⟨_, rfl⟩, fun _ => ?_, fun hne => absurd rfl hne⟩
  refine .inr ⟨hk, .mkI fun l B w0 ρ a w hs hf next Qx hn => hc.run l B w0 ρ a w hs hf next Qx fun ρ' v c H' w' hR he hs' hv => hn ρ' v c H' w' ?_ he hs' hv⟩
  rw [hd]
  exact h v H' hR
theorem GRun.c0 {R : Option Value → GHeap → Prop} (hd : o.dst = none) (hg : o.guard = none) (hk : k ≠ 2) (hc : CDo P o fr H R) (h : ∀ v H', R v H' → (k = 1 → H.Le H') ∧ GRun P N ops Q L fr H') : GRun P N ops Q ((o, k) :: L) fr H := by
  unfold GRun
  refine ⟨by unfold dstOk; rw [hd], ?_⟩
  rw [hg]
  refine .inr ⟨hk, .mkI fun l B w0 ρ a w hs hf next Qx hn => hc.run l B w0 ρ a w hs hf next Qx fun ρ' v c H' w' hR he hs' hv => hn ρ' v c H' w' ?_ he hs' hv⟩
  rw [hd]
  exact h v H' hR
theorem wanted_none {tmps : Array Value} (h : o.guard = none) : Region.wanted o (yielded ops tmps) = true := by simp [Region.wanted, h]
theorem yielded_of {a : Act} {ρ : Place} {t : Tmp} {j : Nat} {c : Bool} (ht : guardSlot ops j = some t) (hv : VRel ρ (.bool c) (a.eval (.tmp t))) : yielded ops a.tmps j = some c := by
  have e : a.tmps.getD t undef = .bool c := hv.bool_inv
  unfold yielded
  unfold guardSlot at ht
  rw [ht]
  simp only [Option.bind_some]
  rw [Array.getD_eq_getD_getElem?] at e
  cases hx : a.tmps[t]? with
  | none => rw [hx] at e; cases e
  | some x =>
    rw [hx] at e
    simp at e
    subst e
    rfl
theorem wanted_of {a : Act} {ρ : Place} {t : Tmp} {j : Nat} {want c : Bool} (hg : o.guard = some (j, want)) (ht : guardSlot ops j = some t) (hv : VRel ρ (.bool c) (a.eval (.tmp t))) : Region.wanted o (yielded ops a.tmps) = (c == want) := by
  unfold Region.wanted
  rw [hg]
  simp only [yielded_of ht hv]
  cases c <;> cases want <;> rfl
theorem wanted_gv {a : Act} {ρ : Place} {t : Tmp} {j : Nat} {want : Bool} {u : Value} (hg : o.guard = some (j, want)) (ht : guardSlot ops j = some t) (hu : GV u) (hv : VRel ρ u (a.eval (.tmp t))) : Region.wanted o (yielded ops a.tmps) = true ↔ u = .bool want := by
  rcases hu with ⟨c, rfl⟩ | rfl
  · rw [wanted_of hg ht hv]
    exact ⟨fun e => by rw [eq_of_beq e], fun e => by cases e; simp⟩
  · refine ⟨fun e => ?_, fun e => (by cases e)⟩
    exfalso
    unfold Region.wanted at e
    rw [hg] at e
    have e1 : a.tmps.getD t undef = a.eval (.tmp t) := rfl
    generalize a.eval (.tmp t) = x at hv e1
    have e2 : ∃ ds, x = .tuple ds := by
      generalize hz : undef = z at hv
      cases hv with
      | tuple => exact ⟨_, rfl⟩
      | _ => cases hz
    obtain ⟨ds, rfl⟩ := e2
    unfold yielded at e
    unfold guardSlot at ht
    simp only [ht, Option.bind_some] at e
    rw [Array.getD_eq_getD_getElem?] at e1
    cases hx : a.tmps[t]? with
    | none => rw [hx] at e; simp at e
    | some y =>
      rw [hx] at e e1
      simp only [Option.getD_some] at e1
      subst e1
      simp at e
end

def GT (P : Program) (N : Nat) (c : Code) (Q : Exit → Slots → GHeap → Prop) (fr : Slots) (H : GHeap) : Prop :=
  ∀ (l : Option Nat) (D : List Deferred) (B : Nat) (w0 : World) (ρ : Place) (a : Act) (w : World), Sim P B w0 ρ H w → FRel N D ρ fr a →
    c.wpM P (Below B w0) (fun e a' w' => ∃ ρ' fr' H', Q e fr' H' ∧ Ext ρ ρ' ∧ Sim P B w0 ρ' H' w' ∧ FRel N D ρ' fr' a') a w

theorem GRun.sound {P : Program} {N : Nat} {D : List Deferred} {ops : Array Oper} {Q : Slots → GHeap → Prop} {Qx : Exit → Act → World → Prop} {B : Nat} {w0 : World} : ∀ {L : List (Oper × Nat)} {fr : Slots} {H : GHeap} {ρ : Place} {a : Act} {w : World}, GRun P N ops Q L fr H → Sim P B w0 ρ H w → FRel N D ρ fr a →
    (∀ ρ' fr' H' a' w', Q fr' H' → Ext ρ ρ' → Sim P B w0 ρ' H' w' → FRel N D ρ' fr' a' → Qx .normal a' w') → wpListM P (Below B w0) ops Qx (L.map (·.1)) a w
  | [], fr, H, ρ, a, w, h, hs, hf, hq => hq ρ fr H a w h (.refl ρ) hs hf
  | (o, k) :: L, fr, H, ρ, a, w, h, hs, hf, hq => by
    unfold GRun at h
    obtain ⟨hd, h⟩ := h
    have go : GDo P o k fr H (GRun P N ops Q L) → o.wpM P (Below B w0) a w (wpListM P (Below B w0) ops Qx (L.map (·.1))) Qx := by
      intro hg
      rcases hg with ⟨v, hm, hk⟩ | ⟨_, hc⟩
      · exact hm.wpM (fun t u _ hu => hf.2.2 t u hu) hs fun c d hr hs' => GRun.sound hk hs' (hf.put hd fun x hx => by cases hx; exact hr) hq
      · refine hc.run none B w0 ρ a w hs (fun t u _ hu => hf.2.2 t u hu) _ _ fun ρ' v c H' w' hR he hs' hv => ?_
        exact GRun.sound hR.2 hs' ((hf.mono he).put hd hv) fun ρ'' fr' H'' a' w'' hQ he' => hq ρ'' fr' H'' a' w'' hQ (he.trans he')
    simp only [List.map_cons]
    unfold wpListM
    cases hgd : o.guard with
    | none =>
      rw [hgd] at h
      rw [if_pos (wanted_none hgd)]
      exact go h
    | some gw =>
      obtain ⟨j, want⟩ := gw
      rw [hgd] at h
      obtain ⟨t, u, ht, hb, hgv, h1, h2⟩ := h
      have hw := wanted_gv (o := o) (a := a) hgd ht hgv (hf.2.2 t _ hb)
      by_cases hcw : u = .bool want
      · rw [if_pos (hw.2 hcw)]
        exact go (h1 hcw)
      · rw [if_neg (fun e => hcw (hw.1 e))]
        exact ⟨fun _ _ => trivial, GRun.sound (h2 hcw) hs (hf.put hd fun x hx => by cases hx; exact vrel_undef _) hq⟩

section
variable {P : Program} {N : Nat} {Q : Exit → Slots → GHeap → Prop} {fr : Slots} {H : GHeap}

theorem GT.region {id : Nat} {ops : Array Oper} (h : GRun P N ops (fun fr' H' => Q .normal fr' H') (ops.toList.map fun o => (o, 0)) fr H) : GT P N (.region id ops false) Q fr H := fun l D B w0 ρ a w hs hf => by
  refine wpM_region_list ?_
  have := GRun.sound (Qx := fun e a' w' => ∃ ρ' fr' H', Q e fr' H' ∧ Ext ρ ρ' ∧ Sim P B w0 ρ' H' w' ∧ FRel N D ρ' fr' a') h hs hf fun ρ' fr' H' a' w' hQ he hs' hf' => ⟨ρ', fr', H', hQ, he, hs', hf'⟩
  simpa [Function.comp_def] using this

def thenG (K : Slots → GHeap → Prop) (Q : Exit → Slots → GHeap → Prop) : Exit → Slots → GHeap → Prop
  | .normal, fr, H => K fr H
  | e, fr, H => Q e fr H
def inBlockG (id : Nat) (Q : Exit → Slots → GHeap → Prop) : Exit → Slots → GHeap → Prop
  | .exit id', fr, H => bif Nat.beq id' id then Q .normal fr H else Q (.exit id') fr H
  | e, fr, H => Q e fr H

def Sub : Slots → Slots → Prop
  | [], _ => True
  | (t, some v) :: r, fr => fr.get t = some v ∧ Sub r fr
  | (_, none) :: r, fr => Sub r fr
theorem GT.seq {x y : Code} (h : ∀ K : Slots → GHeap → Prop, (∀ fr H, GT P N y Q fr H → K fr H) → GT P N x (thenG K Q) fr H) : GT P N (.seq x y) Q fr H := fun l D B w0 ρ a w hs hf => by
  refine wpM_seq (wpM_mono (h (fun fr H => GT P N y Q fr H) (fun _ _ h => h) l D B w0 ρ a w hs hf) fun e a' w' ⟨ρ', fr', H', hq, he, hs', hf'⟩ => ?_)
  cases e with
  | normal =>
    exact wpM_mono (hq l D B w0 ρ' a' w' hs' hf') fun e a'' w'' ⟨ρ'', fr'', H'', hq', he', r⟩ => ⟨ρ'', fr'', H'', hq', he.trans he', r⟩
  | exit id => exact ⟨ρ', fr', H', hq, he, hs', hf'⟩
  | goto l => exact ⟨ρ', fr', H', hq, he, hs', hf'⟩
  | ret => exact ⟨ρ', fr', H', hq, he, hs', hf'⟩
  | panic c => exact ⟨ρ', fr', H', hq, he, hs', hf'⟩
  | outgrown => exact ⟨ρ', fr', H', hq, he, hs', hf'⟩

theorem GT.cond {c : Operand} {x y : Code} {b : Bool} (hc : ev fr c = some (.bool b)) (ht : b = true → GT P N x Q fr H) (hf : b = false → GT P N y Q fr H) : GT P N (.cond c x y) Q fr H := fun l D B w0 ρ a w hs hfr => by
  have e : a.eval c = .bool b := (ev_rel (L := #[c]) (fun t v _ hv => hfr.2.2 t v hv) (by simp) hc).bool_inv
  exact wpM_cond_split e (fun hb => ht hb l D B w0 ρ a w hs hfr) (fun hb => hf hb l D B w0 ρ a w hs hfr)

theorem inBlockG_exit (id id' : Nat) (fr : Slots) (H : GHeap) : inBlockG id Q (.exit id') fr H = if id' = id then Q .normal fr H else Q (.exit id') fr H := by
  show (bif Nat.beq id' id then Q .normal fr H else Q (.exit id') fr H) = _
  by_cases hid : id' = id
  · subst hid
    rw [Nat.beq_refl, if_pos rfl]
    rfl
  · have : Nat.beq id' id = false := by
      cases hb : Nat.beq id' id with
      | false => rfl
      | true => exact absurd (Nat.eq_of_beq_eq_true hb) hid
    rw [this, if_neg hid]
    rfl

theorem GT.block {id : Nat} {c : Code} (h : GT P N c (inBlockG id Q) fr H) : GT P N (.block id c) Q fr H := fun l D B w0 ρ a w hs hf => by
  refine wpM_block (wpM_mono (h l D B w0 ρ a w hs hf) fun e a' w' ⟨ρ', fr', H', hq, he, hs', hf'⟩ => ?_)
  cases e with
  | exit id' =>
    rw [inBlockG_exit] at hq
    unfold Exit.inBlock
    by_cases hid : id' = id
    · rw [if_pos hid] at hq
      simp only [hid, if_true]
      exact ⟨ρ', fr', H', hq, he, hs', hf'⟩
    · rw [if_neg hid] at hq
      simp only [hid, if_false]
      exact ⟨ρ', fr', H', hq, he, hs', hf'⟩
  | normal => exact ⟨ρ', fr', H', hq, he, hs', hf'⟩
  | goto l => exact ⟨ρ', fr', H', hq, he, hs', hf'⟩
  | ret => exact ⟨ρ', fr', H', hq, he, hs', hf'⟩
  | panic c => exact ⟨ρ', fr', H', hq, he, hs', hf'⟩
  | outgrown => exact ⟨ρ', fr', H', hq, he, hs', hf'⟩

theorem GT.skip (h : Q .normal fr H) : GT P N .skip Q fr H := fun _ _ _ _ ρ _ _ hs hf => wpM_skip ⟨ρ, fr, H, h, .refl ρ, hs, hf⟩
theorem GT.exit {id : Nat} (h : Q (.exit id) fr H) : GT P N (.exit id) Q fr H := fun _ _ _ _ ρ _ _ hs hf => wpM_exit ⟨ρ, fr, H, h, .refl ρ, hs, hf⟩
theorem GT.ret (h : Q .ret fr H) : GT P N .ret Q fr H := fun _ _ _ _ ρ _ _ hs hf => wpM_ret ⟨ρ, fr, H, h, .refl ρ, hs, hf⟩

theorem Sub.get : ∀ {fr' fr : Slots}, Sub fr' fr → ∀ t v, fr'.get t = some v → fr.get t = some v
  | [], fr, _, t, v, h => by cases h
  | (s, some u) :: r, fr, hs, t, v, h => by
    rw [get_cons] at h
    by_cases e : s = t
    · subst e; simp only [if_true] at h; cases h; exact hs.1
    · simp only [e, if_false] at h; exact hs.2.get t v h
  | (s, none) :: r, fr, hs, t, v, h => by
    rw [get_cons] at h
    by_cases e : s = t
    · simp [e] at h
    · simp only [e, if_false] at h; exact Sub.get (fr' := r) hs t v h
theorem FRel.sub {N : Nat} {D : List Deferred} {ρ : Place} {fr fr' : Slots} {a : Act} (h : FRel N D ρ fr a) (hs : Sub fr' fr) : FRel N D ρ fr' a := ⟨h.1, h.2.1, fun t v hv => h.2.2 t v (hs.get t v hv)⟩
theorem GT.forget {c : Code} {fr' : Slots} (hs : Sub fr' fr) (h : GT P N c Q fr' H) : GT P N c Q fr H := fun l D B w0 ρ a w hsim hf => h l D B w0 ρ a w hsim (hf.sub hs)
theorem GT.loop {c : Code} {σ : Type} (F : σ → Slots) (I : σ → GHeap → Prop) (μ : σ → Nat) (s0 : σ) (hF : Sub (F s0) fr) (hI : I s0 H)
    (round : ∀ s H, I s H → ∀ K : Slots → GHeap → Prop, (∀ s' fr' H', I s' H' → μ s' < μ s → Sub (F s') fr' → K fr' H') → GT P N c (thenG K Q) (F s) H) : GT P N (.loop c) Q fr H := fun l D B w0 ρ a w hs hf => by
  intro main K hC b k cs hb hK
  have key : ∀ n s H ρ1 a w, μ s = n → I s H → Ext ρ ρ1 → Sim P B w0 ρ1 H w → FRel N D ρ1 (F s) a → K (G (b.at a (.code c :: .inLoop c :: k)) cs) w := by
    intro n
    induction n using Nat.strongRecOn with
    | _ n ih =>
      intro s H ρ1 a w hn hI hx hs hf
      have h1 := round s H hI (fun fr' H' => ∃ s', I s' H' ∧ μ s' < μ s ∧ Sub (F s') fr') (fun s' fr' H' h1 h2 h3 => ⟨s', h1, h2, h3⟩) l D B w0 ρ1 a w hs hf
      refine h1 main K hC b (.inLoop c :: k) cs hb fun e a' w' ⟨ρ', fr', H', hq, he, hs', hf'⟩ => ?_
      cases e with
      | normal =>
        obtain ⟨s', hI', hμ, hsub⟩ := hq
        exact moveM' hC rfl (fun w => stepG_inLoop) (ih (μ s') (by omega) s' H' ρ' a' w' rfl hI' (hx.trans he) hs' (hf'.sub hsub))
      | exit id => exact (hK _ _ _ ⟨ρ', fr', H', hq, hx.trans he, hs', hf'⟩).push rfl (by simp)
      | goto l => exact hK _ _ _ ⟨ρ', fr', H', hq, hx.trans he, hs', hf'⟩
      | ret => exact (hK _ _ _ ⟨ρ', fr', H', hq, hx.trans he, hs', hf'⟩).push (x := .inLoop c) rfl (by simp)
      | panic c => exact hK _ _ _ ⟨ρ', fr', H', hq, hx.trans he, hs', hf'⟩
      | outgrown => exact hK _ _ _ ⟨ρ', fr', H', hq, hx.trans he, hs', hf'⟩
  exact moveM' hC rfl (fun w => stepG_loop) (key _ s0 H ρ a w rfl hI (.refl ρ) hs (hf.sub hF))
end

def argSlots : Nat → List Value → Slots
  | _, [] => []
  | i, v :: r => (i, some v) :: argSlots (i + 1) r
theorem argSlots_get : ∀ (vs : List Value) (i t : Nat) (v : Value), (argSlots i vs).get t = some v → i ≤ t ∧ vs[t - i]? = some v
  | [], i, t, v, h => by cases h
  | u :: vs, i, t, v, h => by
    unfold argSlots at h
    rw [get_cons] at h
    by_cases e : i = t
    · subst e
      simp only [if_true] at h
      cases h
      simp
    · simp only [e, if_false] at h
      obtain ⟨h1, h2⟩ := argSlots_get vs (i + 1) t v h
      refine ⟨by omega, ?_⟩
      rw [show t - i = (t - (i + 1)) + 1 by omega]
      simpa using h2

def GRes (P : Program) (rs : List ResultVar) (fr : Slots) (H : GHeap) (Q : Value → GHeap → Prop) : Prop :=
  match rs with
  | [.tmp t] => ∃ v, fr.get t = some v ∧ Q v H
  | [.tmp t, .tmp u] => ∃ v x, fr.get t = some v ∧ fr.get u = some x ∧ Q (.tuple #[v, x]) H
  | [.tmp t, .tmp u, .tmp s] => ∃ v x y, fr.get t = some v ∧ fr.get u = some x ∧ fr.get s = some y ∧ Q (.tuple #[v, x, y]) H
  | [.tmp t, .tmp u, .tmp s, .tmp r] => ∃ v x y z, fr.get t = some v ∧ fr.get u = some x ∧ fr.get s = some y ∧ fr.get r = some z ∧ Q (.tuple #[v, x, y, z]) H
  | [.tmp t, .tmp u, .tmp s, .tmp r, .tmp q] => ∃ v x y z p, fr.get t = some v ∧ fr.get u = some x ∧ fr.get s = some y ∧ fr.get r = some z ∧ fr.get q = some p ∧ Q (.tuple #[v, x, y, z, p]) H
  | [] => Q (.tuple #[]) H
  | [.cell t e] => ∃ (g off n : Nat) (vs : List Value), fr.get t = some (.pointer (some ⟨g, off, none⟩)) ∧ aggT P e = some n ∧ vs.length = n ∧ (∀ (i : Nat) (v : Value), vs[i]? = some v → H.cell g (off + i) = some v) ∧ Q (.agg vs.toArray) H
  | [.cell t e, .tmp u] => ∃ (g off n : Nat) (vs : List Value) (x : Value), fr.get t = some (.pointer (some ⟨g, off, none⟩)) ∧ aggT P e = some n ∧ vs.length = n ∧ (∀ (i : Nat) (v : Value), vs[i]? = some v → H.cell g (off + i) = some v) ∧ fr.get u = some x ∧ Q (.tuple #[.agg vs.toArray, x]) H
  | [.cell t e, .tmp u, .tmp s] => ∃ (g off n : Nat) (vs : List Value) (x y : Value), fr.get t = some (.pointer (some ⟨g, off, none⟩)) ∧ aggT P e = some n ∧ vs.length = n ∧ (∀ (i : Nat) (v : Value), vs[i]? = some v → H.cell g (off + i) = some v) ∧ fr.get u = some x ∧ fr.get s = some y ∧ Q (.tuple #[.agg vs.toArray, x, y]) H
  | [.cell t e, .tmp u, .tmp s, .tmp r] => ∃ (g off n : Nat) (vs : List Value) (x y z : Value), fr.get t = some (.pointer (some ⟨g, off, none⟩)) ∧ aggT P e = some n ∧ vs.length = n ∧ (∀ (i : Nat) (v : Value), vs[i]? = some v → H.cell g (off + i) = some v) ∧ fr.get u = some x ∧ fr.get s = some y ∧ fr.get r = some z ∧ Q (.tuple #[.agg vs.toArray, x, y, z]) H
  | [.tmp u, .cell t e, .tmp s] => ∃ (g off n : Nat) (vs : List Value) (x y : Value), fr.get t = some (.pointer (some ⟨g, off, none⟩)) ∧ aggT P e = some n ∧ vs.length = n ∧ (∀ (i : Nat) (v : Value), vs[i]? = some v → H.cell g (off + i) = some v) ∧ fr.get u = some x ∧ fr.get s = some y ∧ Q (.tuple #[x, .agg vs.toArray, y]) H
  | _ => False

theorem FRel.tmp {N : Nat} {D : List Deferred} {ρ : Place} {fr : Slots} {a : Act} (h : FRel N D ρ fr a) {t : Nat} {v : Value} (hv : fr.get t = some v) : VRel ρ v (a.tmps.getD t undef) := h.2.2 t v hv

theorem loadVar_agg {P : Program} {B : Nat} {w0 : World} {ρ : Place} {H : GHeap} {w : World} (hs : Sim P B w0 ρ H w) {g off n : Nat} {e : TypeId} {vs : List Value} {c : Value} (hp : VRel ρ (.pointer (some ⟨g, off, none⟩)) c) (ht : aggT P e = some n) (hl : vs.length = n)
    (hc : ∀ (i : Nat) (v : Value), vs[i]? = some v → H.cell g (off + i) = some v) : ∃ ad u, c = .pointer (some ad) ∧ (∀ d, (loadVar e ad).run P (w.at d) = .ok u (w.at d)) ∧ VRel ρ (.agg vs.toArray) u := by
  obtain ⟨sp, hsp, rfl⟩ := hp.ptr_inv
  obtain ⟨cs, hr, hcs⟩ := cells_run hs hsp vs off hc
  refine ⟨_, .agg cs.toArray, rfl, fun d => ?_, .agg_of hr⟩
  obtain ⟨ha, hsz⟩ := aggT_run ht (w.at d)
  have hl' := loadCellsFrom_run (P := P) (w := w.at d) ⟨sp.blk, sp.base + off, none⟩ n 0 #[] cs (by rw [← hr.1, hl]) (fun j c hj => by rw [add_mk, Nat.zero_add]; exact hcs j c hj)
  simp only [loadVar, Sem.run_bind, Sem.run_pure, ha, hsz, Result.andThen_ok, if_true, loadCells, hl']
  simp

theorem GRes.run {P : Program} {N : Nat} {D : List Deferred} {B : Nat} {w0 : World} {ρ : Place} {H : GHeap} {w : World} {fr : Slots} {a : Act} {Q : Value → GHeap → Prop} {fn : Func} {rs : List ResultVar} (hrs : fn.results = rs.toArray) (h : GRes P rs fr H Q) (hs : Sim P B w0 ρ H w) (hf : FRel N D ρ fr a) :
    ∃ v c, (∀ d, (results fn a.tmps).run P (w.at d) = .ok c (w.at d)) ∧ VRel ρ v c ∧ Q v H := by
  unfold GRes at h
  split at h
  · obtain ⟨v, h1, hQ⟩ := h
    exact ⟨v, _, fun d => by simp [results, hrs], hf.tmp h1, hQ⟩
  · obtain ⟨v, x, h1, h2, hQ⟩ := h
    exact ⟨_, _, fun d => by simp [results, hrs], VRel.tuple_of (.cons (hf.tmp h1) (.cons (hf.tmp h2) (.nil ρ))), hQ⟩
  · obtain ⟨v, x, y, h1, h2, h3, hQ⟩ := h
    exact ⟨_, _, fun d => by simp [results, hrs], VRel.tuple_of (.cons (hf.tmp h1) (.cons (hf.tmp h2) (.cons (hf.tmp h3) (.nil ρ)))), hQ⟩
  · obtain ⟨v, x, y, z, h1, h2, h3, h4, hQ⟩ := h
    exact ⟨_, _, fun d => by simp [results, hrs], VRel.tuple_of (.cons (hf.tmp h1) (.cons (hf.tmp h2) (.cons (hf.tmp h3) (.cons (hf.tmp h4) (.nil ρ))))), hQ⟩
  · obtain ⟨v, x, y, z, p, h1, h2, h3, h4, h5, hQ⟩ := h
    exact ⟨_, _, fun d => by simp [results, hrs], VRel.tuple_of (.cons (hf.tmp h1) (.cons (hf.tmp h2) (.cons (hf.tmp h3) (.cons (hf.tmp h4) (.cons (hf.tmp h5) (.nil ρ)))))), hQ⟩
  · exact ⟨_, _, fun d => by simp [results, hrs], VRel.tuple_of (.nil ρ), h⟩
  · obtain ⟨g, off, n, vs, h1, ht, hl, hc, hQ⟩ := h
    obtain ⟨ad, u, had, hu, hr⟩ := loadVar_agg hs (hf.tmp h1) ht hl hc
    rw [Array.getD_eq_getD_getElem?] at had
    exact ⟨_, u, fun d => by simp [results, hrs, had, asAddr, hu d], hr, hQ⟩
  · obtain ⟨g, off, n, vs, x, h1, ht, hl, hc, h2, hQ⟩ := h
    obtain ⟨ad, u, had, hu, hr⟩ := loadVar_agg hs (hf.tmp h1) ht hl hc
    rw [Array.getD_eq_getD_getElem?] at had
    exact ⟨_, _, fun d => by simp [results, hrs, had, asAddr, hu d], VRel.tuple_of (.cons hr (.cons (hf.tmp h2) (.nil ρ))), hQ⟩
  · obtain ⟨g, off, n, vs, x, y, h1, ht, hl, hc, h2, h3, hQ⟩ := h
    obtain ⟨ad, u, had, hu, hr⟩ := loadVar_agg hs (hf.tmp h1) ht hl hc
    rw [Array.getD_eq_getD_getElem?] at had
    exact ⟨_, _, fun d => by simp [results, hrs, had, asAddr, hu d], VRel.tuple_of (.cons hr (.cons (hf.tmp h2) (.cons (hf.tmp h3) (.nil ρ)))), hQ⟩
  · obtain ⟨g, off, n, vs, x, y, z, h1, ht, hl, hc, h2, h3, h4, hQ⟩ := h
    obtain ⟨ad, u, had, hu, hr⟩ := loadVar_agg hs (hf.tmp h1) ht hl hc
    rw [Array.getD_eq_getD_getElem?] at had
    exact ⟨_, _, fun d => by simp [results, hrs, had, asAddr, hu d], VRel.tuple_of (.cons hr (.cons (hf.tmp h2) (.cons (hf.tmp h3) (.cons (hf.tmp h4) (.nil ρ))))), hQ⟩
  · obtain ⟨g, off, n, vs, x, y, h1, ht, hl, hc, h2, h3, hQ⟩ := h
    obtain ⟨ad, u, had, hu, hr⟩ := loadVar_agg hs (hf.tmp h1) ht hl hc
    rw [Array.getD_eq_getD_getElem?] at had
    exact ⟨_, _, fun d => by simp [results, hrs, had, asAddr, hu d], VRel.tuple_of (.cons (hf.tmp h2) (.cons hr (.cons (hf.tmp h3) (.nil ρ)))), hQ⟩
  · exact h.elim

theorem GCalls.body {P : Program} {f : FuncId} {fn : Func} {c : Code} {N : Nat} {rs : List ResultVar} {args : List Value} {H : GHeap} {Q : Value → GHeap → Prop} (hf : P.funcs[f]? = some fn) (hb : fn.body = some c) (hn : fn.ntmps = N) (hrs : fn.results = rs.toArray) (hl : Nat.ble args.length N = true)
    (h : ∀ Qx : Exit → Slots → GHeap → Prop, (∀ fr H', GRes P rs fr H' Q → Qx .ret fr H') → (∀ fr H', GRes P rs fr H' Q → Qx .normal fr H') → GT P N c Qx (argSlots 0 args) H) : GCalls P f args H Q := fun B w0 ρ cargs w hs hrel => by
  have hle : args.length ≤ N := Nat.le_of_ble_eq_true hl
  refine calls_of_wpM hf hb ?_
  have h1 := h (fun e fr H' => (e = .ret ∨ e = .normal) ∧ GRes P rs fr H' Q) (fun _ _ h => ⟨.inl rfl, h⟩) (fun _ _ h => ⟨.inr rfl, h⟩) none [] B w0 ρ { tmps := cargs.toArray ++ Array.replicate (fn.ntmps - cargs.toArray.size) undef, defers := [] } w hs ⟨by simp [hn]; have := hrel.1; omega, rfl, fun t v hv => by
    obtain ⟨_, h2⟩ := argSlots_get args 0 t v hv
    obtain ⟨cv, h3, h4⟩ := hrel.get h2
    simp only [Nat.sub_zero] at h3
    unfold Act.eval
    simp only [Array.getD_eq_getD_getElem?]
    have hlt := (List.getElem?_eq_some_iff.1 h3).1
    rw [Array.getElem?_append_left (by simpa using hlt)]
    simp [h3]
    exact h4⟩
  refine wpM_mono h1 fun e a' w' ⟨ρ', fr', H', ⟨he, hres⟩, hext, hs', hf'⟩ => ?_
  obtain ⟨v, cv, hrun, hv, hQ⟩ := hres.run hrs hs' hf'
  exact ⟨he, hf'.2.1, cv, ⟨v, cv, ρ', H', rfl, hQ, hext, hs', hv⟩, hrun⟩
end Go.GL
namespace Go.GL
open Go.RowKit
variable [MainFlag]

section
variable {P : Program} {fr fr' : Slots} {H H' : GHeap}

theorem ev_congr {x : Operand} {u : Value} (hx : ∀ t, x = .tmp t → ∀ u, fr.get t = some u → fr'.get t = some u) (h : ev fr x = some u) : ev fr' x = some u := by
  cases x with
  | tmp t => exact hx t rfl u h
  | const v => exact h
  | func f => exact h
  | global g => exact h
theorem evs_congr : ∀ {xs : List Operand} {us : List Value}, (∀ t, Operand.tmp t ∈ xs → ∀ u, fr.get t = some u → fr'.get t = some u) → evs fr xs = some us → evs fr' xs = some us
  | [], us, _, h => h
  | x :: xs, us, hx, h => by
    unfold evs at h ⊢
    split at h
    · cases h
    · rename_i v hv
      split at h
      · cases h
      · rename_i vs hvs
        rw [ev_congr (fun t ht => hx t (by simp [ht])) hv, evs_congr (fun t ht => hx t (by simp [ht])) hvs]
        exact h

theorem MStep.congr {op : Op} {v : Value} (hm : MStep P fr H op v) (hf : ∀ t, Operand.tmp t ∈ op.operands → ∀ u, fr.get t = some u → fr'.get t = some u) (hle : H.Le H') : MStep P fr' H' op v := by
  have e : ∀ {x : Operand} {u : Value}, x ∈ op.operands → ev fr x = some u → ev fr' x = some u := fun hx h => ev_congr (fun t ht => hf t (ht ▸ hx)) h
  have es : ∀ {xs : List Operand} {us : List Value}, (∀ x ∈ xs, x ∈ op.operands) → evs fr xs = some us → evs fr' xs = some us := fun hx h => evs_congr (fun t ht => hf t (hx _ ht)) h
  cases hm with
  | move h => exact .move (e (by simp [Op.operands]) h)
  | assign h => exact .assign (e (by simp [Op.operands]) h)
  | pickT hc h => exact .pickT (e (by simp [Op.operands]) hc) (e (by simp [Op.operands]) h)
  | pickF hc h => exact .pickF (e (by simp [Op.operands]) hc) (e (by simp [Op.operands]) h)
  | nilCheck h => exact .nilCheck (e (by simp [Op.operands]) h)
  | fieldAddr hk h => exact .fieldAddr hk (e (by simp [Op.operands]) h)
  | load ht h hc => exact .load ht (e (by simp [Op.operands]) h) (hle.cell hc)
  | loadN ht h hn hc => exact .loadN ht (e (by simp [Op.operands]) h) hn (fun i v hv => hle.cell (hc i v hv))
  | indexAddr ht h hi h0 h1 => exact .indexAddr ht (e (by simp [Op.operands]) h) (e (by simp [Op.operands]) hi) h0 h1
  | len ht h => exact .len ht (e (by simp [Op.operands, Call.operands]) h)
  | cmp hx hy hr => exact .cmp (e (by simp [Op.operands]) hx) (e (by simp [Op.operands]) hy) hr
  | arith hx hy hr => exact .arith (e (by simp [Op.operands]) hx) (e (by simp [Op.operands]) hy) hr
  | aggNe hg hx hy ha hb hr => exact .aggNe hg (e (by simp [Op.operands]) hx) (e (by simp [Op.operands]) hy) ha hb hr
  | not h => exact .not (e (by simp [Op.operands]) h)
  | build ht hz hv hc => exact .build ht hz (es (fun x hx => by simp only [Op.operands]; simpa using hx) hv) hc
  | extract h hv => exact .extract (e (by simp [Op.operands]) h) hv
end

inductive Tree where
  | done
  | q (i : Nat) (t : Tree)
  | c (i k : Nat) (t : Tree)
  | or (s t : Tree)

def depsOf (o : Oper) : List Nat := (o.after.toList.filter (Region.binds .any)).map (·.on)
def looks (ops : Array Oper) (o : Oper) : List Tmp :=
  (o.op.operands.toList.filterMap fun | .tmp t => some t | _ => none) ++ (match o.guard with | some (j, _) => (guardSlot ops j).toList | none => [])
def touches (ops : Array Oper) (o : Oper) (d : Tmp) : Bool := (looks ops o).contains d || o.dst == some d

def maskOf (acc : List Nat) (o : Oper) : Nat := (depsOf o).foldl (fun s j => s ||| 2 ^ j ||| acc.getD j 0) 0
def masksFrom : List Oper → List Nat → List Nat
  | [], acc => acc
  | o :: r, acc => masksFrom r (acc ++ [maskOf acc o])

structure Ctx where
  ops : Array Oper
  n : Nat
  masks : List Nat

def Ctx.op (c : Ctx) (i : Nat) : Oper := c.ops.getD i default
def Ctx.before (c : Ctx) (i j : Nat) : Bool := (c.masks.getD i 0).testBit j

def Ctx.reads (c : Ctx) (pre : List Nat) (i : Nat) : Bool := pre.all fun j => match (c.op j).dst with | some d => !(looks c.ops (c.op i)).contains d || c.before i j | none => true
def Ctx.writes (c : Ctx) (pre : List Nat) (i : Nat) : Bool := match (c.op i).dst with | some d => pre.all fun j => !touches c.ops (c.op j) d || c.before i j | none => true
def Ctx.fresh (c : Ctx) (pre : List Nat) (i : Nat) : Bool := match (c.op i).dst with | some d => (pre.all fun j => !touches c.ops (c.op j) d) && !(looks c.ops (c.op i)).contains d | none => true
def Ctx.can (c : Ctx) (pre : List Nat) (i : Nat) : Bool := Nat.blt i c.n && !pre.contains i && (depsOf (c.op i)).all pre.contains && c.reads pre i

def heads : Tree → List Nat
  | .c i _ _ => [i]
  | .or s t => heads s ++ heads t
  | _ => []
def Ctx.covers (c : Ctx) (pre : List Nat) (hs : List Nat) : Bool := (List.range c.n).all fun u => pre.contains u || hs.contains u || !((depsOf (c.op u)).all pre.contains)

def Ctx.ok (c : Ctx) (pre : List Nat) (inOr : Bool) : Tree → Bool
  | .done => !inOr && (List.range c.n).all pre.contains
  | .q i t => !inOr && c.can pre i && c.fresh pre i && c.ok (i :: pre) false t
  | .c i k t => (inOr || c.covers pre [i]) && c.can pre i && c.writes pre i && (Nat.beq k 1 || (Nat.beq k 0 && pre.all (c.before i))) && c.ok (i :: pre) false t
  | .or s t => (inOr || c.covers pre (heads s ++ heads t)) && c.ok pre true s && c.ok pre true t

def ctxOf (ops : Array Oper) : Ctx := ⟨ops, ops.size, masksFrom ops.toList []⟩

def GTree (P : Program) (N : Nat) (ops : Array Oper) (Q : Slots → GHeap → Prop) : Tree → Slots → GHeap → GHeap → Prop
  | .done, fr, _, H => Q fr H
  | .q i t, fr, Hb, H => ∃ o, ops[i]? = some o ∧ dstOk N o = true ∧
    (match o.guard with
    | none => ∃ v Hq, Hb.Le Hq ∧ Hq.Le H ∧ MStep P fr Hq o.op v ∧ GTree P N ops Q t (putS fr o.dst (some v)) Hq H
    | some (j, want) => ∃ s u, guardSlot ops j = some s ∧ fr.get s = some u ∧ GV u ∧ (u = .bool want → ∃ v Hq, Hb.Le Hq ∧ Hq.Le H ∧ MStep P fr Hq o.op v ∧ GTree P N ops Q t (putS fr o.dst (some v)) Hq H) ∧
      (u ≠ .bool want → GTree P N ops Q t (putS fr o.dst (some undef)) Hb H))
  | .c i k t, fr, Hb, H => ∃ o, ops[i]? = some o ∧ dstOk N o = true ∧
    (match o.guard with
    | none => CDo P o fr H fun v H' => (k = 1 → Hb.Le H') ∧ GTree P N ops Q t (putS fr o.dst v) (if k = 1 then Hb else H') H'
    | some (j, want) => ∃ s u, guardSlot ops j = some s ∧ fr.get s = some u ∧ GV u ∧ (u = .bool want → CDo P o fr H fun v H' => (k = 1 → Hb.Le H') ∧ GTree P N ops Q t (putS fr o.dst v) (if k = 1 then Hb else H') H') ∧
      (u ≠ .bool want → GTree P N ops Q t (putS fr o.dst (some undef)) Hb H))
  | .or s t, fr, Hb, H => GTree P N ops Q s fr Hb H ∧ GTree P N ops Q t fr Hb H
end Go.GL
namespace Go.GL
open Go.RowKit
variable [MainFlag]

theorem maskOf_bit {acc : List Nat} : ∀ (l : List Nat) (s j : Nat), (l.foldl (fun s d => s ||| 2 ^ d ||| acc.getD d 0) s).testBit j = true → s.testBit j = true ∨ ∃ d ∈ l, j = d ∨ (acc.getD d 0).testBit j = true
  | [], s, j, h => .inl h
  | d :: l, s, j, h => by
    simp only [List.foldl_cons] at h
    rcases maskOf_bit l _ j h with h | ⟨e, he, h⟩
    · simp only [Nat.testBit_or, Nat.testBit_two_pow, Bool.or_eq_true, decide_eq_true_eq] at h
      rcases h with (h | h) | h
      · exact .inl h
      · exact .inr ⟨d, by simp, .inl h.symm⟩
      · exact .inr ⟨d, by simp, .inr h⟩
    · exact .inr ⟨e, by simp [he], h⟩

section
variable {ops : Array Oper}
def opAt (ops : Array Oper) (i : Nat) : Oper := ops.getD i default
def GoodMasks (ops : Array Oper) (S : Nat → Prop) (acc : List Nat) : Prop := ∀ i j, (acc.getD i 0).testBit j = true → (∀ d ∈ depsOf (opAt ops i), S d) → S j

theorem masks_good {S : Nat → Prop} (hcl : ∀ i, S i → ∀ d ∈ depsOf (opAt ops i), S d) : ∀ (r pre : List Oper) (acc : List Nat), ops.toList = pre ++ r → acc.length = pre.length → GoodMasks ops S acc → GoodMasks ops S (masksFrom r acc)
  | [], pre, acc, _, _, hg => hg
  | o :: r, pre, acc, ho, hl, hg => by
    unfold masksFrom
    refine masks_good hcl r (pre ++ [o]) (acc ++ [maskOf acc o]) (by simp [ho]) (by simp [hl]) ?_
    intro i j hb hd
    rw [List.getD_eq_getElem?_getD] at hb
    by_cases hi : i < acc.length
    · rw [List.getElem?_append_left hi] at hb
      exact hg i j (by rw [List.getD_eq_getElem?_getD]; exact hb) hd
    · by_cases hi' : i = acc.length
      · subst hi'
        rw [List.getElem?_append_right (Nat.le_refl _)] at hb
        simp only [Nat.sub_self, List.getElem?_cons_zero, Option.getD_some] at hb
        have hop : opAt ops acc.length = o := by
          unfold opAt
          rw [Array.getD_eq_getD_getElem?, ← Array.getElem?_toList, ho, hl, List.getElem?_append_right (Nat.le_refl _)]
          simp
        rw [hop] at hd
        rcases maskOf_bit _ _ _ hb with h | ⟨d, hdm, h⟩
        · simp at h
        · rcases h with rfl | h
          · exact hd _ hdm
          · exact hg d j h (hcl d (hd d hdm))
      · rw [List.getElem?_eq_none (by simp; omega)] at hb
        simp at hb
end

section
variable {P : Program} {N : Nat} {D : List Deferred} {ops : Array Oper} {Q : Slots → GHeap → Prop} {Qx : Exit → Act → World → Prop} {B : Nat} {w0 : World} {ρ0 : Place}

def lis (listed : Array Bool) (i : Nat) : Prop := listed.getD i false = true

inductive Chain (ops : Array Oper) : List Nat → Prop
  | nil : Chain ops []
  | cons {i : Nat} {pre : List Nat} (hd : ∀ d ∈ depsOf (opAt ops i), d ∈ pre) (h : Chain ops pre) : Chain ops (i :: pre)

theorem Chain.first {pre : List Nat} (h : Chain ops pre) {S : Nat → Prop} (hn : ∃ j ∈ pre, ¬ S j) : ∃ j ∈ pre, ¬ S j ∧ ∀ d ∈ depsOf (opAt ops j), S d := by
  induction h with
  | nil => obtain ⟨j, hj, _⟩ := hn; cases hj
  | cons hd _ ih =>
    rename_i i pre _
    by_cases hex : ∃ j ∈ pre, ¬ S j
    · obtain ⟨j, hj, h1, h2⟩ := ih hex
      exact ⟨j, by simp [hj], h1, h2⟩
    · have hall : ∀ j ∈ pre, S j := fun j hj => Classical.byContradiction fun hns => hex ⟨j, hj, hns⟩
      obtain ⟨j, hj, hns⟩ := hn
      rcases List.mem_cons.1 hj with rfl | hj
      · exact ⟨j, by simp, hns, fun d hdm => hall d (hd d hdm)⟩
      · exact absurd (hall j hj) hns

def Pend (P : Program) (ops : Array Oper) (pre : List Nat) (fr : Slots) (Hb : GHeap) (j : Nat) : Prop :=
  (∀ i ∈ pre, ∀ s, (opAt ops i).dst = some s → (looks ops (opAt ops j)).contains s = true → (ctxOf ops).before j i = true) ∧
  ((((opAt ops j).guard = none ∨ ∃ g want s, (opAt ops j).guard = some (g, want) ∧ guardSlot ops g = some s ∧ fr.get s = some (.bool want)) ∧ ∃ v, MStep P fr Hb (opAt ops j).op v ∧ ∀ d, (opAt ops j).dst = some d → fr.get d = some v) ∨
   (∃ g want s u, (opAt ops j).guard = some (g, want) ∧ guardSlot ops g = some s ∧ fr.get s = some u ∧ GV u ∧ u ≠ .bool want ∧ ∀ d, (opAt ops j).dst = some d → fr.get d = some undef))

structure Inv (P : Program) (N : Nat) (D : List Deferred) (ops : Array Oper) (Q : Slots → GHeap → Prop) (B : Nat) (w0 : World) (ρ0 : Place) (pre : List Nat) (t : Tree) (fr : Slots) (Hb H : GHeap) (ρ : Place) (listed : Array Bool) (a : Act) (w : World) : Prop where
  ok : (ctxOf ops).ok pre false t = true
  tree : GTree P N ops Q t fr Hb H
  le : Hb.Le H
  ext : Ext ρ0 ρ
  sim : Sim P B w0 ρ H w
  size : a.tmps.size = N
  defers : a.defers = D
  lsize : listed.size = ops.size
  sub : ∀ i, lis listed i → i ∈ pre
  closed : ∀ i, lis listed i → ∀ d ∈ depsOf (opAt ops i), lis listed d
  chain : Chain ops pre
  lt : ∀ i ∈ pre, i < ops.size
  dsts : ∀ i ∈ pre, dstOk N (opAt ops i) = true
  frame : ∀ s v, fr.get s = some v → (∀ j ∈ pre, ¬ lis listed j → (opAt ops j).dst ≠ some s) → VRel ρ v (a.eval (.tmp s))
  pend : ∀ j ∈ pre, ¬ lis listed j → Pend P ops pre fr Hb j

theorem opAt_of {i : Nat} {o : Oper} (h : ops[i]? = some o) : opAt ops i = o := by
  unfold opAt
  rw [Array.getD_eq_getD_getElem?, h]
  rfl

theorem looks_operand {o : Oper} {t : Tmp} (h : Operand.tmp t ∈ o.op.operands) : (looks ops o).contains t = true := by
  unfold looks
  rw [List.contains_iff_mem]
  exact List.mem_append_left _ (List.mem_filterMap.2 ⟨.tmp t, by simpa using h, rfl⟩)
theorem looks_guard {o : Oper} {g : Nat} {want : Bool} {s : Tmp} (h : o.guard = some (g, want)) (hs : guardSlot ops g = some s) : (looks ops o).contains s = true := by
  unfold looks
  rw [List.contains_iff_mem]
  refine List.mem_append_right _ ?_
  rw [h]
  simp [hs]

theorem Inv.before {pre : List Nat} {t : Tree} {fr : Slots} {Hb H : GHeap} {ρ : Place} {listed : Array Bool} {a : Act} {w : World} (h : Inv P N D ops Q B w0 ρ0 pre t fr Hb H ρ listed a w) {i j : Nat} (hb : (ctxOf ops).before i j = true)
    (hd : ∀ d ∈ depsOf (opAt ops i), lis listed d) : lis listed j := by
  have hg : GoodMasks ops (lis listed) (ctxOf ops).masks := masks_good h.closed ops.toList [] [] rfl rfl (fun i j hb => by simp at hb)
  exact hg i j hb hd

theorem Inv.looked {pre : List Nat} {t : Tree} {fr : Slots} {Hb H : GHeap} {ρ : Place} {listed : Array Bool} {a : Act} {w : World} (h : Inv P N D ops Q B w0 ρ0 pre t fr Hb H ρ listed a w) {i : Nat}
    (hr : ∀ j ∈ pre, ∀ s, (opAt ops j).dst = some s → (looks ops (opAt ops i)).contains s = true → (ctxOf ops).before i j = true) (hd : ∀ d ∈ depsOf (opAt ops i), lis listed d) {s : Tmp} {v : Value} (hl : (looks ops (opAt ops i)).contains s = true) (hv : fr.get s = some v) :
    VRel ρ v (a.eval (.tmp s)) :=
  h.frame s v hv fun j hj hn hds => hn (h.before (hr j hj s hds hl) hd)

theorem can_parts {pre : List Nat} {i : Nat} (h : (ctxOf ops).can pre i = true) : i < ops.size ∧ i ∉ pre ∧ (∀ d ∈ depsOf (opAt ops i), d ∈ pre) ∧
    (∀ j ∈ pre, ∀ s, (opAt ops j).dst = some s → (looks ops (opAt ops i)).contains s = true → (ctxOf ops).before i j = true) := by
  unfold Ctx.can at h
  simp only [Bool.and_eq_true, Bool.not_eq_true', List.all_eq_true] at h
  obtain ⟨⟨⟨h1, h2⟩, h3⟩, h4⟩ := h
  refine ⟨by have h1' : Nat.blt i ops.size = true := h1; simpa [Nat.blt_eq] using h1', fun hm => ?_, fun d hd => by simpa using h3 d hd, fun j hj s hs hl => ?_⟩
  · have : pre.contains i = true := by simpa using hm
    rw [h2] at this
    cases this
  · unfold Ctx.reads at h4
    have h5 := List.all_eq_true.1 h4 j hj
    have e : ((ctxOf ops).op j).dst = some s := hs
    rw [e] at h5
    have e2 : (looks (ctxOf ops).ops ((ctxOf ops).op i)).contains s = true := hl
    simp only [e2, Bool.not_true, Bool.false_or] at h5
    exact h5

theorem fresh_parts {pre : List Nat} {i : Nat} (h : (ctxOf ops).fresh pre i = true) {d : Tmp} (hd : (opAt ops i).dst = some d) :
    (∀ j ∈ pre, (looks ops (opAt ops j)).contains d = false ∧ (opAt ops j).dst ≠ some d) ∧ (looks ops (opAt ops i)).contains d = false := by
  unfold Ctx.fresh at h
  have e : ((ctxOf ops).op i).dst = some d := hd
  rw [e] at h
  simp only [Bool.and_eq_true, Bool.not_eq_true', List.all_eq_true] at h
  refine ⟨fun j hj => ?_, h.2⟩
  have h1 := h.1 j hj
  unfold touches at h1
  simp only [Bool.or_eq_false_iff, beq_eq_false_iff_ne, ne_eq] at h1
  exact h1

theorem writes_parts {pre : List Nat} {i : Nat} (h : (ctxOf ops).writes pre i = true) {d : Tmp} (hd : (opAt ops i).dst = some d) {j : Nat} (hj : j ∈ pre) (ht : (looks ops (opAt ops j)).contains d = true ∨ (opAt ops j).dst = some d) : (ctxOf ops).before i j = true := by
  unfold Ctx.writes at h
  have e : ((ctxOf ops).op i).dst = some d := hd
  rw [e] at h
  have h1 := List.all_eq_true.1 h j hj
  have : touches (ctxOf ops).ops ((ctxOf ops).op j) d = true := by
    unfold touches
    rw [Bool.or_eq_true]
    rcases ht with ht | ht
    · exact .inl ht
    · exact .inr (by have e3 : ((ctxOf ops).op j).dst = some d := ht; rw [e3]; simp)
  rw [this] at h1
  simpa using h1

theorem head_of {fr : Slots} {Hb H : GHeap} {pre : List Nat} {i : Nat} : ∀ {t : Tree} {inOr : Bool}, (ctxOf ops).ok pre inOr t = true → GTree P N ops Q t fr Hb H → i ∈ heads t →
    ∃ k t', GTree P N ops Q (.c i k t') fr Hb H ∧ (ctxOf ops).can pre i = true ∧ (ctxOf ops).writes pre i = true ∧ (k = 1 ∨ (k = 0 ∧ ∀ j ∈ pre, (ctxOf ops).before i j = true)) ∧ (ctxOf ops).ok (i :: pre) false t' = true
  | .done, _, _, _, hi => by cases hi
  | .q j t, _, _, _, hi => by cases hi
  | .c j k t, inOr, hok, ht, hi => by
    simp only [heads, List.mem_singleton] at hi
    subst hi
    simp only [Ctx.ok, Bool.and_eq_true, Bool.or_eq_true, List.all_eq_true] at hok
    obtain ⟨⟨⟨⟨_, h2⟩, h3⟩, h4⟩, h5⟩ := hok
    refine ⟨k, t, ht, h2, h3, ?_, h5⟩
    rcases h4 with h4 | h4
    · exact .inl (Nat.eq_of_beq_eq_true h4)
    · exact .inr ⟨Nat.eq_of_beq_eq_true h4.1, h4.2⟩
  | .or s t, inOr, hok, ht, hi => by
    simp only [Ctx.ok, Bool.and_eq_true] at hok
    simp only [heads, List.mem_append] at hi
    rcases hi with hi | hi
    · exact head_of hok.1.2 ht.1 hi
    · exact head_of hok.2 ht.2 hi

theorem covers_of {pre : List Nat} {t : Tree} (hok : (ctxOf ops).ok pre false t = true) (hq : ∀ i t', t ≠ .q i t') {u : Nat} (hu : u < ops.size) (hn : u ∉ pre) (hd : ∀ d ∈ depsOf (opAt ops u), d ∈ pre) : u ∈ heads t := by
  have key : ∀ hs, (ctxOf ops).covers pre hs = true → u ∈ hs := by
    intro hs h
    unfold Ctx.covers at h
    have h1 := List.all_eq_true.1 h u (List.mem_range.2 hu)
    have e1 : pre.contains u = false := by simpa using hn
    have e2 : (depsOf ((ctxOf ops).op u)).all pre.contains = true := List.all_eq_true.2 fun d hd' => by simpa using hd d hd'
    rw [e1, e2] at h1
    simpa using h1
  cases t with
  | done =>
    simp only [Ctx.ok, Bool.and_eq_true, List.all_eq_true] at hok
    have := hok.2 u (List.mem_range.2 hu)
    exact absurd (by simpa using this) hn
  | q i t' => exact absurd rfl (hq i t')
  | c i k t' =>
    simp only [Ctx.ok, Bool.and_eq_true, Bool.false_or] at hok
    exact key _ hok.1.1.1.1
  | or s t' =>
    simp only [Ctx.ok, Bool.and_eq_true, Bool.false_or] at hok
    exact key _ hok.1.1

theorem lis_set {listed : Array Bool} {i j : Nat} (hi : i < listed.size) : lis (listed.setIfInBounds i true) j ↔ j = i ∨ lis listed j := by
  unfold lis
  simp only [Array.getD_eq_getD_getElem?]
  by_cases h : j = i
  · subst h
    simp [hi]
  · rw [Array.getElem?_setIfInBounds_ne (Ne.symm h)]
    simp [h]

theorem ready_iff {listed : Array Bool} (hl : listed.size = ops.size) {i : Nat} : i ∈ Region.ready .any ops listed ↔ i < ops.size ∧ ¬ lis listed i ∧ ∀ d ∈ depsOf (opAt ops i), lis listed d := by
  rw [mem_ready]
  constructor
  · rintro ⟨h1, o, ho, h2⟩
    have hlt : i < ops.size := (Array.getElem?_eq_some_iff.1 ho).1
    refine ⟨hlt, ?_, fun d hd => ?_⟩
    · unfold lis
      simp only [Array.getD_eq_getD_getElem?] at h1 ⊢
      have : i < listed.size := by omega
      simp only [Array.getElem?_eq_getElem this, Option.getD_some] at h1 ⊢
      simp [h1]
    · rw [opAt_of ho] at hd
      unfold depsOf at hd
      simp only [List.mem_map, List.mem_filter] at hd
      obtain ⟨e, ⟨he, hb⟩, rfl⟩ := hd
      exact h2 e (by simpa using he) hb
  · rintro ⟨hlt, h1, h2⟩
    refine ⟨?_, ops[i], by simp [hlt], fun e he hb => ?_⟩
    · unfold lis at h1
      simp only [Array.getD_eq_getD_getElem?] at h1 ⊢
      have : i < listed.size := by omega
      simp only [Array.getElem?_eq_getElem this, Option.getD_some] at h1 ⊢
      simpa using h1
    · refine h2 e.on ?_
      rw [opAt_of (show ops[i]? = some ops[i] by simp [hlt])]
      unfold depsOf
      exact List.mem_map.2 ⟨e, List.mem_filter.2 ⟨by simpa using he, hb⟩, rfl⟩

def left (ops : Array Oper) (listed : Array Bool) : Nat := ((List.range ops.size).filter fun i => !listed.getD i false).length
theorem left_set {listed : Array Bool} (hl : listed.size = ops.size) {i : Nat} (hi : i < ops.size) (hn : ¬ lis listed i) : left ops (listed.setIfInBounds i true) + 1 ≤ left ops listed := by
  unfold left
  have hsub : ∀ (L : List Nat), L.Nodup → i ∈ L → ((L.filter fun j => !(listed.setIfInBounds i true).getD j false).length) + 1 ≤ (L.filter fun j => !listed.getD j false).length := by
    intro L
    induction L with
    | nil => intro _ h; cases h
    | cons x L ih =>
      intro hnd hm
      have hle : ∀ (M : List Nat), (M.filter fun j => !(listed.setIfInBounds i true).getD j false).length ≤ (M.filter fun j => !listed.getD j false).length := by
        intro M
        induction M with
        | nil => simp
        | cons y M ihM =>
          have himp : (!(listed.setIfInBounds i true).getD y false) = true → (!listed.getD y false) = true := by
            intro h
            have h1 : ¬ lis (listed.setIfInBounds i true) y := by unfold lis; simp at h ⊢; exact h
            rw [lis_set (by omega)] at h1
            have h2 : ¬ lis listed y := fun h => h1 (.inr h)
            unfold lis at h2
            simpa using h2
          simp only [List.filter_cons]
          cases e1 : (!(listed.setIfInBounds i true).getD y false) with
          | true => rw [himp e1]; simp only [if_true, List.length_cons]; omega
          | false =>
            cases e2 : (!listed.getD y false) with
            | true => simp only [Bool.false_eq_true, if_false, if_true, List.length_cons]; omega
            | false => simp only [Bool.false_eq_true, if_false]; exact ihM
      by_cases hx : x = i
      · subst hx
        have e1 : (!(listed.setIfInBounds x true).getD x false) = false := by
          have : lis (listed.setIfInBounds x true) x := (lis_set (by omega)).2 (.inl rfl)
          unfold lis at this
          rw [this]; rfl
        have e2 : (!listed.getD x false) = true := by unfold lis at hn; simpa using hn
        simp only [List.filter_cons, e1, e2, if_true, Bool.false_eq_true, if_false, List.length_cons]
        have := hle L
        omega
      · have hm' : i ∈ L := by
          rcases List.mem_cons.1 hm with h | h
          · exact absurd h.symm hx
          · exact h
        have ih' := ih (List.nodup_cons.1 hnd).2 hm'
        have e : (!(listed.setIfInBounds i true).getD x false) = (!listed.getD x false) := by
          simp only [Array.getD_eq_getD_getElem?]
          rw [Array.getElem?_setIfInBounds_ne (fun h => hx h.symm)]
        simp only [List.filter_cons, e]
        cases (!listed.getD x false) <;> simp only [Bool.false_eq_true, if_false, if_true, List.length_cons] <;> omega
  exact hsub _ List.nodup_range (List.mem_range.2 hi)
end
end Go.GL
namespace Go.GL
open Go.RowKit
variable [MainFlag]

section
variable {P : Program} {N : Nat} {D : List Deferred} {ops : Array Oper} {Q : Slots → GHeap → Prop} {Qx : Exit → Act → World → Prop} {B : Nat} {w0 : World} {ρ0 : Place}

theorem pend_keep {pre pre' : List Nat} {fr fr' : Slots} {Hb Hb' : GHeap} {j : Nat} (h : Pend P ops pre fr Hb j)
    (hr : ∀ i ∈ pre', i ∉ pre → ∀ s, (opAt ops i).dst = some s → (looks ops (opAt ops j)).contains s = true → (ctxOf ops).before j i = true)
    (hl : ∀ s, (looks ops (opAt ops j)).contains s = true → fr'.get s = fr.get s) (hd : ∀ s, (opAt ops j).dst = some s → fr'.get s = fr.get s) (hle : Hb.Le Hb') : Pend P ops pre' fr' Hb' j := by
  obtain ⟨h1, h2⟩ := h
  refine ⟨fun i hi s hs hls => ?_, ?_⟩
  · by_cases hip : i ∈ pre
    · exact h1 i hip s hs hls
    · exact hr i hi hip s hs hls
  · rcases h2 with ⟨hg, v, hm, hv⟩ | ⟨g, want, s, c, hg, hs, hc, hgv, hne, hv⟩
    · refine .inl ⟨?_, v, hm.congr (fun t ht u hu => by rw [hl t (looks_operand ht)]; exact hu) hle, fun d hdd => by rw [hd d hdd]; exact hv d hdd⟩
      rcases hg with hg | ⟨g, want, s, hg, hs, hb⟩
      · exact .inl hg
      · exact .inr ⟨g, want, s, hg, hs, by rw [hl s (looks_guard hg hs)]; exact hb⟩
    · exact .inr ⟨g, want, s, c, hg, hs, by rw [hl s (looks_guard hg hs)]; exact hc, hgv, hne, fun d hdd => by rw [hd d hdd]; exact hv d hdd⟩

theorem putS_get {fr : Slots} {d : Option Tmp} {v : Option Value} {s : Tmp} (h : d ≠ some s) : (putS fr d v).get s = fr.get s := by
  cases d with
  | none => rfl
  | some t => simp only [putS, get_cons]; rw [if_neg (fun e => h (by rw [e]))]
theorem putS_same {fr : Slots} {d : Tmp} {v : Option Value} : (putS fr (some d) v).get d = v := by simp [putS, get_cons]

theorem settle {pre : List Nat} {t : Tree} {fr : Slots} {Hb H : GHeap} {ρ : Place} {listed : Array Bool} {a : Act} {w : World} {i : Nat} (h : Inv P N D ops Q B w0 ρ0 pre (.q i t) fr Hb H ρ listed a w) :
    ∃ fr' Hb', Inv P N D ops Q B w0 ρ0 (i :: pre) t fr' Hb' H ρ listed a w := by
  have hok := h.ok
  simp only [Ctx.ok, Bool.and_eq_true] at hok
  obtain ⟨⟨⟨_, hcan⟩, hfr⟩, hrest⟩ := hok
  obtain ⟨hlt, hni, hdeps, hreads⟩ := can_parts hcan
  have hnl : ¬ lis listed i := fun hl => hni (h.sub i hl)
  obtain ⟨o, ho, hdst, htree⟩ := h.tree
  have hop : opAt ops i = o := opAt_of ho
  have build : ∀ (v : Option Value) (Hq : GHeap), Hb.Le Hq → Hq.Le H → GTree P N ops Q t (putS fr o.dst v) Hq H → Pend P ops (i :: pre) (putS fr o.dst v) Hq i → Inv P N D ops Q B w0 ρ0 (i :: pre) t (putS fr o.dst v) Hq H ρ listed a w := by
    intro v Hq hb hq ht hp
    refine ⟨hrest, ht, hq, h.ext, h.sim, h.size, h.defers, h.lsize, fun k hk => by simp [h.sub k hk], h.closed, .cons hdeps h.chain, fun k hk => ?_, fun k hk => ?_, fun s u hu hcond => ?_, fun j hj hjn => ?_⟩
    · rcases List.mem_cons.1 hk with rfl | hk
      · exact hlt
      · exact h.lt k hk
    · rcases List.mem_cons.1 hk with rfl | hk
      · rw [hop]; exact hdst
      · exact h.dsts k hk
    · have hne : o.dst ≠ some s := by have := hcond i (by simp) hnl; rwa [hop] at this
      rw [putS_get hne] at hu
      exact h.frame s u hu fun j hj hjn => hcond j (by simp [hj]) hjn
    · rcases List.mem_cons.1 hj with rfl | hj
      · exact hp
      · have hpj := h.pend j hj hjn
        cases hd : o.dst with
        | none => exact pend_keep hpj (fun k hk hkn s hs hls => by
            rcases List.mem_cons.1 hk with rfl | hk
            · rw [hop, hd] at hs; cases hs
            · exact absurd hk hkn) (fun s _ => rfl) (fun s _ => rfl) hb
        | some d =>
          obtain ⟨hf1, hf2⟩ := fresh_parts hfr (d := d) (by rw [hop]; exact hd)
          obtain ⟨f1, f2⟩ := hf1 j hj
          refine pend_keep hpj (fun k hk hkn s hs hls => ?_) (fun s hls => putS_get (fun e => ?_)) (fun s hs => putS_get (fun e => ?_)) hb
          · rcases List.mem_cons.1 hk with rfl | hk
            · rw [hop, hd] at hs; cases hs; rw [f1] at hls; cases hls
            · exact absurd hk hkn
          · cases e; rw [f1] at hls; cases hls
          · cases e; exact f2 hs
  have selfReads : ∀ k ∈ i :: pre, ∀ s, (opAt ops k).dst = some s → (looks ops (opAt ops i)).contains s = true → (ctxOf ops).before i k = true := by
    intro k hk s hs hls
    rcases List.mem_cons.1 hk with rfl | hk
    · have := (fresh_parts hfr hs).2
      rw [this] at hls; cases hls
    · exact hreads k hk s hs hls
  have keepLooks : ∀ (v : Option Value) s, (looks ops o).contains s = true → (putS fr o.dst v).get s = fr.get s := by
    intro v s hls
    cases hd : o.dst with
    | none => rfl
    | some d =>
      have := (fresh_parts hfr (d := d) (by rw [hop]; exact hd)).2
      rw [hop] at this
      exact putS_get (fun e => by cases e; rw [this] at hls; cases hls)
  cases hg : o.guard with
  | none =>
    rw [hg] at htree
    obtain ⟨v, Hq, hb, hq, hm, ht⟩ := htree
    refine ⟨_, _, build (some v) Hq hb hq ht ⟨selfReads, .inl ⟨.inl (by rw [hop]; exact hg), v, ?_, fun d hd => ?_⟩⟩⟩
    · rw [hop]; exact hm.congr (fun t ht u hu => by rw [keepLooks _ t (looks_operand ht)]; exact hu) (.refl _)
    · rw [hop] at hd; rw [hd]; exact putS_same
  | some gw =>
    obtain ⟨g, want⟩ := gw
    rw [hg] at htree
    obtain ⟨s, c, hs, hc, hgv, h1, h2⟩ := htree
    have hls : (looks ops o).contains s = true := looks_guard hg hs
    by_cases hcw : c = .bool want
    · obtain ⟨v, Hq, hb, hq, hm, ht⟩ := h1 hcw
      subst hcw
      refine ⟨_, _, build (some v) Hq hb hq ht ⟨selfReads, .inl ⟨.inr ⟨g, want, s, by rw [hop]; exact hg, hs, by rw [keepLooks _ s hls]; exact hc⟩, v, ?_, fun d hd => ?_⟩⟩⟩
      · rw [hop]; exact hm.congr (fun t ht u hu => by rw [keepLooks _ t (looks_operand ht)]; exact hu) (.refl _)
      · rw [hop] at hd; rw [hd]; exact putS_same
    · refine ⟨_, _, build (some undef) Hb (.refl _) h.le (h2 hcw) ⟨selfReads, .inr ⟨g, want, s, c, by rw [hop]; exact hg, hs, by rw [keepLooks _ s hls]; exact hc, hgv, hcw, fun d hd => ?_⟩⟩⟩
      rw [hop] at hd; rw [hd]; exact putS_same

theorem heads_ne {pre : List Nat} : ∀ {t : Tree}, (ctxOf ops).ok pre true t = true → ∃ i, i ∈ heads t
  | .done, h => by simp [Ctx.ok] at h
  | .q i t, h => by simp [Ctx.ok] at h
  | .c i k t, _ => ⟨i, by simp [heads]⟩
  | .or s t, h => by
    simp only [Ctx.ok, Bool.and_eq_true] at h
    obtain ⟨i, hi⟩ := heads_ne (t := s) h.1.2
    exact ⟨i, by simp [heads, hi]⟩

theorem Inv.finish {pre : List Nat} {t : Tree} {fr : Slots} {Hb H : GHeap} {ρ : Place} {listed : Array Bool} {a : Act} {w : World} (h : Inv P N D ops Q B w0 ρ0 pre t fr Hb H ρ listed a w) (hnq : ∀ i t', t ≠ .q i t')
    (hr : Region.ready .any ops listed = []) (hq : ∀ ρ' fr' H' a' w', Q fr' H' → Ext ρ0 ρ' → Sim P B w0 ρ' H' w' → FRel N D ρ' fr' a' → Qx .normal a' w') : Qx .normal a w := by
  have hall : ∀ j ∈ pre, lis listed j := fun j hj => Classical.byContradiction fun hn => by
    obtain ⟨k, hk, hkn, hkd⟩ := h.chain.first (S := lis listed) ⟨j, hj, hn⟩
    have : k ∈ Region.ready .any ops listed := (ready_iff h.lsize).2 ⟨h.lt k hk, hkn, hkd⟩
    rw [hr] at this
    cases this
  have nohead : ∀ i, i ∈ heads t → False := fun i hi => by
    obtain ⟨k, t', _, hcan, _⟩ := head_of h.ok h.tree hi
    obtain ⟨hlt, hni, hdeps, _⟩ := can_parts hcan
    have : i ∈ Region.ready .any ops listed := (ready_iff h.lsize).2 ⟨hlt, fun hl => hni (h.sub i hl), fun d hd => hall d (hdeps d hd)⟩
    rw [hr] at this
    cases this
  have hok := h.ok
  cases t with
  | done => exact hq ρ fr H a w h.tree h.ext h.sim ⟨h.size, h.defers, fun s v hv => h.frame s v hv fun j hj hn => absurd (hall j hj) hn⟩
  | q i t' => exact absurd rfl (hnq i t')
  | c i k t' => exact (nohead i (by simp [heads])).elim
  | or s t' =>
    simp only [Ctx.ok, Bool.and_eq_true] at hok
    obtain ⟨i, hi⟩ := heads_ne hok.1.2
    exact (nohead i (by simp [heads, hi])).elim

theorem FRelPut {fr : Slots} {a : Act} {ρ : Place} {o : Oper} (hsz : a.tmps.size = N) (hd : dstOk N o = true) {v : Option Value} {c : Value} (hv : ∀ x, v = some x → VRel ρ x c) {s : Tmp} {u : Value} (hu : (putS fr o.dst v).get s = some u)
    (hold : o.dst ≠ some s → fr.get s = some u → VRel ρ u (a.eval (.tmp s))) : VRel ρ u ((a.put o.dst c).eval (.tmp s)) := by
  cases hdst : o.dst with
  | none =>
    rw [hdst] at hu hold
    exact hold (by simp) hu
  | some d =>
    unfold dstOk at hd
    rw [hdst] at hd hu hold
    have hlt : d < N := by simpa [Nat.blt_eq] using hd
    rw [eval_put a d s c (by rw [hsz]; exact hlt)]
    by_cases e : d = s
    · subst e
      rw [putS_same] at hu
      rw [if_pos rfl]
      exact hv u hu
    · rw [if_neg e]
      exact hold (fun h => e (by cases h; rfl)) (by rw [putS_get (fun h => e (by cases h; rfl))] at hu; exact hu)

theorem Inv.step {pre : List Nat} {t : Tree} {fr : Slots} {Hb H : GHeap} {ρ : Place} {listed : Array Bool} {a : Act} {w : World} (h : Inv P N D ops Q B w0 ρ0 pre t fr Hb H ρ listed a w) (hnq : ∀ i t', t ≠ .q i t') {i : Nat} (hi : i ∈ Region.ready .any ops listed)
    {K : Act → World → Prop} (hK : ∀ pre' t' fr' Hb' H' ρ' a' w', Inv P N D ops Q B w0 ρ0 pre' t' fr' Hb' H' ρ' (listed.setIfInBounds i true) a' w' → K a' w') : wpOpM P (Below B w0) ops Qx i K a w := by
  obtain ⟨hlt, hnl, hdeps⟩ := (ready_iff h.lsize).1 hi
  have ho : ops[i]? = some (opAt ops i) := by unfold opAt; simp [Array.getD_eq_getD_getElem?, hlt]
  generalize hop : opAt ops i = o at *
  have hset : ∀ j, lis (listed.setIfInBounds i true) j ↔ j = i ∨ lis listed j := fun j => lis_set (by rw [h.lsize]; exact hlt)
  have hclosed : ∀ j, lis (listed.setIfInBounds i true) j → ∀ d ∈ depsOf (opAt ops j), lis (listed.setIfInBounds i true) d := by
    intro j hj d hd
    rw [hset] at hj ⊢
    rcases hj with rfl | hj
    · exact .inr (hdeps d (by rwa [hop] at hd))
    · exact .inr (h.closed j hj d hd)
  unfold wpOpM
  simp only [ho]
  by_cases hip : i ∈ pre
  · -- it waits: the tree has its value
    have hp := h.pend i hip hnl
    obtain ⟨hreads, hp⟩ := hp
    rw [hop] at hp
    have hdk : dstOk N o = true := by have := h.dsts i hip; rwa [hop] at this
    have rel : ∀ s v, (looks ops o).contains s = true → fr.get s = some v → VRel ρ v (a.eval (.tmp s)) := fun s v hl hv =>
      h.looked (i := i) (fun j hj s' hs hls => hreads j hj s' hs hls) (by rw [hop]; exact hdeps) (by rw [hop]; exact hl) hv
    have after : ∀ (e : Nat) (v : Option Value) (c : Value), (∀ d, o.dst = some d → fr.get d = v) → (∀ x, v = some x → VRel ρ x c) → K (a.put o.dst c) (w.at e) := by
      intro e v c hvd hvc
      refine hK pre t fr Hb H ρ _ _ ⟨h.ok, h.tree, h.le, h.ext, h.sim.at e, ?_, ?_, by simp [h.lsize], fun j hj => ?_, hclosed, h.chain, h.lt, h.dsts, fun s u hu hcond => ?_, fun j hj hjn => h.pend j hj (fun hl => hjn ((hset j).2 (.inr hl)))⟩
      · cases o.dst <;> simp [Act.put, h.size]
      · cases o.dst <;> simp [Act.put, h.defers]
      · rcases (hset j).1 hj with rfl | hj
        · exact hip
        · exact h.sub j hj
      · cases hd : o.dst with
        | none =>
          refine h.frame s u hu fun j hj hjn => ?_
          by_cases e : j = i
          · subst e; rw [hop, hd]; simp
          · exact hcond j hj (fun hl => ((hset j).1 hl).elim e hjn)
        | some d =>
          have hd' := hdk
          unfold dstOk at hd'
          rw [hd] at hd'
          have hltN : d < N := by simpa [Nat.blt_eq] using hd'
          rw [eval_put a d s c (by rw [h.size]; exact hltN)]
          by_cases e : d = s
          · subst e
            rw [if_pos rfl]
            have := hvd d hd
            rw [hu] at this
            exact hvc u this.symm
          · rw [if_neg e]
            refine h.frame s u hu fun j hj hjn => ?_
            by_cases e2 : j = i
            · subst e2; rw [hop, hd]; exact fun h => e (by cases h; rfl)
            · exact hcond j hj (fun hl => ((hset j).1 hl).elim e2 hjn)
    have run : Region.wanted o (yielded ops a.tmps) = true → (∃ v, MStep P fr Hb o.op v ∧ ∀ d, o.dst = some d → fr.get d = some v) → (if Region.wanted o (yielded ops a.tmps) = true then o.wpM P (Below B w0) a w K Qx else (FuncId → True → True) ∧ K (a.put o.dst undef) w) := by
      rintro hw ⟨v, hm, hv⟩
      rw [if_pos hw]
      have hm' : MStep P fr H o.op v := hm.congr (fun _ _ _ hu => hu) h.le
      exact hm'.wpM (fun t u ht hu => rel t u (looks_operand ht) hu) h.sim fun c e hr _ => after e (some v) c hv (fun x hx => by cases hx; exact hr)
    rcases hp with ⟨hg, hv⟩ | ⟨g, want, s, c, hg, hs, hc, hgv, hne, hv⟩
    · refine run ?_ hv
      rcases hg with hg | ⟨g, want, s, hg, hs, hb⟩
      · exact wanted_none hg
      · rw [wanted_of hg hs (rel s _ (looks_guard hg hs) hb)]; simp
    · have hw := wanted_gv (o := o) hg hs hgv (rel s _ (looks_guard hg hs) hc)
      rw [if_neg (fun e => hne (hw.1 e))]
      exact ⟨fun _ _ => trivial, after w.drawn (some undef) undef hv (fun x hx => by cases hx; exact vrel_undef _)⟩
  · -- the tree takes it now
    have hih : i ∈ heads t := covers_of h.ok hnq hlt hip (fun d hd => h.sub d (hdeps d (by rwa [hop] at hd)))
    obtain ⟨k, t', htree, hcan, hwr, hk, hok'⟩ := head_of h.ok h.tree hih
    obtain ⟨_, _, hdp, hreads⟩ := can_parts hcan
    obtain ⟨o', ho', hdk, htree⟩ := htree
    have : o' = o := by rw [ho] at ho'; exact (Option.some.inj ho').symm
    subst this
    have rel : ∀ s v, (looks ops o').contains s = true → fr.get s = some v → VRel ρ v (a.eval (.tmp s)) := fun s v hl hv =>
      h.looked (i := i) hreads (by rw [hop]; exact hdeps) (by rw [hop]; exact hl) hv
    have apart : ∀ j ∈ pre, ¬ lis listed j → ∀ d, o'.dst = some d → (looks ops (opAt ops j)).contains d = false ∧ (opAt ops j).dst ≠ some d := by
      intro j hj hjn d hd
      have no : ((looks ops (opAt ops j)).contains d = true ∨ (opAt ops j).dst = some d) → False := fun ht =>
        hjn (h.before (writes_parts hwr (d := d) (by rw [hop]; exact hd) hj ht) (by rw [hop]; exact hdeps))
      refine ⟨?_, fun e => no (.inr e)⟩
      cases e : (looks ops (opAt ops j)).contains d with
      | false => rfl
      | true => exact (no (.inl e)).elim
    have after : ∀ (v : Option Value) (c : Value) (Hb' H' : GHeap) (ρ' : Place) (w' : World), (∀ x, v = some x → VRel ρ' x c) → Ext ρ ρ' → Sim P B w0 ρ' H' w' → Hb'.Le H' → ((∃ j ∈ pre, ¬ lis listed j) → Hb.Le Hb') →
        GTree P N ops Q t' (putS fr o'.dst v) Hb' H' → K (a.put o'.dst c) w' := by
      intro v c Hb' H' ρ' w' hvc hext hsim hle hpend ht
      refine hK (i :: pre) t' _ Hb' H' ρ' _ _ ⟨hok', ht, hle, h.ext.trans hext, hsim, ?_, ?_, by simp [h.lsize], fun j hj => ?_, hclosed, .cons hdp h.chain, fun j hj => ?_, fun j hj => ?_, fun s u hu hcond => ?_, fun j hj hjn => ?_⟩
      · cases o'.dst <;> simp [Act.put, h.size]
      · cases o'.dst <;> simp [Act.put, h.defers]
      · rcases (hset j).1 hj with rfl | hj
        · simp
        · simp [h.sub j hj]
      · rcases List.mem_cons.1 hj with rfl | hj
        · exact hlt
        · exact h.lt j hj
      · rcases List.mem_cons.1 hj with rfl | hj
        · rw [hop]; exact hdk
        · exact h.dsts j hj
      · refine FRelPut h.size hdk hvc hu fun hne hus => ?_
        refine (h.frame s u hus fun j hj hjn => hcond j (by simp [hj]) (fun hl => ?_)).mono hext
        rcases (hset j).1 hl with rfl | hl
        · exact hip hj
        · exact hjn hl
      · have hjn' : ¬ lis listed j := fun hl => hjn ((hset j).2 (.inr hl))
        have hji : j ≠ i := fun e => hjn ((hset j).2 (.inl e))
        have hjp : j ∈ pre := (List.mem_cons.1 hj).elim (fun h => absurd h hji) id
        refine pend_keep (h.pend j hjp hjn') (fun k' hk' hkn s hs hls => ?_) (fun s hls => putS_get (fun e => ?_)) (fun s hs => putS_get (fun e => ?_)) (hpend ⟨j, hjp, hjn'⟩)
        · rcases List.mem_cons.1 hk' with rfl | hk'
          · rw [hop] at hs
            rw [(apart j hjp hjn' s hs).1] at hls; cases hls
          · exact absurd hk' hkn
        · rw [(apart j hjp hjn' s e).1] at hls; cases hls
        · exact (apart j hjp hjn' s e).2 hs
    have nopend : k = 0 → ¬ ∃ j ∈ pre, ¬ lis listed j := by
      rintro rfl ⟨j, hj, hjn⟩
      rcases hk with hk | hk
      · cases hk
      · exact hjn (h.before (hk.2 j hj) (by rw [hop]; exact hdeps))
    have run : Region.wanted o' (yielded ops a.tmps) = true → (CDo P o' fr H fun v H' => (k = 1 → Hb.Le H') ∧ GTree P N ops Q t' (putS fr o'.dst v) (if k = 1 then Hb else H') H') →
        (if Region.wanted o' (yielded ops a.tmps) = true then o'.wpM P (Below B w0) a w K Qx else (FuncId → True → True) ∧ K (a.put o'.dst undef) w) := by
      intro hw hc
      rw [if_pos hw]
      refine hc.run none B w0 ρ a w h.sim (fun t u ht hu => rel t u (looks_operand ht) hu) K Qx fun ρ' v c H' w' ⟨h1, h2⟩ hext hsim hv => ?_
      by_cases hk1 : k = 1
      · rw [if_pos hk1] at h2
        exact after v c Hb H' ρ' w' hv hext hsim (h1 hk1) (fun _ => .refl _) h2
      · rw [if_neg hk1] at h2
        have hk0 : k = 0 := hk.elim (fun h => absurd h hk1) (fun h => h.1)
        exact after v c H' H' ρ' w' hv hext hsim (.refl _) (fun hp => absurd hp (nopend hk0)) h2
    cases hg : o'.guard with
    | none =>
      rw [hg] at htree
      exact run (wanted_none hg) htree
    | some gw =>
      obtain ⟨g, want⟩ := gw
      rw [hg] at htree
      obtain ⟨s, c, hs, hc, hgv, h1, h2⟩ := htree
      have hw := wanted_gv (o := o') hg hs hgv (rel s _ (looks_guard hg hs) hc)
      by_cases hcw : c = .bool want
      · exact run (hw.2 hcw) (h1 hcw)
      · rw [if_neg (fun e => hcw (hw.1 e))]
        exact ⟨fun _ _ => trivial, after (some undef) undef Hb H ρ w (fun x hx => by cases hx; exact vrel_undef _) (.refl ρ) h.sim h.le (fun _ => .refl _) (h2 hcw)⟩

theorem tree_sound (hq : ∀ ρ' fr' H' a' w', Q fr' H' → Ext ρ0 ρ' → Sim P B w0 ρ' H' w' → FRel N D ρ' fr' a' → Qx .normal a' w') : ∀ (fuel : Nat) (t : Tree) (pre : List Nat) (fr : Slots) (Hb H : GHeap) (ρ : Place) (listed : Array Bool) (a : Act) (w : World),
    Inv P N D ops Q B w0 ρ0 pre t fr Hb H ρ listed a w → left ops listed ≤ fuel → wpAnyM P (Below B w0) .any ops Qx fuel listed a w := by
  intro fuel
  induction fuel with
  | zero =>
    intro t
    induction t with
    | q i t ih =>
      intro pre fr Hb H ρ listed a w h hl
      obtain ⟨fr', Hb', h'⟩ := settle h
      exact ih _ _ _ _ _ _ _ _ h' hl
    | _ =>
      intro pre fr Hb H ρ listed a w h hl
      have hr : Region.ready .any ops listed = [] := by
        cases hrr : Region.ready .any ops listed with
        | nil => rfl
        | cons i l =>
          have hi : i ∈ Region.ready .any ops listed := by rw [hrr]; simp
          obtain ⟨h1, h2, _⟩ := (ready_iff h.lsize).1 hi
          have := left_set h.lsize h1 h2
          omega
      exact ⟨hr, h.finish (fun _ _ => by simp) hr hq⟩
  | succ fuel ihf =>
    intro t
    induction t with
    | q i t ih =>
      intro pre fr Hb H ρ listed a w h hl
      obtain ⟨fr', Hb', h'⟩ := settle h
      exact ih _ _ _ _ _ _ _ _ h' hl
    | _ =>
      intro pre fr Hb H ρ listed a w h hl
      refine ⟨fun hr => h.finish (fun _ _ => by simp) hr hq, fun i hi => ?_⟩
      obtain ⟨h1, h2, _⟩ := (ready_iff h.lsize).1 hi
      have hls := left_set h.lsize h1 h2
      exact h.step (fun _ _ => by simp) hi fun pre' t' fr' Hb' H' ρ' a' w' h' => ihf t' pre' fr' Hb' H' ρ' _ a' w' h' (by omega)
end

theorem GT.regionD {P : Program} {N : Nat} {Q : Exit → Slots → GHeap → Prop} {fr : Slots} {H : GHeap} {id : Nat} {ops : Array Oper} (hm : P.follows .mixedOrders = true) (t : Tree) (hok : (ctxOf ops).ok [] false t = true) (h : GTree P N ops (fun fr' H' => Q .normal fr' H') t fr H H) :
    GT P N (.region id ops true) Q fr H := fun l D B w0 ρ a w hs hf => by
  refine wpM_region_any hm (fun e => (hs.at e).below) fun e => ?_
  refine tree_sound (ρ0 := ρ) (fun ρ' fr' H' a' w' hQ he hs' hf' => ⟨ρ', fr', H', hQ, he, hs', hf'⟩) ops.size t [] fr H H ρ _ a _ ⟨hok, h, .refl _, .refl ρ, (hs.at e), hf.1, hf.2.1, by simp, fun i hi => ?_, fun i hi => ?_, .nil, (fun i hi => by cases hi), (fun i hi => by cases hi), fun s v hv _ => hf.2.2 s v hv, (fun j hj => by cases hj)⟩ ?_
  · unfold lis at hi
    simp [Array.getD_eq_getD_getElem?, Array.getElem?_replicate] at hi
    split at hi <;> simp at hi
  · unfold lis at hi
    simp [Array.getD_eq_getD_getElem?, Array.getElem?_replicate] at hi
    split at hi <;> simp at hi
  · unfold left
    exact Nat.le_trans (List.length_filter_le _ _) (by simp)
def Tree.qs : List Nat → Tree → Tree
  | [], t => t
  | i :: l, t => .q i (Tree.qs l t)
end Go.GL
namespace Go.GL
open Go.RowKit
variable [MainFlag]

section
variable {P : Program} {N : Nat} {ops : Array Oper} {Q : Slots → GHeap → Prop} {L : List (Oper × Nat)} {fr : Slots} {H H' Hb : GHeap} {o : Oper} {i : Nat} {t : Tree}

def CIs (v : Option Value) (H' : GHeap) : Option Value → GHeap → Prop := fun ov X => ov = v ∧ X = H'
theorem CIs.mk {v : Option Value} {H' : GHeap} : CIs v H' v H' := ⟨rfl, rfl⟩

theorem GRun.d {d : Tmp} {v : Value} (hd : o.dst = some d) (hN : Nat.blt d N = true) (hg : o.guard = none) (hc : CDo P o fr H (CIs (some v) H')) (h : GRun P N ops Q L ((d, some v) :: fr) H') : GRun P N ops Q ((o, 0) :: L) fr H :=
  .c hd hN hg (by simp) hc fun _ _ ⟨h1, h2⟩ => by subst h1; subst h2; exact ⟨fun e => (by cases e), h⟩
theorem GRun.d0 (hd : o.dst = none) (hg : o.guard = none) (hc : CDo P o fr H (CIs none H')) (h : GRun P N ops Q L fr H') : GRun P N ops Q ((o, 0) :: L) fr H :=
  .c0 hd hg (by simp) hc fun _ _ ⟨h1, h2⟩ => by subst h1; subst h2; exact ⟨fun e => (by cases e), h⟩
theorem GRun.call {d : Tmp} {f : FuncId} {args : Array Operand} {ts : Array TypeId} {vs : List Value} {R : Value → GHeap → Prop} (hd : o.dst = some d) (hN : Nat.blt d N = true) (hg : o.guard = none) (ho : o.op = .call { callee := .value (.func f), args := args, argTypes := ts })
    (hcall : Enters P f) (hv : evs fr args.toList = some vs) (hc : GCalls P f vs H R) (h : ∀ v H', R v H' → GRun P N ops Q L ((d, some v) :: fr) H') : GRun P N ops Q ((o, 0) :: L) fr H :=
  .c hd hN hg (by simp) (R := fun ov X => ∃ v, ov = some v ∧ R v X) (.call ho hcall hv hc fun v H' h => ⟨v, rfl, h⟩) fun _ H' ⟨v, h1, h2⟩ => by subst h1; exact ⟨fun e => (by cases e), h v H' h2⟩
theorem GRun.callg {d s : Tmp} {f : FuncId} {args : Array Operand} {ts : Array TypeId} {vs : List Value} {R : Value → GHeap → Prop} {j : Nat} {want : Bool} (hd : o.dst = some d) (hN : Nat.blt d N = true) (hg : o.guard = some (j, want)) (hs : guardSlot ops j = some s) (hb : fr.get s = some (.bool want)) (ho : o.op = .call { callee := .value (.func f), args := args, argTypes := ts })
    (hcall : Enters P f) (hv : evs fr args.toList = some vs) (hc : GCalls P f vs H R) (h : ∀ v H', R v H' → GRun P N ops Q L ((d, some v) :: fr) H') : GRun P N ops Q ((o, 0) :: L) fr H :=
  .cg hd hN hg hs hb (by simp) (R := fun ov X => ∃ v, ov = some v ∧ R v X) (.call ho hcall hv hc fun v H' h => ⟨v, rfl, h⟩) fun _ H' ⟨v, h1, h2⟩ => by subst h1; exact ⟨fun e => (by cases e), h v H' h2⟩
theorem GTree.done (h : Q fr H) : GTree P N ops Q .done fr Hb H := h
theorem GTree.m {d : Tmp} {v : Value} (hi : ops[i]? = some o) (hd : o.dst = some d) (hN : Nat.blt d N = true) (hg : o.guard = none) (hle : Hb.Le H) (hm : MStep P fr H o.op v) (h : GTree P N ops Q t ((d, some v) :: fr) H H) : GTree P N ops Q (.q i t) fr Hb H := by
  unfold GTree
  refine ⟨o, hi, by unfold dstOk; rw [hd]; exact hN, ?_⟩
  rw [hg]
  exact ⟨v, H, hle, .refl _, hm, by rw [hd]; exact h⟩
theorem GTree.mg {d s : Tmp} {v : Value} {j : Nat} {want : Bool} (hi : ops[i]? = some o) (hd : o.dst = some d) (hN : Nat.blt d N = true) (hg : o.guard = some (j, want)) (hs : guardSlot ops j = some s) (hb : fr.get s = some (.bool want)) (hle : Hb.Le H) (hm : MStep P fr H o.op v)
    (h : GTree P N ops Q t ((d, some v) :: fr) H H) : GTree P N ops Q (.q i t) fr Hb H := by
  unfold GTree
  refine ⟨o, hi, by unfold dstOk; rw [hd]; exact hN, ?_⟩
  rw [hg]
  exact ⟨s, .bool want, hs, hb, .inl ⟨_, rfl⟩, fun _ => ⟨v, H, hle, .refl _, hm, by rw [hd]; exact h⟩, fun hne => absurd rfl hne⟩
theorem GTree.sg {d s : Tmp} {j : Nat} {want : Bool} (hi : ops[i]? = some o) (hd : o.dst = some d) (hN : Nat.blt d N = true) (hg : o.guard = some (j, want)) (hs : guardSlot ops j = some s) (hb : fr.get s = some (.bool (!want))) (h : GTree P N ops Q t ((d, some undef) :: fr) Hb H) :
    GTree P N ops Q (.q i t) fr Hb H := by
  unfold GTree
  refine ⟨o, hi, by unfold dstOk; rw [hd]; exact hN, ?_⟩
  rw [hg]
  exact ⟨s, .bool (!want), hs, hb, .inl ⟨_, rfl⟩, fun he => absurd he (by cases want <;> simp), fun _ => by rw [hd]; exact h⟩
theorem GTree.sgc {d s : Tmp} {j k : Nat} {want : Bool} (hi : ops[i]? = some o) (hd : o.dst = some d) (hN : Nat.blt d N = true) (hg : o.guard = some (j, want)) (hs : guardSlot ops j = some s) (hb : fr.get s = some (.bool (!want))) (h : GTree P N ops Q t ((d, some undef) :: fr) Hb H) :
    GTree P N ops Q (.c i k t) fr Hb H := by
  unfold GTree
  refine ⟨o, hi, by unfold dstOk; rw [hd]; exact hN, ?_⟩
  rw [hg]
  exact ⟨s, .bool (!want), hs, hb, .inl ⟨_, rfl⟩, fun he => absurd he (by cases want <;> simp), fun _ => by rw [hd]; exact h⟩
theorem GTree.c1 {d : Tmp} {R : Option Value → GHeap → Prop} (hi : ops[i]? = some o) (hd : o.dst = some d) (hN : Nat.blt d N = true) (hg : o.guard = none) (hc : CDo P o fr H R) (h : ∀ v H', R v H' → Hb.Le H' ∧ GTree P N ops Q t ((d, v) :: fr) Hb H') : GTree P N ops Q (.c i 1 t) fr Hb H := by
  unfold GTree
  refine ⟨o, hi, by unfold dstOk; rw [hd]; exact hN, ?_⟩
  rw [hg]
  refine .mkI fun l B w0 ρ a w hs hf next Qx hn => ?_
  exact hc.run l B w0 ρ a w hs hf next Qx fun ρ' v c H' w' hR => hn ρ' v c H' w' ⟨fun _ => (h v H' hR).1, by rw [hd, if_pos rfl]; exact (h v H' hR).2⟩
theorem GTree.c1g {d s : Tmp} {R : Option Value → GHeap → Prop} {j : Nat} {want : Bool} (hi : ops[i]? = some o) (hd : o.dst = some d) (hN : Nat.blt d N = true) (hg : o.guard = some (j, want)) (hs : guardSlot ops j = some s) (hb : fr.get s = some (.bool want)) (hc : CDo P o fr H R)
    (h : ∀ v H', R v H' → Hb.Le H' ∧ GTree P N ops Q t ((d, v) :: fr) Hb H') : GTree P N ops Q (.c i 1 t) fr Hb H := by
  unfold GTree
  refine ⟨o, hi, by unfold dstOk; rw [hd]; exact hN, ?_⟩
  rw [hg]
  refine ⟨s, .bool want, hs, hb, .inl ⟨_, rfl⟩, fun _ => ?_, fun hne => absurd rfl hne⟩
  refine .mkI fun l B w0 ρ a w hs hf next Qx hn => ?_
  exact hc.run l B w0 ρ a w hs hf next Qx fun ρ' v c H' w' hR => hn ρ' v c H' w' ⟨fun _ => (h v H' hR).1, by rw [hd, if_pos rfl]; exact (h v H' hR).2⟩
theorem GTree.c0 {d : Tmp} {R : Option Value → GHeap → Prop} (hi : ops[i]? = some o) (hd : o.dst = some d) (hN : Nat.blt d N = true) (hg : o.guard = none) (hc : CDo P o fr H R) (h : ∀ v H', R v H' → GTree P N ops Q t ((d, v) :: fr) H' H') : GTree P N ops Q (.c i 0 t) fr Hb H := by
  unfold GTree
  refine ⟨o, hi, by unfold dstOk; rw [hd]; exact hN, ?_⟩
  rw [hg]
  refine .mkI fun l B w0 ρ a w hs hf next Qx hn => ?_
  exact hc.run l B w0 ρ a w hs hf next Qx fun ρ' v c H' w' hR => hn ρ' v c H' w' ⟨fun e => (by cases e), by rw [hd, if_neg (by simp)]; exact h v H' hR⟩
theorem GTree.c0g {d s : Tmp} {R : Option Value → GHeap → Prop} {j : Nat} {want : Bool} (hi : ops[i]? = some o) (hd : o.dst = some d) (hN : Nat.blt d N = true) (hg : o.guard = some (j, want)) (hs : guardSlot ops j = some s) (hb : fr.get s = some (.bool want)) (hc : CDo P o fr H R)
    (h : ∀ v H', R v H' → GTree P N ops Q t ((d, v) :: fr) H' H') : GTree P N ops Q (.c i 0 t) fr Hb H := by
  unfold GTree
  refine ⟨o, hi, by unfold dstOk; rw [hd]; exact hN, ?_⟩
  rw [hg]
  refine ⟨s, .bool want, hs, hb, .inl ⟨_, rfl⟩, fun _ => ?_, fun hne => absurd rfl hne⟩
  refine .mkI fun l B w0 ρ a w hs hf next Qx hn => ?_
  exact hc.run l B w0 ρ a w hs hf next Qx fun ρ' v c H' w' hR => hn ρ' v c H' w' ⟨fun e => (by cases e), by rw [hd, if_neg (by simp)]; exact h v H' hR⟩
theorem GTree.s0 (hi : ops[i]? = some o) (hd : o.dst = none) (hg : o.guard = none) (hc : CDo P o fr H (CIs none H')) (h : GTree P N ops Q t fr H' H') : GTree P N ops Q (.c i 0 t) fr Hb H := by
  unfold GTree
  refine ⟨o, hi, by unfold dstOk; rw [hd], ?_⟩
  rw [hg]
  refine .mkI fun l B w0 ρ a w hs hf next Qx hn => ?_
  exact hc.run l B w0 ρ a w hs hf next Qx fun ρ' v c H' w' ⟨h1, h2⟩ => hn ρ' v c H' w' (by subst h1; subst h2; exact ⟨fun e => (by cases e), by rw [hd, if_neg (by simp)]; exact h⟩)
theorem GTree.call1 {d : Tmp} {f : FuncId} {args : Array Operand} {ts : Array TypeId} {vs : List Value} {R : Value → GHeap → Prop} (hi : ops[i]? = some o) (hd : o.dst = some d) (hN : Nat.blt d N = true) (hg : o.guard = none) (ho : o.op = .call { callee := .value (.func f), args := args, argTypes := ts })
    (hcall : Enters P f) (hv : evs fr args.toList = some vs) (hc : GCalls P f vs H R) (h : ∀ v H', R v H' → Hb.Le H' ∧ GTree P N ops Q t ((d, some v) :: fr) Hb H') : GTree P N ops Q (.c i 1 t) fr Hb H :=
  .c1 hi hd hN hg (R := fun ov X => ∃ v, ov = some v ∧ R v X) (.call ho hcall hv hc fun v H' h => ⟨v, rfl, h⟩) fun _ H' ⟨v, h1, h2⟩ => by subst h1; exact h v H' h2
theorem GTree.call1g {d s : Tmp} {f : FuncId} {args : Array Operand} {ts : Array TypeId} {vs : List Value} {R : Value → GHeap → Prop} {j : Nat} {want : Bool} (hi : ops[i]? = some o) (hd : o.dst = some d) (hN : Nat.blt d N = true) (hg : o.guard = some (j, want)) (hs : guardSlot ops j = some s) (hb : fr.get s = some (.bool want))
    (ho : o.op = .call { callee := .value (.func f), args := args, argTypes := ts }) (hcall : Enters P f) (hv : evs fr args.toList = some vs) (hc : GCalls P f vs H R) (h : ∀ v H', R v H' → Hb.Le H' ∧ GTree P N ops Q t ((d, some v) :: fr) Hb H') :
    GTree P N ops Q (.c i 1 t) fr Hb H :=
  .c1g hi hd hN hg hs hb (R := fun ov X => ∃ v, ov = some v ∧ R v X) (.call ho hcall hv hc fun v H' h => ⟨v, rfl, h⟩) fun _ H' ⟨v, h1, h2⟩ => by subst h1; exact h v H' h2
theorem GTree.call0 {d : Tmp} {f : FuncId} {args : Array Operand} {ts : Array TypeId} {vs : List Value} {R : Value → GHeap → Prop} (hi : ops[i]? = some o) (hd : o.dst = some d) (hN : Nat.blt d N = true) (hg : o.guard = none) (ho : o.op = .call { callee := .value (.func f), args := args, argTypes := ts })
    (hcall : Enters P f) (hv : evs fr args.toList = some vs) (hc : GCalls P f vs H R) (h : ∀ v H', R v H' → GTree P N ops Q t ((d, some v) :: fr) H' H') : GTree P N ops Q (.c i 0 t) fr Hb H :=
  .c0 hi hd hN hg (R := fun ov X => ∃ v, ov = some v ∧ R v X) (.call ho hcall hv hc fun v H' h => ⟨v, rfl, h⟩) fun _ H' ⟨v, h1, h2⟩ => by subst h1; exact h v H' h2
theorem GTree.call0g {d s : Tmp} {f : FuncId} {args : Array Operand} {ts : Array TypeId} {vs : List Value} {R : Value → GHeap → Prop} {j : Nat} {want : Bool} (hi : ops[i]? = some o) (hd : o.dst = some d) (hN : Nat.blt d N = true) (hg : o.guard = some (j, want)) (hs : guardSlot ops j = some s) (hb : fr.get s = some (.bool want))
    (ho : o.op = .call { callee := .value (.func f), args := args, argTypes := ts }) (hcall : Enters P f) (hv : evs fr args.toList = some vs) (hc : GCalls P f vs H R) (h : ∀ v H', R v H' → GTree P N ops Q t ((d, some v) :: fr) H' H') :
    GTree P N ops Q (.c i 0 t) fr Hb H :=
  .c0g hi hd hN hg hs hb (R := fun ov X => ∃ v, ov = some v ∧ R v X) (.call ho hcall hv hc fun v H' h => ⟨v, rfl, h⟩) fun _ H' ⟨v, h1, h2⟩ => by subst h1; exact h v H' h2
end

section
variable {P : Program} {N : Nat} {Q : Exit → Slots → GHeap → Prop} {fr : Slots} {H : GHeap}
theorem GT.condT {c : Operand} {x y : Code} (hc : ev fr c = some (.bool true)) (h : GT P N x Q fr H) : GT P N (.cond c x y) Q fr H := .cond hc (fun _ => h) (fun e => by cases e)
theorem GT.condF {c : Operand} {x y : Code} (hc : ev fr c = some (.bool false)) (h : GT P N y Q fr H) : GT P N (.cond c x y) Q fr H := .cond hc (fun e => by cases e) (fun _ => h)
end

def SlA (H : GHeap) (a : Option Addr) (n : Nat) (f : Nat → Value) : Prop := n = 0 ∨ ∃ g off, a = some ⟨g, off, none⟩ ∧ ∀ i, i < n → H.cell g (off + i) = some (f i)
def elemPtr (a : Option Addr) (k : Nat) : Value := match a with | some ⟨g, o, _⟩ => .pointer (some ⟨g, o + k, none⟩) | none => .pointer none

section
variable {P : Program} {fr : Slots} {H H' : GHeap} {a : Option Addr} {n : Nat} {f : Nat → Value}
theorem SlA.mono (h : SlA H a n f) (hle : H.Le H') : SlA H' a n f := h.imp id fun ⟨g, off, ha, hc⟩ => ⟨g, off, ha, fun i hi => hle.cell (hc i hi)⟩
theorem MStep.idx {t e : TypeId} {x i : Operand} {k : IntKind} {j : Int} {sz m : Nat} (ht : sliceT P t = some (e, sz)) (h : SlA H a (n * sz) f) (hsz : 0 < sz) (hx : ev fr x = some (.slice a n n)) (hi : ev fr i = some (.int k j)) (h0 : 0 ≤ j) (h1 : j < n) (hm : j.toNat * sz = m) : MStep P fr H (.indexAddr t x i) (elemPtr a m) := by
  rcases h with h | ⟨g, off, rfl, _⟩
  · have := Nat.mul_eq_zero.1 h; omega
  · subst hm
    exact .indexAddr ht hx hi h0 h1
theorem MStep.idx1 {t e : TypeId} {x i : Operand} {k : IntKind} {j : Int} (ht : sliceT P t = some (e, 1)) (h : SlA H a n f) (hx : ev fr x = some (.slice a n n)) (hi : ev fr i = some (.int k j)) (h0 : 0 ≤ j) (h1 : j < n) : MStep P fr H (.indexAddr t x i) (elemPtr a j.toNat) :=
  .idx ht (by rw [Nat.mul_one]; exact h) (by omega) hx hi h0 h1 (by omega)
theorem MStep.loadE {t : TypeId} {x : Operand} {k : Nat} (ht : oneT P t = true) (h : SlA H a n f) (hx : ev fr x = some (elemPtr a k)) (hk : k < n) : MStep P fr H (.load t x) (f k) := by
  rcases h with h | ⟨g, off, rfl, hc⟩
  · omega
  · exact .load ht hx (hc k hk)

def Ints (H : GHeap) (a : Option Addr) (xs : List Int) : Prop := SlA H a xs.length fun i => .int .i64 (xs.getD i 0)
def Bools (H : GHeap) (a : Option Addr) (xs : List Bool) : Prop := SlA H a xs.length fun i => .bool (xs.getD i false)
def Intss (H : GHeap) (a : Option Addr) (xss : List (List Int)) (r : Nat → Option Addr) : Prop :=
  (SlA H a xss.length fun i => .slice (r i) (xss.getD i []).length (xss.getD i []).length) ∧ ∀ i, i < xss.length → Ints H (r i) (xss.getD i [])
theorem Ints.mono {xs : List Int} (h : Ints H a xs) (hle : H.Le H') : Ints H' a xs := SlA.mono h hle
theorem Bools.mono {xs : List Bool} (h : Bools H a xs) (hle : H.Le H') : Bools H' a xs := SlA.mono h hle
theorem Intss.mono {xss : List (List Int)} {r : Nat → Option Addr} (h : Intss H a xss r) (hle : H.Le H') : Intss H' a xss r := ⟨SlA.mono h.1 hle, fun i hi => (h.2 i hi).mono hle⟩

theorem MStep.loadI {t : TypeId} {x : Operand} {k : Nat} {xs : List Int} (ht : oneT P t = true) (h : Ints H a xs) (hx : ev fr x = some (elemPtr a k)) (hk : k < xs.length) : MStep P fr H (.load t x) (.int .i64 (xs.getD k 0)) := .loadE ht h hx hk
theorem MStep.loadB {t : TypeId} {x : Operand} {k : Nat} {xs : List Bool} (ht : oneT P t = true) (h : Bools H a xs) (hx : ev fr x = some (elemPtr a k)) (hk : k < xs.length) : MStep P fr H (.load t x) (.bool (xs.getD k false)) := .loadE ht h hx hk
theorem MStep.loadR {t : TypeId} {x : Operand} {k : Nat} {xss : List (List Int)} {r : Nat → Option Addr} (ht : oneT P t = true) (h : Intss H a xss r) (hx : ev fr x = some (elemPtr a k)) (hk : k < xss.length) :
    MStep P fr H (.load t x) (.slice (r k) (xss.getD k []).length (xss.getD k []).length) := .loadE (n := xss.length) (f := fun i => .slice (r i) (xss.getD i []).length (xss.getD i []).length) ht h.1 hx hk
theorem MStep.add {t u : TypeId} {x y : Operand} {p q r : Int} (hx : ev fr x = some (.int .i64 p)) (hy : ev fr y = some (.int .i64 q)) (hr : p + q = r) (h0 : -9223372036854775808 ≤ r) (h1 : r ≤ 9223372036854775807) : MStep P fr H (.binOp .add t x y u) (.int .i64 r) := by
  refine .arith hx hy ?_
  simp only [arithI, Option.some.injEq]
  rw [hr, IntKind.wrap_i64]
  omega
theorem MStep.sub {t u : TypeId} {x y : Operand} {p q r : Int} (hx : ev fr x = some (.int .i64 p)) (hy : ev fr y = some (.int .i64 q)) (hr : p - q = r) (h0 : -9223372036854775808 ≤ r) (h1 : r ≤ 9223372036854775807) : MStep P fr H (.binOp .sub t x y u) (.int .i64 r) := by
  refine .arith hx hy ?_
  simp only [arithI, Option.some.injEq]
  rw [hr, IntKind.wrap_i64]
  omega
end

def Ret (r : Value) (H : GHeap) : Value → GHeap → Prop := fun v H' => r = v ∧ H = H'
theorem Ret.mk {r : Value} {H : GHeap} : Ret r H r H := ⟨rfl, rfl⟩
theorem Ret.of {r v : Value} {H : GHeap} (h : r = v) : Ret r H v H := ⟨h, rfl⟩
theorem GCalls.ret {P : Program} {f : FuncId} {args : List Value} {H : GHeap} {r : Value} (hr : flat r = true) (h : GCalls P f args H fun v H' => r = v ∧ H.Le H') : GCalls P f args H (Ret r H) :=
  ((h.mono fun _ _ ⟨h1, h2⟩ => (⟨h1, by rw [← h1]; exact hr, h2⟩ : r = _ ∧ flat _ = true ∧ _)).quiet (φ := fun v => r = v)).mono fun _ _ ⟨h1, h2⟩ => ⟨h1, h2.symm⟩

section
variable {P : Program} {N : Nat} {ops : Array Oper} {Q : Slots → GHeap → Prop} {L : List (Oper × Nat)} {fr : Slots} {H H' Hb : GHeap} {o : Oper} {i k : Nat} {t : Tree}
theorem GRun.split {d : Tmp} {b : Bool} (ht : b = true → GRun P N ops Q L ((d, some (.bool true)) :: fr) H) (hf : b = false → GRun P N ops Q L ((d, some (.bool false)) :: fr) H) : GRun P N ops Q L ((d, some (.bool b)) :: fr) H := by
  cases b
  · exact hf rfl
  · exact ht rfl
theorem GTree.split {d : Tmp} {b : Bool} (ht : b = true → GTree P N ops Q t ((d, some (.bool true)) :: fr) Hb H) (hf : b = false → GTree P N ops Q t ((d, some (.bool false)) :: fr) Hb H) : GTree P N ops Q t ((d, some (.bool b)) :: fr) Hb H := by
  cases b
  · exact hf rfl
  · exact ht rfl
theorem GRun.callQ {d : Tmp} {f : FuncId} {args : Array Operand} {ts : Array TypeId} {vs : List Value} {r : Value} (hd : o.dst = some d) (hN : Nat.blt d N = true) (hg : o.guard = none) (ho : o.op = .call { callee := .value (.func f), args := args, argTypes := ts })
    (hcall : Enters P f) (hv : evs fr args.toList = some vs) (hc : GCalls P f vs H (Ret r H)) (h : GRun P N ops Q L ((d, some r) :: fr) H) : GRun P N ops Q ((o, 0) :: L) fr H :=
  .call hd hN hg ho hcall hv hc fun _ _ ⟨h1, h2⟩ => by subst h1; subst h2; exact h
theorem GRun.callQg {d s : Tmp} {f : FuncId} {args : Array Operand} {ts : Array TypeId} {vs : List Value} {r : Value} {j : Nat} {want : Bool} (hd : o.dst = some d) (hN : Nat.blt d N = true) (hg : o.guard = some (j, want)) (hs : guardSlot ops j = some s) (hb : fr.get s = some (.bool want)) (ho : o.op = .call { callee := .value (.func f), args := args, argTypes := ts })
    (hcall : Enters P f) (hv : evs fr args.toList = some vs) (hc : GCalls P f vs H (Ret r H)) (h : GRun P N ops Q L ((d, some r) :: fr) H) : GRun P N ops Q ((o, 0) :: L) fr H :=
  .callg hd hN hg hs hb ho hcall hv hc fun _ _ ⟨h1, h2⟩ => by subst h1; subst h2; exact h
theorem GTree.callQ1 {d : Tmp} {f : FuncId} {args : Array Operand} {ts : Array TypeId} {vs : List Value} {r : Value} (hi : ops[i]? = some o) (hd : o.dst = some d) (hN : Nat.blt d N = true) (hg : o.guard = none) (ho : o.op = .call { callee := .value (.func f), args := args, argTypes := ts })
    (hcall : Enters P f) (hv : evs fr args.toList = some vs) (hc : GCalls P f vs H (Ret r H)) (hle : Hb.Le H) (h : GTree P N ops Q t ((d, some r) :: fr) Hb H) : GTree P N ops Q (.c i 1 t) fr Hb H :=
  .call1 hi hd hN hg ho hcall hv hc fun _ _ ⟨h1, h2⟩ => by subst h1; subst h2; exact ⟨hle, h⟩
theorem GTree.callQ1g {d s : Tmp} {f : FuncId} {args : Array Operand} {ts : Array TypeId} {vs : List Value} {r : Value} {j : Nat} {want : Bool} (hi : ops[i]? = some o) (hd : o.dst = some d) (hN : Nat.blt d N = true) (hg : o.guard = some (j, want)) (hs : guardSlot ops j = some s) (hb : fr.get s = some (.bool want))
    (ho : o.op = .call { callee := .value (.func f), args := args, argTypes := ts }) (hcall : Enters P f) (hv : evs fr args.toList = some vs) (hc : GCalls P f vs H (Ret r H)) (hle : Hb.Le H) (h : GTree P N ops Q t ((d, some r) :: fr) Hb H) : GTree P N ops Q (.c i 1 t) fr Hb H :=
  .call1g hi hd hN hg hs hb ho hcall hv hc fun _ _ ⟨h1, h2⟩ => by subst h1; subst h2; exact ⟨hle, h⟩
theorem GTree.callQ0 {d : Tmp} {f : FuncId} {args : Array Operand} {ts : Array TypeId} {vs : List Value} {r : Value} (hi : ops[i]? = some o) (hd : o.dst = some d) (hN : Nat.blt d N = true) (hg : o.guard = none) (ho : o.op = .call { callee := .value (.func f), args := args, argTypes := ts })
    (hcall : Enters P f) (hv : evs fr args.toList = some vs) (hc : GCalls P f vs H (Ret r H)) (h : GTree P N ops Q t ((d, some r) :: fr) H H) : GTree P N ops Q (.c i 0 t) fr Hb H :=
  .call0 hi hd hN hg ho hcall hv hc fun _ _ ⟨h1, h2⟩ => by subst h1; subst h2; exact h
theorem GTree.callQ0g {d s : Tmp} {f : FuncId} {args : Array Operand} {ts : Array TypeId} {vs : List Value} {r : Value} {j : Nat} {want : Bool} (hi : ops[i]? = some o) (hd : o.dst = some d) (hN : Nat.blt d N = true) (hg : o.guard = some (j, want)) (hs : guardSlot ops j = some s) (hb : fr.get s = some (.bool want))
    (ho : o.op = .call { callee := .value (.func f), args := args, argTypes := ts }) (hcall : Enters P f) (hv : evs fr args.toList = some vs) (hc : GCalls P f vs H (Ret r H)) (h : GTree P N ops Q t ((d, some r) :: fr) H H) : GTree P N ops Q (.c i 0 t) fr Hb H :=
  .call0g hi hd hN hg hs hb ho hcall hv hc fun _ _ ⟨h1, h2⟩ => by subst h1; subst h2; exact h
end

theorem Sub.append {fr : Slots} : ∀ {a b : Slots}, Sub a fr → Sub b fr → Sub (a ++ b) fr
  | [], _, _, hb => hb
  | (_, some _) :: _, _, ha, hb => ⟨ha.1, Sub.append ha.2 hb⟩
  | (_, none) :: r, _, ha, hb => Sub.append (a := r) ha hb
theorem GT.loopR {P : Program} {N : Nat} {Q : Exit → Slots → GHeap → Prop} {fr : Slots} {H : GHeap} {c : Code} {σ : Type} (rest : Slots) (F : σ → Slots) (I : σ → GHeap → Prop) (μ : σ → Nat) (s0 : σ) (hr : Sub rest fr) (hF : Sub (F s0) fr) (hI : I s0 H)
    (round : ∀ s H, I s H → ∀ K : Slots → GHeap → Prop, (∀ s' fr' H', I s' H' → μ s' < μ s → Sub (F s' ++ rest) fr' → K fr' H') → GT P N c (thenG K Q) (F s ++ rest) H) : GT P N (.loop c) Q fr H :=
  GT.loop (fun s => F s ++ rest) I μ s0 (hF.append hr) hI round
def mvOp (o : Oper) (N : Nat) (fr : Slots) : Option (Tmp × Value) :=
  match o.guard, o.dst, o.op with
  | none, some d, .move x => bif Nat.blt d N then (ev fr x).map (fun v => (d, v)) else none
  | none, some d, .assign x => bif Nat.blt d N then (ev fr x).map (fun v => (d, v)) else none
  | _, _, _ => none
theorem mvOp.spec {P : Program} {H : GHeap} {o : Oper} {N d : Nat} {v : Value} {fr : Slots} (h : mvOp o N fr = some (d, v)) : o.dst = some d ∧ Nat.blt d N = true ∧ o.guard = none ∧ MStep P fr H o.op v := by
  unfold mvOp at h
  split at h
  · rename_i d' x h1 h2 h3
    cases hb : Nat.blt d' N with
    | false => rw [hb] at h; cases h
    | true =>
      rw [hb] at h
      obtain ⟨u, hu, e⟩ := Option.map_eq_some_iff.1 h
      cases e
      exact ⟨h2, hb, h1, by rw [h3]; exact .move hu⟩
  · rename_i d' x h1 h2 h3
    cases hb : Nat.blt d' N with
    | false => rw [hb] at h; cases h
    | true =>
      rw [hb] at h
      obtain ⟨u, hu, e⟩ := Option.map_eq_some_iff.1 h
      cases e
      exact ⟨h2, hb, h1, by rw [h3]; exact .assign hu⟩
  · cases h
theorem GRun.mv {P : Program} {N : Nat} {ops : Array Oper} {Q : Slots → GHeap → Prop} {L : List (Oper × Nat)} {fr : Slots} {H : GHeap} {o : Oper} {k d : Nat} {v : Value} (h : mvOp o N fr = some (d, v)) (hq : GRun P N ops Q L ((d, some v) :: fr) H) : GRun P N ops Q ((o, k) :: L) fr H := by
  obtain ⟨h1, h2, h3, h4⟩ := mvOp.spec (P := P) (H := H) h
  exact .m h1 h2 h3 h4 hq
theorem GTree.mv {P : Program} {N : Nat} {ops : Array Oper} {Q : Slots → GHeap → Prop} {t : Tree} {fr : Slots} {H : GHeap} {o : Oper} {i d : Nat} {v : Value} (hi : ops[i]? = some o) (h : mvOp o N fr = some (d, v)) (hq : GTree P N ops Q t ((d, some v) :: fr) H H) : GTree P N ops Q (.q i t) fr H H := by
  obtain ⟨h1, h2, h3, h4⟩ := mvOp.spec (P := P) (H := H) h
  exact .m hi h1 h2 h3 (.refl _) h4 hq
def stpR (o : Oper) (N : Nat) : Option Tmp := match o.dst, o.guard with
  | some d, none => (match Nat.blt d N with | true => some d | false => none)
  | _, _ => none
theorem stpR.spec {o : Oper} {N d : Nat} (h : stpR o N = some d) : o.dst = some d ∧ Nat.blt d N = true ∧ o.guard = none := by
  unfold stpR at h
  split at h
  · split at h
    · cases h; exact ⟨by assumption, by assumption, by assumption⟩
    · cases h
  · cases h
def stpT (ops : Array Oper) (i N : Nat) : Option (Oper × Tmp) := match ops[i]? with
  | some o => (match stpR o N with | some d => some (o, d) | none => none)
  | none => none
theorem stpT.spec {ops : Array Oper} {i N d : Nat} {o : Oper} (h : stpT ops i N = some (o, d)) : ops[i]? = some o ∧ stpR o N = some d := by
  unfold stpT at h
  split at h
  · split at h
    · cases h; exact ⟨by assumption, by assumption⟩
    · cases h
  · cases h
def stpG (ops : Array Oper) (fr : Slots) (o : Oper) (N : Nat) (run : Bool) : Option Tmp := match o.dst, o.guard with
  | some d, some (j, want) => (match Nat.blt d N, guardSlot ops j with
    | true, some t => (match fr.get t with
      | some (.bool b) => (match b == (want == run) with | true => some d | false => none)
      | _ => none)
    | _, _ => none)
  | _, _ => none
theorem stpG.spec {ops : Array Oper} {fr : Slots} {o : Oper} {N d : Nat} {run : Bool} (h : stpG ops fr o N run = some d) : ∃ j want t, o.dst = some d ∧ Nat.blt d N = true ∧ o.guard = some (j, want) ∧ guardSlot ops j = some t ∧ fr.get t = some (.bool (want == run)) := by
  unfold stpG at h
  split at h
  · split at h
    · split at h
      · split at h
        · rename_i e _ _ _ b hb _ hw
          cases h
          rw [beq_iff_eq] at hw
          subst hw
          exact ⟨_, _, _, by assumption, by assumption, by assumption, by assumption, hb⟩
        · cases h
      · cases h
    · cases h
  · cases h
def stpH (ops : Array Oper) (fr : Slots) (i N : Nat) (run : Bool) : Option (Oper × Tmp) := match ops[i]? with
  | some o => (match stpG ops fr o N run with | some d => some (o, d) | none => none)
  | none => none
theorem stpH.spec {ops : Array Oper} {fr : Slots} {i N d : Nat} {o : Oper} {run : Bool} (h : stpH ops fr i N run = some (o, d)) : ops[i]? = some o ∧ stpG ops fr o N run = some d := by
  unfold stpH at h
  split at h
  · split at h
    · cases h; exact ⟨by assumption, by assumption⟩
    · cases h
  · cases h
section
variable {P : Program} {N : Nat} {ops : Array Oper} {Q : Slots → GHeap → Prop} {L : List (Oper × Nat)} {t : Tree} {fr : Slots} {Hb H : GHeap} {o : Oper} {i k d : Nat} {v : Value}
theorem GRun.q (h : stpR o N = some d) (hm : MStep P fr H o.op v) (hq : GRun P N ops Q L ((d, some v) :: fr) H) : GRun P N ops Q ((o, k) :: L) fr H := by
  obtain ⟨h1, h2, h3⟩ := stpR.spec h
  exact .m h1 h2 h3 hm hq
theorem GTree.q (h : stpT ops i N = some (o, d)) (hm : MStep P fr H o.op v) (hq : GTree P N ops Q t ((d, some v) :: fr) H H) : GTree P N ops Q (.q i t) fr H H := by
  obtain ⟨h0, h4⟩ := stpT.spec h
  obtain ⟨h1, h2, h3⟩ := stpR.spec h4
  exact .m h0 h1 h2 h3 (.refl _) hm hq
theorem GRun.qg (h : stpG ops fr o N true = some d) (hm : MStep P fr H o.op v) (hq : GRun P N ops Q L ((d, some v) :: fr) H) : GRun P N ops Q ((o, k) :: L) fr H := by
  obtain ⟨j, w, s, h1, h2, h3, h4, h5⟩ := stpG.spec h
  rw [show (w == true) = w by cases w <;> rfl] at h5
  exact .mg h1 h2 h3 h4 h5 hm hq
theorem GTree.qg (h : stpH ops fr i N true = some (o, d)) (hm : MStep P fr H o.op v) (hq : GTree P N ops Q t ((d, some v) :: fr) H H) : GTree P N ops Q (.q i t) fr H H := by
  obtain ⟨h0, h6⟩ := stpH.spec h
  obtain ⟨j, w, s, h1, h2, h3, h4, h5⟩ := stpG.spec h6
  rw [show (w == true) = w by cases w <;> rfl] at h5
  exact .mg h0 h1 h2 h3 h4 h5 (.refl _) hm hq
theorem GRun.z (h : stpG ops fr o N false = some d) (hq : GRun P N ops Q L ((d, some undef) :: fr) H) : GRun P N ops Q ((o, k) :: L) fr H := by
  obtain ⟨j, w, s, h1, h2, h3, h4, h5⟩ := stpG.spec h
  rw [show (w == false) = !w by cases w <;> rfl] at h5
  exact .sg h1 h2 h3 h4 h5 hq
theorem GTree.z (h : stpH ops fr i N false = some (o, d)) (hq : GTree P N ops Q t ((d, some undef) :: fr) Hb H) : GTree P N ops Q (.q i t) fr Hb H := by
  obtain ⟨h0, h6⟩ := stpH.spec h
  obtain ⟨j, w, s, h1, h2, h3, h4, h5⟩ := stpG.spec h6
  rw [show (w == false) = !w by cases w <;> rfl] at h5
  exact .sg h0 h1 h2 h3 h4 h5 hq
end
def pickS (fr : Slots) : List Nat → Option Slots
  | [] => some []
  | t :: r => match fr.get t, pickS fr r with
    | some v, some q => some ((t, some v) :: q)
    | _, _ => none
theorem pickS.sub {fr : Slots} : ∀ {ts : List Nat} {fr' : Slots}, pickS fr ts = some fr' → Sub fr' fr
  | [], fr', h => by cases h; exact trivial
  | t :: r, fr', h => by
    unfold pickS at h
    split at h
    · rename_i v q h1 h2
      cases h
      exact ⟨h1, pickS.sub h2⟩
    · cases h
theorem GT.fg {P : Program} {N : Nat} {Q : Exit → Slots → GHeap → Prop} {fr fr' : Slots} {H : GHeap} {c : Code} (ts : List Nat) (hs : pickS fr ts = some fr') (h : GT P N c Q fr' H) : GT P N c Q fr H := .forget (pickS.sub hs) h
end Go.GL
namespace Go.GL
open Go.RowKit
variable [MainFlag]

theorem GHeap.Le.set_new {H H' : GHeap} {g : Nat} {o : Option GObj} (h : H.Le H') (hg : H.next ≤ g) : H.Le (H'.set g o) := by
  refine ⟨by simpa using h.1, fun k x hk => ?_⟩
  have hl := GHeap.ltg hk
  rw [GHeap.get_set_ne (by omega)]
  exact h.2 k x hk
structure NE (a b : Nat) : Prop where
  ne : a ≠ b
theorem NE.a {a b : Nat} (h : a ≠ b := by first | assumption | omega) : NE a b := ⟨h⟩
theorem MStep.idxN {P : Program} {fr : Slots} {H : GHeap} {a : Option Addr} {n : Nat} {f : Nat → Value} {t e : TypeId} {x i : Operand} {k : IntKind} {j : Nat} (ht : sliceT P t = some (e, 1)) (h : SlA H a n f) (hx : ev fr x = some (.slice a n n)) (hi : ev fr i = some (.int k (j : Int))) (h1 : j < n) :
    MStep P fr H (.indexAddr t x i) (elemPtr a j) := by
  have := MStep.idx1 (P := P) (fr := fr) (H := H) ht h hx hi (by omega) (by omega)
  simpa using this

def Mem (H : GHeap) (g o : Nat) (cs : List Value) : Prop := ∀ (i : Nat) (v : Value), cs[i]? = some v → H.cell g (o + i) = some v
theorem Mem.mono {H H' : GHeap} {g o : Nat} {cs : List Value} (h : Mem H g o cs) (hle : H.Le H') : Mem H' g o cs := fun i v hv => hle.cell (h i v hv)
theorem Mem.of_get {H : GHeap} {g : Nat} {cs : List Value} {e : TypeId} {own : Bool} (h : H.get g = some (.row cs e own)) : Mem H g 0 cs := fun i v hv => by
  rw [GHeap.cell_of h, Nat.zero_add]; exact hv
theorem Mem.new (H : GHeap) (cs : List Value) (e : TypeId) (own : Bool) : Mem (H.push (.row cs e own)) H.next 0 cs := .of_get (GHeap.get_push_new _ _)
theorem Mem.left {H : GHeap} {g o : Nat} {as bs : List Value} (h : Mem H g o (as ++ bs)) : Mem H g o as := fun i v hv => h i v (by
  rw [List.getElem?_append_left (List.getElem?_eq_some_iff.1 hv).1]; exact hv)
theorem Mem.right {H : GHeap} {g o : Nat} {as bs : List Value} (h : Mem H g o (as ++ bs)) {n : Nat} (hn : as.length = n) : Mem H g (o + n) bs := fun i v hv => by
  rw [Nat.add_assoc]
  refine h (n + i) v ?_
  rw [List.getElem?_append_right (by omega), hn, Nat.add_sub_cancel_left]
  exact hv

def ints (xs : List Int) : List Value := xs.map (Value.int .i64)
def bools (xs : List Bool) : List Value := xs.map Value.bool
theorem ints_get {xs : List Int} {i : Nat} (hi : i < xs.length) : (ints xs)[i]? = some (.int .i64 (xs.getD i 0)) := by
  simp [ints, List.getD_eq_getElem?_getD, hi]
theorem bools_get {xs : List Bool} {i : Nat} (hi : i < xs.length) : (bools xs)[i]? = some (.bool (xs.getD i false)) := by
  simp [bools, List.getD_eq_getElem?_getD, hi]
@[simp] theorem length_ints (xs : List Int) : (ints xs).length = xs.length := by simp [ints]
@[simp] theorem length_bools (xs : List Bool) : (bools xs).length = xs.length := by simp [bools]

theorem Ints.of_get {H : GHeap} {g : Nat} {xs : List Int} {e : TypeId} {own : Bool} (h : H.get g = some (.row (ints xs) e own)) : Ints H (some ⟨g, 0, none⟩) xs :=
  .inr ⟨g, 0, rfl, fun i hi => by rw [GHeap.cell_of h, Nat.zero_add]; exact ints_get hi⟩
theorem Bools.of_get {H : GHeap} {g : Nat} {xs : List Bool} {e : TypeId} {own : Bool} (h : H.get g = some (.row (bools xs) e own)) : Bools H (some ⟨g, 0, none⟩) xs :=
  .inr ⟨g, 0, rfl, fun i hi => by rw [GHeap.cell_of h, Nat.zero_add]; exact bools_get hi⟩
def NewInts (e : TypeId) (H : GHeap) (xs : List Int) (v : Value) (H' : GHeap) : Prop :=
  H.Le H' ∧ ∃ g, v = .slice (some ⟨g, 0, none⟩) xs.length xs.length ∧ H'.get g = some (.row (ints xs) e true) ∧ H.next ≤ g

def allN (n : Nat) (p : Nat → Bool) : Bool := (List.range n).all p
theorem allN_of {n : Nat} {p : Nat → Bool} (h : ∀ i, i < n → p i = true) : allN n p = true := by
  unfold allN; rw [List.all_eq_true]; intro i hi; exact h i (List.mem_range.1 hi)
theorem allN_not {n i : Nat} {p : Nat → Bool} (hi : i < n) (h : p i = false) : allN n p = false := by
  unfold allN; rw [List.all_eq_false]; exact ⟨i, List.mem_range.2 hi, by simp [h]⟩
theorem allN_iff {n : Nat} {p : Nat → Bool} : allN n p = true ↔ ∀ i, i < n → p i = true := by
  unfold allN; rw [List.all_eq_true]; simp
def firstN (n : Nat) (p : Nat → Bool) : Option Nat := (List.range n).find? p
theorem Intss.sl {H : GHeap} {a : Option Addr} {xss : List (List Int)} {r : Nat → Option Addr} (h : Intss H a xss r) : SlA H a xss.length (fun i => .slice (r i) (xss.getD i []).length (xss.getD i []).length) := h.1

noncomputable def B (p : Prop) : Bool := @decide p (Classical.propDecidable p)
theorem B_true {p : Prop} (h : p) : B p = true := by unfold B; exact @decide_eq_true p (Classical.propDecidable p) h
theorem B_false {p : Prop} (h : ¬ p) : B p = false := by unfold B; exact @decide_eq_false p (Classical.propDecidable p) h
theorem B_iff {p : Prop} : B p = true ↔ p := ⟨fun h => by unfold B at h; exact @of_decide_eq_true p (Classical.propDecidable p) h, B_true⟩
theorem B_not {p : Prop} : B p = false ↔ ¬ p := ⟨fun h => by unfold B at h; exact @of_decide_eq_false p (Classical.propDecidable p) h, B_false⟩
def inR (n lo hi : Int) : Bool := decide (lo ≤ n) && decide (n ≤ hi)
theorem inR_iff {n lo hi : Int} : inR n lo hi = true ↔ lo ≤ n ∧ n ≤ hi := by simp [inR]
theorem inR_not {n lo hi : Int} : inR n lo hi = false ↔ n < lo ∨ hi < n := by simp [inR]; omega
def allIn (xs : List Int) (n : Int) : Bool := allN xs.length fun i => inR (xs.getD i 0) 0 (n - 1)
theorem allIn_iff {xs : List Int} {n : Int} : allIn xs n = true ↔ ∀ i, i < xs.length → 0 ≤ xs.getD i 0 ∧ xs.getD i 0 < n := by
  unfold allIn
  rw [allN_iff]
  exact ⟨fun h i hi => by have := inR_iff.1 (h i hi); omega, fun h i hi => inR_iff.2 (by have := h i hi; omega)⟩

theorem sps :
    (∀ n lo hi : Int, inR n lo hi = true ↔ lo ≤ n ∧ n ≤ hi) ∧ (∀ n lo hi : Int, inR n lo hi = false ↔ n < lo ∨ hi < n) ∧
    (∀ (xs : List Int) (n : Int), allIn xs n = true ↔ ∀ i, i < xs.length → 0 ≤ xs.getD i 0 ∧ xs.getD i 0 < n) ∧
    (∀ p : Prop, B p = true ↔ p) ∧ (∀ p : Prop, B p = false ↔ ¬ p) ∧
    (∀ a b : Bool, ((a && b) = false) ↔ (a = false ∨ b = false)) ∧ (∀ a b : Bool, ((a && b) = true) ↔ (a = true ∧ b = true)) ∧
    (∀ a b : Bool, ((a || b) = false) ↔ (a = false ∧ b = false)) ∧ (∀ a b : Bool, ((a || b) = true) ↔ (a = true ∨ b = true)) ∧
    (∀ p : Prop, ¬ ¬ p ↔ p) ∧ (∀ (p : Prop) [Decidable p], (decide p = true) = p) ∧ (∀ (p : Prop) [Decidable p], (decide p = false) ↔ ¬ p) ∧
    (∀ (α : Type) [BEq α] [LawfulBEq α] (a b : α), (a == b) = true ↔ a = b) ∧ (∀ (α : Type) [BEq α] [LawfulBEq α] (a b : α), (a == b) = false ↔ ¬ a = b) ∧
    (∀ (α : Type) [BEq α] [LawfulBEq α] (a b : α), (a != b) = true ↔ ¬ a = b) ∧ (∀ (α : Type) [BEq α] [LawfulBEq α] (a b : α), (a != b) = false ↔ a = b) ∧
    (∀ b : Bool, ((!b) = true) = (b = false)) ∧ (∀ b : Bool, ((!b) = false) = (b = true)) ∧ (∀ (α : Type) (a b : α), (a ≠ b) = ¬ a = b) ∧
    (∀ a b : Int, a > b ↔ b < a) ∧ (∀ a b : Int, a ≥ b ↔ b ≤ a) ∧ (∀ a b : Int, ¬ a < b ↔ b ≤ a) ∧ (∀ a b : Int, ¬ a ≤ b ↔ b < a) ∧ (∀ a b : Nat, a > b ↔ b < a) ∧ (∀ a b : Nat, a ≥ b ↔ b ≤ a) :=
  ⟨fun _ _ _ => inR_iff, fun _ _ _ => inR_not, fun _ _ => allIn_iff, fun _ => B_iff, fun _ => B_not, fun a b => by cases a <;> cases b <;> simp, fun a b => by cases a <;> cases b <;> simp,
    fun a b => by cases a <;> cases b <;> simp, fun a b => by cases a <;> cases b <;> simp, fun _ => Classical.not_not, fun _ _ => decide_eq_true_eq, fun _ _ => decide_eq_false_iff_not, fun _ _ _ _ _ => beq_iff_eq, fun _ _ _ _ _ => beq_eq_false_iff_ne,
    fun _ _ _ _ _ => bne_iff_ne, fun _ _ _ _ _ => bne_eq_false_iff_eq, fun b => by cases b <;> simp, fun b => by cases b <;> simp, fun _ _ _ => rfl,
    fun _ _ => Iff.rfl, fun _ _ => Iff.rfl, fun _ _ => Int.not_lt, fun _ _ => Int.not_le, fun _ _ => Iff.rfl, fun _ _ => Iff.rfl⟩

theorem MStep.iN {P : Program} {fr : Slots} {H : GHeap} {a : Option Addr} {n : Nat} {f : Nat → Value} {t e : TypeId} {x i : Operand} {k : IntKind} {j : Nat} (ht : sliceT P t = some (e, 1)) (hx : ev fr x = some (.slice a n n)) (hi : ev fr i = some (.int k (j : Int))) (h : SlA H a n f := by assumption) (h1 : j < n := by omega) : MStep P fr H (.indexAddr t x i) (elemPtr a j) := .idxN ht h hx hi h1
theorem MStep.i1 {P : Program} {fr : Slots} {H : GHeap} {a : Option Addr} {n : Nat} {f : Nat → Value} {t e : TypeId} {x i : Operand} {k : IntKind} {j : Int} (ht : sliceT P t = some (e, 1)) (hx : ev fr x = some (.slice a n n)) (hi : ev fr i = some (.int k j)) (h : SlA H a n f := by assumption) (h0 : 0 ≤ j := by omega) (h1 : j < n := by omega) : MStep P fr H (.indexAddr t x i) (elemPtr a j.toNat) := .idx1 ht h hx hi h0 h1
theorem MStep.lI {P : Program} {fr : Slots} {H : GHeap} {a : Option Addr} {t : TypeId} {x : Operand} {k : Nat} {xs : List Int} (ht : oneT P t = true) (hx : ev fr x = some (elemPtr a k)) (h : Ints H a xs := by assumption) (hk : k < xs.length := by omega) : MStep P fr H (.load t x) (.int .i64 (xs.getD k 0)) := .loadI ht h hx hk
theorem MStep.aD {P : Program} {fr : Slots} {H : GHeap} {t u : TypeId} {x y : Operand} {p q r : Int} (hx : ev fr x = some (.int .i64 p)) (hy : ev fr y = some (.int .i64 q)) (hr : p + q = r) (h0 : -9223372036854775808 ≤ r := by omega) (h1 : r ≤ 9223372036854775807 := by omega) : MStep P fr H (.binOp .add t x y u) (.int .i64 r) := .add hx hy hr h0 h1
theorem MStep.lA {P : Program} {fr : Slots} {H : GHeap} {t : TypeId} {x : Operand} {g o : Nat} {v : Value} (ht : oneT P t = true) (h : ev fr x = some (.pointer (some ⟨g, o, none⟩))) (hc : H.cell g o = some v := by assumption) : MStep P fr H (.load t x) v := .load ht h hc
theorem cA {α : Type} (a : α) (l bs : List α) : (a :: l) ++ bs = a :: (l ++ bs) := rfl
theorem nA {α : Type} (bs : List α) : [] ++ bs = bs := rfl
theorem GT.loopF {P : Program} {N : Nat} {Q : Exit → Slots → GHeap → Prop} {fr : Slots} {H : GHeap} {c : Code} {σ : Type} {rest : Slots} (ns : List Nat) (F : σ → Slots) (I : σ → GHeap → Prop) (μ : σ → Nat) (s0 : σ) (hr : pickS fr ns = some rest) (hF : Sub (F s0) fr) (hI : I s0 H)
    (round : ∀ s H, I s H → ∀ K : Slots → GHeap → Prop, (∀ s' fr' H', I s' H' → μ s' < μ s → Sub (F s' ++ rest) fr' → K fr' H') → GT P N c (thenG K Q) (F s ++ rest) H) : GT P N (.loop c) Q fr H := .loopR rest F I μ s0 (pickS.sub hr) hF hI round
theorem Sub.p {fr l : Slots} (h : pickS fr (l.map Prod.fst) = some l) : Sub l fr := pickS.sub h
end Go.GL
namespace Go.GL
open Go.RowKit
variable [MainFlag]

def MemN (H : GHeap) (g o n : Nat) (cs : List Value) : Prop := cs.length = n ∧ Mem H g o cs
theorem MStep.loadM {P : Program} {fr : Slots} {H : GHeap} {t : TypeId} {x : Operand} {g o n : Nat} {vs : List Value} (ht : aggT P t = some n) (h : ev fr x = some (.pointer (some ⟨g, o, none⟩))) (hm : MemN H g o n vs) :
    MStep P fr H (.load t x) (.agg vs.toArray) := .loadN ht h hm.1 hm.2

structure Cat where
  obj : Int
  src : List Int
  tgt : List Int
  idn : List Int
  comp : List (List Int)

structure CatP where
  a1 : Option Addr
  a2 : Option Addr
  a3 : Option Addr
  a4 : Option Addr
  r : Nat → Option Addr

def sl (a : Option Addr) (n : Nat) : Value := .slice a n n

def Cat.cells (c : Cat) (p : CatP) : List Value :=
  [.int .i64 c.obj, .slice p.a1 c.src.length c.src.length, .slice p.a2 c.tgt.length c.tgt.length, .slice p.a3 c.idn.length c.idn.length, .slice p.a4 c.comp.length c.comp.length]
def Cat.In (H : GHeap) (c : Cat) (p : CatP) : Prop := Ints H p.a1 c.src ∧ Ints H p.a2 c.tgt ∧ Ints H p.a3 c.idn ∧ Intss H p.a4 c.comp p.r
theorem Cat.In.mono {H H' : GHeap} {c : Cat} {p : CatP} (h : c.In H p) (hle : H.Le H') : c.In H' p := ⟨h.1.mono hle, h.2.1.mono hle, h.2.2.1.mono hle, h.2.2.2.mono hle⟩

def Cat.At (H : GHeap) (g o : Nat) (c : Cat) (p : CatP) : Prop := Mem H g o (c.cells p) ∧ c.In H p
theorem Cat.At.mono {H H' : GHeap} {g o : Nat} {c : Cat} {p : CatP} (h : Cat.At H g o c p) (hle : H.Le H') : Cat.At H' g o c p := ⟨h.1.mono hle, h.2.mono hle⟩

def Cat.Small (c : Cat) : Prop := c.src.length ≤ 1048576 ∧ c.tgt.length ≤ 1048576 ∧ c.idn.length ≤ 1048576 ∧ c.comp.length ≤ 1048576 ∧ (∀ i, (c.comp.getD i []).length ≤ 1048576) ∧ (-9223372036854775808 ≤ c.obj ∧ c.obj ≤ 9223372036854775807)

structure Fun where
  s : Cat
  t : Cat
  ob : List Int
  ar : List Int
structure FunP where
  s : CatP
  t : CatP
  b1 : Option Addr
  b2 : Option Addr
def Fun.cells (f : Fun) (p : FunP) : List Value := f.s.cells p.s ++ (f.t.cells p.t ++ [.slice p.b1 f.ob.length f.ob.length, .slice p.b2 f.ar.length f.ar.length])
def Fun.In (H : GHeap) (f : Fun) (p : FunP) : Prop := f.s.In H p.s ∧ f.t.In H p.t ∧ Ints H p.b1 f.ob ∧ Ints H p.b2 f.ar
def Fun.At (H : GHeap) (g o : Nat) (f : Fun) (p : FunP) : Prop := Mem H g o (f.cells p) ∧ f.In H p
def Fun.Small (f : Fun) : Prop := f.s.Small ∧ f.t.Small ∧ f.ob.length ≤ 1048576 ∧ f.ar.length ≤ 1048576

structure Tra where
  s : Fun
  t : Fun
  co : List Int
structure TraP where
  s : FunP
  t : FunP
  d : Option Addr
def Tra.cells (m : Tra) (p : TraP) : List Value := m.s.cells p.s ++ (m.t.cells p.t ++ [.slice p.d m.co.length m.co.length])
def Tra.In (H : GHeap) (m : Tra) (p : TraP) : Prop := m.s.In H p.s ∧ m.t.In H p.t ∧ Ints H p.d m.co
def Tra.At (H : GHeap) (g o : Nat) (m : Tra) (p : TraP) : Prop := Mem H g o (m.cells p) ∧ m.In H p
def Tra.Small (m : Tra) : Prop := m.s.Small ∧ m.t.Small ∧ m.co.length ≤ 1048576

section
variable {H : GHeap} {g o : Nat}
theorem Cat.At.get {c : Cat} {p : CatP} (h : Cat.At H g o c p) : H.cell g (o + 0) = some (.int .i64 c.obj) ∧ H.cell g (o + 1) = some (.slice p.a1 c.src.length c.src.length) ∧ H.cell g (o + 2) = some (.slice p.a2 c.tgt.length c.tgt.length) ∧
    H.cell g (o + 3) = some (.slice p.a3 c.idn.length c.idn.length) ∧ H.cell g (o + 4) = some (.slice p.a4 c.comp.length c.comp.length) ∧ Ints H p.a1 c.src ∧ Ints H p.a2 c.tgt ∧ Ints H p.a3 c.idn ∧ Intss H p.a4 c.comp p.r :=
  ⟨h.1 0 _ rfl, h.1 1 _ rfl, h.1 2 _ rfl, h.1 3 _ rfl, h.1 4 _ rfl, h.2.1, h.2.2.1, h.2.2.2.1, h.2.2.2.2⟩
end

abbrev Cat.S (c : Cat) (f : Int) : Int := c.src.getD f.toNat 0
abbrev Cat.T (c : Cat) (f : Int) : Int := c.tgt.getD f.toNat 0
abbrev Cat.I (c : Cat) (x : Int) : Int := c.idn.getD x.toNat 0
abbrev Cat.th (c : Cat) (f g : Int) : Int := (c.comp.getD f.toNat []).getD g.toNat 0
abbrev Cat.n (c : Cat) : Nat := c.src.length

def Cat.Cell (c : Cat) (f g : Nat) : Prop :=
  if c.tgt.getD f 0 = c.src.getD g 0 then
    0 ≤ (c.comp.getD f []).getD g 0 ∧ (c.comp.getD f []).getD g 0 < c.src.length ∧ c.src.getD ((c.comp.getD f []).getD g 0).toNat 0 = c.src.getD f 0 ∧ c.tgt.getD ((c.comp.getD f []).getD g 0).toNat 0 = c.tgt.getD g 0
  else (c.comp.getD f []).getD g 0 = -1
theorem Cat.Cell.pos {c : Cat} {f g : Nat} (h : c.tgt.getD f 0 = c.src.getD g 0) : c.Cell f g ↔ (0 ≤ (c.comp.getD f []).getD g 0 ∧ (c.comp.getD f []).getD g 0 < c.src.length ∧ c.src.getD ((c.comp.getD f []).getD g 0).toNat 0 = c.src.getD f 0 ∧ c.tgt.getD ((c.comp.getD f []).getD g 0).toNat 0 = c.tgt.getD g 0) := by
  unfold Cat.Cell; rw [if_pos h]
theorem Cat.Cell.neg {c : Cat} {f g : Nat} (h : ¬ c.tgt.getD f 0 = c.src.getD g 0) : c.Cell f g ↔ (c.comp.getD f []).getD g 0 = -1 := by
  unfold Cat.Cell; rw [if_neg h]

structure Cat.Shape (c : Cat) : Prop where
  obj : 0 ≤ c.obj ∧ c.obj ≤ 8
  n40 : c.src.length ≤ 40
  tl : c.tgt.length = c.src.length
  src : ∀ i, i < c.src.length → 0 ≤ c.src.getD i 0 ∧ c.src.getD i 0 < c.obj
  tgt : ∀ i, i < c.tgt.length → 0 ≤ c.tgt.getD i 0 ∧ c.tgt.getD i 0 < c.obj
  il : (c.idn.length : Int) = c.obj
  idn : ∀ i, i < c.idn.length → 0 ≤ c.idn.getD i 0 ∧ c.idn.getD i 0 < c.src.length
  cl : c.comp.length = c.src.length
  ids : ∀ x, x < c.idn.length → c.src.getD (c.idn.getD x 0).toNat 0 = x ∧ c.tgt.getD (c.idn.getD x 0).toNat 0 = x
  row : ∀ f, f < c.comp.length → (c.comp.getD f []).length = c.src.length
  cell : ∀ f, f < c.comp.length → ∀ g, g < c.src.length → c.Cell f g

def Cat.IdOk (c : Cat) (f : Nat) : Prop := c.th (c.idn.getD (c.src.getD f 0).toNat 0) f = f ∧ c.th f (c.idn.getD (c.tgt.getD f 0).toNat 0) = f
structure Cat.Laws (c : Cat) : Prop where
  ids : ∀ f, f < c.src.length → c.IdOk f
  as : ∀ f, f < c.src.length → ∀ g, g < c.src.length → c.tgt.getD f 0 = c.src.getD g 0 → ∀ h, h < c.src.length → c.tgt.getD g 0 = c.src.getD h 0 → c.th (c.th f g) h = c.th f (c.th g h)
def Cat.Is (c : Cat) : Prop := c.Shape ∧ c.Laws

theorem Cat.th_nat (c : Cat) (f g : Nat) : c.th f g = (c.comp.getD f []).getD g 0 := rfl
theorem Cat.Shape.th_ge {c : Cat} (h : c.Shape) {f g : Nat} (hf : f < c.src.length) (hg : g < c.src.length) : 0 ≤ c.th f g ↔ c.tgt.getD f 0 = c.src.getD g 0 := by
  have hc := h.cell f (by have := h.cl; omega) g hg
  rw [Cat.th_nat]
  by_cases e : c.tgt.getD f 0 = c.src.getD g 0
  · have := (Cat.Cell.pos e).1 hc
    exact ⟨fun _ => e, fun _ => this.1⟩
  · have := (Cat.Cell.neg e).1 hc
    exact ⟨fun hp => by omega, fun h' => absurd h' e⟩
theorem Cat.Shape.th_lt {c : Cat} (h : c.Shape) {f g : Nat} (hf : f < c.src.length) (hg : g < c.src.length) : c.th f g < c.src.length ∧ -1 ≤ c.th f g := by
  have hc := h.cell f (by have := h.cl; omega) g hg
  rw [Cat.th_nat]
  by_cases e : c.tgt.getD f 0 = c.src.getD g 0
  · have := (Cat.Cell.pos e).1 hc
    omega
  · have := (Cat.Cell.neg e).1 hc
    omega
theorem Cat.Shape.idn_lt {c : Cat} (h : c.Shape) {x : Int} (h0 : 0 ≤ x) (h1 : x < c.obj) : 0 ≤ c.idn.getD x.toNat 0 ∧ c.idn.getD x.toNat 0 < c.src.length := h.idn _ (by have := h.il; omega)
end Go.GL
