/- Maps from numbers to numbers: lookups in the model. No condition. -/
import Derived.Test.YtdnjnligclkkgaaDoorZ2
import Derived.MapKept
import Derived.Laws.BytesString
namespace Go.GL
open Go.RowKit
theorem v_runD {P : Program} {s : Sem Value} {r : Value} {w w' : World} (h : s.run P w = .ok r w') : ((do pure (Next.value (← s))) : Sem Next).run P w = .ok (.value r) w' := by
  simp only [Sem.run_bind, h, Result.andThen_ok, Sem.run_pure]
theorem bytesT_run {P : Program} {t : TypeId} (h : bytesT P t = true) : ∃ e, P.underlying t = some (.slice e) ∧ P.underlying e = some (.int .u8) := by
  unfold bytesT at h
  split at h
  · rename_i e hu
    split at h
    · rename_i he
      exact ⟨e, hu, he⟩
    · cases h
  · cases h
section
variable {P : Program} {B : Nat} {w0 : World} {ρ : Place} {H : GHeap} {w : World} {fr : Slots} {o : Oper} {R : Option Value → GHeap → Prop}
end
end Go.GL
namespace Go.GL
open Go.RowKit

section
variable {P : Program} {B : Nat} {w0 : World} {ρ : Place} {H : GHeap} {w : World} {fr : Slots} {a : Act}

theorem eqGuard_flat (op : BinOp) (t : TypeId) (x y : Operand) (u v : Value) (h1 : ¬ (u = .nilIface ∧ v = .nilIface)) (h2 : ∀ as bs, u = .agg as → v = .agg bs → P.eqGuardType P.depth t = false) :
    (eqGuard op t x y u v).run P w = .ok () w := by
  unfold eqGuard
  cases op <;> first | rfl | skip
  all_goals
    simp only [Bool.not_true, Bool.false_eq_true, if_false]
    split
    · exact absurd ⟨rfl, rfl⟩ h1
    · rename_i as bs
      simp only [Sem.run_bind, program, Sem.run, Result.andThen_ok, h2 as bs rfl rfl]
      rfl
    · rfl

theorem bin_run (o : Oper) {op : BinOp} {t u : TypeId} {x y : Operand} (ho : o.op = .binOp op t x y u) {r : Value}
    (hg : (eqGuard op t x y (a.eval x) (a.eval y)).run P w = .ok () w) (hr : (binOp op t (a.eval x) (a.eval y)).run P w = .ok r w) : (execOp a.eval o).run P w = .ok (.value r) w := by
  unfold execOp
  simp only [ho, Sem.run_bind, hg, hr, Result.andThen_ok, Sem.run_pure]

theorem v_run {s : Sem Value} {r : Value} (h : s.run P w = .ok r w) : ((do pure (Next.value (← s))) : Sem Next).run P w = .ok (.value r) w := by
  simp only [Sem.run_bind, h, Result.andThen_ok, Sem.run_pure]

theorem sliceBound_run {k : IntKind} {i y : Nat} {code : BoundsCode} (h : i ≤ y) : (Instr.sliceBound (.int k i) y code).run P w = .ok i w := by
  unfold Instr.sliceBound
  simp only [asIntOf, Sem.run_bind, Sem.run_pure, Result.andThen_ok]
  rw [if_pos ⟨by omega, by omega⟩]
  simp

theorem sliceBounds_run {isSlice : Bool} {len cap l h : Nat} {lo hi : Option Value} (hl : match lo with | none => l = 0 | some y => ∃ k, y = .int k l) (hh : match hi with | none => h = len | some y => ∃ k, y = .int k h)
    (h0 : l ≤ h) (h1 : h ≤ len) (h2 : len ≤ cap) : (Instr.sliceBounds isSlice len cap lo hi none).run P w = .ok (l, h, cap) w := by
  unfold Instr.sliceBounds
  cases lo with
  | none =>
    subst hl
    cases hi with
    | none => subst hh; simp
    | some y =>
      obtain ⟨k, rfl⟩ := hh
      simp [sliceBound_run (show h ≤ cap by omega)]
  | some x =>
    obtain ⟨k, rfl⟩ := hl
    cases hi with
    | none => subst hh; simp [sliceBound_run h0]
    | some y =>
      obtain ⟨k', rfl⟩ := hh
      simp [sliceBound_run (show h ≤ cap by omega), sliceBound_run h0]

theorem sizeOf_run {P : Program} {t : TypeId} {i : TypeInfo} (h : P.info? t = some i) (w : World) : (sizeOf t).run P w = .ok i.size w := by
  simp only [sizeOf, typeInfo, Sem.run_bind, program, Sem.run, h, Sem.run_pure, Result.andThen_ok]

theorem mapM_buildT {P : Program} : ∀ (fs : List Field) (ps : List (Nat × Nat)) (w : World), (fs.mapM fun (f : Field) => (P.info? f.type).map fun (i : TypeInfo) => (f.offset, i.size)) = some ps →
    (fs.mapM (fun (f : Field) => (do pure (f.offset, ← sizeOf f.type) : Sem (Nat × Nat)))).run P w = .ok ps w
  | [], ps, w, h => by
    simp only [List.mapM_nil] at h
    cases h
    rfl
  | f :: fs, ps, w, h => by
    simp only [List.mapM_cons] at h
    cases hi : P.info? f.type with
    | none => rw [hi] at h; cases h
    | some i =>
      rw [hi] at h
      cases hr : (fs.mapM fun (f : Field) => (P.info? f.type).map fun (i : TypeInfo) => (f.offset, i.size)) with
      | none => rw [hr] at h; cases h
      | some qs =>
        rw [hr] at h
        cases h
        have ih := mapM_buildT fs qs w hr
        simp only [List.mapM_cons, Sem.run_bind, sizeOf_run hi, Sem.run_pure, Result.andThen_ok, ih]

set_option maxHeartbeats 1000000 in
theorem MStep.sound {op : Op} {v : Value} (hm : MStep P fr H op v) (hf : ∀ t u, Operand.tmp t ∈ op.operands → fr.get t = some u → VRel ρ u (a.eval (.tmp t))) (hs : Sim P B w0 ρ H w) (o : Oper) (ho : o.op = op) :
    ∃ c, (execOp a.eval o).run P w = .ok (.value c) w ∧ VRel ρ v c := by
  cases hm with
  | move h =>
    rename_i x
    exact ⟨_, by unfold execOp; simp only [ho]; rfl, ev_rel hf (by simp [Op.operands]) h⟩
  | assign h =>
    rename_i x
    exact ⟨_, by unfold execOp; simp only [ho]; rfl, ev_rel hf (by simp [Op.operands]) h⟩
  | pickT hc h =>
    rename_i c x y
    have e := (ev_rel hf (x := c) (by simp [Op.operands]) hc).bool_inv
    exact ⟨_, by unfold execOp; simp only [ho, e]; rfl, ev_rel hf (by simp [Op.operands]) h⟩
  | pickF hc h =>
    rename_i c x y
    have e := (ev_rel hf (x := c) (by simp [Op.operands]) hc).bool_inv
    exact ⟨_, by unfold execOp; simp only [ho, e]; rfl, ev_rel hf (by simp [Op.operands]) h⟩
  | nilCheck h =>
    rename_i x p
    have hr := ev_rel hf (x := x) (by simp [Op.operands]) h
    obtain ⟨b, hb⟩ := hr.ptr_some
    rw [hb] at hr
    exact ⟨_, by unfold execOp; simp only [ho, hb]; rfl, hr⟩
  | fieldAddr hk h =>
    rename_i s x f g off k
    obtain ⟨sp, hg, hb⟩ := (ev_rel hf (x := x) (by simp [Op.operands]) h).ptr_inv
    obtain ⟨fs, fd, i, hu, hfd, hi, hne, rfl⟩ := fieldOff_run hk
    refine ⟨.pointer (some ⟨sp.blk, sp.base + off + fd.offset, none⟩), ?_, ?_⟩
    · unfold execOp
      simp only [ho, hb]
      refine v_run ?_
      simp [Instr.fieldAt, run_underlying hu, hfd, Instr.sureAddr, fieldPlace, sizeOf, typeInfo, hi, hne, add_mk]
    · rw [Nat.add_assoc]; exact .ptr hg
  | load ht h hc =>
    rename_i t x g off
    obtain ⟨sp, hg, hb⟩ := (ev_rel hf (x := x) (by simp [Op.operands]) h).ptr_inv
    obtain ⟨c, hcell, hr⟩ := hs.cell hg hc
    refine ⟨c, ?_, hr⟩
    unfold execOp
    simp only [ho, hb]
    refine v_run ?_
    simp only [Instr.loadAt, Instr.sureAddr, loadVar, Sem.run_bind, Sem.run_pure, oneT_run ht, Result.andThen_ok, Bool.false_eq_true, if_false, Go.load, Sem.run, hcell]
  | loadN ht h hn hc =>
    rename_i t x g off n vs
    obtain ⟨sp, hg, hb⟩ := (ev_rel hf (x := x) (by simp [Op.operands]) h).ptr_inv
    have hex : ∃ cs : List Value, LRel ρ vs cs ∧ ∀ j c, cs[j]? = some c → w.cell? ⟨sp.blk, sp.base + off + j, none⟩ = some c := by
      have key : ∀ (vs : List Value) (off : Nat), (∀ i v, vs[i]? = some v → H.cell g (off + i) = some v) → ∃ cs : List Value, LRel ρ vs cs ∧ ∀ (j : Nat) (c : Value), cs[j]? = some c → w.cell? ⟨sp.blk, sp.base + off + j, none⟩ = some c := by
        intro vs
        induction vs with
        | nil => exact fun off _ => ⟨[], .nil ρ, fun j c hj => by simp at hj⟩
        | cons v vs ih =>
          intro off hc
          obtain ⟨cs, h1, h2⟩ := ih (off + 1) (fun i v hv => by rw [show off + 1 + i = off + (i + 1) by omega]; exact hc (i + 1) v (by simpa using hv))
          obtain ⟨c, hcell, hr⟩ := hs.cell hg (hc 0 v rfl)
          refine ⟨c :: cs, .cons hr h1, fun j c' hj => ?_⟩
          cases j with
          | zero => simp at hj; subst hj; exact hcell
          | succ j => rw [show sp.base + off + (j + 1) = sp.base + (off + 1) + j by omega]; exact h2 j c' (by simpa using hj)
      exact key vs off hc
    obtain ⟨cs, hrel, hcells⟩ := hex
    refine ⟨.agg cs.toArray, ?_, .agg_of hrel⟩
    unfold execOp
    simp only [ho, hb]
    refine v_run ?_
    obtain ⟨ha, hsz⟩ := aggT_run ht w
    have hl := loadCellsFrom_run (P := P) (w := w) ⟨sp.blk, sp.base + off, none⟩ n 0 #[] cs (by rw [← hrel.1, hn]) (fun j c hj => by rw [add_mk, Nat.zero_add]; exact hcells j c hj)
    simp only [Instr.loadAt, Instr.sureAddr, loadVar, Sem.run_bind, Sem.run_pure, ha, hsz, Result.andThen_ok, if_true, loadCells, hl]
    simp
  | indexAddr ht h hi h0 h1 =>
    rename_i t e x i g off n sz k j
    obtain ⟨hu, inf, hinf, hsz⟩ := sliceT_run ht
    have hei := (ev_rel hf (x := i) (by simp [Op.operands]) hi).int_inv
    obtain ⟨_, sp, hg, hb⟩ := (ev_rel hf (x := x) (by simp [Op.operands]) h).slice_inv
    rcases hb with ⟨cap, hb, _⟩ | ⟨hn, _⟩
    · refine ⟨.pointer (some ⟨sp.blk, sp.base + (off + j.toNat * sz), none⟩), ?_, .ptr hg⟩
      unfold execOp
      simp only [ho, hb, hei]
      refine v_run ?_
      simp only [Instr.indexAt, asIntOf, Sem.run_bind, Sem.run_pure, run_underlying hu, Result.andThen_ok]
      rw [if_pos ⟨h0, h1⟩]
      simp only [sizeOf, typeInfo, Sem.run_bind, program, Sem.run, hinf, Result.andThen_ok, Sem.run_pure, hsz, add_mk, Nat.add_assoc]
    · omega
  | indexStr ht h hi h0 hb =>
    rename_i t x i s k j b
    have hu := isStringT_run ht
    have hei := (ev_rel hf (x := i) (by simp [Op.operands]) hi).int_inv
    have hex := (ev_rel hf (x := x) (by simp [Op.operands]) h).string_inv
    refine ⟨.int .u8 b.toNat, ?_, .int _ _⟩
    unfold execOp
    simp only [ho, hex, hei]
    refine v_run ?_
    simp only [Instr.index, asIntOf, Sem.run_bind, Sem.run_pure, run_underlying hu, Result.andThen_ok, h0, if_true, hb]
  | len ht h =>
    rename_i t e x p n sz
    obtain ⟨hu, _⟩ := sliceT_run ht
    obtain ⟨_, a', cap, hb, _⟩ := (ev_rel hf (x := x) (by simp [Op.operands, Call.operands]) h).slice_len
    refine ⟨.int .i64 n, ?_, .int _ _⟩
    unfold execOp
    simp only [ho, resolve, invoke, builtin, Sem.run_bind, Sem.run_pure, Result.andThen_ok, List.map_toArray, List.map_cons, List.map_nil, hb]
    simp [Builtin.len_, run_underlying hu, goInt]
  | lenStr ht h =>
    rename_i t x s
    have hu := isStringT_run ht
    have hb := (ev_rel hf (x := x) (by simp [Op.operands, Call.operands]) h).string_inv
    refine ⟨.int .i64 s.size, ?_, .int _ _⟩
    unfold execOp
    simp only [ho, resolve, invoke, builtin, Sem.run_bind, Sem.run_pure, Result.andThen_ok, List.map_toArray, List.map_cons, List.map_nil, hb]
    simp [Builtin.len_, run_underlying hu, goInt]
  | cmp hx hy hr =>
    rename_i op t u x y k m n r
    have ex := (ev_rel hf (x := x) (by simp [Op.operands]) hx).int_inv
    have ey := (ev_rel hf (x := y) (by simp [Op.operands]) hy).int_inv
    refine ⟨.bool r, bin_run o ho (by rw [ex, ey]; exact eqGuard_flat _ _ _ _ _ _ (by simp) (by simp)) ?_, .bool _⟩
    rw [ex, ey]
    cases op <;> simp only [cmpI, Option.some.injEq, reduceCtorEq] at hr <;> subst hr <;> simp [binOp, Op.intCmp]
  | arith hx hy hr =>
    rename_i op t u x y k m n r
    have ex := (ev_rel hf (x := x) (by simp [Op.operands]) hx).int_inv
    have ey := (ev_rel hf (x := y) (by simp [Op.operands]) hy).int_inv
    refine ⟨.int k r, bin_run o ho (by rw [ex, ey]; exact eqGuard_flat _ _ _ _ _ _ (by simp) (by simp)) ?_, .int _ _⟩
    rw [ex, ey]
    cases op <;> simp only [arithI, Option.some.injEq, reduceCtorEq] at hr <;> subst hr <;> simp [binOp, Op.intArith]
  | strCmp hx hy hr =>
    rename_i op t u x y m n r
    have ex := (ev_rel hf (x := x) (by simp [Op.operands]) hx).string_inv
    have ey := (ev_rel hf (x := y) (by simp [Op.operands]) hy).string_inv
    refine ⟨.bool r, bin_run o ho (by rw [ex, ey]; exact eqGuard_flat _ _ _ _ _ _ (by simp) (by simp)) ?_, .bool _⟩
    rw [ex, ey]
    cases op <;> simp only [strI, Option.some.injEq, reduceCtorEq] at hr <;> subst hr <;> simp [binOp, Op.stringOp]
  | strAdd hx hy hl =>
    rename_i t u x y m n
    have ex := (ev_rel hf (x := x) (by simp [Op.operands]) hx).string_inv
    have ey := (ev_rel hf (x := y) (by simp [Op.operands]) hy).string_inv
    refine ⟨_, bin_run o ho (by rw [ex, ey]; exact eqGuard_flat _ _ _ _ _ _ (by simp) (by simp)) ?_, .string _⟩
    rw [ex, ey]
    have hle : ¬ (((m.size + n.size : Nat) : Int) > IntKind.i64.max) := by
      rw [show IntKind.i64.max = 9223372036854775807 from by decide]
      omega
    simp only [binOp, Op.stringOp]
    rw [if_neg hle]
    rfl
  | not h =>
    rename_i t x b
    have ex := (ev_rel hf (x := x) (by simp [Op.operands]) h).bool_inv
    refine ⟨.bool !b, ?_, .bool _⟩
    unfold execOp
    simp only [ho, ex]
    exact v_run (by simp [Op.unary])
  | conv hs' ht h =>
    rename_i s t x k j n
    have ex := (ev_rel hf (x := x) (by simp [Op.operands]) h).int_inv
    have hu := intT_run ht
    obtain ⟨d, hd⟩ := Option.isSome_iff_exists.1 hs'
    refine ⟨_, ?_, .int _ _⟩
    unfold execOp
    simp only [ho, ex]
    refine v_run ?_
    simp [convert, run_underlying hu, run_underlying hd, Conv.intToInt]
  | build ht hz hv hc =>
    rename_i t parts z ps vs cs
    have hrel := evs_rel (xs := parts.toList.map (·.2)) hf (fun x hx => by simp only [Op.operands]; simpa using hx) hv
    unfold buildT at ht
    split at ht
    · rename_i fs zv hu hzv
      simp only [Option.map_eq_some_iff, Prod.mk.injEq] at ht
      obtain ⟨ps', hps, rfl, rfl⟩ := ht
      simp only [Option.bind_eq_some_iff] at hzv
      obtain ⟨inf, hinf, hz0⟩ := hzv
      have hzrel : LRel ρ zv.cells.toList zv.cells.toList := ⟨rfl, fun i p q hp hq => by
        rw [hp] at hq
        cases hq
        exact .flat1 (List.all_eq_true.1 hz _ (List.mem_of_getElem? hp))⟩
      obtain ⟨ds, hfill, hdr⟩ := fill_rel (ps'[·]?) (parts.toList.map (·.1)) hrel hzrel hc
      refine ⟨.agg ds.toArray, ?_, .agg_of hdr⟩
      unfold execOp
      simp only [ho]
      refine v_run ?_
      have hM := mapM_buildT fs.toList ps' w hps
      have hpl : (parts.map fun (i, x) => (i, a.eval x)).toList = (parts.toList.map (·.1)).zip ((parts.toList.map (·.2)).map a.eval) := by
        simp [List.zip_map', Function.comp_def]
      unfold Instr.build
      simp only [zeroValue, typeInfo, Sem.run_bind, program, Sem.run, hinf, hz0, run_underlying hu, Result.andThen_ok, Sem.run_pure]
      rw [← Array.toArray_toList (xs := fs)]
      simp only [List.mapM_toArray, Sem.run_map, hM, Result.andThen_ok]
      have hfill' : Instr.fill (fun i => ps'.toArray[i]?) zv.cells (parts.map fun (i, x) => (i, a.eval x)).toList = some ds.toArray := by
        rw [hpl]
        simpa using hfill
      rw [hfill']
      rfl
    · cases ht
  | extract h hv =>
    rename_i x ix vs
    obtain ⟨ds, hd, hr⟩ := (ev_rel hf (x := x) (by simp [Op.operands]) h).tuple_inv
    obtain ⟨c, hc, hvr⟩ := hr.get (i := ix) (by simpa using hv)
    refine ⟨c, ?_, hvr⟩
    unfold execOp
    simp only [ho, hd]
    refine v_run ?_
    simp only [Array.getElem?_toList] at hc
    simp only [Instr.extract, hc]
    rfl
  | slice ht hx hgo hlo hhi h0 h1 =>
    rename_i t e x lo hi g off n sz l h cells
    obtain ⟨hu, inf, hinf, hsz⟩ := sliceT_run ht
    obtain ⟨_, sp, hg, hb⟩ := (ev_rel hf (x := x) (by simp [Op.operands]) hx).slice_inv
    obtain ⟨sp', C, fz, k1, _, _, _, _, _, _, k8⟩ := hs.live _ _ hgo
    rw [hg] at k1
    cases k1
    have hes : sp.esz = sz := by have k8 := k8 rfl; rw [hinf] at k8; simp at k8; omega
    have hlo' : match lo.map a.eval with | none => l = 0 | some y => ∃ k, y = .int k l := by
      cases lo with
      | none => exact hlo
      | some y => obtain ⟨k, hk⟩ := hlo; exact ⟨k, (ev_rel hf (x := y) (by simp [Op.operands]) hk).int_inv⟩
    have hhi' : match hi.map a.eval with | none => h = n | some y => ∃ k, y = .int k h := by
      cases hi with
      | none => exact hhi
      | some y => obtain ⟨k, hk⟩ := hhi; exact ⟨k, (ev_rel hf (x := y) (by simp [Op.operands]) hk).int_inv⟩
    rcases hb with ⟨cap, hb, hcap, hroom, hmx⟩ | ⟨hn, a', hb⟩
    · have hbd := sliceBounds_run (P := P) (w := w) (isSlice := true) hlo' hhi' h0 h1 hcap
      refine ⟨.slice (if cap = l then some ⟨sp.blk, sp.base + off, none⟩ else some ⟨sp.blk, sp.base + (off + l * sz), none⟩) (h - l) (cap - l), ?_, ?_⟩
      · unfold execOp
        simp only [ho, hb]
        refine v_run ?_
        unfold Instr.sliceAt
        simp only [Sem.run_bind, run_underlying hu, Result.andThen_ok]
        unfold Instr.slice
        simp only [Sem.run_bind, run_underlying hu, Result.andThen_ok, Option.map_none, hbd, sizeOf, typeInfo, program, Sem.run, hinf, Sem.run_pure, hsz, Option.map_some, add_mk, Nat.add_assoc]
      · by_cases hcl : cap = l
        · rw [if_pos hcl]
          have e1 : h - l = 0 := by omega
          have e2 : cap - l = 0 := by omega
          rw [e1, e2]
          exact .empty hg
        · rw [if_neg hcl]
          refine .slice hg (by omega) ?_ (by omega)
          rw [hes] at hroom ⊢
          have hm : l * sz + (cap - l) * sz = cap * sz := by rw [← Nat.add_mul]; congr 1; omega
          omega
    · subst hn
      have hh0 : h = 0 := by omega
      have hl0 : l = 0 := by omega
      subst hh0; subst hl0
      have hbd := sliceBounds_run (P := P) (w := w) (isSlice := true) (len := 0) (cap := 0) hlo' hhi' (Nat.le_refl _) (Nat.le_refl _) (Nat.le_refl _)
      refine ⟨.slice (some a') 0 0, ?_, .empty hg⟩
      unfold execOp
      simp only [ho, hb]
      refine v_run ?_
      unfold Instr.sliceAt
      simp only [Sem.run_bind, run_underlying hu, Result.andThen_ok]
      unfold Instr.slice
      simp only [Sem.run_bind, run_underlying hu, Result.andThen_ok, Option.map_none, hbd, sizeOf, typeInfo, program, Sem.run, hinf, Sem.run_pure, if_true]
  | sliceStr ht hx hlo hhi h0 h1 =>
    rename_i t x lo hi s l h
    have hu := isStringT_run ht
    have hb := (ev_rel hf (x := x) (by simp [Op.operands]) hx).string_inv
    have hlo' : match lo.map a.eval with | none => l = 0 | some y => ∃ k, y = .int k l := by
      cases lo with
      | none => exact hlo
      | some y => obtain ⟨k, hk⟩ := hlo; exact ⟨k, (ev_rel hf (x := y) (by simp [Op.operands]) hk).int_inv⟩
    have hhi' : match hi.map a.eval with | none => h = s.size | some y => ∃ k, y = .int k h := by
      cases hi with
      | none => exact hhi
      | some y => obtain ⟨k, hk⟩ := hhi; exact ⟨k, (ev_rel hf (x := y) (by simp [Op.operands]) hk).int_inv⟩
    have hbd := sliceBounds_run (P := P) (w := w) (isSlice := false) hlo' hhi' h0 h1 (Nat.le_refl _)
    refine ⟨_, ?_, .string _⟩
    unfold execOp
    simp only [ho, hb]
    refine v_run ?_
    unfold Instr.sliceAt
    simp only [Sem.run_bind, run_underlying hu, Result.andThen_ok]
    unfold Instr.slice
    simp only [Sem.run_bind, run_underlying hu, Result.andThen_ok, Option.map_none, hbd, Option.isSome_none, Bool.false_eq_true, if_false, Sem.run_pure]
  | bytesStr hs0 ht h hn hp hc =>
    rename_i s t x g off n ns
    obtain ⟨e, hu, he⟩ := bytesT_run hs0
    have hd := isStringT_run ht
    obtain ⟨_, sp, hg, hb⟩ := (ev_rel hf (x := x) (by simp [Op.operands]) h).slice_inv
    rcases hb with ⟨cap, hb, _⟩ | ⟨hn0, _⟩
    · have hl := loadCellsFrom_run (P := P) (w := w) ⟨sp.blk, sp.base + off, none⟩ n 0 #[] (ns.map (Value.int .u8)) (by simp [hn]) (fun j c hj => by
        rw [add_mk, Nat.zero_add]
        rw [List.getElem?_map, Option.map_eq_some_iff] at hj
        obtain ⟨v, hv, rfl⟩ := hj
        obtain ⟨c', hcell, hr⟩ := hs.cell hg (hc j v hv)
        rw [hr.int_inv, ← Nat.add_assoc] at hcell
        exact hcell)
      refine ⟨_, ?_, .string _⟩
      unfold execOp
      simp only [ho, hb]
      refine v_runD ?_
      rw [run_convert_bytes_string _ _ _ _ _ _ _ hu he hd, run_bytesToString (ns := ns)]
      · rfl
      · simp only [loadCells, hl]
        simp
    · omega
end
end Go.GL
