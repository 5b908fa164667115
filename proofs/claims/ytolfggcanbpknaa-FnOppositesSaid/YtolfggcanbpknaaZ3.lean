/- Maps from numbers to numbers: lookups in the model. No condition. -/
import Derived.Test.YtolfggcanbpknaaZ2
import Derived.MapKept
import Derived.Laws.BytesString
namespace Go.GL
open Go.RowKit
theorem v_runD {P : Program} {s : Sem Value} {r : Value} {w w' : World} (h : s.run P w = .ok r w') : ((do pure (Next.value (← s))) : Sem Next).run P w = .ok (.value r) w' := by
  simp only [Sem.run_bind, h, Result.andThen_ok, Sem.run_pure]
theorem mapIT_run {P : Program} {t e : TypeId} (h : mapIT P t = some e) : ∃ k q, P.underlying t = some (.map k e) ∧ P.underlying k = some (.int q) := by
  unfold mapIT at h
  split at h
  · rename_i k e' hu
    split at h
    · rename_i q hk
      cases h
      exact ⟨k, q, hu, hk⟩
    · cases h
  · cases h
def MRel (E : Array MapEntry) (es : List (Int × Int)) : Prop := es.length = E.size ∧ ∀ (i : Nat) (e : Int × Int), es[i]? = some e → ∃ c : MapEntry, E[i]? = some c ∧ c.key = .int .i64 e.1 ∧ c.val = .int .i64 e.2
theorem findNow_rel {q : IntKind} {k : Int} : ∀ {E : List MapEntry} {es : List (Int × Int)} (_ : es.length = E.length) (_ : ∀ (i : Nat) (e : Int × Int), es[i]? = some e → ∃ c : MapEntry, E[i]? = some c ∧ c.key = .int .i64 e.1 ∧ c.val = .int .i64 e.2) (n : Nat),
    (∃ i v, lookE es k = some v ∧ Instr.findNow (.int q) (.int .i64 k) E n = some (some (i, .int .i64 v))) ∨ (lookE es k = none ∧ Instr.findNow (.int q) (.int .i64 k) E n = some none)
  | [], [], _, _, n => .inr ⟨rfl, by unfold Instr.findNow; rfl⟩
  | [], _ :: _, hl, _, _ => by simp at hl
  | _ :: _, [], hl, _, _ => by simp at hl
  | c :: E, e :: es, hl, h, n => by
    obtain ⟨c', h1, h2, h3⟩ := h 0 e rfl
    simp only [List.getElem?_cons_zero, Option.some.injEq] at h1
    subst h1
    have ih := findNow_rel (q := q) (k := k) (E := E) (es := es) (by simpa using hl) (fun i e' he => by simpa using h (i + 1) e' (by simpa using he)) (n + 1)
    unfold Instr.findNow
    rw [h2]
    simp only [Instr.sameNow, if_true]
    by_cases hk : k = e.1
    · have hb : (k == e.1) = true := by simpa using hk
      rw [hb]
      exact .inl ⟨n, e.2, by unfold lookE; rw [List.find?_cons_of_pos (by simp [hk])]; rfl, by rw [h3]⟩
    · have hb : (k == e.1) = false := by simpa using hk
      rw [hb]
      have hl' : lookE (e :: es) k = lookE es k := by unfold lookE; rw [List.find?_cons_of_neg (by simpa using fun h => hk h.symm)]
      rw [hl']
      exact ih
theorem bytesT_run {P : Program} {t : TypeId} (h : bytesT P t = true) : ∃ e, P.underlying t = some (.slice e) ∧ P.underlying e = some (.int .u8) := by
  unfold bytesT at h
  split at h
  · rename_i e hu
    split at h
    · rename_i he
      exact ⟨e, hu, he⟩
    · cases h
  · cases h
theorem mapST_run {P : Program} {t e : TypeId} (h : mapST P t = some e) : ∃ k, P.underlying t = some (.map k e) ∧ P.underlying k = some .string := by
  unfold mapST at h
  split at h
  · rename_i k e' hu
    split at h
    · rename_i hk
      cases h
      exact ⟨k, hu, hk⟩
    · cases h
  · cases h
def MRelS (E : Array MapEntry) (es : List (ByteArray × Int)) : Prop := es.length = E.size ∧ ∀ (i : Nat) (e : ByteArray × Int), es[i]? = some e → ∃ c : MapEntry, E[i]? = some c ∧ c.key = .string e.1 ∧ c.val = .int .i64 e.2
theorem findNow_relS {k : ByteArray} : ∀ {E : List MapEntry} {es : List (ByteArray × Int)} (_ : es.length = E.length) (_ : ∀ (i : Nat) (e : ByteArray × Int), es[i]? = some e → ∃ c : MapEntry, E[i]? = some c ∧ c.key = .string e.1 ∧ c.val = .int .i64 e.2) (n : Nat),
    (∃ i v, lookS es k = some v ∧ Instr.findNow .string (.string k) E n = some (some (i, .int .i64 v))) ∨ (lookS es k = none ∧ Instr.findNow .string (.string k) E n = some none)
  | [], [], _, _, n => .inr ⟨rfl, by unfold Instr.findNow; rfl⟩
  | [], _ :: _, hl, _, _ => by simp at hl
  | _ :: _, [], hl, _, _ => by simp at hl
  | c :: E, e :: es, hl, h, n => by
    obtain ⟨c', h1, h2, h3⟩ := h 0 e rfl
    simp only [List.getElem?_cons_zero, Option.some.injEq] at h1
    subst h1
    have ih := findNow_relS (k := k) (E := E) (es := es) (by simpa using hl) (fun i e' he => by simpa using h (i + 1) e' (by simpa using he)) (n + 1)
    unfold Instr.findNow
    rw [h2]
    simp only [Instr.sameNow]
    by_cases hk : k = e.1
    · have hb : (k == e.1) = true := ba_beq.2 hk
      rw [hb]
      exact .inl ⟨n, e.2, by unfold lookS; simp only [List.find?_cons, ba_beq.2 hk.symm]; rfl, by rw [h3]⟩
    · have hb : (k == e.1) = false := ba_bne hk
      rw [hb]
      have hl' : lookS (e :: es) k = lookS es k := by unfold lookS; simp only [List.find?_cons, ba_bne (fun h => hk h.symm)]
      rw [hl']
      exact ih
theorem mapTT_run {P : Program} {t k e : TypeId} (h : mapTT P t = some (k, e)) : P.underlying t = some (.map k e) := by
  unfold mapTT at h
  split at h
  · rename_i k' e' hu
    cases h
    exact hu
  · cases h
def MRelT (n : Nat) (E : Array MapEntry) (es : List (List Int × Int)) : Prop := es.length = E.size ∧ ∀ (i : Nat) (e : List Int × Int), es[i]? = some e → e.1.length = n ∧ ∃ c : MapEntry, E[i]? = some c ∧ c.key = kvT e.1 ∧ c.val = .int .i64 e.2
theorem findAsking_relT {P : Program} {k : TypeId} {n : Nat} (hk : KeyT P k n) {s : List Int} (hs : s.length = n) (w : World) : ∀ {E : List MapEntry} {es : List (List Int × Int)} (_ : es.length = E.length) (_ : ∀ (i : Nat) (e : List Int × Int), es[i]? = some e → e.1.length = n ∧ ∃ c : MapEntry, E[i]? = some c ∧ c.key = kvT e.1 ∧ c.val = .int .i64 e.2) (i : Nat),
    (∃ j v, lookT es s = some v ∧ (Instr.findAsking k (kvT s) E i).run P w = .ok (some (j, .int .i64 v)) w) ∨ (lookT es s = none ∧ (Instr.findAsking k (kvT s) E i).run P w = .ok none w)
  | [], [], _, _, i => .inr ⟨rfl, by unfold Instr.findAsking; rfl⟩
  | [], _ :: _, hl, _, _ => by simp at hl
  | _ :: _, [], hl, _, _ => by simp at hl
  | c :: E, e :: es, hl, h, i => by
    obtain ⟨h0, c', h1, h2, h3⟩ := h 0 e rfl
    simp only [List.getElem?_cons_zero, Option.some.injEq] at h1
    subst h1
    have ih := findAsking_relT hk hs w (E := E) (es := es) (by simpa using hl) (fun i e' he => by simpa using h (i + 1) e' (by simpa using he)) (i + 1)
    unfold Instr.findAsking
    simp only [Sem.run_bind]
    rw [h2, hk.eq s e.1 hs h0 w]
    simp only [Result.andThen_ok]
    by_cases hq : s = e.1
    · have hb : (s == e.1) = true := by simpa using hq
      rw [hb, if_pos rfl]
      exact .inl ⟨i, e.2, by unfold lookT; simp only [List.find?_cons, show (e.1 == s) = true by simpa using hq.symm]; rfl, by rw [h3]; rfl⟩
    · have hb : (s == e.1) = false := by simpa using hq
      rw [hb, if_neg (by simp)]
      have hl' : lookT (e :: es) s = lookT es s := by unfold lookT; simp only [List.find?_cons, show (e.1 == s) = false by simpa using fun h => hq h.symm]
      rw [hl']
      exact ih
theorem findKeyT {P : Program} {k : TypeId} {n : Nat} (hk : KeyT P k n) {s : List Int} (hs : s.length = n) (w : World) {E : List MapEntry} {es : List (List Int × Int)} (hl : es.length = E.length) (h : ∀ (i : Nat) (e : List Int × Int), es[i]? = some e → e.1.length = n ∧ ∃ c : MapEntry, E[i]? = some c ∧ c.key = kvT e.1 ∧ c.val = .int .i64 e.2) :
    (∃ j v, lookT es s = some v ∧ (Instr.findKey k (kvT s) E).run P w = .ok (some (j, .int .i64 v)) w) ∨ (lookT es s = none ∧ (Instr.findKey k (kvT s) E).run P w = .ok none w) := by
  obtain ⟨fs, hu⟩ := hk.st
  unfold Instr.findKey
  simp only [Sem.run_bind, run_underlying hu, Result.andThen_ok]
  match E, es, hl, h with
  | [], [], _, _ => exact .inr ⟨rfl, by unfold Instr.findNow; rfl⟩
  | c :: E, e :: es, hl, h =>
    obtain ⟨_, c', h1, h2, _⟩ := h 0 e rfl
    simp only [List.getElem?_cons_zero, Option.some.injEq] at h1
    subst h1
    have hn : Instr.findNow (.struct fs) (kvT s) (c :: E) 0 = none := by
      unfold Instr.findNow
      rw [h2]
      rfl
    rw [hn]
    exact findAsking_relT hk hs w hl h 0
section
variable {P : Program} {B : Nat} {w0 : World} {ρ : Place} {H : GHeap} {w : World} {fr : Slots} {o : Oper} {R : Option Value → GHeap → Prop}
theorem VRel.map_inv {ρ : Place} {g : Nat} {c : Value} (h : VRel ρ (.map (some g)) c) : ∃ s, ρ g = some s ∧ c = .map (some s.blk) := by
  cases h with
  | map h => exact ⟨_, h, rfl⟩
theorem Sim.mrel (hs : Sim P B w0 ρ H w) {g : Nat} {es : List (Int × Int)} (hg : H.get g = some (.map (imap es))) {s : Spot} (hsp : ρ g = some s) : ∃ (E : Array MapEntry) (clock : Nat), w.heap[s.blk]? = some (.map E clock) ∧ MRel E es := by
  obtain ⟨s0, E, c0, k1, k2, _, k4, k5⟩ := hs.live _ _ hg
  rw [hsp] at k1
  cases k1
  refine ⟨E, c0, k2, by simpa [imap] using k4, fun i e he => ?_⟩
  obtain ⟨c, h1, h2, h3⟩ := k5 i (.int .i64 e.1) (.int .i64 e.2) (by simp [imap, he])
  exact ⟨c, h1, h2.int_inv, h3.int_inv⟩
theorem Sim.mrelS (hs : Sim P B w0 ρ H w) {g : Nat} {es : List (ByteArray × Int)} (hg : H.get g = some (.map (smap es))) {s : Spot} (hsp : ρ g = some s) : ∃ (E : Array MapEntry) (clock : Nat), w.heap[s.blk]? = some (.map E clock) ∧ MRelS E es := by
  obtain ⟨s0, E, c0, k1, k2, _, k4, k5⟩ := hs.live _ _ hg
  rw [hsp] at k1
  cases k1
  refine ⟨E, c0, k2, by simpa [smap] using k4, fun i e he => ?_⟩
  obtain ⟨c, h1, h2, h3⟩ := k5 i (.string e.1) (.int .i64 e.2) (by simp [smap, he])
  exact ⟨c, h1, h2.string_inv, h3.int_inv⟩
theorem flatT_inv {ρ : Place} {t : List Int} {c : Value} (h : VRel ρ (kvT t) c) : c = kvT t := by
  obtain ⟨ds, rfl, hr⟩ := h.agg_inv
  unfold kvT
  congr 1
  apply Array.toList_inj.1
  simp only [List.toList_toArray] at hr ⊢
  apply List.ext_getElem?
  intro i
  have hl : t.length = ds.toList.length := by have := hr.1; simpa using this
  by_cases hi : i < t.length
  · have := hr.2 i (.int .i64 t[i]) ds.toList[i] (by simp [hi]) (by rw [List.getElem?_eq_getElem])
    rw [List.getElem?_eq_getElem (l := ds.toList) (by omega), this.int_inv]
    simp [hi]
  · rw [List.getElem?_eq_none (l := ds.toList) (by omega), List.getElem?_eq_none (by rw [List.length_map]; omega)]
theorem Sim.mrelT (hs : Sim P B w0 ρ H w) {g n : Nat} {es : List (List Int × Int)} (hg : H.get g = some (.map (tmap es))) (hn : ∀ e ∈ es, e.1.length = n) {s : Spot} (hsp : ρ g = some s) : ∃ (E : Array MapEntry) (clock : Nat), w.heap[s.blk]? = some (.map E clock) ∧ MRelT n E es := by
  obtain ⟨s0, E, c0, k1, k2, _, k4, k5⟩ := hs.live _ _ hg
  rw [hsp] at k1
  cases k1
  refine ⟨E, c0, k2, by simpa [tmap] using k4, fun i e he => ⟨hn e (List.mem_of_getElem? he), ?_⟩⟩
  obtain ⟨c, h1, h2, h3⟩ := k5 i (kvT e.1) (.int .i64 e.2) (by simp [tmap, he])
  exact ⟨c, h1, flatT_inv h2, h3.int_inv⟩
theorem checkKey_str {k : TypeId} {b : Bool} {v : Value} (hk : P.underlying k = some .string) (w : World) : (Instr.checkKey b 10000 k v).run P w = .ok () w := by
  show (Instr.checkKey b (9999 + 1) k v).run P w = .ok () w
  unfold Instr.checkKey
  simp [Sem.run_bind, run_underlying hk]
theorem findKey_nowS {k : TypeId} {v : Value} {E : List MapEntry} {r : Option (Nat × Value)} (hk : P.underlying k = some .string) (h : Instr.findNow .string v E 0 = some r) (w : World) : (Instr.findKey k v E).run P w = .ok r w := by
  unfold Instr.findKey
  simp only [Sem.run_bind, run_underlying hk, Result.andThen_ok, h, Sem.run_pure]
theorem checkKey_int {k : TypeId} {q : IntKind} {b : Bool} {v : Value} (hk : P.underlying k = some (.int q)) (w : World) : (Instr.checkKey b 10000 k v).run P w = .ok () w := by
  show (Instr.checkKey b (9999 + 1) k v).run P w = .ok () w
  unfold Instr.checkKey
  simp [Sem.run_bind, run_underlying hk]
theorem findKey_now {k : TypeId} {q : IntKind} {v : Value} {E : List MapEntry} {r : Option (Nat × Value)} (hk : P.underlying k = some (.int q)) (h : Instr.findNow (.int q) v E 0 = some r) (w : World) : (Instr.findKey k v E).run P w = .ok r w := by
  unfold Instr.findKey
  simp only [Sem.run_bind, run_underlying hk, Result.andThen_ok, h, Sem.run_pure]
end
end Go.GL
namespace Go.GL
open Go.RowKit

section
variable {P : Program} {B : Nat} {w0 : World} {ρ : Place} {H : GHeap} {w : World} {fr : Slots} {a : Act}

theorem eqGuard_flat (op : BinOp) (t : TypeId) (x y : Operand) (u v : Value) (h1 : ¬ (u = .nilIface ∧ v = .nilIface)) (h2 : ∀ as bs, u = .agg as → v = .agg bs → P.eqGuardType P.depth t = false) :
    (eqGuard op t x y u v).run P w = .ok () w := by
  unfold eqGuard
  cases op <;> first | rfl | skip
  all_goals
    simp only [Bool.not_true, Bool.false_eq_true, if_false]
    split
    · exact absurd ⟨rfl, rfl⟩ h1
    · rename_i as bs
      simp only [Sem.run_bind, program, Sem.run, Result.andThen_ok, h2 as bs rfl rfl]
      rfl
    · rfl

theorem bin_run (o : Oper) {op : BinOp} {t u : TypeId} {x y : Operand} (ho : o.op = .binOp op t x y u) {r : Value}
    (hg : (eqGuard op t x y (a.eval x) (a.eval y)).run P w = .ok () w) (hr : (binOp op t (a.eval x) (a.eval y)).run P w = .ok r w) : (execOp a.eval o).run P w = .ok (.value r) w := by
  unfold execOp
  simp only [ho, Sem.run_bind, hg, hr, Result.andThen_ok, Sem.run_pure]

theorem v_run {s : Sem Value} {r : Value} (h : s.run P w = .ok r w) : ((do pure (Next.value (← s))) : Sem Next).run P w = .ok (.value r) w := by
  simp only [Sem.run_bind, h, Result.andThen_ok, Sem.run_pure]

theorem part_one {t : TypeId} {cs : Array Value} {off : Nat} {v : Value} (h1 : oneT P t = true) (hv : cs[off]? = some v) : (part t cs off).run P w = .ok v w := by
  unfold part
  simp only [Sem.run_bind, oneT_run h1, Result.andThen_ok, Bool.false_eq_true, if_false, hv]
  rfl

theorem sliceBound_run {k : IntKind} {i y : Nat} {code : BoundsCode} (h : i ≤ y) : (Instr.sliceBound (.int k i) y code).run P w = .ok i w := by
  unfold Instr.sliceBound
  simp only [asIntOf, Sem.run_bind, Sem.run_pure, Result.andThen_ok]
  rw [if_pos ⟨by omega, by omega⟩]
  simp

theorem sliceBounds_run {isSlice : Bool} {len cap l h : Nat} {lo hi : Option Value} (hl : match lo with | none => l = 0 | some y => ∃ k, y = .int k l) (hh : match hi with | none => h = len | some y => ∃ k, y = .int k h)
    (h0 : l ≤ h) (h1 : h ≤ len) (h2 : len ≤ cap) : (Instr.sliceBounds isSlice len cap lo hi none).run P w = .ok (l, h, cap) w := by
  unfold Instr.sliceBounds
  cases lo with
  | none =>
    subst hl
    cases hi with
    | none => subst hh; simp
    | some y =>
      obtain ⟨k, rfl⟩ := hh
      simp [sliceBound_run (show h ≤ cap by omega)]
  | some x =>
    obtain ⟨k, rfl⟩ := hl
    cases hi with
    | none => subst hh; simp [sliceBound_run h0]
    | some y =>
      obtain ⟨k', rfl⟩ := hh
      simp [sliceBound_run (show h ≤ cap by omega), sliceBound_run h0]

theorem sizeOf_run {P : Program} {t : TypeId} {i : TypeInfo} (h : P.info? t = some i) (w : World) : (sizeOf t).run P w = .ok i.size w := by
  simp only [sizeOf, typeInfo, Sem.run_bind, program, Sem.run, h, Sem.run_pure, Result.andThen_ok]

theorem mapM_buildT {P : Program} : ∀ (fs : List Field) (ps : List (Nat × Nat)) (w : World), (fs.mapM fun (f : Field) => (P.info? f.type).map fun (i : TypeInfo) => (f.offset, i.size)) = some ps →
    (fs.mapM (fun (f : Field) => (do pure (f.offset, ← sizeOf f.type) : Sem (Nat × Nat)))).run P w = .ok ps w
  | [], ps, w, h => by
    simp only [List.mapM_nil] at h
    cases h
    rfl
  | f :: fs, ps, w, h => by
    simp only [List.mapM_cons] at h
    cases hi : P.info? f.type with
    | none => rw [hi] at h; cases h
    | some i =>
      rw [hi] at h
      cases hr : (fs.mapM fun (f : Field) => (P.info? f.type).map fun (i : TypeInfo) => (f.offset, i.size)) with
      | none => rw [hr] at h; cases h
      | some qs =>
        rw [hr] at h
        cases h
        have ih := mapM_buildT fs qs w hr
        simp only [List.mapM_cons, Sem.run_bind, sizeOf_run hi, Sem.run_pure, Result.andThen_ok, ih]

set_option maxHeartbeats 1000000 in
theorem MStep.sound {op : Op} {v : Value} (hm : MStep P fr H op v) (hf : ∀ t u, Operand.tmp t ∈ op.operands → fr.get t = some u → VRel ρ u (a.eval (.tmp t))) (hs : Sim P B w0 ρ H w) (o : Oper) (ho : o.op = op) :
    ∃ c, (execOp a.eval o).run P w = .ok (.value c) w ∧ VRel ρ v c := by
  cases hm with
  | move h =>
    rename_i x
    exact ⟨_, by unfold execOp; simp only [ho]; rfl, ev_rel hf (by simp [Op.operands]) h⟩
  | assign h =>
    rename_i x
    exact ⟨_, by unfold execOp; simp only [ho]; rfl, ev_rel hf (by simp [Op.operands]) h⟩
  | pickT hc h =>
    rename_i c x y
    have e := (ev_rel hf (x := c) (by simp [Op.operands]) hc).bool_inv
    exact ⟨_, by unfold execOp; simp only [ho, e]; rfl, ev_rel hf (by simp [Op.operands]) h⟩
  | pickF hc h =>
    rename_i c x y
    have e := (ev_rel hf (x := c) (by simp [Op.operands]) hc).bool_inv
    exact ⟨_, by unfold execOp; simp only [ho, e]; rfl, ev_rel hf (by simp [Op.operands]) h⟩
  | nilCheck h =>
    rename_i x p
    have hr := ev_rel hf (x := x) (by simp [Op.operands]) h
    obtain ⟨b, hb⟩ := hr.ptr_some
    rw [hb] at hr
    exact ⟨_, by unfold execOp; simp only [ho, hb]; rfl, hr⟩
  | fieldAddr hk h =>
    rename_i s x f g off k
    obtain ⟨sp, hg, hb⟩ := (ev_rel hf (x := x) (by simp [Op.operands]) h).ptr_inv
    obtain ⟨fs, fd, i, hu, hfd, hi, hne, rfl⟩ := fieldOff_run hk
    refine ⟨.pointer (some ⟨sp.blk, sp.base + off + fd.offset, none⟩), ?_, ?_⟩
    · unfold execOp
      simp only [ho, hb]
      refine v_run ?_
      simp [Instr.fieldAt, run_underlying hu, hfd, Instr.sureAddr, fieldPlace, sizeOf, typeInfo, hi, hne, add_mk]
    · rw [Nat.add_assoc]; exact .ptr hg
  | load ht h hc =>
    rename_i t x g off
    obtain ⟨sp, hg, hb⟩ := (ev_rel hf (x := x) (by simp [Op.operands]) h).ptr_inv
    obtain ⟨c, hcell, hr⟩ := hs.cell hg hc
    refine ⟨c, ?_, hr⟩
    unfold execOp
    simp only [ho, hb]
    refine v_run ?_
    simp only [Instr.loadAt, Instr.sureAddr, loadVar, Sem.run_bind, Sem.run_pure, oneT_run ht, Result.andThen_ok, Bool.false_eq_true, if_false, Go.load, Sem.run, hcell]
  | loadN ht h hn hc =>
    rename_i t x g off n vs
    obtain ⟨sp, hg, hb⟩ := (ev_rel hf (x := x) (by simp [Op.operands]) h).ptr_inv
    have hex : ∃ cs : List Value, LRel ρ vs cs ∧ ∀ j c, cs[j]? = some c → w.cell? ⟨sp.blk, sp.base + off + j, none⟩ = some c := by
      have key : ∀ (vs : List Value) (off : Nat), (∀ i v, vs[i]? = some v → H.cell g (off + i) = some v) → ∃ cs : List Value, LRel ρ vs cs ∧ ∀ (j : Nat) (c : Value), cs[j]? = some c → w.cell? ⟨sp.blk, sp.base + off + j, none⟩ = some c := by
        intro vs
        induction vs with
        | nil => exact fun off _ => ⟨[], .nil ρ, fun j c hj => by simp at hj⟩
        | cons v vs ih =>
          intro off hc
          obtain ⟨cs, h1, h2⟩ := ih (off + 1) (fun i v hv => by rw [show off + 1 + i = off + (i + 1) by omega]; exact hc (i + 1) v (by simpa using hv))
          obtain ⟨c, hcell, hr⟩ := hs.cell hg (hc 0 v rfl)
          refine ⟨c :: cs, .cons hr h1, fun j c' hj => ?_⟩
          cases j with
          | zero => simp at hj; subst hj; exact hcell
          | succ j => rw [show sp.base + off + (j + 1) = sp.base + (off + 1) + j by omega]; exact h2 j c' (by simpa using hj)
      exact key vs off hc
    obtain ⟨cs, hrel, hcells⟩ := hex
    refine ⟨.agg cs.toArray, ?_, .agg_of hrel⟩
    unfold execOp
    simp only [ho, hb]
    refine v_run ?_
    obtain ⟨ha, hsz⟩ := aggT_run ht w
    have hl := loadCellsFrom_run (P := P) (w := w) ⟨sp.blk, sp.base + off, none⟩ n 0 #[] cs (by rw [← hrel.1, hn]) (fun j c hj => by rw [add_mk, Nat.zero_add]; exact hcells j c hj)
    simp only [Instr.loadAt, Instr.sureAddr, loadVar, Sem.run_bind, Sem.run_pure, ha, hsz, Result.andThen_ok, if_true, loadCells, hl]
    simp
  | indexAddr ht h hi h0 h1 =>
    rename_i t e x i g off n sz k j
    obtain ⟨hu, inf, hinf, hsz⟩ := sliceT_run ht
    have hei := (ev_rel hf (x := i) (by simp [Op.operands]) hi).int_inv
    obtain ⟨_, sp, hg, hb⟩ := (ev_rel hf (x := x) (by simp [Op.operands]) h).slice_inv
    rcases hb with ⟨cap, hb, _⟩ | ⟨hn, _⟩
    · refine ⟨.pointer (some ⟨sp.blk, sp.base + (off + j.toNat * sz), none⟩), ?_, .ptr hg⟩
      unfold execOp
      simp only [ho, hb, hei]
      refine v_run ?_
      simp only [Instr.indexAt, asIntOf, Sem.run_bind, Sem.run_pure, run_underlying hu, Result.andThen_ok]
      rw [if_pos ⟨h0, h1⟩]
      simp only [sizeOf, typeInfo, Sem.run_bind, program, Sem.run, hinf, Result.andThen_ok, Sem.run_pure, hsz, add_mk, Nat.add_assoc]
    · omega
  | indexArr ht h hi h0 h1 =>
    rename_i t x i g off n sz k j
    obtain ⟨e, hu, inf, hinf, hsz⟩ := arrayT_run ht
    have hei := (ev_rel hf (x := i) (by simp [Op.operands]) hi).int_inv
    obtain ⟨sp, hg, hb⟩ := (ev_rel hf (x := x) (by simp [Op.operands]) h).ptr_inv
    refine ⟨.pointer (some ⟨sp.blk, sp.base + (off + j.toNat * sz), none⟩), ?_, .ptr hg⟩
    unfold execOp
    simp only [ho, hb, hei]
    refine v_run ?_
    simp only [Instr.indexAt, asIntOf, Sem.run_bind, Sem.run_pure, run_underlying hu, Result.andThen_ok, Instr.sureAddr]
    rw [if_pos ⟨h0, h1⟩]
    simp only [sizeOf, typeInfo, Sem.run_bind, program, Sem.run, hinf, Result.andThen_ok, Sem.run_pure, hsz, add_mk, Nat.add_assoc]
  | indexStr ht h hi h0 hb =>
    rename_i t x i s k j b
    have hu := isStringT_run ht
    have hei := (ev_rel hf (x := i) (by simp [Op.operands]) hi).int_inv
    have hex := (ev_rel hf (x := x) (by simp [Op.operands]) h).string_inv
    refine ⟨.int .u8 b.toNat, ?_, .int _ _⟩
    unfold execOp
    simp only [ho, hex, hei]
    refine v_run ?_
    simp only [Instr.index, asIntOf, Sem.run_bind, Sem.run_pure, run_underlying hu, Result.andThen_ok, h0, if_true, hb]
  | len ht h =>
    rename_i t e x p n sz
    obtain ⟨hu, _⟩ := sliceT_run ht
    obtain ⟨_, a', cap, hb, _⟩ := (ev_rel hf (x := x) (by simp [Op.operands, Call.operands]) h).slice_len
    refine ⟨.int .i64 n, ?_, .int _ _⟩
    unfold execOp
    simp only [ho, resolve, invoke, builtin, Sem.run_bind, Sem.run_pure, Result.andThen_ok, List.map_toArray, List.map_cons, List.map_nil, hb]
    simp [Builtin.len_, run_underlying hu, goInt]
  | lenStr ht h =>
    rename_i t x s
    have hu := isStringT_run ht
    have hb := (ev_rel hf (x := x) (by simp [Op.operands, Call.operands]) h).string_inv
    refine ⟨.int .i64 s.size, ?_, .int _ _⟩
    unfold execOp
    simp only [ho, resolve, invoke, builtin, Sem.run_bind, Sem.run_pure, Result.andThen_ok, List.map_toArray, List.map_cons, List.map_nil, hb]
    simp [Builtin.len_, run_underlying hu, goInt]
  | cmp hx hy hr =>
    rename_i op t u x y k m n r
    have ex := (ev_rel hf (x := x) (by simp [Op.operands]) hx).int_inv
    have ey := (ev_rel hf (x := y) (by simp [Op.operands]) hy).int_inv
    refine ⟨.bool r, bin_run o ho (by rw [ex, ey]; exact eqGuard_flat _ _ _ _ _ _ (by simp) (by simp)) ?_, .bool _⟩
    rw [ex, ey]
    cases op <;> simp only [cmpI, Option.some.injEq, reduceCtorEq] at hr <;> subst hr <;> simp [binOp, Op.intCmp]
  | arith hx hy hr =>
    rename_i op t u x y k m n r
    have ex := (ev_rel hf (x := x) (by simp [Op.operands]) hx).int_inv
    have ey := (ev_rel hf (x := y) (by simp [Op.operands]) hy).int_inv
    refine ⟨.int k r, bin_run o ho (by rw [ex, ey]; exact eqGuard_flat _ _ _ _ _ _ (by simp) (by simp)) ?_, .int _ _⟩
    rw [ex, ey]
    cases op <;> simp only [arithI, Option.some.injEq, reduceCtorEq] at hr <;> subst hr <;> simp [binOp, Op.intArith]
  | intOp hx hy hr =>
    rename_i op t u x y k j m n r
    have ex := (ev_rel hf (x := x) (by simp [Op.operands]) hx).int_inv
    have ey := (ev_rel hf (x := y) (by simp [Op.operands]) hy).int_inv
    refine ⟨.int k r, bin_run o ho (by rw [ex, ey]; exact eqGuard_flat _ _ _ _ _ _ (by simp) (by simp)) ?_, .int _ _⟩
    rw [ex, ey]
    exact hr w
  | quo hx hy h0 =>
    rename_i t u x y k m n
    have ex := (ev_rel hf (x := x) (by simp [Op.operands]) hx).int_inv
    have ey := (ev_rel hf (x := y) (by simp [Op.operands]) hy).int_inv
    refine ⟨_, bin_run o ho (by rw [ex, ey]; exact eqGuard_flat _ _ _ _ _ _ (by simp) (by simp)) ?_, .int _ _⟩
    rw [ex, ey]
    simp [binOp, Op.intDiv, h0]
  | rem hx hy h0 =>
    rename_i t u x y k m n
    have ex := (ev_rel hf (x := x) (by simp [Op.operands]) hx).int_inv
    have ey := (ev_rel hf (x := y) (by simp [Op.operands]) hy).int_inv
    refine ⟨_, bin_run o ho (by rw [ex, ey]; exact eqGuard_flat _ _ _ _ _ _ (by simp) (by simp)) ?_, .int _ _⟩
    rw [ex, ey]
    simp [binOp, Op.intDiv, h0]
  | strCmp hx hy hr =>
    rename_i op t u x y m n r
    have ex := (ev_rel hf (x := x) (by simp [Op.operands]) hx).string_inv
    have ey := (ev_rel hf (x := y) (by simp [Op.operands]) hy).string_inv
    refine ⟨.bool r, bin_run o ho (by rw [ex, ey]; exact eqGuard_flat _ _ _ _ _ _ (by simp) (by simp)) ?_, .bool _⟩
    rw [ex, ey]
    cases op <;> simp only [strI, Option.some.injEq, reduceCtorEq] at hr <;> subst hr <;> simp [binOp, Op.stringOp]
  | strAdd hx hy hl =>
    rename_i t u x y m n
    have ex := (ev_rel hf (x := x) (by simp [Op.operands]) hx).string_inv
    have ey := (ev_rel hf (x := y) (by simp [Op.operands]) hy).string_inv
    refine ⟨_, bin_run o ho (by rw [ex, ey]; exact eqGuard_flat _ _ _ _ _ _ (by simp) (by simp)) ?_, .string _⟩
    rw [ex, ey]
    have hle : ¬ (((m.size + n.size : Nat) : Int) > IntKind.i64.max) := by
      rw [show IntKind.i64.max = 9223372036854775807 from by decide]
      omega
    simp only [binOp, Op.stringOp]
    rw [if_neg hle]
    rfl
  | boolEq ht hx hy =>
    rename_i t u x y m n
    have ex := (ev_rel hf (x := x) (by simp [Op.operands]) hx).bool_inv
    have ey := (ev_rel hf (x := y) (by simp [Op.operands]) hy).bool_inv
    have hu : P.underlying t = some .bool := by
      unfold isBoolT at ht
      split at ht
      · assumption
      · cases ht
    refine ⟨.bool (m == n), bin_run o ho (by rw [ex, ey]; exact eqGuard_flat _ _ _ _ _ _ (by simp) (by simp)) ?_, .bool _⟩
    rw [ex, ey]
    have hq : (Op.equal t (.bool m) (.bool n)).run P w = .ok (m == n) w := by
      unfold Op.equal Op.maxDepth
      rw [show (10000 : Nat) = 9999 + 1 from rfl]
      unfold Op.equalIn
      simp [run_underlying hu]
    simp [binOp, hq]
  | boolNe ht hx hy =>
    rename_i t u x y m n
    have ex := (ev_rel hf (x := x) (by simp [Op.operands]) hx).bool_inv
    have ey := (ev_rel hf (x := y) (by simp [Op.operands]) hy).bool_inv
    have hu : P.underlying t = some .bool := by
      unfold isBoolT at ht
      split at ht
      · assumption
      · cases ht
    refine ⟨.bool (!(m == n)), bin_run o ho (by rw [ex, ey]; exact eqGuard_flat _ _ _ _ _ _ (by simp) (by simp)) ?_, .bool _⟩
    rw [ex, ey]
    have hq : (Op.equal t (.bool m) (.bool n)).run P w = .ok (m == n) w := by
      unfold Op.equal Op.maxDepth
      rw [show (10000 : Nat) = 9999 + 1 from rfl]
      unfold Op.equalIn
      simp [run_underlying hu]
    simp [binOp, hq]
  | aggEq hg hx hy ha hb hr =>
    rename_i t u x y as bs r
    have ex := flat_agg_eq (ev_rel hf (x := x) (by simp [Op.operands]) hx) ha
    have ey := flat_agg_eq (ev_rel hf (x := y) (by simp [Op.operands]) hy) hb
    refine ⟨_, bin_run o ho (by rw [ex, ey]; exact eqGuard_flat _ _ _ _ _ _ (by simp) (fun _ _ _ _ => hg)) ?_, .bool _⟩
    rw [ex, ey]
    simp [binOp, hr w]
  | aggNe hg hx hy ha hb hr =>
    rename_i t u x y as bs r
    have ex := flat_agg_eq (ev_rel hf (x := x) (by simp [Op.operands]) hx) ha
    have ey := flat_agg_eq (ev_rel hf (x := y) (by simp [Op.operands]) hy) hb
    refine ⟨_, bin_run o ho (by rw [ex, ey]; exact eqGuard_flat _ _ _ _ _ _ (by simp) (fun _ _ _ _ => hg)) ?_, .bool _⟩
    rw [ex, ey]
    simp [binOp, hr w]
  | not h =>
    rename_i t x b
    have ex := (ev_rel hf (x := x) (by simp [Op.operands]) h).bool_inv
    refine ⟨.bool !b, ?_, .bool _⟩
    unfold execOp
    simp only [ho, ex]
    exact v_run (by simp [Op.unary])
  | neg h =>
    rename_i t x k n
    have ex := (ev_rel hf (x := x) (by simp [Op.operands]) h).int_inv
    refine ⟨_, ?_, .int _ _⟩
    unfold execOp
    simp only [ho, ex]
    exact v_run (by simp [Op.unary, Op.intArith])
  | conv hs' ht h =>
    rename_i s t x k j n
    have ex := (ev_rel hf (x := x) (by simp [Op.operands]) h).int_inv
    have hu := intT_run ht
    obtain ⟨d, hd⟩ := Option.isSome_iff_exists.1 hs'
    refine ⟨_, ?_, .int _ _⟩
    unfold execOp
    simp only [ho, ex]
    refine v_run ?_
    simp [convert, run_underlying hu, run_underlying hd, Conv.intToInt]
  | build ht hz hv hc =>
    rename_i t parts z ps vs cs
    have hrel := evs_rel (xs := parts.toList.map (·.2)) hf (fun x hx => by simp only [Op.operands]; simpa using hx) hv
    unfold buildT at ht
    split at ht
    · rename_i fs zv hu hzv
      simp only [Option.map_eq_some_iff, Prod.mk.injEq] at ht
      obtain ⟨ps', hps, rfl, rfl⟩ := ht
      simp only [Option.bind_eq_some_iff] at hzv
      obtain ⟨inf, hinf, hz0⟩ := hzv
      have hzrel : LRel ρ zv.cells.toList zv.cells.toList := ⟨rfl, fun i p q hp hq => by
        rw [hp] at hq
        cases hq
        exact .flat1 (List.all_eq_true.1 hz _ (List.mem_of_getElem? hp))⟩
      obtain ⟨ds, hfill, hdr⟩ := fill_rel (ps'[·]?) (parts.toList.map (·.1)) hrel hzrel hc
      refine ⟨.agg ds.toArray, ?_, .agg_of hdr⟩
      unfold execOp
      simp only [ho]
      refine v_run ?_
      have hM := mapM_buildT fs.toList ps' w hps
      have hpl : (parts.map fun (i, x) => (i, a.eval x)).toList = (parts.toList.map (·.1)).zip ((parts.toList.map (·.2)).map a.eval) := by
        simp [List.zip_map', Function.comp_def]
      unfold Instr.build
      simp only [zeroValue, typeInfo, Sem.run_bind, program, Sem.run, hinf, hz0, run_underlying hu, Result.andThen_ok, Sem.run_pure]
      rw [← Array.toArray_toList (xs := fs)]
      simp only [List.mapM_toArray, Sem.run_map, hM, Result.andThen_ok]
      have hfill' : Instr.fill (fun i => ps'.toArray[i]?) zv.cells (parts.map fun (i, x) => (i, a.eval x)).toList = some ds.toArray := by
        rw [hpl]
        simpa using hfill
      rw [hfill']
      rfl
    · cases ht
  | buildA ht hz hv hc =>
    rename_i t parts z sz vs cs
    have hrel := evs_rel (xs := parts.toList.map (·.2)) hf (fun x hx => by simp only [Op.operands]; simpa using hx) hv
    unfold buildAT at ht
    split at ht
    · rename_i n e zv hu hzv
      simp only [Option.map_eq_some_iff, Prod.mk.injEq] at ht
      obtain ⟨i, hi, rfl, rfl⟩ := ht
      simp only [Option.bind_eq_some_iff] at hzv
      obtain ⟨inf, hinf, hz0⟩ := hzv
      have hzrel : LRel ρ zv.cells.toList zv.cells.toList := ⟨rfl, fun i p q hp hq => by
        rw [hp] at hq
        cases hq
        exact .flat1 (List.all_eq_true.1 hz _ (List.mem_of_getElem? hp))⟩
      obtain ⟨ds, hfill, hdr⟩ := fill_rel (fun k => some (k * i.size, i.size)) (parts.toList.map (·.1)) hrel hzrel hc
      refine ⟨.agg ds.toArray, ?_, .agg_of hdr⟩
      unfold execOp
      simp only [ho]
      refine v_run ?_
      have hpl : (parts.map fun (i, x) => (i, a.eval x)).toList = (parts.toList.map (·.1)).zip ((parts.toList.map (·.2)).map a.eval) := by
        simp [List.zip_map', Function.comp_def]
      unfold Instr.build
      simp only [zeroValue, typeInfo, Sem.run_bind, program, Sem.run, hinf, hz0, run_underlying hu, Result.andThen_ok, Sem.run_pure, sizeOf_run hi]
      have hfill' : Instr.fill (fun k => some (k * i.size, i.size)) zv.cells (parts.map fun (i, x) => (i, a.eval x)).toList = some ds.toArray := by
        rw [hpl]
        simpa using hfill
      rw [hfill']
      rfl
    · cases ht
  | extract h hv =>
    rename_i x ix vs
    obtain ⟨ds, hd, hr⟩ := (ev_rel hf (x := x) (by simp [Op.operands]) h).tuple_inv
    obtain ⟨c, hc, hvr⟩ := hr.get (i := ix) (by simpa using hv)
    refine ⟨c, ?_, hvr⟩
    unfold execOp
    simp only [ho, hd]
    refine v_run ?_
    simp only [Array.getElem?_toList] at hc
    simp only [Instr.extract, hc]
    rfl
  | indexV ht hs h1 h hi h0 hn hv =>
    rename_i t e x i n k j cs
    have hei := (ev_rel hf (x := i) (by simp [Op.operands]) hi).int_inv
    obtain ⟨ds, hd, hr⟩ := (ev_rel hf (x := x) (by simp [Op.operands]) h).agg_inv
    obtain ⟨c, hc, hvr⟩ := hr.get (i := j.toNat) (by simpa using hv)
    simp only [Array.getElem?_toList] at hc
    obtain ⟨inf, hinf, hsz⟩ := Option.map_eq_some_iff.1 hs
    refine ⟨c, ?_, hvr⟩
    unfold execOp
    simp only [ho, hd, hei]
    refine v_run ?_
    simp only [Instr.index, asIntOf, Sem.run_bind, Sem.run_pure, run_underlying ht, Result.andThen_ok]
    rw [if_pos ⟨h0, hn⟩]
    simp only [sizeOf, typeInfo, Sem.run_bind, program, Sem.run, hinf, Result.andThen_ok, Sem.run_pure, hsz, Nat.mul_one, part_one h1 hc]
  | field ht hfd h1 h hv =>
    rename_i t x f fs fd cs
    obtain ⟨ds, hd, hr⟩ := (ev_rel hf (x := x) (by simp [Op.operands]) h).agg_inv
    obtain ⟨c, hc, hvr⟩ := hr.get (i := fd.offset) (by simpa using hv)
    simp only [Array.getElem?_toList] at hc
    refine ⟨c, ?_, hvr⟩
    unfold execOp
    simp only [ho, hd]
    refine v_run ?_
    simp only [Instr.field, Sem.run_bind, run_underlying ht, Result.andThen_ok, hfd, asAgg, Sem.run_pure, part_one h1 hc]
  | fieldN ht hfd h1 h =>
    rename_i t x f n fs fd cs
    obtain ⟨ds, hd, hr⟩ := (ev_rel hf (x := x) (by simp [Op.operands]) h).agg_inv
    obtain ⟨ha, hsz⟩ := aggT_run h1 w
    refine ⟨.agg (ds.extract fd.offset (fd.offset + n)), ?_, ?_⟩
    · unfold execOp
      simp only [ho, hd]
      refine v_run ?_
      simp only [Instr.field, Sem.run_bind, run_underlying ht, Result.andThen_ok, hfd, asAgg, Sem.run_pure, part, ha, hsz, if_true]
    · have hl : cs.size = ds.size := by simpa using hr.1
      refine .agg (by simp [hl]) fun i h₁ h₂ => ?_
      simp only [Array.getElem_extract]
      have h₁' : fd.offset + i < cs.size := by simp at h₁; omega
      have h₂' : fd.offset + i < ds.size := by omega
      exact hr.2 (fd.offset + i) _ _ (by simp [h₁']) (by simp [h₂'])
  | slice ht hx hgo hlo hhi h0 h1 =>
    rename_i t e x lo hi g off n sz l h cells
    obtain ⟨hu, inf, hinf, hsz⟩ := sliceT_run ht
    obtain ⟨_, sp, hg, hb⟩ := (ev_rel hf (x := x) (by simp [Op.operands]) hx).slice_inv
    obtain ⟨sp', C, fz, k1, _, _, _, _, _, _, k8⟩ := hs.live _ _ hgo
    rw [hg] at k1
    cases k1
    have hes : sp.esz = sz := by have k8 := k8 rfl; rw [hinf] at k8; simp at k8; omega
    have hlo' : match lo.map a.eval with | none => l = 0 | some y => ∃ k, y = .int k l := by
      cases lo with
      | none => exact hlo
      | some y => obtain ⟨k, hk⟩ := hlo; exact ⟨k, (ev_rel hf (x := y) (by simp [Op.operands]) hk).int_inv⟩
    have hhi' : match hi.map a.eval with | none => h = n | some y => ∃ k, y = .int k h := by
      cases hi with
      | none => exact hhi
      | some y => obtain ⟨k, hk⟩ := hhi; exact ⟨k, (ev_rel hf (x := y) (by simp [Op.operands]) hk).int_inv⟩
    rcases hb with ⟨cap, hb, hcap, hroom, hmx⟩ | ⟨hn, a', hb⟩
    · have hbd := sliceBounds_run (P := P) (w := w) (isSlice := true) hlo' hhi' h0 h1 hcap
      refine ⟨.slice (if cap = l then some ⟨sp.blk, sp.base + off, none⟩ else some ⟨sp.blk, sp.base + (off + l * sz), none⟩) (h - l) (cap - l), ?_, ?_⟩
      · unfold execOp
        simp only [ho, hb]
        refine v_run ?_
        unfold Instr.sliceAt
        simp only [Sem.run_bind, run_underlying hu, Result.andThen_ok]
        unfold Instr.slice
        simp only [Sem.run_bind, run_underlying hu, Result.andThen_ok, Option.map_none, hbd, sizeOf, typeInfo, program, Sem.run, hinf, Sem.run_pure, hsz, Option.map_some, add_mk, Nat.add_assoc]
      · by_cases hcl : cap = l
        · rw [if_pos hcl]
          have e1 : h - l = 0 := by omega
          have e2 : cap - l = 0 := by omega
          rw [e1, e2]
          exact .empty hg
        · rw [if_neg hcl]
          refine .slice hg (by omega) ?_ (by omega)
          rw [hes] at hroom ⊢
          have hm : l * sz + (cap - l) * sz = cap * sz := by rw [← Nat.add_mul]; congr 1; omega
          omega
    · subst hn
      have hh0 : h = 0 := by omega
      have hl0 : l = 0 := by omega
      subst hh0; subst hl0
      have hbd := sliceBounds_run (P := P) (w := w) (isSlice := true) (len := 0) (cap := 0) hlo' hhi' (Nat.le_refl _) (Nat.le_refl _) (Nat.le_refl _)
      refine ⟨.slice (some a') 0 0, ?_, .empty hg⟩
      unfold execOp
      simp only [ho, hb]
      refine v_run ?_
      unfold Instr.sliceAt
      simp only [Sem.run_bind, run_underlying hu, Result.andThen_ok]
      unfold Instr.slice
      simp only [Sem.run_bind, run_underlying hu, Result.andThen_ok, Option.map_none, hbd, sizeOf, typeInfo, program, Sem.run, hinf, Sem.run_pure, if_true]
  | sliceTo ht hx hy h1 =>
    rename_i t e x y av n sz h k
    obtain ⟨hu, inf, hinf, hsz⟩ := sliceT_run ht
    have hr := ev_rel hf (x := x) (by simp [Op.operands]) hx
    have hyr := (ev_rel hf (x := y) (by simp [Op.operands]) hy).int_inv
    generalize hc : a.eval x = c at hr
    have run : ∀ {a' : Option Addr} {cap : Nat}, c = .slice a' n cap → n ≤ cap → (execOp a.eval o).run P w = .ok (.value (.slice (if cap = 0 then a' else a'.map (·.add (0 * sz))) (h - 0) (cap - 0))) w := by
      intro a' cap hc' hcap
      have hbd := sliceBounds_run (P := P) (w := w) (isSlice := true) (len := n) (cap := cap) (lo := none) (hi := some (a.eval y)) (l := 0) (h := h) rfl ⟨k, hyr⟩ (Nat.zero_le _) h1 hcap
      unfold execOp
      simp only [ho, hc, hc']
      refine v_run ?_
      unfold Instr.sliceAt
      simp only [Sem.run_bind, run_underlying hu, Result.andThen_ok]
      unfold Instr.slice
      simp only [Sem.run_bind, run_underlying hu, Result.andThen_ok, Option.map_none, Option.map_some, hbd, sizeOf, typeInfo, program, Sem.run, hinf, Sem.run_pure, hsz]
    cases hr with
    | nilSlice =>
      obtain rfl : h = 0 := by omega
      exact ⟨_, run rfl (Nat.le_refl _), by simpa using VRel.nilSlice⟩
    | slice hg hcap hroom hmx =>
      rename_i g off cap sp
      refine ⟨_, run rfl hcap, ?_⟩
      by_cases h0 : cap = 0
      · subst h0
        obtain rfl : h = 0 := by omega
        simpa using VRel.empty hg
      · rw [if_neg h0]
        simp only [Nat.zero_mul, Option.map_some, Nat.sub_zero, add_mk, Nat.add_zero]
        exact .slice hg (by omega) hroom hmx
    | empty hg =>
      obtain rfl : h = 0 := by omega
      exact ⟨_, run rfl (Nat.le_refl _), by simpa using VRel.empty hg⟩
  | mkIface ht h =>
    rename_i t x v
    have hr := ev_rel hf (x := x) (by simp [Op.operands]) h
    refine ⟨.iface t (a.eval x), ?_, .iface t hr⟩
    unfold noIfaceT at ht
    unfold execOp
    simp only [ho]
    refine v_run ?_
    unfold Instr.makeInterface
    cases hu : P.underlying t with
    | none => rw [hu] at ht; cases ht
    | some d =>
      rw [hu] at ht
      simp only [Sem.run_bind, run_underlying hu, Result.andThen_ok]
      cases d <;> first | rfl | (simp at ht)
  | sliceNil ht hx hlo hhi =>
    rename_i t e x lo hi sz
    obtain ⟨hu, inf, hinf, hsz⟩ := sliceT_run ht
    obtain ⟨_, _, hb⟩ := (ev_rel hf (x := x) (by simp [Op.operands]) hx).nilSlice_inv
    have hlo' : match lo.map a.eval with | none => (0 : Nat) = 0 | some y => ∃ k, y = .int k (0 : Nat) := by
      cases lo with
      | none => rfl
      | some y => obtain ⟨k, hk⟩ := hlo; exact ⟨k, (ev_rel hf (x := y) (by simp [Op.operands]) hk).int_inv⟩
    have hhi' : match hi.map a.eval with | none => (0 : Nat) = 0 | some y => ∃ k, y = .int k (0 : Nat) := by
      cases hi with
      | none => rfl
      | some y => obtain ⟨k, hk⟩ := hhi; exact ⟨k, (ev_rel hf (x := y) (by simp [Op.operands]) hk).int_inv⟩
    have hbd := sliceBounds_run (P := P) (w := w) (isSlice := true) (len := 0) (cap := 0) hlo' hhi' (Nat.le_refl _) (Nat.le_refl _) (Nat.le_refl _)
    refine ⟨.slice none 0 0, ?_, .nilSlice⟩
    unfold execOp
    simp only [ho, hb]
    refine v_run ?_
    unfold Instr.sliceAt
    simp only [Sem.run_bind, run_underlying hu, Result.andThen_ok]
    unfold Instr.slice
    simp only [Sem.run_bind, run_underlying hu, Result.andThen_ok, Option.map_none, hbd, sizeOf, typeInfo, program, Sem.run, hinf, Sem.run_pure, if_true]
  | sliceStr ht hx hlo hhi h0 h1 =>
    rename_i t x lo hi s l h
    have hu := isStringT_run ht
    have hb := (ev_rel hf (x := x) (by simp [Op.operands]) hx).string_inv
    have hlo' : match lo.map a.eval with | none => l = 0 | some y => ∃ k, y = .int k l := by
      cases lo with
      | none => exact hlo
      | some y => obtain ⟨k, hk⟩ := hlo; exact ⟨k, (ev_rel hf (x := y) (by simp [Op.operands]) hk).int_inv⟩
    have hhi' : match hi.map a.eval with | none => h = s.size | some y => ∃ k, y = .int k h := by
      cases hi with
      | none => exact hhi
      | some y => obtain ⟨k, hk⟩ := hhi; exact ⟨k, (ev_rel hf (x := y) (by simp [Op.operands]) hk).int_inv⟩
    have hbd := sliceBounds_run (P := P) (w := w) (isSlice := false) hlo' hhi' h0 h1 (Nat.le_refl _)
    refine ⟨_, ?_, .string _⟩
    unfold execOp
    simp only [ho, hb]
    refine v_run ?_
    unfold Instr.sliceAt
    simp only [Sem.run_bind, run_underlying hu, Result.andThen_ok]
    unfold Instr.slice
    simp only [Sem.run_bind, run_underlying hu, Result.andThen_ok, Option.map_none, hbd, Option.isSome_none, Bool.false_eq_true, if_false, Sem.run_pure]
  | makeFunc h =>
    rename_i fn captured vs
    have hrel := evs_rel (xs := captured.toList) hf (fun x hx => by simp only [Op.operands]; simpa using hx) h
    refine ⟨.func fn #[] (captured.map a.eval), ?_, ?_⟩
    · unfold execOp
      simp only [ho]
      exact v_run (by simp [Instr.makeFunc])
    · refine .func fn (by simpa using hrel.1) fun i h₁ h₂ => ?_
      have hl := hrel.1
      simp at hl
      exact hrel.2 i _ _ (by simp at h₁; simp [h₁]) (by simp at h₂; simp [h₂])
  | max2 hx hy =>
    rename_i ts x y k m n
    have ex := (ev_rel hf (x := x) (by simp [Op.operands, Call.operands]) hx).int_inv
    have ey := (ev_rel hf (x := y) (by simp [Op.operands, Call.operands]) hy).int_inv
    refine ⟨_, ?_, .int _ _⟩
    unfold execOp
    simp only [ho, resolve, invoke, builtin, Sem.run_bind, Sem.run_pure, Result.andThen_ok, List.map_toArray, List.map_cons, List.map_nil, ex, ey, Builtin.max_, List.foldlM_cons, List.foldlM_nil, Builtin.max2]
    congr 3
    simp only [Int.max_def]
    split <;> split <;> omega
  | min2 hx hy =>
    rename_i ts x y k m n
    have ex := (ev_rel hf (x := x) (by simp [Op.operands, Call.operands]) hx).int_inv
    have ey := (ev_rel hf (x := y) (by simp [Op.operands, Call.operands]) hy).int_inv
    refine ⟨_, ?_, .int _ _⟩
    unfold execOp
    simp only [ho, resolve, invoke, builtin, Sem.run_bind, Sem.run_pure, Result.andThen_ok, List.map_toArray, List.map_cons, List.map_nil, ex, ey, Builtin.min_, List.foldlM_cons, List.foldlM_nil, Builtin.min2]
    congr 3
    simp only [Int.min_def]
    split <;> split <;> omega
  | lookup1 ht hz hm hk hg =>
    rename_i t e m k g es j
    obtain ⟨s, hsp, em⟩ := (ev_rel hf (x := m) (by simp [Op.operands]) hm).map_inv
    have ek := (ev_rel hf (x := k) (by simp [Op.operands]) hk).int_inv
    obtain ⟨kt, q, hu, hkt⟩ := mapIT_run ht
    obtain ⟨E, clock, hE, hr⟩ := hs.mrel hg hsp
    refine ⟨.int .i64 ((lookE es j).getD 0), ?_, .int _ _⟩
    unfold execOp
    simp only [ho, em, ek]
    refine v_runD ?_
    have hz' : (zeroValue e).run P w = .ok (.int .i64 0) w := by
      unfold zvT at hz
      simp only [Option.bind_eq_some_iff] at hz
      obtain ⟨i, hi, hz0⟩ := hz
      simp [zeroValue, typeInfo, Sem.run_bind, program, Sem.run, hi, hz0]
    rcases findNow_rel (q := q) (k := j) (E := E.toList) (es := es) (by simpa using hr.1) (fun i e he => by simpa using hr.2 i e he) 0 with ⟨i, v, h1, h2⟩ | ⟨h1, h2⟩
    · simp [Instr.lookup, run_underlying hu, MapKept.run_getObj_map hE, checkKey_int hkt, findKey_now hkt h2, h1, Result.andThen]
    · simp [Instr.lookup, run_underlying hu, MapKept.run_getObj_map hE, checkKey_int hkt, findKey_now hkt h2, h1, hz', Result.andThen]
  | bytesStr hs0 ht h hn hp hc =>
    rename_i s t x g off n ns
    obtain ⟨e, hu, he⟩ := bytesT_run hs0
    have hd := isStringT_run ht
    obtain ⟨_, sp, hg, hb⟩ := (ev_rel hf (x := x) (by simp [Op.operands]) h).slice_inv
    rcases hb with ⟨cap, hb, _⟩ | ⟨hn0, _⟩
    · have hl := loadCellsFrom_run (P := P) (w := w) ⟨sp.blk, sp.base + off, none⟩ n 0 #[] (ns.map (Value.int .u8)) (by simp [hn]) (fun j c hj => by
        rw [add_mk, Nat.zero_add]
        rw [List.getElem?_map, Option.map_eq_some_iff] at hj
        obtain ⟨v, hv, rfl⟩ := hj
        obtain ⟨c', hcell, hr⟩ := hs.cell hg (hc j v hv)
        rw [hr.int_inv, ← Nat.add_assoc] at hcell
        exact hcell)
      refine ⟨_, ?_, .string _⟩
      unfold execOp
      simp only [ho, hb]
      refine v_runD ?_
      rw [run_convert_bytes_string _ _ _ _ _ _ _ hu he hd, run_bytesToString (ns := ns)]
      · rfl
      · simp only [loadCells, hl]
        simp
    · omega
  | lookupT ht hkt hz hm hk hj hn hg =>
    rename_i t k e m x g n es j
    obtain ⟨s, hsp, em⟩ := (ev_rel hf (x := m) (by simp [Op.operands]) hm).map_inv
    have ek := flatT_inv (ev_rel hf (x := x) (by simp [Op.operands]) hk)
    have hu := mapTT_run ht
    obtain ⟨E, clock, hE, hr⟩ := hs.mrelT hg hn hsp
    refine ⟨.int .i64 ((lookT es j).getD 0), ?_, .int _ _⟩
    unfold execOp
    simp only [ho, em, ek]
    refine v_runD ?_
    have hz' : (zeroValue e).run P w = .ok (.int .i64 0) w := by
      unfold zvT at hz
      simp only [Option.bind_eq_some_iff] at hz
      obtain ⟨i, hi, hz0⟩ := hz
      simp [zeroValue, typeInfo, Sem.run_bind, program, Sem.run, hi, hz0]
    rcases findKeyT hkt hj w (E := E.toList) (es := es) (by simpa using hr.1) (fun i e he => by simpa using hr.2 i e he) with ⟨i, v, h1, h2⟩ | ⟨h1, h2⟩
    · simp [Instr.lookup, run_underlying hu, MapKept.run_getObj_map hE, hkt.ck _ j hj, h2, h1, Result.andThen]
    · simp [Instr.lookup, run_underlying hu, MapKept.run_getObj_map hE, hkt.ck _ j hj, h2, h1, hz', Result.andThen]
  | lookupS ht hz hm hk hg =>
    rename_i t e m k g es j
    obtain ⟨s, hsp, em⟩ := (ev_rel hf (x := m) (by simp [Op.operands]) hm).map_inv
    have ek := (ev_rel hf (x := k) (by simp [Op.operands]) hk).string_inv
    obtain ⟨kt, hu, hkt⟩ := mapST_run ht
    obtain ⟨E, clock, hE, hr⟩ := hs.mrelS hg hsp
    refine ⟨.int .i64 ((lookS es j).getD 0), ?_, .int _ _⟩
    unfold execOp
    simp only [ho, em, ek]
    refine v_runD ?_
    have hz' : (zeroValue e).run P w = .ok (.int .i64 0) w := by
      unfold zvT at hz
      simp only [Option.bind_eq_some_iff] at hz
      obtain ⟨i, hi, hz0⟩ := hz
      simp [zeroValue, typeInfo, Sem.run_bind, program, Sem.run, hi, hz0]
    rcases findNow_relS (k := j) (E := E.toList) (es := es) (by simpa using hr.1) (fun i e he => by simpa using hr.2 i e he) 0 with ⟨i, v, h1, h2⟩ | ⟨h1, h2⟩
    · simp [Instr.lookup, run_underlying hu, MapKept.run_getObj_map hE, checkKey_str hkt, findKey_nowS hkt h2, h1, Result.andThen]
    · simp [Instr.lookup, run_underlying hu, MapKept.run_getObj_map hE, checkKey_str hkt, findKey_nowS hkt h2, h1, hz', Result.andThen]
  | sliceNilEq ht hx hy hop =>
    rename_i op t u e x y p n sz
    obtain ⟨hu, _⟩ := sliceT_run ht
    obtain ⟨_, a', cap, hb, _, hnn⟩ := (ev_rel hf (x := x) (by simp [Op.operands]) hx).slice_len
    obtain ⟨_, _, ey⟩ := (ev_rel hf (x := y) (by simp [Op.operands]) hy).nilSlice_inv
    refine ⟨_, bin_run o ho (by rw [hb, ey]; exact eqGuard_flat _ _ _ _ _ _ (by simp) (by simp)) ?_, .bool _⟩
    rw [hb, ey]
    have hq : (Op.equal t (.slice a' n cap) (.slice none 0 0)).run P w = .ok p.isNone w := by
      unfold Op.equal Op.maxDepth
      rw [show (10000 : Nat) = 9999 + 1 from rfl]
      unfold Op.equalIn
      simp only [Sem.run_bind, run_underlying hu, Result.andThen_ok]
      rw [← hnn]
      cases a' <;> rfl
    rcases hop with rfl | rfl
    · simp [binOp, hq]
    · simp only [binOp, Sem.run_bind, hq, Result.andThen_ok, Sem.run_pure]
      cases p <;> rfl
end
end Go.GL
