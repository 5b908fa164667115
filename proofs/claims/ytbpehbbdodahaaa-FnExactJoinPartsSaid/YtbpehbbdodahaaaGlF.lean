/- The steps that make or write memory, one by one, over ghost heaps. No condition. -/
import Derived.Test.YtbpehbbdodahaaaGlE
namespace Go.GL
open Go.RowKit

section
variable {P : Program} {H : GHeap} {fr : Slots} {o : Oper} {R : Option Value → GHeap → Prop}

theorem upon_value {a : Act} {next : Act → World → Prop} {Q : Exit → Act → World → Prop} {w w' : World} {c : Value} (h : (execOp a.eval o).run P w = .ok (.value c) w') (hn : next (a.put o.dst c) w') : o.wp P a w next Q := by
  unfold Oper.wp
  rw [h]
  exact hn
theorem upon_skip {a : Act} {next : Act → World → Prop} {Q : Exit → Act → World → Prop} {w w' : World} (h : (execOp a.eval o).run P w = .ok .skip w') (hn : next (a.put o.dst undef) w') : o.wp P a w next Q := by
  unfold Oper.wp
  rw [h]
  exact hn

theorem v_run' {s : Sem Value} {r : Value} {w w' : World} (h : s.run P w = .ok r w') : ((do pure (Next.value (← s))) : Sem Next).run P w = .ok (.value r) w' := by
  simp only [Sem.run_bind, h, Result.andThen_ok, Sem.run_pure]
theorem u_run' {s : Sem Unit} {w w' : World} (h : s.run P w = .ok () w') : ((do s; pure Next.skip) : Sem Next).run P w = .ok .skip w' := by
  simp only [Sem.run_bind, h, Result.andThen_ok, Sem.run_pure]

/-- A quiet operation, as a step. -/
theorem CDo.quiet {v : Value} (hm : MStep P fr H o.op v) (h : R (some v) H) : CDo P o fr H R := .mk fun B w0 ρ a w hs hf next Q hn => by
  obtain ⟨c, hc, hr⟩ := hm.sound (a := a) hf hs o rfl
  exact upon_value hc (hn ρ (some v) c H w h (.refl ρ) hs (fun x hx => by cases hx; exact hr))

theorem newRow_run (e : TypeId) (C : Array Value) (w : World) : (newRow e C).run P w = .ok ⟨w.heap.size, 0, none⟩ (w.alloc (.cells C e)) := rfl

theorem new_row {B : Nat} {w0 w : World} {ρ : Place} (hs : Sim P B w0 ρ H w) {cs : List Value} {C : Array Value} {e : TypeId} {n : Nat} (he : (P.info? e).map (·.size) = some n) (hl : cs.length ≤ C.size)
    (hc : ∀ (i : Nat) (v : Value), cs[i]? = some v → ∃ c, C[i]? = some c ∧ VRel ρ v c) : ∃ ρ', Ext ρ ρ' ∧ Sim P B w0 ρ' (H.push (.row cs e true)) (w.alloc (.cells C e)) ∧ ρ' H.next = some ⟨w.heap.size, 0, C.size, n⟩ :=
  let h := hs.alloc he hl hc
  ⟨_, h.2, h.1, place_self⟩

theorem LRel.prefix {ρ : Place} {vs cs : List Value} (h : LRel ρ vs cs) : ∀ (i : Nat) (v : Value), vs[i]? = some v → ∃ c, cs.toArray[i]? = some c ∧ VRel ρ v c := fun i v hv => by
  obtain ⟨c, hc, hr⟩ := h.get hv
  exact ⟨c, by simpa using hc, hr⟩

/-- A variable of its own for a value. -/
theorem CDo.box {e : TypeId} {x : Operand} {v : Value} {n : Nat} (ho : o.op = .box e x) (he : (P.info? e).map (·.size) = some n) (hx : ev fr x = some v)
    (h : R (some (.pointer (some ⟨H.next, 0, none⟩))) (H.push (.row v.cells.toList e true))) : CDo P o fr H R := .mk fun B w0 ρ a w hs hf next Q hn => by
  rw [ho] at hf
  have hr := ev_rel hf (x := x) (by simp [Op.operands]) hx
  obtain ⟨ρ', hext, hs', hsp⟩ := new_row hs (cs := v.cells.toList) (C := (a.eval x).cells) he (by have := hr.cells.1; simp at this; simp; omega) (fun i u hu => by
    obtain ⟨c, h1, h2⟩ := hr.cells.get hu
    exact ⟨c, by simpa using h1, h2⟩)
  refine upon_value (c := .pointer (some ⟨w.heap.size, 0, none⟩)) (w' := w.alloc (.cells (a.eval x).cells e)) ?_ (hn ρ' _ _ _ _ h hext hs' fun y hy => ?_)
  · unfold execOp
    simp only [ho]
    refine v_run' ?_
    simp only [Instr.box, newVar, Sem.run_bind, newRow_run, Result.andThen_ok, Sem.run_pure]
  · cases hy
    exact .ptr (s := ⟨w.heap.size, 0, (a.eval x).cells.size, n⟩) hsp

/-- A variable of its own, zero. -/
def zeroT (P : Program) (e : TypeId) : Option (List Value × Nat) := (P.info? e).bind fun (i : TypeInfo) => i.zero.map fun z => (z.cells.toList, i.size)

theorem zeroT_run {e : TypeId} {z : List Value} {n : Nat} (h : zeroT P e = some (z, n)) : ∃ i zv, P.info? e = some i ∧ i.zero = some zv ∧ zv.cells.toList = z ∧ i.size = n := by
  unfold zeroT at h
  simp only [Option.bind_eq_some_iff, Option.map_eq_some_iff, Prod.mk.injEq] at h
  obtain ⟨i, hi, zv, hz, h1, h2⟩ := h
  exact ⟨i, zv, hi, hz, h1, h2⟩

theorem CDo.alloc {e : TypeId} {z : List Value} {n : Nat} (ho : o.op = .alloc e) (hz : zeroT P e = some (z, n)) (hfl : z.all flat1 = true)
    (h : R (some (.pointer (some ⟨H.next, 0, none⟩))) (H.push (.row z e true))) : CDo P o fr H R := .mk fun B w0 ρ a w hs hf next Q hn => by
  obtain ⟨i, zv, hi, hz0, rfl, hn'⟩ := zeroT_run hz
  obtain ⟨ρ', hext, hs', hsp⟩ := new_row hs (cs := zv.cells.toList) (C := zv.cells) (e := e) (n := n) (by simp [hi, hn']) (by simp) (fun j u hu => ⟨u, by simpa using hu, .flat1 (List.all_eq_true.1 hfl _ (List.mem_of_getElem? hu))⟩)
  refine upon_value (c := .pointer (some ⟨w.heap.size, 0, none⟩)) (w' := w.alloc (.cells zv.cells e)) ?_ (hn ρ' _ _ _ _ h hext hs' fun y hy => ?_)
  · unfold execOp
    simp only [ho]
    refine v_run' ?_
    simp only [Instr.alloc, zeroValue, typeInfo, Sem.run_bind, program, Sem.run, hi, hz0, Result.andThen_ok, Sem.run_pure, newVar, newRow_run]
  · cases hy
    exact .ptr (s := ⟨w.heap.size, 0, zv.cells.size, n⟩) hsp

/-- n elements' cells, zero. -/
def madeL (z : List Value) (n : Nat) : List Value := (List.range n).map fun i => z[i % z.length]?.getD undef
theorem length_madeL (z : List Value) (n : Nat) : (madeL z n).length = n := by simp [madeL]
theorem madeL_eq (z : Array Value) (n : Nat) (hz : n = 0 ∨ 0 < z.size) : ((Array.range n).map (z[· % z.size]!)) = (madeL z.toList n).toArray := by
  apply Array.ext'
  simp only [Array.toList_map, Array.toList_range, madeL]
  refine List.map_congr_left fun i hi => ?_
  have hi' : i < n := by simpa using hi
  have hpos : 0 < z.size := by omega
  have hlt : i % z.size < z.size := Nat.mod_lt _ hpos
  rw [getElem!_pos z (i % z.size) hlt]
  simp [hlt]
theorem madeL_one (z : Value) (n : Nat) : madeL [z] n = List.replicate n z := by
  unfold madeL
  apply List.ext_getElem
  · simp
  · intro i h1 h2
    simp [Nat.mod_one]
theorem madeL_rel {ρ : Place} {z : List Value} (hz : z.all flat1 = true) (n : Nat) (h0 : n = 0 ∨ 0 < z.length) : LRel ρ (madeL z n) (madeL z n) := by
  refine ⟨rfl, fun i v c hv hc => ?_⟩
  rw [hv] at hc
  cases hc
  refine .flat1 ?_
  simp only [madeL, List.getElem?_map, Option.map_eq_some_iff] at hv
  obtain ⟨j, hj, rfl⟩ := hv
  have hlt : j < n := by
    have := List.mem_of_getElem? hj
    simpa using this
  have hpos : 0 < z.length := by omega
  have hlt' : j % z.length < z.length := Nat.mod_lt _ hpos
  rw [List.getElem?_eq_getElem hlt']
  exact List.all_eq_true.1 hz _ (List.getElem_mem _)

/-- A slice written out. -/
theorem CDo.buildSlice {t e : TypeId} {len n : Nat} {parts : Array (Nat × Operand)} {z vs cs : List Value} (ho : o.op = .buildSlice t len parts) (ht : sliceT P t = some (e, n)) (hz : zeroT P e = some (z, n)) (hfl : z.all flat1 = true) (hzn : z.length = n) (h0 : 0 < n)
    (hsm : len * n ≤ 16777216) (hv : evs fr (parts.toList.map (·.2)) = some vs) (hc : fillL (fun i => some (i * n, n)) (madeL z (len * n)) ((parts.toList.map (·.1)).zip vs) = some cs)
    (h : R (some (.slice (some ⟨H.next, 0, none⟩) len len)) (H.push (.row cs e true))) : CDo P o fr H R := .mk fun B w0 ρ a w hs hf next Q hn => by
  rw [ho] at hf
  obtain ⟨hu, inf, hinf, hsz⟩ := sliceT_run ht
  obtain ⟨i, zv, hi, hz0, rfl, hn'⟩ := zeroT_run hz
  rw [hinf] at hi
  cases hi
  have hrel := evs_rel (xs := parts.toList.map (·.2)) hf (fun x hx => by simp only [Op.operands]; simpa using hx) hv
  obtain ⟨ds, hfill, hdr⟩ := fill_rel (fun i => some (i * n, n)) (parts.toList.map (·.1)) hrel (madeL_rel (ρ := ρ) hfl (len * n) (.inr (by omega))) hc
  have hlen : ds.length = len * n := by
    have e1 : ∀ (l : List (Nat × Value)) (c ds : Array Value), Instr.fill (fun i => some (i * n, n)) c l = some ds → ds.size = c.size := by
      intro l
      induction l with
      | nil => intro c ds hh; simp only [Instr.fill, Option.some.injEq] at hh; rw [hh]
      | cons p l ih =>
        intro c ds hh
        unfold Instr.fill at hh
        simp only at hh
        split at hh
        · cases hh
        · have := ih _ _ hh
          rw [this]
          have e2 := setAll_eq p.2.cells.toList c (p.1 * n) 0
          have e3 : (p.2.cells.zipIdx.foldl (fun (cs : Array Value) (x : Value × Nat) => cs.setIfInBounds (p.1 * n + x.2) x.1) c) = (setAll c.toList (p.1 * n + 0) p.2.cells.toList).toArray := by
            rw [← e2, ← Array.foldl_toList, Array.toList_zipIdx]
          rw [e3]
          simp [length_setAll]
    have := e1 _ _ _ hfill
    simpa [length_madeL] using this
  obtain ⟨ρ', hext, hs', hsp⟩ := new_row hs (cs := cs) (C := ds.toArray) (e := e) (n := n) (by simp [hinf, hsz]) (by simp [hdr.1]) (LRel.prefix hdr)
  refine upon_value (c := .slice (some ⟨w.heap.size, 0, none⟩) len len) (w' := w.alloc (.cells ds.toArray e)) ?_ (hn ρ' _ _ _ _ h hext hs' fun y hy => ?_)
  · unfold execOp
    simp only [ho]
    refine v_run' ?_
    have hpl : (parts.map fun (i, x) => (i, a.eval x)).toList = (parts.toList.map (·.1)).zip ((parts.toList.map (·.2)).map a.eval) := by
      simp [List.zip_map', Function.comp_def]
    unfold Instr.buildSlice
    simp only [Sem.run_bind, run_underlying hu, Result.andThen_ok, sizeOf_run hinf, hsz]
    rw [if_neg (by omega)]
    have hmade : ∀ zz : Array Value, ((len * n = 0 ∧ zz = #[]) ∨ zz = zv.cells) → (Array.range (len * n)).map (zz[· % zz.size]!) = (madeL zv.cells.toList (len * n)).toArray := by
      intro zz hh
      rcases hh with ⟨h0', rfl⟩ | rfl
      · rw [h0']; simp [madeL]
      · exact madeL_eq _ _ (.inr (by simp at hzn; omega))
    by_cases hz' : len * n = 0
    · rw [if_pos hz']
      simp only [Sem.run_bind, Sem.run_pure, Result.andThen_ok]
      rw [hmade #[] (.inl ⟨hz', rfl⟩), hpl, hfill]
      simp only [Sem.run_bind, newRow_run, Result.andThen_ok, Sem.run_pure]
    · rw [if_neg hz']
      simp only [zeroValue, typeInfo, Sem.run_bind, program, Sem.run, hinf, hz0, Result.andThen_ok, Sem.run_pure]
      rw [hmade zv.cells (.inr rfl), hpl, hfill]
      simp only [Sem.run_bind, newRow_run, Result.andThen_ok, Sem.run_pure]
  · cases hy
    have := VRel.slice (ρ := ρ') (g := H.next) (o := 0) (n := len) (cap := len) (s := ⟨w.heap.size, 0, ds.toArray.size, n⟩) hsp (Nat.le_refl _) (by simp [hlen]) (by
      unfold maxLen
      have : len ≤ len * n := Nat.le_mul_of_pos_right _ h0
      omega)
    simpa using this

/-- make([]T, l, c). -/
theorem CDo.makeSlice {t e : TypeId} {x y : Operand} {k k' : IntKind} {l c n bytes : Nat} {z : List Value} (ho : o.op = .makeSlice t x y) (ht : sliceT P t = some (e, n)) (hz : zeroT P e = some (z, n)) (hb : (P.info? e).map (·.bytes) = some bytes)
    (hfl : z.all flat1 = true) (hzn : z.length = n) (h0 : 0 < n) (hx : ev fr x = some (.int k l)) (hy : ev fr y = some (.int k' c)) (hlc : l ≤ c) (hsm : bytes * c ≤ 281474976710656) (hsc : c ≤ 9223372036854775807)
    (h : R (some (.slice (some ⟨H.next, 0, none⟩) l l)) (H.push (.row (madeL z (l * n)) e true))) : CDo P o fr H R := .mk fun B w0 ρ a w hs hf next Q hn => by
  rw [ho] at hf
  obtain ⟨hu, inf, hinf, hsz⟩ := sliceT_run ht
  obtain ⟨i, zv, hi, hz0, rfl, hn'⟩ := zeroT_run hz
  rw [hinf] at hi
  cases hi
  have ex := (ev_rel hf (x := x) (by simp [Op.operands]) hx).int_inv
  have ey := (ev_rel hf (x := y) (by simp [Op.operands]) hy).int_inv
  have hbb : inf.bytes = bytes := by rw [hinf] at hb; simpa using hb
  have hzp : 0 < zv.cells.size := by simp at hzn; omega
  have hmk : madeCells zv.cells (c * n) = (madeL zv.cells.toList (c * n)).toArray := madeL_eq _ _ (.inr hzp)
  have hpre : ∀ (i : Nat) (v : Value), (madeL zv.cells.toList (l * n))[i]? = some v → ∃ u, (madeCells zv.cells (c * n))[i]? = some u ∧ VRel ρ v u := by
    intro i v hv
    have hil : i < l * n := by
      have := (List.getElem?_eq_some_iff.1 hv).1
      simpa [length_madeL] using this
    have hic : i < c * n := Nat.lt_of_lt_of_le hil (Nat.mul_le_mul_right _ hlc)
    refine ⟨v, ?_, (madeL_rel (ρ := ρ) hfl (l * n) (.inr (by omega))).2 i v v hv hv⟩
    rw [hmk]
    simp only [madeL, List.getElem?_toArray, List.getElem?_map, List.getElem?_range hil, List.getElem?_range hic] at hv ⊢
    exact hv
  obtain ⟨ρ', hext, hs', hsp⟩ := new_row hs (cs := madeL zv.cells.toList (l * n)) (C := madeCells zv.cells (c * n)) (e := e) (n := n) (by simp [hinf, hsz]) (by rw [length_madeL, size_madeCells]; exact Nat.mul_le_mul_right _ hlc) hpre
  have hrun := run_make (P := P) w t e inf zv hu hinf hz0 k k' (l : Int) (c : Int) (by omega) (by omega) (by rw [hbb]; omega) (by omega)
  simp only [Int.toNat_natCast, hsz] at hrun
  refine upon_value (c := .slice (some ⟨w.heap.size, 0, none⟩) l c) (w' := w.alloc (.cells (madeCells zv.cells (c * n)) e)) ?_ (hn ρ' _ _ _ _ h hext hs' fun y hy => ?_)
  · unfold execOp
    simp only [ho, ex, ey]
    exact v_run' hrun
  · cases hy
    have := VRel.slice (ρ := ρ') (g := H.next) (o := 0) (n := l) (cap := c) (s := ⟨w.heap.size, 0, (madeCells zv.cells (c * n)).size, n⟩) hsp hlc (by simp [size_madeCells]) (by unfold maxLen; omega)
    simpa using this

theorem oneCell_cells {v : Value} (h : v.oneCell' = true) : v.cells = #[v] := by
  cases v <;> first | rfl | cases h

/-- A store of one cell into a row of the call's own. -/
theorem CDo.store {t : TypeId} {x y : Operand} {g off : Nat} {v : Value} {cs : List Value} {e : TypeId} (ho : o.op = .store t x y) (ht : (P.info? t).map (·.size) = some 1) (hx : ev fr x = some (.pointer (some ⟨g, off, none⟩))) (hy : ev fr y = some v)
    (h1 : v.oneCell' = true) (hg : H.get g = some (.row cs e true)) (hoff : off < cs.length) (h : R none (H.set g (some (.row (cs.set off v) e true)))) : CDo P o fr H R := .mk fun B w0 ρ a w hs hf next Q hn => by
  rw [ho] at hf
  obtain ⟨sp, hsp, ex⟩ := (ev_rel hf (x := x) (by simp [Op.operands]) hx).ptr_inv
  have hr := ev_rel hf (x := y) (by simp [Op.operands]) hy
  obtain ⟨sp', C, fz, k1, k2, k3, k4, k5, k6, k7, k8⟩ := hs.live _ _ hg
  rw [hsp] at k1
  cases k1
  obtain ⟨hfz, hB⟩ := k6 rfl
  subst hfz
  have h1' : (a.eval y).oneCell' = true := by rw [hr.oneCell]; exact h1
  have hlt : sp.base + off < C.size := by omega
  have hcell : w.cell? ⟨sp.blk, sp.base + off, none⟩ = some C[sp.base + off] := by simp [World.cell?, k2, hlt]
  have hfro : w.frozen? ⟨sp.blk, sp.base + off, none⟩ = false := by simp [World.frozen?, k2]
  have hb : sp.blk < w.heap.size := (Array.getElem?_eq_some_iff.1 k2).1
  have hheap : (w.setCell ⟨sp.blk, sp.base + off, none⟩ (a.eval y)).heap[sp.blk]? = some (.cells (C.setIfInBounds (sp.base + off) (a.eval y)) e (0, 0)) := by
    simp [World.setCell, Array.getElem?_modify, k2]
  have hs' := hs.update hg hsp (w' := w.setCell ⟨sp.blk, sp.base + off, none⟩ (a.eval y)) (cs' := cs.set off v) hheap (by simp [k3]) (by simp; omega) (fun i u hu => by
    by_cases e1 : off = i
    · subst e1
      rw [List.getElem?_set_self hoff] at hu
      cases hu
      exact ⟨a.eval y, by simp [hlt], hr⟩
    · rw [List.getElem?_set_ne e1] at hu
      obtain ⟨c, h2, h3⟩ := k5 i u hu
      exact ⟨c, by rw [Array.getElem?_setIfInBounds_ne (by omega)]; exact h2, h3⟩) (fun k hk => Below.heap_setCell _ _ _ _ hk) (by simp [World.setCell]) rfl rfl rfl
  refine upon_skip (w' := w.setCell ⟨sp.blk, sp.base + off, none⟩ (a.eval y)) ?_ (hn ρ none undef _ _ h (.refl ρ) hs' fun y hy => by cases hy)
  unfold execOp
  simp only [ho, ex]
  refine u_run' ?_
  simp only [Option.map_eq_some_iff] at ht
  obtain ⟨inf, hinf, hsz⟩ := ht
  simp only [Instr.storeAt, Instr.sureAddr, storeVar, Sem.run_bind, Sem.run_pure, Result.andThen_ok, sizeOf_run hinf, hsz, oneCell_cells h1']
  simp only [List.size_toArray, List.length_cons, List.length_nil, Nat.zero_add, ne_eq, not_true_eq_false, if_false]
  simp only [storeCells, Sem.run_bind, Addr.add, if_true]
  rw [run_store P w _ _ _ h1', hcell]
  simp [hfro]

theorem setAll_get : ∀ (vs cs : List Value) (o i : Nat), o + vs.length ≤ cs.length → (setAll cs o vs)[i]? = if o ≤ i ∧ i < o + vs.length then vs[i - o]? else cs[i]?
  | [], cs, o, i, _ => by
    unfold setAll
    rw [if_neg (by simp only [List.length_nil]; omega)]
  | v :: vs, cs, o, i, h => by
    simp only [List.length_cons] at h
    unfold setAll
    rw [setAll_get vs (cs.set o v) (o + 1) i (by simp; omega)]
    by_cases h1 : o = i
    · subst h1
      rw [if_neg (by omega), if_pos (by simp)]
      rw [List.getElem?_set_self (by omega)]
      simp
    · by_cases h2 : o + 1 ≤ i ∧ i < o + 1 + vs.length
      · rw [if_pos h2, if_pos (by simp; omega)]
        rw [show i - o = (i - (o + 1)) + 1 by omega]
        simp
      · rw [if_neg h2, if_neg (by simp; omega)]
        rw [List.getElem?_set_ne h1]

/-- A store of a struct into a row of the call's own. -/
theorem CDo.storeN {t : TypeId} {x y : Operand} {g off n : Nat} {vs : Array Value} {cs : List Value} {e : TypeId} (ho : o.op = .store t x y) (ht : (P.info? t).map (·.size) = some n) (hx : ev fr x = some (.pointer (some ⟨g, off, none⟩))) (hy : ev fr y = some (.agg vs))
    (hn : vs.size = n) (h1 : vs.toList.all (·.oneCell') = true) (hg : H.get g = some (.row cs e true)) (hoff : off + n ≤ cs.length) (h : R none (H.set g (some (.row (setAll cs off vs.toList) e true)))) : CDo P o fr H R := .mk fun B w0 ρ a w hs hf next Q hnx => by
  rw [ho] at hf
  obtain ⟨sp, hsp, ex⟩ := (ev_rel hf (x := x) (by simp [Op.operands]) hx).ptr_inv
  obtain ⟨ds, hd, hr⟩ := (ev_rel hf (x := y) (by simp [Op.operands]) hy).agg_inv
  obtain ⟨sp', C, fz, k1, k2, k3, k4, k5, k6, k7, k8⟩ := hs.live _ _ hg
  rw [hsp] at k1
  cases k1
  obtain ⟨hfz, hB⟩ := k6 rfl
  subst hfz
  have hdl : ds.size = n := by have := hr.1; simp at this; omega
  have h1' : ∀ c ∈ ds.toList, c.oneCell' = true := by
    intro c hc
    obtain ⟨i, hi⟩ := List.getElem?_of_mem hc
    have hil : i < vs.toList.length := by rw [hr.1]; exact (List.getElem?_eq_some_iff.1 hi).1
    have hv : vs.toList[i]? = some vs.toList[i] := List.getElem?_eq_getElem hil
    rw [(hr.2 i _ _ hv hi).oneCell]
    exact List.all_eq_true.1 h1 _ (List.getElem_mem _)
  have hst := run_storeCells_at P sp.blk (sp.base + off) e ds.toList 0 C w k2 (by simp; omega) h1'
  simp only [Nat.add_zero] at hst
  have hb : sp.blk < w.heap.size := (Array.getElem?_eq_some_iff.1 k2).1
  have hget : ∀ i, ((C.toList.take (sp.base + off) ++ ds.toList ++ C.toList.drop (sp.base + off + ds.toList.length)).toArray)[i]? = if sp.base + off ≤ i ∧ i < sp.base + off + n then ds[i - (sp.base + off)]? else C[i]? := by
    intro i
    simp only [List.getElem?_toArray, List.append_assoc]
    rw [List.getElem?_append]
    have e1 : (C.toList.take (sp.base + off)).length = sp.base + off := by simp; omega
    rw [e1]
    by_cases hi : i < sp.base + off
    · rw [if_pos hi, if_neg (by omega), List.getElem?_take, if_pos hi]
      simp
    · rw [if_neg hi, List.getElem?_append]
      by_cases hi2 : i < sp.base + off + n
      · rw [if_pos (by simp [hdl]; omega), if_pos (by omega)]
        simp
      · rw [if_neg (by simp [hdl]; omega), if_neg (by omega)]
        simp only [List.getElem?_drop, Array.length_toList, hdl, Array.getElem?_toList]
        congr 1
        omega
  have hsize : ((C.toList.take (sp.base + off) ++ ds.toList ++ C.toList.drop (sp.base + off + ds.toList.length)).toArray).size = C.size := by
    simp [hdl]; omega
  have hs' := hs.update hg hsp (w' := w.setRow sp.blk (C.toList.take (sp.base + off) ++ ds.toList ++ C.toList.drop (sp.base + off + ds.toList.length)).toArray) (cs' := setAll cs off vs.toList)
    (setRow_heap w sp.blk C _ e (0, 0) k2) (by rw [hsize]; exact k3) (by rw [hsize, length_setAll]; exact k4) (fun i u hu => by
    rw [setAll_get _ _ _ _ (by simp; omega)] at hu
    rw [hget]
    by_cases h2 : off ≤ i ∧ i < off + vs.toList.length
    · rw [if_pos h2] at hu
      simp only [Array.length_toList, hn] at h2
      rw [if_pos (by omega), show sp.base + i - (sp.base + off) = i - off by omega]
      obtain ⟨c, h3, h4⟩ := hr.get hu
      exact ⟨c, by simpa using h3, h4⟩
    · rw [if_neg h2] at hu
      simp only [Array.length_toList, hn] at h2
      rw [if_neg (by omega)]
      exact k5 i u hu) (fun k hk => setRow_other w _ k _ hk) (by simp [World.setRow]) rfl rfl rfl
  refine upon_skip (w' := w.setRow sp.blk (C.toList.take (sp.base + off) ++ ds.toList ++ C.toList.drop (sp.base + off + ds.toList.length)).toArray) ?_ (hnx ρ none undef _ _ h (.refl ρ) hs' fun y hy => by cases hy)
  unfold execOp
  simp only [ho, ex, hd]
  refine u_run' ?_
  simp only [Option.map_eq_some_iff] at ht
  obtain ⟨inf, hinf, hsz⟩ := ht
  simp only [Instr.storeAt, Instr.sureAddr, storeVar, Sem.run_bind, Sem.run_pure, Result.andThen_ok, sizeOf_run hinf, hsz]
  rw [if_neg (by simp [Value.cells, hdl])]
  exact hst
end
end Go.GL
