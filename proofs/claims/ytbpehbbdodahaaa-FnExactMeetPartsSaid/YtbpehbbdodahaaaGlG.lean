/- Append, and calls of Go functions, over ghost heaps. No condition. -/
import Derived.Test.YtbpehbbdodahaaaGlF
namespace Go.GL
open Go.RowKit

/-- What is appended. -/
inductive SrcG (P : Program) (fr : Slots) (H : GHeap) (sz : Nat) (tx : TypeId) (x : Operand) : Nat → List Value → Prop
  | slice {e : TypeId} {k g o m : Nat} {news : List Value} (ht : sliceT P tx = some (e, k)) (h : ev fr x = some (.slice (some ⟨g, o, none⟩) m m)) (hl : news.length = m * sz)
      (hc : ∀ (i : Nat) (v : Value), news[i]? = some v → H.cell g (o + i) = some v) (h1 : ∀ v ∈ news, v.oneCell' = true) : SrcG P fr H sz tx x m news
  | nil {e : TypeId} {k : Nat} (ht : sliceT P tx = some (e, k)) (h : ev fr x = some (.slice none 0 0)) : SrcG P fr H sz tx x 0 []
  | empty {e : TypeId} {k : Nat} {b : Option Addr} (ht : sliceT P tx = some (e, k)) (h : ev fr x = some (.slice b 0 0)) : SrcG P fr H sz tx x 0 []
  | str {s : ByteArray} (ht : isStringT P tx = true) (hs : sz = 1) (h : ev fr x = some (.string s)) : SrcG P fr H sz tx x s.size (byteCells s)

section
variable {P : Program} {B : Nat} {w0 : World} {ρ : Place} {H : GHeap} {w : World} {fr : Slots} {a : Act}

theorem cells_run (hs : Sim P B w0 ρ H w) {g : Nat} {sp : Spot} (hsp : ρ g = some sp) : ∀ (vs : List Value) (off : Nat), (∀ (i : Nat) (v : Value), vs[i]? = some v → H.cell g (off + i) = some v) →
    ∃ cs : List Value, LRel ρ vs cs ∧ ∀ (j : Nat) (c : Value), cs[j]? = some c → w.cell? ⟨sp.blk, sp.base + off + j, none⟩ = some c
  | [], off, _ => ⟨[], .nil ρ, fun j c hj => by simp at hj⟩
  | v :: vs, off, hc => by
    obtain ⟨cs, h1, h2⟩ := cells_run hs hsp vs (off + 1) (fun i v hv => by rw [show off + 1 + i = off + (i + 1) by omega]; exact hc (i + 1) v (by simpa using hv))
    obtain ⟨c, hcell, hr⟩ := hs.cell hsp (hc 0 v rfl)
    refine ⟨c :: cs, .cons hr h1, fun j c' hj => ?_⟩
    cases j with
    | zero => simp at hj; subst hj; exact hcell
    | succ j => rw [show sp.base + off + (j + 1) = sp.base + (off + 1) + j by omega]; exact h2 j c' (by simpa using hj)

theorem LRel.one {ρ : Place} {vs cs : List Value} (h : LRel ρ vs cs) (h1 : ∀ v ∈ vs, v.oneCell' = true) : ∀ c ∈ cs, c.oneCell' = true := by
  intro c hc
  obtain ⟨i, hi⟩ := List.getElem?_of_mem hc
  have hil : i < vs.length := by rw [h.1]; exact (List.getElem?_eq_some_iff.1 hi).1
  have hv : vs[i]? = some vs[i] := List.getElem?_eq_getElem hil
  rw [(h.2 i _ _ hv hi).oneCell]
  exact h1 _ (List.getElem_mem _)

theorem byteCells_rel (ρ : Place) (s : ByteArray) : LRel ρ (byteCells s) (byteCells s) := ⟨rfl, fun i v c hv hc => by
  rw [hv] at hc
  cases hc
  obtain ⟨b, _, rfl⟩ := List.mem_map.1 (List.mem_of_getElem? hv)
  exact .int _ _⟩

theorem SrcG.sound {sz : Nat} {tx : TypeId} {x : Operand} {m : Nat} {news : List Value} (h : SrcG P fr H sz tx x m news) (hs : Sim P B w0 ρ H w) {L : Array Operand} (hx : x ∈ L)
    (hf : ∀ t v, Operand.tmp t ∈ L → fr.get t = some v → VRel ρ v (a.eval (.tmp t))) : ∃ cnews, Src P sz tx (a.eval x) m cnews w ∧ LRel ρ news cnews ∧ news.length = m * sz := by
  cases h with
  | slice ht he hl hc h1 =>
    rename_i e k g off
    obtain ⟨hu, _⟩ := sliceT_run ht
    obtain ⟨_, sp, hsp, hb⟩ := (ev_rel hf hx he).slice_inv
    rcases hb with ⟨cap, hb, _⟩ | ⟨hm, a', hb⟩
    · obtain ⟨cs, hr, hcs⟩ := cells_run hs hsp news off hc
      refine ⟨cs, ?_, hr, hl⟩
      rw [hb]
      exact Src.ofSlice w hu _ m cap cs (by rw [← hr.1, hl]) (fun j u hj => by rw [add_mk]; exact hcs j u hj) (hr.one h1)
    · subst hm
      have hn : news = [] := List.eq_nil_of_length_eq_zero (by simpa using hl)
      subst hn
      refine ⟨[], ?_, .nil ρ, hl⟩
      rw [hb]
      exact Src.ofSlice w hu _ 0 0 [] (by simp) (fun j u hj => by simp at hj) (fun u hu => by cases hu)
  | nil ht he =>
    obtain ⟨hu, _⟩ := sliceT_run ht
    obtain ⟨_, _, hb⟩ := (ev_rel hf hx he).nilSlice_inv
    refine ⟨[], ?_, .nil ρ, by simp⟩
    rw [hb]
    exact Src.ofNil w hu 0
  | empty ht he =>
    obtain ⟨hu, _⟩ := sliceT_run ht
    have hr := ev_rel hf hx he
    refine ⟨[], ?_, .nil ρ, by simp⟩
    generalize hc : a.eval x = c at hr
    cases hr with
    | nilSlice => exact Src.ofNil w hu 0
    | slice _ _ _ _ => exact Src.ofSlice w hu _ 0 _ [] (by simp) (fun j u hj => by simp at hj) (fun u hu => by cases hu)
    | empty _ => rename_i a' _; exact Src.ofSlice w hu _ 0 _ [] (by simp) (fun j u hj => by simp at hj) (fun u hu => by cases hu)
  | str ht hsz he =>
    rename_i s
    subst hsz
    refine ⟨byteCells s, ?_, byteCells_rel ρ s, by rw [byteCells_length, Nat.mul_one]⟩
    rw [(ev_rel hf hx he).string_inv]
    exact Src.ofString w (isStringT_run ht) s

theorem append_room {t tx ty e : TypeId} {i : TypeInfo} (ht : P.underlying t = some (.slice e)) (hi : P.info? e = some i) {b off sLen sCap : Nat} {x : Value} {n : Nat} {news : List Value} (hs : Src P i.size tx x n news w) (hroom : sLen + n ≤ sCap) {w' : World}
    (hst : (storeCells ⟨b, off + sLen * i.size, none⟩ news).run P w = .ok () w') :
    (Builtin.append_ #[t, tx] ty #[.slice (some ⟨b, off, none⟩) sLen sCap, x]).run P w = .ok (.slice (some ⟨b, off, none⟩) (sLen + n) sCap) w' := by
  rcases hs.kind with ⟨e', hk⟩ | hk <;> simp [Builtin.append_, run_underlying ht, run_underlying hk, sizeOf, typeInfo, hi, hs.len, hroom, hs.cells, Addr.add_lit, hst]

theorem append_upon {o : Oper} {t tx : TypeId} {s x : Operand} (ho : o.op = .call { callee := .builtin .append, args := #[s, x], argTypes := #[t, tx] }) {next : Act → World → Prop} {Q : Exit → Act → World → Prop} {v : Value} {w' : World}
    (hr : (Builtin.append_ #[t, tx] o.type #[a.eval s, a.eval x]).run P w = .ok v w') (hn : next (a.put o.dst v) w') : o.wp P a w next Q := by
  refine upon_value (c := v) (w' := w') ?_ hn
  unfold execOp
  simp only [ho, resolve, invoke, builtin, Sem.run_bind, Sem.run_pure, Result.andThen_ok, List.map_toArray, List.map_cons, List.map_nil, hr]
end

section
variable {P : Program} {H : GHeap} {fr : Slots} {o : Oper} {R : Option Value → GHeap → Prop}

theorem grow_row {B : Nat} {w0 w : World} {ρ : Place} (hs : Sim P B w0 ρ H w) {e : TypeId} {i : TypeInfo} {z : Value} (hi : P.info? e = some i) (hzs : z.cells.size = i.size) {vs cs : List Value} (hr : LRel ρ vs cs) {need old : Nat} (hl : vs.length = need * i.size) (hm : need ≤ maxLen) :
    ∃ ρ', Ext ρ ρ' ∧ Sim P B w0 ρ' (H.push (.row vs e true)) (w.drew.alloc (.cells (cs.toArray ++ Builtin.zeroCells z.cells (grownCap w need old e - need)) e)) ∧
      VRel ρ' (.slice (some ⟨H.next, 0, none⟩) need need) (.slice (some ⟨w.heap.size, 0, none⟩) need (grownCap w need old e)) := by
  have hge := grownCap_ge w need old e
  have hd : Sim P B w0 ρ H w.drew := hs.drew
  have hcl : cs.length = need * i.size := by rw [← hr.1, hl]
  obtain ⟨ρ', hext, hs', hsp⟩ := new_row hd (cs := vs) (C := cs.toArray ++ Builtin.zeroCells z.cells (grownCap w need old e - need)) (e := e) (n := i.size) (by simp [hi]) (by simp; have := hr.1; omega) (fun j v hv => by
    obtain ⟨c, h1, h2⟩ := hr.get hv
    refine ⟨c, ?_, h2⟩
    have hj : j < cs.length := (List.getElem?_eq_some_iff.1 h1).1
    rw [Array.getElem?_append_left (by simpa using hj)]
    simpa using h1)
  refine ⟨ρ', hext, hs', ?_⟩
  have hsz : (cs.toArray ++ Builtin.zeroCells z.cells (grownCap w need old e - need)).size = grownCap w need old e * i.size := by
    simp only [Array.size_append, List.size_toArray, size_zeroCells, hzs, hcl, ← Nat.add_mul]
    congr 1
    omega
  have := VRel.slice (ρ := ρ') (g := H.next) (o := 0) (n := need) (cap := grownCap w need old e) hsp hge (by simp only [hsz]; omega) (grownCap_le_maxLen w need old e hm)
  simpa using this

/-- append onto a row of the call's own, from its end on. The old number is let go. -/
theorem CDo.append {t tx e : TypeId} {s x : Operand} {g off n m sz bytes : Nat} {z cs news : List Value} (ho : o.op = .call { callee := .builtin .append, args := #[s, x], argTypes := #[t, tx] }) (ht : sliceT P t = some (e, sz)) (hz : zeroT P e = some (z, sz)) (hzn : z.length = sz)
    (hb : (P.info? e).map (·.bytes) = some bytes) (hsv : ev fr s = some (.slice (some ⟨g, off, none⟩) n n)) (hg : H.get g = some (.row cs e true)) (hend : off + n * sz = cs.length) (hsrc : SrcG P fr H sz tx x m news)
    (hN : n + m ≤ maxLen) (hB : (n + m) * bytes ≤ 140737488355328)
    (h : R (some (.slice (some ⟨H.next, 0, none⟩) (n + m) (n + m))) ((H.set g none).push (.row (cs.drop off ++ news) e true))) : CDo P o fr H R := .mk fun B w0 ρ a w hs hf next Q hn => by
  rw [ho] at hf
  obtain ⟨hu, inf, hinf, hsz⟩ := sliceT_run ht
  obtain ⟨i, zv, hi, hz0, rfl, hn'⟩ := zeroT_run hz
  rw [hinf] at hi
  cases hi
  have hbb : inf.bytes = bytes := by rw [hinf] at hb; simpa using hb
  subst hbb
  subst hsz
  obtain ⟨cnews, hsr, hnr, hnl⟩ := hsrc.sound hs (L := (Op.call { callee := .builtin .append, args := #[s, x], argTypes := #[t, tx] }).operands) (by simp [Op.operands, Call.operands]) hf
  obtain ⟨_, sp, hsp, hcase⟩ := (ev_rel hf (x := s) (by simp [Op.operands, Call.operands]) hsv).slice_inv
  obtain ⟨sp', C, fz, k1, k2, k3, k4, k5, k6, k7, k8⟩ := hs.live _ _ hg
  rw [hsp] at k1
  cases k1
  obtain ⟨hfz, hBb⟩ := k6 rfl
  subst hfz
  have hes : sp.esz = inf.size := by have k8 := k8 rfl; rw [hinf] at k8; simp at k8; omega
  have hlt := GHeap.lt_of_get hg
  have hN' : n + m ≤ 9223372036854775807 := by unfold maxLen at hN; omega
  have hdl : (cs.drop off).length = n * inf.size := by simp; omega
  have hzs : zv.cells.size = inf.size := by simpa using hzn
  -- the old cells, as the world bears them
  obtain ⟨olds, hor, hoc⟩ := cells_run hs hsp (cs.drop off) off (fun j v hv => by rw [GHeap.cell_of hg]; simpa using hv)
  have hol : olds.length = n * inf.size := by rw [← hor.1, hdl]
  -- no room: a new row
  have grow : ∀ (base : Option Addr) (sCap : Nat), sCap < n + m → (Builtin.firstCells inf.size n (.slice base n sCap)).run P w.drew = .ok olds.toArray w.drew → a.eval s = .slice base n sCap → o.wp P a w next Q := by
    intro base sCap hlt' hold hes'
    have hr := run_append_grow_src (P := P) w t tx o.type e inf zv hu hinf hz0 base n sCap olds hold (a.eval x) m cnews hsr hlt' (by omega) (growslice_fits hlt' hB)
    have hs0 : Sim P B w0 ρ (H.set g none) w := hs.fewer (by simp) (fun k y hk => by
      by_cases ek : k = g
      · subst ek; rw [GHeap.get_set_eq hlt] at hk; cases hk
      · rw [GHeap.get_set_ne (Ne.symm ek)] at hk; exact hk)
    obtain ⟨ρ', hext, hs', hv⟩ := grow_row hs0 hinf hzs (hor.append hnr) (need := n + m) (old := sCap) (by rw [List.length_append, hdl, hnl, ← Nat.add_mul]) hN
    refine append_upon ho (by rw [hes']; exact hr) (hn ρ' _ _ _ _ h hext hs' fun y hy => ?_)
    cases hy
    simpa using hv
  rcases hcase with ⟨cap, hes', hcap, hroom, hmx⟩ | ⟨hn0, a', hes'⟩
  · rw [hes] at hroom
    by_cases hfit : n + m ≤ cap
    · -- room: the cells are stored behind the old ones
      have hfit' : (n + m) * inf.size ≤ cap * inf.size := Nat.mul_le_mul_right _ hfit
      rw [Nat.add_mul] at hfit'
      have hcl : cnews.length = m * inf.size := by rw [← hnr.1, hnl]
      have hst := run_storeCells_at P sp.blk (sp.base + off + n * inf.size) e cnews 0 C w k2 (by rw [hcl, k3]; omega) (by
        intro c hc
        exact hsr.one c hc)
      simp only [Nat.add_zero] at hst
      have hr := append_room (P := P) (ty := o.type) hu hinf hsr hfit hst
      have hsize : ((C.toList.take (sp.base + off + n * inf.size) ++ cnews ++ C.toList.drop (sp.base + off + n * inf.size + cnews.length)).toArray).size = C.size := by
        simp [hcl]; omega
      obtain ⟨hs', hext⟩ := hs.onward hg hsp (w' := w.setRow sp.blk (C.toList.take (sp.base + off + n * inf.size) ++ cnews ++ C.toList.drop (sp.base + off + n * inf.size + cnews.length)).toArray) (cs' := cs.drop off ++ news) (off := off)
        (setRow_heap w sp.blk C _ e (0, 0) k2) (by rw [hsize]; exact k3) (by rw [hsize, List.length_append, hdl, hnl, k3]; omega) (fun j v hv => by
          rw [List.getElem?_append] at hv
          simp only [List.getElem?_toArray, List.append_assoc]
          rw [List.getElem?_append]
          have e1 : (C.toList.take (sp.base + off + n * inf.size)).length = sp.base + off + n * inf.size := by simp; omega
          rw [e1]
          by_cases hj : j < (cs.drop off).length
          · rw [if_pos hj] at hv
            rw [hdl] at hj
            rw [if_pos (by omega), List.getElem?_take, if_pos (by omega)]
            obtain ⟨c, h2, h3⟩ := k5 (off + j) v (by simpa using hv)
            exact ⟨c, by rw [← h2]; simp [Nat.add_assoc], h3⟩
          · rw [if_neg hj] at hv
            rw [hdl] at hj hv
            rw [if_neg (by omega)]
            obtain ⟨c, h2, h3⟩ := hnr.get hv
            have hjl := (List.getElem?_eq_some_iff.1 h2).1
            refine ⟨c, ?_, h3⟩
            rw [List.getElem?_append_left (by omega)]
            rw [← h2]
            congr 1
            omega) (fun k hk => setRow_other w _ k _ hk) (by simp [World.setRow]) rfl rfl rfl
      refine append_upon ho (by rw [hes']; exact hr) (hn _ _ _ _ _ h hext hs' fun y hy => ?_)
      cases hy
      have := VRel.slice (ρ := place ρ H.next ⟨sp.blk, sp.base + off, sp.csize, sp.esz⟩) (g := H.next) (o := 0) (n := n + m) (cap := cap) place_self hfit (by simp only [hes]; omega) hmx
      simpa using this
    · refine grow _ cap (by omega) ?_ hes'
      exact run_firstCells_some w.drew inf.size n _ n cap olds hol (fun j u hj => by rw [add_mk]; simpa using hoc j u hj)
  · subst hn0
    by_cases hm : m = 0
    · subst hm
      have hnn : news = [] := List.eq_nil_of_length_eq_zero (by simpa using hnl)
      have hcn : cnews = [] := List.eq_nil_of_length_eq_zero (by rw [← hnr.1, hnn]; rfl)
      subst hnn
      subst hcn
      have hdr : cs.drop off = [] := List.eq_nil_of_length_eq_zero (by rw [hdl]; simp)
      have hr : (Builtin.append_ #[t, tx] o.type #[.slice (some a') 0 0, a.eval x]).run P w = .ok (.slice (some a') 0 0) w := by
        rcases hsr.kind with ⟨e', hk⟩ | hk <;> simp [Builtin.append_, run_underlying hu, run_underlying hk, sizeOf, typeInfo, hinf, hsr.len, hsr.cells, storeCells]
      obtain ⟨hs', hext⟩ := hs.onward hg hsp (w' := w) (C' := C) (cs' := cs.drop off ++ []) (off := off) k2 k3 (by rw [hdr]; simp; simp at hend; omega) (fun j v hv => by rw [hdr] at hv; simp at hv) (fun _ _ => rfl) rfl rfl rfl rfl
      refine append_upon ho (by rw [hes']; exact hr) (hn _ _ _ _ _ h hext hs' fun y hy => ?_)
      cases hy
      exact .empty place_self
    · refine grow _ 0 (by omega) ?_ hes'
      have : olds = [] := List.eq_nil_of_length_eq_zero (by simpa using hol)
      subst this
      exact run_firstCells_some w.drew inf.size 0 _ 0 0 [] (by simp) (fun j u hj => by simp at hj)

/-- append onto nil. -/
theorem CDo.appendNil {t tx e : TypeId} {s x : Operand} {m sz bytes : Nat} {z news : List Value} (ho : o.op = .call { callee := .builtin .append, args := #[s, x], argTypes := #[t, tx] }) (ht : sliceT P t = some (e, sz)) (hz : zeroT P e = some (z, sz)) (hzn : z.length = sz)
    (hb : (P.info? e).map (·.bytes) = some bytes) (hsv : ev fr s = some (.slice none 0 0)) (hsrc : SrcG P fr H sz tx x m news) (hm : 0 < m) (hN : m ≤ maxLen) (hB : m * bytes ≤ 140737488355328)
    (h : R (some (.slice (some ⟨H.next, 0, none⟩) m m)) (H.push (.row news e true))) : CDo P o fr H R := .mk fun B w0 ρ a w hs hf next Q hn => by
  rw [ho] at hf
  obtain ⟨hu, inf, hinf, hsz⟩ := sliceT_run ht
  obtain ⟨i, zv, hi, hz0, rfl, hn'⟩ := zeroT_run hz
  rw [hinf] at hi
  cases hi
  have hbb : inf.bytes = bytes := by rw [hinf] at hb; simpa using hb
  subst hbb
  subst hsz
  obtain ⟨cnews, hsr, hnr, hnl⟩ := hsrc.sound hs (L := (Op.call { callee := .builtin .append, args := #[s, x], argTypes := #[t, tx] }).operands) (by simp [Op.operands, Call.operands]) hf
  obtain ⟨_, _, hes'⟩ := (ev_rel hf (x := s) (by simp [Op.operands, Call.operands]) hsv).nilSlice_inv
  have hzs : zv.cells.size = inf.size := by simpa using hzn
  have hN' : m ≤ 9223372036854775807 := by unfold maxLen at hN; omega
  have hr := run_append_grow_src (P := P) w t tx o.type e inf zv hu hinf hz0 none 0 0 [] (run_firstCells_none w.drew inf.size 0 0 0) (a.eval x) m cnews hsr (by omega) (by omega) (growslice_fits (by omega) (by rw [Nat.zero_add]; exact hB))
  obtain ⟨ρ', hext, hs', hv⟩ := grow_row hs hinf hzs hnr (need := m) (old := 0) hnl hN
  refine append_upon ho (by rw [hes']; exact hr) (hn ρ' _ _ _ _ h hext ?_ fun y hy => ?_)
  · simpa using hs'
  · cases hy
    simpa using hv

/-- append of nothing onto nil. -/
theorem CDo.appendNil0 {t tx e : TypeId} {s x : Operand} {sz : Nat} {news : List Value} (ho : o.op = .call { callee := .builtin .append, args := #[s, x], argTypes := #[t, tx] }) (ht : sliceT P t = some (e, sz)) (hsv : ev fr s = some (.slice none 0 0)) (hsrc : SrcG P fr H sz tx x 0 news)
    (h : R (some (.slice none 0 0)) H) : CDo P o fr H R := .mk fun B w0 ρ a w hs hf next Q hn => by
  rw [ho] at hf
  obtain ⟨hu, inf, hinf, hsz⟩ := sliceT_run ht
  subst hsz
  obtain ⟨cnews, hsr, hnr, hnl⟩ := hsrc.sound hs (L := (Op.call { callee := .builtin .append, args := #[s, x], argTypes := #[t, tx] }).operands) (by simp [Op.operands, Call.operands]) hf
  obtain ⟨_, _, hes'⟩ := (ev_rel hf (x := s) (by simp [Op.operands, Call.operands]) hsv).nilSlice_inv
  have hr : (Builtin.append_ #[t, tx] o.type #[.slice none 0 0, a.eval x]).run P w = .ok (.slice none 0 0) w := by
    rcases hsr.kind with ⟨e', hk⟩ | hk <;> simp [Builtin.append_, run_underlying hu, run_underlying hk, sizeOf, typeInfo, hinf, hsr.len, hsr.cells]
  exact append_upon ho (by rw [hes']; exact hr) (hn ρ _ _ _ _ h (.refl ρ) hs fun y hy => by cases hy; exact .nilSlice)

/-- A call of a Go function. -/
theorem CDo.call {f : FuncId} {args : Array Operand} {ts : Array TypeId} {vs : List Value} {Q : Value → GHeap → Prop} (ho : o.op = .call { callee := .value (.func f), args := args, argTypes := ts }) (hcall : ∀ (as : Array Value) (w : World), (callFunc f as).run P w = .ok (.enter f as) w)
    (hv : evs fr args.toList = some vs) (hc : GCalls P f vs H Q) (h : ∀ v H', Q v H' → R (some v) H') : CDo P o fr H R := .mk fun B w0 ρ a w hs hf next Qx hn => by
  rw [ho] at hf
  have hrel := evs_rel (xs := args.toList) hf (fun x hx => by simp only [Op.operands, Call.operands]; simp; exact .inr (by simpa using hx)) hv
  have hex : (execOp a.eval o).run P w = .ok (.enter f (args.map a.eval)) w := by
    unfold execOp
    simp only [ho, resolve, Act.eval, Deferred.ofValue, invoke, Sem.run_bind, Sem.run_pure, Result.andThen_ok, hcall, Array.empty_append, Array.append_empty]
  unfold Oper.wp
  rw [hex, Oper.upon_enter]
  have hc' := hc B w0 ρ (args.toList.map a.eval) w hs hrel
  rw [show (args.toList.map a.eval).toArray = args.map a.eval from Array.ext' (by simp)] at hc'
  refine hc'.mono fun e w' ⟨v, c, ρ', H', he, hQ, hx, hs', hv'⟩ => ?_
  subst he
  exact hn ρ' (some v) c H' w' (h v H' hQ) hx hs' (fun y hy => by cases hy; exact hv')

/-- The method that an interface value of type t brings: function f, over what lies in it. -/
def methodT (P : Program) (t : TypeId) (name : String) : Option FuncId :=
  match P.info? t with
  | none => none
  | some i => match i.methods.find? (·.name == name) with
    | none => none
    | some m => match m.path.toList, m.func with
      | [], some (f, false) => match P.underlying t with
        | some (.pointer _) | none => none
        | _ => some f
      | _, _ => none
theorem methodT_run {t : TypeId} {name : String} {f : FuncId} (h : methodT P t name = some f) (n : Nat) (v : Value) (w : World) : (method (n + 1) t v name).run P w = .ok (f, v) w := by
  unfold methodT at h
  split at h
  · cases h
  · rename_i i hi
    split at h
    · cases h
    · rename_i m hm
      split at h
      · rename_i g hp hfn
        cases hu : P.underlying t with
        | none => rw [hu] at h; cases h
        | some d =>
          rw [hu] at h
          unfold method
          cases d <;> first | (cases h; done) | (cases h; simp [typeInfo, program, Sem.run, hi, hm, hp, hfn, follow, receiverAt, run_underlying hu, Place.get])
      · cases h
/-- A call of a method through an interface value. -/
theorem CDo.callM {f : FuncId} {x : Operand} {name : String} {t : TypeId} {u : Value} {args : Array Operand} {ts : Array TypeId} {vs : List Value} {Q : Value → GHeap → Prop} (ho : o.op = .call { callee := .invoke x name, args := args, argTypes := ts })
    (hx : ev fr x = some (.iface t u)) (hm : methodT P t name = some f)
    (hcall : ∀ (as : Array Value) (w : World), (callFunc f as).run P w = .ok (.enter f as) w) (hv : evs fr args.toList = some vs) (hc : GCalls P f (u :: vs) H Q) (h : ∀ v H', Q v H' → R (some v) H') : CDo P o fr H R := .mk fun B w0 ρ a w hs hf next Qx hn => by
  rw [ho] at hf
  have hrel := evs_rel (xs := args.toList) hf (fun x hx => by simp only [Op.operands, Call.operands]; simp; exact .inr (by simpa using hx)) hv
  obtain ⟨d, hd, hdr⟩ := (ev_rel hf (x := x) (by simp [Op.operands, Call.operands]) hx).iface_inv
  have hex : (execOp a.eval o).run P w = .ok (.enter f (#[d] ++ args.map a.eval)) w := by
    unfold execOp
    have hmr := methodT_run (P := P) hm (P.types.size + Made.depth - 1) d w
    have hdep : P.types.size + Made.depth - 1 + 1 = P.types.size + Made.depth := by unfold Made.depth; omega
    rw [hdep] at hmr
    have h0 : (#[Value.iface t d] ++ Array.map a.eval args)[0]? = some (.iface t d) := by rw [Array.getElem?_append_left (by simp)]; rfl
    have hex0 : ((#[Value.iface t d] ++ Array.map a.eval args).extract 1 (#[Value.iface t d] ++ Array.map a.eval args).size) = Array.map a.eval args := by
      apply Array.ext'; simp; exact List.take_of_length_le (by simp)
    simp only [ho, resolve, hd, invoke, callMethod, Sem.run_bind, Sem.run_pure, Result.andThen_ok, h0, hex0]
    simp [program, Sem.run, hmr, hcall]
  unfold Oper.wp
  rw [hex, Oper.upon_enter]
  have hc' := hc B w0 ρ (d :: args.toList.map a.eval) w hs (.cons hdr hrel)
  rw [show (d :: args.toList.map a.eval).toArray = #[d] ++ args.map a.eval by apply Array.ext'; simp] at hc'
  refine hc'.mono fun e w' ⟨v, c, ρ', H', he, hQ, hx, hs', hv'⟩ => ?_
  subst he
  exact hn ρ' (some v) c H' w' (h v H' hQ) hx hs' (fun y hy => by cases hy; exact hv')

/-- A call of a function value. -/
theorem CDo.callV {f : FuncId} {x : Operand} {args : Array Operand} {ts : Array TypeId} {cap : Array Value} {vs : List Value} {Q : Value → GHeap → Prop} (ho : o.op = .call { callee := .value x, args := args, argTypes := ts }) (hx : ev fr x = some (.func (.func f) #[] cap))
    (hcall : ∀ (as : Array Value) (w : World), (callFunc f as).run P w = .ok (.enter f as) w) (hv : evs fr args.toList = some vs) (hc : GCalls P f (vs ++ cap.toList) H Q) (h : ∀ v H', Q v H' → R (some v) H') : CDo P o fr H R := .mk fun B w0 ρ a w hs hf next Qx hn => by
  rw [ho] at hf
  have hrel := evs_rel (xs := args.toList) hf (fun x hx => by simp only [Op.operands, Call.operands]; simp; exact .inr (by simpa using hx)) hv
  obtain ⟨_, ds, hd, hdr⟩ := (ev_rel hf (x := x) (by simp [Op.operands, Call.operands]) hx).func_inv
  have hex : (execOp a.eval o).run P w = .ok (.enter f (args.map a.eval ++ ds)) w := by
    unfold execOp
    simp only [ho, resolve, hd, Deferred.ofValue, invoke, Sem.run_bind, Sem.run_pure, Result.andThen_ok, hcall, Array.empty_append]
  unfold Oper.wp
  rw [hex, Oper.upon_enter]
  have hc' := hc B w0 ρ (args.toList.map a.eval ++ ds.toList) w hs (hrel.append hdr)
  rw [show (args.toList.map a.eval ++ ds.toList).toArray = args.map a.eval ++ ds by apply Array.ext'; simp] at hc'
  refine hc'.mono fun e w' ⟨v, c, ρ', H', he, hQ, hx, hs', hv'⟩ => ?_
  subst he
  exact hn ρ' (some v) c H' w' (h v H' hQ) hx hs' (fun y hy => by cases hy; exact hv')
end
end Go.GL
