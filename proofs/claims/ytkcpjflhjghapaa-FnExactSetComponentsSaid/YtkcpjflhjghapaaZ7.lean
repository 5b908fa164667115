/- Maps from numbers to numbers, and lists appended to lists, as steps over ghost heaps. No condition. -/
import Derived.Test.YtkcpjflhjghapaaZ6
import Derived.MapKept
namespace Go.GL
open Go.RowKit
/-- A list appended whole. -/
theorem CDo.appendL {P : Program} {H : GHeap} {fr : Slots} {o : Oper} {t tx e e' : TypeId} {s x : Operand} {g n bytes : Nat} {a : Option Addr} {z : List Value} {ys xs : List Int} (ho : o.op = .call { callee := .builtin .append, args := #[s, x], argTypes := #[t, tx] }) (ht : sliceT P t = some (e, 1)) (hz : zeroT P e = some (z, 1)) (hzn : z.length = 1)
    (hb : (P.info? e).map (·.bytes) = some bytes) (htx : sliceT P tx = some (e', 1)) (hsv : ev fr s = some (.slice (some ⟨g, 0, none⟩) n n)) (hx : ev fr x = some (.slice a xs.length xs.length)) (hg : H.get g = some (.row (ints ys) e true)) (hxs : Ints H a xs) (hend : n = ys.length)
    (hN : n + xs.length ≤ 16777216) (hB : (n + xs.length) * bytes ≤ 140737488355328) :
    CDo P o fr H (fun r H' => ∃ g', r = some (.slice (some ⟨g', 0, none⟩) (n + xs.length) (n + xs.length)) ∧ St [g] H H' ∧ H.next ≤ g' ∧ H'.get g' = some (.row (ints (ys ++ xs)) e true)) := by
  have e1 : ints (ys ++ xs) = (ints ys).drop 0 ++ ints xs := by simp [ints]
  rw [e1]
  refine .appendR (off := 0) (cs := ints ys) (news := ints xs) ho ht hz hzn hb hsv hg (by simp; omega) ?_ hN hB
  rcases hxs with h0 | ⟨g', off, rfl, hc⟩
  · obtain rfl : xs = [] := List.eq_nil_of_length_eq_zero h0
    exact .empty htx hx
  · exact .slice htx hx (by simp) (fun i v hv => by
      have hi : i < xs.length := by have := (List.getElem?_eq_some_iff.1 hv).1; simpa using this
      rw [ints_get hi] at hv
      cases hv
      exact hc i hi) (fun v hv => by
      simp only [ints, List.mem_map] at hv
      obtain ⟨m, _, rfl⟩ := hv
      rfl)

/-- Entries of a map from numbers to numbers. -/
def imap (es : List (Int × Int)) : List (Value × Value) := es.map fun e => (.int .i64 e.1, .int .i64 e.2)
def lookE (es : List (Int × Int)) (k : Int) : Option Int := (es.find? fun e => e.1 == k).map (·.2)
def mapIT (P : Program) (t : TypeId) : Option TypeId :=
  match P.underlying t with
  | some (.map k e) => match P.underlying k with
    | some (.int _) => some e
    | _ => none
  | _ => none
theorem mapIT_run {P : Program} {t e : TypeId} (h : mapIT P t = some e) : ∃ k q, P.underlying t = some (.map k e) ∧ P.underlying k = some (.int q) := by
  unfold mapIT at h
  split at h
  · rename_i k e' hu
    split at h
    · rename_i q hk
      cases h
      exact ⟨k, q, hu, hk⟩
    · cases h
  · cases h
def zvT (P : Program) (e : TypeId) : Option Value := (P.info? e).bind (·.zero)
/-- The model's entries stand for these. -/
def MRel (E : Array MapEntry) (es : List (Int × Int)) : Prop := es.length = E.size ∧ ∀ (i : Nat) (e : Int × Int), es[i]? = some e → ∃ c : MapEntry, E[i]? = some c ∧ c.key = .int .i64 e.1 ∧ c.val = .int .i64 e.2
theorem findNow_rel {q : IntKind} {k : Int} : ∀ {E : List MapEntry} {es : List (Int × Int)} (_ : es.length = E.length) (_ : ∀ (i : Nat) (e : Int × Int), es[i]? = some e → ∃ c : MapEntry, E[i]? = some c ∧ c.key = .int .i64 e.1 ∧ c.val = .int .i64 e.2) (n : Nat),
    (∃ i v, lookE es k = some v ∧ Instr.findNow (.int q) (.int .i64 k) E n = some (some (i, .int .i64 v))) ∨ (lookE es k = none ∧ Instr.findNow (.int q) (.int .i64 k) E n = some none)
  | [], [], _, _, n => .inr ⟨rfl, by unfold Instr.findNow; rfl⟩
  | [], _ :: _, hl, _, _ => by simp at hl
  | _ :: _, [], hl, _, _ => by simp at hl
  | c :: E, e :: es, hl, h, n => by
    obtain ⟨c', h1, h2, h3⟩ := h 0 e rfl
    simp only [List.getElem?_cons_zero, Option.some.injEq] at h1
    subst h1
    have ih := findNow_rel (q := q) (k := k) (E := E) (es := es) (by simpa using hl) (fun i e' he => by simpa using h (i + 1) e' (by simpa using he)) (n + 1)
    unfold Instr.findNow
    rw [h2]
    simp only [Instr.sameNow, if_true]
    by_cases hk : k = e.1
    · have hb : (k == e.1) = true := by simpa using hk
      rw [hb]
      exact .inl ⟨n, e.2, by unfold lookE; rw [List.find?_cons_of_pos (by simp [hk])]; rfl, by rw [h3]⟩
    · have hb : (k == e.1) = false := by simpa using hk
      rw [hb]
      have hl' : lookE (e :: es) k = lookE es k := by unfold lookE; rw [List.find?_cons_of_neg (by simpa using fun h => hk h.symm)]
      rw [hl']
      exact ih
section
variable {P : Program} {B : Nat} {w0 : World} {ρ : Place} {H : GHeap} {w : World} {fr : Slots} {o : Oper} {R : Option Value → GHeap → Prop}
theorem Sim.newMap (hs : Sim P B w0 ρ H w) : Sim P B w0 (place ρ H.next ⟨w.heap.size, 0, 0, 0⟩) (H.push (.map [])) (w.alloc (.map #[] 0)) ∧ Ext ρ (place ρ H.next ⟨w.heap.size, 0, 0, 0⟩) := by
  have hext : Ext ρ (place ρ H.next ⟨w.heap.size, 0, 0, 0⟩) := place_ext (hs.dom _ (Nat.le_refl _))
  refine ⟨⟨fun g hg => ?_, fun g o hg => ?_, fun g g' o o' s s' h1 h2 h3 h4 h5 h6 h7 => ?_, by have := hs.base; simp; omega, hs.below.alloc hs.base _⟩, hext⟩
  · rw [GHeap.next_push] at hg
    simp only [place]
    rw [if_neg (by omega)]
    exact hs.dom g (by omega)
  · rcases Nat.lt_or_ge g H.next with hlt | hge
    · rw [GHeap.get_push_lt hlt] at hg
      exact (hs.live g o hg).keep hext fun s hsp => by
        have hb : s.blk < w.heap.size := by
          cases o with
          | row => obtain ⟨s', C', fz, h1, h2, _⟩ := hs.live g _ hg; rw [hsp] at h1; cases h1; exact (Array.getElem?_eq_some_iff.1 h2).1
          | map => obtain ⟨s', C', fz, h1, h2, _⟩ := hs.live g _ hg; rw [hsp] at h1; cases h1; exact (Array.getElem?_eq_some_iff.1 h2).1
        exact heap_alloc_old w _ hb
    · have hg' : g = H.next := by
        have := GHeap.lt_of_get hg
        simp at this
        omega
      subst hg'
      rw [GHeap.get_push_new] at hg
      cases hg
      exact ⟨_, #[], 0, place_self, heap_alloc_new w _, hs.base, rfl, fun i k v hv => by simp at hv⟩
  · have old : ∀ {k : Nat} {x : GObj} {t : Spot}, (H.push (.map [])).get k = some x → x.isOwn = true → place ρ H.next ⟨w.heap.size, 0, 0, 0⟩ k = some t → k ≠ H.next → ρ k = some t ∧ H.get k = some x ∧ t.blk < w.heap.size := by
      intro k x t hx ho ht hne
      have hlt : k < H.next := by have := GHeap.lt_of_get hx; simp at this; omega
      rw [GHeap.get_push_lt hlt] at hx
      simp only [place, hne, if_false] at ht
      obtain ⟨s0, e0, _, e2⟩ := (hs.live k x hx).own ho
      rw [ht] at e0; cases e0
      exact ⟨ht, hx, e2⟩
    by_cases e1 : g = H.next
    · subst e1
      obtain ⟨_, _, hlt⟩ := old h2 h4 h7 (Ne.symm h5)
      rw [place_self] at h6
      cases h6
      simp only
      omega
    · obtain ⟨r1, r2, r3⟩ := old h1 h3 h6 e1
      by_cases e2 : g' = H.next
      · subst e2
        rw [place_self] at h7
        cases h7
        simp only
        omega
      · obtain ⟨t1, t2, t3⟩ := old h2 h4 h7 e2
        exact hs.apart g g' o o' s s' r2 t2 h3 h4 h5 r1 t1
/-- A map is written: the world has turned at its block alone. -/
theorem Sim.mapTurn (hs : Sim P B w0 ρ H w) {g : Nat} {es es' : List (Value × Value)} (hg : H.get g = some (.map es)) {s : Spot} (hsp : ρ g = some s) {w' : World} {E : Array MapEntry} {clock : Nat}
    (hw : w'.heap[s.blk]? = some (.map E clock)) (hl : es'.length = E.size) (hc : ∀ (i : Nat) (k v : Value), es'[i]? = some (k, v) → ∃ e : MapEntry, E[i]? = some e ∧ VRel ρ k e.key ∧ VRel ρ v e.val)
    (hother : ∀ k, k ≠ s.blk → w'.heap[k]? = w.heap[k]?) (hsize : w'.heap.size = w.heap.size) (hos : w'.os = w.os) (htape : w'.tape = w.tape) (hout : w'.output = w.output) :
    Sim P B w0 ρ (H.set g (some (.map es'))) w' := by
  have hlt := GHeap.lt_of_get hg
  obtain ⟨s0, E0, c0, k1, k2, hB, _⟩ := hs.live _ _ hg
  rw [hsp] at k1
  cases k1
  refine ⟨fun k hk => hs.dom k (by simpa using hk), fun k o hk => ?_, fun k k' o o' t t' h1 h2 h3 h4 h5 h6 h7 => ?_, by rw [hsize]; exact hs.base, ?_⟩
  · by_cases ek : k = g
    · subst ek
      rw [GHeap.get_set_eq hlt] at hk
      cases hk
      exact ⟨s, E, clock, hsp, hw, hB, hl, hc⟩
    · rw [GHeap.get_set_ne (Ne.symm ek)] at hk
      refine (hs.live k o hk).keep (.refl ρ) fun t ht => hother _ ?_
      cases ho : o.isOwn with
      | true => exact hs.apart k g o _ t s hk hg ho rfl ek ht hsp
      | false =>
        cases o with
        | row cells el own =>
          obtain ⟨s', _, _, e1, _, _, _, _, _, e7, _⟩ := hs.live _ _ hk
          rw [ht] at e1; cases e1
          have := e7 ho
          omega
        | map es => cases ho
  · have back : ∀ {k : Nat} {x : GObj}, (H.set g (some (.map es'))).get k = some x → x.isOwn = true → ∃ y, H.get k = some y ∧ y.isOwn = true := by
      intro k x hx ho
      by_cases ek : k = g
      · subst ek; exact ⟨_, hg, rfl⟩
      · rw [GHeap.get_set_ne (Ne.symm ek)] at hx; exact ⟨x, hx, ho⟩
    obtain ⟨y, y1, y2⟩ := back h1 h3
    obtain ⟨z, z1, z2⟩ := back h2 h4
    exact hs.apart k k' y z t t' y1 z1 y2 z2 h5 h6 h7
  · refine hs.below.trans ⟨hos, htape, hout, by omega, fun k hk => hother k (by omega)⟩
theorem VRel.map_inv {ρ : Place} {g : Nat} {c : Value} (h : VRel ρ (.map (some g)) c) : ∃ s, ρ g = some s ∧ c = .map (some s.blk) := by
  cases h with
  | map h => exact ⟨_, h, rfl⟩
theorem Sim.mrel (hs : Sim P B w0 ρ H w) {g : Nat} {es : List (Int × Int)} (hg : H.get g = some (.map (imap es))) {s : Spot} (hsp : ρ g = some s) : ∃ (E : Array MapEntry) (clock : Nat), w.heap[s.blk]? = some (.map E clock) ∧ MRel E es := by
  obtain ⟨s0, E, c0, k1, k2, _, k4, k5⟩ := hs.live _ _ hg
  rw [hsp] at k1
  cases k1
  refine ⟨E, c0, k2, by simpa [imap] using k4, fun i e he => ?_⟩
  obtain ⟨c, h1, h2, h3⟩ := k5 i (.int .i64 e.1) (.int .i64 e.2) (by simp [imap, he])
  exact ⟨c, h1, h2.int_inv, h3.int_inv⟩
theorem CDo.makeMapR {t : TypeId} (ho : o.op = .makeMap t none) :
    CDo P o fr H (fun r H' => ∃ g, r = some (.map (some g)) ∧ H.Le H' ∧ H.next ≤ g ∧ H'.get g = some (.map [])) := .mk fun B w0 ρ a w hs hf next Q hn => by
  obtain ⟨hs', hext⟩ := hs.newMap
  refine upon_value (c := .map (some w.heap.size)) (w' := w.alloc (.map #[] 0)) ?_ (hn _ (some (.map (some H.next))) _ _ _ ⟨H.next, rfl, GHeap.le_push _ _, Nat.le_refl _, GHeap.get_push_new _ _⟩ hext hs' fun y hy => ?_)
  · unfold execOp
    simp only [ho]
    refine v_run' ?_
    simp [Instr.makeMap, newObj, Sem.run]
  · cases hy
    exact .map (s := ⟨w.heap.size, 0, 0, 0⟩) place_self
theorem checkKey_int {k : TypeId} {q : IntKind} {b : Bool} {v : Value} (hk : P.underlying k = some (.int q)) (w : World) : (Instr.checkKey b 10000 k v).run P w = .ok () w := by
  show (Instr.checkKey b (9999 + 1) k v).run P w = .ok () w
  unfold Instr.checkKey
  simp [Sem.run_bind, run_underlying hk]
theorem findKey_now {k : TypeId} {q : IntKind} {v : Value} {E : List MapEntry} {r : Option (Nat × Value)} (hk : P.underlying k = some (.int q)) (h : Instr.findNow (.int q) v E 0 = some r) (w : World) : (Instr.findKey k v E).run P w = .ok r w := by
  unfold Instr.findKey
  simp only [Sem.run_bind, run_underlying hk, Result.andThen_ok, h, Sem.run_pure]
theorem CDo.lookupR {t e : TypeId} {m k : Operand} {g : Nat} {es : List (Int × Int)} {j : Int} (ho : o.op = .lookup t m k true) (ht : mapIT P t = some e) (hz : zvT P e = some (.int .i64 0)) (hm : ev fr m = some (.map (some g))) (hk : ev fr k = some (.int .i64 j)) (hg : H.get g = some (.map (imap es)))
    (h : R (some (.tuple #[.int .i64 ((lookE es j).getD 0), .bool (lookE es j).isSome])) H) : CDo P o fr H R := .mk fun B w0 ρ a w hs hf next Q hn => by
  rw [ho] at hf
  obtain ⟨s, hsp, em⟩ := (ev_rel hf (x := m) (by simp [Op.operands]) hm).map_inv
  have ek := (ev_rel hf (x := k) (by simp [Op.operands]) hk).int_inv
  obtain ⟨kt, q, hu, hkt⟩ := mapIT_run ht
  obtain ⟨E, clock, hE, hr⟩ := hs.mrel hg hsp
  refine upon_value (c := .tuple #[.int .i64 ((lookE es j).getD 0), .bool (lookE es j).isSome]) (w' := w) ?_ (hn ρ _ _ _ _ h (.refl ρ) hs fun y hy => ?_)
  · unfold execOp
    simp only [ho, em, ek]
    refine v_run' ?_
    have hz' : (zeroValue e).run P w = .ok (.int .i64 0) w := by
      unfold zvT at hz
      simp only [Option.bind_eq_some_iff] at hz
      obtain ⟨i, hi, hz0⟩ := hz
      simp [zeroValue, typeInfo, Sem.run_bind, program, Sem.run, hi, hz0]
    rcases findNow_rel (q := q) (k := j) (E := E.toList) (es := es) (by simpa using hr.1) (fun i e he => by simpa using hr.2 i e he) 0 with ⟨i, v, h1, h2⟩ | ⟨h1, h2⟩
    · simp [Instr.lookup, run_underlying hu, MapKept.run_getObj_map hE, checkKey_int hkt, findKey_now hkt h2, h1, Result.andThen]
    · simp [Instr.lookup, run_underlying hu, MapKept.run_getObj_map hE, checkKey_int hkt, findKey_now hkt h2, h1, hz', Result.andThen]
  · cases hy
    exact .flat rfl
/-- A key that is not there yet. -/
theorem CDo.mapPutR {t e : TypeId} {m k x : Operand} {g : Nat} {es : List (Int × Int)} {j v : Int} (ho : o.op = .mapUpdate t m k x) (ht : mapIT P t = some e) (hm : ev fr m = some (.map (some g))) (hk : ev fr k = some (.int .i64 j)) (hx : ev fr x = some (.int .i64 v)) (hg : H.get g = some (.map (imap es)))
    (hno : lookE es j = none) : CDo P o fr H (fun r H' => r = none ∧ St [g] H H' ∧ H'.get g = some (.map (imap (es ++ [(j, v)])))) := .mk fun B w0 ρ a w hs hf next Q hn => by
  rw [ho] at hf
  obtain ⟨s, hsp, em⟩ := (ev_rel hf (x := m) (by simp [Op.operands]) hm).map_inv
  have ek := (ev_rel hf (x := k) (by simp [Op.operands]) hk).int_inv
  have ex := (ev_rel hf (x := x) (by simp [Op.operands]) hx).int_inv
  obtain ⟨kt, q, hu, hkt⟩ := mapIT_run ht
  obtain ⟨E, clock, hE, hr⟩ := hs.mrel hg hsp
  have hlt := (Array.getElem?_eq_some_iff.1 hE).1
  have hs' := hs.mapTurn hg hsp (w' := { w with heap := w.heap.setIfInBounds s.blk (.map (E.push { key := .int .i64 j, val := .int .i64 v, born := clock }) (clock + 1)) }) (es' := imap (es ++ [(j, v)])) (E := E.push { key := .int .i64 j, val := .int .i64 v, born := clock }) (clock := clock + 1)
    (by simp [hlt]) (by simp [imap, hr.1]) (fun i k' v' hi => by
      simp only [imap, List.map_append, List.map_cons, List.map_nil] at hi
      by_cases hil : i < es.length
      · rw [List.getElem?_append_left (by simpa using hil)] at hi
        simp only [List.getElem?_map, Option.map_eq_some_iff] at hi
        obtain ⟨e1, he1, heq⟩ := hi
        cases heq
        obtain ⟨c, c1, c2, c3⟩ := hr.2 i e1 he1
        exact ⟨c, by rw [Array.getElem?_push]; rw [if_neg (by have := hr.1; omega)]; exact c1, by rw [c2]; exact .int _ _, by rw [c3]; exact .int _ _⟩
      · rw [List.getElem?_append_right (by simpa using Nat.le_of_not_lt hil)] at hi
        simp only [List.length_map] at hi
        have hi0 : i - es.length = 0 := by
          cases hd : i - es.length with
          | zero => rfl
          | succ d => rw [hd] at hi; simp at hi
        rw [hi0] at hi
        simp only [List.getElem?_cons_zero, Option.some.injEq, Prod.mk.injEq] at hi
        obtain ⟨rfl, rfl⟩ := hi
        exact ⟨_, by rw [Array.getElem?_push, if_pos (by have := hr.1; omega)], .int _ _, .int _ _⟩)
    (fun k' hk' => by simp [Array.getElem?_setIfInBounds_ne (Ne.symm hk')]) (by simp) rfl rfl rfl
  refine upon_skip (w' := { w with heap := w.heap.setIfInBounds s.blk (.map (E.push { key := .int .i64 j, val := .int .i64 v, born := clock }) (clock + 1)) }) ?_ (hn ρ none undef _ _ ⟨rfl, .of_set, GHeap.get_set_eq (GHeap.lt_of_get hg)⟩ (.refl ρ) hs' fun y hy => by cases hy)
  unfold execOp
  simp only [ho, em, ek, ex]
  refine u_run' ?_
  rcases findNow_rel (q := q) (k := j) (E := E.toList) (es := es) (by simpa using hr.1) (fun i e he => by simpa using hr.2 i e he) 0 with ⟨i, u, h1, h2⟩ | ⟨h1, h2⟩
  · rw [hno] at h1; cases h1
  · simp [Instr.mapUpdate, run_underlying hu, MapKept.run_getObj_map hE, MapKept.run_setObj_map _ hE, checkKey_int hkt, findKey_now hkt h2, Result.andThen]
theorem CDo.lenMap {t e : TypeId} {m : Operand} {g : Nat} {es : List (Int × Int)} (ho : o.op = .call { callee := .builtin .len, args := #[m], argTypes := #[t] }) (ht : mapIT P t = some e) (hm : ev fr m = some (.map (some g))) (hg : H.get g = some (.map (imap es)))
    (h : R (some (.int .i64 (es.length : Int))) H) : CDo P o fr H R := .mk fun B w0 ρ a w hs hf next Q hn => by
  rw [ho] at hf
  obtain ⟨s, hsp, em⟩ := (ev_rel hf (x := m) (by simp [Op.operands, Call.operands]) hm).map_inv
  obtain ⟨kt, q, hu, hkt⟩ := mapIT_run ht
  obtain ⟨E, clock, hE, hr⟩ := hs.mrel hg hsp
  have hrun : (Builtin.len_ #[t] o.type #[.map (some s.blk)]).run P w = .ok (.int .i64 (es.length : Int)) w := by
    simp [Builtin.len_, Sem.run_bind, run_underlying hu, MapKept.run_getObj_map hE, hr.1, goInt, Result.andThen]
  refine upon_value (c := .int .i64 (es.length : Int)) (w' := w) ?_ (hn ρ _ _ _ _ h (.refl ρ) hs fun y hy => ?_)
  · unfold execOp
    simp only [ho, resolve, invoke, builtin, Sem.run_bind, Sem.run_pure, Result.andThen_ok, List.map_toArray, List.map_cons, List.map_nil, em, hrun]
  · cases hy
    exact .int _ _
end
theorem imap_nil : imap [] = [] := rfl
theorem lookE_snoc {es : List (Int × Int)} {k v j : Int} : lookE (es ++ [(k, v)]) j = (lookE es j).or (if k = j then some v else none) := by
  unfold lookE
  rw [List.find?_append]
  cases es.find? (fun e => e.1 == j) with
  | some e => rfl
  | none =>
    by_cases h : k = j
    · simp [h]
    · simp [h]
end Go.GL
/- Partitions: classes numbered by their least elements, and the finest partition that joins pairs. No condition. -/
namespace Go.GL
/-- The least mate of i. -/
def least (K : Nat → Nat → Bool) (i : Nat) : Nat := ((List.range i).find? fun j => K j i).getD i
/-- How many of the numbers below m are the least of their classes. -/
def reps (K : Nat → Nat → Bool) (m : Nat) : Nat := ((List.range m).filter fun j => least K j == j).length
def clsAt (K : Nat → Nat → Bool) (i : Nat) : Int := (reps K (least K i) : Int)
def clsL (K : Nat → Nat → Bool) (n : Nat) : List Int := (List.range n).map (clsAt K)
@[simp] theorem length_clsL (K : Nat → Nat → Bool) (n : Nat) : (clsL K n).length = n := by simp [clsL]
theorem clsL_get {K : Nat → Nat → Bool} {n i : Nat} (h : i < n) : (clsL K n).getD i 0 = clsAt K i := by simp [clsL, List.getD_eq_getElem?_getD, h]
theorem clsL_succ (K : Nat → Nat → Bool) (n : Nat) : clsL K (n + 1) = clsL K n ++ [clsAt K n] := by simp [clsL, List.range_succ]
/-- It is an equivalence below n. -/
structure Eqv (K : Nat → Nat → Bool) (n : Nat) : Prop where
  rf : ∀ a, a < n → K a a = true
  sy : ∀ a b, a < n → b < n → K a b = true → K b a = true
  tr : ∀ a b c, a < n → b < n → c < n → K a b = true → K b c = true → K a c = true
theorem find_range {p : Nat → Bool} {i : Nat} : (∃ j, (List.range i).find? p = some j ∧ j < i ∧ p j = true ∧ ∀ k, k < j → p k = false) ∨ ((List.range i).find? p = none ∧ ∀ k, k < i → p k = false) := by
  cases h : (List.range i).find? p with
  | none =>
    rw [List.find?_range_eq_none] at h
    exact .inr ⟨rfl, fun k hk => by simpa using h k hk⟩
  | some j =>
    rw [List.find?_range_eq_some] at h
    exact .inl ⟨j, rfl, List.mem_range.1 h.2.1, h.1, fun k hk => by simpa using h.2.2 k hk⟩
theorem least_le (K : Nat → Nat → Bool) (i : Nat) : least K i ≤ i := by
  unfold least
  rcases find_range (p := fun j => K j i) (i := i) with ⟨j, h, hl, _⟩ | ⟨h, _⟩
  · rw [h]; exact Nat.le_of_lt hl
  · rw [h]; exact Nat.le_refl _
theorem least_mate {K : Nat → Nat → Bool} {n i : Nat} (e : Eqv K n) (h : i < n) : K (least K i) i = true ∧ ∀ j, j < least K i → K j i = false := by
  unfold least
  rcases find_range (p := fun j => K j i) (i := i) with ⟨j, hj, hl, hp, hb⟩ | ⟨hj, hb⟩
  · rw [hj]; exact ⟨hp, hb⟩
  · rw [hj]; exact ⟨e.rf i h, hb⟩
theorem least_eq {K : Nat → Nat → Bool} {n i j : Nat} (e : Eqv K n) (hi : i < n) (hk : K j i = true) (hm : ∀ k, k < j → K k i = false) : least K i = j := by
  obtain ⟨h1, h2⟩ := least_mate e hi
  rcases Nat.lt_trichotomy (least K i) j with h | h | h
  · rw [hm _ h] at h1; cases h1
  · exact h
  · rw [h2 _ h] at hk; cases hk
theorem least_congr_mate {K : Nat → Nat → Bool} {n i j : Nat} (e : Eqv K n) (hi : i < n) (hj : j < n) : least K i = least K j ↔ K i j = true := by
  obtain ⟨h1, h2⟩ := least_mate e hi
  obtain ⟨k1, k2⟩ := least_mate e hj
  have li := least_le K i
  have lj := least_le K j
  constructor
  · intro h
    rw [← h] at k1
    exact e.tr i _ j hi (by omega) hj (e.sy _ _ (by omega) hi h1) k1
  · intro h
    refine least_eq e hi (e.tr _ j i (by omega) hj hi k1 (e.sy _ _ hi hj h)) fun k hk => ?_
    cases hh : K k i with
    | false => rfl
    | true => rw [← k2 k hk]; exact (e.tr k i j (by omega) hi hj hh h).symm
theorem least_idem {K : Nat → Nat → Bool} {n i : Nat} (e : Eqv K n) (hi : i < n) : least K (least K i) = least K i := by
  have := least_le K i
  exact (least_congr_mate e (by omega) hi).2 (least_mate e hi).1
theorem least_congr {K K' : Nat → Nat → Bool} {n i : Nat} (h : ∀ a b, a < n → b < n → K a b = K' a b) (hi : i < n) : least K i = least K' i := by
  unfold least
  have : ∀ l : List Nat, (∀ j ∈ l, j < n) → l.find? (fun j => K j i) = l.find? (fun j => K' j i) := by
    intro l
    induction l with
    | nil => intro _; rfl
    | cons a l ih =>
      intro hl
      simp only [List.find?_cons]
      rw [h a i (hl a (by simp)) hi, ih fun j hj => hl j (by simp [hj])]
  rw [this _ fun j hj => by have := List.mem_range.1 hj; omega]
theorem reps_congr {K K' : Nat → Nat → Bool} {n m : Nat} (h : ∀ a b, a < n → b < n → K a b = K' a b) (hm : m ≤ n) : reps K m = reps K' m := by
  unfold reps
  congr 1
  refine List.filter_congr fun j hj => ?_
  rw [least_congr h (by have := List.mem_range.1 hj; omega)]
theorem clsL_congr {K K' : Nat → Nat → Bool} {n : Nat} (h : ∀ a b, a < n → b < n → K a b = K' a b) : clsL K n = clsL K' n := by
  refine List.map_congr_left fun i hi => ?_
  have hi' := List.mem_range.1 hi
  unfold clsAt
  rw [least_congr h hi', reps_congr h (by have := least_le K' i; omega)]
theorem reps_succ (K : Nat → Nat → Bool) (m : Nat) : reps K (m + 1) = reps K m + (if least K m = m then 1 else 0) := by
  unfold reps
  rw [List.range_succ, List.filter_append, List.length_append]
  congr 1
  by_cases h : least K m = m <;> simp [h]
theorem reps_le (K : Nat → Nat → Bool) (m : Nat) : reps K m ≤ m := by
  unfold reps; exact Nat.le_trans (List.length_filter_le _ _) (by simp)
theorem reps_mono {K : Nat → Nat → Bool} {a b : Nat} (h : a ≤ b) : reps K a ≤ reps K b := by
  induction b with
  | zero => obtain rfl : a = 0 := by omega
            exact Nat.le_refl _
  | succ b ih =>
    by_cases e : a = b + 1
    · subst e; exact Nat.le_refl _
    · have := ih (by omega)
      rw [reps_succ]
      omega

/-- Two numbers have the same label. -/
def kerB (xs : List Int) (a b : Nat) : Bool := xs.getD a 0 == xs.getD b 0
theorem kerB_eqv (xs : List Int) (n : Nat) : Eqv (kerB xs) n := ⟨fun a _ => by simp [kerB], fun a b _ _ h => by simp only [kerB, beq_iff_eq] at h ⊢; exact h.symm, fun a b c _ _ _ h h' => by simp only [kerB, beq_iff_eq] at h h' ⊢; exact h.trans h'⟩
/-- The labels that have been seen below i, in order. -/
def seenL (xs : List Int) (i : Nat) : List Int := ((List.range i).filter fun j => least (kerB xs) j == j).map fun j => xs.getD j 0
@[simp] theorem length_seenL (xs : List Int) (i : Nat) : (seenL xs i).length = reps (kerB xs) i := by simp [seenL, reps]
theorem seenL_new {xs : List Int} {i : Nat} (h : least (kerB xs) i = i) : seenL xs (i + 1) = seenL xs i ++ [xs.getD i 0] := by simp [seenL, List.range_succ, List.filter_append, h]
theorem seenL_old {xs : List Int} {i : Nat} (h : least (kerB xs) i ≠ i) : seenL xs (i + 1) = seenL xs i := by simp [seenL, List.range_succ, List.filter_append, h]
theorem seenL_get {xs : List Int} {j : Nat} : ∀ {i : Nat}, j < i → least (kerB xs) j = j → (seenL xs i).getD (reps (kerB xs) j) 0 = xs.getD j 0
  | 0, h, _ => by omega
  | i + 1, h, hj => by
    by_cases e : j = i
    · subst e
      rw [seenL_new hj, List.getD_eq_getElem?_getD, List.getElem?_append_right (by simp)]
      simp
    · have ih := seenL_get (i := i) (by omega) hj
      by_cases hi : least (kerB xs) i = i
      · rw [seenL_new hi]
        have hlt : reps (kerB xs) j < reps (kerB xs) i := by
          have h1 := reps_mono (K := kerB xs) (a := j + 1) (b := i) (by omega)
          rw [reps_succ, if_pos hj] at h1
          omega
        rw [List.getD_eq_getElem?_getD, List.getElem?_append_left (by simpa using hlt), ← List.getD_eq_getElem?_getD]
        exact ih
      · rw [seenL_old hi]; exact ih
theorem mem_seenL {xs : List Int} {i : Nat} {v : Int} (h : v ∈ seenL xs i) : ∃ j, j < i ∧ least (kerB xs) j = j ∧ v = xs.getD j 0 := by
  simp only [seenL, List.mem_map, List.mem_filter, List.mem_range, beq_iff_eq] at h
  obtain ⟨j, ⟨h1, h2⟩, h3⟩ := h
  exact ⟨j, h1, h2, h3.symm⟩
theorem seenL_at {xs : List Int} {i m : Nat} (h : m < (seenL xs i).length) : ∃ j, j < i ∧ least (kerB xs) j = j ∧ reps (kerB xs) j = m ∧ (seenL xs i).getD m 0 = xs.getD j 0 := by
  induction i with
  | zero => simp [seenL] at h
  | succ i ih =>
    by_cases hi : least (kerB xs) i = i
    · rw [seenL_new hi] at h ⊢
      by_cases e : m < (seenL xs i).length
      · obtain ⟨j, h1, h2, h3, h4⟩ := ih e
        refine ⟨j, by omega, h2, h3, ?_⟩
        rw [List.getD_eq_getElem?_getD, List.getElem?_append_left e, ← List.getD_eq_getElem?_getD]
        exact h4
      · have hm : m = (seenL xs i).length := by simp at h; rw [length_seenL] at *; omega
        refine ⟨i, by omega, hi, by rw [hm, length_seenL], ?_⟩
        rw [hm, List.getD_eq_getElem?_getD, List.getElem?_append_right (Nat.le_refl _)]
        simp
    · rw [seenL_old hi] at h ⊢
      obtain ⟨j, h1, h2, h3, h4⟩ := ih h
      exact ⟨j, by omega, h2, h3, h4⟩
/-- What a search for the label among the seen ones finds. -/
theorem seen_find {xs : List Int} {i m : Nat} (h : m < (seenL xs i).length) : (seenL xs i).getD m 0 = xs.getD i 0 ↔ (least (kerB xs) i < i ∧ m = reps (kerB xs) (least (kerB xs) i)) := by
  have e := kerB_eqv xs (i + 1)
  obtain ⟨j, h1, h2, h3, h4⟩ := seenL_at h
  rw [h4]
  constructor
  · intro hx
    have hl : least (kerB xs) i = j := by
      have := (least_congr_mate (j := i) e (i := j) (by omega) (by omega)).2 (by simp only [kerB, beq_iff_eq]; exact hx)
      omega
    rw [hl]; exact ⟨h1, h3.symm⟩
  · rintro ⟨hl, hm⟩
    have hli := least_idem (K := kerB xs) (i := i) e (by omega)
    have hmate := (least_mate (i := i) e (by omega)).1
    simp only [kerB, beq_iff_eq] at hmate
    -- the number of representatives tells the representative
    have : j = least (kerB xs) i := by
      rcases Nat.lt_trichotomy j (least (kerB xs) i) with hh | hh | hh
      · have h5 := reps_mono (K := kerB xs) (a := j + 1) hh
        rw [reps_succ, if_pos h2] at h5
        omega
      · exact hh
      · have h5 := reps_mono (K := kerB xs) (a := least (kerB xs) i + 1) hh
        rw [reps_succ, if_pos hli] at h5
        omega
    rw [this, hmate]
theorem seen_none {xs : List Int} {i : Nat} : (∀ m, m < (seenL xs i).length → (seenL xs i).getD m 0 ≠ xs.getD i 0) ↔ least (kerB xs) i = i := by
  constructor
  · intro h
    have hl := least_le (kerB xs) i
    refine Classical.byContradiction fun hne => ?_
    have hli := least_idem (K := kerB xs) (i := i) (kerB_eqv xs (i + 1)) (by omega)
    have hlt : reps (kerB xs) (least (kerB xs) i) < (seenL xs i).length := by
      rw [length_seenL]
      have h5 := reps_mono (K := kerB xs) (a := least (kerB xs) i + 1) (b := i) (by omega)
      rw [reps_succ, if_pos hli] at h5
      omega
    exact h _ hlt ((seen_find hlt).2 ⟨by omega, rfl⟩)
  · intro h m hm hx
    have := ((seen_find hm).1 hx).1
    omega

theorem numsL_succ (n : Nat) : numsL (n + 1) = numsL n ++ [(n : Int)] := by simp [numsL, List.range_succ]
/-- The first index of a number in a list, or -1. -/
def idxL (xs : List Int) (v : Int) : Int := match firstN xs.length fun i => xs.getD i 0 == v with | some i => (i : Int) | none => -1
theorem idxL_some {xs : List Int} {v : Int} {i : Nat} (hi : i < xs.length) (h : xs.getD i 0 = v) (hb : ∀ j, j < i → ¬ xs.getD j 0 = v) : idxL xs v = i := by
  unfold idxL; rw [firstN_some hi (by simpa using h) fun j hj => by simpa using hb j hj]
theorem idxL_none {xs : List Int} {v : Int} (h : ∀ j, j < xs.length → ¬ xs.getD j 0 = v) : idxL xs v = -1 := by
  unfold idxL; rw [firstN_none fun j hj => by simpa using h j hj]
theorem idxL_cases (xs : List Int) (v : Int) : (∃ i, i < xs.length ∧ xs.getD i 0 = v ∧ (∀ j, j < i → ¬ xs.getD j 0 = v) ∧ idxL xs v = i) ∨ ((∀ j, j < xs.length → ¬ xs.getD j 0 = v) ∧ idxL xs v = -1) := by
  rcases find_range (p := fun i => xs.getD i 0 == v) (i := xs.length) with ⟨j, _, hl, hp, hb⟩ | ⟨_, hb⟩
  · exact .inl ⟨j, hl, by simpa using hp, fun k hk => by simpa using hb k hk, idxL_some hl (by simpa using hp) fun k hk => by simpa using hb k hk⟩
  · exact .inr ⟨fun k hk => by simpa using hb k hk, idxL_none fun k hk => by simpa using hb k hk⟩
theorem idxL_lt (xs : List Int) (v : Int) : idxL xs v < xs.length ∧ -1 ≤ idxL xs v := by
  rcases idxL_cases xs v with ⟨i, h, _, _, e⟩ | ⟨_, e⟩ <;> omega
theorem cls_new {xs : List Int} {k : Nat} (h : idxL (seenL xs k) (xs.getD k 0) < 0) : clsL (kerB xs) (k + 1) = clsL (kerB xs) k ++ [((seenL xs k).length : Int)] ∧ seenL xs (k + 1) = seenL xs k ++ [xs.getD k 0] := by
  have hl : least (kerB xs) k = k := by
    rcases idxL_cases (seenL xs k) (xs.getD k 0) with ⟨i, _, _, _, e⟩ | ⟨hn, _⟩
    · omega
    · exact seen_none.1 fun m hm => hn m hm
  refine ⟨?_, seenL_new hl⟩
  rw [clsL_succ]
  unfold clsAt
  rw [hl, length_seenL]
theorem cls_old {xs : List Int} {k : Nat} (h : 0 ≤ idxL (seenL xs k) (xs.getD k 0)) : clsL (kerB xs) (k + 1) = clsL (kerB xs) k ++ [idxL (seenL xs k) (xs.getD k 0)] ∧ seenL xs (k + 1) = seenL xs k := by
  rcases idxL_cases (seenL xs k) (xs.getD k 0) with ⟨i, hi, hv, _, e⟩ | ⟨_, e⟩
  · obtain ⟨h1, h2⟩ := (seen_find hi).1 hv
    refine ⟨?_, seenL_old (by omega)⟩
    rw [clsL_succ, e, h2]
    rfl
  · omega
/-- The seen labels with their numbers. -/
def seenE (xs : List Int) (k : Nat) : List (Int × Int) := (List.range (seenL xs k).length).map fun i => ((seenL xs k).getD i 0, (i : Int))
@[simp] theorem length_seenE (xs : List Int) (k : Nat) : (seenE xs k).length = (seenL xs k).length := by simp [seenE]
theorem seenE_zero (xs : List Int) : seenE xs 0 = [] := by simp [seenE, seenL]
theorem seenE_new {xs : List Int} {k : Nat} (h : seenL xs (k + 1) = seenL xs k ++ [xs.getD k 0]) : seenE xs (k + 1) = seenE xs k ++ [(xs.getD k 0, ((seenE xs k).length : Int))] := by
  rw [length_seenE]
  unfold seenE
  rw [h, List.length_append, List.length_singleton, List.range_succ, List.map_append]
  congr 1
  · refine List.map_congr_left fun i hi => ?_
    have := List.mem_range.1 hi
    rw [List.getD_eq_getElem?_getD, List.getElem?_append_left this, ← List.getD_eq_getElem?_getD]
  · simp [List.getD_eq_getElem?_getD]
theorem seenE_old {xs : List Int} {k : Nat} (h : seenL xs (k + 1) = seenL xs k) : seenE xs (k + 1) = seenE xs k := by unfold seenE; rw [h]
theorem lookE_seen (xs : List Int) (k : Nat) (v : Int) : (idxL (seenL xs k) v < 0 ∧ lookE (seenE xs k) v = none) ∨ (0 ≤ idxL (seenL xs k) v ∧ lookE (seenE xs k) v = some (idxL (seenL xs k) v)) := by
  have hfind : ∀ p : Nat → Bool, ∀ n, ((List.range n).map fun i => ((seenL xs k).getD i 0, (i : Int))).find? (fun e => e.1 == v) = ((List.range n).find? fun i => (seenL xs k).getD i 0 == v).map fun i => ((seenL xs k).getD i 0, (i : Int)) := fun _ n => by
    rw [List.find?_map]; rfl
  unfold lookE seenE
  rw [hfind (fun _ => true)]
  unfold idxL firstN
  cases h : (List.range (seenL xs k).length).find? fun i => (seenL xs k).getD i 0 == v with
  | some i => exact .inr ⟨by simp, rfl⟩
  | none => exact .inl ⟨by simp, rfl⟩
theorem clsAt_new {xs : List Int} {k : Nat} (h : idxL (seenL xs k) (xs.getD k 0) < 0) : ((seenE xs k).length : Int) = clsAt (kerB xs) k := by
  have e := (cls_new h).1
  rw [clsL_succ] at e
  have := List.append_cancel_left e
  rw [length_seenE]
  exact (List.cons.inj this).1.symm
theorem clsAt_old {xs : List Int} {k : Nat} (h : 0 ≤ idxL (seenL xs k) (xs.getD k 0)) (h' : lookE (seenE xs k) (xs.getD k 0) = some (idxL (seenL xs k) (xs.getD k 0))) : (lookE (seenE xs k) (xs.getD k 0)).getD 0 = clsAt (kerB xs) k := by
  have e := (cls_old h).1
  rw [clsL_succ] at e
  have := List.append_cancel_left e
  rw [h']
  exact (List.cons.inj this).1.symm
/-- The first k of n numbers. -/
def part0 (n : Nat) (f : Nat → Int) (k : Nat) : List Int := (List.range n).map fun i => bif decide (i < k) then f i else 0
@[simp] theorem length_part0 (n : Nat) (f : Nat → Int) (k : Nat) : (part0 n f k).length = n := by simp [part0]
theorem part0_get {n : Nat} {f : Nat → Int} {k i : Nat} (h : i < n) : (part0 n f k).getD i 0 = bif decide (i < k) then f i else 0 := by simp [part0, List.getD_eq_getElem?_getD, h]
theorem part0_zero (n : Nat) (f : Nat → Int) : part0 n f 0 = List.replicate n 0 := by
  refine eq_of_getD (by simp) fun i hi => ?_
  simp only [List.length_replicate] at hi
  rw [part0_get hi, List.getD_eq_getElem?_getD, List.getElem?_replicate, if_pos hi]
  rfl
theorem part0_set {n : Nat} {f : Nat → Int} {k : Nat} {v : Int} (hk : k < n) (hv : v = f k) : part0 n f (k + 1) = (part0 n f k).set k v := by
  refine eq_of_getD (by simp) fun i hi => ?_
  simp only [List.length_set, length_part0] at hi
  rw [getD_set (by simpa using hk), part0_get hi, part0_get hi]
  by_cases e : i = k
  · subst e
    rw [if_pos rfl, hv]
    simp
  · rw [if_neg e]
    have : decide (i < k + 1) = decide (i < k) := by simp; omega
    rw [this]
theorem part0_all (n : Nat) (f : Nat → Int) : part0 n f n = (List.range n).map f := List.map_congr_left fun i hi => by
  have : decide (i < n) = true := by simpa using List.mem_range.1 hi
  rw [this]; rfl
/-- One more than the greatest number, at least 0. -/
def topL (xs : List Int) : Int := xs.foldl (fun n k => max n (k + 1)) 0
def topN (xs : List Int) (k : Nat) : Int := topL (xs.take k)
theorem topN_succ {xs : List Int} {k : Nat} (h : k < xs.length) : topN xs (k + 1) = max (topN xs k) (xs.getD k 0 + 1) := by
  unfold topN topL
  have e1 : xs[k]? = some (xs.getD k 0) := by rw [List.getD_eq_getElem?_getD (i := k), List.getElem?_eq_getElem h]; rfl
  rw [List.take_add_one, e1, List.foldl_append]; rfl

/-! ### Joining. -/
abbrev pA (p : List Int) : Nat := (p.getD 0 0).toNat
abbrev pB (p : List Int) : Nat := (p.getD 1 0).toNat
def stepK (K : Nat → Nat → Bool) (p q : Nat) : Nat → Nat → Bool := fun a b => K a b || (K a p && K q b) || (K a q && K p b)
/-- Joined by the first m pairs. -/
def joinK (ps : List (Nat × Nat)) : Nat → Nat → Bool := ps.foldl (fun K p => stepK K p.1 p.2) (fun a b => a == b)
theorem joinK_nil : joinK [] = fun a b => a == b := rfl
theorem joinK_snoc (ps : List (Nat × Nat)) (p : Nat × Nat) : joinK (ps ++ [p]) = stepK (joinK ps) p.1 p.2 := by simp [joinK, List.foldl_append]
/-- Labels tell a relation. -/
def Ker (lab : List Int) (K : Nat → Nat → Bool) (n : Nat) : Prop := ∀ a b, a < n → b < n → kerB lab a b = K a b
theorem Ker.eqv {lab : List Int} {K : Nat → Nat → Bool} {n : Nat} (h : Ker lab K n) : Eqv K n := by
  have e := kerB_eqv lab n
  refine ⟨fun a ha => ?_, fun a b ha hb hk => ?_, fun a b c ha hb hc h1 h2 => ?_⟩
  · rw [← h a a ha ha]; exact e.rf a ha
  · rw [← h b a hb ha]; exact e.sy a b ha hb (by rw [h a b ha hb]; exact hk)
  · rw [← h a c ha hc]; exact e.tr a b c ha hb hc (by rw [h a b ha hb]; exact h1) (by rw [h b c hb hc]; exact h2)
theorem Ker.start {lab : List Int} {n : Nat} (h : ∀ i, i < n → lab.getD i 0 = (i : Int)) : Ker lab (joinK []) n := fun a b ha hb => by
  unfold kerB
  rw [h a ha, h b hb, joinK_nil, Bool.eq_iff_iff]
  simp only [beq_iff_eq]
  omega
theorem Ker.step {lab lab' : List Int} {K : Nat → Nat → Bool} {n p q : Nat} (h : Ker lab K n) (hp : p < n) (hq : q < n) (hs : ∀ i, i < n → lab'.getD i 0 = if lab.getD i 0 = lab.getD q 0 then lab.getD p 0 else lab.getD i 0) : Ker lab' (stepK K p q) n := fun a b ha hb => by
  unfold stepK
  rw [← h a b ha hb, ← h a p ha hp, ← h q b hq hb, ← h a q ha hq, ← h p b hp hb, Bool.eq_iff_iff]
  unfold kerB
  rw [hs a ha, hs b hb]
  simp only [beq_iff_eq, Bool.or_eq_true, Bool.and_eq_true]
  generalize lab.getD a 0 = x at *
  generalize lab.getD b 0 = y at *
  generalize lab.getD p 0 = u at *
  generalize lab.getD q 0 = v at *
  by_cases h1 : x = v
  · by_cases h2 : y = v
    · rw [if_pos h1, if_pos h2]; omega
    · rw [if_pos h1, if_neg h2]; omega
  · by_cases h2 : y = v
    · rw [if_neg h1, if_pos h2]; omega
    · rw [if_neg h1, if_neg h2]; omega
/-- The first k labels b are labels a. -/
def relab (xs : List Int) (a b : Int) (k : Nat) : List Int := (xs.take k).map (fun z => if z = b then a else z) ++ xs.drop k
@[simp] theorem length_relab (xs : List Int) (a b : Int) (k : Nat) : (relab xs a b k).length = xs.length := by simp [relab]; omega
theorem relab_zero (xs : List Int) (a b : Int) : relab xs a b 0 = xs := by simp [relab]
theorem relab_getD {xs : List Int} {a b : Int} {k i : Nat} (hi : i < xs.length) : (relab xs a b k).getD i 0 = if i < k then (if xs.getD i 0 = b then a else xs.getD i 0) else xs.getD i 0 := by
  unfold relab
  by_cases h : i < k
  · rw [if_pos h, List.getD_eq_getElem?_getD, List.getElem?_append_left (by simp; omega)]
    simp only [List.getElem?_map, List.getElem?_take, h, if_true, List.getD_eq_getElem?_getD]
    rw [List.getElem?_eq_getElem hi]
    simp
  · rw [if_neg h, List.getD_eq_getElem?_getD, List.getElem?_append_right (by simp; omega)]
    simp only [List.length_map, List.length_take, List.getElem?_drop, List.getD_eq_getElem?_getD]
    congr 2
    omega
theorem relab_T {xs : List Int} {a b : Int} {k : Nat} (hk : k < xs.length) (h : xs.getD k 0 = b) : relab xs a b (k + 1) = (relab xs a b k).set k a := by
  refine eq_of_getD (by simp) fun i hi => ?_
  simp only [List.length_set, length_relab] at hi
  rw [getD_set (by simpa using hk), relab_getD hi, relab_getD hi]
  by_cases e : i = k
  · subst e; rw [if_pos (by omega), if_pos h, if_pos rfl]
  · by_cases e2 : i < k
    · rw [if_pos (by omega), if_neg e, if_pos e2]
    · rw [if_neg (by omega), if_neg e, if_neg e2]
theorem relab_F {xs : List Int} {a b : Int} {k : Nat} (hk : k < xs.length) (h : ¬ xs.getD k 0 = b) : relab xs a b (k + 1) = relab xs a b k := by
  refine eq_of_getD (by simp) fun i hi => ?_
  simp only [length_relab] at hi
  rw [relab_getD hi, relab_getD hi]
  by_cases e : i = k
  · subst e; rw [if_pos (by omega), if_neg h, if_neg (by omega)]
  · by_cases e2 : i < k
    · rw [if_pos (by omega), if_pos e2]
    · rw [if_neg (by omega), if_neg e2]

def pairL (pss : List (List Int)) (k : Nat) : List (Nat × Nat) := (pss.take k).map fun p => (pA p, pB p)
theorem pairL_succ {pss : List (List Int)} {k : Nat} (h : k < pss.length) : pairL pss (k + 1) = pairL pss k ++ [(pA (pss.getD k []), pB (pss.getD k []))] := by
  have e1 : pss[k]? = some (pss.getD k []) := by rw [List.getD_eq_getElem?_getD (i := k), List.getElem?_eq_getElem h]; rfl
  unfold pairL
  rw [List.take_add_one, e1]; simp
theorem pairL_zero (pss : List (List Int)) : pairL pss 0 = [] := by simp [pairL]
theorem pairL_all (pss : List (List Int)) : pairL pss pss.length = pss.map fun p => (pA p, pB p) := by simp [pairL]
/-- What the inner loop of the joining leaves. -/
theorem Ker.relab {lab : List Int} {K : Nat → Nat → Bool} {n p q e : Nat} (h : Ker lab K n) (hl : lab.length = n) (hp : p < n) (hq : q < n) (he : e = n ∨ lab.getD p 0 = lab.getD q 0) : Ker (Go.GL.relab lab (lab.getD p 0) (lab.getD q 0) e) (stepK K p q) n := by
  refine h.step hp hq fun i hi => ?_
  rw [relab_getD (by omega)]
  rcases he with rfl | he
  · rw [if_pos hi]
  · by_cases hie : i < e
    · rw [if_pos hie]
    · rw [if_neg hie]
      by_cases hx : lab.getD i 0 = lab.getD q 0
      · rw [if_pos hx, he, hx]
      · rw [if_neg hx]

/-! ### Roots. -/
/-- Each element's parent is not above it. -/
structure Forest (j : List Int) : Prop where
  up : ∀ x, x < j.length → 0 ≤ j.getD x 0 ∧ j.getD x 0 ≤ (x : Int)
def rootF (j : List Int) : Nat → Nat → Nat
  | 0, x => x
  | f + 1, x => if (j.getD x 0).toNat < x then rootF j f (j.getD x 0).toNat else x
/-- The root of x. -/
def rootOf (j : List Int) (x : Nat) : Nat := rootF j (x + 1) x
theorem rootF_enough (j : List Int) : ∀ {f g x : Nat}, x < f → x < g → rootF j f x = rootF j g x
  | 0, _, _, h, _ => by omega
  | _, 0, _, _, h => by omega
  | f + 1, g + 1, x, hf, hg => by
    unfold rootF
    by_cases h : (j.getD x 0).toNat < x
    · rw [if_pos h, if_pos h]; exact rootF_enough j (by omega) (by omega)
    · rw [if_neg h, if_neg h]
theorem rootOf_step {j : List Int} {x : Nat} (h : (j.getD x 0).toNat < x) : rootOf j x = rootOf j (j.getD x 0).toNat := by
  unfold rootOf
  rw [show rootF j (x + 1) x = rootF j x (j.getD x 0).toNat by conv => lhs; unfold rootF; rw [if_pos h]]
  exact rootF_enough j h (by omega)
theorem rootOf_end {j : List Int} {x : Nat} (h : ¬ (j.getD x 0).toNat < x) : rootOf j x = x := by
  unfold rootOf rootF; rw [if_neg h]
theorem rootOf_le (j : List Int) (x : Nat) : rootOf j x ≤ x := by
  induction x using Nat.strongRecOn with
  | _ x ih =>
    by_cases h : (j.getD x 0).toNat < x
    · rw [rootOf_step h]; have := ih _ h; omega
    · rw [rootOf_end h]; exact Nat.le_refl _
theorem rootOf_root {j : List Int} (hF : Forest j) {x : Nat} (hx : x < j.length) : j.getD (rootOf j x) 0 = (rootOf j x : Int) := by
  induction x using Nat.strongRecOn with
  | _ x ih =>
    by_cases h : (j.getD x 0).toNat < x
    · rw [rootOf_step h]; exact ih _ h (by omega)
    · rw [rootOf_end h]; have := hF.up x hx; omega
theorem rootOf_fix {j : List Int} {x : Nat} (h : j.getD x 0 = (x : Int)) : rootOf j x = x := rootOf_end (by omega)
theorem rootOf_idem {j : List Int} (hF : Forest j) {x : Nat} (hx : x < j.length) : rootOf j (rootOf j x) = rootOf j x := rootOf_fix (rootOf_root hF hx)
theorem rootOf_parent {j : List Int} (hF : Forest j) {x : Nat} (hx : x < j.length) : rootOf j (j.getD x 0).toNat = rootOf j x := by
  by_cases h : (j.getD x 0).toNat < x
  · exact (rootOf_step h).symm
  · have := hF.up x hx
    rw [show (j.getD x 0).toNat = x by omega]
/-- A parent that is a higher one of the same root: roots stay. -/
theorem rootOf_set {j : List Int} (hF : Forest j) {x y : Nat} (hx : x < j.length) (hy : y < x) (hr : rootOf j y = rootOf j x) : Forest (j.set x (y : Int)) ∧ ∀ z, z < j.length → rootOf (j.set x (y : Int)) z = rootOf j z := by
  have hF' : Forest (j.set x (y : Int)) := ⟨fun z hz => by
    rw [List.length_set] at hz
    rw [getD_set hx]
    by_cases e : z = x
    · subst e; simp; omega
    · rw [if_neg e]; exact hF.up z hz⟩
  refine ⟨hF', fun z => ?_⟩
  induction z using Nat.strongRecOn with
  | _ z ih =>
    intro hz
    have hg : (j.set x (y : Int)).getD z 0 = if z = x then (y : Int) else j.getD z 0 := getD_set hx
    by_cases e : z = x
    · subst e
      rw [if_pos rfl] at hg
      rw [rootOf_step (by rw [hg]; simpa using hy), hg, Int.toNat_natCast, ih y hy (by omega), hr]
    · rw [if_neg e] at hg
      by_cases h : (j.getD z 0).toNat < z
      · rw [rootOf_step (by rw [hg]; exact h), hg, ih _ h (by omega), rootOf_step h]
      · rw [rootOf_end (by rw [hg]; exact h), rootOf_end h]
/-- A root gets a parent. -/
theorem rootOf_join {j : List Int} (hF : Forest j) {x y : Nat} (hx : x < j.length) (hr : j.getD x 0 = (x : Int)) (hry : j.getD y 0 = (y : Int)) (hy : y ≤ x) : Forest (j.set x (y : Int)) ∧ ∀ z, z < j.length → rootOf (j.set x (y : Int)) z = if rootOf j z = x then y else rootOf j z := by
  have hF' : Forest (j.set x (y : Int)) := ⟨fun z hz => by
    rw [List.length_set] at hz
    rw [getD_set hx]
    by_cases e : z = x
    · subst e; simp; omega
    · rw [if_neg e]; exact hF.up z hz⟩
  refine ⟨hF', fun z => ?_⟩
  induction z using Nat.strongRecOn with
  | _ z ih =>
    intro hz
    have hg : (j.set x (y : Int)).getD z 0 = if z = x then (y : Int) else j.getD z 0 := getD_set hx
    by_cases e : z = x
    · subst e
      rw [if_pos rfl] at hg
      rw [rootOf_fix hr, if_pos rfl]
      by_cases e2 : y = z
      · subst e2; exact rootOf_fix (by rw [hg])
      · rw [rootOf_step (by rw [hg]; simp; omega), hg, Int.toNat_natCast, ih y (by omega) (by omega), rootOf_fix hry, if_neg e2]
    · rw [if_neg e] at hg
      by_cases h : (j.getD z 0).toNat < z
      · rw [rootOf_step (by rw [hg]; exact h), hg, ih _ h (by omega), rootOf_step h]
      · rw [rootOf_end (by rw [hg]; exact h), rootOf_end h, if_neg e]
/-- The roots of a forest tell a relation. -/
def RootK (j : List Int) (K : Nat → Nat → Bool) (n : Nat) : Prop := j.length = n ∧ Forest j ∧ ∀ a b, a < n → b < n → ((rootOf j a == rootOf j b) = K a b)
theorem RootK.start {j : List Int} {n : Nat} (hn : j.length = n) (h : ∀ i, i < n → j.getD i 0 = (i : Int)) : RootK j (joinK []) n := by
  refine ⟨hn, ⟨fun x hx => by rw [h x (by omega)]; omega⟩, fun a b ha hb => ?_⟩
  rw [rootOf_fix (h a ha), rootOf_fix (h b hb), joinK_nil]
theorem RootK.same {j j' : List Int} {K : Nat → Nat → Bool} {n : Nat} (h : RootK j K n) (hl : j'.length = j.length) (hF : Forest j') (hr : ∀ z, z < j.length → rootOf j' z = rootOf j z) : RootK j' K n :=
  ⟨by rw [hl]; exact h.1, hF, fun a b ha hb => by rw [hr a (by have := h.1; omega), hr b (by have := h.1; omega)]; exact h.2.2 a b ha hb⟩
theorem RootK.join {j : List Int} {K : Nat → Nat → Bool} {n p q : Nat} (h : RootK j K n) (hp : p < n) (hq : q < n) : RootK (j.set (max (rootOf j p) (rootOf j q)) ((min (rootOf j p) (rootOf j q) : Nat) : Int)) (stepK K p q) n := by
  obtain ⟨hl, hF, hk⟩ := h
  have lp := rootOf_le j p
  have lq := rootOf_le j q
  have rp := rootOf_root hF (x := p) (by omega)
  have rq := rootOf_root hF (x := q) (by omega)
  have hmx : j.getD (max (rootOf j p) (rootOf j q)) 0 = ((max (rootOf j p) (rootOf j q) : Nat) : Int) := by
    rcases Nat.le_total (rootOf j p) (rootOf j q) with h | h
    · rw [Nat.max_eq_right h]; exact rq
    · rw [Nat.max_eq_left h]; exact rp
  have hmn : j.getD (min (rootOf j p) (rootOf j q)) 0 = ((min (rootOf j p) (rootOf j q) : Nat) : Int) := by
    rcases Nat.le_total (rootOf j p) (rootOf j q) with h | h
    · rw [Nat.min_eq_left h]; exact rp
    · rw [Nat.min_eq_right h]; exact rq
  obtain ⟨k1, k2⟩ := rootOf_join hF (x := max (rootOf j p) (rootOf j q)) (y := min (rootOf j p) (rootOf j q)) (by omega) hmx hmn (by omega)
  refine ⟨by simpa using hl, k1, fun a b ha hb => ?_⟩
  rw [k2 a (by omega), k2 b (by omega)]
  unfold stepK
  rw [← hk a b ha hb, ← hk a p ha hp, ← hk q b hq hb, ← hk a q ha hq, ← hk p b hp hb, Bool.eq_iff_iff]
  simp only [beq_iff_eq, Bool.or_eq_true, Bool.and_eq_true]
  generalize rootOf j a = ra at *
  generalize rootOf j b = rb at *
  generalize rootOf j p = x at *
  generalize rootOf j q = y at *
  rcases Nat.le_total x y with h | h
  · rw [Nat.max_eq_right h, Nat.min_eq_left h]
    by_cases h1 : ra = y
    · by_cases h2 : rb = y
      · rw [if_pos h1, if_pos h2]; omega
      · rw [if_pos h1, if_neg h2]; omega
    · by_cases h2 : rb = y
      · rw [if_neg h1, if_pos h2]; omega
      · rw [if_neg h1, if_neg h2]; omega
  · rw [Nat.max_eq_left h, Nat.min_eq_right h]
    by_cases h1 : ra = x
    · by_cases h2 : rb = x
      · rw [if_pos h1, if_pos h2]; omega
      · rw [if_pos h1, if_neg h2]; omega
    · by_cases h2 : rb = x
      · rw [if_neg h1, if_pos h2]; omega
      · rw [if_neg h1, if_neg h2]; omega
/-- Labels that are roots. -/
theorem RootK.ker {j lab : List Int} {K : Nat → Nat → Bool} {n : Nat} (h : RootK j K n) (hl : ∀ i, i < n → lab.getD i 0 = (rootOf j i : Int)) : Ker lab K n := fun a b ha hb => by
  rw [← h.2.2 a b ha hb]
  unfold kerB
  rw [hl a ha, hl b hb, Bool.eq_iff_iff]
  simp only [beq_iff_eq]
  omega
theorem Ker.cls {lab : List Int} {K : Nat → Nat → Bool} {n : Nat} (h : Ker lab K n) : clsL (kerB lab) n = clsL K n := clsL_congr h
/-- The finest partition of n elements that joins pairs. -/
def joinL (n : Nat) (ps : List (Nat × Nat)) : List Int := clsL (joinK ps) n
@[simp] theorem length_joinL (n : Nat) (ps : List (Nat × Nat)) : (joinL n ps).length = n := by simp [joinL]
theorem clsL_range {K : Nat → Nat → Bool} {n i : Nat} (h : i < n) : 0 ≤ (clsL K n).getD i 0 ∧ (clsL K n).getD i 0 ≤ (i : Int) := by
  rw [clsL_get h]
  unfold clsAt
  have := reps_le K (least K i)
  have := least_le K i
  omega
end Go.GL
/- Partitions: the reference's and the program's. No condition but those of each statement. -/
namespace Go.Proofs.Ytkcpjflhjghapaa
open Go Go.GL Go.RowKit Go.Proofs
theorem l01Own_c {a : Option Addr} {xs : List Int} {H : GHeap} (h : Ints H a xs := by assumption) (hl : xs.length ≤ 1048576 := by omega) :
    GCalls Try.prog 57 [.slice a xs.length xs.length] H (NewInts 2 H xs) := by
  refine GCalls.body (N := 6) (rs := [.tmp 2]) Try.func57 rfl rfl rfl rfl (fun Qx hret hend => ?_)
  refine .forget (fr' := [(0, some _)]) ⟨rfl, trivial⟩ ?_
  have hle := GHeap.Le.refl H
  have base_h := h
  refine .seq (fun K1 hK1 => ?_)
  refine .region ?_
  refine .m rfl rfl rfl (.assign rfl) ?_
  refine .nil ?_
  refine hK1 _ _ ?_
  refine .seq (fun K2 hK2 => ?_)
  refine .region ?_
  refine .r rfl rfl rfl (.litR rfl sl_22_A ze_2_E rfl rfl (by omega) (by omega) rfl rfl) ?_
  rintro _ H3 ⟨g3, rfl, le3, ge3, at3⟩
  have nx_H3 := le3.1
  replace hle := hle.trans le3
  have lt_at3 := GHeap.lt_of_get at3
  replace h := base_h.mono hle
  replace at3 : GHeap.get H3 g3 = some (.row (ints []) 2 true) := at3
  refine .m rfl rfl rfl (.move rfl) ?_
  refine .r rfl rfl rfl (.appendL rfl sl_22_A ze_2_E rfl by_2_E sl_22_A rfl rfl (by assumption) (by assumption) (by first | omega | (simp <;> omega)) (by omega) (by omega)) ?_
  rintro _ H5 ⟨g5, rfl, st5, ge5, at5⟩
  have nx_H5 := st5.nx
  replace hle := hle.st st5 (fun k hk => ⟨by omega, trivial⟩)
  have lt_at5 := GHeap.lt_of_get at5
  replace h := base_h.mono hle
  refine .m rfl rfl rfl (.assign rfl) ?_
  refine .nil ?_
  refine hK2 _ _ ?_
  refine .ret ?_
  -- leaf e1
  refine hret _ _ ?_
  refine ⟨_, rfl, ?_⟩
  exact ⟨hle, _, by rw [Nat.zero_add], by simpa using at5, by omega⟩
theorem clone_c {a : Option Addr} {xs : List Int} {H : GHeap} (h : Ints H a xs := by assumption) (hl : xs.length ≤ 1048576 := by omega) :
    GCalls Try.prog 62 [.slice a xs.length xs.length] H (NewInts 2 H xs) := by
  refine GCalls.body (N := 6) (rs := [.tmp 2]) Try.func62 rfl rfl rfl rfl (fun Qx hret hend => ?_)
  refine .forget (fr' := [(0, some _)]) ⟨rfl, trivial⟩ ?_
  have hle := GHeap.Le.refl H
  have base_h := h
  refine .seq (fun K1 hK1 => ?_)
  refine .region ?_
  refine .m rfl rfl rfl (.assign rfl) ?_
  refine .nil ?_
  refine hK1 _ _ ?_
  refine .seq (fun K2 hK2 => ?_)
  refine .region ?_
  refine .r rfl rfl rfl (.litR rfl sl_22_A ze_2_E rfl rfl (by omega) (by omega) rfl rfl) ?_
  rintro _ H3 ⟨g3, rfl, le3, ge3, at3⟩
  have nx_H3 := le3.1
  replace hle := hle.trans le3
  have lt_at3 := GHeap.lt_of_get at3
  replace h := base_h.mono hle
  replace at3 : GHeap.get H3 g3 = some (.row (ints []) 2 true) := at3
  refine .m rfl rfl rfl (.move rfl) ?_
  refine .r rfl rfl rfl (.appendL rfl sl_22_A ze_2_E rfl by_2_E sl_22_A rfl rfl (by assumption) (by assumption) (by first | omega | (simp <;> omega)) (by omega) (by omega)) ?_
  rintro _ H5 ⟨g5, rfl, st5, ge5, at5⟩
  have nx_H5 := st5.nx
  replace hle := hle.st st5 (fun k hk => ⟨by omega, trivial⟩)
  have lt_at5 := GHeap.lt_of_get at5
  replace h := base_h.mono hle
  refine .m rfl rfl rfl (.assign rfl) ?_
  refine .nil ?_
  refine hK2 _ _ ?_
  refine .ret ?_
  -- leaf e1
  refine hret _ _ ?_
  refine ⟨_, rfl, ?_⟩
  exact ⟨hle, _, by rw [Nat.zero_add], by simpa using at5, by omega⟩
theorem l01Index_c {a : Option Addr} {xs : List Int} {n : Int} {H : GHeap} (h : Ints H a xs := by assumption) (hl : xs.length ≤ 16777216 := by omega) :
    GCalls Try.prog 85 [.slice a xs.length xs.length, .int .i64 n] H (Ret (.int .i64 (idxL xs n)) H) := by
  refine GCalls.body (N := 19) (rs := [.tmp 4]) Try.func85 rfl rfl rfl rfl (fun Qx hret hend => ?_)
  refine .forget (fr' := [(0, some _), (1, some _)]) ⟨rfl, rfl, trivial⟩ ?_
  refine .seq (fun K1 hK1 => ?_)
  refine .region ?_
  refine .m rfl rfl rfl (.assign rfl) ?_
  refine .nil ?_
  refine hK1 _ _ ?_
  refine .seq (fun K2 hK2 => ?_)
  refine .seq (fun K3 hK3 => ?_)
  refine .region ?_
  refine .m rfl rfl rfl (.assign rfl) ?_
  refine .nil ?_
  refine hK3 _ _ ?_
  refine .block ?_
  refine .loopR (σ := Nat) [(0, some _), (1, some _)] (fun k => [(5, some (.int .i64 (k : Int)))]) (fun k H' => H = H' ∧ (k : Int) ≤ xs.length ∧ ∀ i, i < k → ¬ xs.getD i 0 = n) (fun k => (xs.length - k : Int).toNat) (0) ⟨rfl, rfl, trivial⟩ ⟨rfl, trivial⟩ ?_ ?_
  ·
   refine ⟨rfl, ?_⟩
   exact ⟨by omega, fun _ _ => by omega⟩
  ·
   rintro k _ ⟨rfl, hI⟩ KL1 hKL1
   refine .forget (fr' := [(5, some (.int .i64 (k : Int))), (0, some _), (1, some _)]) ⟨rfl, rfl, rfl, trivial⟩ ?_
   obtain ⟨hk1, ha1⟩ := hI
   refine .seq (fun K4 hK4 => ?_)
   refine .seq (fun K5 hK5 => ?_)
   refine .region ?_
   refine .m rfl rfl rfl (.move rfl) ?_
   refine .m rfl rfl rfl (.move rfl) ?_
   refine .m rfl rfl rfl (.len sl_22_A rfl) ?_
   refine .m rfl rfl rfl (.cmp rfl rfl rfl) ?_
   refine .nil ?_
   refine hK5 _ _ ?_
   refine .cond rfl (fun h9 => ?_) (fun h9 => ?_)
   ·
    try simp only [sps] at h9
    refine .skip ?_
    refine hK4 _ _ ?_
    refine .seq (fun K6 hK6 => ?_)
    refine .block ?_
    refine .seq (fun K7 hK7 => ?_)
    refine .region ?_
    refine .m rfl rfl rfl (.move rfl) ?_
    refine .m rfl rfl rfl (.move rfl) ?_
    refine .m rfl rfl rfl (.idxN sl_22_A (by assumption) rfl rfl (by omega)) ?_
    refine .m rfl rfl rfl (.loadI on_2_A (by assumption) rfl (by omega)) ?_
    refine .m rfl rfl rfl (.move rfl) ?_
    refine .m rfl rfl rfl (.cmp rfl rfl rfl) ?_
    refine .nil ?_
    refine hK7 _ _ ?_
    refine .cond rfl (fun h17 => ?_) (fun h17 => ?_)
    ·
     try simp only [sps] at h17
     refine .seq (fun K8 hK8 => ?_)
     refine .region ?_
     refine .m rfl rfl rfl (.move rfl) ?_
     refine .m rfl rfl rfl (.assign rfl) ?_
     refine .nil ?_
     refine hK8 _ _ ?_
     refine .ret ?_
     -- leaf e1
     refine hret _ _ ?_
     refine ⟨_, rfl, ?_⟩
     exact .of (congrArg _ (idxL_some (by omega) h17 ha1))
    ·
     try simp only [sps] at h17
     refine .skip ?_
     refine hK6 _ _ ?_
     refine .region ?_
     refine .m rfl rfl rfl (.move rfl) ?_
     refine .m rfl rfl rfl (.add rfl rfl rfl (by omega) (by omega)) ?_
     refine .m rfl rfl rfl (.assign rfl) ?_
     refine .nil ?_
     refine hKL1 (k + 1) _ _ ?_ ?_ ⟨rfl, rfl, rfl, trivial⟩
     ·
      refine ⟨rfl, ?_⟩
      refine ⟨by omega, fun i hx => ?_⟩
      by_cases hltq : i < k
      · exact ha1 i hltq
      · obtain rfl : i = k := by omega
        exact h17
     ·
      omega
   ·
    try simp only [sps] at h9
    refine .exit ?_
    refine hK2 _ _ ?_
    refine .seq (fun K9 hK9 => ?_)
    refine .region ?_
    refine .m rfl rfl rfl (.assign rfl) ?_
    refine .nil ?_
    refine hK9 _ _ ?_
    refine .ret ?_
    -- leaf e2
    refine hret _ _ ?_
    refine ⟨_, rfl, ?_⟩
    exact .of (congrArg _ (idxL_none fun j hj => ha1 j (by omega)))
theorem l01Classes_c {a : Option Addr} {xs : List Int} {H : GHeap} (h : Ints H a xs := by assumption) (hl : xs.length ≤ 1048576 := by omega) :
    GCalls Try.prog 70 [.slice a xs.length xs.length] H (NewInts 2 H (clsL (kerB xs) xs.length)) := by
  refine GCalls.body (N := 37) (rs := [.tmp 2]) Try.func70 rfl rfl rfl rfl (fun Qx hret hend => ?_)
  refine .forget (fr' := [(0, some _)]) ⟨rfl, trivial⟩ ?_
  have hle := GHeap.Le.refl H
  have base_h := h
  refine .seq (fun K1 hK1 => ?_)
  refine .region ?_
  refine .m rfl rfl rfl (.assign rfl) ?_
  refine .nil ?_
  refine hK1 _ _ ?_
  refine .seq (fun K2 hK2 => ?_)
  refine .region ?_
  refine .r rfl rfl rfl (.litR rfl sl_22_A ze_2_E rfl rfl (by omega) (by omega) rfl rfl) ?_
  rintro _ H7 ⟨g7, rfl, le7, ge7, at7⟩
  have nx_H7 := le7.1
  replace hle := hle.trans le7
  have lt_at7 := GHeap.lt_of_get at7
  replace h := base_h.mono hle
  replace at7 : GHeap.get H7 g7 = some (.row (ints []) 2 true) := at7
  refine .r rfl rfl rfl (.litR rfl sl_22_A ze_2_E rfl rfl (by omega) (by omega) rfl rfl) ?_
  rintro _ H8 ⟨g8, rfl, le8, ge8, at8⟩
  have nx_H8 := le8.1
  replace hle := hle.trans le8
  replace at7 := le8.2 _ _ at7
  have lt_at8 := GHeap.lt_of_get at8
  replace h := base_h.mono hle
  replace at8 : GHeap.get H8 g8 = some (.row (ints []) 2 true) := at8
  refine .m rfl rfl rfl (.assign rfl) ?_
  refine .m rfl rfl rfl (.assign rfl) ?_
  refine .nil ?_
  refine hK2 _ _ ?_
  refine .seq (fun K3 hK3 => ?_)
  refine .seq (fun K4 hK4 => ?_)
  refine .region ?_
  refine .m rfl rfl rfl (.assign rfl) ?_
  refine .nil ?_
  refine hK4 _ _ ?_
  refine .block ?_
  refine .loopR (σ := Nat × Nat × Nat × Nat × Nat) [(0, some _)] (fun (k, gL3, nL3, gL4, nL4) => [(5, some (.int .i64 (k : Int))), (3, some (.slice (some ⟨gL3, 0, none⟩) nL3 nL3)), (4, some (.slice (some ⟨gL4, 0, none⟩) nL4 nL4))]) (fun (k, gL3, nL3, gL4, nL4) H' => St [g7, g8] H8 H' ∧ H'.get gL3 = some (.row (ints (clsL (kerB xs) k)) 2 true) ∧ (gL3 = g7 ∨ H8.next ≤ gL3) ∧ nL3 = (clsL (kerB xs) k).length ∧ H'.get gL4 = some (.row (ints (seenL xs k)) 2 true) ∧ (gL4 = g8 ∨ H8.next ≤ gL4) ∧ nL4 = (seenL xs k).length ∧ gL3 ≠ gL4 ∧ k ≤ xs.length) (fun (k, gL3, nL3, gL4, nL4) => xs.length - k) ((0, _, _, _, _)) ⟨rfl, trivial⟩ ⟨rfl, rfl, rfl, trivial⟩ ?_ ?_
  ·
   refine ⟨.refl _ _, by first | assumption | exact at7 | simpa using at7, .inl rfl, by first | rfl | assumption | simp | omega, by first | assumption | exact at8 | simpa using at8, .inl rfl, by first | rfl | assumption | simp | omega, by omega, ?_⟩
   omega
  ·
   rintro ⟨k, gL3, nL3, gL4, nL4⟩ HL1 ⟨lst1, at_L3, pl_L3, ln_L3, at_L4, pl_L4, ln_L4, ap1_0, hI⟩ KL1 hKL1
   refine .forget (fr' := [(5, some (.int .i64 (k : Int))), (3, some (.slice (some ⟨gL3, 0, none⟩) nL3 nL3)), (4, some (.slice (some ⟨gL4, 0, none⟩) nL4 nL4)), (0, some _)]) ⟨rfl, rfl, rfl, rfl, trivial⟩ ?_
   have ge_L3 : H.next ≤ gL3 := by omega
   have ge_L4 : H.next ≤ gL4 := by omega
   have nx_HL1 := lst1.nx
   replace hle := hle.st lst1 (fun k hk => ⟨by omega, by omega, trivial⟩)
   have lt_at_L3 := GHeap.lt_of_get at_L3
   have lt_at_L4 := GHeap.lt_of_get at_L4
   replace h := base_h.mono hle
   have i4 := Ints.of_get at_L4
   have hl3 : (clsL (kerB xs) k).length = k := length_clsL _ _
   have hl4 : (seenL xs k).length ≤ k := by rw [length_seenL]; exact reps_le _ _
   obtain rfl := ln_L4
   have hix := idxL_lt (seenL xs k) (xs.getD k 0)
   refine .seq (fun K5 hK5 => ?_)
   refine .seq (fun K6 hK6 => ?_)
   refine .region ?_
   refine .m rfl rfl rfl (.move rfl) ?_
   refine .m rfl rfl rfl (.move rfl) ?_
   refine .m rfl rfl rfl (.len sl_22_A rfl) ?_
   refine .m rfl rfl rfl (.cmp rfl rfl rfl) ?_
   refine .nil ?_
   refine hK6 _ _ ?_
   refine .cond rfl (fun h12 => ?_) (fun h12 => ?_)
   ·
    try simp only [sps] at h12
    refine .skip ?_
    refine hK5 _ _ ?_
    refine .seq (fun K7 hK7 => ?_)
    refine .block ?_
    refine .seq (fun K8 hK8 => ?_)
    refine .region ?_
    refine .m rfl rfl rfl (.move rfl) ?_
    refine .m rfl rfl rfl (.move rfl) ?_
    refine .m rfl rfl rfl (.move rfl) ?_
    refine .m rfl rfl rfl (.idxN sl_22_A (by assumption) rfl rfl (by omega)) ?_
    refine .m rfl rfl rfl (.loadI on_2_A (by assumption) rfl (by omega)) ?_
    refine .callQ rfl rfl rfl rfl @Try.call85 rfl (l01Index_c) ?_
    refine .m rfl rfl rfl (.assign rfl) ?_
    refine .nil ?_
    refine hK8 _ _ ?_
    refine .seq (fun K9 hK9 => ?_)
    refine .seq (fun K10 hK10 => ?_)
    refine .region ?_
    refine .m rfl rfl rfl (.move rfl) ?_
    refine .m rfl rfl rfl (.cmp rfl rfl rfl) ?_
    refine .nil ?_
    refine hK10 _ _ ?_
    refine .cond rfl (fun h22 => ?_) (fun h22 => ?_)
    ·
     try simp only [sps] at h22
     refine .seq (fun K11 hK11 => ?_)
     refine .region ?_
     refine .m rfl rfl rfl (.move rfl) ?_
     refine .m rfl rfl rfl (.len sl_22_A rfl) ?_
     refine .m rfl rfl rfl (.assign rfl) ?_
     refine .nil ?_
     refine hK11 _ _ ?_
     refine .region ?_
     refine .m rfl rfl rfl (.move rfl) ?_
     refine .m rfl rfl rfl (.move rfl) ?_
     refine .m rfl rfl rfl (.move rfl) ?_
     refine .m rfl rfl rfl (.idxN sl_22_A (by assumption) rfl rfl (by omega)) ?_
     refine .m rfl rfl rfl (.loadI on_2_A (by assumption) rfl (by omega)) ?_
     refine .r rfl rfl rfl (.litR rfl sl_22_A ze_2_E rfl rfl (by omega) (by omega) rfl rfl) ?_
     rintro _ H30 ⟨g30, rfl, le30, ge30, at30⟩
     have nx_H30 := le30.1
     replace hle := hle.trans le30
     replace lst1 := lst1.le le30
     replace at_L3 := le30.2 _ _ at_L3
     replace at_L4 := le30.2 _ _ at_L4
     have lt_at30 := GHeap.lt_of_get at30
     replace h := base_h.mono hle
     refine .r rfl rfl rfl (.appendI rfl sl_22_A ze_2_E rfl by_2_E sl_22_A rfl rfl (by assumption) (by assumption) (by first | omega | (simp <;> omega)) (by omega) (by omega)) ?_
     rintro _ H31 ⟨g31, rfl, st31, ge31, at31⟩
     have nx_H31 := st31.nx
     replace hle := hle.st st31 (fun k hk => ⟨by omega, trivial⟩)
     replace lst1 := lst1.st st31 (fun k hk ho => by simp only [out, and_true] at ho ⊢ <;> omega)
     replace at_L3 := st31.same _ _ ⟨by omega, trivial⟩ at_L3
     replace at30 := st31.same _ _ ⟨by omega, trivial⟩ at30
     have lt_at31 := GHeap.lt_of_get at31
     replace h := base_h.mono hle
     refine .m rfl rfl rfl (.assign rfl) ?_
     refine .nil ?_
     refine hK9 _ _ ?_
     refine .region ?_
     refine .m rfl rfl rfl (.move rfl) ?_
     refine .m rfl rfl rfl (.move rfl) ?_
     refine .r rfl rfl rfl (.litR rfl sl_22_A ze_2_E rfl rfl (by omega) (by omega) rfl rfl) ?_
     rintro _ H34 ⟨g34, rfl, le34, ge34, at34⟩
     have nx_H34 := le34.1
     replace hle := hle.trans le34
     replace lst1 := lst1.le le34
     replace at_L3 := le34.2 _ _ at_L3
     replace at30 := le34.2 _ _ at30
     replace at31 := le34.2 _ _ at31
     have lt_at34 := GHeap.lt_of_get at34
     replace h := base_h.mono hle
     refine .r rfl rfl rfl (.appendI rfl sl_22_A ze_2_E rfl by_2_E sl_22_A rfl rfl (by assumption) (by assumption) (by first | omega | (simp <;> omega)) (by omega) (by omega)) ?_
     rintro _ H35 ⟨g35, rfl, st35, ge35, at35⟩
     have nx_H35 := st35.nx
     replace hle := hle.st st35 (fun k hk => ⟨by omega, trivial⟩)
     replace lst1 := lst1.st st35 (fun k hk ho => by simp only [out, and_true] at ho ⊢ <;> omega)
     replace at30 := st35.same _ _ ⟨by omega, trivial⟩ at30
     replace at31 := st35.same _ _ ⟨by omega, trivial⟩ at31
     replace at34 := st35.same _ _ ⟨by omega, trivial⟩ at34
     have lt_at35 := GHeap.lt_of_get at35
     replace h := base_h.mono hle
     refine .m rfl rfl rfl (.assign rfl) ?_
     refine .nil ?_
     refine hK7 _ _ ?_
     refine .region ?_
     refine .m rfl rfl rfl (.move rfl) ?_
     refine .m rfl rfl rfl (.add rfl rfl rfl (by omega) (by omega)) ?_
     refine .m rfl rfl rfl (.assign rfl) ?_
     refine .nil ?_
     refine hKL1 ((k + 1, _, _, _, _)) _ _ ?_ ?_ ⟨rfl, rfl, rfl, rfl, trivial⟩
     ·
      refine ⟨lst1, by first | assumption | (rw [(cls_new h22).1]; assumption) | (rw [(cls_new h22).2]; assumption) | (rw [(cls_old h22).1]; assumption) | (rw [(cls_old h22).2]; assumption), by omega, by first | omega | (simp only [List.length_append, List.length_cons, List.length_nil] <;> omega) | (rw [(cls_new h22).1] <;> (first | omega | (simp only [List.length_append, List.length_cons, List.length_nil] <;> omega))) | (rw [(cls_new h22).2] <;> (first | omega | (simp only [List.length_append, List.length_cons, List.length_nil] <;> omega))) | (rw [(cls_old h22).1] <;> (first | omega | (simp only [List.length_append, List.length_cons, List.length_nil] <;> omega))) | (rw [(cls_old h22).2] <;> (first | omega | (simp only [List.length_append, List.length_cons, List.length_nil] <;> omega))), by first | assumption | (rw [(cls_new h22).1]; assumption) | (rw [(cls_new h22).2]; assumption) | (rw [(cls_old h22).1]; assumption) | (rw [(cls_old h22).2]; assumption), by omega, by first | omega | (simp only [List.length_append, List.length_cons, List.length_nil] <;> omega) | (rw [(cls_new h22).1] <;> (first | omega | (simp only [List.length_append, List.length_cons, List.length_nil] <;> omega))) | (rw [(cls_new h22).2] <;> (first | omega | (simp only [List.length_append, List.length_cons, List.length_nil] <;> omega))) | (rw [(cls_old h22).1] <;> (first | omega | (simp only [List.length_append, List.length_cons, List.length_nil] <;> omega))) | (rw [(cls_old h22).2] <;> (first | omega | (simp only [List.length_append, List.length_cons, List.length_nil] <;> omega))), by omega, ?_⟩
      omega
     ·
      (dsimp only; omega)
    ·
     try simp only [sps] at h22
     refine .skip ?_
     refine hK9 _ _ ?_
     refine .region ?_
     refine .m rfl rfl rfl (.move rfl) ?_
     refine .m rfl rfl rfl (.move rfl) ?_
     refine .r rfl rfl rfl (.litR rfl sl_22_A ze_2_E rfl rfl (by omega) (by omega) rfl rfl) ?_
     rintro _ H34x2 ⟨g34x2, rfl, le34x2, ge34x2, at34x2⟩
     have nx_H34x2 := le34x2.1
     replace hle := hle.trans le34x2
     replace lst1 := lst1.le le34x2
     replace at_L3 := le34x2.2 _ _ at_L3
     replace at_L4 := le34x2.2 _ _ at_L4
     have lt_at34x2 := GHeap.lt_of_get at34x2
     replace h := base_h.mono hle
     refine .r rfl rfl rfl (.appendI rfl sl_22_A ze_2_E rfl by_2_E sl_22_A rfl rfl (by assumption) (by assumption) (by first | omega | (simp <;> omega)) (by omega) (by omega)) ?_
     rintro _ H35x2 ⟨g35x2, rfl, st35x2, ge35x2, at35x2⟩
     have nx_H35x2 := st35x2.nx
     replace hle := hle.st st35x2 (fun k hk => ⟨by omega, trivial⟩)
     replace lst1 := lst1.st st35x2 (fun k hk ho => by simp only [out, and_true] at ho ⊢ <;> omega)
     replace at_L4 := st35x2.same _ _ ⟨by omega, trivial⟩ at_L4
     replace at34x2 := st35x2.same _ _ ⟨by omega, trivial⟩ at34x2
     have lt_at35x2 := GHeap.lt_of_get at35x2
     replace h := base_h.mono hle
     refine .m rfl rfl rfl (.assign rfl) ?_
     refine .nil ?_
     refine hK7 _ _ ?_
     refine .region ?_
     refine .m rfl rfl rfl (.move rfl) ?_
     refine .m rfl rfl rfl (.add rfl rfl rfl (by omega) (by omega)) ?_
     refine .m rfl rfl rfl (.assign rfl) ?_
     refine .nil ?_
     refine hKL1 ((k + 1, _, _, _, _)) _ _ ?_ ?_ ⟨rfl, rfl, rfl, rfl, trivial⟩
     ·
      refine ⟨lst1, by first | assumption | (rw [(cls_new h22).1]; assumption) | (rw [(cls_new h22).2]; assumption) | (rw [(cls_old h22).1]; assumption) | (rw [(cls_old h22).2]; assumption), by omega, by first | omega | (simp only [List.length_append, List.length_cons, List.length_nil] <;> omega) | (rw [(cls_new h22).1] <;> (first | omega | (simp only [List.length_append, List.length_cons, List.length_nil] <;> omega))) | (rw [(cls_new h22).2] <;> (first | omega | (simp only [List.length_append, List.length_cons, List.length_nil] <;> omega))) | (rw [(cls_old h22).1] <;> (first | omega | (simp only [List.length_append, List.length_cons, List.length_nil] <;> omega))) | (rw [(cls_old h22).2] <;> (first | omega | (simp only [List.length_append, List.length_cons, List.length_nil] <;> omega))), by first | assumption | (rw [(cls_new h22).1]; assumption) | (rw [(cls_new h22).2]; assumption) | (rw [(cls_old h22).1]; assumption) | (rw [(cls_old h22).2]; assumption), by omega, by first | omega | (simp only [List.length_append, List.length_cons, List.length_nil] <;> omega) | (rw [(cls_new h22).1] <;> (first | omega | (simp only [List.length_append, List.length_cons, List.length_nil] <;> omega))) | (rw [(cls_new h22).2] <;> (first | omega | (simp only [List.length_append, List.length_cons, List.length_nil] <;> omega))) | (rw [(cls_old h22).1] <;> (first | omega | (simp only [List.length_append, List.length_cons, List.length_nil] <;> omega))) | (rw [(cls_old h22).2] <;> (first | omega | (simp only [List.length_append, List.length_cons, List.length_nil] <;> omega))), by omega, ?_⟩
      omega
     ·
      (dsimp only; omega)
   ·
    try simp only [sps] at h12
    refine .exit ?_
    refine hK3 _ _ ?_
    refine .seq (fun K12 hK12 => ?_)
    refine .region ?_
    refine .m rfl rfl rfl (.move rfl) ?_
    refine .m rfl rfl rfl (.assign rfl) ?_
    refine .nil ?_
    refine hK12 _ _ ?_
    refine .ret ?_
    -- leaf e1
    refine hret _ _ ?_
    refine ⟨_, rfl, ?_⟩
    obtain rfl : k = xs.length := by omega
    exact ⟨hle, _, by rw [ln_L3], at_L3, by omega⟩
theorem l01ClassesN_c {a : Option Addr} {n : Nat} {xs : List Int} {H : GHeap} (hn : xs.length = n) (h : Ints H a xs := by assumption) (hl : n ≤ 1048576 := by omega) :
    GCalls Try.prog 70 [.slice a n n] H (NewInts 2 H (clsL (kerB xs) n)) := by
  subst hn
  exact l01Classes_c h hl
set_option maxHeartbeats 4000000 in
theorem l01Join_c {a : Option Addr} {n : Nat} {pss : List (List Int)} {r : Nat → Option Addr} {H : GHeap} (h : Intss H a pss r := by assumption) (hn : n ≤ 1048576 := by omega) (hl : pss.length ≤ 1048576 := by omega)
    (hp : ∀ i, i < pss.length → 2 ≤ (pss.getD i []).length ∧ 0 ≤ (pss.getD i []).getD 0 0 ∧ (pss.getD i []).getD 0 0 < n ∧ 0 ≤ (pss.getD i []).getD 1 0 ∧ (pss.getD i []).getD 1 0 < n) :
    GCalls Try.prog 49 [.int .i64 (n : Int), .slice a pss.length pss.length] H (NewInts 2 H (joinL n (pss.map fun p => (pA p, pB p)))) := by
  refine GCalls.body (N := 68) (rs := [.tmp 4]) Try.func49 rfl rfl rfl rfl (fun Qx hret hend => ?_)
  refine .forget (fr' := [(0, some _), (1, some _)]) ⟨rfl, rfl, trivial⟩ ?_
  have hle := GHeap.Le.refl H
  have base_h := h
  refine .seq (fun K1 hK1 => ?_)
  refine .region ?_
  refine .m rfl rfl rfl (.assign rfl) ?_
  refine .nil ?_
  refine hK1 _ _ ?_
  refine .seq (fun K2 hK2 => ?_)
  refine .region ?_
  refine .r rfl rfl rfl (.litR rfl sl_22_A ze_2_E rfl rfl (by omega) (by omega) rfl rfl) ?_
  rintro _ H11 ⟨g11, rfl, le11, ge11, at11⟩
  have nx_H11 := le11.1
  replace hle := hle.trans le11
  have lt_at11 := GHeap.lt_of_get at11
  replace h := base_h.mono hle
  replace at11 : GHeap.get H11 g11 = some (.row (ints []) 2 true) := at11
  refine .m rfl rfl rfl (.assign rfl) ?_
  refine .nil ?_
  refine hK2 _ _ ?_
  refine .seq (fun K3 hK3 => ?_)
  refine .seq (fun K4 hK4 => ?_)
  refine .region ?_
  refine .m rfl rfl rfl (.assign rfl) ?_
  refine .nil ?_
  refine hK4 _ _ ?_
  refine .block ?_
  refine .loopR (σ := Nat × Nat × Nat) [(0, some _), (1, some _)] (fun (k, gL5, nL5) => [(6, some (.int .i64 (k : Int))), (5, some (.slice (some ⟨gL5, 0, none⟩) nL5 nL5))]) (fun (k, gL5, nL5) H' => St [g11] H11 H' ∧ H'.get gL5 = some (.row (ints (numsL k)) 2 true) ∧ (gL5 = g11 ∨ H11.next ≤ gL5) ∧ nL5 = (numsL k).length ∧ k ≤ n) (fun (k, gL5, nL5) => n - k) ((0, _, _)) ⟨rfl, rfl, trivial⟩ ⟨rfl, rfl, trivial⟩ ?_ ?_
  ·
   refine ⟨.refl _ _, by first | assumption | exact at11 | simpa using at11, .inl rfl, by first | rfl | assumption | simp | omega, ?_⟩
   omega
  ·
   rintro ⟨k, gL5, nL5⟩ HL1 ⟨lst1, at_L5, pl_L5, ln_L5, hI⟩ KL1 hKL1
   refine .forget (fr' := [(6, some (.int .i64 (k : Int))), (5, some (.slice (some ⟨gL5, 0, none⟩) nL5 nL5)), (0, some _), (1, some _)]) ⟨rfl, rfl, rfl, rfl, trivial⟩ ?_
   have ge_L5 : H.next ≤ gL5 := by omega
   have nx_HL1 := lst1.nx
   replace hle := hle.st lst1 (fun k hk => ⟨by omega, trivial⟩)
   have lt_at_L5 := GHeap.lt_of_get at_L5
   replace h := base_h.mono hle
   have hl5 : (numsL k).length = k := length_numsL _
   refine .seq (fun K5 hK5 => ?_)
   refine .seq (fun K6 hK6 => ?_)
   refine .region ?_
   refine .m rfl rfl rfl (.move rfl) ?_
   refine .m rfl rfl rfl (.move rfl) ?_
   refine .m rfl rfl rfl (.cmp rfl rfl rfl) ?_
   refine .nil ?_
   refine hK6 _ _ ?_
   refine .cond rfl (fun h14 => ?_) (fun h14 => ?_)
   ·
    try simp only [sps] at h14
    refine .skip ?_
    refine hK5 _ _ ?_
    refine .seq (fun K7 hK7 => ?_)
    refine .block ?_
    refine .region ?_
    refine .m rfl rfl rfl (.move rfl) ?_
    refine .m rfl rfl rfl (.move rfl) ?_
    refine .r rfl rfl rfl (.litR rfl sl_22_A ze_2_E rfl rfl (by omega) (by omega) rfl rfl) ?_
    rintro _ H19 ⟨g19, rfl, le19, ge19, at19⟩
    have nx_H19 := le19.1
    replace hle := hle.trans le19
    replace lst1 := lst1.le le19
    replace at_L5 := le19.2 _ _ at_L5
    have lt_at19 := GHeap.lt_of_get at19
    replace h := base_h.mono hle
    refine .r rfl rfl rfl (.appendI rfl sl_22_A ze_2_E rfl by_2_E sl_22_A rfl rfl (by assumption) (by assumption) (by first | omega | (simp <;> omega)) (by omega) (by omega)) ?_
    rintro _ H20 ⟨g20, rfl, st20, ge20, at20⟩
    have nx_H20 := st20.nx
    replace hle := hle.st st20 (fun k hk => ⟨by omega, trivial⟩)
    replace lst1 := lst1.st st20 (fun k hk ho => by simp only [out, and_true] at ho ⊢ <;> omega)
    replace at19 := st20.same _ _ ⟨by omega, trivial⟩ at19
    have lt_at20 := GHeap.lt_of_get at20
    replace h := base_h.mono hle
    refine .m rfl rfl rfl (.assign rfl) ?_
    refine .nil ?_
    refine hK7 _ _ ?_
    refine .region ?_
    refine .m rfl rfl rfl (.move rfl) ?_
    refine .m rfl rfl rfl (.add rfl rfl rfl (by omega) (by omega)) ?_
    refine .m rfl rfl rfl (.assign rfl) ?_
    refine .nil ?_
    refine hKL1 ((k + 1, _, _)) _ _ ?_ ?_ ⟨rfl, rfl, rfl, rfl, trivial⟩
    ·
     refine ⟨lst1, by first | assumption | (rw [numsL_succ k]; assumption), by omega, by first | omega | (simp only [List.length_append, List.length_cons, List.length_nil] <;> omega) | (rw [numsL_succ k] <;> (first | omega | (simp only [List.length_append, List.length_cons, List.length_nil] <;> omega))), ?_⟩
     omega
    ·
     (dsimp only; omega)
   ·
    try simp only [sps] at h14
    refine .exit ?_
    refine hK3 _ _ ?_
    refine .seq (fun K8 hK8 => ?_)
    refine .seq (fun K9 hK9 => ?_)
    refine .region ?_
    refine .m rfl rfl rfl (.assign rfl) ?_
    refine .nil ?_
    refine hK9 _ _ ?_
    refine .block ?_
    obtain rfl : k = n := by omega
    rw [length_numsL] at ln_L5
    obtain rfl := ln_L5.symm
    refine .loopR (σ := Nat × List Int) [(1, some _), (5, some _)] (fun (j, lab) => [(7, some (.int .i64 (j : Int)))]) (fun (j, lab) H' => St [gL5] HL1 H' ∧ H'.get gL5 = some (.row (ints lab) 2 true) ∧ j ≤ pss.length ∧ lab.length = k ∧ Ker lab (joinK (pairL pss j)) k) (fun (j, lab) => pss.length - j) ((0, numsL k)) ⟨rfl, rfl, trivial⟩ ⟨rfl, trivial⟩ ?_ ?_
    ·
     refine ⟨.refl _ _, by first | assumption | exact at_L5 | simpa using at_L5, ?_⟩
     exact ⟨by omega, length_numsL _, by rw [pairL_zero]; exact Ker.start fun i hi => numsL_get (by omega)⟩
    ·
     rintro ⟨j, lab⟩ HL2 ⟨lst2, at_L5, hI⟩ KL2 hKL2
     refine .forget (fr' := [(7, some (.int .i64 (j : Int))), (1, some _), (5, some _)]) ⟨rfl, rfl, rfl, trivial⟩ ?_
     have nx_HL2 := lst2.nx
     replace hle := hle.st lst2 (fun k hk => ⟨by omega, trivial⟩)
     replace lst1 := lst1.st lst2 (fun k hk ho => by simp only [out, and_true] at ho ⊢ <;> omega)
     have lt_at_L5 := GHeap.lt_of_get at_L5
     replace h := base_h.mono hle
     obtain ⟨hj, hlab, hK⟩ := hI
     have i5 := Ints.of_get at_L5
     have i5s : SlA HL2 _ _ _ := i5
     rw [hlab] at i5s
     refine .seq (fun K10 hK10 => ?_)
     refine .seq (fun K11 hK11 => ?_)
     refine .region ?_
     refine .m rfl rfl rfl (.move rfl) ?_
     refine .m rfl rfl rfl (.move rfl) ?_
     refine .m rfl rfl rfl (.len sl_23_B rfl) ?_
     refine .m rfl rfl rfl (.cmp rfl rfl rfl) ?_
     refine .nil ?_
     refine hK11 _ _ ?_
     refine .cond rfl (fun h24 => ?_) (fun h24 => ?_)
     ·
      simp only [sps] at h24
      have q1 := hp j (by omega)
      have q2 := h.2 j (by omega)
      have q3 : pA (pss.getD j []) < k := by unfold pA; omega
      have q4 : pB (pss.getD j []) < k := by unfold pB; omega
      have q2 := h.2 j (by omega)
      refine .skip ?_
      refine hK10 _ _ ?_
      refine .seq (fun K12 hK12 => ?_)
      refine .block ?_
      refine .seq (fun K13 hK13 => ?_)
      refine .regionD mixed_orders_B (.q 0 (.q 1 (.q 2 (.q 3 (.q 4 (.q 5 (.q 6 (.q 7 (.q 8 (.q 9 (.q 10 (.q 11 (.q 12 (.q 13 (.q 14 (.q 15 (.q 16 (.q 17 (.q 18 (.q 19 (.done))))))))))))))))))))) (by kernel_rfl) ?_
      refine .m rfl rfl rfl rfl (.refl _) (.move rfl) ?_
      refine .m rfl rfl rfl rfl (.refl _) (.move rfl) ?_
      refine .m rfl rfl rfl rfl (.refl _) (.move rfl) ?_
      refine .m rfl rfl rfl rfl (.refl _) (.idxN sl_23_B (Intss.sl (by assumption)) rfl rfl (by omega)) ?_
      refine .m rfl rfl rfl rfl (.refl _) (.loadR on_22_B (by assumption) rfl (by omega)) ?_
      refine .m rfl rfl rfl rfl (.refl _) (.idxN (j := 0) sl_22_A (by assumption) rfl rfl (by omega)) ?_
      refine .m rfl rfl rfl rfl (.refl _) (.loadI on_2_A (by assumption) rfl (by omega)) ?_
      refine .m rfl rfl rfl rfl (.refl _) (.idx1 sl_22_A (by assumption) rfl rfl (by omega) (by omega)) ?_
      refine .m rfl rfl rfl rfl (.refl _) (.loadI on_2_A (by assumption) rfl (by omega)) ?_
      refine .m rfl rfl rfl rfl (.refl _) (.move rfl) ?_
      refine .m rfl rfl rfl rfl (.refl _) (.move rfl) ?_
      refine .m rfl rfl rfl rfl (.refl _) (.move rfl) ?_
      refine .m rfl rfl rfl rfl (.refl _) (.idxN sl_23_B (Intss.sl (by assumption)) rfl rfl (by omega)) ?_
      refine .m rfl rfl rfl rfl (.refl _) (.loadR on_22_B (by assumption) rfl (by omega)) ?_
      refine .m rfl rfl rfl rfl (.refl _) (.idxN (j := 1) sl_22_A (by assumption) rfl rfl (by omega)) ?_
      refine .m rfl rfl rfl rfl (.refl _) (.loadI on_2_A (by assumption) rfl (by omega)) ?_
      refine .m rfl rfl rfl rfl (.refl _) (.idx1 sl_22_A (by assumption) rfl rfl (by omega) (by omega)) ?_
      refine .m rfl rfl rfl rfl (.refl _) (.loadI on_2_A (by assumption) rfl (by omega)) ?_
      refine .m rfl rfl rfl rfl (.refl _) (.assign rfl) ?_
      refine .m rfl rfl rfl rfl (.refl _) (.assign rfl) ?_
      refine .done ?_
      refine hK13 _ _ ?_
      refine .seq (fun K14 hK14 => ?_)
      refine .region ?_
      refine .m rfl rfl rfl (.assign rfl) ?_
      refine .nil ?_
      refine hK14 _ _ ?_
      refine .block ?_
      refine .loopR (σ := Nat) [(1, some _), (5, some _), (7, some _), (8, some _), (9, some _)] (fun e => [(10, some (.int .i64 (e : Int)))]) (fun e H' => St [gL5] HL2 H' ∧ H'.get gL5 = some (.row (ints (relab lab (lab.getD (pA (pss.getD j [])) 0) (lab.getD (pB (pss.getD j [])) 0) e)) 2 true) ∧ e ≤ lab.length) (fun e => lab.length - e) (0) ⟨rfl, rfl, rfl, rfl, rfl, trivial⟩ ⟨rfl, trivial⟩ ?_ ?_
      ·
       refine ⟨.refl _ _, by rw [relab_zero]; assumption, ?_⟩
       omega
      ·
       rintro e HL3 ⟨lst3, at_L5, hI⟩ KL3 hKL3
       refine .forget (fr' := [(10, some (.int .i64 (e : Int))), (1, some _), (5, some _), (7, some _), (8, some _), (9, some _)]) ⟨rfl, rfl, rfl, rfl, rfl, rfl, trivial⟩ ?_
       have nx_HL3 := lst3.nx
       replace hle := hle.st lst3 (fun k hk => ⟨by omega, trivial⟩)
       replace lst1 := lst1.st lst3 (fun k hk ho => by simp only [out, and_true] at ho ⊢ <;> omega)
       replace lst2 := lst2.st lst3 (fun k hk ho => by simp only [out, and_true] at ho ⊢ <;> omega)
       have lt_at_L5 := GHeap.lt_of_get at_L5
       replace h := base_h.mono hle
       clear q2
       have q2 := h.2 j (by omega)
       have i5 := Ints.of_get at_L5
       have hlr := length_relab lab (lab.getD (pA (pss.getD j [])) 0) (lab.getD (pB (pss.getD j [])) 0) e
       have i5s : SlA HL3 _ _ _ := i5
       rw [hlr, hlab] at i5s
       refine .seq (fun K15 hK15 => ?_)
       refine .seq (fun K16 hK16 => ?_)
       refine .region ?_
       refine .m rfl rfl rfl (.move rfl) ?_
       refine .m rfl rfl rfl (.move rfl) ?_
       refine .m rfl rfl rfl (.len sl_22_A rfl) ?_
       refine .m rfl rfl rfl (.cmp rfl rfl rfl) ?_
       refine .m rfl rfl rfl (.move rfl) ?_
       refine .split (fun h49 => ?_) (fun h49 => ?_)
       ·
        try simp only [sps] at h49
        refine .mg rfl rfl rfl rfl rfl (.move rfl) ?_
        refine .mg rfl rfl rfl rfl rfl (.move rfl) ?_
        refine .mg rfl rfl rfl rfl rfl (.cmp rfl rfl rfl) ?_
        refine .m rfl rfl rfl (.pickT rfl rfl) ?_
        refine .nil ?_
        refine hK16 _ _ ?_
        refine .cond rfl (fun h53 => ?_) (fun h53 => ?_)
        ·
         try simp only [sps] at h53
         refine .skip ?_
         refine hK15 _ _ ?_
         refine .seq (fun K17 hK17 => ?_)
         refine .block ?_
         refine .seq (fun K18 hK18 => ?_)
         refine .region ?_
         refine .m rfl rfl rfl (.move rfl) ?_
         refine .m rfl rfl rfl (.move rfl) ?_
         refine .m rfl rfl rfl (.idxN sl_22_A (by assumption) rfl rfl (by omega)) ?_
         refine .m rfl rfl rfl (.loadI on_2_A (by assumption) rfl (by omega)) ?_
         refine .m rfl rfl rfl (.move rfl) ?_
         refine .m rfl rfl rfl (.cmp rfl rfl rfl) ?_
         refine .nil ?_
         refine hK18 _ _ ?_
         refine .cond rfl (fun h61 => ?_) (fun h61 => ?_)
         ·
          simp only [sps] at h61
          rw [relab_getD (by omega), if_neg (by omega)] at h61
          refine .region ?_
          refine .m rfl rfl rfl (.move rfl) ?_
          refine .m rfl rfl rfl (.move rfl) ?_
          refine .m rfl rfl rfl (.move rfl) ?_
          refine .m rfl rfl rfl (.idxN sl_22_A (by assumption) rfl rfl (by omega)) ?_
          refine .r0 rfl rfl (.storeI rfl sz_2_E rfl rfl (by assumption) (by first | omega | (simp <;> omega))) ?_
          rintro _ H14004 ⟨rfl, st14004, at14004⟩
          have nx_H14004 := st14004.nx
          replace hle := hle.st st14004 (fun k hk => ⟨by omega, trivial⟩)
          replace lst1 := lst1.st st14004 (fun k hk ho => by simp only [out, and_true] at ho ⊢ <;> omega)
          replace lst2 := lst2.st st14004 (fun k hk ho => by simp only [out, and_true] at ho ⊢ <;> omega)
          replace lst3 := lst3.st st14004 (fun k hk ho => by simp only [out, and_true] at ho ⊢ <;> omega)
          have lt_at14004 := GHeap.lt_of_get at14004
          replace h := base_h.mono hle
          clear q2
          have q2 := h.2 j (by omega)
          refine .nil ?_
          refine hK17 _ _ ?_
          refine .region ?_
          refine .m rfl rfl rfl (.move rfl) ?_
          refine .m rfl rfl rfl (.add rfl rfl rfl (by omega) (by omega)) ?_
          refine .m rfl rfl rfl (.assign rfl) ?_
          refine .nil ?_
          refine hKL3 (e + 1) _ _ ?_ ?_ ⟨rfl, rfl, rfl, rfl, rfl, rfl, trivial⟩
          ·
           refine ⟨lst3, by first | (rw [relab_T (b := lab.getD (pB (pss.getD j [])) 0) (by omega) h61]; have e9 := at14004; rw [Nat.zero_add] at e9; exact e9) | (rw [relab_F (b := lab.getD (pB (pss.getD j [])) 0) (by omega) h61]; assumption), ?_⟩
           omega
          ·
           omega
         ·
          simp only [sps] at h61
          rw [relab_getD (by omega), if_neg (by omega)] at h61
          refine .skip ?_
          refine hK17 _ _ ?_
          refine .region ?_
          refine .m rfl rfl rfl (.move rfl) ?_
          refine .m rfl rfl rfl (.add rfl rfl rfl (by omega) (by omega)) ?_
          refine .m rfl rfl rfl (.assign rfl) ?_
          refine .nil ?_
          refine hKL3 (e + 1) _ _ ?_ ?_ ⟨rfl, rfl, rfl, rfl, rfl, rfl, trivial⟩
          ·
           refine ⟨lst3, by first | (rw [relab_T (b := lab.getD (pB (pss.getD j [])) 0) (by omega) h61]; have e9 := at14004; rw [Nat.zero_add] at e9; exact e9) | (rw [relab_F (b := lab.getD (pB (pss.getD j [])) 0) (by omega) h61]; assumption), ?_⟩
           omega
          ·
           omega
        ·
         simp only [sps] at h53
         refine .exit ?_
         refine hK12 _ _ ?_
         refine .region ?_
         refine .m rfl rfl rfl (.move rfl) ?_
         refine .m rfl rfl rfl (.add rfl rfl rfl (by omega) (by omega)) ?_
         refine .m rfl rfl rfl (.assign rfl) ?_
         refine .nil ?_
         refine hKL2 ((j + 1, relab lab (lab.getD (pA (pss.getD j [])) 0) (lab.getD (pB (pss.getD j [])) 0) e)) _ _ ?_ ?_ ⟨rfl, rfl, rfl, trivial⟩
         ·
          refine ⟨lst2, by assumption, ?_⟩
          exact ⟨by omega, by rw [length_relab]; omega, by rw [pairL_succ (by omega), joinK_snoc]; exact hK.relab hlab (by omega) (by omega) (by first | exact .inl (by omega) | exact .inr h53)⟩
         ·
          (dsimp only; omega)
       ·
        simp only [sps] at h49
        refine .sg rfl rfl rfl rfl rfl ?_
        refine .sg rfl rfl rfl rfl rfl ?_
        refine .sg rfl rfl rfl rfl rfl ?_
        refine .m rfl rfl rfl (.pickF rfl rfl) ?_
        refine .nil ?_
        refine hK16 _ _ ?_
        refine .condF rfl ?_
        refine .exit ?_
        refine hK12 _ _ ?_
        refine .region ?_
        refine .m rfl rfl rfl (.move rfl) ?_
        refine .m rfl rfl rfl (.add rfl rfl rfl (by omega) (by omega)) ?_
        refine .m rfl rfl rfl (.assign rfl) ?_
        refine .nil ?_
        refine hKL2 ((j + 1, relab lab (lab.getD (pA (pss.getD j [])) 0) (lab.getD (pB (pss.getD j [])) 0) e)) _ _ ?_ ?_ ⟨rfl, rfl, rfl, trivial⟩
        ·
         refine ⟨lst2, by assumption, ?_⟩
         exact ⟨by omega, by rw [length_relab]; omega, by rw [pairL_succ (by omega), joinK_snoc]; exact hK.relab hlab (by omega) (by omega) (by first | exact .inl (by omega) | exact .inr h53)⟩
        ·
         (dsimp only; omega)
     ·
      try simp only [sps] at h24
      refine .exit ?_
      refine hK8 _ _ ?_
      refine .seq (fun K19 hK19 => ?_)
      refine .region ?_
      obtain rfl : j = pss.length := by omega
      refine .m rfl rfl rfl (.move rfl) ?_
      refine .call rfl rfl rfl rfl @Try.call70 rfl (l01ClassesN_c hlab) ?_
      rintro _ H67 ⟨le67, g67, rfl, at67, ge67⟩
      have nx_H67 := le67.1
      replace hle := hle.trans le67
      replace lst1 := lst1.le le67
      replace at_L5 := le67.2 _ _ at_L5
      have lt_at67 := GHeap.lt_of_get at67
      replace h := base_h.mono hle
      have i67 := Ints.of_get at67
      refine .m rfl rfl rfl (.assign rfl) ?_
      refine .nil ?_
      refine hK19 _ _ ?_
      refine .ret ?_
      -- leaf e1
      refine hret _ _ ?_
      refine ⟨_, rfl, ?_⟩
      rw [pairL_all] at hK
      have e1 := hK.cls
      exact ⟨hle, g67, by rw [length_joinL, length_clsL], by unfold joinL; rw [← e1]; exact at67, by omega⟩
theorem l01JoinN_c {a : Option Addr} {n' : Int} {n L : Nat} {pss : List (List Int)} {r : Nat → Option Addr} {H : GHeap} (hn' : n' = (n : Int)) (hL : pss.length = L) (h : Intss H a pss r) (hn : n ≤ 1048576) (hl : L ≤ 1048576)
    (hp : ∀ i, i < pss.length → 2 ≤ (pss.getD i []).length ∧ 0 ≤ (pss.getD i []).getD 0 0 ∧ (pss.getD i []).getD 0 0 < n ∧ 0 ≤ (pss.getD i []).getD 1 0 ∧ (pss.getD i []).getD 1 0 < n) :
    GCalls Try.prog 49 [.int .i64 n', .slice a L L] H (NewInts 2 H (joinL n (pss.map fun p => (pA p, pB p)))) := by
  subst hn' hL
  exact l01Join_c h hn hl hp
theorem l01JoinM_c {a : Option Addr} {n' : Int} {n L : Nat} {pss : List (List Int)} {r : Nat → Option Addr} {cs : List Int} {H : GHeap} (hcs : joinL n (pss.map fun p => (pA p, pB p)) = cs) (hn' : n' = (n : Int)) (hL : pss.length = L) (h : Intss H a pss r) (hn : n ≤ 1048576) (hl : L ≤ 1048576)
    (hp : ∀ i, i < pss.length → 2 ≤ (pss.getD i []).length ∧ 0 ≤ (pss.getD i []).getD 0 0 ∧ (pss.getD i []).getD 0 0 < n ∧ 0 ≤ (pss.getD i []).getD 1 0 ∧ (pss.getD i []).getD 1 0 < n) :
    GCalls Try.prog 49 [.int .i64 n', .slice a L L] H (NewInts 2 H cs) := by
  subst hcs
  exact l01JoinN_c hn' hL h hn hl hp
end Go.Proofs.Ytkcpjflhjghapaa
/- Partitions: the program's joiner. No condition but those of each statement. -/
namespace Go.Proofs.Ytkcpjflhjghapaa
open Go Go.GL Go.RowKit Go.Proofs
theorem sl_64_Pb : sliceT Try.prog 64 = some (2, 1) := by kernel_rfl
theorem sl_68_Pb : sliceT Try.prog 68 = some (2, 1) := by kernel_rfl
theorem mp_94_Pb : mapIT Try.prog 94 = some 2 := by kernel_rfl
theorem zv_2_Pb : zvT Try.prog 2 = some (.int .i64 0) := by kernel_rfl
theorem joinerOf_c {n : Int} {H : GHeap} (h0 : 0 ≤ n := by omega) (hn : n ≤ 1048576 := by omega) : GCalls Try.prog 33 [.int .i64 n] H (NewInts 2 H (numsL n.toNat)) := by
  refine GCalls.body (N := 5) (rs := [.tmp 2]) Try.func33 rfl rfl rfl rfl (fun Qx hret hend => ?_)
  refine .forget (fr' := [(0, some _)]) ⟨rfl, trivial⟩ ?_
  have hle := GHeap.Le.refl H
  refine .seq (fun K1 hK1 => ?_)
  refine .region ?_
  refine .m rfl rfl rfl (.assign rfl) ?_
  refine .nil ?_
  refine hK1 _ _ ?_
  refine .seq (fun K2 hK2 => ?_)
  refine .region ?_
  refine .m rfl rfl rfl (.move rfl) ?_
  refine .call rfl rfl rfl rfl @Try.call52 rfl (numbers_c) ?_
  rintro _ H4 ⟨le4, g4, rfl, at4, ge4⟩
  have nx_H4 := le4.1
  replace hle := hle.trans le4
  have lt_at4 := GHeap.lt_of_get at4
  have i4 := Ints.of_get at4
  refine .m rfl rfl rfl (.assign rfl) ?_
  refine .nil ?_
  refine hK2 _ _ ?_
  refine .ret ?_
  -- leaf e1
  refine hret _ _ ?_
  refine ⟨_, rfl, ?_⟩
  exact ⟨hle, g4, rfl, at4, by omega⟩
theorem root_c {g N : Nat} {x : Int} {js : List Int} {H : GHeap} (hg : H.get g = some (.row (ints js) 2 true) := by assumption) (hF : Forest js := by assumption) (hN : js.length = N := by assumption) (hn : N ≤ 1048576 := by omega) (h0 : 0 ≤ x := by omega) (hx : x < N := by omega) :
    GCalls Try.prog 53 [.slice (some ⟨g, 0, none⟩) N N, .int .i64 x] H (fun v H' => v = .int .i64 (rootOf js x.toNat : Int) ∧ St [g] H H' ∧ ∃ js', H'.get g = some (.row (ints js') 2 true) ∧ js'.length = N ∧ Forest js' ∧ ∀ z, z < N → rootOf js' z = rootOf js z) := by
  refine GCalls.body (N := 26) (rs := [.tmp 4]) Try.func53 rfl rfl rfl rfl (fun Qx hret hend => ?_)
  refine .forget (fr' := [(0, some _), (1, some _)]) ⟨rfl, rfl, trivial⟩ ?_
  have lt_hg := GHeap.lt_of_get hg
  refine .seq (fun K1 hK1 => ?_)
  refine .region ?_
  refine .m rfl rfl rfl (.assign rfl) ?_
  refine .nil ?_
  refine hK1 _ _ ?_
  refine .seq (fun K2 hK2 => ?_)
  refine .block ?_
  refine .loopR (σ := Int × List Int) [(0, some _)] (fun (y, ks) => [(1, some (.int .i64 y))]) (fun (y, ks) H' => St [g] H H' ∧ H'.get g = some (.row (ints ks) 2 true) ∧ 0 ≤ y ∧ y < N ∧ ks.length = N ∧ Forest ks ∧ (∀ z, z < N → rootOf ks z = rootOf js z) ∧ rootOf js y.toNat = rootOf js x.toNat) (fun (y, ks) => y.toNat) ((x, js)) ⟨rfl, trivial⟩ ⟨rfl, trivial⟩ ?_ ?_
  ·
   refine ⟨.refl _ _, by first | assumption | exact hg | simpa using hg, ?_⟩
   exact ⟨by omega, by omega, hN, hF, fun _ _ => rfl, rfl⟩
  ·
   rintro ⟨y, ks⟩ HL1 ⟨lst1, at_L0, hI⟩ KL1 hKL1
   refine .forget (fr' := [(1, some (.int .i64 y)), (0, some _)]) ⟨rfl, rfl, trivial⟩ ?_
   have nx_HL1 := lst1.nx
   have lt_at_L0 := GHeap.lt_of_get at_L0
   obtain ⟨hy0, hy, hkl, hkF, hkr, hyr⟩ := hI
   have i0 := Ints.of_get at_L0
   have i0s : SlA HL1 _ _ _ := i0
   rw [hkl] at i0s
   have u1 := hkF.up y.toNat (by omega)
   refine .seq (fun K3 hK3 => ?_)
   refine .seq (fun K4 hK4 => ?_)
   refine .region ?_
   refine .m rfl rfl rfl (.move rfl) ?_
   refine .m rfl rfl rfl (.move rfl) ?_
   refine .m rfl rfl rfl (.idx1 sl_64_Pb (by assumption) rfl rfl (by omega) (by omega)) ?_
   refine .m rfl rfl rfl (.loadI on_2_A (by assumption) rfl (by omega)) ?_
   refine .m rfl rfl rfl (.move rfl) ?_
   refine .m rfl rfl rfl (.cmp rfl rfl rfl) ?_
   refine .nil ?_
   refine hK4 _ _ ?_
   refine .cond rfl (fun h10 => ?_) (fun h10 => ?_)
   ·
    simp only [sps] at h10
    have u2 := hkF.up (ks.getD y.toNat 0).toNat (by omega)
    refine .skip ?_
    refine hK3 _ _ ?_
    refine .block ?_
    refine .seq (fun K5 hK5 => ?_)
    refine .region ?_
    refine .m rfl rfl rfl (.move rfl) ?_
    refine .m rfl rfl rfl (.move rfl) ?_
    refine .m rfl rfl rfl (.move rfl) ?_
    refine .m rfl rfl rfl (.move rfl) ?_
    refine .m rfl rfl rfl (.move rfl) ?_
    refine .m rfl rfl rfl (.idx1 sl_64_Pb (by assumption) rfl rfl (by omega) (by omega)) ?_
    refine .m rfl rfl rfl (.loadI on_2_A (by assumption) rfl (by omega)) ?_
    refine .m rfl rfl rfl (.idx1 sl_64_Pb (by assumption) rfl rfl (by omega) (by omega)) ?_
    refine .m rfl rfl rfl (.loadI on_2_A (by assumption) rfl (by omega)) ?_
    refine .m rfl rfl rfl (.idx1 sl_64_Pb (by assumption) rfl rfl (by omega) (by omega)) ?_
    refine .r0 rfl rfl (.storeI rfl sz_2_E rfl rfl (by assumption) (by first | omega | (simp <;> omega))) ?_
    rintro _ H2010 ⟨rfl, st2010, at2010⟩
    have nx_H2010 := st2010.nx
    replace lst1 := lst1.st st2010 (fun k hk ho => by simp only [out, and_true] at ho ⊢ <;> omega)
    have lt_at2010 := GHeap.lt_of_get at2010
    rw [Nat.zero_add] at at2010
    refine .nil ?_
    refine hK5 _ _ ?_
    refine .region ?_
    have i9 := Ints.of_get at2010
    have i9s : SlA H2010 _ _ _ := i9
    rw [List.length_set, hkl] at i9s
    have hls : (ks.set y.toNat (ks.getD (ks.getD y.toNat 0).toNat 0)).length = ks.length := List.length_set
    refine .m rfl rfl rfl (.move rfl) ?_
    refine .m rfl rfl rfl (.move rfl) ?_
    refine .m rfl rfl rfl (.idx1 sl_64_Pb (by assumption) rfl rfl (by omega) (by omega)) ?_
    refine .m rfl rfl rfl (.loadI on_2_A (by assumption) rfl (by omega)) ?_
    refine .m rfl rfl rfl (.assign rfl) ?_
    refine .nil ?_
    refine hKL1 (((ks.set y.toNat (ks.getD (ks.getD y.toNat 0).toNat 0)).getD y.toNat 0, ks.set y.toNat (ks.getD (ks.getD y.toNat 0).toNat 0))) _ _ ?_ ?_ ⟨rfl, rfl, trivial⟩
    ·
     refine ⟨lst1, by assumption, ?_⟩
     obtain ⟨f1, f2⟩ := rootOf_set hkF (x := y.toNat) (y := (ks.getD (ks.getD y.toNat 0).toNat 0).toNat) (by omega) (by omega) (by rw [rootOf_parent hkF (by omega), rootOf_parent hkF (by omega)])
     rw [Int.toNat_of_nonneg u2.1] at f1 f2
     have hgy : (ks.set y.toNat (ks.getD (ks.getD y.toNat 0).toNat 0)).getD y.toNat 0 = ks.getD (ks.getD y.toNat 0).toNat 0 := by rw [getD_set (by omega), if_pos rfl]
     rw [hgy]
     refine ⟨by omega, by omega, by rw [List.length_set]; exact hkl, f1, fun z hz => by rw [f2 z (by omega)]; exact hkr z hz, ?_⟩
     rw [← hkr _ (by omega), rootOf_parent hkF (by omega), rootOf_parent hkF (by omega), hkr _ (by omega)]
     exact hyr
    ·
     have hgy : (ks.set y.toNat (ks.getD (ks.getD y.toNat 0).toNat 0)).getD y.toNat 0 = ks.getD (ks.getD y.toNat 0).toNat 0 := by rw [getD_set (by omega), if_pos rfl]
     dsimp only
     rw [hgy]
     omega
   ·
    simp only [sps] at h10
    refine .exit ?_
    refine hK2 _ _ ?_
    refine .seq (fun K6 hK6 => ?_)
    refine .region ?_
    refine .m rfl rfl rfl (.move rfl) ?_
    refine .m rfl rfl rfl (.assign rfl) ?_
    refine .nil ?_
    refine hK6 _ _ ?_
    refine .ret ?_
    -- leaf e1
    refine hret _ _ ?_
    refine ⟨_, rfl, ?_⟩
    have e1 : rootOf ks y.toNat = y.toNat := rootOf_fix (by omega)
    refine ⟨?_, lst1, ks, at_L0, hkl, hkF, hkr⟩
    rw [← hyr, ← hkr _ (by omega), e1, Int.toNat_of_nonneg hy0]
theorem join_c {g N : Nat} {p q : Int} {js : List Int} {K : Nat → Nat → Bool} {H : GHeap} (hg : H.get g = some (.row (ints js) 2 true) := by assumption) (hK : RootK js K N := by assumption) (hn : N ≤ 1048576 := by omega) (h0 : 0 ≤ p := by omega) (hp : p < N := by omega) (h1 : 0 ≤ q := by omega) (hq : q < N := by omega) :
    GCalls Try.prog 34 [.slice (some ⟨g, 0, none⟩) N N, .int .i64 p, .int .i64 q] H (fun v H' => (∃ b, v = .bool b) ∧ St [g] H H' ∧ ∃ js', H'.get g = some (.row (ints js') 2 true) ∧ RootK js' (stepK K p.toNat q.toNat) N) := by
  have hN := hK.1
  have hF := hK.2.1
  refine GCalls.body (N := 26) (rs := [.tmp 6]) Try.func34 rfl rfl rfl rfl (fun Qx hret hend => ?_)
  refine .forget (fr' := [(0, some _), (1, some _), (2, some _)]) ⟨rfl, rfl, rfl, trivial⟩ ?_
  have lt_hg := GHeap.lt_of_get hg
  refine .seq (fun K1 hK1 => ?_)
  refine .region ?_
  refine .m rfl rfl rfl (.assign rfl) ?_
  refine .nil ?_
  refine hK1 _ _ ?_
  refine .seq (fun K2 hK2 => ?_)
  refine .region ?_
  refine .m rfl rfl rfl (.move rfl) ?_
  refine .m rfl rfl rfl (.move rfl) ?_
  refine .call rfl rfl rfl rfl @Try.call53 rfl (root_c) ?_
  rintro _ H11 ⟨rfl, st11, js11, at11, hl11, hf11, hr11⟩
  have nx_H11 := st11.nx
  have lt_at11 := GHeap.lt_of_get at11
  refine .m rfl rfl rfl (.move rfl) ?_
  refine .m rfl rfl rfl (.move rfl) ?_
  refine .call rfl rfl rfl rfl @Try.call53 rfl (root_c) ?_
  rintro _ H14 ⟨rfl, st14, js14, at14, hl14, hf14, hr14⟩
  have nx_H14 := st14.nx
  have lt_at14 := GHeap.lt_of_get at14
  refine .m rfl rfl rfl (.assign rfl) ?_
  refine .m rfl rfl rfl (.assign rfl) ?_
  refine .nil ?_
  refine hK2 _ _ ?_
  refine .seq (fun K3 hK3 => ?_)
  refine .region ?_
  have lp := rootOf_le js p.toNat
  have lq := rootOf_le js11 q.toNat
  have i9 := Ints.of_get at14
  have i9s : SlA H14 _ _ _ := i9
  rw [hl14] at i9s
  have e1 := hr11 q.toNat (by omega)
  have hK2 := (hK.same (by omega) hf11 (fun z hz => hr11 z (by omega))).same (by omega) hf14 (fun z hz => hr14 z (by omega))
  have hj := hK2.join (p := p.toNat) (q := q.toNat) (by omega) (by omega)
  have e2 : rootOf js14 p.toNat = rootOf js p.toNat := by rw [hr14 _ (by omega), hr11 _ (by omega)]
  have e3 : rootOf js14 q.toNat = rootOf js11 q.toNat := hr14 _ (by omega)
  have e4 : (max ((rootOf js p.toNat : Nat) : Int) ((rootOf js11 q.toNat : Nat) : Int)).toNat = max (rootOf js p.toNat) (rootOf js11 q.toNat) := by omega
  have e5 : min ((rootOf js p.toNat : Nat) : Int) ((rootOf js11 q.toNat : Nat) : Int) = ((min (rootOf js p.toNat) (rootOf js11 q.toNat) : Nat) : Int) := by omega
  refine .m rfl rfl rfl (.move rfl) ?_
  refine .m rfl rfl rfl (.move rfl) ?_
  refine .m rfl rfl rfl (.move rfl) ?_
  refine .m rfl rfl rfl (.max2 rfl rfl) ?_
  refine .m rfl rfl rfl (.move rfl) ?_
  refine .m rfl rfl rfl (.move rfl) ?_
  refine .m rfl rfl rfl (.min2 rfl rfl) ?_
  refine .m rfl rfl rfl (.idx1 sl_64_Pb (by assumption) rfl rfl (by omega) (by omega)) ?_
  refine .r0 rfl rfl (.storeI rfl sz_2_E rfl rfl (by assumption) (by first | omega | (simp <;> omega))) ?_
  rintro _ H2008 ⟨rfl, st2008, at2008⟩
  have nx_H2008 := st2008.nx
  have lt_at2008 := GHeap.lt_of_get at2008
  rw [Nat.zero_add] at at2008
  refine .nil ?_
  refine hK3 _ _ ?_
  refine .seq (fun K4 hK4 => ?_)
  refine .region ?_
  refine .m rfl rfl rfl (.move rfl) ?_
  refine .m rfl rfl rfl (.move rfl) ?_
  refine .m rfl rfl rfl (.cmp rfl rfl rfl) ?_
  refine .m rfl rfl rfl (.assign rfl) ?_
  refine .nil ?_
  refine hK4 _ _ ?_
  refine .ret ?_
  -- leaf e1
  refine hret _ _ ?_
  refine ⟨_, rfl, ?_⟩
  rw [e2, e3] at hj
  refine ⟨⟨_, rfl⟩, ?_, _, at2008, ?_⟩
  · exact (st11.st st14 (fun k _ h => h)).st st2008 (fun k _ h => h)
  · rw [e4, e5]; exact hj
theorem normal_c {a : Option Addr} {xs : List Int} {H : GHeap} (h : Ints H a xs := by assumption) (hl : xs.length ≤ 1048576 := by omega) :
    GCalls Try.prog 54 [.slice a xs.length xs.length] H (NewInts 2 H (clsL (kerB xs) xs.length)) := by
  refine GCalls.body (N := 39) (rs := [.tmp 2]) Try.func54 rfl rfl rfl rfl (fun Qx hret hend => ?_)
  refine .forget (fr' := [(0, some _)]) ⟨rfl, trivial⟩ ?_
  have hle := GHeap.Le.refl H
  have base_h := h
  refine .seq (fun K1 hK1 => ?_)
  refine .region ?_
  refine .m rfl rfl rfl (.assign rfl) ?_
  refine .nil ?_
  refine hK1 _ _ ?_
  refine .seq (fun K2 hK2 => ?_)
  refine .region ?_
  refine .r rfl rfl rfl (.makeMapR rfl) ?_
  rintro _ H9 ⟨g9, rfl, le9, ge9, at9⟩
  have nx_H9 := le9.1
  replace hle := hle.trans le9
  have lt_at9 := GHeap.lt_of_get at9
  replace h := base_h.mono hle
  refine .m rfl rfl rfl (.assign rfl) ?_
  refine .nil ?_
  refine hK2 _ _ ?_
  refine .seq (fun K3 hK3 => ?_)
  refine .region ?_
  refine .m rfl rfl rfl (.move rfl) ?_
  refine .m rfl rfl rfl (.len sl_22_A rfl) ?_
  refine .r rfl rfl rfl (.makeIN rfl sl_68_Pb ze_2_E by_2_E rfl rfl (by omega) (by omega) (by omega)) ?_
  rintro _ H12 ⟨g12, rfl, le12, ge12, at12⟩
  have nx_H12 := le12.1
  replace hle := hle.trans le12
  replace at9 := le12.2 _ _ at9
  have lt_at12 := GHeap.lt_of_get at12
  replace h := base_h.mono hle
  refine .m rfl rfl rfl (.assign rfl) ?_
  refine .nil ?_
  refine hK3 _ _ ?_
  refine .seq (fun K4 hK4 => ?_)
  refine .seq (fun K5 hK5 => ?_)
  refine .region ?_
  refine .m rfl rfl rfl (.move rfl) ?_
  refine .m rfl rfl rfl (.len sl_22_A rfl) ?_
  refine .m rfl rfl rfl (.move rfl) ?_
  refine .nil ?_
  refine hK5 _ _ ?_
  refine .block ?_
  have at9' : GHeap.get H12 g9 = some (.map (imap (seenE xs 0))) := by rw [seenE_zero]; exact at9
  refine .loopR (σ := Nat) [(3, some _), (4, some _), (13, some _), (14, some _)] (fun k => [(15, some (.int .i64 (k : Int)))]) (fun k H' => St [g9, g12] H12 H' ∧ H'.get g9 = some (.map (imap ((seenE xs k)))) ∧ H'.get g12 = some (.row (ints (part0 xs.length (clsAt (kerB xs)) k)) 2 true) ∧ k ≤ xs.length) (fun k => xs.length - k) (0) ⟨rfl, rfl, rfl, rfl, trivial⟩ ⟨rfl, trivial⟩ ?_ ?_
  ·
   refine ⟨.refl _ _, by first | assumption | (rw [part0_zero]; simpa using at12), by first | assumption | (rw [part0_zero]; simpa using at12), ?_⟩
   omega
  ·
   rintro k HL1 ⟨lst1, at_L3, at_L4, hI⟩ KL1 hKL1
   refine .forget (fr' := [(15, some (.int .i64 (k : Int))), (3, some _), (4, some _), (13, some _), (14, some _)]) ⟨rfl, rfl, rfl, rfl, rfl, trivial⟩ ?_
   have nx_HL1 := lst1.nx
   replace hle := hle.st lst1 (fun k hk => ⟨by omega, by omega, trivial⟩)
   have lt_at_L3 := GHeap.lt_of_get at_L3
   have lt_at_L4 := GHeap.lt_of_get at_L4
   replace h := base_h.mono hle
   have i4 := Ints.of_get at_L4
   have i4s : SlA HL1 _ _ _ := i4
   rw [length_part0] at i4s
   have hl4 : (part0 xs.length (clsAt (kerB xs)) k).length = xs.length := length_part0 _ _ _
   refine .seq (fun K6 hK6 => ?_)
   refine .region ?_
   refine .m rfl rfl rfl (.cmp rfl rfl rfl) ?_
   refine .nil ?_
   refine hK6 _ _ ?_
   refine .seq (fun K7 hK7 => ?_)
   refine .cond rfl (fun h16 => ?_) (fun h16 => ?_)
   ·
    try simp only [sps] at h16
    refine .skip ?_
    refine hK7 _ _ ?_
    refine .seq (fun K8 hK8 => ?_)
    refine .block ?_
    refine .seq (fun K9 hK9 => ?_)
    refine .region ?_
    refine .m rfl rfl rfl (.move rfl) ?_
    refine .m rfl rfl rfl (.idxN sl_22_A (by assumption) rfl rfl (by omega)) ?_
    refine .m rfl rfl rfl (.loadI on_2_A (by assumption) rfl (by omega)) ?_
    refine .m rfl rfl rfl (.assign rfl) ?_
    refine .m rfl rfl rfl (.assign rfl) ?_
    refine .nil ?_
    refine hK9 _ _ ?_
    refine .seq (fun K10 hK10 => ?_)
    refine .region ?_
    refine .m rfl rfl rfl (.move rfl) ?_
    refine .m rfl rfl rfl (.move rfl) ?_
    refine .d rfl rfl rfl (.lookupR rfl mp_94_Pb zv_2_Pb rfl rfl (by assumption) CIs.mk) ?_
    refine .m rfl rfl rfl (.move rfl) ?_
    refine .m rfl rfl rfl (.extract rfl rfl) ?_
    refine .m rfl rfl rfl (.extract rfl rfl) ?_
    refine .m rfl rfl rfl (.assign rfl) ?_
    refine .m rfl rfl rfl (.assign rfl) ?_
    refine .nil ?_
    refine hK10 _ _ ?_
    refine .seq (fun K11 hK11 => ?_)
    refine .seq (fun K12 hK12 => ?_)
    refine .region ?_
    refine .m rfl rfl rfl (.move rfl) ?_
    refine .m rfl rfl rfl (.not rfl) ?_
    refine .nil ?_
    refine hK12 _ _ ?_
    refine .cond rfl (fun h27 => ?_) (fun h27 => ?_)
    ·
     simp only [sps] at h27
     obtain ⟨q1, q2⟩ : idxL (seenL xs k) (xs.getD k 0) < 0 ∧ lookE (seenE xs k) (xs.getD k 0) = none := by
       rcases lookE_seen xs k (xs.getD k 0) with h | h
       · exact h
       · rw [h.2] at h27; cases h27
     refine .seq (fun K13 hK13 => ?_)
     refine .region ?_
     refine .m rfl rfl rfl (.move rfl) ?_
     refine .d rfl rfl rfl (.lenMap rfl mp_94_Pb rfl (by assumption) CIs.mk) ?_
     refine .m rfl rfl rfl (.assign rfl) ?_
     refine .nil ?_
     refine hK13 _ _ ?_
     refine .region ?_
     refine .m rfl rfl rfl (.move rfl) ?_
     refine .m rfl rfl rfl (.move rfl) ?_
     refine .m rfl rfl rfl (.move rfl) ?_
     refine .r0 rfl rfl (.mapPutR rfl mp_94_Pb rfl rfl rfl (by assumption) (by assumption)) ?_
     rintro _ H9003 ⟨rfl, st9003, at9003⟩
     have nx_H9003 := st9003.nx
     replace hle := hle.st st9003 (fun k hk => ⟨by omega, trivial⟩)
     replace lst1 := lst1.st st9003 (fun k hk ho => by simp only [out, and_true] at ho ⊢ <;> omega)
     replace at_L4 := st9003.same _ _ ⟨by omega, trivial⟩ at_L4
     have lt_at9003 := GHeap.lt_of_get at9003
     replace h := base_h.mono hle
     refine .nil ?_
     refine hK11 _ _ ?_
     refine .region ?_
     have i4 := Ints.of_get at_L4
     have i4s : SlA _ _ _ _ := i4
     rw [length_part0] at i4s
     refine .m rfl rfl rfl (.move rfl) ?_
     refine .m rfl rfl rfl (.move rfl) ?_
     refine .m rfl rfl rfl (.move rfl) ?_
     refine .m rfl rfl rfl (.idxN sl_68_Pb (by assumption) rfl rfl (by omega)) ?_
     refine .r0 rfl rfl (.storeI rfl sz_2_E rfl rfl (by assumption) (by first | omega | (simp <;> omega))) ?_
     rintro _ H10004 ⟨rfl, st10004, at10004⟩
     have nx_H10004 := st10004.nx
     replace hle := hle.st st10004 (fun k hk => ⟨by omega, trivial⟩)
     replace lst1 := lst1.st st10004 (fun k hk ho => by simp only [out, and_true] at ho ⊢ <;> omega)
     replace at9003 := st10004.same _ _ ⟨by omega, trivial⟩ at9003
     have lt_at10004 := GHeap.lt_of_get at10004
     replace h := base_h.mono hle
     rw [Nat.zero_add] at at10004
     refine .nil ?_
     refine hK8 _ _ ?_
     refine .region ?_
     refine .m rfl rfl rfl (.add rfl rfl rfl (by omega) (by omega)) ?_
     refine .m rfl rfl rfl (.move rfl) ?_
     refine .nil ?_
     refine hKL1 (k + 1) _ _ ?_ ?_ ⟨rfl, rfl, rfl, rfl, rfl, trivial⟩
     ·
      refine ⟨lst1, by first | assumption | (rw [seenE_new (cls_new q1).2]; assumption) | (rw [seenE_old (cls_old q1).2]; assumption) | (rw [part0_set (by omega) (clsAt_new q1)]; assumption) | (rw [part0_set (by omega) (clsAt_old q1 q2)]; assumption), by first | assumption | (rw [seenE_new (cls_new q1).2]; assumption) | (rw [seenE_old (cls_old q1).2]; assumption) | (rw [part0_set (by omega) (clsAt_new q1)]; assumption) | (rw [part0_set (by omega) (clsAt_old q1 q2)]; assumption), ?_⟩
      omega
     ·
      omega
    ·
     simp only [sps] at h27
     obtain ⟨q1, q2⟩ : 0 ≤ idxL (seenL xs k) (xs.getD k 0) ∧ lookE (seenE xs k) (xs.getD k 0) = some (idxL (seenL xs k) (xs.getD k 0)) := by
       rcases lookE_seen xs k (xs.getD k 0) with h | h
       · rw [h.2] at h27; cases h27
       · exact h
     refine .skip ?_
     refine hK11 _ _ ?_
     refine .region ?_
     have i4 := Ints.of_get at_L4
     have i4s : SlA _ _ _ _ := i4
     rw [length_part0] at i4s
     refine .m rfl rfl rfl (.move rfl) ?_
     refine .m rfl rfl rfl (.move rfl) ?_
     refine .m rfl rfl rfl (.move rfl) ?_
     refine .m rfl rfl rfl (.idxN sl_68_Pb (by assumption) rfl rfl (by omega)) ?_
     refine .r0 rfl rfl (.storeI rfl sz_2_E rfl rfl (by assumption) (by first | omega | (simp <;> omega))) ?_
     rintro _ H10004x2 ⟨rfl, st10004x2, at10004x2⟩
     have nx_H10004x2 := st10004x2.nx
     replace hle := hle.st st10004x2 (fun k hk => ⟨by omega, trivial⟩)
     replace lst1 := lst1.st st10004x2 (fun k hk ho => by simp only [out, and_true] at ho ⊢ <;> omega)
     replace at_L3 := st10004x2.same _ _ ⟨by omega, trivial⟩ at_L3
     have lt_at10004x2 := GHeap.lt_of_get at10004x2
     replace h := base_h.mono hle
     rw [Nat.zero_add] at at10004x2
     refine .nil ?_
     refine hK8 _ _ ?_
     refine .region ?_
     refine .m rfl rfl rfl (.add rfl rfl rfl (by omega) (by omega)) ?_
     refine .m rfl rfl rfl (.move rfl) ?_
     refine .nil ?_
     refine hKL1 (k + 1) _ _ ?_ ?_ ⟨rfl, rfl, rfl, rfl, rfl, trivial⟩
     ·
      refine ⟨lst1, by first | assumption | (rw [seenE_new (cls_new q1).2]; assumption) | (rw [seenE_old (cls_old q1).2]; assumption) | (rw [part0_set (by omega) (clsAt_new q1)]; assumption) | (rw [part0_set (by omega) (clsAt_old q1 q2)]; assumption), by first | assumption | (rw [seenE_new (cls_new q1).2]; assumption) | (rw [seenE_old (cls_old q1).2]; assumption) | (rw [part0_set (by omega) (clsAt_new q1)]; assumption) | (rw [part0_set (by omega) (clsAt_old q1 q2)]; assumption), ?_⟩
      omega
     ·
      omega
   ·
    try simp only [sps] at h16
    refine .exit ?_
    refine hK4 _ _ ?_
    refine .seq (fun K14 hK14 => ?_)
    refine .region ?_
    refine .m rfl rfl rfl (.move rfl) ?_
    refine .m rfl rfl rfl (.assign rfl) ?_
    refine .nil ?_
    refine hK14 _ _ ?_
    refine .ret ?_
    -- leaf e1
    refine hret _ _ ?_
    refine ⟨_, rfl, ?_⟩
    obtain rfl : k = xs.length := by omega
    exact ⟨hle, _, by rw [length_clsL], by unfold clsL; rw [← part0_all]; exact at_L4, by omega⟩
theorem normalN_c {a : Option Addr} {n : Nat} {xs : List Int} {H : GHeap} (hn : xs.length = n) (h : Ints H a xs := by assumption) (hl : n ≤ 1048576 := by omega) :
    GCalls Try.prog 54 [.slice a n n] H (NewInts 2 H (clsL (kerB xs) n)) := by
  subst hn
  exact normal_c h hl
theorem partition_c {g N : Nat} {js : List Int} {K : Nat → Nat → Bool} {H : GHeap} (hg : H.get g = some (.row (ints js) 2 true) := by assumption) (hK : RootK js K N := by assumption) (hn : N ≤ 1048576 := by omega) :
    GCalls Try.prog 35 [.slice (some ⟨g, 0, none⟩) N N] H (fun v H' => ∃ g', v = .slice (some ⟨g', 0, none⟩) N N ∧ St [g] H H' ∧ H.next ≤ g' ∧ H'.get g' = some (.row (ints (clsL K N)) 2 true)) := by
  have hgl := GHeap.lt_of_get hg
  refine GCalls.body (N := 22) (rs := [.tmp 2]) Try.func35 rfl rfl rfl rfl (fun Qx hret hend => ?_)
  refine .forget (fr' := [(0, some _)]) ⟨rfl, trivial⟩ ?_
  have lt_hg := GHeap.lt_of_get hg
  refine .seq (fun K1 hK1 => ?_)
  refine .region ?_
  refine .m rfl rfl rfl (.assign rfl) ?_
  refine .nil ?_
  refine hK1 _ _ ?_
  refine .seq (fun K2 hK2 => ?_)
  refine .region ?_
  refine .m rfl rfl rfl (.move rfl) ?_
  refine .m rfl rfl rfl (.len sl_64_Pb rfl) ?_
  refine .r rfl rfl rfl (.makeIN rfl sl_22_A ze_2_E by_2_E rfl rfl (by omega) (by omega) (by omega)) ?_
  rintro _ H7 ⟨g7, rfl, le7, ge7, at7⟩
  have nx_H7 := le7.1
  replace hg := le7.2 _ _ hg
  have lt_at7 := GHeap.lt_of_get at7
  refine .m rfl rfl rfl (.assign rfl) ?_
  refine .nil ?_
  refine hK2 _ _ ?_
  refine .seq (fun K3 hK3 => ?_)
  refine .seq (fun K4 hK4 => ?_)
  refine .region ?_
  refine .m rfl rfl rfl (.move rfl) ?_
  refine .m rfl rfl rfl (.len sl_64_Pb rfl) ?_
  refine .m rfl rfl rfl (.move rfl) ?_
  refine .nil ?_
  refine hK4 _ _ ?_
  refine .block ?_
  refine .loopR (σ := Nat × List Int) [(0, some _), (3, some _), (9, some _)] (fun (k, ks) => [(10, some (.int .i64 (k : Int)))]) (fun (k, ks) H' => St [g, g7] H7 H' ∧ H'.get g = some (.row (ints ks) 2 true) ∧ H'.get g7 = some (.row (ints (part0 N (fun i => (rootOf js i : Int)) k)) 2 true) ∧ k ≤ N ∧ ks.length = N ∧ Forest ks ∧ ∀ z, z < N → rootOf ks z = rootOf js z) (fun (k, ks) => N - k) ((0, js)) ⟨rfl, rfl, rfl, trivial⟩ ⟨rfl, trivial⟩ ?_ ?_
  ·
   refine ⟨.refl _ _, by first | assumption | (rw [part0_zero]; simpa using at7), by first | assumption | (rw [part0_zero]; simpa using at7), ?_⟩
   exact ⟨by omega, hK.1, hK.2.1, fun _ _ => rfl⟩
  ·
   rintro ⟨k, ks⟩ HL1 ⟨lst1, at_L0, at_L3, hI⟩ KL1 hKL1
   refine .forget (fr' := [(10, some (.int .i64 (k : Int))), (0, some _), (3, some _), (9, some _)]) ⟨rfl, rfl, rfl, rfl, trivial⟩ ?_
   have nx_HL1 := lst1.nx
   have lt_at_L0 := GHeap.lt_of_get at_L0
   have lt_at_L3 := GHeap.lt_of_get at_L3
   obtain ⟨hk, hkl, hkF, hkr⟩ := hI
   have hl3 : (part0 N (fun i => (rootOf js i : Int)) k).length = N := length_part0 _ _ _
   refine .seq (fun K5 hK5 => ?_)
   refine .region ?_
   refine .m rfl rfl rfl (.cmp rfl rfl rfl) ?_
   refine .nil ?_
   refine hK5 _ _ ?_
   refine .seq (fun K6 hK6 => ?_)
   refine .cond rfl (fun h11 => ?_) (fun h11 => ?_)
   ·
    try simp only [sps] at h11
    refine .skip ?_
    refine hK6 _ _ ?_
    refine .seq (fun K7 hK7 => ?_)
    refine .block ?_
    refine .seq (fun K8 hK8 => ?_)
    refine .region ?_
    refine .m rfl rfl rfl (.move rfl) ?_
    refine .m rfl rfl rfl (.assign rfl) ?_
    refine .nil ?_
    refine hK8 _ _ ?_
    refine .region ?_
    refine .m rfl rfl rfl (.move rfl) ?_
    refine .m rfl rfl rfl (.move rfl) ?_
    refine .m rfl rfl rfl (.move rfl) ?_
    refine .m rfl rfl rfl (.move rfl) ?_
    refine .call rfl rfl rfl rfl @Try.call53 rfl (root_c (x := (k : Int))) ?_
    rintro _ H17 ⟨rfl, st17, js17, at17, hl17, hf17, hr17⟩
    have nx_H17 := st17.nx
    replace lst1 := lst1.st st17 (fun k hk ho => by simp only [out, and_true] at ho ⊢ <;> omega)
    replace at_L3 := st17.same _ _ ⟨by omega, trivial⟩ at_L3
    have lt_at17 := GHeap.lt_of_get at17
    have i3s : SlA _ _ _ _ := Ints.of_get at_L3
    rw [length_part0] at i3s
    refine .m rfl rfl rfl (.idxN sl_22_A (by assumption) rfl rfl (by omega)) ?_
    refine .r0 rfl rfl (.storeI rfl sz_2_E rfl rfl (by assumption) (by first | omega | (simp <;> omega))) ?_
    rintro _ H5006 ⟨rfl, st5006, at5006⟩
    have nx_H5006 := st5006.nx
    replace lst1 := lst1.st st5006 (fun k hk ho => by simp only [out, and_true] at ho ⊢ <;> omega)
    replace at17 := st5006.same _ _ ⟨by omega, trivial⟩ at17
    have lt_at5006 := GHeap.lt_of_get at5006
    rw [Nat.zero_add] at at5006
    refine .nil ?_
    refine hK7 _ _ ?_
    refine .region ?_
    refine .m rfl rfl rfl (.add rfl rfl rfl (by omega) (by omega)) ?_
    refine .m rfl rfl rfl (.move rfl) ?_
    refine .nil ?_
    refine hKL1 ((k + 1, js17)) _ _ ?_ ?_ ⟨rfl, rfl, rfl, rfl, trivial⟩
    ·
     refine ⟨lst1, by first | assumption | (rw [part0_set (v := ((rootOf ks (k : Int).toNat : Nat) : Int)) (by omega) (by rw [Int.toNat_natCast, hkr _ (by omega)])]; assumption), by first | assumption | (rw [part0_set (v := ((rootOf ks (k : Int).toNat : Nat) : Int)) (by omega) (by rw [Int.toNat_natCast, hkr _ (by omega)])]; assumption), ?_⟩
     exact ⟨by omega, hl17, hf17, fun z hz => by rw [hr17 z hz]; exact hkr z hz⟩
    ·
     (dsimp only; omega)
   ·
    try simp only [sps] at h11
    refine .exit ?_
    refine hK3 _ _ ?_
    refine .seq (fun K9 hK9 => ?_)
    refine .region ?_
    obtain rfl : k = N := by omega
    have hker := hK.ker (lab := part0 k (fun i => (rootOf js i : Int)) k) fun i hi => by rw [part0_all, List.getD_eq_getElem?_getD]; simp [hi]
    refine .m rfl rfl rfl (.move rfl) ?_
    refine .call rfl rfl rfl rfl @Try.call54 rfl (normalN_c (length_part0 _ _ _) (Ints.of_get at_L3)) ?_
    rintro _ H21 ⟨le21, g21, rfl, at21, ge21⟩
    have nx_H21 := le21.1
    replace lst1 := lst1.le le21
    replace at_L0 := le21.2 _ _ at_L0
    replace at_L3 := le21.2 _ _ at_L3
    have lt_at21 := GHeap.lt_of_get at21
    have i21 := Ints.of_get at21
    refine .m rfl rfl rfl (.assign rfl) ?_
    refine .nil ?_
    refine hK9 _ _ ?_
    refine .ret ?_
    -- leaf e1
    refine hret _ _ ?_
    refine ⟨_, rfl, ?_⟩
    refine ⟨g21, by rw [length_clsL], ?_, by omega, ?_⟩
    · exact ((St.of_le le7).st lst1 (fun k hk (ho : out [g] k) => ⟨ho.1, by omega, trivial⟩))
    · rw [← hker.cls]; exact at21
theorem classes_c {a : Option Addr} {xs : List Int} {H : GHeap} (h : Ints H a xs := by assumption) (hl : xs.length ≤ 1048576 := by omega) (hb : ∀ i, i < xs.length → -1 ≤ xs.getD i 0 ∧ xs.getD i 0 ≤ 1048576) :
    GCalls Try.prog 63 [.slice a xs.length xs.length] H (Ret (.int .i64 (topL xs)) H) := by
  refine GCalls.body (N := 18) (rs := [.tmp 2]) Try.func63 rfl rfl rfl rfl (fun Qx hret hend => ?_)
  refine .forget (fr' := [(0, some _)]) ⟨rfl, trivial⟩ ?_
  refine .seq (fun K1 hK1 => ?_)
  refine .region ?_
  refine .m rfl rfl rfl (.assign rfl) ?_
  refine .nil ?_
  refine hK1 _ _ ?_
  refine .seq (fun K2 hK2 => ?_)
  refine .region ?_
  refine .m rfl rfl rfl (.assign rfl) ?_
  refine .nil ?_
  refine hK2 _ _ ?_
  refine .seq (fun K3 hK3 => ?_)
  refine .seq (fun K4 hK4 => ?_)
  refine .region ?_
  refine .m rfl rfl rfl (.move rfl) ?_
  refine .m rfl rfl rfl (.len sl_68_Pb rfl) ?_
  refine .m rfl rfl rfl (.move rfl) ?_
  refine .nil ?_
  refine hK4 _ _ ?_
  refine .block ?_
  refine .loopR (σ := Nat × Int) [(6, some _), (7, some _)] (fun (k, t) => [(8, some (.int .i64 (k : Int))), (3, some (.int .i64 t))]) (fun (k, t) H' => H = H' ∧ k ≤ xs.length ∧ 0 ≤ t ∧ t = topN xs k) (fun (k, t) => xs.length - k) ((0, 0)) ⟨rfl, rfl, trivial⟩ ⟨rfl, rfl, trivial⟩ ?_ ?_
  ·
   refine ⟨rfl, ?_⟩
   exact ⟨by omega, by omega, by simp [topN, topL]⟩
  ·
   rintro ⟨k, t⟩ _ ⟨rfl, hI⟩ KL1 hKL1
   refine .forget (fr' := [(8, some (.int .i64 (k : Int))), (3, some (.int .i64 t)), (6, some _), (7, some _)]) ⟨rfl, rfl, rfl, rfl, trivial⟩ ?_
   obtain ⟨hk, ht, hT⟩ := hI
   refine .seq (fun K5 hK5 => ?_)
   refine .region ?_
   refine .m rfl rfl rfl (.cmp rfl rfl rfl) ?_
   refine .nil ?_
   refine hK5 _ _ ?_
   refine .seq (fun K6 hK6 => ?_)
   refine .cond rfl (fun h9 => ?_) (fun h9 => ?_)
   ·
    simp only [sps] at h9
    have q1 := hb k (by omega)
    refine .skip ?_
    refine hK6 _ _ ?_
    refine .seq (fun K7 hK7 => ?_)
    refine .block ?_
    refine .seq (fun K8 hK8 => ?_)
    refine .region ?_
    refine .m rfl rfl rfl (.idxN sl_68_Pb (by assumption) rfl rfl (by omega)) ?_
    refine .m rfl rfl rfl (.loadI on_2_A (by assumption) rfl (by omega)) ?_
    refine .m rfl rfl rfl (.assign rfl) ?_
    refine .nil ?_
    refine hK8 _ _ ?_
    refine .region ?_
    refine .m rfl rfl rfl (.move rfl) ?_
    refine .m rfl rfl rfl (.move rfl) ?_
    refine .m rfl rfl rfl (.add rfl rfl rfl (by omega) (by omega)) ?_
    refine .m rfl rfl rfl (.max2 rfl rfl) ?_
    refine .m rfl rfl rfl (.assign rfl) ?_
    refine .nil ?_
    refine hK7 _ _ ?_
    refine .region ?_
    refine .m rfl rfl rfl (.add rfl rfl rfl (by omega) (by omega)) ?_
    refine .m rfl rfl rfl (.move rfl) ?_
    refine .nil ?_
    refine hKL1 ((k + 1, max t (xs.getD k 0 + 1))) _ _ ?_ ?_ ⟨rfl, rfl, rfl, rfl, trivial⟩
    ·
     refine ⟨rfl, ?_⟩
     exact ⟨by omega, by omega, by rw [topN_succ (by omega), ← hT]⟩
    ·
     (dsimp only; omega)
   ·
    try simp only [sps] at h9
    refine .exit ?_
    refine hK3 _ _ ?_
    refine .seq (fun K9 hK9 => ?_)
    refine .region ?_
    refine .m rfl rfl rfl (.move rfl) ?_
    refine .m rfl rfl rfl (.assign rfl) ?_
    refine .nil ?_
    refine hK9 _ _ ?_
    refine .ret ?_
    -- leaf e1
    refine hret _ _ ?_
    refine ⟨_, rfl, ?_⟩
    obtain rfl : k = xs.length := by omega
    exact .of (by rw [hT]; unfold topN; rw [List.take_length])
end Go.Proofs.Ytkcpjflhjghapaa
/- The laws' helpers for SetFunctor. No condition but those of each statement. -/
namespace Go.Proofs.Ytkcpjflhjghapaa
open Go Go.GL Go.RowKit Go.Proofs
theorem sz_42_VSFun : (Try.prog.info? 42).map (·.size) = some 7 := by kernel_rfl
theorem fo_42_0_VSFun : fieldOff Try.prog 42 0 = some 0 := by kernel_rfl
theorem ag_25_VSFun : aggT Try.prog 25 = some 5 := by kernel_rfl
theorem fo_42_1_VSFun : fieldOff Try.prog 42 1 = some 5 := by kernel_rfl
theorem fo_42_2_VSFun : fieldOff Try.prog 42 2 = some 6 := by kernel_rfl
theorem ze_47_VSFun : zeroT Try.prog 47 = some ([.int .i64 0, .slice none 0 0, .slice none 0 0, .slice none 0 0, .slice none 0 0, .slice none 0 0, .slice none 0 0], 7) := by kernel_rfl
theorem fo_47_0_VSFun : fieldOff Try.prog 47 0 = some 0 := by kernel_rfl
theorem fo_47_1_VSFun : fieldOff Try.prog 47 1 = some 5 := by kernel_rfl
theorem fo_47_2_VSFun : fieldOff Try.prog 47 2 = some 6 := by kernel_rfl
theorem ag_47_VSFun : aggT Try.prog 47 = some 7 := by kernel_rfl
theorem sz_47_VSFun : (Try.prog.info? 47).map (·.size) = some 7 := by kernel_rfl
theorem szSetFunctor_c {c : SFun} {p : SFunP} {left : Int} {H : GHeap} (hin : c.In H p := by assumption) (hw : c.Wide := by assumption) (h0 : 0 ≤ left := by omega) (h1 : left ≤ 1048576 := by omega) :
    GCalls Try.prog 14 [.agg (c.cells p).toArray, .int .i64 left] H (SzR left c.Small H) := by
  refine SzR.of ?_
  obtain ⟨w0, ⟨wa1, _⟩, ⟨wa2, wb2⟩⟩ := hw
  refine GCalls.body (N := 24) (rs := [.tmp 4]) Try.func14 rfl rfl rfl rfl (fun Qx hret hend => ?_)
  refine .forget (fr' := [(0, some _), (1, some _)]) ⟨rfl, rfl, trivial⟩ ?_
  have hle := GHeap.Le.refl H
  have base_hin := hin
  refine .seq (fun K1 hK1 => ?_)
  refine .region ?_
  refine .r rfl rfl rfl (.boxR rfl sz_42_VSFun rfl) ?_
  rintro _ H2 ⟨g2, rfl, le2, ge2, at2⟩
  have nx_H2 := le2.1
  replace hle := hle.trans le2
  have lt_at2 := GHeap.lt_of_get at2
  replace hin := base_hin.mono hle
  have hb2 : SFun.At _ g2 0 c p := ⟨Mem.of_get at2, hin⟩
  obtain ⟨fsh2, c52, c62, i12, i22⟩ := hb2.get
  have hm2 : MemN _ _ _ _ _ := ⟨rfl, hb2.1⟩
  have hi2 := hb2.2
  have hmsh2 : MemN _ _ _ _ _ := ⟨rfl, fsh2.1⟩
  have hish2 := fsh2.2
  refine .m rfl rfl rfl (.assign rfl) ?_
  refine .nil ?_
  refine hK1 _ _ ?_
  refine .seq (fun K2 hK2 => ?_)
  refine .region ?_
  refine .m rfl rfl rfl (.fieldAddr fo_42_0_VSFun rfl) ?_
  refine .m rfl rfl rfl (.loadM ag_25_VSFun rfl (by assumption)) ?_
  refine .m rfl rfl rfl (.move rfl) ?_
  refine .call rfl rfl rfl rfl @Try.call23 rfl (szCategory_c) ?_
  rintro _ _ ⟨heq, lf8, rfl, z18, z28, z38⟩
  obtain rfl := heq.symm
  refine .m rfl rfl rfl (.assign rfl) ?_
  refine .nil ?_
  refine hK2 _ _ ?_
  refine .seq (fun K3 hK3 => ?_)
  refine .seq (fun K4 hK4 => ?_)
  refine .region ?_
  refine .m rfl rfl rfl (.move rfl) ?_
  refine .m rfl rfl rfl (.cmp rfl rfl rfl) ?_
  refine .nil ?_
  refine hK4 _ _ ?_
  refine .cond rfl (fun h10 => ?_) (fun h10 => ?_)
  ·
   try simp only [sps] at h10
   refine .seq (fun K5 hK5 => ?_)
   refine .region ?_
   refine .m rfl rfl rfl (.assign rfl) ?_
   refine .nil ?_
   refine hK5 _ _ ?_
   refine .ret ?_
   -- leaf e1
   refine hret _ _ ?_
   refine ⟨_, rfl, ?_⟩
   first
   | exact ⟨hle, _, rfl, by omega, by omega, fun h => by omega⟩
   | exact ⟨hle, _, rfl, by omega, by omega, fun h => ⟨by assumption, by assumption, by assumption⟩⟩
  ·
   try simp only [sps] at h10
   have hsm8 := z38 (by omega)
   refine .skip ?_
   refine hK3 _ _ ?_
   refine .seq (fun K6 hK6 => ?_)
   refine .region ?_
   refine .m rfl rfl rfl (.fieldAddr fo_42_1_VSFun rfl) ?_
   refine .m rfl rfl rfl (.load on_22_B rfl (by assumption)) ?_
   refine .m rfl rfl rfl (.move rfl) ?_
   refine .call rfl rfl rfl rfl @Try.call40 rfl (szInt64S_s) ?_
   rintro _ _ ⟨heq, lf14, rfl, z114, z214, z314⟩
   obtain rfl := heq.symm
   refine .m rfl rfl rfl (.assign rfl) ?_
   refine .nil ?_
   refine hK6 _ _ ?_
   refine .seq (fun K7 hK7 => ?_)
   refine .seq (fun K8 hK8 => ?_)
   refine .region ?_
   refine .m rfl rfl rfl (.move rfl) ?_
   refine .m rfl rfl rfl (.cmp rfl rfl rfl) ?_
   refine .nil ?_
   refine hK8 _ _ ?_
   refine .cond rfl (fun h16 => ?_) (fun h16 => ?_)
   ·
    try simp only [sps] at h16
    refine .seq (fun K9 hK9 => ?_)
    refine .region ?_
    refine .m rfl rfl rfl (.assign rfl) ?_
    refine .nil ?_
    refine hK9 _ _ ?_
    refine .ret ?_
    -- leaf e2
    refine hret _ _ ?_
    refine ⟨_, rfl, ?_⟩
    first
    | exact ⟨hle, _, rfl, by omega, by omega, fun h => by omega⟩
    | exact ⟨hle, _, rfl, by omega, by omega, fun h => ⟨by assumption, by assumption, by assumption⟩⟩
   ·
    try simp only [sps] at h16
    have hsm14 := z314 (by omega)
    refine .skip ?_
    refine hK7 _ _ ?_
    refine .seq (fun K10 hK10 => ?_)
    refine .region ?_
    refine .m rfl rfl rfl (.fieldAddr fo_42_2_VSFun rfl) ?_
    refine .m rfl rfl rfl (.load on_23_B rfl (by assumption)) ?_
    refine .m rfl rfl rfl (.move rfl) ?_
    refine .call rfl rfl rfl rfl @Try.call24 rfl (szInt64SS_s) ?_
    rintro _ _ ⟨heq, lf20, rfl, z120, z220, z320⟩
    obtain rfl := heq.symm
    refine .m rfl rfl rfl (.assign rfl) ?_
    refine .nil ?_
    refine hK10 _ _ ?_
    refine .seq (fun K11 hK11 => ?_)
    refine .seq (fun K12 hK12 => ?_)
    refine .region ?_
    refine .m rfl rfl rfl (.move rfl) ?_
    refine .m rfl rfl rfl (.cmp rfl rfl rfl) ?_
    refine .nil ?_
    refine hK12 _ _ ?_
    refine .cond rfl (fun h22 => ?_) (fun h22 => ?_)
    ·
     try simp only [sps] at h22
     refine .seq (fun K13 hK13 => ?_)
     refine .region ?_
     refine .m rfl rfl rfl (.assign rfl) ?_
     refine .nil ?_
     refine hK13 _ _ ?_
     refine .ret ?_
     -- leaf e3
     refine hret _ _ ?_
     refine ⟨_, rfl, ?_⟩
     first
     | exact ⟨hle, _, rfl, by omega, by omega, fun h => by omega⟩
     | exact ⟨hle, _, rfl, by omega, by omega, fun h => ⟨by assumption, by assumption, by assumption⟩⟩
    ·
     try simp only [sps] at h22
     have hsm20 := z320 (by omega)
     refine .skip ?_
     refine hK11 _ _ ?_
     refine .seq (fun K14 hK14 => ?_)
     refine .region ?_
     refine .m rfl rfl rfl (.move rfl) ?_
     refine .m rfl rfl rfl (.assign rfl) ?_
     refine .nil ?_
     refine hK14 _ _ ?_
     refine .ret ?_
     -- leaf e4
     refine hret _ _ ?_
     refine ⟨_, rfl, ?_⟩
     first
     | exact ⟨hle, _, rfl, by omega, by omega, fun h => by omega⟩
     | exact ⟨hle, _, rfl, by omega, by omega, fun h => ⟨by assumption, by assumption, by assumption⟩⟩
set_option maxHeartbeats 4000000 in
theorem toSetFunctor_c {c : SFun} {p : SFunP} {H : GHeap} (hin : c.In H p := by assumption) (hs : c.Small := by assumption) : GCalls Try.prog 16 [.agg (c.cells p).toArray] H (NewSFun H c) := by
  obtain ⟨w0, w1, ⟨wa2, wb2⟩⟩ := hs
  refine GCalls.body (N := 17) (rs := [.cell 2 47]) Try.func16 rfl rfl rfl rfl (fun Qx hret hend => ?_)
  refine .forget (fr' := [(0, some _)]) ⟨rfl, trivial⟩ ?_
  have hle := GHeap.Le.refl H
  have base_hin := hin
  refine .seq (fun K1 hK1 => ?_)
  refine .region ?_
  refine .r rfl rfl rfl (.boxR rfl sz_42_VSFun rfl) ?_
  rintro _ H1 ⟨g1, rfl, le1, ge1, at1⟩
  have nx_H1 := le1.1
  replace hle := hle.trans le1
  have lt_at1 := GHeap.lt_of_get at1
  replace hin := base_hin.mono hle
  have hb1 : SFun.At _ g1 0 c p := ⟨Mem.of_get at1, hin⟩
  obtain ⟨fsh1, c51, c61, i11, i21⟩ := hb1.get
  have hm1 : MemN _ _ _ _ _ := ⟨rfl, hb1.1⟩
  have hi1 := hb1.2
  have hmsh1 : MemN _ _ _ _ _ := ⟨rfl, fsh1.1⟩
  have hish1 := fsh1.2
  refine .r rfl rfl rfl (.allocR rfl ze_47_VSFun rfl) ?_
  rintro _ H2 ⟨g2, rfl, le2, ge2, at2⟩
  have nx_H2 := le2.1
  replace hle := hle.trans le2
  replace at1 := le2.2 _ _ at1
  have lt_at2 := GHeap.lt_of_get at2
  replace hin := base_hin.mono hle
  clear hb1 fsh1 c51 c61 i11 i21 hm1 hi1 hmsh1 hish1
  have hb1 : SFun.At _ g1 0 c p := ⟨Mem.of_get at1, hin⟩
  obtain ⟨fsh1, c51, c61, i11, i21⟩ := hb1.get
  have hm1 : MemN _ _ _ _ _ := ⟨rfl, hb1.1⟩
  have hi1 := hb1.2
  have hmsh1 : MemN _ _ _ _ _ := ⟨rfl, fsh1.1⟩
  have hish1 := fsh1.2
  refine .nil ?_
  refine hK1 _ _ ?_
  refine .seq (fun K2 hK2 => ?_)
  refine .region ?_
  refine .r rfl rfl rfl (.allocR rfl ze_47_VSFun rfl) ?_
  rintro _ H3 ⟨g3, rfl, le3, ge3, at3⟩
  have nx_H3 := le3.1
  replace hle := hle.trans le3
  replace at1 := le3.2 _ _ at1
  replace at2 := le3.2 _ _ at2
  have lt_at3 := GHeap.lt_of_get at3
  replace hin := base_hin.mono hle
  clear hb1 fsh1 c51 c61 i11 i21 hm1 hi1 hmsh1 hish1
  have hb1 : SFun.At _ g1 0 c p := ⟨Mem.of_get at1, hin⟩
  obtain ⟨fsh1, c51, c61, i11, i21⟩ := hb1.get
  have hm1 : MemN _ _ _ _ _ := ⟨rfl, hb1.1⟩
  have hi1 := hb1.2
  have hmsh1 : MemN _ _ _ _ _ := ⟨rfl, fsh1.1⟩
  have hish1 := fsh1.2
  refine .nil ?_
  refine hK2 _ _ ?_
  refine .seq (fun K3 hK3 => ?_)
  refine .region ?_
  refine .m rfl rfl rfl (.fieldAddr fo_42_0_VSFun rfl) ?_
  refine .m rfl rfl rfl (.loadM ag_25_VSFun rfl (by assumption)) ?_
  refine .call rfl rfl rfl rfl @Try.call28 rfl (toCategory_c) ?_
  rintro _ H6 ⟨le6, p6, rfl, v6⟩
  have nx_H6 := le6.1
  replace hle := hle.trans le6
  replace at1 := le6.2 _ _ at1
  replace at2 := le6.2 _ _ at2
  replace at3 := le6.2 _ _ at3
  have bs_v6 := v6
  have lv_v6 : Keep H3.next H6 H6 := fun _ _ _ h => h
  replace hin := base_hin.mono hle
  clear hb1 fsh1 c51 c61 i11 i21 hm1 hi1 hmsh1 hish1
  have hb1 : SFun.At _ g1 0 c p := ⟨Mem.of_get at1, hin⟩
  obtain ⟨fsh1, c51, c61, i11, i21⟩ := hb1.get
  have hm1 : MemN _ _ _ _ _ := ⟨rfl, hb1.1⟩
  have hi1 := hb1.2
  have hmsh1 : MemN _ _ _ _ _ := ⟨rfl, fsh1.1⟩
  have hish1 := fsh1.2
  have i6 := v6.inn
  refine .m rfl rfl rfl (.fieldAddr fo_47_0_VSFun rfl) ?_
  refine .r0 rfl rfl (.storeNR rfl sz_32_D rfl rfl rfl rfl (by assumption) (by first | rfl | exact Nat.le_of_ble_eq_true rfl | simp)) ?_
  rintro _ H2004 ⟨rfl, st2004, at2004⟩
  have nx_H2004 := st2004.nx
  replace hle := hle.st st2004 (fun k hk => ⟨by omega, trivial⟩)
  replace at1 := st2004.same _ _ ⟨by omega, trivial⟩ at1
  replace at2 := st2004.same _ _ ⟨by omega, trivial⟩ at2
  replace lv_v6 := Keep.st lv_v6 st2004 (fun k hb hk => ⟨by omega, trivial⟩)
  replace v6 := bs_v6.keep lv_v6 (Nat.le_refl _)
  have lt_at2004 := GHeap.lt_of_get at2004
  replace hin := base_hin.mono hle
  clear hb1 fsh1 c51 c61 i11 i21 hm1 hi1 hmsh1 hish1
  have hb1 : SFun.At _ g1 0 c p := ⟨Mem.of_get at1, hin⟩
  obtain ⟨fsh1, c51, c61, i11, i21⟩ := hb1.get
  have hm1 : MemN _ _ _ _ _ := ⟨rfl, hb1.1⟩
  have hi1 := hb1.2
  have hmsh1 : MemN _ _ _ _ _ := ⟨rfl, fsh1.1⟩
  have hish1 := fsh1.2
  clear i6
  have i6 := v6.inn
  refine .nil ?_
  refine hK3 _ _ ?_
  refine .seq (fun K4 hK4 => ?_)
  refine .region ?_
  refine .m rfl rfl rfl (.fieldAddr fo_42_1_VSFun rfl) ?_
  refine .m rfl rfl rfl (.load on_22_B rfl (by assumption)) ?_
  refine .call rfl rfl rfl rfl @Try.call43 rfl (toInt64S_c) ?_
  rintro _ H10 ⟨le10, g10, rfl, at10, ge10⟩
  have nx_H10 := le10.1
  replace hle := hle.trans le10
  replace at1 := le10.2 _ _ at1
  replace at2 := le10.2 _ _ at2
  replace at2004 := le10.2 _ _ at2004
  replace lv_v6 := Keep.le lv_v6 le10
  replace v6 := bs_v6.keep lv_v6 (Nat.le_refl _)
  have lt_at10 := GHeap.lt_of_get at10
  replace hin := base_hin.mono hle
  clear hb1 fsh1 c51 c61 i11 i21 hm1 hi1 hmsh1 hish1
  have hb1 : SFun.At _ g1 0 c p := ⟨Mem.of_get at1, hin⟩
  obtain ⟨fsh1, c51, c61, i11, i21⟩ := hb1.get
  have hm1 : MemN _ _ _ _ _ := ⟨rfl, hb1.1⟩
  have hi1 := hb1.2
  have hmsh1 : MemN _ _ _ _ _ := ⟨rfl, fsh1.1⟩
  have hish1 := fsh1.2
  clear i6
  have i6 := v6.inn
  have i10 := Ints.of_get at10
  refine .m rfl rfl rfl (.fieldAddr fo_47_1_VSFun rfl) ?_
  refine .r0 rfl rfl (.storeR rfl sz_22_E rfl rfl rfl (by assumption) (by first | exact Nat.le_of_ble_eq_true rfl | simp)) ?_
  rintro _ H3004 ⟨rfl, st3004, at3004⟩
  have nx_H3004 := st3004.nx
  replace hle := hle.st st3004 (fun k hk => ⟨by omega, trivial⟩)
  replace at1 := st3004.same _ _ ⟨by omega, trivial⟩ at1
  replace at2 := st3004.same _ _ ⟨by omega, trivial⟩ at2
  replace at10 := st3004.same _ _ ⟨by omega, trivial⟩ at10
  replace lv_v6 := Keep.st lv_v6 st3004 (fun k hb hk => ⟨by omega, trivial⟩)
  replace v6 := bs_v6.keep lv_v6 (Nat.le_refl _)
  have lt_at3004 := GHeap.lt_of_get at3004
  replace hin := base_hin.mono hle
  clear hb1 fsh1 c51 c61 i11 i21 hm1 hi1 hmsh1 hish1
  have hb1 : SFun.At _ g1 0 c p := ⟨Mem.of_get at1, hin⟩
  obtain ⟨fsh1, c51, c61, i11, i21⟩ := hb1.get
  have hm1 : MemN _ _ _ _ _ := ⟨rfl, hb1.1⟩
  have hi1 := hb1.2
  have hmsh1 : MemN _ _ _ _ _ := ⟨rfl, fsh1.1⟩
  have hish1 := fsh1.2
  clear i6
  have i6 := v6.inn
  clear i10
  have i10 := Ints.of_get at10
  refine .nil ?_
  refine hK4 _ _ ?_
  refine .seq (fun K5 hK5 => ?_)
  refine .region ?_
  refine .m rfl rfl rfl (.fieldAddr fo_42_2_VSFun rfl) ?_
  refine .m rfl rfl rfl (.load on_23_B rfl (by assumption)) ?_
  refine .call rfl rfl rfl rfl @Try.call29 rfl (toInt64SS_c) ?_
  rintro _ H14 ⟨le14, a14, r14, rfl, v14⟩
  have nx_H14 := le14.1
  replace hle := hle.trans le14
  replace at1 := le14.2 _ _ at1
  replace at2 := le14.2 _ _ at2
  replace at10 := le14.2 _ _ at10
  replace at3004 := le14.2 _ _ at3004
  replace lv_v6 := Keep.le lv_v6 le14
  replace v6 := bs_v6.keep lv_v6 (Nat.le_refl _)
  have bs_v14 := v14
  have lv_v14 : Keep H3004.next H14 H14 := fun _ _ _ h => h
  replace hin := base_hin.mono hle
  clear hb1 fsh1 c51 c61 i11 i21 hm1 hi1 hmsh1 hish1
  have hb1 : SFun.At _ g1 0 c p := ⟨Mem.of_get at1, hin⟩
  obtain ⟨fsh1, c51, c61, i11, i21⟩ := hb1.get
  have hm1 : MemN _ _ _ _ _ := ⟨rfl, hb1.1⟩
  have hi1 := hb1.2
  have hmsh1 : MemN _ _ _ _ _ := ⟨rfl, fsh1.1⟩
  have hish1 := fsh1.2
  clear i6
  have i6 := v6.inn
  clear i10
  have i10 := Ints.of_get at10
  have i14 := v14.intss
  refine .m rfl rfl rfl (.fieldAddr fo_47_2_VSFun rfl) ?_
  refine .r0 rfl rfl (.storeR rfl sz_23_E rfl rfl rfl (by assumption) (by first | exact Nat.le_of_ble_eq_true rfl | simp)) ?_
  rintro _ H4004 ⟨rfl, st4004, at4004⟩
  have nx_H4004 := st4004.nx
  replace hle := hle.st st4004 (fun k hk => ⟨by omega, trivial⟩)
  replace at1 := st4004.same _ _ ⟨by omega, trivial⟩ at1
  replace at2 := st4004.same _ _ ⟨by omega, trivial⟩ at2
  replace at10 := st4004.same _ _ ⟨by omega, trivial⟩ at10
  replace lv_v6 := Keep.st lv_v6 st4004 (fun k hb hk => ⟨by omega, trivial⟩)
  replace v6 := bs_v6.keep lv_v6 (Nat.le_refl _)
  replace lv_v14 := Keep.st lv_v14 st4004 (fun k hb hk => ⟨by omega, trivial⟩)
  replace v14 := bs_v14.keep lv_v14 (Nat.le_refl _)
  have lt_at4004 := GHeap.lt_of_get at4004
  replace hin := base_hin.mono hle
  clear hb1 fsh1 c51 c61 i11 i21 hm1 hi1 hmsh1 hish1
  have hb1 : SFun.At _ g1 0 c p := ⟨Mem.of_get at1, hin⟩
  obtain ⟨fsh1, c51, c61, i11, i21⟩ := hb1.get
  have hm1 : MemN _ _ _ _ _ := ⟨rfl, hb1.1⟩
  have hi1 := hb1.2
  have hmsh1 : MemN _ _ _ _ _ := ⟨rfl, fsh1.1⟩
  have hish1 := fsh1.2
  clear i6
  have i6 := v6.inn
  clear i10
  have i10 := Ints.of_get at10
  clear i14
  have i14 := v14.intss
  refine .nil ?_
  refine hK5 _ _ ?_
  refine .seq (fun K6 hK6 => ?_)
  refine .region ?_
  refine .m rfl rfl rfl (.loadM ag_47_VSFun rfl ⟨rfl, Mem.of_get at4004⟩) ?_
  refine .r0 rfl rfl (.fillR rfl sz_47_VSFun rfl rfl rfl rfl (by assumption) (by first | rfl | exact Nat.le_of_ble_eq_true rfl | simp)) ?_
  rintro _ H5001 ⟨rfl, st5001, at5001⟩
  have nx_H5001 := st5001.nx
  replace hle := hle.st st5001 (fun k hk => ⟨by omega, trivial⟩)
  replace at1 := st5001.same _ _ ⟨by omega, trivial⟩ at1
  replace at10 := st5001.same _ _ ⟨by omega, trivial⟩ at10
  replace at4004 := st5001.same _ _ ⟨by omega, trivial⟩ at4004
  replace lv_v6 := Keep.st lv_v6 st5001 (fun k hb hk => ⟨by omega, trivial⟩)
  replace v6 := bs_v6.keep lv_v6 (Nat.le_refl _)
  replace lv_v14 := Keep.st lv_v14 st5001 (fun k hb hk => ⟨by omega, trivial⟩)
  replace v14 := bs_v14.keep lv_v14 (Nat.le_refl _)
  have lt_at5001 := GHeap.lt_of_get at5001
  replace hin := base_hin.mono hle
  clear hb1 fsh1 c51 c61 i11 i21 hm1 hi1 hmsh1 hish1
  have hb1 : SFun.At _ g1 0 c p := ⟨Mem.of_get at1, hin⟩
  obtain ⟨fsh1, c51, c61, i11, i21⟩ := hb1.get
  have hm1 : MemN _ _ _ _ _ := ⟨rfl, hb1.1⟩
  have hi1 := hb1.2
  have hmsh1 : MemN _ _ _ _ _ := ⟨rfl, fsh1.1⟩
  have hish1 := fsh1.2
  clear i6
  have i6 := v6.inn
  clear i10
  have i10 := Ints.of_get at10
  clear i14
  have i14 := v14.intss
  have mm5001 : MemN _ _ _ _ _ := ⟨rfl, Mem.of_get at5001⟩
  refine .nil ?_
  refine hK6 _ _ ?_
  refine .ret ?_
  -- leaf e1
  refine hret _ _ ?_
  refine ⟨_, _, _, _, rfl, ag_47_VSFun, (by rfl), (Mem.of_get at5001), ?_⟩
  exact ⟨hle, ⟨p6, some ⟨g10, 0, none⟩, a14, r14⟩, rfl, ⟨v6.keep (.of_le (.refl _)) (by omega), ⟨g10, _, rfl, by omega, at10⟩, v14.keep (.of_le (.refl _)) (by omega)⟩⟩
set_option maxHeartbeats 4000000 in
theorem eqSetFunctor_c {c : SFun} {p p' : SFunP} {H : GHeap} (hin : c.In H p := by assumption) (hin' : c.In H p' := by assumption) (hs : c.Small := by assumption) : GCalls Try.prog 19 [.agg (c.cells p).toArray, .agg (c.cells p').toArray] H (Ret (.bool true) H) := by
  refine GCalls.ret rfl ?_
  obtain ⟨w0, w1, ⟨wa2, wb2⟩⟩ := hs
  refine GCalls.body (N := 23) (rs := [.tmp 4]) Try.func19 rfl rfl rfl rfl (fun Qx hret hend => ?_)
  refine .forget (fr' := [(0, some _), (1, some _)]) ⟨rfl, rfl, trivial⟩ ?_
  have hle := GHeap.Le.refl H
  have base_hin := hin
  have base_hin' := hin'
  refine .seq (fun K1 hK1 => ?_)
  refine .region ?_
  refine .r rfl rfl rfl (.boxR rfl sz_47_VSFun rfl) ?_
  rintro _ H2 ⟨g2, rfl, le2, ge2, at2⟩
  have nx_H2 := le2.1
  replace hle := hle.trans le2
  have lt_at2 := GHeap.lt_of_get at2
  replace hin := base_hin.mono hle
  replace hin' := base_hin'.mono hle
  have hb2 : SFun.At _ g2 0 c p := ⟨Mem.of_get at2, hin⟩
  obtain ⟨fsh2, c52, c62, i12, i22⟩ := hb2.get
  have hm2 : MemN _ _ _ _ _ := ⟨rfl, hb2.1⟩
  have hi2 := hb2.2
  have hmsh2 : MemN _ _ _ _ _ := ⟨rfl, fsh2.1⟩
  have hish2 := fsh2.2
  refine .r rfl rfl rfl (.boxR rfl sz_47_VSFun rfl) ?_
  rintro _ H3 ⟨g3, rfl, le3, ge3, at3⟩
  have nx_H3 := le3.1
  replace hle := hle.trans le3
  replace at2 := le3.2 _ _ at2
  have lt_at3 := GHeap.lt_of_get at3
  replace hin := base_hin.mono hle
  replace hin' := base_hin'.mono hle
  clear hb2 fsh2 c52 c62 i12 i22 hm2 hi2 hmsh2 hish2
  have hb2 : SFun.At _ g2 0 c p := ⟨Mem.of_get at2, hin⟩
  obtain ⟨fsh2, c52, c62, i12, i22⟩ := hb2.get
  have hm2 : MemN _ _ _ _ _ := ⟨rfl, hb2.1⟩
  have hi2 := hb2.2
  have hmsh2 : MemN _ _ _ _ _ := ⟨rfl, fsh2.1⟩
  have hish2 := fsh2.2
  have hb3 : SFun.At _ g3 0 c p' := ⟨Mem.of_get at3, hin'⟩
  obtain ⟨fsh3, c53, c63, i13, i23⟩ := hb3.get
  have hm3 : MemN _ _ _ _ _ := ⟨rfl, hb3.1⟩
  have hi3 := hb3.2
  have hmsh3 : MemN _ _ _ _ _ := ⟨rfl, fsh3.1⟩
  have hish3 := fsh3.2
  refine .m rfl rfl rfl (.assign rfl) ?_
  refine .nil ?_
  refine hK1 _ _ ?_
  refine .seq (fun K2 hK2 => ?_)
  refine .seq (fun K3 hK3 => ?_)
  refine .region ?_
  refine .m rfl rfl rfl (.fieldAddr fo_47_0_VSFun rfl) ?_
  refine .m rfl rfl rfl (.loadM ag_32_D rfl (by assumption)) ?_
  refine .m rfl rfl rfl (.fieldAddr fo_47_0_VSFun rfl) ?_
  refine .m rfl rfl rfl (.loadM ag_32_D rfl (by assumption)) ?_
  refine .callQ rfl rfl rfl rfl @Try.call36 rfl (eqCategory_c) ?_
  refine .m rfl rfl rfl (.not rfl) ?_
  refine .nil ?_
  refine hK3 _ _ ?_
  refine .cond rfl (fun h10 => ?_) (fun h10 => ?_)
  ·
   try simp only [sps] at h10
   refine .seq (fun K4 hK4 => ?_)
   refine .region ?_
   refine .m rfl rfl rfl (.assign rfl) ?_
   refine .nil ?_
   refine hK4 _ _ ?_
   refine .ret ?_
   -- leaf e1
   refine hret _ _ ?_
   refine ⟨_, rfl, ?_⟩
   first
   | exact ⟨rfl, hle⟩
   | exact absurd trivial (by assumption)
   | contradiction
   | (exfalso; omega)
   | (exfalso; simp_all)
  ·
   try simp only [sps] at h10
   refine .skip ?_
   refine hK2 _ _ ?_
   refine .seq (fun K5 hK5 => ?_)
   refine .seq (fun K6 hK6 => ?_)
   refine .region ?_
   refine .m rfl rfl rfl (.fieldAddr fo_47_1_VSFun rfl) ?_
   refine .m rfl rfl rfl (.load on_22_B rfl (by assumption)) ?_
   refine .m rfl rfl rfl (.fieldAddr fo_47_1_VSFun rfl) ?_
   refine .m rfl rfl rfl (.load on_22_B rfl (by assumption)) ?_
   refine .callQ rfl rfl rfl rfl @Try.call9 rfl (eqInt64S_c) ?_
   refine .m rfl rfl rfl (.not rfl) ?_
   refine .nil ?_
   refine hK6 _ _ ?_
   refine .cond rfl (fun h16 => ?_) (fun h16 => ?_)
   ·
    try simp only [sps] at h16
    refine .seq (fun K7 hK7 => ?_)
    refine .region ?_
    refine .m rfl rfl rfl (.assign rfl) ?_
    refine .nil ?_
    refine hK7 _ _ ?_
    refine .ret ?_
    -- leaf e2
    refine hret _ _ ?_
    refine ⟨_, rfl, ?_⟩
    first
    | exact ⟨rfl, hle⟩
    | exact absurd trivial (by assumption)
    | contradiction
    | (exfalso; omega)
    | (exfalso; simp_all)
   ·
    try simp only [sps] at h16
    refine .skip ?_
    refine hK5 _ _ ?_
    refine .seq (fun K8 hK8 => ?_)
    refine .seq (fun K9 hK9 => ?_)
    refine .region ?_
    refine .m rfl rfl rfl (.fieldAddr fo_47_2_VSFun rfl) ?_
    refine .m rfl rfl rfl (.load on_23_B rfl (by assumption)) ?_
    refine .m rfl rfl rfl (.fieldAddr fo_47_2_VSFun rfl) ?_
    refine .m rfl rfl rfl (.load on_23_B rfl (by assumption)) ?_
    refine .callQ rfl rfl rfl rfl @Try.call18 rfl (eqInt64SS_c) ?_
    refine .m rfl rfl rfl (.not rfl) ?_
    refine .nil ?_
    refine hK9 _ _ ?_
    refine .cond rfl (fun h22 => ?_) (fun h22 => ?_)
    ·
     try simp only [sps] at h22
     refine .seq (fun K10 hK10 => ?_)
     refine .region ?_
     refine .m rfl rfl rfl (.assign rfl) ?_
     refine .nil ?_
     refine hK10 _ _ ?_
     refine .ret ?_
     -- leaf e3
     refine hret _ _ ?_
     refine ⟨_, rfl, ?_⟩
     first
     | exact ⟨rfl, hle⟩
     | exact absurd trivial (by assumption)
     | contradiction
     | (exfalso; omega)
     | (exfalso; simp_all)
    ·
     try simp only [sps] at h22
     refine .skip ?_
     refine hK8 _ _ ?_
     refine .seq (fun K11 hK11 => ?_)
     refine .region ?_
     refine .m rfl rfl rfl (.assign rfl) ?_
     refine .nil ?_
     refine hK11 _ _ ?_
     refine .ret ?_
     -- leaf e4
     refine hret _ _ ?_
     refine ⟨_, rfl, ?_⟩
     first
     | exact ⟨rfl, hle⟩
     | exact absurd trivial (by assumption)
     | contradiction
     | (exfalso; omega)
     | (exfalso; simp_all)
end Go.Proofs.Ytkcpjflhjghapaa
/- The laws' helpers for SetMap. No condition but those of each statement. -/
namespace Go.Proofs.Ytkcpjflhjghapaa
open Go Go.GL Go.RowKit Go.Proofs
end Go.Proofs.Ytkcpjflhjghapaa
/- Maps of set functors. No condition but those of each statement. -/
namespace Go.Proofs.Ytkcpjflhjghapaa
open Go Go.GL Go.RowKit Go.Proofs
theorem l19Shape_c {f : SFun} {p : SFunP} {H : GHeap} (hin : f.In H p := by assumption) (hs : f.Small := by assumption) : GCalls Try.prog 55 [.agg (f.cells p).toArray] H (Ret (.bool (B f.Shape)) H) := by
  refine GCalls.ret rfl ?_
  refine GCalls.body (N := 85) (rs := [.tmp 2]) Try.func55 rfl rfl rfl rfl (fun Qx hret hend => ?_)
  refine .forget (fr' := [(0, some _)]) ⟨rfl, trivial⟩ ?_
  have hle := GHeap.Le.refl H
  have base_hin := hin
  obtain ⟨s1, s2, s3, s4⟩ := hs
  refine .seq (fun K1 hK1 => ?_)
  refine .region ?_
  refine .r rfl rfl rfl (.boxR rfl sz_47_VSFun rfl) ?_
  rintro _ H1 ⟨g1, rfl, le1, ge1, at1⟩
  have nx_H1 := le1.1
  replace hle := hle.trans le1
  have lt_at1 := GHeap.lt_of_get at1
  replace hin := base_hin.mono hle
  have hb1 : SFun.At _ g1 0 f p := ⟨Mem.of_get at1, hin⟩
  obtain ⟨fsh1, c51, c61, i11, i21⟩ := hb1.get
  have hm1 : MemN _ _ _ _ _ := ⟨rfl, hb1.1⟩
  have hi1 := hb1.2
  have hmsh1 : MemN _ _ _ _ _ := ⟨rfl, fsh1.1⟩
  have hish1 := fsh1.2
  refine .m rfl rfl rfl (.assign rfl) ?_
  refine .nil ?_
  refine hK1 _ _ ?_
  refine .seq (fun K2 hK2 => ?_)
  refine .seq (fun K3 hK3 => ?_)
  refine .region ?_
  obtain ⟨c0, c1, c2, c3, c4, d1, d2, d3, d4⟩ := fsh1.get
  refine .m rfl rfl rfl (.fieldAddr fo_47_0_P rfl) ?_
  refine .m rfl rfl rfl (.loadM ag_32_D rfl (by assumption)) ?_
  refine .callQ rfl rfl rfl rfl @Try.call64 rfl (l02Is_c) ?_
  refine .m rfl rfl rfl (.not rfl) ?_
  refine .m rfl rfl rfl (.move rfl) ?_
  refine .split (fun h9 => ?_) (fun h9 => ?_)
  ·
   try simp only [sps] at h9
   refine .sg rfl rfl rfl rfl rfl ?_
   refine .sg rfl rfl rfl rfl rfl ?_
   refine .sg rfl rfl rfl rfl rfl ?_
   refine .sg rfl rfl rfl rfl rfl ?_
   refine .sg rfl rfl rfl rfl rfl ?_
   refine .sg rfl rfl rfl rfl rfl ?_
   refine .sg rfl rfl rfl rfl rfl ?_
   refine .m rfl rfl rfl (.pickT rfl rfl) ?_
   refine .m rfl rfl rfl (.move rfl) ?_
   refine .sg rfl rfl rfl rfl rfl ?_
   refine .sg rfl rfl rfl rfl rfl ?_
   refine .sg rfl rfl rfl rfl rfl ?_
   refine .sg rfl rfl rfl rfl rfl ?_
   refine .sg rfl rfl rfl rfl rfl ?_
   refine .sg rfl rfl rfl rfl rfl ?_
   refine .sg rfl rfl rfl rfl rfl ?_
   refine .sg rfl rfl rfl rfl rfl ?_
   refine .m rfl rfl rfl (.pickT rfl rfl) ?_
   refine .nil ?_
   refine hK3 _ _ ?_
   refine .condT rfl ?_
   refine .seq (fun K4 hK4 => ?_)
   refine .region ?_
   refine .m rfl rfl rfl (.assign rfl) ?_
   refine .nil ?_
   refine hK4 _ _ ?_
   refine .ret ?_
   -- leaf e1
   refine hret _ _ ?_
   refine ⟨_, rfl, ?_⟩
   exact ⟨congrArg _ (B_false fun hh => h9 hh.c), hle⟩
  ·
   try simp only [sps] at h9
   refine .mg rfl rfl rfl rfl rfl (.fieldAddr fo_47_1_P rfl) ?_
   refine .mg rfl rfl rfl rfl rfl (.load on_22_B rfl (by assumption)) ?_
   refine .mg rfl rfl rfl rfl rfl (.len sl_22_A rfl) ?_
   refine .mg rfl rfl rfl rfl rfl (.fieldAddr fo_47_0_P rfl) ?_
   refine .mg rfl rfl rfl rfl rfl (.fieldAddr fo_32_0_B rfl) ?_
   refine .mg rfl rfl rfl rfl rfl (.load on_2_A rfl (by assumption)) ?_
   refine .mg rfl rfl rfl rfl rfl (.cmp rfl rfl rfl) ?_
   refine .m rfl rfl rfl (.pickF rfl rfl) ?_
   refine .m rfl rfl rfl (.move rfl) ?_
   refine .split (fun h18 => ?_) (fun h18 => ?_)
   ·
    try simp only [sps] at h18
    refine .sg rfl rfl rfl rfl rfl ?_
    refine .sg rfl rfl rfl rfl rfl ?_
    refine .sg rfl rfl rfl rfl rfl ?_
    refine .sg rfl rfl rfl rfl rfl ?_
    refine .sg rfl rfl rfl rfl rfl ?_
    refine .sg rfl rfl rfl rfl rfl ?_
    refine .sg rfl rfl rfl rfl rfl ?_
    refine .sg rfl rfl rfl rfl rfl ?_
    refine .m rfl rfl rfl (.pickT rfl rfl) ?_
    refine .nil ?_
    refine hK3 _ _ ?_
    refine .condT rfl ?_
    refine .seq (fun K5 hK5 => ?_)
    refine .region ?_
    refine .m rfl rfl rfl (.assign rfl) ?_
    refine .nil ?_
    refine hK5 _ _ ?_
    refine .ret ?_
    -- leaf e2
    refine hret _ _ ?_
    refine ⟨_, rfl, ?_⟩
    exact ⟨congrArg _ (B_false fun hh => h18 hh.zl), hle⟩
   ·
    try simp only [sps] at h18
    refine .mg rfl rfl rfl rfl rfl (.fieldAddr fo_47_2_P rfl) ?_
    refine .mg rfl rfl rfl rfl rfl (.load on_23_B rfl (by assumption)) ?_
    refine .mg rfl rfl rfl rfl rfl (.len sl_23_B rfl) ?_
    refine .mg rfl rfl rfl rfl rfl (.fieldAddr fo_47_0_P rfl) ?_
    refine .mg rfl rfl rfl rfl rfl (.fieldAddr fo_32_1_B rfl) ?_
    refine .mg rfl rfl rfl rfl rfl (.load on_22_B rfl (by assumption)) ?_
    refine .mg rfl rfl rfl rfl rfl (.len sl_22_A rfl) ?_
    refine .mg rfl rfl rfl rfl rfl (.cmp rfl rfl rfl) ?_
    refine .m rfl rfl rfl (.pickF rfl rfl) ?_
    refine .nil ?_
    refine hK3 _ _ ?_
    refine .cond rfl (fun h27 => ?_) (fun h27 => ?_)
    ·
     try simp only [sps] at h27
     refine .seq (fun K6 hK6 => ?_)
     refine .region ?_
     refine .m rfl rfl rfl (.assign rfl) ?_
     refine .nil ?_
     refine hK6 _ _ ?_
     refine .ret ?_
     -- leaf e3
     refine hret _ _ ?_
     refine ⟨_, rfl, ?_⟩
     exact ⟨congrArg _ (B_false fun hh => by have := hh.al; omega), hle⟩
    ·
     try simp only [sps] at h27
     refine .skip ?_
     refine hK2 _ _ ?_
     refine .seq (fun K7 hK7 => ?_)
     refine .seq (fun K8 hK8 => ?_)
     refine .region ?_
     refine .m rfl rfl rfl (.assign rfl) ?_
     refine .nil ?_
     refine hK8 _ _ ?_
     refine .block ?_
     have hC := h9
     have hS := hC.1
     have q1 := hS.tl
     have q2 := hS.obj
     refine .loopR (σ := Nat) [(1, some _)] (fun j => [(3, some (.int .i64 (j : Int)))]) (fun j H' => H1 = H' ∧ (j : Int) ≤ f.sz.length ∧ ∀ i, i < j → 0 ≤ f.sz.getD i 0 ∧ f.sz.getD i 0 ≤ 16) (fun j => (f.sz.length - j : Int).toNat) (0) ⟨rfl, trivial⟩ ⟨rfl, trivial⟩ ?_ ?_
     ·
      refine ⟨rfl, ?_⟩
      exact ⟨by omega, fun _ _ => by omega⟩
     ·
      rintro j _ ⟨rfl, hI⟩ KL1 hKL1
      refine .forget (fr' := [(3, some (.int .i64 (j : Int))), (1, some _)]) ⟨rfl, rfl, trivial⟩ ?_
      obtain ⟨hk1, ha1⟩ := hI
      refine .seq (fun K9 hK9 => ?_)
      refine .seq (fun K10 hK10 => ?_)
      refine .region ?_
      refine .m rfl rfl rfl (.move rfl) ?_
      refine .m rfl rfl rfl (.fieldAddr fo_47_1_P rfl) ?_
      refine .m rfl rfl rfl (.load on_22_B rfl (by assumption)) ?_
      refine .m rfl rfl rfl (.len sl_22_A rfl) ?_
      refine .m rfl rfl rfl (.cmp rfl rfl rfl) ?_
      refine .nil ?_
      refine hK10 _ _ ?_
      refine .cond rfl (fun h32 => ?_) (fun h32 => ?_)
      ·
       try simp only [sps] at h32
       refine .skip ?_
       refine hK9 _ _ ?_
       refine .seq (fun K11 hK11 => ?_)
       refine .block ?_
       refine .seq (fun K12 hK12 => ?_)
       refine .region ?_
       refine .m rfl rfl rfl (.fieldAddr fo_47_1_P rfl) ?_
       refine .m rfl rfl rfl (.load on_22_B rfl (by assumption)) ?_
       refine .m rfl rfl rfl (.move rfl) ?_
       refine .m rfl rfl rfl (.idxN sl_22_A (by assumption) rfl rfl (by omega)) ?_
       refine .m rfl rfl rfl (.loadI on_2_A (by assumption) rfl (by omega)) ?_
       refine .callQ rfl rfl rfl rfl @Try.call75 rfl (l01In_c) ?_
       refine .m rfl rfl rfl (.not rfl) ?_
       refine .nil ?_
       refine hK12 _ _ ?_
       refine .cond rfl (fun h41 => ?_) (fun h41 => ?_)
       ·
        try simp only [sps] at h41
        refine .seq (fun K13 hK13 => ?_)
        refine .region ?_
        refine .m rfl rfl rfl (.assign rfl) ?_
        refine .nil ?_
        refine hK13 _ _ ?_
        refine .ret ?_
        -- leaf e4
        refine hret _ _ ?_
        refine ⟨_, rfl, ?_⟩
        exact ⟨congrArg _ (B_false fun hh => by have := hh.sz j (by omega); omega), hle⟩
       ·
        try simp only [sps] at h41
        refine .skip ?_
        refine hK11 _ _ ?_
        refine .region ?_
        refine .m rfl rfl rfl (.move rfl) ?_
        refine .m rfl rfl rfl (.add rfl rfl rfl (by omega) (by omega)) ?_
        refine .m rfl rfl rfl (.assign rfl) ?_
        refine .nil ?_
        refine hKL1 (j + 1) _ _ ?_ ?_ ⟨rfl, rfl, trivial⟩
        ·
         refine ⟨rfl, ?_⟩
         refine ⟨by omega, fun i hx => ?_⟩
         by_cases hltq : i < j
         · exact ha1 i hltq
         · obtain rfl : i = j := by omega
           exact h41
        ·
         omega
      ·
       try simp only [sps] at h32
       refine .exit ?_
       refine hK7 _ _ ?_
       refine .seq (fun K14 hK14 => ?_)
       refine .seq (fun K15 hK15 => ?_)
       refine .region ?_
       refine .m rfl rfl rfl (.assign rfl) ?_
       refine .nil ?_
       refine hK15 _ _ ?_
       refine .block ?_
       refine .loopR (σ := Nat) [(1, some _)] (fun k => [(4, some (.int .i64 (k : Int)))]) (fun k H' => H1 = H' ∧ (k : Int) ≤ f.ac.length ∧ ∀ a, a < k → f.AcOk a) (fun k => (f.ac.length - k : Int).toNat) (0) ⟨rfl, trivial⟩ ⟨rfl, trivial⟩ ?_ ?_
       ·
        refine ⟨rfl, ?_⟩
        exact ⟨by omega, fun _ _ => by omega⟩
       ·
        rintro k _ ⟨rfl, hI⟩ KL2 hKL2
        refine .forget (fr' := [(4, some (.int .i64 (k : Int))), (1, some _)]) ⟨rfl, rfl, trivial⟩ ?_
        obtain ⟨hk2, ha2⟩ := hI
        refine .seq (fun K16 hK16 => ?_)
        refine .seq (fun K17 hK17 => ?_)
        refine .region ?_
        refine .m rfl rfl rfl (.move rfl) ?_
        refine .m rfl rfl rfl (.fieldAddr fo_47_2_P rfl) ?_
        refine .m rfl rfl rfl (.load on_23_B rfl (by assumption)) ?_
        refine .m rfl rfl rfl (.len sl_23_B rfl) ?_
        refine .m rfl rfl rfl (.cmp rfl rfl rfl) ?_
        refine .nil ?_
        refine hK17 _ _ ?_
        refine .cond rfl (fun h46 => ?_) (fun h46 => ?_)
        ·
         simp only [sps] at h46
         have q3 := hS.src k (by omega)
         have q4 := hS.tgt k (by omega)
         have q6 := i21.2 k (by omega)
         have q7 := s4 k
         refine .skip ?_
         refine hK16 _ _ ?_
         refine .seq (fun K18 hK18 => ?_)
         refine .block ?_
         refine .seq (fun K19 hK19 => ?_)
         refine .regionD mixed_orders_B (.q 0 (.q 1 (.q 2 (.q 3 (.q 4 (.q 5 (.q 6 (.q 7 (.q 8 (.q 9 (.q 10 (.q 11 (.q 12 (.q 13 (.q 14 (.q 15 (.q 16 (.q 17 (.q 18 (.q 19 (.q 20 (.q 21 (.q 22 (.q 23 (.q 24 (.q 25 (.q 26 (.q 27 (.q 28 (.q 29 (.q 30 (.q 31 (.q 32 (.c 33 0 (.q 34 (.q 35 (.done))))))))))))))))))))))))))))))))))))) (by kernel_rfl) ?_
         refine .m rfl rfl rfl rfl (.refl _) (.fieldAddr fo_47_2_P rfl) ?_
         refine .m rfl rfl rfl rfl (.refl _) (.load on_23_B rfl (by assumption)) ?_
         refine .m rfl rfl rfl rfl (.refl _) (.move rfl) ?_
         refine .m rfl rfl rfl rfl (.refl _) (.idxN sl_23_B (Intss.sl (by assumption)) rfl rfl (by omega)) ?_
         refine .m rfl rfl rfl rfl (.refl _) (.loadR on_22_B (by assumption) rfl (by omega)) ?_
         refine .m rfl rfl rfl rfl (.refl _) (.len sl_22_A rfl) ?_
         refine .m rfl rfl rfl rfl (.refl _) (.fieldAddr fo_47_1_P rfl) ?_
         refine .m rfl rfl rfl rfl (.refl _) (.load on_22_B rfl (by assumption)) ?_
         refine .m rfl rfl rfl rfl (.refl _) (.fieldAddr fo_47_0_P rfl) ?_
         refine .m rfl rfl rfl rfl (.refl _) (.fieldAddr fo_32_1_B rfl) ?_
         refine .m rfl rfl rfl rfl (.refl _) (.load on_22_B rfl (by assumption)) ?_
         refine .m rfl rfl rfl rfl (.refl _) (.move rfl) ?_
         refine .m rfl rfl rfl rfl (.refl _) (.idxN sl_22_A (by assumption) rfl rfl (by omega)) ?_
         refine .m rfl rfl rfl rfl (.refl _) (.loadI on_2_A (by assumption) rfl (by omega)) ?_
         refine .m rfl rfl rfl rfl (.refl _) (.idx1 sl_22_A (by assumption) rfl rfl (by omega) (by omega)) ?_
         refine .m rfl rfl rfl rfl (.refl _) (.loadI on_2_A (by assumption) rfl (by omega)) ?_
         refine .m rfl rfl rfl rfl (.refl _) (.cmp rfl rfl rfl) ?_
         refine .m rfl rfl rfl rfl (.refl _) (.move rfl) ?_
         refine .split (fun h66 => ?_) (fun h66 => ?_)
         ·
          try simp only [sps] at h66
          refine .sg rfl rfl rfl rfl rfl rfl ?_
          refine .sg rfl rfl rfl rfl rfl rfl ?_
          refine .sg rfl rfl rfl rfl rfl rfl ?_
          refine .sg rfl rfl rfl rfl rfl rfl ?_
          refine .sg rfl rfl rfl rfl rfl rfl ?_
          refine .sg rfl rfl rfl rfl rfl rfl ?_
          refine .sg rfl rfl rfl rfl rfl rfl ?_
          refine .sg rfl rfl rfl rfl rfl rfl ?_
          refine .sg rfl rfl rfl rfl rfl rfl ?_
          refine .sg rfl rfl rfl rfl rfl rfl ?_
          refine .sg rfl rfl rfl rfl rfl rfl ?_
          refine .sg rfl rfl rfl rfl rfl rfl ?_
          refine .sg rfl rfl rfl rfl rfl rfl ?_
          refine .sg rfl rfl rfl rfl rfl rfl ?_
          refine .sg rfl rfl rfl rfl rfl rfl ?_
          refine .sgc rfl rfl rfl rfl rfl rfl ?_
          refine .sg rfl rfl rfl rfl rfl rfl ?_
          refine .m rfl rfl rfl rfl (.refl _) (.pickT rfl rfl) ?_
          refine .done ?_
          refine hK19 _ _ ?_
          refine .condT rfl ?_
          refine .seq (fun K20 hK20 => ?_)
          refine .region ?_
          refine .m rfl rfl rfl (.assign rfl) ?_
          refine .nil ?_
          refine hK20 _ _ ?_
          refine .ret ?_
          -- leaf e5
          refine hret _ _ ?_
          refine ⟨_, rfl, ?_⟩
          exact ⟨congrArg _ (B_false fun hh => h66 (hh.ac k (by omega)).1), hle⟩
         ·
          try simp only [sps] at h66
          refine .mg rfl rfl rfl rfl rfl rfl (.refl _) (.fieldAddr fo_47_1_P rfl) ?_
          refine .mg rfl rfl rfl rfl rfl rfl (.refl _) (.load on_22_B rfl (by assumption)) ?_
          refine .mg rfl rfl rfl rfl rfl rfl (.refl _) (.fieldAddr fo_47_0_P rfl) ?_
          refine .mg rfl rfl rfl rfl rfl rfl (.refl _) (.fieldAddr fo_32_2_B rfl) ?_
          refine .mg rfl rfl rfl rfl rfl rfl (.refl _) (.load on_22_B rfl (by assumption)) ?_
          refine .mg rfl rfl rfl rfl rfl rfl (.refl _) (.move rfl) ?_
          refine .mg rfl rfl rfl rfl rfl rfl (.refl _) (.idxN sl_22_A (by assumption) rfl rfl (by omega)) ?_
          refine .mg rfl rfl rfl rfl rfl rfl (.refl _) (.loadI on_2_A (by assumption) rfl (by omega)) ?_
          refine .mg rfl rfl rfl rfl rfl rfl (.refl _) (.idx1 sl_22_A (by assumption) rfl rfl (by omega) (by omega)) ?_
          refine .mg rfl rfl rfl rfl rfl rfl (.refl _) (.loadI on_2_A (by assumption) rfl (by omega)) ?_
          refine .mg rfl rfl rfl rfl rfl rfl (.refl _) (.fieldAddr fo_47_2_P rfl) ?_
          refine .mg rfl rfl rfl rfl rfl rfl (.refl _) (.load on_23_B rfl (by assumption)) ?_
          refine .mg rfl rfl rfl rfl rfl rfl (.refl _) (.move rfl) ?_
          refine .mg rfl rfl rfl rfl rfl rfl (.refl _) (.idxN sl_23_B (Intss.sl (by assumption)) rfl rfl (by omega)) ?_
          refine .mg rfl rfl rfl rfl rfl rfl (.refl _) (.loadR on_22_B (by assumption) rfl (by omega)) ?_
          refine .callQ0g rfl rfl rfl rfl rfl rfl rfl @Try.call76 rfl (l01Map_c) ?_
          refine .mg rfl rfl rfl rfl rfl rfl (.refl _) (.not rfl) ?_
          refine .m rfl rfl rfl rfl (.refl _) (.pickF rfl rfl) ?_
          refine .done ?_
          refine hK19 _ _ ?_
          refine .cond rfl (fun h84 => ?_) (fun h84 => ?_)
          ·
           simp only [B_iff, B_not, Bool.not_eq_true', Bool.not_eq_false'] at h84
           refine .seq (fun K21 hK21 => ?_)
           refine .region ?_
           refine .m rfl rfl rfl (.assign rfl) ?_
           refine .nil ?_
           refine hK21 _ _ ?_
           refine .ret ?_
           -- leaf e6
           refine hret _ _ ?_
           refine ⟨_, rfl, ?_⟩
           exact ⟨congrArg _ (B_false fun hh => by rw [(hh.ac k (by omega)).2] at h84; cases h84), hle⟩
          ·
           simp only [B_iff, B_not, Bool.not_eq_true', Bool.not_eq_false'] at h84
           refine .skip ?_
           refine hK18 _ _ ?_
           refine .region ?_
           refine .m rfl rfl rfl (.move rfl) ?_
           refine .m rfl rfl rfl (.add rfl rfl rfl (by omega) (by omega)) ?_
           refine .m rfl rfl rfl (.assign rfl) ?_
           refine .nil ?_
           refine hKL2 (k + 1) _ _ ?_ ?_ ⟨rfl, rfl, trivial⟩
           ·
            refine ⟨rfl, ?_⟩
            refine ⟨by omega, fun a hx => ?_⟩
            by_cases hltq : a < k
            · exact ha2 a hltq
            · obtain rfl : a = k := by omega
              exact ⟨by omega, h84⟩
           ·
            omega
        ·
         try simp only [sps] at h46
         refine .exit ?_
         refine hK14 _ _ ?_
         refine .seq (fun K22 hK22 => ?_)
         refine .region ?_
         refine .m rfl rfl rfl (.assign rfl) ?_
         refine .nil ?_
         refine hK22 _ _ ?_
         refine .ret ?_
         -- leaf e7
         refine hret _ _ ?_
         refine ⟨_, rfl, ?_⟩
         exact ⟨congrArg _ (B_true ⟨hC, by omega, fun i hi => ha1 i (by omega), by omega, fun a ha => ha2 a (by omega)⟩), hle⟩
theorem l19Fault_c {f : SFun} {p : SFunP} {H : GHeap} (hin : f.In H p := by assumption) (hS : f.Shape := by assumption) :
    GCalls Try.prog 56 [.agg (f.cells p).toArray] H (fun v H' => ((∃ k x y z, v = .tuple #[.int .i64 k, .int .i64 x, .int .i64 y, .int .i64 z] ∧ (k = 0 ↔ f.Laws)) ∧ flat v = true) ∧ H' = H) := by
  refine (GCalls.quiet (φ := fun v => (∃ k x y z, v = .tuple #[.int .i64 k, .int .i64 x, .int .i64 y, .int .i64 z] ∧ (k = 0 ↔ f.Laws)) ∧ flat v = true) ?_)
  refine GCalls.body (N := 117) (rs := [.tmp 2, .tmp 3, .tmp 4, .tmp 5]) Try.func56 rfl rfl rfl rfl (fun Qx hret hend => ?_)
  refine .forget (fr' := [(0, some _)]) ⟨rfl, trivial⟩ ?_
  have hle := GHeap.Le.refl H
  have base_hin := hin
  have hC := hS.c.1
  have q1 := hC.tl
  have q2 := hC.obj
  have q3 := hC.n40
  have q4 := hC.cl
  have q5 := hC.il
  have q6 := hS.al
  have q7 := hS.zl
  refine .seq (fun K1 hK1 => ?_)
  refine .region ?_
  refine .r rfl rfl rfl (.boxR rfl sz_47_VSFun rfl) ?_
  rintro _ H1 ⟨g1, rfl, le1, ge1, at1⟩
  have nx_H1 := le1.1
  replace hle := hle.trans le1
  have lt_at1 := GHeap.lt_of_get at1
  replace hin := base_hin.mono hle
  have hb1 : SFun.At _ g1 0 f p := ⟨Mem.of_get at1, hin⟩
  obtain ⟨fsh1, c51, c61, i11, i21⟩ := hb1.get
  have hm1 : MemN _ _ _ _ _ := ⟨rfl, hb1.1⟩
  have hi1 := hb1.2
  have hmsh1 : MemN _ _ _ _ _ := ⟨rfl, fsh1.1⟩
  have hish1 := fsh1.2
  refine .m rfl rfl rfl (.assign rfl) ?_
  refine .m rfl rfl rfl (.assign rfl) ?_
  refine .m rfl rfl rfl (.assign rfl) ?_
  refine .m rfl rfl rfl (.assign rfl) ?_
  refine .nil ?_
  refine hK1 _ _ ?_
  refine .seq (fun K2 hK2 => ?_)
  refine .region ?_
  refine .m rfl rfl rfl (.fieldAddr fo_47_0_P rfl) ?_
  refine .m rfl rfl rfl (.loadM ag_32_D rfl (by assumption)) ?_
  refine .r rfl rfl rfl (.allocR rfl ze_32_E rfl) ?_
  rintro _ H6 ⟨g6, rfl, le6, ge6, at6⟩
  have nx_H6 := le6.1
  replace hle := hle.trans le6
  replace at1 := le6.2 _ _ at1
  have lt_at6 := GHeap.lt_of_get at6
  replace hin := base_hin.mono hle
  clear hb1 fsh1 c51 c61 i11 i21 hm1 hi1 hmsh1 hish1
  have hb1 : SFun.At _ g1 0 f p := ⟨Mem.of_get at1, hin⟩
  obtain ⟨fsh1, c51, c61, i11, i21⟩ := hb1.get
  have hm1 : MemN _ _ _ _ _ := ⟨rfl, hb1.1⟩
  have hi1 := hb1.2
  have hmsh1 : MemN _ _ _ _ _ := ⟨rfl, fsh1.1⟩
  have hish1 := fsh1.2
  refine .r0 rfl rfl (.fillR rfl sz_32_D rfl rfl rfl rfl (by assumption) (by first | rfl | exact Nat.le_of_ble_eq_true rfl | simp)) ?_
  rintro _ H1003 ⟨rfl, st1003, at1003⟩
  have nx_H1003 := st1003.nx
  replace hle := hle.st st1003 (fun k hk => ⟨by omega, trivial⟩)
  replace at1 := st1003.same _ _ ⟨by omega, trivial⟩ at1
  have lt_at1003 := GHeap.lt_of_get at1003
  replace hin := base_hin.mono hle
  clear hb1 fsh1 c51 c61 i11 i21 hm1 hi1 hmsh1 hish1
  have hb1 : SFun.At _ g1 0 f p := ⟨Mem.of_get at1, hin⟩
  obtain ⟨fsh1, c51, c61, i11, i21⟩ := hb1.get
  have hm1 : MemN _ _ _ _ _ := ⟨rfl, hb1.1⟩
  have hi1 := hb1.2
  have hmsh1 : MemN _ _ _ _ _ := ⟨rfl, fsh1.1⟩
  have hish1 := fsh1.2
  have mm1003 : MemN _ _ _ _ _ := ⟨rfl, Mem.of_get at1003⟩
  have hb6 : Cat.At _ g6 0 f.sh p.sh := ⟨Mem.of_get at1003, hish1⟩
  obtain ⟨c06, c16, c26, c36, c46, i16, i26, i36, i46⟩ := hb6.get
  have hm6 : MemN _ _ _ _ _ := ⟨rfl, hb6.1⟩
  have hi6 := hb6.2
  refine .nil ?_
  refine hK2 _ _ ?_
  refine .seq (fun K3 hK3 => ?_)
  refine .seq (fun K4 hK4 => ?_)
  refine .region ?_
  refine .m rfl rfl rfl (.assign rfl) ?_
  refine .nil ?_
  refine hK4 _ _ ?_
  refine .block ?_
  refine .loopR (σ := Nat) [(1, some _), (6, some _)] (fun k => [(7, some (.int .i64 (k : Int)))]) (fun k H' => H1003 = H' ∧ (k : Int) ≤ f.sh.obj ∧ ∀ x, x < k → ∀ e : Nat, e < (f.ac.getD (f.sh.idn.getD x 0).toNat []).length → (f.ac.getD (f.sh.idn.getD x 0).toNat []).getD e 0 = e) (fun k => (f.sh.obj - k : Int).toNat) (0) ⟨rfl, rfl, trivial⟩ ⟨rfl, trivial⟩ ?_ ?_
  ·
   refine ⟨rfl, ?_⟩
   exact ⟨by omega, fun _ _ => by omega⟩
  ·
   rintro k _ ⟨rfl, hI⟩ KL1 hKL1
   refine .forget (fr' := [(7, some (.int .i64 (k : Int))), (1, some _), (6, some _)]) ⟨rfl, rfl, rfl, trivial⟩ ?_
   obtain ⟨hk1, ha1⟩ := hI
   refine .seq (fun K5 hK5 => ?_)
   refine .seq (fun K6 hK6 => ?_)
   refine .region ?_
   refine .m rfl rfl rfl (.move rfl) ?_
   refine .m rfl rfl rfl (.fieldAddr fo_32_0_B rfl) ?_
   refine .m rfl rfl rfl (.load on_2_A rfl (by assumption)) ?_
   refine .m rfl rfl rfl (.cmp rfl rfl rfl) ?_
   refine .nil ?_
   refine hK6 _ _ ?_
   refine .cond rfl (fun h17 => ?_) (fun h17 => ?_)
   ·
    simp only [sps] at h17
    have r1 := hC.idn k (by omega)
    have r2 := i21.2 (f.sh.idn.getD k 0).toNat (by omega)
    have r3 := hS.ends (a := (f.sh.idn.getD k 0).toNat) (by omega)
    rw [(hC.ids k (by omega)).1] at r3
    have r4 := hS.sz k (by omega)
    have r5 : ((k : Int)).toNat = k := Int.toNat_natCast k
    rw [r5] at r3
    refine .skip ?_
    refine hK5 _ _ ?_
    refine .seq (fun K7 hK7 => ?_)
    refine .block ?_
    refine .seq (fun K8 hK8 => ?_)
    refine .region ?_
    refine .m rfl rfl rfl (.assign rfl) ?_
    refine .nil ?_
    refine hK8 _ _ ?_
    refine .block ?_
    refine .loopR (σ := Nat) [(1, some _), (6, some _), (7, some _)] (fun l => [(8, some (.int .i64 (l : Int)))]) (fun l H' => H1003 = H' ∧ (l : Int) ≤ (f.ac.getD (f.sh.idn.getD k 0).toNat []).length ∧ ∀ e, e < l → (f.ac.getD (f.sh.idn.getD k 0).toNat []).getD e 0 = e) (fun l => ((f.ac.getD (f.sh.idn.getD k 0).toNat []).length - l : Int).toNat) (0) ⟨rfl, rfl, rfl, trivial⟩ ⟨rfl, trivial⟩ ?_ ?_
    ·
     refine ⟨rfl, ?_⟩
     exact ⟨by omega, fun _ _ => by omega⟩
    ·
     rintro l _ ⟨rfl, hI⟩ KL2 hKL2
     refine .forget (fr' := [(8, some (.int .i64 (l : Int))), (1, some _), (6, some _), (7, some _)]) ⟨rfl, rfl, rfl, rfl, trivial⟩ ?_
     obtain ⟨hk2, ha2⟩ := hI
     refine .seq (fun K9 hK9 => ?_)
     refine .seq (fun K10 hK10 => ?_)
     refine .region ?_
     refine .m rfl rfl rfl (.move rfl) ?_
     refine .m rfl rfl rfl (.fieldAddr fo_47_1_P rfl) ?_
     refine .m rfl rfl rfl (.load on_22_B rfl (by assumption)) ?_
     refine .m rfl rfl rfl (.move rfl) ?_
     refine .m rfl rfl rfl (.idxN sl_22_A (by assumption) rfl rfl (by omega)) ?_
     refine .m rfl rfl rfl (.loadI on_2_A (by assumption) rfl (by omega)) ?_
     refine .m rfl rfl rfl (.cmp rfl rfl rfl) ?_
     refine .nil ?_
     refine hK10 _ _ ?_
     refine .cond rfl (fun h26 => ?_) (fun h26 => ?_)
     ·
      try simp only [sps] at h26
      refine .skip ?_
      refine hK9 _ _ ?_
      refine .seq (fun K11 hK11 => ?_)
      refine .block ?_
      refine .seq (fun K12 hK12 => ?_)
      refine .regionD mixed_orders_B (.q 0 (.q 1 (.q 2 (.q 3 (.q 4 (.q 5 (.q 6 (.q 7 (.q 8 (.q 9 (.q 10 (.q 11 (.q 12 (.q 13 (.done))))))))))))))) (by kernel_rfl) ?_
      refine .m rfl rfl rfl rfl (.refl _) (.fieldAddr fo_47_2_P rfl) ?_
      refine .m rfl rfl rfl rfl (.refl _) (.load on_23_B rfl (by assumption)) ?_
      refine .m rfl rfl rfl rfl (.refl _) (.fieldAddr fo_32_3_B rfl) ?_
      refine .m rfl rfl rfl rfl (.refl _) (.load on_22_B rfl (by assumption)) ?_
      refine .m rfl rfl rfl rfl (.refl _) (.move rfl) ?_
      refine .m rfl rfl rfl rfl (.refl _) (.idxN sl_22_A (by assumption) rfl rfl (by omega)) ?_
      refine .m rfl rfl rfl rfl (.refl _) (.loadI on_2_A (by assumption) rfl (by omega)) ?_
      refine .m rfl rfl rfl rfl (.refl _) (.idx1 sl_23_B (Intss.sl (by assumption)) rfl rfl (by omega) (by omega)) ?_
      refine .m rfl rfl rfl rfl (.refl _) (.loadR on_22_B (by assumption) rfl (by omega)) ?_
      refine .m rfl rfl rfl rfl (.refl _) (.move rfl) ?_
      refine .m rfl rfl rfl rfl (.refl _) (.idxN sl_22_A (by assumption) rfl rfl (by omega)) ?_
      refine .m rfl rfl rfl rfl (.refl _) (.loadI on_2_A (by assumption) rfl (by omega)) ?_
      refine .m rfl rfl rfl rfl (.refl _) (.move rfl) ?_
      refine .m rfl rfl rfl rfl (.refl _) (.cmp rfl rfl rfl) ?_
      refine .done ?_
      refine hK12 _ _ ?_
      refine .cond rfl (fun h42 => ?_) (fun h42 => ?_)
      ·
       try simp only [sps] at h42
       refine .seq (fun K13 hK13 => ?_)
       refine .region ?_
       refine .m rfl rfl rfl (.move rfl) ?_
       refine .m rfl rfl rfl (.move rfl) ?_
       refine .m rfl rfl rfl (.assign rfl) ?_
       refine .m rfl rfl rfl (.assign rfl) ?_
       refine .m rfl rfl rfl (.assign rfl) ?_
       refine .m rfl rfl rfl (.assign rfl) ?_
       refine .nil ?_
       refine hK13 _ _ ?_
       refine .ret ?_
       -- leaf e1
       refine hret _ _ ?_
       refine ⟨_, _, _, _, rfl, rfl, rfl, rfl, ?_⟩
       exact ⟨⟨⟨_, _, _, _, rfl, ⟨fun hh => absurd hh (by decide), fun hL => absurd (hL.ids k (by omega) l (by omega)) h42⟩⟩, rfl⟩, rfl, hle⟩
      ·
       try simp only [sps] at h42
       refine .skip ?_
       refine hK11 _ _ ?_
       refine .region ?_
       refine .m rfl rfl rfl (.move rfl) ?_
       refine .m rfl rfl rfl (.add rfl rfl rfl (by omega) (by omega)) ?_
       refine .m rfl rfl rfl (.assign rfl) ?_
       refine .nil ?_
       refine hKL2 (l + 1) _ _ ?_ ?_ ⟨rfl, rfl, rfl, rfl, trivial⟩
       ·
        refine ⟨rfl, ?_⟩
        refine ⟨by omega, fun e hx => ?_⟩
        by_cases hltq : e < l
        · exact ha2 e hltq
        · obtain rfl : e = l := by omega
          exact h42
       ·
        omega
     ·
      try simp only [sps] at h26
      refine .exit ?_
      refine hK7 _ _ ?_
      refine .region ?_
      refine .m rfl rfl rfl (.move rfl) ?_
      refine .m rfl rfl rfl (.add rfl rfl rfl (by omega) (by omega)) ?_
      refine .m rfl rfl rfl (.assign rfl) ?_
      refine .nil ?_
      refine hKL1 (k + 1) _ _ ?_ ?_ ⟨rfl, rfl, rfl, trivial⟩
      ·
       refine ⟨rfl, ?_⟩
       refine ⟨by omega, fun x hx => ?_⟩
       by_cases hltq : x < k
       · exact ha1 x hltq
       · obtain rfl : x = k := by omega
         exact fun e he => ha2 e (by omega)
      ·
       omega
   ·
    try simp only [sps] at h17
    refine .exit ?_
    refine hK3 _ _ ?_
    refine .seq (fun K14 hK14 => ?_)
    refine .seq (fun K15 hK15 => ?_)
    refine .region ?_
    refine .m rfl rfl rfl (.assign rfl) ?_
    refine .nil ?_
    refine hK15 _ _ ?_
    refine .block ?_
    refine .loopR (σ := Nat) [(1, some _), (6, some _)] (fun a => [(9, some (.int .i64 (a : Int)))]) (fun a H' => H1003 = H' ∧ (a : Int) ≤ f.sh.src.length ∧ ∀ a', a' < a → ∀ b : Nat, b < f.sh.src.length → f.sh.tgt.getD a' 0 = f.sh.src.getD b 0 → ∀ e : Nat, e < (f.ac.getD a' []).length → (f.ac.getD ((f.sh.comp.getD a' []).getD b 0).toNat []).getD e 0 = (f.ac.getD b []).getD ((f.ac.getD a' []).getD e 0).toNat 0) (fun a => (f.sh.src.length - a : Int).toNat) (0) ⟨rfl, rfl, trivial⟩ ⟨rfl, trivial⟩ ?_ ?_
    ·
     refine ⟨rfl, ?_⟩
     exact ⟨by omega, fun _ _ => by omega⟩
    ·
     rintro a _ ⟨rfl, hI⟩ KL3 hKL3
     refine .forget (fr' := [(9, some (.int .i64 (a : Int))), (1, some _), (6, some _)]) ⟨rfl, rfl, rfl, trivial⟩ ?_
     obtain ⟨hk3, ha3⟩ := hI
     refine .seq (fun K16 hK16 => ?_)
     refine .seq (fun K17 hK17 => ?_)
     refine .region ?_
     refine .m rfl rfl rfl (.move rfl) ?_
     refine .m rfl rfl rfl (.fieldAddr fo_32_1_B rfl) ?_
     refine .m rfl rfl rfl (.load on_22_B rfl (by assumption)) ?_
     refine .m rfl rfl rfl (.len sl_22_A rfl) ?_
     refine .m rfl rfl rfl (.cmp rfl rfl rfl) ?_
     refine .nil ?_
     refine hK17 _ _ ?_
     refine .cond rfl (fun h49 => ?_) (fun h49 => ?_)
     ·
      simp only [sps] at h49
      have r1 := hC.row a (by omega)
      have r2 := i46.2 a (by omega)
      have r3 := i21.2 a (by omega)
      have r4 := hS.ends (a := a) (by omega)
      have r5 := hS.sz (f.sh.src.getD a 0).toNat (by omega)
      refine .skip ?_
      refine hK16 _ _ ?_
      refine .seq (fun K18 hK18 => ?_)
      refine .block ?_
      refine .seq (fun K19 hK19 => ?_)
      refine .region ?_
      refine .m rfl rfl rfl (.assign rfl) ?_
      refine .nil ?_
      refine hK19 _ _ ?_
      refine .block ?_
      refine .loopR (σ := Nat) [(1, some _), (6, some _), (9, some _)] (fun b => [(10, some (.int .i64 (b : Int)))]) (fun b H' => H1003 = H' ∧ (b : Int) ≤ f.sh.src.length ∧ ∀ b', b' < b → f.sh.tgt.getD a 0 = f.sh.src.getD b' 0 → ∀ e : Nat, e < (f.ac.getD a []).length → (f.ac.getD ((f.sh.comp.getD a []).getD b' 0).toNat []).getD e 0 = (f.ac.getD b' []).getD ((f.ac.getD a []).getD e 0).toNat 0) (fun b => (f.sh.src.length - b : Int).toNat) (0) ⟨rfl, rfl, rfl, trivial⟩ ⟨rfl, trivial⟩ ?_ ?_
      ·
       refine ⟨rfl, ?_⟩
       exact ⟨by omega, fun _ _ => by omega⟩
      ·
       rintro b _ ⟨rfl, hI⟩ KL4 hKL4
       refine .forget (fr' := [(10, some (.int .i64 (b : Int))), (1, some _), (6, some _), (9, some _)]) ⟨rfl, rfl, rfl, rfl, trivial⟩ ?_
       obtain ⟨hk4, ha4⟩ := hI
       refine .seq (fun K20 hK20 => ?_)
       refine .seq (fun K21 hK21 => ?_)
       refine .region ?_
       refine .m rfl rfl rfl (.move rfl) ?_
       refine .m rfl rfl rfl (.fieldAddr fo_32_1_B rfl) ?_
       refine .m rfl rfl rfl (.load on_22_B rfl (by assumption)) ?_
       refine .m rfl rfl rfl (.len sl_22_A rfl) ?_
       refine .m rfl rfl rfl (.cmp rfl rfl rfl) ?_
       refine .nil ?_
       refine hK21 _ _ ?_
       refine .cond rfl (fun h56 => ?_) (fun h56 => ?_)
       ·
        simp only [sps] at h56
        have t1 := i21.2 b (by omega)
        have t2 := hS.ends (a := b) (by omega)
        refine .skip ?_
        refine hK20 _ _ ?_
        refine .seq (fun K22 hK22 => ?_)
        refine .block ?_
        refine .seq (fun K23 hK23 => ?_)
        refine .seq (fun K24 hK24 => ?_)
        refine .regionD mixed_orders_B (.q 0 (.q 1 (.q 2 (.q 3 (.q 4 (.q 5 (.q 6 (.q 7 (.q 8 (.q 9 (.q 10 (.done)))))))))))) (by kernel_rfl) ?_
        refine .m rfl rfl rfl rfl (.refl _) (.fieldAddr fo_32_2_B rfl) ?_
        refine .m rfl rfl rfl rfl (.refl _) (.load on_22_B rfl (by assumption)) ?_
        refine .m rfl rfl rfl rfl (.refl _) (.move rfl) ?_
        refine .m rfl rfl rfl rfl (.refl _) (.idxN sl_22_A (by assumption) rfl rfl (by omega)) ?_
        refine .m rfl rfl rfl rfl (.refl _) (.loadI on_2_A (by assumption) rfl (by omega)) ?_
        refine .m rfl rfl rfl rfl (.refl _) (.fieldAddr fo_32_1_B rfl) ?_
        refine .m rfl rfl rfl rfl (.refl _) (.load on_22_B rfl (by assumption)) ?_
        refine .m rfl rfl rfl rfl (.refl _) (.move rfl) ?_
        refine .m rfl rfl rfl rfl (.refl _) (.idxN sl_22_A (by assumption) rfl rfl (by omega)) ?_
        refine .m rfl rfl rfl rfl (.refl _) (.loadI on_2_A (by assumption) rfl (by omega)) ?_
        refine .m rfl rfl rfl rfl (.refl _) (.cmp rfl rfl rfl) ?_
        refine .done ?_
        refine hK24 _ _ ?_
        refine .cond rfl (fun h69 => ?_) (fun h69 => ?_)
        ·
         try simp only [sps] at h69
         refine .exit ?_
         refine hK22 _ _ ?_
         refine .region ?_
         refine .m rfl rfl rfl (.move rfl) ?_
         refine .m rfl rfl rfl (.add rfl rfl rfl (by omega) (by omega)) ?_
         refine .m rfl rfl rfl (.assign rfl) ?_
         refine .nil ?_
         refine hKL4 (b + 1) _ _ ?_ ?_ ⟨rfl, rfl, rfl, rfl, trivial⟩
         ·
          refine ⟨rfl, ?_⟩
          refine ⟨by omega, fun b' hx => ?_⟩
          by_cases hltq : b' < b
          · exact ha4 b' hltq
          · obtain rfl : b' = b := by omega
            first | exact fun _ e he => ha5 e (by omega) | exact fun hn => absurd hn h69
         ·
          omega
        ·
         simp only [sps] at h69
         have u1 : f.sh.tgt.getD a 0 = f.sh.src.getD b 0 := h69
         have u2 := (Cat.Cell.pos u1).1 (hC.cell a (by omega) b (by omega))
         have u3 := i21.2 ((f.sh.comp.getD a []).getD b 0).toNat (by omega)
         have u4 := hS.ends (a := ((f.sh.comp.getD a []).getD b 0).toNat) (by omega)
         rw [u2.2.2.1] at u4
         have u5 := t2.2.2.2.2
         rw [← u1] at u5
         refine .skip ?_
         refine hK23 _ _ ?_
         refine .seq (fun K25 hK25 => ?_)
         refine .region ?_
         refine .m rfl rfl rfl (.assign rfl) ?_
         refine .nil ?_
         refine hK25 _ _ ?_
         refine .block ?_
         refine .loopR (σ := Nat) [(1, some _), (6, some _), (9, some _), (10, some _)] (fun e => [(11, some (.int .i64 (e : Int)))]) (fun e H' => H1003 = H' ∧ (e : Int) ≤ (f.ac.getD a []).length ∧ ∀ e', e' < e → (f.ac.getD ((f.sh.comp.getD a []).getD b 0).toNat []).getD e' 0 = (f.ac.getD b []).getD ((f.ac.getD a []).getD e' 0).toNat 0) (fun e => ((f.ac.getD a []).length - e : Int).toNat) (0) ⟨rfl, rfl, rfl, rfl, trivial⟩ ⟨rfl, trivial⟩ ?_ ?_
         ·
          refine ⟨rfl, ?_⟩
          exact ⟨by omega, fun _ _ => by omega⟩
         ·
          rintro e _ ⟨rfl, hI⟩ KL5 hKL5
          refine .forget (fr' := [(11, some (.int .i64 (e : Int))), (1, some _), (6, some _), (9, some _), (10, some _)]) ⟨rfl, rfl, rfl, rfl, rfl, trivial⟩ ?_
          obtain ⟨hk5, ha5⟩ := hI
          refine .seq (fun K26 hK26 => ?_)
          refine .seq (fun K27 hK27 => ?_)
          refine .regionD mixed_orders_B (.q 0 (.q 1 (.q 2 (.q 3 (.q 4 (.q 5 (.q 6 (.q 7 (.q 8 (.q 9 (.q 10 (.done)))))))))))) (by kernel_rfl) ?_
          refine .m rfl rfl rfl rfl (.refl _) (.move rfl) ?_
          refine .m rfl rfl rfl rfl (.refl _) (.fieldAddr fo_47_1_P rfl) ?_
          refine .m rfl rfl rfl rfl (.refl _) (.load on_22_B rfl (by assumption)) ?_
          refine .m rfl rfl rfl rfl (.refl _) (.fieldAddr fo_32_1_B rfl) ?_
          refine .m rfl rfl rfl rfl (.refl _) (.load on_22_B rfl (by assumption)) ?_
          refine .m rfl rfl rfl rfl (.refl _) (.move rfl) ?_
          refine .m rfl rfl rfl rfl (.refl _) (.idxN sl_22_A (by assumption) rfl rfl (by omega)) ?_
          refine .m rfl rfl rfl rfl (.refl _) (.loadI on_2_A (by assumption) rfl (by omega)) ?_
          refine .m rfl rfl rfl rfl (.refl _) (.idx1 sl_22_A (by assumption) rfl rfl (by omega) (by omega)) ?_
          refine .m rfl rfl rfl rfl (.refl _) (.loadI on_2_A (by assumption) rfl (by omega)) ?_
          refine .m rfl rfl rfl rfl (.refl _) (.cmp rfl rfl rfl) ?_
          refine .done ?_
          refine hK27 _ _ ?_
          refine .cond rfl (fun h80 => ?_) (fun h80 => ?_)
          ·
           simp only [sps] at h80
           have v1 := hS.act (a := a) (by omega) (e := e) (by omega)
           refine .skip ?_
           refine hK26 _ _ ?_
           refine .seq (fun K28 hK28 => ?_)
           refine .block ?_
           refine .seq (fun K29 hK29 => ?_)
           refine .regionD mixed_orders_B (.q 0 (.q 1 (.q 2 (.q 3 (.q 4 (.q 5 (.q 6 (.q 7 (.q 8 (.q 9 (.q 10 (.q 11 (.q 12 (.q 13 (.q 14 (.q 15 (.q 16 (.q 17 (.q 18 (.q 19 (.q 20 (.q 21 (.q 22 (.q 23 (.q 24 (.q 25 (.q 26 (.q 27 (.q 28 (.q 29 (.q 30 (.done)))))))))))))))))))))))))))))))) (by kernel_rfl) ?_
           refine .m rfl rfl rfl rfl (.refl _) (.fieldAddr fo_47_2_P rfl) ?_
           refine .m rfl rfl rfl rfl (.refl _) (.load on_23_B rfl (by assumption)) ?_
           refine .m rfl rfl rfl rfl (.refl _) (.fieldAddr fo_32_4_B rfl) ?_
           refine .m rfl rfl rfl rfl (.refl _) (.load on_23_B rfl (by assumption)) ?_
           refine .m rfl rfl rfl rfl (.refl _) (.move rfl) ?_
           refine .m rfl rfl rfl rfl (.refl _) (.idxN sl_23_B (Intss.sl (by assumption)) rfl rfl (by omega)) ?_
           refine .m rfl rfl rfl rfl (.refl _) (.loadR on_22_B (by assumption) rfl (by omega)) ?_
           refine .m rfl rfl rfl rfl (.refl _) (.move rfl) ?_
           refine .m rfl rfl rfl rfl (.refl _) (.idxN sl_22_A (by assumption) rfl rfl (by omega)) ?_
           refine .m rfl rfl rfl rfl (.refl _) (.loadI on_2_A (by assumption) rfl (by omega)) ?_
           refine .m rfl rfl rfl rfl (.refl _) (.idx1 sl_23_B (Intss.sl (by assumption)) rfl rfl (by omega) (by omega)) ?_
           refine .m rfl rfl rfl rfl (.refl _) (.loadR on_22_B (by assumption) rfl (by omega)) ?_
           refine .m rfl rfl rfl rfl (.refl _) (.move rfl) ?_
           refine .m rfl rfl rfl rfl (.refl _) (.idxN sl_22_A (by assumption) rfl rfl (by omega)) ?_
           refine .m rfl rfl rfl rfl (.refl _) (.loadI on_2_A (by assumption) rfl (by omega)) ?_
           refine .m rfl rfl rfl rfl (.refl _) (.fieldAddr fo_47_2_P rfl) ?_
           refine .m rfl rfl rfl rfl (.refl _) (.load on_23_B rfl (by assumption)) ?_
           refine .m rfl rfl rfl rfl (.refl _) (.move rfl) ?_
           refine .m rfl rfl rfl rfl (.refl _) (.idxN sl_23_B (Intss.sl (by assumption)) rfl rfl (by omega)) ?_
           refine .m rfl rfl rfl rfl (.refl _) (.loadR on_22_B (by assumption) rfl (by omega)) ?_
           refine .m rfl rfl rfl rfl (.refl _) (.fieldAddr fo_47_2_P rfl) ?_
           refine .m rfl rfl rfl rfl (.refl _) (.load on_23_B rfl (by assumption)) ?_
           refine .m rfl rfl rfl rfl (.refl _) (.move rfl) ?_
           refine .m rfl rfl rfl rfl (.refl _) (.idxN sl_23_B (Intss.sl (by assumption)) rfl rfl (by omega)) ?_
           refine .m rfl rfl rfl rfl (.refl _) (.loadR on_22_B (by assumption) rfl (by omega)) ?_
           refine .m rfl rfl rfl rfl (.refl _) (.move rfl) ?_
           refine .m rfl rfl rfl rfl (.refl _) (.idxN sl_22_A (by assumption) rfl rfl (by omega)) ?_
           refine .m rfl rfl rfl rfl (.refl _) (.loadI on_2_A (by assumption) rfl (by omega)) ?_
           refine .m rfl rfl rfl rfl (.refl _) (.idx1 sl_22_A (by assumption) rfl rfl (by omega) (by omega)) ?_
           refine .m rfl rfl rfl rfl (.refl _) (.loadI on_2_A (by assumption) rfl (by omega)) ?_
           refine .m rfl rfl rfl rfl (.refl _) (.cmp rfl rfl rfl) ?_
           refine .done ?_
           refine hK29 _ _ ?_
           refine .cond rfl (fun h113 => ?_) (fun h113 => ?_)
           ·
            try simp only [sps] at h113
            refine .seq (fun K30 hK30 => ?_)
            refine .region ?_
            refine .m rfl rfl rfl (.move rfl) ?_
            refine .m rfl rfl rfl (.move rfl) ?_
            refine .m rfl rfl rfl (.move rfl) ?_
            refine .m rfl rfl rfl (.assign rfl) ?_
            refine .m rfl rfl rfl (.assign rfl) ?_
            refine .m rfl rfl rfl (.assign rfl) ?_
            refine .m rfl rfl rfl (.assign rfl) ?_
            refine .nil ?_
            refine hK30 _ _ ?_
            refine .ret ?_
            -- leaf e2
            refine hret _ _ ?_
            refine ⟨_, _, _, _, rfl, rfl, rfl, rfl, ?_⟩
            exact ⟨⟨⟨_, _, _, _, rfl, ⟨fun hh => absurd hh (by decide), fun hL => absurd (hL.th a (by omega) b (by omega) u1 e (by omega)) h113⟩⟩, rfl⟩, rfl, hle⟩
           ·
            try simp only [sps] at h113
            refine .skip ?_
            refine hK28 _ _ ?_
            refine .region ?_
            refine .m rfl rfl rfl (.move rfl) ?_
            refine .m rfl rfl rfl (.add rfl rfl rfl (by omega) (by omega)) ?_
            refine .m rfl rfl rfl (.assign rfl) ?_
            refine .nil ?_
            refine hKL5 (e + 1) _ _ ?_ ?_ ⟨rfl, rfl, rfl, rfl, rfl, trivial⟩
            ·
             refine ⟨rfl, ?_⟩
             refine ⟨by omega, fun e' hx => ?_⟩
             by_cases hltq : e' < e
             · exact ha5 e' hltq
             · obtain rfl : e' = e := by omega
               exact h113
            ·
             omega
          ·
           try simp only [sps] at h80
           refine .exit ?_
           refine hK22 _ _ ?_
           refine .region ?_
           refine .m rfl rfl rfl (.move rfl) ?_
           refine .m rfl rfl rfl (.add rfl rfl rfl (by omega) (by omega)) ?_
           refine .m rfl rfl rfl (.assign rfl) ?_
           refine .nil ?_
           refine hKL4 (b + 1) _ _ ?_ ?_ ⟨rfl, rfl, rfl, rfl, trivial⟩
           ·
            refine ⟨rfl, ?_⟩
            refine ⟨by omega, fun b' hx => ?_⟩
            by_cases hltq : b' < b
            · exact ha4 b' hltq
            · obtain rfl : b' = b := by omega
              first | exact fun _ e he => ha5 e (by omega) | exact fun hn => absurd hn h69
           ·
            omega
       ·
        try simp only [sps] at h56
        refine .exit ?_
        refine hK18 _ _ ?_
        refine .region ?_
        refine .m rfl rfl rfl (.move rfl) ?_
        refine .m rfl rfl rfl (.add rfl rfl rfl (by omega) (by omega)) ?_
        refine .m rfl rfl rfl (.assign rfl) ?_
        refine .nil ?_
        refine hKL3 (a + 1) _ _ ?_ ?_ ⟨rfl, rfl, rfl, trivial⟩
        ·
         refine ⟨rfl, ?_⟩
         refine ⟨by omega, fun a' hx => ?_⟩
         by_cases hltq : a' < a
         · exact ha3 a' hltq
         · obtain rfl : a' = a := by omega
           exact fun b hb => ha4 b (by omega)
        ·
         omega
     ·
      try simp only [sps] at h49
      refine .exit ?_
      refine hK14 _ _ ?_
      refine .seq (fun K31 hK31 => ?_)
      refine .region ?_
      refine .m rfl rfl rfl (.assign rfl) ?_
      refine .m rfl rfl rfl (.assign rfl) ?_
      refine .m rfl rfl rfl (.assign rfl) ?_
      refine .m rfl rfl rfl (.assign rfl) ?_
      refine .nil ?_
      refine hK31 _ _ ?_
      refine .ret ?_
      -- leaf e3
      refine hret _ _ ?_
      refine ⟨_, _, _, _, rfl, rfl, rfl, rfl, ?_⟩
      exact ⟨⟨⟨_, _, _, _, rfl, ⟨fun _ => ⟨fun x hx => ha1 x (by omega), fun a ha => ha3 a (by omega)⟩, fun _ => rfl⟩⟩, rfl⟩, rfl, hle⟩
theorem l19Is_c {f : SFun} {p : SFunP} {H : GHeap} (hin : f.In H p := by assumption) (hs : f.Small := by assumption) : GCalls Try.prog 41 [.agg (f.cells p).toArray] H (Ret (.bool (B f.Is)) H) := by
  refine GCalls.ret rfl ?_
  refine GCalls.body (N := 19) (rs := [.tmp 2]) Try.func41 rfl rfl rfl rfl (fun Qx hret hend => ?_)
  refine .forget (fr' := [(0, some _)]) ⟨rfl, trivial⟩ ?_
  have hle := GHeap.Le.refl H
  have base_hin := hin
  refine .seq (fun K1 hK1 => ?_)
  refine .region ?_
  refine .r rfl rfl rfl (.boxR rfl sz_47_VSFun rfl) ?_
  rintro _ H1 ⟨g1, rfl, le1, ge1, at1⟩
  have nx_H1 := le1.1
  replace hle := hle.trans le1
  have lt_at1 := GHeap.lt_of_get at1
  replace hin := base_hin.mono hle
  have hb1 : SFun.At _ g1 0 f p := ⟨Mem.of_get at1, hin⟩
  obtain ⟨fsh1, c51, c61, i11, i21⟩ := hb1.get
  have hm1 : MemN _ _ _ _ _ := ⟨rfl, hb1.1⟩
  have hi1 := hb1.2
  have hmsh1 : MemN _ _ _ _ _ := ⟨rfl, fsh1.1⟩
  have hish1 := fsh1.2
  refine .m rfl rfl rfl (.assign rfl) ?_
  refine .nil ?_
  refine hK1 _ _ ?_
  refine .seq (fun K2 hK2 => ?_)
  refine .seq (fun K3 hK3 => ?_)
  refine .region ?_
  refine .m rfl rfl rfl (.loadM ag_47_VSFun rfl ⟨rfl, Mem.of_get at1⟩) ?_
  refine .callQ rfl rfl rfl rfl @Try.call55 rfl (l19Shape_c) ?_
  refine .m rfl rfl rfl (.not rfl) ?_
  refine .nil ?_
  refine hK3 _ _ ?_
  refine .cond rfl (fun h9 => ?_) (fun h9 => ?_)
  ·
   try simp only [sps] at h9
   refine .seq (fun K4 hK4 => ?_)
   refine .region ?_
   refine .m rfl rfl rfl (.assign rfl) ?_
   refine .nil ?_
   refine hK4 _ _ ?_
   refine .ret ?_
   -- leaf e1
   refine hret _ _ ?_
   refine ⟨_, rfl, ?_⟩
   exact ⟨congrArg _ (B_false fun hh => h9 hh.1), hle⟩
  ·
   try simp only [sps] at h9
   refine .skip ?_
   refine hK2 _ _ ?_
   refine .seq (fun K5 hK5 => ?_)
   refine .region ?_
   refine .m rfl rfl rfl (.loadM ag_47_VSFun rfl ⟨rfl, Mem.of_get at1⟩) ?_
   refine .call rfl rfl rfl rfl @Try.call56 rfl (l19Fault_c) ?_
   rintro _ _ ⟨⟨⟨k12, x12, y12, z12, rfl, hk12⟩, _⟩, heq⟩
   obtain rfl := heq.symm
   refine .m rfl rfl rfl (.move rfl) ?_
   refine .m rfl rfl rfl (.extract rfl rfl) ?_
   refine .m rfl rfl rfl (.extract rfl rfl) ?_
   refine .m rfl rfl rfl (.extract rfl rfl) ?_
   refine .m rfl rfl rfl (.extract rfl rfl) ?_
   refine .m rfl rfl rfl (.assign rfl) ?_
   refine .m rfl rfl rfl (.assign rfl) ?_
   refine .m rfl rfl rfl (.assign rfl) ?_
   refine .m rfl rfl rfl (.assign rfl) ?_
   refine .nil ?_
   refine hK5 _ _ ?_
   refine .seq (fun K6 hK6 => ?_)
   refine .region ?_
   refine .m rfl rfl rfl (.move rfl) ?_
   refine .m rfl rfl rfl (.cmp rfl rfl rfl) ?_
   refine .m rfl rfl rfl (.assign rfl) ?_
   refine .nil ?_
   refine hK6 _ _ ?_
   refine .ret ?_
   -- leaf e2
   refine hret _ _ ?_
   refine ⟨_, rfl, ?_⟩
   exact ⟨congrArg _ (by rw [Bool.eq_iff_iff, B_iff]; simp only [sps]; rw [hk12]; exact ⟨fun hh => hh.2, fun hh => ⟨h9, hh⟩⟩), hle⟩
end Go.Proofs.Ytkcpjflhjghapaa
/- Lists that are written over: what marking leaves, and what it finds again. No condition. -/
namespace Go.GL

/-- A row may have turned only into another one of as many numbers, and only among the rows lo .. hi - 1. -/
structure StM (lo hi : Nat) (H H' : GHeap) : Prop where
  nx : H.next ≤ H'.next
  same : ∀ k o, ¬ (lo ≤ k ∧ k < hi) → H.get k = some o → H'.get k = some o
  ins : ∀ k o, H.get k = some o → ∃ o', H'.get k = some o' ∧ (o' = o ∨ ∃ xs ys e, o = .row (ints xs) e true ∧ o' = .row (ints ys) e true ∧ ys.length = xs.length)
theorem StM.refl (lo hi : Nat) (H : GHeap) : StM lo hi H H := ⟨Nat.le_refl _, fun _ _ _ h => h, fun _ o h => ⟨o, h, .inl rfl⟩⟩
theorem StM.of_le {lo hi : Nat} {H H' : GHeap} (h : H.Le H') : StM lo hi H H' := ⟨h.1, fun k o _ ho => h.2 k o ho, fun _ o ho => ⟨o, h.2 _ _ ho, .inl rfl⟩⟩
theorem ints_inj {xs ys : List Int} (h : ints xs = ints ys) : xs = ys := by
  unfold ints at h
  exact (List.map_inj_right (fun a b hab => by cases hab; rfl)).1 h
theorem StM.trans {lo hi : Nat} {A B C : GHeap} (h : StM lo hi A B) (k : StM lo hi B C) : StM lo hi A C where
  nx := Nat.le_trans h.nx k.nx
  same g o hg ho := k.same g o hg (h.same g o hg ho)
  ins g o ho := by
    obtain ⟨o1, h1, h2⟩ := h.ins g o ho
    obtain ⟨o2, k1, k2⟩ := k.ins g o1 h1
    refine ⟨o2, k1, ?_⟩
    rcases h2 with rfl | ⟨xs, ys, e, rfl, rfl, hl⟩
    · exact k2
    · rcases k2 with rfl | ⟨us, vs, e', h3, rfl, hl'⟩
      · exact .inr ⟨xs, ys, e, rfl, rfl, hl⟩
      · injection h3 with h3 h4 h5
        have := ints_inj h3
        subst this
        subst h4
        exact .inr ⟨xs, vs, _, rfl, rfl, by rw [hl', hl]⟩
theorem StM.le_left {lo hi : Nat} {A B C : GHeap} (h : A.Le B) (k : StM lo hi B C) (hA : A.next ≤ lo) : A.Le C :=
  ⟨Nat.le_trans h.1 k.nx, fun g o ho => k.same g o (by have := GHeap.lt_of_get ho; omega) (h.2 g o ho)⟩
theorem Keep.stM {b lo hi : Nat} {H0 H H' : GHeap} (k : Keep b H0 H) (h : StM lo hi H H') (hg : ∀ k, b ≤ k → k < H0.next → ¬ (lo ≤ k ∧ k < hi)) : Keep b H0 H' := fun g o hb h1 => h.same g o (hg g hb (GHeap.lt_of_get h1)) (k g o hb h1)

/-- A list that may be written over: its row lies among lo .. hi - 1. -/
def IntsW (lo hi : Nat) (H : GHeap) (a : Option Addr) (n : Nat) : Prop := n = 0 ∨ ∃ g e xs, a = some ⟨g, 0, none⟩ ∧ lo ≤ g ∧ g < hi ∧ H.get g = some (.row (ints xs) e true) ∧ xs.length = n
theorem IntsW.stm {lo hi : Nat} {H H' : GHeap} {a : Option Addr} {n : Nat} (h : IntsW lo hi H a n) (s : StM lo hi H H') : IntsW lo hi H' a n := by
  rcases h with h | ⟨g, e, xs, h1, h2, h3, h4, h5⟩
  · exact .inl h
  · obtain ⟨o', k1, k2⟩ := s.ins g _ h4
    rcases k2 with rfl | ⟨us, vs, e', h6, rfl, hl⟩
    · exact .inr ⟨g, e, xs, h1, h2, h3, k1, h5⟩
    · injection h6 with h6 h7 h8
      have := ints_inj h6
      subst this
      exact .inr ⟨g, e', vs, h1, h2, h3, k1, by rw [hl, h5]⟩
theorem IntsW.of_at {b : Nat} {H0 H : GHeap} {a : Option Addr} {xs : List Int} (h : IntsAt b H0 a xs) (k : Keep b H0 H) : IntsW b H0.next H a xs.length := by
  obtain ⟨g, e, h1, h2, h3⟩ := h
  exact .inr ⟨g, e, xs, h1, h2, GHeap.lt_of_get h3, k g _ h2 h3, rfl⟩
/-- A list's row, if it has one, is not below b. -/
def HdGe (b : Nat) (a : Option Addr) (n : Nat) : Prop := n = 0 ∨ ∃ g o, a = some ⟨g, o, none⟩ ∧ b ≤ g
theorem HdGe.le {b b' : Nat} {a : Option Addr} {n : Nat} (h : HdGe b a n) (hb : b' ≤ b) : HdGe b' a n := h.imp id fun ⟨g, o, h1, h2⟩ => ⟨g, o, h1, Nat.le_trans hb h2⟩
theorem SlA.keep {b b' : Nat} {H H' : GHeap} {a : Option Addr} {n : Nat} {f : Nat → Value} (h : SlA H a n f) (hd : HdGe b a n) (k : Keep b' H H') (hb : b' ≤ b) : SlA H' a n f := by
  rcases hd with h0 | ⟨g, o, rfl, hg⟩
  · exact .inl h0
  · rcases h with h0 | ⟨g', o', e, hc⟩
    · exact .inl h0
    · cases e
      refine .inr ⟨g, o, rfl, fun i hi => ?_⟩
      have h1 := hc i hi
      unfold GHeap.cell at h1 ⊢
      cases hx : H.get g with
      | none => rw [hx] at h1; cases h1
      | some x => rw [hx] at h1; rw [k g x (by omega) hx]; exact h1
def IntssW (lo hi : Nat) (H : GHeap) (a : Option Addr) (xss : List (List Int)) (r : Nat → Option Addr) : Prop :=
  SlA H a xss.length (fun i => .slice (r i) (xss.getD i []).length (xss.getD i []).length) ∧ (∀ i, i < xss.length → IntsW lo hi H (r i) (xss.getD i []).length) ∧ HdGe lo a xss.length
theorem SlA.stm {lo hi : Nat} {H H' : GHeap} {a : Option Addr} {n : Nat} {f : Nat → Value} (h : SlA H a n f) (s : StM lo hi H H') (hf : ∀ i m, f i ≠ .int .i64 m) : SlA H' a n f := by
  rcases h with h | ⟨g, o, e, h⟩
  · exact .inl h
  · refine .inr ⟨g, o, e, fun i hi => ?_⟩
    have hc := h i hi
    unfold GHeap.cell at hc ⊢
    split at hc
    · rename_i cs el own hg
      obtain ⟨o', k1, k2⟩ := s.ins g _ hg
      rw [k1]
      rcases k2 with rfl | ⟨us, vs, e', h6, rfl, hl⟩
      · exact hc
      · injection h6 with h6 h7 h8
        subst h6
        exfalso
        simp only [ints, List.getElem?_map, Option.map_eq_some_iff] at hc
        obtain ⟨m, _, hm⟩ := hc
        exact hf i m hm.symm
    · cases hc
theorem IntssW.stm {lo hi : Nat} {H H' : GHeap} {a : Option Addr} {xss : List (List Int)} {r : Nat → Option Addr} (h : IntssW lo hi H a xss r) (s : StM lo hi H H') : IntssW lo hi H' a xss r :=
  ⟨h.1.stm s fun i m e => (by cases e), fun i hi => (h.2.1 i hi).stm s, h.2.2⟩
theorem IntssW.of_at {b : Nat} {H0 H : GHeap} {a : Option Addr} {xss : List (List Int)} {r : Nat → Option Addr} (h : IntssAt b H0 a xss r) (k : Keep b H0 H) : IntssW b H0.next H a xss r :=
  ⟨(h.keep k (Nat.le_refl _)).intss.1, fun i hi => by obtain ⟨g, e, cs, _, _, _, _, _, h6⟩ := h; exact .of_at (h6 i hi) k, by obtain ⟨g, e, cs, h1, h2, _⟩ := h; exact .inr ⟨g, 0, h1, h2⟩⟩
def sumL : List (List Int) → Nat
  | [] => 0
  | xs :: r => xs.length + sumL r
theorem sumL_take_succ {xss : List (List Int)} {k : Nat} (h : k < xss.length) : sumL (xss.take (k + 1)) = sumL (xss.take k) + (xss.getD k []).length := by
  induction xss generalizing k with
  | nil => simp at h
  | cons x r ih =>
    cases k with
    | zero => simp [sumL]
    | succ k =>
      have := ih (k := k) (by simpa using h)
      simp only [List.take_succ_cons, sumL, List.getD_cons_succ]
      omega
theorem sumL_le {m : Nat} : ∀ {xss : List (List Int)}, (∀ i, (xss.getD i []).length ≤ m) → sumL xss ≤ xss.length * m
  | [], _ => by simp [sumL]
  | x :: r, h => by
    have h0 := h 0
    have := sumL_le (xss := r) fun i => by simpa using h (i + 1)
    simp only [sumL, List.length_cons, Nat.add_mul]
    simp at h0
    omega
theorem sumL_take_le {xss : List (List Int)} {k : Nat} : sumL (xss.take k) ≤ sumL xss := by
  induction xss generalizing k with
  | nil => simp
  | cons x r ih =>
    cases k with
    | zero => simp [sumL]
    | succ k => simp only [List.take_succ_cons, sumL]; have := ih (k := k); omega
def Cat.total (c : Cat) : Nat := c.src.length + (c.tgt.length + (c.idn.length + sumL c.comp))
def CatW (lo hi : Nat) (H : GHeap) (c : Cat) (p : CatP) : Prop := IntsW lo hi H p.a1 c.src.length ∧ IntsW lo hi H p.a2 c.tgt.length ∧ IntsW lo hi H p.a3 c.idn.length ∧ IntssW lo hi H p.a4 c.comp p.r
theorem CatW.stm {lo hi : Nat} {H H' : GHeap} {c : Cat} {p : CatP} (h : CatW lo hi H c p) (s : StM lo hi H H') : CatW lo hi H' c p := ⟨h.1.stm s, h.2.1.stm s, h.2.2.1.stm s, h.2.2.2.stm s⟩
theorem CatW.of_at {b : Nat} {H0 H : GHeap} {c : Cat} {p : CatP} (h : CatAt b H0 c p) (k : Keep b H0 H) : CatW b H0.next H c p := ⟨.of_at h.1 k, .of_at h.2.1 k, .of_at h.2.2.1 k, .of_at h.2.2.2 k⟩
def Fun.total (f : Fun) : Nat := f.s.total + (f.t.total + (f.ob.length + f.ar.length))
def FunW (lo hi : Nat) (H : GHeap) (f : Fun) (p : FunP) : Prop := CatW lo hi H f.s p.s ∧ CatW lo hi H f.t p.t ∧ IntsW lo hi H p.b1 f.ob.length ∧ IntsW lo hi H p.b2 f.ar.length
theorem FunW.stm {lo hi : Nat} {H H' : GHeap} {c : Fun} {p : FunP} (h : FunW lo hi H c p) (s : StM lo hi H H') : FunW lo hi H' c p := ⟨h.1.stm s, h.2.1.stm s, h.2.2.1.stm s, h.2.2.2.stm s⟩
theorem FunW.of_at {b : Nat} {H0 H : GHeap} {c : Fun} {p : FunP} (h : FunAt b H0 c p) (k : Keep b H0 H) : FunW b H0.next H c p := ⟨.of_at h.1 k, .of_at h.2.1 k, .of_at h.2.2.1 k, .of_at h.2.2.2 k⟩
def Con.total (c : Con) : Nat := c.lg.length
def ConW (lo hi : Nat) (H : GHeap) (c : Con) (p : ConP) : Prop := IntsW lo hi H p.a1 c.lg.length
theorem ConW.stm {lo hi : Nat} {H H' : GHeap} {c : Con} {p : ConP} (h : ConW lo hi H c p) (s : StM lo hi H H') : ConW lo hi H' c p := IntsW.stm h s
theorem ConW.of_at {b : Nat} {H0 H : GHeap} {c : Con} {p : ConP} (h : ConAt b H0 c p) (k : Keep b H0 H) : ConW b H0.next H c p := IntsW.of_at h k

/-! ### Results: their own rows, no two alike. -/
def seqL (k : Int) (n : Nat) : List Int := (List.range n).map fun (i : Nat) => k + (i : Int)
@[simp] theorem length_seqL (k : Int) (n : Nat) : (seqL k n).length = n := by simp [seqL]
theorem seqL_get {k : Int} {n i : Nat} (h : i < n) : (seqL k n).getD i 0 = k + i := by simp [seqL, List.getD_eq_getElem?_getD, h]
/-- A leaf: where a list of n numbers lies, and its length. -/
abbrev Leaf := Option Addr × Nat
def lvBlk : Leaf → List Nat
  | (some a, _ + 1) => [a.block]
  | _ => []
def lvBlks (ls : List Leaf) : List Nat := ls.flatMap lvBlk
def lvSum : List Leaf → Nat
  | [] => 0
  | l :: r => l.2 + lvSum r
/-- All leaves are live, from row b on. -/
def Live1 (b : Nat) (H : GHeap) (l : Leaf) : Prop := l.2 = 0 ∨ ∃ g e xs, l.1 = some ⟨g, 0, none⟩ ∧ b ≤ g ∧ H.get g = some (.row (ints xs) e true) ∧ xs.length = l.2
def Lives (b : Nat) (H : GHeap) (ls : List Leaf) : Prop := ∀ l ∈ ls, Live1 b H l
/-- The leaves hold k, k + 1, .. in order. -/
def Held (b : Nat) (H : GHeap) : List Leaf → Int → Prop
  | [], _ => True
  | l :: r, k => (l.2 = 0 ∨ ∃ g e, l.1 = some ⟨g, 0, none⟩ ∧ b ≤ g ∧ H.get g = some (.row (ints (seqL k l.2)) e true)) ∧ Held b H r (k + l.2)
theorem Held.keep0 {b : Nat} {H H' : GHeap} : ∀ {ls : List Leaf} {k : Int}, Held b H ls k → Keep b H H' → Held b H' ls k
  | [], _, _, _ => trivial
  | _ :: _, _, h, hk => ⟨h.1.imp id fun ⟨g, e, h1, h2, h3⟩ => ⟨g, e, h1, h2, hk g _ h2 h3⟩, Held.keep0 h.2 hk⟩
theorem Held.append {b : Nat} {H : GHeap} : ∀ {ls ms : List Leaf} {k : Int}, Held b H ls k → Held b H ms (k + lvSum ls) → Held b H (ls ++ ms) k
  | [], _, _, _, h => by simpa [lvSum] using h
  | l :: r, ms, k, h, h' => ⟨h.1, Held.append h.2 (by rw [show k + (l.2 : Int) + (lvSum r : Int) = k + (lvSum (l :: r) : Int) by simp [lvSum]; omega]; exact h')⟩
/-- Only rows of bs have turned. -/
structure StB (bs : List Nat) (H H' : GHeap) : Prop where
  nx : H.next ≤ H'.next
  same : ∀ k o, ¬ k ∈ bs → H.get k = some o → H'.get k = some o
theorem StB.refl (bs : List Nat) (H : GHeap) : StB bs H H := ⟨Nat.le_refl _, fun _ _ _ h => h⟩
theorem StB.trans {bs cs : List Nat} {A B C : GHeap} (h : StB bs A B) (k : StB cs B C) : StB (bs ++ cs) A C :=
  ⟨Nat.le_trans h.nx k.nx, fun g o hg ho => k.same g o (fun hc => hg (List.mem_append_right _ hc)) (h.same g o (fun hc => hg (List.mem_append_left _ hc)) ho)⟩
theorem Live1.blk {b : Nat} {H : GHeap} {l : Leaf} (h : Live1 b H l) {g : Nat} {e : TypeId} {xs : List Int} (h1 : l.1 = some ⟨g, 0, none⟩) (hn : l.2 ≠ 0) : g ∈ lvBlk l := by
  obtain ⟨a, n⟩ := l
  simp only at h1 hn
  subst h1
  cases n with
  | zero => exact absurd rfl hn
  | succ n => simp [lvBlk]
theorem Lives.stB {b : Nat} {H H' : GHeap} {ls : List Leaf} {bs : List Nat} (h : Lives b H ls) (s : StB bs H H') (hd : ∀ g ∈ lvBlks ls, ¬ g ∈ bs) : Lives b H' ls := fun l hl => by
  by_cases hn : l.2 = 0
  · exact .inl hn
  · rcases h l hl with h0 | ⟨g, e, xs, h1, h2, h3, h4⟩
    · exact .inl h0
    · exact .inr ⟨g, e, xs, h1, h2, s.same g _ (hd g (List.mem_flatMap.2 ⟨l, hl, (h l hl).blk (e := e) (xs := xs) h1 hn⟩)) h3, h4⟩
theorem Live1.keep {b : Nat} {H H' : GHeap} {l : Leaf} (h : Live1 b H l) (k : Keep b H H') : Live1 b H' l := h.imp id fun ⟨g, e, xs, h1, h2, h3, h4⟩ => ⟨g, e, xs, h1, h2, k g _ h2 h3, h4⟩
theorem Lives.keep {b : Nat} {H H' : GHeap} {ls : List Leaf} (h : Lives b H ls) (k : Keep b H H') : Lives b H' ls := fun l hl => (h l hl).keep k
theorem Held.stB {b : Nat} {H H' : GHeap} {bs : List Nat} (s : StB bs H H') : ∀ {ls : List Leaf} {k : Int}, Held b H ls k → (∀ g ∈ lvBlks ls, ¬ g ∈ bs) → Held b H' ls k
  | [], _, _, _ => trivial
  | l :: r, k, h, hd => by
    refine ⟨?_, Held.stB s h.2 fun g hg => hd g (by simp only [lvBlks, List.flatMap_cons, List.mem_append]; exact .inr hg)⟩
    by_cases hn : l.2 = 0
    · exact .inl hn
    · rcases h.1 with h0 | ⟨g, e, h1, h2, h3⟩
      · exact .inl h0
      · have hl : Live1 b H l := .inr ⟨g, e, _, h1, h2, h3, by simp⟩
        exact .inr ⟨g, e, h1, h2, s.same g _ (hd g (by simp only [lvBlks, List.flatMap_cons, List.mem_append]; exact .inl (hl.blk (e := e) (xs := seqL k l.2) h1 hn))) h3⟩
theorem Lives.app {b : Nat} {H : GHeap} {ls ms : List Leaf} (h : Lives b H ls) (h' : Lives b H ms) : Lives b H (ls ++ ms) := fun l hl => (List.mem_append.1 hl).elim (h l) (h' l)
theorem lvBlks_append (ls ms : List Leaf) : lvBlks (ls ++ ms) = lvBlks ls ++ lvBlks ms := by simp [lvBlks]
theorem lvSum_append : ∀ (ls ms : List Leaf), lvSum (ls ++ ms) = lvSum ls + lvSum ms
  | [], ms => by simp [lvSum]
  | l :: r, ms => by simp only [List.cons_append, lvSum, lvSum_append r ms]; omega

/-- A result's list: none, or a row of its own. -/
def IntsR (b : Nat) (H : GHeap) (a : Option Addr) (xs : List Int) : Prop := (xs = [] ∧ a = none) ∨ IntsAt b H a xs
theorem IntsR.keep {b b' : Nat} {H H' : GHeap} {a : Option Addr} {xs : List Int} (h : IntsR b H a xs) (k : Keep b' H H') (hb : b' ≤ b) : IntsR b' H' a xs := h.imp id fun h => h.keep k hb
theorem IntsR.ints {b : Nat} {H : GHeap} {a : Option Addr} {xs : List Int} (h : IntsR b H a xs) : Ints H a xs := by
  rcases h with ⟨rfl, _⟩ | h
  · exact .inl rfl
  · exact h.ints
theorem IntsR.live {b : Nat} {H : GHeap} {a : Option Addr} {xs : List Int} (h : IntsR b H a xs) : Live1 b H (a, xs.length) := by
  rcases h with ⟨rfl, _⟩ | ⟨g, e, h1, h2, h3⟩
  · exact .inl rfl
  · exact .inr ⟨g, e, xs, h1, h2, h3, rfl⟩
def Con.leaves (c : Con) (p : ConP) : List Leaf := [(p.a1, c.lg.length)]
def ConR (b : Nat) (H : GHeap) (c : Con) (p : ConP) : Prop := IntsR b H p.a1 c.lg
theorem ConR.keep {b b' : Nat} {H H' : GHeap} {c : Con} {p : ConP} (h : ConR b H c p) (k : Keep b' H H') (hb : b' ≤ b) : ConR b' H' c p := IntsR.keep h k hb
theorem ConR.inn {b : Nat} {H : GHeap} {c : Con} {p : ConP} (h : ConR b H c p) : c.In H p := IntsR.ints h
theorem ConR.lives {b : Nat} {H : GHeap} {c : Con} {p : ConP} (h : ConR b H c p) : Lives b H (c.leaves p) := fun l hl => by
  simp only [Con.leaves, List.mem_singleton] at hl
  subst hl
  exact h.live
theorem Con.nodup (c : Con) (p : ConP) : (lvBlks (c.leaves p)).Nodup := by
  simp only [Con.leaves, lvBlks, List.flatMap_cons, List.flatMap_nil, List.append_nil]
  unfold lvBlk
  split <;> simp
theorem Held.keep {b b' : Nat} {H H' : GHeap} {ls : List Leaf} {k : Int} (h : Held b H ls k) (hk : Keep b' H H') (hb : b' ≤ b) : Held b H' ls k := h.keep0 fun g o hg ho => hk g o (by omega) ho
theorem Held.app {b : Nat} {H : GHeap} : ∀ {ls ms : List Leaf} {k : Int}, Held b H (ls ++ ms) k → Held b H ls k ∧ Held b H ms (k + lvSum ls)
  | [], ms, k, h => ⟨trivial, by simpa [lvSum] using h⟩
  | l :: r, ms, k, h => by
    obtain ⟨h1, h2⟩ := Held.app (ls := r) h.2
    exact ⟨⟨h.1, h1⟩, by rw [show k + (lvSum (l :: r) : Int) = k + (l.2 : Int) + (lvSum r : Int) by simp [lvSum]; omega]; exact h2⟩
theorem Held.ints {b : Nat} {H : GHeap} {a : Option Addr} {n : Nat} {k : Int} (h : Held b H [(a, n)] k) : Ints H a (seqL k n) := by
  rcases h.1 with h0 | ⟨g, e, h1, h2, h3⟩
  · simp only at h0; subst h0; exact .inl (by simp)
  · simp only at h1 h3; subst h1; exact Ints.of_get h3

/-- What marking leaves. -/
structure Marked (lo hi : Nat) (H H' : GHeap) (ls : List Leaf) (k : Int) : Prop where
  stm : StM lo hi H H'
  stb : StB (lvBlks ls) H H'
  held : (lvBlks ls).Nodup → Held lo H' ls k
theorem Marked.nil (lo hi : Nat) (H : GHeap) (k : Int) : Marked lo hi H H [] k := ⟨.refl _ _ _, .refl _ _, fun _ => trivial⟩
theorem Marked.app {lo hi : Nat} {A B C : GHeap} {ls ms : List Leaf} {k : Int} (h : Marked lo hi A B ls k) (h' : Marked lo hi B C ms (k + lvSum ls)) : Marked lo hi A C (ls ++ ms) k where
  stm := h.stm.trans h'.stm
  stb := by rw [lvBlks_append]; exact h.stb.trans h'.stb
  held := fun nd => by
    rw [lvBlks_append, List.nodup_append] at nd
    exact ((h.held nd.1).stB h'.stb fun g hg hg' => nd.2.2 g hg g hg' rfl).append (h'.held nd.2.1)
theorem Marked.le_left {lo hi : Nat} {A B C : GHeap} {ls : List Leaf} {k : Int} (h : A.Le B) (m : Marked lo hi B C ls k) : Marked lo hi A C ls k :=
  ⟨⟨Nat.le_trans h.1 m.stm.nx, fun g o hg ho => m.stm.same g o hg (h.2 g o ho), fun g o ho => m.stm.ins g o (h.2 g o ho)⟩, ⟨Nat.le_trans h.1 m.stb.nx, fun g o hg ho => m.stb.same g o hg (h.2 g o ho)⟩, m.held⟩
theorem Marked.one {lo hi g : Nat} {H H' : GHeap} {e : TypeId} {xs : List Int} {k : Int} (hlo : lo ≤ g) (hhi : g < hi) (h0 : H.get g = some (.row (ints xs) e true)) (s : St [g] H H') (h1 : H'.get g = some (.row (ints (seqL k xs.length)) e true)) (hn : xs.length ≠ 0) :
    Marked lo hi H H' [(some ⟨g, 0, none⟩, xs.length)] k where
  stm := ⟨s.nx, fun i o hi ho => s.same i o ⟨by omega, trivial⟩ ho, fun i o ho => by
    by_cases hi : i = g
    · subst hi
      rw [h0] at ho; cases ho
      exact ⟨_, h1, .inr ⟨xs, seqL k xs.length, e, rfl, rfl, by simp⟩⟩
    · exact ⟨o, s.same i o ⟨hi, trivial⟩ ho, .inl rfl⟩⟩
  stb := ⟨s.nx, fun i o hi ho => s.same i o ⟨fun e' => hi (by
    subst e'
    cases hx : xs.length with
    | zero => exact absurd hx hn
    | succ m => simp [lvBlks, lvBlk]), trivial⟩ ho⟩
  held := fun _ => ⟨.inr ⟨g, e, rfl, hlo, h1⟩, trivial⟩
def rowsL (r : Nat → Option Addr) (xss : List (List Int)) (n : Nat) : List Leaf := (List.range n).map fun i => (r i, (xss.getD i []).length)
theorem rowsL_succ (r : Nat → Option Addr) (xss : List (List Int)) (n : Nat) : rowsL r xss (n + 1) = rowsL r xss n ++ [(r n, (xss.getD n []).length)] := by simp [rowsL, List.range_succ]
theorem lvSum_rowsL (r : Nat → Option Addr) (xss : List (List Int)) : ∀ n, n ≤ xss.length → lvSum (rowsL r xss n) = sumL (xss.take n)
  | 0, _ => by simp [rowsL, lvSum, sumL]
  | n + 1, h => by rw [rowsL_succ, lvSum_append, lvSum_rowsL r xss n (by omega), sumL_take_succ (by omega)]; simp [lvSum]
def Cat.leaves (c : Cat) (p : CatP) : List Leaf := [(p.a1, c.src.length)] ++ ([(p.a2, c.tgt.length)] ++ ([(p.a3, c.idn.length)] ++ rowsL p.r c.comp c.comp.length))
theorem Cat.lvSum_leaves (c : Cat) (p : CatP) : lvSum (c.leaves p) = c.total := by
  simp only [Cat.leaves, lvSum_append, lvSum, lvSum_rowsL p.r c.comp _ (Nat.le_refl _), List.take_length, Cat.total, Nat.add_zero]
def Fun.leaves (f : Fun) (p : FunP) : List Leaf := f.s.leaves p.s ++ (f.t.leaves p.t ++ ([(p.b1, f.ob.length)] ++ [(p.b2, f.ar.length)]))
theorem Fun.lvSum_leaves (c : Fun) (p : FunP) : lvSum (c.leaves p) = c.total := by
  simp only [Fun.leaves, lvSum_append, lvSum, Cat.lvSum_leaves, Fun.total, Nat.add_zero]
theorem Con.lvSum_leaves (c : Con) (p : ConP) : lvSum (c.leaves p) = c.total := by simp [Con.leaves, lvSum, Con.total]
theorem Cat.total_le {c : Cat} (h : c.Small) : c.total ≤ 3 * 1048576 + 1048576 * 1048576 := by
  obtain ⟨h1, h2, h3, h4, h5, _⟩ := h
  have := sumL_le (m := 1048576) h5
  have h6 : c.comp.length * 1048576 ≤ 1048576 * 1048576 := Nat.mul_le_mul_right _ h4
  unfold Cat.total
  omega
theorem Marked.app' {lo hi : Nat} {A B C : GHeap} {ls ms : List Leaf} {k k' : Int} (h : Marked lo hi A B ls k) (h' : Marked lo hi B C ms k') (e : k' = k + lvSum ls) : Marked lo hi A C (ls ++ ms) k := by subst e; exact h.app h'
theorem IntsW.of_r {b : Nat} {H0 H : GHeap} {a : Option Addr} {xs : List Int} (h : IntsR b H0 a xs) (k : Keep b H0 H) : IntsW b H0.next H a xs.length := by
  rcases h with ⟨rfl, _⟩ | h
  · exact .inl rfl
  · exact .of_at h k
theorem ConW.of_r {b : Nat} {H0 H : GHeap} {c : Con} {p : ConP} (h : ConR b H0 c p) (k : Keep b H0 H) : ConW b H0.next H c p := IntsW.of_r h k
theorem IntsW.keep {lo lo' hi : Nat} {H H' : GHeap} {a : Option Addr} {n : Nat} (h : IntsW lo hi H a n) (k : Keep lo' H H') (hb : lo' ≤ lo) : IntsW lo hi H' a n := h.imp id fun ⟨g, e, xs, h1, h2, h3, h4, h5⟩ => ⟨g, e, xs, h1, h2, h3, k g _ (by omega) h4, h5⟩
theorem IntssW.keep {lo lo' hi : Nat} {H H' : GHeap} {a : Option Addr} {xss : List (List Int)} {r : Nat → Option Addr} (h : IntssW lo hi H a xss r) (k : Keep lo' H H') (hb : lo' ≤ lo) : IntssW lo hi H' a xss r := ⟨h.1.keep h.2.2 k hb, fun i hi => (h.2.1 i hi).keep k hb, h.2.2⟩
theorem CatW.keep {lo lo' hi : Nat} {H H' : GHeap} {c : Cat} {p : CatP} (h : CatW lo hi H c p) (k : Keep lo' H H') (hb : lo' ≤ lo) : CatW lo hi H' c p := ⟨h.1.keep k hb, h.2.1.keep k hb, h.2.2.1.keep k hb, h.2.2.2.keep k hb⟩
theorem FunW.keep {lo lo' hi : Nat} {H H' : GHeap} {c : Fun} {p : FunP} (h : FunW lo hi H c p) (k : Keep lo' H H') (hb : lo' ≤ lo) : FunW lo hi H' c p := ⟨h.1.keep k hb, h.2.1.keep k hb, h.2.2.1.keep k hb, h.2.2.2.keep k hb⟩
theorem ConW.keep {lo lo' hi : Nat} {H H' : GHeap} {c : Con} {p : ConP} (h : ConW lo hi H c p) (k : Keep lo' H H') (hb : lo' ≤ lo) : ConW lo hi H' c p := IntsW.keep h k hb
theorem Cat.Small.tot {c : Cat} (h : c.Small) : c.total ≤ 3 * 1048576 + 1048576 * 1048576 := Cat.total_le h
theorem Fun.Small.tot {c : Fun} (h : c.Small) : c.total ≤ 8 * 1048576 + 2 * 1048576 * 1048576 := by
  obtain ⟨h1, h2, h3, h4⟩ := h
  have := h1.tot
  have := h2.tot
  unfold Fun.total
  omega
theorem Con.Small.tot {c : Con} (h : c.Small) : c.total ≤ 1048576 := by
  obtain ⟨_, h2⟩ := h
  unfold Con.total
  omega
end Go.GL
/- Parts of set functors. No condition. -/
namespace Go.GL

def Rising (xs : List Int) : Prop := ∀ i, 1 ≤ i → i < xs.length → xs.getD (i - 1) 0 < xs.getD i 0
/-- The lists are a part of a set functor. -/
structure SFun.Part (f : SFun) (me : List (List Int)) : Prop where
  pl : me.length = f.sz.length
  rs : ∀ x, x < me.length → Rising (me.getD x []) ∧ allIn (me.getD x []) (f.sz.getD x 0) = true
  cl : ∀ a, a < f.ac.length → ∀ i, i < (me.getD (f.sh.src.getD a 0).toNat []).length → (me.getD (f.sh.tgt.getD a 0).toNat []).contains ((f.ac.getD a []).getD ((me.getD (f.sh.src.getD a 0).toNat []).getD i 0).toNat 0) = true
def BelowL (p q : List (List Int)) : Prop := ∀ x, x < p.length → ∀ i, i < (p.getD x []).length → (q.getD x []).contains ((p.getD x []).getD i 0) = true
end Go.GL
