/- Maps from structs of numbers to true: sets. No condition but those of each statement. -/
import Derived.Test.YtjdedelneppnlaaZ8
namespace Go.GL
open Go.RowKit
def bmap (es : List (List Int)) : List (Value × Value) := es.map fun k => (kvT k, .bool true)
def insB (es : List (List Int)) (j : List Int) : List (List Int) := if j ∈ es then es else es ++ [j]
theorem findAsking_relB {P : Program} {k : TypeId} {n : Nat} (hk : KeyT P k n) {s : List Int} (hs : s.length = n) (w : World) : ∀ {E : List MapEntry} {es : List (List Int)} (_ : es.length = E.length) (_ : ∀ (i : Nat) (e : List Int), es[i]? = some e → e.length = n ∧ ∃ c : MapEntry, E[i]? = some c ∧ c.key = kvT e ∧ c.val = .bool true) (i : Nat),
    (∃ j, es[j]? = some s ∧ (Instr.findAsking k (kvT s) E i).run P w = .ok (some (i + j, .bool true)) w) ∨ (s ∉ es ∧ (Instr.findAsking k (kvT s) E i).run P w = .ok none w)
  | [], [], _, _, i => .inr ⟨by simp, by unfold Instr.findAsking; rfl⟩
  | [], _ :: _, hl, _, _ => by simp at hl
  | _ :: _, [], hl, _, _ => by simp at hl
  | c :: E, e :: es, hl, h, i => by
    obtain ⟨h0, c', h1, h2, h3⟩ := h 0 e rfl
    simp only [List.getElem?_cons_zero, Option.some.injEq] at h1
    subst h1
    have ih := findAsking_relB hk hs w (E := E) (es := es) (by simpa using hl) (fun i e' he => by simpa using h (i + 1) e' (by simpa using he)) (i + 1)
    unfold Instr.findAsking
    simp only [Sem.run_bind]
    rw [h2, hk.eq s e hs h0 w]
    simp only [Result.andThen_ok]
    by_cases hq : s = e
    · have hb : (s == e) = true := by simpa using hq
      rw [hb, if_pos rfl]
      exact .inl ⟨0, by rw [hq]; rfl, by rw [h3]; rfl⟩
    · have hb : (s == e) = false := by simpa using hq
      rw [hb, if_neg (by simp)]
      rcases ih with ⟨j, j1, j2⟩ | ⟨j1, j2⟩
      · exact .inl ⟨j + 1, by simpa using j1, by rw [j2, show i + 1 + j = i + (j + 1) by omega]⟩
      · exact .inr ⟨by simp [hq, j1], j2⟩
theorem findKeyB {P : Program} {k : TypeId} {n : Nat} (hk : KeyT P k n) {s : List Int} (hs : s.length = n) (w : World) {E : List MapEntry} {es : List (List Int)} (hl : es.length = E.length) (h : ∀ (i : Nat) (e : List Int), es[i]? = some e → e.length = n ∧ ∃ c : MapEntry, E[i]? = some c ∧ c.key = kvT e ∧ c.val = .bool true) :
    (∃ j, es[j]? = some s ∧ (Instr.findKey k (kvT s) E).run P w = .ok (some (j, .bool true)) w) ∨ (s ∉ es ∧ (Instr.findKey k (kvT s) E).run P w = .ok none w) := by
  obtain ⟨fs, hu⟩ := hk.st
  unfold Instr.findKey
  simp only [Sem.run_bind, run_underlying hu, Result.andThen_ok]
  match E, es, hl, h with
  | [], [], _, _ => exact .inr ⟨by simp, by unfold Instr.findNow; rfl⟩
  | c :: E, e :: es, hl, h =>
    obtain ⟨_, c', h1, h2, _⟩ := h 0 e rfl
    simp only [List.getElem?_cons_zero, Option.some.injEq] at h1
    subst h1
    have hn : Instr.findNow (.struct fs) (kvT s) (c :: E) 0 = none := by
      unfold Instr.findNow
      rw [h2]
      rfl
    rw [hn]
    have := findAsking_relB hk hs w hl h 0
    simpa only [Nat.zero_add] using this
theorem sameBits_kvT (s : List Int) : Instr.sameBits 10000 (kvT s) (kvT s) = true := by
  unfold kvT
  show ((s.map (Value.int .i64)).toArray.size == (s.map (Value.int .i64)).toArray.size && _) = true
  rw [beq_self_eq_true, Bool.true_and]
  rw [List.all_eq_true]
  intro p hp
  have h2 : ∀ (l : List Int) (p : Value × Value), p ∈ (l.map (Value.int .i64)).zip (l.map (Value.int .i64)) → ∃ x : Int, p = (.int .i64 x, .int .i64 x) := fun l => by
    induction l with
    | nil => intro p hp; simp at hp
    | cons a l ih =>
      intro p hp
      simp only [List.map_cons, List.zip_cons_cons, List.mem_cons] at hp
      rcases hp with rfl | hp
      · exact ⟨a, rfl⟩
      · exact ih p hp
  obtain ⟨x, rfl⟩ := h2 s p hp
  show (IntKind.i64 == IntKind.i64 && x == x) = true
  simp
section
variable {P : Program} {B : Nat} {w0 : World} {ρ : Place} {H : GHeap} {w : World} {fr : Slots} {o : Oper} {R : Option Value → GHeap → Prop}
theorem Sim.mrelB (hs : Sim P B w0 ρ H w) {g n : Nat} {es : List (List Int)} (hg : H.get g = some (.map (bmap es))) (hn : ∀ e ∈ es, e.length = n) {s : Spot} (hsp : ρ g = some s) : ∃ (E : Array MapEntry) (clock : Nat), w.heap[s.blk]? = some (.map E clock) ∧ es.length = E.size ∧ ∀ (i : Nat) (e : List Int), es[i]? = some e → e.length = n ∧ ∃ c : MapEntry, E[i]? = some c ∧ c.key = kvT e ∧ c.val = .bool true := by
  obtain ⟨s0, E, c0, k1, k2, _, k4, k5⟩ := hs.live _ _ hg
  rw [hsp] at k1
  cases k1
  refine ⟨E, c0, k2, by simpa [bmap] using k4, fun i e he => ⟨hn e (List.mem_of_getElem? he), ?_⟩⟩
  obtain ⟨c, h1, h2, h3⟩ := k5 i (kvT e) (.bool true) (by simp [bmap, he])
  exact ⟨c, h1, flatT_inv h2, h3.bool_inv⟩
theorem CDo.mapPutB {t kt e : TypeId} {m k x : Operand} {g n : Nat} {es : List (List Int)} {j : List Int} (ho : o.op = .mapUpdate t m k x) (ht : mapTT P t = some (kt, e)) (hkt : KeyT P kt n) (hm : ev fr m = some (.map (some g))) (hk : ev fr k = some (kvT j)) (hx : ev fr x = some (.bool true)) (hj : j.length = n) (hg : H.get g = some (.map (bmap es))) (hnn : ∀ e ∈ es, e.length = n) :
    CDo P o fr H (fun r H' => r = none ∧ St [g] H H' ∧ H'.get g = some (.map (bmap (insB es j)))) := .mk fun B w0 ρ a w hs hf next Q hn => by
  rw [ho] at hf
  obtain ⟨s, hsp, em⟩ := (ev_rel hf (x := m) (by simp [Op.operands]) hm).map_inv
  have ek := flatT_inv (ev_rel hf (x := k) (by simp [Op.operands]) hk)
  have ex := (ev_rel hf (x := x) (by simp [Op.operands]) hx).bool_inv
  have hu := mapTT_run ht
  obtain ⟨E, clock, hE, hr⟩ := hs.mrelB hg hnn hsp
  have hlt := (Array.getElem?_eq_some_iff.1 hE).1
  have kv : ∀ t : List Int, VRel ρ (kvT t) (kvT t) := fun t => by
    unfold kvT
    refine .agg rfl fun i h1 h2 => ?_
    simp only [List.getElem_toArray, List.getElem_map]
    exact .int _ _
  have at' : ∀ (i : Nat) (k' v' : Value), (bmap es)[i]? = some (k', v') → ∃ c : MapEntry, E[i]? = some c ∧ c.key = k' ∧ c.val = .bool true ∧ v' = .bool true ∧ ∃ t : List Int, es[i]? = some t ∧ k' = kvT t := fun i k' v' hi => by
    simp only [bmap, List.getElem?_map, Option.map_eq_some_iff] at hi
    obtain ⟨e1, he1, heq⟩ := hi
    cases heq
    obtain ⟨_, c, c1, c2, c3⟩ := hr.2 i e1 he1
    exact ⟨c, c1, c2, c3, rfl, e1, he1, rfl⟩
  rcases findKeyB hkt hj w (E := E.toList) (es := es) (by simpa using hr.1) (fun i e he => by simpa using hr.2 i e he) with ⟨q, q1, q2⟩ | ⟨q1, q2⟩
  · have hin : insB es j = es := by unfold insB; rw [if_pos (List.mem_of_getElem? q1)]
    obtain ⟨_, cq, cq1, cq2, cq3⟩ := hr.2 q j q1
    have hs' := hs.mapTurn hg hsp (w' := { w with heap := w.heap.setIfInBounds s.blk (.map (E.modify q fun e => { e with key := kvT j, val := .bool true }) clock) }) (es' := bmap es) (E := E.modify q fun e => { e with key := kvT j, val := .bool true }) (clock := clock)
      (by simp [hlt]) (by simp [bmap, hr.1]) (fun i k' v' hi => by
        obtain ⟨c, c1, c2, c3, rfl, t, t1, rfl⟩ := at' i k' v' hi
        by_cases hq : q = i
        · subst hq
          rw [q1] at t1
          cases t1
          refine ⟨{ c with key := kvT j, val := .bool true }, by rw [Array.getElem?_modify, if_pos rfl, c1]; rfl, kv _, .bool _⟩
        · exact ⟨c, by rw [Array.getElem?_modify, if_neg hq]; exact c1, by rw [c2]; exact kv _, by rw [c3]; exact .bool _⟩)
      (fun k' hk' => by simp [Array.getElem?_setIfInBounds_ne (Ne.symm hk')]) (by simp) rfl rfl rfl
    refine upon_skip (w' := { w with heap := w.heap.setIfInBounds s.blk (.map (E.modify q fun e => { e with key := kvT j, val := .bool true }) clock) }) ?_ (hn ρ none undef _ _ ⟨rfl, .of_set, by rw [hin]; exact GHeap.get_set_eq (GHeap.ltg hg)⟩ (.refl ρ) hs' fun y hy => by cases hy)
    unfold execOp
    simp only [ho, em, ek, ex]
    refine u_run' ?_
    have hks : (Instr.keyThatStays (kvT j) (kvT j)).run P w = .ok (kvT j) w := by
      unfold Instr.keyThatStays
      rw [if_pos (sameBits_kvT j)]
      rfl
    have hold : ((E[q]?).map (·.key)).getD (kvT j) = kvT j := by rw [cq1]; exact cq2
    simp [Instr.mapUpdate, run_underlying hu, MapKept.run_getObj_map hE, MapKept.run_setObj_map _ hE, hkt.ck _ j hj, q2, hold, hks, Result.andThen]
  · have hin : insB es j = es ++ [j] := by unfold insB; rw [if_neg q1]
    have hs' := hs.mapTurn hg hsp (w' := { w with heap := w.heap.setIfInBounds s.blk (.map (E.push { key := kvT j, val := .bool true, born := clock }) (clock + 1)) }) (es' := bmap (es ++ [j])) (E := E.push { key := kvT j, val := .bool true, born := clock }) (clock := clock + 1)
      (by simp [hlt]) (by simp [bmap, hr.1]) (fun i k' v' hi => by
        by_cases hil : i < es.length
        · have hi' : (bmap es)[i]? = some (k', v') := by
            simp only [bmap, List.map_append] at hi ⊢
            rw [List.getElem?_append_left (by simpa using hil)] at hi
            exact hi
          obtain ⟨c, c1, c2, c3, rfl, t, t1, rfl⟩ := at' i k' v' hi'
          exact ⟨c, by rw [Array.getElem?_push]; rw [if_neg (by have := hr.1; omega)]; exact c1, by rw [c2]; exact kv _, by rw [c3]; exact .bool _⟩
        · simp only [bmap, List.map_append, List.map_cons, List.map_nil] at hi
          rw [List.getElem?_append_right (by simpa using Nat.le_of_not_lt hil)] at hi
          simp only [List.length_map] at hi
          have hi0 : i - es.length = 0 := by
            cases hd : i - es.length with
            | zero => rfl
            | succ d => rw [hd] at hi; simp at hi
          rw [hi0] at hi
          simp only [List.getElem?_cons_zero, Option.some.injEq, Prod.mk.injEq] at hi
          obtain ⟨rfl, rfl⟩ := hi
          exact ⟨_, by rw [Array.getElem?_push, if_pos (by have := hr.1; omega)], kv _, .bool _⟩)
      (fun k' hk' => by simp [Array.getElem?_setIfInBounds_ne (Ne.symm hk')]) (by simp) rfl rfl rfl
    refine upon_skip (w' := { w with heap := w.heap.setIfInBounds s.blk (.map (E.push { key := kvT j, val := .bool true, born := clock }) (clock + 1)) }) ?_ (hn ρ none undef _ _ ⟨rfl, .of_set, by rw [hin]; exact GHeap.get_set_eq (GHeap.ltg hg)⟩ (.refl ρ) hs' fun y hy => by cases hy)
    unfold execOp
    simp only [ho, em, ek, ex]
    refine u_run' ?_
    simp [Instr.mapUpdate, run_underlying hu, MapKept.run_getObj_map hE, MapKept.run_setObj_map _ hE, hkt.ck _ j hj, q2, Result.andThen]
theorem CDo.lenMapB {t kt e : TypeId} {m : Operand} {g n : Nat} {es : List (List Int)} (ho : o.op = .call { callee := .builtin .len, args := #[m], argTypes := #[t] }) (ht : mapTT P t = some (kt, e)) (hm : ev fr m = some (.map (some g))) (hg : H.get g = some (.map (bmap es))) (hnn : ∀ e ∈ es, e.length = n)
    (h : R (some (.int .i64 (es.length : Int))) H) : CDo P o fr H R := .mk fun B w0 ρ a w hs hf next Q hn => by
  rw [ho] at hf
  obtain ⟨s, hsp, em⟩ := (ev_rel hf (x := m) (by simp [Op.operands, Call.operands]) hm).map_inv
  have hu := mapTT_run ht
  obtain ⟨E, clock, hE, hr⟩ := hs.mrelB hg hnn hsp
  have hrun : (Builtin.len_ #[t] o.type #[.map (some s.blk)]).run P w = .ok (.int .i64 (es.length : Int)) w := by
    simp [Builtin.len_, Sem.run_bind, run_underlying hu, MapKept.run_getObj_map hE, hr.1, goInt, Result.andThen]
  refine upon_value (c := .int .i64 (es.length : Int)) (w' := w) ?_ (hn ρ _ _ _ _ h (.refl ρ) hs fun y hy => ?_)
  · unfold execOp
    simp only [ho, resolve, invoke, builtin, Sem.run_bind, Sem.run_pure, Result.andThen_ok, List.map_toArray, List.map_cons, List.map_nil, em, hrun]
  · cases hy
    exact .int _ _
end
theorem insB_len {n : Nat} {es : List (List Int)} {j : List Int} (h : ∀ e ∈ es, e.length = n) (hj : j.length = n) : ∀ e ∈ insB es j, e.length = n := by
  unfold insB
  split
  · exact h
  · intro e he
    rcases List.mem_append.1 he with he | he
    · exact h e he
    · rw [List.mem_singleton.1 he]; exact hj
def setB (l : List (List Int)) : List (List Int) := l.foldl insB []
theorem setB_snoc (l : List (List Int)) (j : List Int) : setB (l ++ [j]) = insB (setB l) j := by
  unfold setB; rw [List.foldl_append]; rfl
theorem foldB_len : ∀ (l acc : List (List Int)), (l.foldl insB acc).length ≤ acc.length + l.length ∧ ((l.foldl insB acc).length = acc.length + l.length ↔ l.Nodup ∧ ∀ x ∈ l, x ∉ acc)
  | [], acc => ⟨Nat.le_refl _, by simp⟩
  | j :: l, acc => by
    have ih := foldB_len l (insB acc j)
    rw [List.foldl_cons, List.length_cons]
    by_cases h : j ∈ acc
    · have e : insB acc j = acc := by unfold insB; rw [if_pos h]
      rw [e] at ih ⊢
      refine ⟨by omega, ⟨fun q => by omega, fun q => absurd h (q.2 j (List.mem_cons_self ..))⟩⟩
    · have e : insB acc j = acc ++ [j] := by unfold insB; rw [if_neg h]
      rw [e] at ih ⊢
      rw [List.length_append, List.length_singleton] at ih
      refine ⟨by omega, ?_⟩
      rw [show acc.length + (l.length + 1) = acc.length + 1 + l.length by omega, ih.2, List.nodup_cons]
      constructor
      · rintro ⟨a1, a2⟩
        refine ⟨⟨fun q => (a2 j q) (List.mem_append.2 (.inr (List.mem_singleton.2 rfl))), a1⟩, fun x hx => ?_⟩
        rcases List.mem_cons.1 hx with rfl | hx
        · exact h
        · exact fun q => a2 x hx (List.mem_append.2 (.inl q))
      · rintro ⟨⟨a1, a2⟩, a3⟩
        refine ⟨a2, fun x hx q => ?_⟩
        rcases List.mem_append.1 q with q | q
        · exact a3 x (List.mem_cons_of_mem _ hx) q
        · rw [List.mem_singleton.1 q] at hx; exact a1 hx
theorem setB_len {l : List (List Int)} : (setB l).length = l.length ↔ l.Nodup := by
  have h := (foldB_len l []).2
  unfold setB
  rw [show l.length = ([] : List (List Int)).length + l.length by simp, h]
  exact ⟨fun q => q.1, fun q => ⟨q, fun _ _ q => by cases q⟩⟩
end Go.GL
namespace Go.Proofs.Ytjdedelneppnlaa
open Go Go.GL Go.RowKit Go.Proofs
set_option maxHeartbeats 4000000 in
theorem l13Maps_c {c : Cat} {p : CatP} {a b : Option Addr} {s t : List Int} {H : GHeap} (hin : c.In H p := by assumption) (hS : c.Shape := by assumption) (hx : Ints H a s) (hy : Ints H b t) (h1 : 1 ≤ s.length) (h2 : t.length = s.length) (hl : s.length ≤ 1000) (ht : ∀ i, 1 ≤ i → i < t.length → 0 ≤ t.getD i 0 ∧ t.getD i 0 < c.src.length) :
    GCalls Try.prog 128 [.agg (c.cells p).toArray, .slice a s.length s.length, .slice b t.length t.length] H (NewInts 2 H (c.mapsL s t)) := by
  rw [Cat.mapsL_eq]
  have q1 := hS.n40
  have q2 := Cat.hom_le c (s.getD 0 0) (t.getD 0 0)
  refine GCalls.body (N := 60) (rs := [.tmp 6]) Try.func128 rfl rfl rfl rfl (fun Qx d3 hend => ?_)
  refine .fg [0, 1, 2] rfl ?_
  have f := GHeap.Le.refl H
  have d := hin
  have a5 := hx
  have a6 := hy
  refine .seq (fun K1 f3 => .region ?_)
  refine .R rfl (.boxR rfl sz_29_D rfl) ?_
  rintro _ H3 ⟨g3, rfl, f4, ge3, l⟩
  replace f := f.trans f4
  have lt_at3 := GHeap.ltg l
  replace hin := d.mono f
  replace hx := a5.mono f
  replace hy := a6.mono f
  have a0 : Cat.At _ g3 0 c p := ⟨Mem.of_get l, hin⟩
  have c8 := a0.2
  refine .mv rfl (.nil (f3 _ _ (.seq (fun K2 e8 => ?_))))
  refine .regionD mo_B (.q 0 (.q 1 (.q 2 (.q 3 (.q 4 (.q 5 (.q 6 (.or (.c 7 0 (.q 9 (.c 8 1 (.q 10 (.done))))) (.c 8 1 (.c 7 1 (.q 9 (.q 10 (.done))))))))))))) (by kernel_rfl) ?_
  refine .cut [(0, some _), (1, some _), (2, some _), (3, some _), (6, some _)] ⟨rfl, rfl, rfl, rfl, rfl, trivial⟩ (fun rest fr' H' => ∃ (gH : Nat) (gO : Nat), Sub ((7, some (.slice (some ⟨gH, 0, none⟩) (c.hom (s.getD 0 0) (t.getD 0 0)).length (c.hom (s.getD 0 0) (t.getD 0 0)).length)) :: (8, some (.slice (some ⟨gO, 0, none⟩) 0 0)) :: rest) fr' ∧ H3.Le H' ∧ H'.get gH = some (.row (ints (c.hom (s.getD 0 0) (t.getD 0 0))) 2 true) ∧ H3.next ≤ gH ∧ H'.get gO = some (.row (ints []) 2 true) ∧ H3.next ≤ gO ∧ gH ≠ gO) ?_ ?_
  ·
   have a7 := St.refl [] H3
   refine .q rfl (.loadM ag_29_D rfl ⟨rfl, Mem.of_get l⟩) ?_
   refine .qB rfl (.refl _) (.move rfl) ?_
   refine .q rfl (.idxN (j := 0) sl_22_A (by assumption) rfl rfl (by omega)) ?_
   refine .q rfl (.loadI on_2_A (by assumption) rfl (by omega)) ?_
   refine .qB rfl (.refl _) (.move rfl) ?_
   refine .q rfl (.idxN (j := 0) sl_22_A (by assumption) rfl rfl (by omega)) ?_
   refine .q rfl (.loadI on_2_A (by assumption) rfl (by omega)) ?_
   refine .orI ?_ ?_
   ·
    refine .call0 rfl rfl rfl rfl rfl @Try.call127 rfl (l02Hom_c) ?_
    rintro _ H19 ⟨c0, g19, rfl, b9, ge19⟩
    replace f := f.trans c0
    replace a7 := a7.le c0
    replace l := c0.2 _ _ l
    have lt_at19 := GHeap.ltg b9
    replace hin := d.mono f
    clear a0 c8
    have a0 : Cat.At _ g3 0 c p := ⟨Mem.of_get l, hin⟩
    refine .qB rfl (.refl _) (.assign rfl) ?_
    refine .c1 rfl rfl rfl rfl (.litA rfl sl_22_A ze_2_L rfl rfl rfl rfl) ?_
    rintro _ f0 ⟨e9, rfl, a9, ge20, c7⟩
    have b4 := a9
    refine ⟨b4, ?_⟩
    replace f := f.trans a9
    replace a7 := a7.le a9
    replace l := a9.2 _ _ l
    replace b9 := a9.2 _ _ b9
    replace hin := d.mono f
    clear a0
    have a0 : Cat.At _ g3 0 c p := ⟨Mem.of_get l, hin⟩
    replace c7 : GHeap.get f0 e9 = some (.row (ints []) 2 true) := c7
    refine .qB rfl b4 (.assign rfl) ?_
    refine .done ?_
    exact ⟨_, _, ⟨rfl, rfl, rfl, rfl, rfl, rfl, rfl, trivial⟩, ⟨a7.nx, fun k o h => a7.same k o trivial h⟩, by assumption, by omega, by assumption, by omega, by omega⟩
   refine .c1 rfl rfl rfl rfl (.litA rfl sl_22_A ze_2_L rfl rfl rfl rfl) ?_
   rintro _ c6 ⟨d0, rfl, a2, ge20x2, v⟩
   have b4 := a2
   refine ⟨b4, ?_⟩
   replace f := f.trans a2
   replace a7 := a7.le a2
   replace l := a2.2 _ _ l
   have lt_at20x2 := GHeap.ltg v
   replace hin := d.mono f
   have a0 : Cat.At _ g3 0 c p := ⟨Mem.of_get l, hin⟩
   have c8 := a0.2
   replace v : GHeap.get c6 d0 = some (.row (ints []) 2 true) := v
   refine .call1 rfl rfl rfl rfl rfl @Try.call127 rfl (l02Hom_c) ?_
   rintro _ H19x2 ⟨w, g19x2, rfl, at19x2, ge19x2⟩
   replace b4 := b4.trans w
   refine ⟨b4, ?_⟩
   replace f := f.trans w
   replace a7 := a7.le w
   replace l := w.2 _ _ l
   replace v := w.2 _ _ v
   replace hin := d.mono f
   clear a0 c8
   have a0 : Cat.At _ g3 0 c p := ⟨Mem.of_get l, hin⟩
   refine .qB rfl b4 (.assign rfl) (.qB rfl b4 (.assign rfl) ?_)
   refine .done ?_
   exact ⟨_, _, ⟨rfl, rfl, rfl, rfl, rfl, rfl, rfl, trivial⟩, ⟨a7.nx, fun k o h => a7.same k o trivial h⟩, by assumption, by omega, by assumption, by omega, by omega⟩
  rintro fr901 c5 ⟨gH1, e3, b0, b6, atH, geH, b7, ge901, neHO⟩
  replace f := f.trans b6
  replace l := b6.2 _ _ l
  have lt_atH := GHeap.ltg atH
  replace hin := d.mono f
  have a0 : Cat.At _ g3 0 c p := ⟨Mem.of_get l, hin⟩
  refine e8 _ _ ?_
  refine .forget b0 ?_
  refine .seq (fun K3 f1 => .seq (fun K4 e7 => .region (.mv rfl (.nil (e7 _ _ ?_)))))
  refine .block ?_
  refine .loopR (σ := Nat × Nat × Nat) [(1, some _), (2, some _), (3, some _), (7, some _)] (fun (k, a8, b5) => [(9, some (.int .i64 (k : Int))), (8, some (.slice (some ⟨a8, 0, none⟩) b5 b5))]) (fun (k, a8, b5) H' => St [e3] c5 H' ∧ H'.get a8 = some (.row (ints (((c.hom (s.getD 0 0) (t.getD 0 0)).take k).filter (c.fitB s t))) 2 true) ∧ (a8 = e3 ∨ c5.next ≤ a8) ∧ b5 = (((c.hom (s.getD 0 0) (t.getD 0 0)).take k).filter (c.fitB s t)).length ∧ k ≤ (c.hom (s.getD 0 0) (t.getD 0 0)).length) (fun (k, a8, b5) => (c.hom (s.getD 0 0) (t.getD 0 0)).length - k) ((0, _, _)) ⟨rfl, rfl, rfl, rfl, trivial⟩ ⟨rfl, rfl, trivial⟩ ?_ ?_
  ·
   refine ⟨.refl _ _, by first | assumption | exact b7 | simpa using b7, .inl rfl, by first | rfl | assumption | simp | omega, ?_⟩
   omega
  rintro ⟨k, a8, b5⟩ HL1 ⟨g, r, pl_L8, c4, hI⟩ KL1 b3
  refine .forget (fr' := [(9, some (.int .i64 (k : Int))), (8, some (.slice (some ⟨a8, 0, none⟩) b5 b5)), (1, some _), (2, some _), (3, some _), (7, some _)]) ⟨rfl, rfl, rfl, rfl, rfl, rfl, trivial⟩ ?_
  have ge_L8 : H.next ≤ a8 := by omega
  have nx_HL1 := g.nx
  replace f := f.st g (fun k hk => ⟨by omega, trivial⟩)
  replace l := g.s l
  replace atH := g.s atH
  replace hin := d.mono f
  clear a0
  have a0 : Cat.At _ g3 0 c p := ⟨Mem.of_get l, hin⟩
  have hfl := filt_le (c.hom (s.getD 0 0) (t.getD 0 0)) (c.fitB s t) k
  refine .seq (fun K5 e6 => .seq (fun K6 f2 => .region (.mv rfl (.mv rfl (.q rfl (.len sl_22_A rfl) (.q rfl (.cmp rfl rfl rfl) (.nil (f2 _ _ ?_))))))))
  refine .cond rfl (fun e1 => ?_) (fun e1 => ?_)
  ·
   simp only [sps] at e1
   obtain ⟨u, u1, -, -, u4⟩ := Cat.hom_get (c := c) (x := s.getD 0 0) (y := t.getD 0 0) (i := k) (by omega)
   refine .skip ?_
   refine e6 _ _ (.seq (fun K7 d1 => ?_))
   refine .block ?_
   refine .seq (fun K8 e5 => .region (.mv rfl (.nil (e5 _ _ (.seq (fun K9 e4 => .seq (fun K10 e0 => .region (.mv rfl (.nil (e0 _ _ ?_))))))))))
   refine .block ?_
   refine .loopR (σ := Nat × Bool) [(1, some _), (2, some _), (3, some _), (7, some _), (8, some _), (9, some _)] (fun (i, e) => [(11, some (.int .i64 (i : Int))), (10, some (.bool e))]) (fun (i, e) H' => St [] HL1 H' ∧ (1 ≤ i ∧ i ≤ s.length) ∧ e = allN (i - 1) fun i => decide (c.th ((c.hom (s.getD 0 0) (t.getD 0 0)).getD k 0) (t.getD (i + 1) 0) = s.getD (i + 1) 0)) (fun (i, e) => s.length - i) ((1, true)) ⟨rfl, rfl, rfl, rfl, rfl, rfl, trivial⟩ ⟨rfl, rfl, trivial⟩ ?_ ?_
   ·
    refine ⟨.refl _ _, ?_⟩
    exact ⟨⟨by omega, by omega⟩, rfl⟩
   rintro ⟨i, e⟩ HL2 ⟨a3, hI⟩ KL2 e2
   refine .forget (fr' := [(11, some (.int .i64 (i : Int))), (10, some (.bool e)), (1, some _), (2, some _), (3, some _), (7, some _), (8, some _), (9, some _)]) ⟨rfl, rfl, rfl, rfl, rfl, rfl, rfl, rfl, trivial⟩ ?_
   have nx_HL2 := a3.nx
   replace f := f.st a3 (fun k hk => trivial)
   replace g := g.sA a3
   replace l := a3.same _ _ trivial l
   replace atH := a3.same _ _ trivial atH
   replace r := a3.same _ _ trivial r
   replace hin := d.mono f
   replace hx := a5.mono f
   replace hy := a6.mono f
   clear a0
   have a0 : Cat.At _ g3 0 c p := ⟨Mem.of_get l, hin⟩
   have c8 := a0.2
   obtain ⟨hi, he⟩ := hI
   refine .seq (fun K11 d8 => .seq (fun K12 c9 => .region (.mv rfl (.mv rfl ?_))))
   refine .split (fun b8 => ?_) (fun b8 => ?_)
   ·
    try simp only [sps] at b8
    refine .qg rfl (.move rfl) (.qg rfl (.move rfl) (.qg rfl (.len sl_22_A rfl) (.qg rfl (.cmp rfl rfl rfl) (.q rfl (.pickT rfl rfl) (.nil (c9 _ _ ?_))))))
    refine .cond rfl (fun d2 => ?_) (fun d2 => ?_)
    ·
     try simp only [sps] at d2
     refine .skip ?_
     refine d8 _ _ (.seq (fun K13 d7 => ?_))
     refine .block ?_
     refine .regionD mo_B (.q 0 (.q 1 (.q 2 (.q 3 (.q 4 (.q 5 (.q 6 (.q 7 (.q 8 (.q 10 (.q 11 (.q 12 (.q 13 (.c 9 1 (.q 14 (.q 15 (.done))))))))))))))))) (by kernel_rfl) ?_
     have ht1 := ht i (by omega) (by omega)
     refine .q rfl (.loadM ag_29_D rfl ⟨rfl, Mem.of_get l⟩) ?_
     refine .mv rfl rfl (.mv rfl rfl ?_)
     refine .q rfl (.idxN sl_22_A (by first | assumption | exact SlA.of_row atH (by first | rfl | (simp; done) | (simp <;> omega))) rfl rfl (by omega)) ?_
     refine .q rfl (.loadI on_2_A (by first | assumption | exact Ints.of_get atH) rfl (by omega)) ?_
     refine .mv rfl rfl (.mv rfl rfl ?_)
     refine .q rfl (.idxN sl_22_A (by assumption) rfl rfl (by omega)) ?_
     refine .q rfl (.loadI on_2_A (by assumption) rfl (by omega)) ?_
     refine .mv rfl rfl (.mv rfl rfl ?_)
     refine .q rfl (.idxN sl_22_A (by assumption) rfl rfl (by omega)) ?_
     refine .q rfl (.loadI on_2_A (by assumption) rfl (by omega)) ?_
     refine .callQ1 rfl rfl rfl rfl rfl @Try.call129 rfl (l02Then_c) (.refl _) ?_
     refine .q rfl (.cmp rfl rfl rfl) (.mv rfl rfl ?_)
     refine .done ?_
     refine d7 _ _ (.region (.mv rfl ?_))
     refine .q rfl (.add rfl rfl rfl (by omega) (by omega)) ?_
     refine .mv rfl (.nil ?_)
     refine e2 ((i + 1, _)) _ _ ?_ ?_ ⟨rfl, rfl, rfl, rfl, rfl, rfl, rfl, rfl, trivial⟩
     ·
      refine ⟨a3, ?_⟩
      refine ⟨⟨by omega, by omega⟩, ?_⟩
      obtain ⟨m, rfl⟩ : ∃ m, i = m + 1 := ⟨i - 1, by omega⟩
      rw [show m + 1 + 1 - 1 = m + 1 by omega, allN_succ, show allN m _ = true from (he.symm.trans b8), Bool.true_and]
      rw [Bool.eq_iff_iff]
      simp only [sps]
     (dsimp only; omega)
    try simp only [sps] at d2
    refine .exit ?_
    refine e4 _ _ (.seq (fun K14 d4 => .region (.mv rfl (.nil (d4 _ _ ?_)))))
    refine .cond rfl (fun b2 => ?_) (fun b2 => ?_)
    ·
     have hT : c.fitB s t ((c.hom (s.getD 0 0) (t.getD 0 0)).getD k 0) = true := by
       obtain rfl : i = s.length := by first | omega | (rw [b2] at b8; cases b8)
       exact he.symm.trans b2
     refine .region (.mv rfl (.mv rfl (.mv rfl ?_)))
     refine .q rfl (.idxN sl_22_A (by first | assumption | exact SlA.of_row atH (by first | rfl | (simp; done) | (simp <;> omega))) rfl rfl (by omega)) ?_
     refine .q rfl (.loadI on_2_A (by first | assumption | exact Ints.of_get atH) rfl (by omega)) ?_
     refine .R rfl (.litA rfl sl_22_A ze_2_L rfl rfl rfl rfl) ?_
     rintro _ H57 ⟨g57, rfl, b1, ge57, d6⟩
     replace f := f.trans b1
     replace g := g.le b1
     replace l := b1.2 _ _ l
     replace r := b1.2 _ _ r
     have lt_at57 := GHeap.ltg d6
     replace hin := d.mono f
     clear a0 c8
     have a0 : Cat.At _ g3 0 c p := ⟨Mem.of_get l, hin⟩
     refine .R rfl (.appendI rfl sl_22_A ze_2_L rfl by_2_L sl_22_A rfl rfl (by assumption) (by assumption) (by first | omega | (simp <;> omega)) (by omega) (by omega)) ?_
     rintro _ H58 ⟨g58, rfl, c3, ge58, at58⟩
     replace f := f.st c3 (fun k hk => ⟨by omega, trivial⟩)
     replace g := g.sA c3
     have n : NE g3 a8 := .a
     replace l := c3.s l n.ne
     replace hin := d.mono f
     clear a0
     have a0 : Cat.At _ g3 0 c p := ⟨Mem.of_get l, hin⟩
     refine .mv rfl (.nil (d1 _ _ (.region (.mv rfl ?_))))
     refine .q rfl (.add rfl rfl rfl (by omega) (by omega)) ?_
     refine .mv rfl (.nil ?_)
     refine b3 ((k + 1, _, _)) _ _ ?_ ?_ ⟨rfl, rfl, rfl, rfl, rfl, rfl, trivial⟩
     ·
      refine ⟨g, by first | assumption | (rw [filt_T (by omega) (by assumption)]; assumption) | (rw [filt_F (by omega) (by assumption)]; assumption), by omega, by first | omega | (simp only [List.length_append, List.length_cons, List.length_nil] <;> omega) | (rw [filt_T (by omega) (by assumption)] <;> (first | omega | (simp only [List.length_append, List.length_cons, List.length_nil] <;> omega))) | (rw [filt_F (by omega) (by assumption)] <;> (first | omega | (simp only [List.length_append, List.length_cons, List.length_nil] <;> omega))), ?_⟩
      omega
     (dsimp only; omega)
    have hF : c.fitB s t ((c.hom (s.getD 0 0) (t.getD 0 0)).getD k 0) = false := allN_early (he.symm.trans b2) (by omega)
    refine .skip ?_
    refine d1 _ _ (.region (.mv rfl ?_))
    refine .q rfl (.add rfl rfl rfl (by omega) (by omega)) ?_
    refine .mv rfl (.nil ?_)
    refine b3 ((k + 1, _, _)) _ _ ?_ ?_ ⟨rfl, rfl, rfl, rfl, rfl, rfl, trivial⟩
    ·
     refine ⟨g, by first | assumption | (rw [filt_T (by omega) (by assumption)]; assumption) | (rw [filt_F (by omega) (by assumption)]; assumption), by omega, by first | omega | (simp only [List.length_append, List.length_cons, List.length_nil] <;> omega) | (rw [filt_T (by omega) (by assumption)] <;> (first | omega | (simp only [List.length_append, List.length_cons, List.length_nil] <;> omega))) | (rw [filt_F (by omega) (by assumption)] <;> (first | omega | (simp only [List.length_append, List.length_cons, List.length_nil] <;> omega))), ?_⟩
     omega
    (dsimp only; omega)
   try simp only [sps] at b8
   refine .z rfl (.z rfl (.z rfl (.z rfl (.q rfl (.pickF rfl rfl) (.nil (c9 _ _ ?_))))))
   refine .condF rfl ?_
   refine .exit ?_
   refine e4 _ _ (.seq (fun K15 d5 => .region (.mv rfl (.nil (d5 _ _ ?_)))))
   refine .cond rfl (fun b2 => ?_) (fun b2 => ?_)
   ·
    have hT : c.fitB s t ((c.hom (s.getD 0 0) (t.getD 0 0)).getD k 0) = true := by
      obtain rfl : i = s.length := by first | omega | (rw [b2] at b8; cases b8)
      exact he.symm.trans b2
    refine .region (.mv rfl (.mv rfl (.mv rfl ?_)))
    refine .q rfl (.idxN sl_22_A (by first | assumption | exact SlA.of_row atH (by first | rfl | (simp; done) | (simp <;> omega))) rfl rfl (by omega)) ?_
    refine .q rfl (.loadI on_2_A (by first | assumption | exact Ints.of_get atH) rfl (by omega)) ?_
    refine .R rfl (.litA rfl sl_22_A ze_2_L rfl rfl rfl rfl) ?_
    rintro _ H57x2 ⟨g57x2, rfl, a1, ge57x2, c2⟩
    replace f := f.trans a1
    replace g := g.le a1
    replace l := a1.2 _ _ l
    replace r := a1.2 _ _ r
    have lt_at57x2 := GHeap.ltg c2
    replace hin := d.mono f
    have a0 : Cat.At _ g3 0 c p := ⟨Mem.of_get l, hin⟩
    refine .R rfl (.appendI rfl sl_22_A ze_2_L rfl by_2_L sl_22_A rfl rfl (by assumption) (by assumption) (by first | omega | (simp <;> omega)) (by omega) (by omega)) ?_
    rintro _ H58x2 ⟨g58x2, rfl, a4, ge58x2, at58x2⟩
    replace f := f.st a4 (fun k hk => ⟨by omega, trivial⟩)
    replace g := g.sA a4
    have n : NE g3 a8 := .a
    replace l := a4.s l n.ne
    replace hin := d.mono f
    clear a0
    have a0 : Cat.At _ g3 0 c p := ⟨Mem.of_get l, hin⟩
    refine .mv rfl (.nil (d1 _ _ (.region (.mv rfl ?_))))
    refine .q rfl (.add rfl rfl rfl (by omega) (by omega)) ?_
    refine .mv rfl (.nil ?_)
    refine b3 ((k + 1, _, _)) _ _ ?_ ?_ ⟨rfl, rfl, rfl, rfl, rfl, rfl, trivial⟩
    ·
     refine ⟨g, by first | assumption | (rw [filt_T (by omega) (by assumption)]; assumption) | (rw [filt_F (by omega) (by assumption)]; assumption), by omega, by first | omega | (simp only [List.length_append, List.length_cons, List.length_nil] <;> omega) | (rw [filt_T (by omega) (by assumption)] <;> (first | omega | (simp only [List.length_append, List.length_cons, List.length_nil] <;> omega))) | (rw [filt_F (by omega) (by assumption)] <;> (first | omega | (simp only [List.length_append, List.length_cons, List.length_nil] <;> omega))), ?_⟩
     omega
    (dsimp only; omega)
   have hF : c.fitB s t ((c.hom (s.getD 0 0) (t.getD 0 0)).getD k 0) = false := allN_early (he.symm.trans b2) (by omega)
   refine .skip ?_
   refine d1 _ _ (.region (.mv rfl ?_))
   refine .q rfl (.add rfl rfl rfl (by omega) (by omega)) ?_
   refine .mv rfl (.nil ?_)
   refine b3 ((k + 1, _, _)) _ _ ?_ ?_ ⟨rfl, rfl, rfl, rfl, rfl, rfl, trivial⟩
   ·
    refine ⟨g, by first | assumption | (rw [filt_T (by omega) (by assumption)]; assumption) | (rw [filt_F (by omega) (by assumption)]; assumption), by omega, by first | omega | (simp only [List.length_append, List.length_cons, List.length_nil] <;> omega) | (rw [filt_T (by omega) (by assumption)] <;> (first | omega | (simp only [List.length_append, List.length_cons, List.length_nil] <;> omega))) | (rw [filt_F (by omega) (by assumption)] <;> (first | omega | (simp only [List.length_append, List.length_cons, List.length_nil] <;> omega))), ?_⟩
    omega
   (dsimp only; omega)
  try simp only [sps] at e1
  refine .exit ?_
  refine f1 _ _ (.seq (fun K16 d9 => .region (.mv rfl (.mv rfl (.nil (d9 _ _ ?_))))))
  refine .ret ?_
  refine d3 _ _ ?_
  refine ⟨_, rfl, ?_⟩
  obtain rfl : k = (c.hom (s.getD 0 0) (t.getD 0 0)).length := by omega
  obtain rfl := c4
  rw [List.take_length] at r
  rw [List.take_length]
  exact ⟨f, a8, rfl, r, by omega⟩
set_option maxHeartbeats 4000000 in
theorem l13First_c {c : Cat} {p : CatP} {b : Option Addr} {r : Nat → Option Addr} {L : List (List Int)} {m : Nat} {H : GHeap} (hin : c.In H p := by assumption) (hS : c.Shape := by assumption) (hL : Intss H b L r) (hl : L.length ≤ 1048576) (hm : 1 ≤ m ∧ m ≤ 1000) (hr : ∀ k, k < L.length → (L.getD k []).length = m ∧ ∀ i, 1 ≤ i → i < m → 0 ≤ (L.getD k []).getD i 0 ∧ (L.getD k []).getD i 0 < c.src.length) :
    GCalls Try.prog 90 [.agg (c.cells p).toArray, .slice b L.length L.length] H (fun v H' => H.Le H' ∧ ∃ a, v = .slice a (c.firstL L).length (c.firstL L).length ∧ Ints H' a (c.firstL L)) := by
  refine GCalls.body (N := 41) (rs := [.tmp 4]) Try.func90 rfl rfl rfl rfl (fun Qx y hend => ?_)
  refine .fg [0, 1] rfl ?_
  have f := GHeap.Le.refl H
  have d := hin
  have o := hL
  refine .seq (fun K1 c4 => .region ?_)
  refine .R rfl (.boxR rfl sz_29_D rfl) ?_
  rintro _ H2 ⟨g2, rfl, c0, ge2, g⟩
  replace f := f.trans c0
  replace hin := d.mono f
  have x : Cat.At _ g2 0 c p := ⟨Mem.of_get g, hin⟩
  refine .mv rfl (.nil (c4 _ _ (.seq (fun K2 c1 => .seq (fun K3 c3 => .region (.mv rfl (.nil (c3 _ _ ?_))))))))
  refine .block ?_
  refine .loopR (σ := Nat) [(1, some _), (2, some _)] (fun i => [(5, some (.int .i64 (i : Int)))]) (fun i H' => St [] H2 H' ∧ i ≤ L.length ∧ ∀ j, j < i → c.okL L (L.getD j []) = false) (fun i => L.length - i) (0) ⟨rfl, rfl, trivial⟩ ⟨rfl, trivial⟩ ?_ ?_
  ·
   refine ⟨.refl _ _, ?_⟩
   exact ⟨by omega, fun j hj => by omega⟩
  rintro i HL1 ⟨h, hI⟩ KL1 a2
  refine .forget (fr' := [(5, some (.int .i64 (i : Int))), (1, some _), (2, some _)]) ⟨rfl, rfl, rfl, trivial⟩ ?_
  replace f := f.st h (fun k hk => trivial)
  replace g := h.same _ _ trivial g
  replace hin := d.mono f
  clear x
  have x : Cat.At _ g2 0 c p := ⟨Mem.of_get g, hin⟩
  obtain ⟨hi, n⟩ := hI
  refine .seq (fun K4 b9 => .seq (fun K5 b7 => .region (.mv rfl (.mv rfl (.q rfl (.len sl_23_B rfl) (.q rfl (.cmp rfl rfl rfl) (.nil (b7 _ _ ?_))))))))
  refine .cond rfl (fun a9 => ?_) (fun a9 => ?_)
  ·
   simp only [sps] at a9
   refine .skip ?_
   refine b9 _ _ (.seq (fun K6 b5 => ?_))
   refine .block ?_
   refine .seq (fun K7 b6 => .region (.mv rfl (.nil (b6 _ _ (.seq (fun K8 b4 => .seq (fun K9 c2 => .region (.mv rfl (.nil (c2 _ _ ?_))))))))))
   refine .block ?_
   refine .loopR (σ := Nat × Bool) [(1, some _), (2, some _), (5, some _)] (fun (k, e) => [(7, some (.int .i64 (k : Int))), (6, some (.bool e))]) (fun (k, e) H' => St [] HL1 H' ∧ k ≤ L.length ∧ e = allN k fun k => decide ((c.mapsL (L.getD k []) (L.getD i [])).length = 1)) (fun (k, e) => L.length - k) ((0, true)) ⟨rfl, rfl, rfl, trivial⟩ ⟨rfl, rfl, trivial⟩ ?_ ?_
   ·
    refine ⟨.refl _ _, ?_⟩
    exact ⟨by omega, rfl⟩
   rintro ⟨k, e⟩ HL2 ⟨l, hI⟩ KL2 b3
   refine .forget (fr' := [(7, some (.int .i64 (k : Int))), (6, some (.bool e)), (1, some _), (2, some _), (5, some _)]) ⟨rfl, rfl, rfl, rfl, rfl, trivial⟩ ?_
   replace f := f.st l (fun k hk => trivial)
   replace h := h.sA l
   replace g := l.same _ _ trivial g
   replace hin := d.mono f
   replace hL := o.mono f
   clear x
   have x : Cat.At _ g2 0 c p := ⟨Mem.of_get g, hin⟩
   have b8 := x.2
   obtain ⟨hk, he⟩ := hI
   refine .seq (fun K10 b2 => .seq (fun K11 a3 => .region (.mv rfl (.mv rfl ?_))))
   refine .split (fun w => ?_) (fun w => ?_)
   ·
    try simp only [sps] at w
    refine .qg rfl (.move rfl) (.qg rfl (.move rfl) (.qg rfl (.len sl_23_B rfl) (.qg rfl (.cmp rfl rfl rfl) (.q rfl (.pickT rfl rfl) (.nil (a3 _ _ ?_))))))
    refine .cond rfl (fun a4 => ?_) (fun a4 => ?_)
    ·
     try simp only [sps] at a4
     refine .skip ?_
     refine b2 _ _ (.seq (fun K12 a8 => ?_))
     refine .block ?_
     refine .regionD mo_B (.q 0 (.q 1 (.q 2 (.q 3 (.q 4 (.q 5 (.q 6 (.q 7 (.q 8 (.c 9 0 (.q 10 (.q 11 (.q 12 (.done)))))))))))))) (by kernel_rfl) ?_
     refine .q rfl (.loadM ag_29_D rfl ⟨rfl, Mem.of_get g⟩) ?_
     refine .mv rfl rfl (.mv rfl rfl ?_)
     refine .q rfl (.idxN sl_23_B (Intss.sl (by assumption)) rfl rfl (by omega)) ?_
     refine .q rfl (.loadR on_22_B (by assumption) rfl (by omega)) ?_
     refine .mv rfl rfl (.mv rfl rfl ?_)
     refine .q rfl (.idxN sl_23_B (Intss.sl (by assumption)) rfl rfl (by omega)) ?_
     refine .q rfl (.loadR on_22_B (by assumption) rfl (by omega)) ?_
     refine .call0 rfl rfl rfl rfl rfl @Try.call128 rfl (l13Maps_c (s := L.getD k []) (t := L.getD i []) (hx := hL.2 k (by omega)) (hy := hL.2 i (by omega)) (h1 := by rw [(hr k (by omega)).1]; omega) (h2 := by rw [(hr k (by omega)).1, (hr i (by omega)).1]) (hl := by rw [(hr k (by omega)).1]; omega) (ht := by rw [(hr i (by omega)).1]; exact (hr i (by omega)).2)) ?_
     rintro _ H32 ⟨a0, g32, rfl, at32, ge32⟩
     replace f := f.trans a0
     replace l := l.le a0
     replace g := a0.2 _ _ g
     replace hin := d.mono f
     clear x b8
     have x : Cat.At _ g2 0 c p := ⟨Mem.of_get g, hin⟩
     refine .q rfl (.len sl_22_A rfl) (.q rfl (.cmp rfl rfl rfl) (.mv rfl rfl ?_))
     refine .done ?_
     refine a8 _ _ (.region (.mv rfl ?_))
     refine .q rfl (.add rfl rfl rfl (by omega) (by omega)) ?_
     refine .mv rfl (.nil ?_)
     refine b3 ((k + 1, _)) _ _ ?_ ?_ ⟨rfl, rfl, rfl, rfl, rfl, trivial⟩
     ·
      refine ⟨l, ?_⟩
      refine ⟨by omega, ?_⟩
      rw [allN_succ, show allN k _ = true from (he.symm.trans w), Bool.true_and]
      rw [Bool.eq_iff_iff]
      simp only [sps]
      omega
     (dsimp only; omega)
    try simp only [sps] at a4
    refine .exit ?_
    refine b4 _ _ (.seq (fun K13 a7 => .region (.mv rfl (.nil (a7 _ _ ?_)))))
    refine .cond rfl (fun u => ?_) (fun u => ?_)
    ·
     have hT : c.okL L (L.getD i []) = true := by
       rw [Cat.okL_eq]
       obtain rfl : k = L.length := by first | omega | (rw [u] at w; cases w)
       exact he.symm.trans u
     refine .seq (fun K14 a5 => .region (.mv rfl (.mv rfl ?_)))
     refine .q rfl (.idxN sl_23_B (Intss.sl (by assumption)) rfl rfl (by omega)) ?_
     refine .q rfl (.loadR on_22_B (by assumption) rfl (by omega)) ?_
     refine .mv rfl (.nil (a5 _ _ ?_))
     refine .ret ?_
     refine y _ _ ?_
     refine ⟨_, rfl, ?_⟩
     have hf : c.firstL L = L.getD i [] := find_getD (by omega) n hT
     rw [hf]
     exact ⟨f, _, rfl, hL.2 i (by omega)⟩
    have hF : c.okL L (L.getD i []) = false := by
      rw [Cat.okL_eq]
      exact allN_early (he.symm.trans u) hk
    refine .skip ?_
    refine b5 _ _ (.region (.mv rfl ?_))
    refine .q rfl (.add rfl rfl rfl (by omega) (by omega)) ?_
    refine .mv rfl (.nil ?_)
    refine a2 (i + 1) _ _ ?_ ?_ ⟨rfl, rfl, rfl, trivial⟩
    ·
     refine ⟨h, ?_⟩
     refine ⟨by omega, fun j hj => ?_⟩
     by_cases e1 : j < i
     · exact n j e1
     · obtain rfl : j = i := by omega
       exact hF
    omega
   try simp only [sps] at w
   refine .z rfl (.z rfl (.z rfl (.z rfl (.q rfl (.pickF rfl rfl) (.nil (a3 _ _ ?_))))))
   refine .condF rfl ?_
   refine .exit ?_
   refine b4 _ _ (.seq (fun K15 a6 => .region (.mv rfl (.nil (a6 _ _ ?_)))))
   refine .cond rfl (fun u => ?_) (fun u => ?_)
   ·
    have hT : c.okL L (L.getD i []) = true := by
      rw [Cat.okL_eq]
      obtain rfl : k = L.length := by first | omega | (rw [u] at w; cases w)
      exact he.symm.trans u
    refine .seq (fun K16 b0 => .region (.mv rfl (.mv rfl ?_)))
    refine .q rfl (.idxN sl_23_B (Intss.sl (by assumption)) rfl rfl (by omega)) ?_
    refine .q rfl (.loadR on_22_B (by assumption) rfl (by omega)) ?_
    refine .mv rfl (.nil (b0 _ _ ?_))
    refine .ret ?_
    refine y _ _ ?_
    refine ⟨_, rfl, ?_⟩
    have hf : c.firstL L = L.getD i [] := find_getD (by omega) n hT
    rw [hf]
    exact ⟨f, _, rfl, hL.2 i (by omega)⟩
   have hF : c.okL L (L.getD i []) = false := by
     rw [Cat.okL_eq]
     exact allN_early (he.symm.trans u) hk
   refine .skip ?_
   refine b5 _ _ (.region (.mv rfl ?_))
   refine .q rfl (.add rfl rfl rfl (by omega) (by omega)) ?_
   refine .mv rfl (.nil ?_)
   refine a2 (i + 1) _ _ ?_ ?_ ⟨rfl, rfl, rfl, trivial⟩
   ·
    refine ⟨h, ?_⟩
    refine ⟨by omega, fun j hj => ?_⟩
    by_cases e1 : j < i
    · exact n j e1
    · obtain rfl : j = i := by omega
      exact hF
   omega
  try simp only [sps] at a9
  refine .exit ?_
  refine c1 _ _ (.seq (fun K17 b1 => .region ?_))
  refine .R rfl (.litA rfl sl_22_A ze_2_L rfl rfl rfl rfl) ?_
  rintro _ H40 ⟨g40, rfl, a1, ge40, at40⟩
  replace f := f.trans a1
  replace g := a1.2 _ _ g
  replace hin := d.mono f
  have x : Cat.At _ g2 0 c p := ⟨Mem.of_get g, hin⟩
  refine .mv rfl (.nil (b1 _ _ ?_))
  refine .ret ?_
  refine y _ _ ?_
  refine ⟨_, rfl, ?_⟩
  obtain rfl : i = L.length := by omega
  have hf : c.firstL L = [] := find_getD0 n
  rw [hf]
  exact ⟨f, _, rfl, .inl rfl⟩
end Go.Proofs.Ytjdedelneppnlaa
namespace Go.GL
open Go.RowKit
def prs (l : List (Int × Int)) : List Value := l.flatMap fun p => [.int .i64 p.1, .int .i64 p.2]
theorem prs_snoc (l : List (Int × Int)) (a b : Int) : prs (l ++ [(a, b)]) = prs l ++ [.int .i64 a, .int .i64 b] := by simp [prs]
@[simp] theorem length_prs (l : List (Int × Int)) : (prs l).length = l.length * 2 := by
  induction l with
  | nil => rfl
  | cons p l ih =>
    unfold prs at ih ⊢
    simp only [List.flatMap_cons, List.length_append, List.length_cons, List.length_nil, ih]
    omega
theorem prs_get {l : List (Int × Int)} {i j : Nat} (hi : i < l.length) (hj : j < 2) : (prs l)[i * 2 + j]? = [Value.int .i64 (l.getD i (0, 0)).1, .int .i64 (l.getD i (0, 0)).2][j]? := by
  induction l generalizing i with
  | nil => simp at hi
  | cons p l ih =>
    unfold prs
    rw [List.flatMap_cons]
    cases i with
    | zero =>
      rw [List.getElem?_append_left (by simp; omega)]
      simp only [Nat.zero_mul, Nat.zero_add, List.getD_cons_zero]
    | succ i =>
      rw [List.getElem?_append_right (by simp; omega)]
      simp only [List.length_cons, List.length_nil, List.getD_cons_succ]
      have := ih (i := i) (by simpa using hi)
      unfold prs at this
      rw [← this]
      congr 1
      omega
theorem prs_sl {H : GHeap} {g : Nat} {e : TypeId} {own : Bool} {l : List (Int × Int)} (hg : H.get g = some (.row (prs l) e own)) : SlA H (some ⟨g, 0, none⟩) (l.length * 2) (fun i => (prs l).getD i undef) :=
  .inr ⟨g, 0, rfl, fun i hi => by
    rw [GHeap.cell_of hg, Nat.zero_add]
    show _ = some ((prs l).getD i undef)
    rw [List.getD_eq_getElem?_getD, List.getElem?_eq_getElem (by rw [length_prs]; exact hi)]; rfl⟩
theorem prs_mem {H : GHeap} {g : Nat} {e : TypeId} {own : Bool} {l : List (Int × Int)} (hg : H.get g = some (.row (prs l) e own)) {i : Nat} (hi : i < l.length) :
    MemN H g (0 + (i : Int).toNat * 2) 2 [.int .i64 (l.getD i (0, 0)).1, .int .i64 (l.getD i (0, 0)).2] := by
  refine ⟨rfl, fun j v hv => ?_⟩
  rw [GHeap.cell_of hg, Int.toNat_natCast, Nat.zero_add]
  match j, hv with
  | 0, hv => rw [prs_get hi (by omega)]; exact hv
  | 1, hv => rw [prs_get hi (by omega)]; exact hv
  | n + 2, hv => simp at hv
structure PrsAt (b : Nat) (e : TypeId) (H : GHeap) (g : Nat) (l : List (Int × Int)) : Prop where
  lo : b ≤ g
  at' : H.get g = some (.row (prs l) e true)
def Cat.spR (c : Cat) (s : Spn) (w : Int) (a : Int) (j : Nat) : List (Int × Int) := (((c.hom w s.y).take j).filter fun b => s.fits a b).map fun b => (a, b)
def Cat.spP (c : Cat) (s : Spn) (w : Int) (k : Nat) : List (Int × Int) := if s.alone = true then (((c.hom w s.x).take k).filter fun a => s.fits a a).map fun a => (a, a) else ((c.hom w s.x).take k).flatMap fun a => ((c.hom w s.y).filter fun b => s.fits a b).map fun b => (a, b)
theorem Cat.spP_zero (c : Cat) (s : Spn) (w : Int) : c.spP s w 0 = [] := by unfold Cat.spP; split <;> rfl
theorem Cat.spP_all (c : Cat) (s : Spn) (w : Int) : c.spP s w (c.hom w s.x).length = c.spL s w := by unfold Cat.spP Cat.spL; rw [List.take_length]
theorem Cat.spP_aT {c : Cat} {s : Spn} {w : Int} {k : Nat} (ha : s.alone = true) (h : k < (c.hom w s.x).length) (hf : s.fits ((c.hom w s.x).getD k 0) ((c.hom w s.x).getD k 0) = true) : c.spP s w (k + 1) = c.spP s w k ++ [((c.hom w s.x).getD k 0, (c.hom w s.x).getD k 0)] := by
  unfold Cat.spP
  rw [if_pos ha, if_pos ha, take_snoc_getD h, List.filter_append, List.map_append]
  congr 1
  rw [List.filter_cons_of_pos (p := fun a => s.fits a a) hf]; rfl
theorem Cat.spP_aF {c : Cat} {s : Spn} {w : Int} {k : Nat} (ha : s.alone = true) (h : k < (c.hom w s.x).length) (hf : s.fits ((c.hom w s.x).getD k 0) ((c.hom w s.x).getD k 0) = false) : c.spP s w (k + 1) = c.spP s w k := by
  unfold Cat.spP
  rw [if_pos ha, if_pos ha, take_snoc_getD h, List.filter_append, List.map_append, List.filter_cons_of_neg (by rw [hf]; decide)]
  simp
theorem Cat.spR_zero (c : Cat) (s : Spn) (w a : Int) : c.spR s w a 0 = [] := rfl
theorem Cat.spR_T {c : Cat} {s : Spn} {w a : Int} {j : Nat} (h : j < (c.hom w s.y).length) (hf : s.fits a ((c.hom w s.y).getD j 0) = true) : c.spR s w a (j + 1) = c.spR s w a j ++ [(a, (c.hom w s.y).getD j 0)] := by
  unfold Cat.spR
  rw [take_snoc_getD h, List.filter_append, List.map_append, List.filter_cons_of_pos hf]; rfl
theorem Cat.spR_F {c : Cat} {s : Spn} {w a : Int} {j : Nat} (h : j < (c.hom w s.y).length) (hf : s.fits a ((c.hom w s.y).getD j 0) = false) : c.spR s w a (j + 1) = c.spR s w a j := by
  unfold Cat.spR
  rw [take_snoc_getD h, List.filter_append, List.map_append, List.filter_cons_of_neg (by rw [hf]; decide)]
  simp
theorem Cat.spP_next {c : Cat} {s : Spn} {w : Int} {k : Nat} (ha : ¬ s.alone = true) (h : k < (c.hom w s.x).length) : c.spP s w (k + 1) = c.spP s w k ++ c.spR s w ((c.hom w s.x).getD k 0) (c.hom w s.y).length := by
  unfold Cat.spP Cat.spR
  rw [if_neg ha, if_neg ha, take_snoc_getD h, List.flatMap_append, List.take_length]
  simp
theorem Cat.spR_len (c : Cat) (s : Spn) (w a : Int) (j : Nat) : (c.spR s w a j).length ≤ c.src.length := by
  unfold Cat.spR
  rw [List.length_map]
  exact Nat.le_trans (List.length_filter_le _ _) (Nat.le_trans (by rw [List.length_take]; omega) (Cat.hom_le c w s.y))
theorem Cat.spP_len (c : Cat) (s : Spn) (w : Int) : ∀ {k : Nat}, k ≤ (c.hom w s.x).length → (c.spP s w k).length ≤ k * c.src.length + k
  | 0, _ => by rw [Cat.spP_zero]; simp
  | k + 1, h => by
    have ih := Cat.spP_len c s w (k := k) (by omega)
    have e := Nat.add_mul k 1 c.src.length
    by_cases ha : s.alone = true
    · cases hf : s.fits ((c.hom w s.x).getD k 0) ((c.hom w s.x).getD k 0) with
      | true => rw [Cat.spP_aT ha (by omega) hf, List.length_append, List.length_singleton]; omega
      | false => rw [Cat.spP_aF ha (by omega) hf]; omega
    · rw [Cat.spP_next ha (by omega), List.length_append]
      have := Cat.spR_len c s w ((c.hom w s.x).getD k 0) (c.hom w s.y).length
      omega
def LastsN (T0 : TypeId) (H H' : GHeap) : Prop := ∀ e, (e != T0) = true → LastsV e H H'
theorem LastsN.of_le {T0 : TypeId} {H H' : GHeap} (h : H.Le H') : LastsN T0 H H' := fun _ _ => .of_le h
theorem LastsN.trans {T0 : TypeId} {A B C : GHeap} (h : LastsN T0 A B) (h' : LastsN T0 B C) : LastsN T0 A C := fun e he => (h e he).trans (h' e he)
structure SpnF (P : Program) (T0 : TypeId) (c : Cat) (gc : Nat) (p : CatP) (fn : Nat) (cap : Array Value) (s : Spn) (H : GHeap) : Prop where
  code : ∀ (xs : Array Value) (w : World), (callFunc fn xs).run P w = .ok (.enter fn xs) w
  run : ∀ H', LastsN T0 H H' → Cat.At H' gc 0 c p → ∀ (w : Nat) (a b : Int), a ∈ c.hom w s.x → (s.alone = true → b = a) → (¬ s.alone = true → b ∈ c.hom w s.y) → GCalls P fn ([.int .i64 a, .int .i64 b] ++ cap.toList) H' (Ret (.bool (s.fits a b)) H')
def SpnAt (P : Program) (TS T0 : TypeId) (c : Cat) (gc : Nat) (p : CatP) (H : GHeap) (g : Nat) (s : Spn) : Prop :=
  ∃ fn cap, H.get g = some (.row [.pointer (some ⟨gc, 0, none⟩), .int .i64 s.x, .int .i64 s.y, .func (.func fn) #[] cap, .bool s.alone] TS true) ∧ SpnF P T0 c gc p fn cap s H
theorem SpnAt.keep {P : Program} {TS T0 : TypeId} {c : Cat} {gc : Nat} {p : CatP} {H H' : GHeap} {g : Nat} {s : Spn} (h : SpnAt P TS T0 c gc p H g s) (hT : (TS != T0) = true) (l : LastsN T0 H H') : SpnAt P TS T0 c gc p H' g s := by
  obtain ⟨fn, cap, h1, h2⟩ := h
  exact ⟨fn, cap, l _ hT _ _ h1, h2.code, fun H'' l' => h2.run H'' (l.trans l')⟩
def Spn.z : Spn := ⟨0, 0, fun _ _ => true, false⟩
structure SpnsAt (P : Program) (TS T0 : TypeId) (c : Cat) (gc : Nat) (p : CatP) (H : GHeap) (gs : List Nat) (ss : List Spn) : Prop where
  len : gs.length = ss.length
  row : ∀ i, i < ss.length → SpnAt P TS T0 c gc p H (gs.getD i 0) (ss.getD i .z)
def row3 (z : Nat) (p : Int × Int) : List Int := [(z : Int), p.1, p.2]
def Cat.sqA (c : Cat) (s : Spn) (f : Nat → Int × Int → List Int) (z : Nat) : List (List Int) := (List.range z).flatMap fun (z : Nat) => (c.spL s z).map (f z)
def Cat.sqP (c : Cat) (s : Spn) (f : Nat → Int × Int → List Int) (z i : Nat) (k : Nat) : List (List Int) := c.sqA s f z ++ (c.spP s z i ++ c.spR s z ((c.hom z s.x).getD i 0) k).map (f z)
theorem Cat.sqA_next (c : Cat) (s : Spn) (f : Nat → Int × Int → List Int) (z : Nat) : c.sqA s f (z + 1) = c.sqA s f z ++ (c.spL s z).map (f z) := by
  unfold Cat.sqA
  rw [List.range_succ, List.flatMap_append]
  simp
theorem Cat.sqP_zero (c : Cat) (s : Spn) (f : Nat → Int × Int → List Int) (z : Nat) : c.sqP s f z 0 0 = c.sqA s f z := by
  unfold Cat.sqP
  rw [Cat.spP_zero, Cat.spR_zero]; simp
theorem Cat.sqP_end (c : Cat) (s : Spn) (f : Nat → Int × Int → List Int) (z : Nat) : c.sqP s f z (c.hom z s.x).length 0 = c.sqA s f (z + 1) := by
  unfold Cat.sqP
  rw [Cat.spR_zero, List.append_nil, Cat.spP_all, Cat.sqA_next]
theorem Cat.sqP_next {c : Cat} {s : Spn} {f : Nat → Int × Int → List Int} {z i : Nat} (ha : ¬ s.alone = true) (h : i < (c.hom z s.x).length) : c.sqP s f z (i + 1) 0 = c.sqP s f z i (c.hom z s.y).length := by
  unfold Cat.sqP
  rw [Cat.spR_zero, List.append_nil, Cat.spP_next ha h]
theorem Cat.sqP_T {c : Cat} {s : Spn} {f : Nat → Int × Int → List Int} {z i k : Nat} (h : k < (c.hom z s.y).length) (hf : s.fits ((c.hom z s.x).getD i 0) ((c.hom z s.y).getD k 0) = true) : c.sqP s f z i (k + 1) = c.sqP s f z i k ++ [f z ((c.hom z s.x).getD i 0, (c.hom z s.y).getD k 0)] := by
  unfold Cat.sqP
  rw [Cat.spR_T h hf, ← List.append_assoc, List.map_append, ← List.append_assoc]; rfl
theorem Cat.sqP_F {c : Cat} {s : Spn} {f : Nat → Int × Int → List Int} {z i k : Nat} (h : k < (c.hom z s.y).length) (hf : s.fits ((c.hom z s.x).getD i 0) ((c.hom z s.y).getD k 0) = false) : c.sqP s f z i (k + 1) = c.sqP s f z i k := by
  unfold Cat.sqP
  rw [Cat.spR_F h hf]
theorem Cat.spP_bound {c : Cat} (hS : c.Shape) (s : Spn) (w : Int) {k : Nat} (hk : k ≤ (c.hom w s.x).length) : (c.spP s w k).length ≤ 1640 := by
  have h1 := c.spP_len s w hk
  have h2 := hS.n40
  have h3 := c.hom_le w s.x
  have h4 : k * c.src.length ≤ 40 * 40 := Nat.mul_le_mul (by omega) h2
  omega
theorem Cat.spL_bound {c : Cat} (hS : c.Shape) (s : Spn) (w : Int) : (c.spL s w).length ≤ 1640 := by rw [← Cat.spP_all]; exact Cat.spP_bound hS s w (Nat.le_refl _)
theorem Cat.sqA_bound {c : Cat} (hS : c.Shape) (s : Spn) (f : Nat → Int × Int → List Int) (z : Nat) : (c.sqA s f z).length ≤ z * 1640 := flatMap_len fun a _ => by rw [List.length_map]; exact Cat.spL_bound hS s a
theorem Cat.sqP_bound {c : Cat} (hS : c.Shape) (s : Spn) (f : Nat → Int × Int → List Int) {z i k : Nat} (hz : z ≤ 8) (hi : i ≤ (c.hom z s.x).length) : (c.sqP s f z i k).length ≤ 20000 := by
  unfold Cat.sqP
  rw [List.length_append, List.length_map, List.length_append]
  have h1 := Cat.sqA_bound hS s f z
  have h2 := Cat.spP_bound hS s z hi
  have h3 := c.spR_len s z ((c.hom z s.x).getD i 0) k
  have h4 := hS.n40
  omega
theorem Cat.sqA_bound8 {c : Cat} (hS : c.Shape) (s : Spn) (f : Nat → Int × Int → List Int) {z : Nat} (hz : z ≤ 8) : (c.sqA s f z).length ≤ 20000 := by
  have := Cat.sqA_bound hS s f z
  omega
theorem Cat.sqL_eq (c : Cat) (s : Spn) : c.sqL s = c.sqA s row3 c.obj.toNat := rfl
theorem find_flatMap {α : Type} {p : α → Bool} {F : Nat → List α} {n z : Nat} (hz : z < n) (h1 : ∀ z', z' < z → ∀ t ∈ F z', p t = false) {i : Nat} {d : α} (hi : i < (F z).length) (h2 : ∀ j, j < i → p ((F z).getD j d) = false) (h3 : p ((F z).getD i d) = true) : ((List.range n).flatMap F).find? p = some ((F z).getD i d) := by
  obtain ⟨m, rfl⟩ : ∃ m, n = z + (m + 1) := ⟨n - z - 1, by omega⟩
  rw [List.range_add, List.flatMap_append, List.find?_append, List.find?_eq_none.2 fun t ht => by
    obtain ⟨a, ha, hb⟩ := List.mem_flatMap.1 ht
    rw [h1 a (List.mem_range.1 ha) t hb]; exact Bool.false_ne_true]
  rw [Option.none_or, List.range_succ_eq_map, List.map_cons, List.flatMap_cons, Nat.add_zero, List.find?_append]
  have hf : (F z).find? p = some ((F z).getD i d) := by
    rw [List.find?_eq_some_iff_getElem]
    refine ⟨h3, i, hi, by rw [List.getD_eq_getElem?_getD, List.getElem?_eq_getElem hi]; rfl, fun j hj => ?_⟩
    have := h2 j hj
    rw [List.getD_eq_getElem?_getD, List.getElem?_eq_getElem (by omega)] at this
    simpa using this
  rw [hf]; rfl
theorem Cat.okL_sq {c : Cat} {s : Spn} (hc : c.SpC s) {z : Nat} {p : Int × Int} (hp : p ∈ c.spL s z) : c.okL (c.sqL s) (row3 z p) = true ↔ c.SpV s z p := by
  rw [Cat.spV_iff hc hp]
  unfold Cat.okL
  rw [B_iff]
  constructor
  · intro h
    refine ⟨fun w hw q hq => ?_⟩
    rw [← Cat.maps3]
    exact h _ (mem_objsL.2 ⟨w, hw, List.mem_map.2 ⟨q, hq, rfl⟩⟩)
  · intro h t ht
    obtain ⟨w, hw, h2⟩ := mem_objsL.1 ht
    obtain ⟨q, hq, rfl⟩ := List.mem_map.1 h2
    show (c.mapsL [(w : Int), q.1, q.2] [(z : Int), p.1, p.2]).length = 1
    rw [Cat.maps3]
    exact h.all w hw q hq
noncomputable def Cat.fstL (c : Cat) (s : Spn) : List Int := c.firstL (c.sqL s)
theorem Cat.fst_hit {c : Cat} {s : Spn} (hc : c.SpC s) {z i : Nat} (hz : (z : Int) < c.obj) (h1 : ∀ z' : Nat, z' < z → ∀ q ∈ c.spL s z', ¬ c.SpV s z' q) (hi : i < (c.spL s z).length) (h2 : ∀ j, j < i → ¬ c.SpV s z ((c.spL s z).getD j (0, 0))) (h3 : c.SpV s z ((c.spL s z).getD i (0, 0))) : c.fstL s = row3 z ((c.spL s z).getD i (0, 0)) := by
  have gm : ∀ {j : Nat}, j < (c.spL s z).length → ((c.spL s z).map (row3 z)).getD j [] = row3 z ((c.spL s z).getD j (0, 0)) := fun {j} hj => by
    rw [List.getD_eq_getElem?_getD, List.getElem?_map, List.getD_eq_getElem?_getD, List.getElem?_eq_getElem hj]; rfl
  have hm : ∀ {j : Nat}, j < (c.spL s z).length → (c.spL s z).getD j (0, 0) ∈ c.spL s z := fun hj => getD_mem_list hj
  have := find_flatMap (p := c.okL (c.sqL s)) (F := fun z => (c.spL s z).map (row3 z)) (n := c.obj.toNat) (z := z) (i := i) (d := []) (by omega) (fun z' hz' t ht => by
    obtain ⟨q, hq, rfl⟩ := List.mem_map.1 ht
    exact Bool.eq_false_iff.2 fun e => h1 z' hz' q hq ((Cat.okL_sq hc hq).1 e)) (by rw [List.length_map]; exact hi) (fun j hj => by
    rw [gm (by omega)]
    exact Bool.eq_false_iff.2 fun e => h2 j hj ((Cat.okL_sq hc (hm (by omega))).1 e)) (by rw [gm hi]; exact (Cat.okL_sq hc (hm hi)).2 h3)
  unfold Cat.fstL Cat.firstL
  rw [show (c.sqL s).find? (c.okL (c.sqL s)) = _ from this, gm hi]; rfl
theorem Cat.fst_none {c : Cat} {s : Spn} (hc : c.SpC s) (h : ∀ z : Nat, (z : Int) < c.obj → ∀ q ∈ c.spL s z, ¬ c.SpV s z q) : c.fstL s = [] := by
  unfold Cat.fstL Cat.firstL
  rw [List.find?_eq_none.2 fun t ht => by
    obtain ⟨z, hz, h2⟩ := mem_objsL.1 ht
    obtain ⟨q, hq, rfl⟩ := List.mem_map.1 h2
    exact fun e => h z hz q hq ((Cat.okL_sq hc hq).1 e)]
  rfl
theorem Cat.fst_form (c : Cat) (s : Spn) : c.fstL s = [] ∨ ∃ (z : Nat) (p : Int × Int), (z : Int) < c.obj ∧ p ∈ c.spL s z ∧ c.fstL s = row3 z p := by
  by_cases h : c.fstL s = []
  · exact .inl h
  · unfold Cat.fstL Cat.firstL at h ⊢
    cases e : (c.sqL s).find? (c.okL (c.sqL s)) with
    | none => rw [e] at h; exact absurd rfl h
    | some t =>
      obtain ⟨z, hz, h2⟩ := mem_objsL.1 (List.mem_of_find?_eq_some e)
      obtain ⟨q, hq, rfl⟩ := List.mem_map.1 h2
      exact .inr ⟨z, q, hz, hq, rfl⟩
theorem Cat.sqL_ok {c : Cat} {s : Spn} (ha : ¬ s.alone = true) : ∀ k, k < (c.sqL s).length → ((c.sqL s).getD k []).length = 3 ∧ ∀ i, 1 ≤ i → i < 3 → 0 ≤ ((c.sqL s).getD k []).getD i 0 ∧ ((c.sqL s).getD k []).getD i 0 < c.src.length := fun k hk => by
  have hm := getD_mem_list (d := ([] : List Int)) hk
  generalize (c.sqL s).getD k [] = t at hm ⊢
  obtain ⟨z, hz, h⟩ := mem_objsL.1 hm
  obtain ⟨p, hp, rfl⟩ := List.mem_map.1 h
  obtain ⟨h1, _, h3⟩ := Cat.mem_spL.1 hp
  rw [if_neg ha] at h3
  obtain ⟨a, a1, _, _, a4⟩ := Cat.mem_hom.1 h1
  obtain ⟨b, b1, _, _, b4⟩ := Cat.mem_hom.1 h3
  refine ⟨rfl, fun i h1 h2 => ?_⟩
  rcases (by omega : i = 1 ∨ i = 2) with rfl | rfl
  · show 0 ≤ p.1 ∧ p.1 < _
    omega
  · show 0 ≤ p.2 ∧ p.2 < _
    omega
structure Bef (n f t : Nat) (Q : Nat → Nat → Prop) : Prop where
  all : ∀ f' g', f' ≤ g' → g' < n → (f' < f ∨ (f' = f ∧ g' < t)) → Q f' g'
structure BefA (n f t : Nat) (Q : Nat → Nat → Prop) : Prop where
  all : ∀ f' g', g' < n → (f' < f ∨ (f' = f ∧ g' < t)) → Q f' g'
def Cat.Q1 (c : Cat) (x y : Nat) : Prop := c.SpE (.prod x y)
def Cat.Q2 (c : Cat) (f g : Nat) : Prop := c.src.getD f 0 = c.src.getD g 0 → c.tgt.getD f 0 = c.tgt.getD g 0 → c.SpE (c.fork f g)
def Cat.Q3 (c : Cat) (f g : Nat) : Prop := c.tgt.getD f 0 = c.tgt.getD g 0 → c.SpE (c.pull f g)
def Cat.sp2 (c : Cat) (p1 p2 : Int) (u : Int) : List Int := [c.th u p1, c.th u p2]
theorem foldB_two : ∀ {l acc : List (List Int)} {n : Nat}, (∀ e ∈ l, e.length = n) → (∀ e ∈ acc, e.length = n) → ∀ e ∈ l.foldl insB acc, e.length = n
  | [], _, _, _, h2 => h2
  | j :: l, acc, n, h1, h2 => by
    rw [List.foldl_cons]
    exact foldB_two (fun e he => h1 e (List.mem_cons_of_mem _ he)) (insB_len h2 (h1 j (List.mem_cons_self ..)))
theorem sp2_len {c : Cat} {p1 p2 : Int} (l : List Int) : ∀ e ∈ setB (l.map (c.sp2 p1 p2)), e.length = 2 := foldB_two (fun e he => by
  obtain ⟨u, _, rfl⟩ := List.mem_map.1 he
  rfl) fun _ h => by cases h
theorem Cat.sp2_nd {c : Cat} {p1 p2 : Int} {l : List Int} : (l.map (c.sp2 p1 p2)).Nodup ↔ (l.map (c.spM (p1, p2))).Nodup := by
  have e : l.map (c.sp2 p1 p2) = (l.map (c.spM (p1, p2))).map fun q => [q.1, q.2] := by rw [List.map_map]; rfl
  rw [e]
  refine ⟨fun h => List.Pairwise.imp (fun {a b} h e => h (by rw [e])) (List.pairwise_map.1 h), fun h => List.pairwise_map.2 (List.Pairwise.imp (fun {a b} h e => h ?_) h)⟩
  have e1 := List.cons.inj e
  exact Prod.ext e1.1 (List.cons.inj e1.2).1
theorem Cat.sp2_set {c : Cat} {p1 p2 : Int} {l : List Int} : (setB (l.map (c.sp2 p1 p2))).length = l.length ↔ (l.map (c.spM (p1, p2))).Nodup := by
  rw [← Cat.sp2_nd, ← setB_len, List.length_map]
theorem mem_iff_getD' {l : List (Int × Int)} {q : Int × Int} : q ∈ l ↔ ∃ j, j < l.length ∧ l.getD j (0, 0) = q := by
  constructor
  · intro h
    obtain ⟨j, hj, e⟩ := List.mem_iff_getElem.1 h
    exact ⟨j, hj, by rw [List.getD_eq_getElem?_getD, List.getElem?_eq_getElem hj]; exact e⟩
  · rintro ⟨j, hj, rfl⟩
    exact getD_mem_list hj
theorem Cat.spL_rg {c : Cat} {s : Spn} (hS : c.Shape) {z : Nat} {q : Int × Int} (h : q ∈ c.spL s z) : 0 ≤ q.1 ∧ q.1 < c.src.length ∧ 0 ≤ q.2 ∧ q.2 < c.src.length := by
  obtain ⟨h1, _, h3⟩ := Cat.mem_spL.1 h
  obtain ⟨a, a1, _, _, a4⟩ := Cat.mem_hom.1 h1
  by_cases ha : s.alone = true
  · rw [if_pos ha] at h3
    omega
  · rw [if_neg ha] at h3
    obtain ⟨b, b1, _, _, b4⟩ := Cat.mem_hom.1 h3
    omega
structure Spns3 (P : Program) (TS T0 : TypeId) (c : Cat) (gc : Nat) (p : CatP) (H : GHeap) (gs : List Nat) (ss : List Spn) (us : List Nat) (es : List Spn) (ws : List Nat) (ps : List Spn) : Prop where
  a : SpnsAt P TS T0 c gc p H gs ss
  b : SpnsAt P TS T0 c gc p H us es
  d : SpnsAt P TS T0 c gc p H ws ps
  ac : ∀ s ∈ ss, c.SpC s
  bc : ∀ s ∈ es, c.SpC s
  dc : ∀ s ∈ ps, c.SpC s
section
variable {P : Program} {TS T0 : TypeId} {c : Cat} {gc : Nat} {p : CatP} {H H' : GHeap} {gs us ws : List Nat} {ss es ps : List Spn} {g : Nat} {s : Spn}
end
end Go.GL
namespace Go.Proofs.Ytjdedelneppnlaa
open Go Go.GL Go.RowKit Go.Proofs
set_option maxHeartbeats 4000000 in
theorem l13Squares_c {c : Cat} {p : CatP} {s : Spn} {f k : Int} {H : GHeap} (hin : c.In H p := by assumption) (hS : c.Shape := by assumption) (ha : ¬ s.alone = true) (hr : 0 ≤ f → f < c.src.length ∧ 0 ≤ k ∧ k < c.src.length) (hf : ∀ (z : Nat) (a b : Int), a ∈ c.hom z s.x → b ∈ c.hom z s.y → s.fits a b = (decide (f < 0) || decide (c.th a f = c.th b k))) :
    GCalls Try.prog 107 [.agg (c.cells p).toArray, .int .i64 s.x, .int .i64 s.y, .int .i64 f, .int .i64 k] H (NewIntssR H (c.sqL s)) := by
  have b1 := hS.n40
  have b5 := hS.obj
  refine GCalls.body (N := 77) (rs := [.tmp 10]) Try.func107 rfl rfl rfl rfl (fun Qx d6 hend => ?_)
  refine .fg [0, 1, 2, 3, 4] rfl ?_
  have a0 := GHeap.Le.refl H
  have d := hin
  refine .seq (fun K1 g9 => .region ?_)
  refine .R rfl (.boxR rfl sz_29_D rfl) ?_
  rintro _ H5 ⟨g5, rfl, g6, ge5, m⟩
  replace a0 := a0.trans g6
  have lt_at5 := GHeap.ltg m
  replace hin := d.mono a0
  have a3 : Cat.At _ g5 0 c p := ⟨Mem.of_get m, hin⟩
  refine .mv rfl (.nil (g9 _ _ (.seq (fun K2 g3 => .region ?_))))
  refine .R rfl (.litA rfl sl_23_B ze_22_Hj rfl rfl rfl rfl) ?_
  rintro _ f3 ⟨f6, rfl, c9, ge17, c2⟩
  replace a0 := a0.trans c9
  replace m := c9.2 _ _ m
  have lt_at17 := GHeap.ltg c2
  replace hin := d.mono a0
  clear a3
  have a3 : Cat.At _ g5 0 c p := ⟨Mem.of_get m, hin⟩
  refine .mv rfl (.nil (g3 _ _ (.seq (fun K3 g7 => .seq (fun K4 g2 => .region (.mv rfl (.nil (g2 _ _ ?_))))))))
  refine .block ?_
  refine .loopR (σ := Nat × (Nat → Option Addr) × Nat × Nat) [(1, some _), (2, some _), (3, some _), (4, some _), (5, some _)] (fun (z, rr, a2, a6) => [(12, some (.int .i64 (z : Int))), (11, some (.slice (some ⟨a2, 0, none⟩) a6 a6))]) (fun (z, rr, a2, a6) H' => St [f6] f3 H' ∧ H'.get a2 = some (.row ((slsL rr (c.sqA s row3 z))) 22 true) ∧ (a2 = f6 ∨ f3.next ≤ a2) ∧ a6 = (slsL rr (c.sqA s row3 z)).length ∧ z ≤ c.obj.toNat ∧ OwnL H.next H' 2 rr (c.sqA s row3 z)) (fun (z, rr, a2, a6) => c.obj.toNat - z) ((0, fun _ => none, _, _)) ⟨rfl, rfl, rfl, rfl, rfl, trivial⟩ ⟨rfl, rfl, trivial⟩ ?_ ?_
  ·
   refine ⟨.refl _ _, by first | assumption | exact c2 | simpa using c2, .inl rfl, by first | rfl | assumption | simp | omega, ?_⟩
   exact ⟨by omega, .nil _ _ _ _⟩
  rintro ⟨z, rr, a2, a6⟩ HL1 ⟨a7, a4, pl_L11, c4, hI⟩ KL1 e4
  refine .forget (fr' := [(12, some (.int .i64 (z : Int))), (11, some (.slice (some ⟨a2, 0, none⟩) a6 a6)), (1, some _), (2, some _), (3, some _), (4, some _), (5, some _)]) ⟨rfl, rfl, rfl, rfl, rfl, rfl, rfl, trivial⟩ ?_
  have ge_L11 : H.next ≤ a2 := by omega
  have nx_HL1 := a7.nx
  replace a0 := a0.st a7 (fun k hk => ⟨by omega, trivial⟩)
  replace m := a7.s m
  have lt_at_L11 := GHeap.ltg a4
  replace hin := d.mono a0
  clear a3
  have a3 : Cat.At _ g5 0 c p := ⟨Mem.of_get m, hin⟩
  obtain ⟨g0, -, -, -, -, -, -, -, -⟩ := a3.get
  have c7 := a3.2
  obtain ⟨hz, hR⟩ := hI
  refine .seq (fun K5 g1 => .seq (fun K6 g8 => .region (.mv rfl (.q rfl (.fieldAddr fo_29_0_B rfl) ?_))))
  refine .q rfl (.load on_2_A rfl (by first | assumption | exact Mem.of_get m 0 _ rfl)) ?_
  refine .q rfl (.cmp rfl rfl rfl) (.nil (g8 _ _ ?_))
  refine .cond rfl (fun e2 => ?_) (fun e2 => ?_)
  ·
   simp only [sps] at e2
   have q1 := Cat.hom_le c z s.x
   have q2 := Cat.hom_le c z s.y
   refine .skip ?_
   refine g1 _ _ (.seq (fun K7 f8 => ?_))
   refine .block ?_
   refine .seq (fun K8 f9 => ?_)
   refine .regionD mo_B (.q 0 (.q 1 (.q 2 (.q 4 (.q 5 (.q 6 (.c 3 1 (.c 7 0 (.q 8 (.q 9 (.done))))))))))) (by kernel_rfl) ?_
   refine .cut [(1, some _), (2, some _), (3, some _), (4, some _), (5, some _), (11, some _), (12, some _), (18, some _), (19, some _), (20, some _), (21, some _)] ⟨rfl, rfl, rfl, rfl, rfl, rfl, rfl, rfl, rfl, rfl, rfl, trivial⟩ (fun rest fr' H' => ∃ (gP : Nat) (gQ : Nat), Sub ((13, some (.slice (some ⟨gP, 0, none⟩) (c.hom z s.x).length (c.hom z s.x).length)) :: (14, some (.slice (some ⟨gQ, 0, none⟩) (c.hom z s.y).length (c.hom z s.y).length)) :: rest) fr' ∧ HL1.Le H' ∧ H'.get gP = some (.row (ints (c.hom z s.x)) 2 true) ∧ HL1.next ≤ gP ∧ H'.get gQ = some (.row (ints (c.hom z s.y)) 2 true) ∧ HL1.next ≤ gQ ∧ gP ≠ gQ) ?_ ?_
   ·
    have c6 := St.refl [] HL1
    refine .q rfl (.loadM ag_29_D rfl ⟨rfl, Mem.of_get m⟩) ?_
    refine .qB rfl (.refl _) (.move rfl) (.qB rfl (.refl _) (.move rfl) ?_)
    refine .q rfl (.loadM ag_29_D rfl ⟨rfl, Mem.of_get m⟩) ?_
    refine .qB rfl (.refl _) (.move rfl) (.qB rfl (.refl _) (.move rfl) ?_)
    refine .call1 rfl rfl rfl rfl rfl @Try.call127 rfl (l02Hom_c) ?_
    rintro _ H27 ⟨b8, g27, rfl, c3, ge27⟩
    have c5 := b8
    refine ⟨c5, ?_⟩
    replace a0 := a0.trans b8
    replace c6 := c6.le b8
    replace m := b8.2 _ _ m
    have lt_at27 := GHeap.ltg c3
    replace hin := d.mono a0
    clear a3 g0 c7
    have a3 : Cat.At _ g5 0 c p := ⟨Mem.of_get m, hin⟩
    have c7 := a3.2
    refine .call0 rfl rfl rfl rfl rfl @Try.call127 rfl (l02Hom_c) ?_
    rintro _ H31 ⟨b9, g31, rfl, at31, ge31⟩
    replace a0 := a0.trans b9
    replace c6 := c6.le b9
    replace m := b9.2 _ _ m
    replace c3 := b9.2 _ _ c3
    replace hin := d.mono a0
    clear a3 c7
    have a3 : Cat.At _ g5 0 c p := ⟨Mem.of_get m, hin⟩
    refine .qB rfl (.refl _) (.assign rfl) (.qB rfl (.refl _) (.assign rfl) ?_)
    refine .done ?_
    exact ⟨_, _, ⟨rfl, rfl, rfl, rfl, rfl, rfl, rfl, rfl, rfl, rfl, rfl, rfl, rfl, trivial⟩, ⟨c6.nx, fun k o h => c6.same k o trivial h⟩, by assumption, by omega, by assumption, by omega, by omega⟩
   rintro fr905 d4 ⟨gP1, gQ1, b7, a9, atP, geP, atQ, geQ, nePQ⟩
   replace a0 := a0.trans a9
   replace a7 := a7.le a9
   replace m := a9.2 _ _ m
   replace a4 := a9.2 _ _ a4
   have lt_atP := GHeap.ltg atP
   have lt_atQ := GHeap.ltg atQ
   replace hin := d.mono a0
   have a3 : Cat.At _ g5 0 c p := ⟨Mem.of_get m, hin⟩
   refine f9 _ _ ?_
   refine .forget b7 ?_
   refine .seq (fun K9 g4 => .region (.mv rfl (.nil (g4 _ _ ?_))))
   refine .block ?_
   have hl0 : a6 = (slsL rr (c.sqP s row3 z 0 0)).length := by rw [Cat.sqP_zero]; assumption
   refine .loopR (σ := Nat × (Nat → Option Addr) × Nat × Nat) [(1, some _), (2, some _), (3, some _), (4, some _), (5, some _), (12, some _), (13, some _), (14, some _)] (fun (i, r2, g, n) => [(15, some (.int .i64 (i : Int))), (11, some (.slice (some ⟨g, 0, none⟩) n n))]) (fun (i, r2, g, n) H' => St [a2] d4 H' ∧ H'.get g = some (.row ((slsL r2 (c.sqP s row3 z i 0))) 22 true) ∧ (g = a2 ∨ d4.next ≤ g) ∧ n = (slsL r2 (c.sqP s row3 z i 0)).length ∧ i ≤ (c.hom z s.x).length ∧ OwnL H.next H' 2 r2 (c.sqP s row3 z i 0)) (fun (i, r2, g, n) => (c.hom z s.x).length - i) ((0, rr, _, _)) ⟨rfl, rfl, rfl, rfl, rfl, rfl, rfl, rfl, trivial⟩ ⟨rfl, rfl, trivial⟩ ?_ ?_
   ·
    refine ⟨.refl _ _, by first | assumption | (rw [Cat.sqP_zero]; assumption), .inl rfl, by first | rfl | assumption | simp | omega, ?_⟩
    exact ⟨by omega, by rw [Cat.sqP_zero]; exact hR.keep (.of_le a9)⟩
   rintro ⟨i, r2, g, n⟩ HL2 ⟨a5, a8, pl_L11v2, ln_L11v2, hI⟩ KL2 f2
   refine .forget (fr' := [(15, some (.int .i64 (i : Int))), (11, some (.slice (some ⟨g, 0, none⟩) n n)), (1, some _), (2, some _), (3, some _), (4, some _), (5, some _), (12, some _), (13, some _), (14, some _)]) ⟨rfl, rfl, rfl, rfl, rfl, rfl, rfl, rfl, rfl, rfl, trivial⟩ ?_
   have ge_L11v2 : H.next ≤ g := by omega
   have nx_HL2 := a5.nx
   replace a0 := a0.st a5 (fun k hk => ⟨by omega, trivial⟩)
   replace a7 := a7.sA a5
   replace m := a5.s m
   replace atP := a5.s atP
   replace atQ := a5.s atQ
   replace hin := d.mono a0
   clear a3
   have a3 : Cat.At _ g5 0 c p := ⟨Mem.of_get m, hin⟩
   obtain ⟨hi, hR⟩ := hI
   refine .seq (fun K10 e9 => .seq (fun K11 e6 => .region (.mv rfl (.mv rfl (.q rfl (.len sl_22_A rfl) (.q rfl (.cmp rfl rfl rfl) (.nil (e6 _ _ ?_))))))))
   refine .cond rfl (fun e8 => ?_) (fun e8 => ?_)
   ·
    simp only [sps] at e8
    obtain ⟨u, u1, u2, -, u4⟩ := Cat.hom_get (c := c) (x := z) (y := s.x) (i := i) (by omega)
    refine .skip ?_
    refine e9 _ _ (.seq (fun K12 e3 => ?_))
    refine .block ?_
    refine .seq (fun K13 e1 => .region (.mv rfl (.nil (e1 _ _ ?_))))
    refine .block ?_
    refine .loopR (σ := Nat × (Nat → Option Addr) × Nat × Nat) [(1, some _), (2, some _), (3, some _), (4, some _), (5, some _), (12, some _), (13, some _), (14, some _), (15, some _)] (fun (t, r3, j, w) => [(16, some (.int .i64 (t : Int))), (11, some (.slice (some ⟨j, 0, none⟩) w w))]) (fun (t, r3, j, w) H' => St [g] HL2 H' ∧ H'.get j = some (.row ((slsL r3 (c.sqP s row3 z i t))) 22 true) ∧ (j = g ∨ HL2.next ≤ j) ∧ w = (slsL r3 (c.sqP s row3 z i t)).length ∧ t ≤ (c.hom z s.y).length ∧ OwnL H.next H' 2 r3 (c.sqP s row3 z i t)) (fun (t, r3, j, w) => (c.hom z s.y).length - t) ((0, r2, _, _)) ⟨rfl, rfl, rfl, rfl, rfl, rfl, rfl, rfl, rfl, trivial⟩ ⟨rfl, rfl, trivial⟩ ?_ ?_
    ·
     refine ⟨.refl _ _, by first | assumption | exact a8 | simpa using a8, .inl rfl, by first | rfl | assumption | simp | omega, ?_⟩
     exact ⟨by omega, hR⟩
    rintro ⟨t, r3, j, w⟩ HL3 ⟨a1, l, pl_L11v3, ln_L11v3, hI⟩ KL3 d3
    refine .forget (fr' := [(16, some (.int .i64 (t : Int))), (11, some (.slice (some ⟨j, 0, none⟩) w w)), (1, some _), (2, some _), (3, some _), (4, some _), (5, some _), (12, some _), (13, some _), (14, some _), (15, some _)]) ⟨rfl, rfl, rfl, rfl, rfl, rfl, rfl, rfl, rfl, rfl, rfl, trivial⟩ ?_
    have ge_L11v3 : H.next ≤ j := by omega
    have nx_HL3 := a1.nx
    replace a0 := a0.st a1 (fun k hk => ⟨by omega, trivial⟩)
    replace a5 := a5.sA a1
    replace m := a1.s m
    replace atP := a1.s atP
    replace atQ := a1.s atQ
    have lt_at_L11v3 := GHeap.ltg l
    replace hin := d.mono a0
    clear a3
    have a3 : Cat.At _ g5 0 c p := ⟨Mem.of_get m, hin⟩
    have c7 := a3.2
    have rk := St.refl [j] HL3
    obtain ⟨hk, hR⟩ := hI
    have d5 := l
    have hfl : (slsL r3 (c.sqP s row3 z i t)).length = (c.sqP s row3 z i t).length := length_slsL _ _
    have hln := Cat.sqP_bound hS s row3 (z := z) (i := i) (k := t) (by omega) (by omega)
    refine .seq (fun K14 d8 => .seq (fun K15 e0 => .region (.mv rfl (.mv rfl (.q rfl (.len sl_22_A rfl) (.q rfl (.cmp rfl rfl rfl) (.nil (e0 _ _ ?_))))))))
    refine .cond rfl (fun f1 => ?_) (fun f1 => ?_)
    ·
     simp only [sps] at f1
     obtain ⟨v, v1, v2, -, v4⟩ := Cat.hom_get (c := c) (x := z) (y := s.y) (i := t) (by omega)
     have hfit := hf z ((c.hom z s.x).getD i 0) ((c.hom z s.y).getD t 0) (getD_mem_list (by omega)) (getD_mem_list (by omega))
     refine .skip ?_
     refine d8 _ _ (.seq (fun K16 d2 => ?_))
     refine .block ?_
     refine .seq (fun K17 f0 => ?_)
     refine .regionD mo_B (.q 0 (.q 1 (.q 2 (.q 3 (.q 4 (.q 5 (.q 6 (.q 7 (.q 8 (.q 10 (.q 11 (.q 12 (.q 13 (.q 14 (.q 15 (.c 9 1 (.c 16 0 (.q 17 (.q 18 (.done)))))))))))))))))))) (by kernel_rfl) ?_
     refine .cut [(1, some _), (2, some _), (3, some _), (4, some _), (5, some _), (11, some _), (12, some _), (13, some _), (14, some _), (15, some _), (16, some _), (38, some _), (39, some _), (40, some _), (41, some _)] ⟨rfl, rfl, rfl, rfl, rfl, rfl, rfl, rfl, rfl, rfl, rfl, rfl, rfl, rfl, rfl, trivial⟩ (fun rest fr' H' => ∃ e : Bool, Sub ((62, some (.bool e)) :: rest) fr' ∧ HL3 = H' ∧ e = s.fits ((c.hom z s.x).getD i 0) ((c.hom z s.y).getD t 0)) ?_ ?_
     ·
      refine .mv rfl rfl (.q rfl (.cmp rfl rfl rfl) (.mv rfl rfl ?_))
      refine .split (fun d1 => ?_) (fun d1 => ?_)
      ·
       simp only [sps] at d1
       refine .z rfl (.z rfl (.z rfl (.z rfl (.z rfl (.z rfl (.z rfl (.z rfl (.z rfl (.z rfl (.z rfl (.z rfl (.sgc rfl rfl rfl rfl rfl rfl (.sgc rfl rfl rfl rfl rfl rfl (.z rfl (.q rfl (.pickT rfl rfl) ?_)))))))))))))))
       refine .done ?_
       refine ⟨_, ⟨rfl, rfl, rfl, rfl, rfl, rfl, rfl, rfl, rfl, rfl, rfl, rfl, rfl, rfl, rfl, rfl, trivial⟩, rfl, ?_⟩
       rw [hfit, decide_eq_true (by simpa only [sps] using d1), Bool.true_or]
      simp only [sps] at d1
      have hr1 := hr (by omega)
      refine .qg rfl (.loadM ag_29_D rfl ⟨rfl, Mem.of_get m⟩) ?_
      refine .qg rfl (.move rfl) (.qg rfl (.move rfl) ?_)
      refine .qg rfl (.idxN sl_22_A (by first | assumption | exact SlA.of_row atP (by first | rfl | (simp; done) | (simp <;> omega))) rfl rfl (by omega)) ?_
      refine .qg rfl (.loadI on_2_A (by first | assumption | exact Ints.of_get atP) rfl (by omega)) ?_
      refine .qg rfl (.move rfl) ?_
      refine .qg rfl (.loadM ag_29_D rfl ⟨rfl, Mem.of_get m⟩) ?_
      refine .qg rfl (.move rfl) (.qg rfl (.move rfl) ?_)
      refine .qg rfl (.idxN sl_22_A (by first | assumption | exact SlA.of_row atQ (by first | rfl | (simp; done) | (simp <;> omega))) rfl rfl (by omega)) ?_
      refine .qg rfl (.loadI on_2_A (by first | assumption | exact Ints.of_get atQ) rfl (by omega)) ?_
      refine .qg rfl (.move rfl) ?_
      refine .callQ1g rfl rfl rfl rfl rfl rfl rfl @Try.call129 rfl (l02Then_c) (.refl _) ?_
      refine .callQ0g rfl rfl rfl rfl rfl rfl rfl @Try.call129 rfl (l02Then_c) ?_
      refine .qg rfl (.cmp rfl rfl rfl) (.q rfl (.pickF rfl rfl) ?_)
      refine .done ?_
      refine ⟨_, ⟨rfl, rfl, rfl, rfl, rfl, rfl, rfl, rfl, rfl, rfl, rfl, rfl, rfl, rfl, rfl, rfl, trivial⟩, rfl, ?_⟩
      rw [hfit, decide_eq_false (by simpa only [sps] using d1), Bool.false_or]; rfl
     rintro frJ12 _ ⟨e, b6, rfl, c8⟩
     refine f0 _ _ ?_
     refine .forget b6 ?_
     refine .cond rfl (fun e7 => ?_) (fun e7 => ?_)
     ·
      have hT := c8.symm.trans e7
      have hTT := Cat.sqP_T (f := row3) (by omega) hT
      refine .regionD mo_B (.q 0 (.q 1 (.q 2 (.q 3 (.q 4 (.q 5 (.q 6 (.q 7 (.q 8 (.q 9 (.c 10 1 (.c 11 1 (.c 12 0 (.c 13 0 (.done))))))))))))))) (by kernel_rfl) ?_
      refine .mv rfl rfl (.mv rfl rfl (.mv rfl rfl (.mv rfl rfl ?_)))
      refine .q rfl (.idxN sl_22_A (by first | assumption | exact SlA.of_row atP (by first | rfl | (simp; done) | (simp <;> omega))) rfl rfl (by omega)) ?_
      refine .q rfl (.loadI on_2_A (by first | assumption | exact Ints.of_get atP) rfl (by omega)) ?_
      refine .mv rfl rfl (.mv rfl rfl ?_)
      refine .q rfl (.idxN sl_22_A (by first | assumption | exact SlA.of_row atQ (by first | rfl | (simp; done) | (simp <;> omega))) rfl rfl (by omega)) ?_
      refine .q rfl (.loadI on_2_A (by first | assumption | exact Ints.of_get atQ) rfl (by omega)) ?_
      refine .c1 rfl rfl rfl rfl (.litA rfl sl_22_A ze_2_L rfl rfl rfl rfl) ?_
      rintro _ H73 ⟨f5, rfl, b2, ge73, b4⟩
      have c5 := b2
      refine ⟨c5, ?_⟩
      replace a0 := a0.trans b2
      replace a1 := a1.le b2
      replace rk := rk.le b2
      replace m := b2.2 _ _ m
      replace l := b2.2 _ _ l
      have lt_at73 := GHeap.ltg b4
      replace hin := d.mono a0
      clear a3 c7
      have a3 : Cat.At _ g5 0 c p := ⟨Mem.of_get m, hin⟩
      refine .c1 rfl rfl rfl rfl (.litA rfl sl_23_B ze_22_Hj rfl rfl rfl rfl) ?_
      rintro _ H74 ⟨g74, rfl, b0, ge74, d7⟩
      replace c5 := c5.trans b0
      refine ⟨c5, ?_⟩
      replace a0 := a0.trans b0
      replace a1 := a1.le b0
      replace rk := rk.le b0
      replace m := b0.2 _ _ m
      replace l := b0.2 _ _ l
      replace b4 := b0.2 _ _ b4
      have lt_at74 := GHeap.ltg d7
      replace hin := d.mono a0
      clear a3
      have a3 : Cat.At _ g5 0 c p := ⟨Mem.of_get m, hin⟩
      refine .c0 rfl rfl rfl rfl (.appendV rfl sl_23_B ze_22_Hj rfl by_22_Hj sl_23_B rfl rfl (by assumption) (by assumption) (by first | omega | (simp <;> omega)) rfl rfl (by omega) (by omega)) ?_
      rintro _ f4 ⟨f7, rfl, b3, ge75, d9⟩
      replace a0 := a0.st b3 (fun k hk => ⟨by omega, trivial⟩)
      replace a1 := a1.sA b3
      replace rk := rk.sA b3
      replace m := b3.s m
      replace b4 := b3.s b4
      replace hin := d.mono a0
      clear a3
      have a3 : Cat.At _ g5 0 c p := ⟨Mem.of_get m, hin⟩
      obtain ⟨rN, hrN⟩ : ∃ r, r = upd r3 (c.sqP s row3 z i t).length (some ⟨f5, 0, none⟩) := ⟨_, rfl⟩
      have hRN : OwnL H.next f4 2 rN (c.sqP s row3 z i (t + 1)) := by rw [hTT, hrN]; exact hR.snoc (x := row3 z ((c.hom z s.x).getD i 0, (c.hom z s.y).getD t 0)) (rk.lasts1 d5 rfl) (by assumption) (by omega) (by omega)
      have hsN := slsL_snoc (r := r3) (xss := c.sqP s row3 z i t) (x := row3 z ((c.hom z s.x).getD i 0, (c.hom z s.y).getD t 0)) (a := some ⟨f5, 0, none⟩)
      rw [← hrN, ← hTT] at hsN
      have at75' : GHeap.get f4 f7 = some (.row (slsL rN (c.sqP s row3 z i (t + 1))) 22 true) := by rw [hsN]; exact d9
      have hfN : (slsL rN (c.sqP s row3 z i (t + 1))).length = (slsL r3 (c.sqP s row3 z i t)).length + 1 := by rw [hsN, List.length_append]; rfl
      refine .d0 rfl rfl rfl rfl (.quiet (.assign rfl) CIs.mk) ?_
      refine .done ?_
      refine d2 _ _ (.region (.mv rfl ?_))
      refine .q rfl (.add rfl rfl rfl (by omega) (by omega)) ?_
      refine .mv rfl (.nil ?_)
      refine d3 ((t + 1, rN, _, _)) _ _ ?_ ?_ ⟨rfl, rfl, rfl, rfl, rfl, rfl, rfl, rfl, rfl, rfl, rfl, trivial⟩
      ·
       refine ⟨a1, by first | assumption | (rw [hsN]; assumption), by omega, by first | omega | (simp only [List.length_append, List.length_cons, List.length_nil] <;> omega) | (rw [hsN] <;> (first | omega | (simp only [List.length_append, List.length_cons, List.length_nil] <;> omega))), ?_⟩
       exact ⟨by omega, hRN⟩
      (dsimp only; omega)
     have hF := c8.symm.trans e7
     have hFF := Cat.sqP_F (f := row3) (by omega) hF
     obtain ⟨rN, hrN⟩ : ∃ r, r = r3 := ⟨_, rfl⟩
     have hRN : OwnL H.next HL3 2 rN (c.sqP s row3 z i (t + 1)) := by rw [hrN, hFF]; exact hR
     have hsN : slsL rN (c.sqP s row3 z i (t + 1)) = slsL r3 (c.sqP s row3 z i t) := by rw [hrN, hFF]
     have hfN : (slsL rN (c.sqP s row3 z i (t + 1))).length = (slsL r3 (c.sqP s row3 z i t)).length := by rw [hsN]
     refine .skip ?_
     refine d2 _ _ (.region (.mv rfl ?_))
     refine .q rfl (.add rfl rfl rfl (by omega) (by omega)) ?_
     refine .mv rfl (.nil ?_)
     refine d3 ((t + 1, rN, _, _)) _ _ ?_ ?_ ⟨rfl, rfl, rfl, rfl, rfl, rfl, rfl, rfl, rfl, rfl, rfl, trivial⟩
     ·
      refine ⟨a1, by first | assumption | (rw [hsN]; assumption), by omega, by first | omega | (simp only [List.length_append, List.length_cons, List.length_nil] <;> omega) | (rw [hsN] <;> (first | omega | (simp only [List.length_append, List.length_cons, List.length_nil] <;> omega))), ?_⟩
      exact ⟨by omega, hRN⟩
     (dsimp only; omega)
    try simp only [sps] at f1
    refine .exit ?_
    refine e3 _ _ (.region (.mv rfl ?_))
    refine .q rfl (.add rfl rfl rfl (by omega) (by omega)) ?_
    refine .mv rfl (.nil ?_)
    obtain rfl : t = (c.hom z s.y).length := by omega
    refine f2 ((i + 1, r3, _, _)) _ _ ?_ ?_ ⟨rfl, rfl, rfl, rfl, rfl, rfl, rfl, rfl, rfl, rfl, trivial⟩
    ·
     refine ⟨a5, by first | assumption | (rw [Cat.sqP_next ha (by omega)]; assumption), by omega, by first | omega | (simp only [List.length_append, List.length_cons, List.length_nil] <;> omega) | (rw [Cat.sqP_next ha (by omega)] <;> (first | omega | (simp only [List.length_append, List.length_cons, List.length_nil] <;> omega))), ?_⟩
     exact ⟨by omega, by rw [Cat.sqP_next ha (by omega)]; exact hR⟩
    (dsimp only; omega)
   try simp only [sps] at e8
   refine .exit ?_
   refine f8 _ _ (.region (.mv rfl ?_))
   refine .q rfl (.add rfl rfl rfl (by omega) (by omega)) ?_
   refine .mv rfl (.nil ?_)
   obtain rfl : i = (c.hom z s.x).length := by omega
   refine e4 ((z + 1, r2, _, _)) _ _ ?_ ?_ ⟨rfl, rfl, rfl, rfl, rfl, rfl, rfl, trivial⟩
   ·
    refine ⟨a7, by first | assumption | (rw [← Cat.sqP_end]; assumption), by omega, by first | omega | (simp only [List.length_append, List.length_cons, List.length_nil] <;> omega) | (rw [← Cat.sqP_end] <;> (first | omega | (simp only [List.length_append, List.length_cons, List.length_nil] <;> omega))), ?_⟩
    exact ⟨by omega, by rw [← Cat.sqP_end]; exact hR⟩
   (dsimp only; omega)
  try simp only [sps] at e2
  refine .exit ?_
  refine g7 _ _ (.seq (fun K18 e5 => .region (.mv rfl (.mv rfl (.nil (e5 _ _ ?_))))))
  refine .ret ?_
  refine d6 _ _ ?_
  refine ⟨_, rfl, ?_⟩
  obtain rfl : z = c.obj.toNat := by omega
  rw [Cat.sqL_eq]
  exact ⟨a0, _, rr, by rw [c4, length_slsL], hR.done a4 (by omega)⟩
theorem l13Product_c {c : Cat} {p : CatP} {x y : Int} {H : GHeap} (hin : c.In H p := by assumption) (hS : c.Shape := by assumption) :
    GCalls Try.prog 59 [.agg (c.cells p).toArray, .int .i64 x, .int .i64 y] H (fun v H' => H.Le H' ∧ ∃ a, v = .slice a (c.fstL (.prod x y)).length (c.fstL (.prod x y)).length ∧ Ints H' a (c.fstL (.prod x y))) := by
  have hob := hS.obj
  refine GCalls.body (N := 13) (rs := [.tmp 6]) Try.func59 rfl rfl rfl rfl (fun Qx i hend => ?_)
  refine .fg [0, 1, 2] rfl ?_
  have d := GHeap.Le.refl H
  have b := hin
  refine .seq (fun K1 r => .region ?_)
  refine .R rfl (.boxR rfl sz_29_D rfl) ?_
  rintro _ H3 ⟨g3, rfl, t, ge3, e⟩
  replace d := d.trans t
  replace hin := b.mono d
  have g : Cat.At _ g3 0 c p := ⟨Mem.of_get e, hin⟩
  have j := g.2
  refine .mv rfl (.nil (r _ _ (.seq (fun K2 l => ?_))))
  refine .regionD mo_B (.q 0 (.q 1 (.q 2 (.q 3 (.c 4 1 (.c 5 0 (.q 6 (.done)))))))) (by kernel_rfl) ?_
  refine .q rfl (.loadM ag_29_D rfl ⟨rfl, Mem.of_get e⟩) ?_
  refine .q rfl (.loadM ag_29_D rfl ⟨rfl, Mem.of_get e⟩) ?_
  refine .mv rfl rfl (.mv rfl rfl ?_)
  refine .call1 rfl rfl rfl rfl rfl @Try.call107 rfl (l13Squares_c (s := .prod x y) (ha := Bool.false_ne_true) (hr := by omega) (hf := fun _ _ _ _ _ => rfl)) ?_
  rintro _ H11 ⟨f, a11, r11, rfl, u⟩
  have o := f
  refine ⟨o, ?_⟩
  replace d := d.trans f
  replace e := f.2 _ _ e
  replace hin := b.mono d
  clear g j
  have g : Cat.At _ g3 0 c p := ⟨Mem.of_get e, hin⟩
  have j := g.2
  have k := u.intss
  refine .call0 rfl rfl rfl rfl rfl @Try.call90 rfl (l13First_c (hL := k) (hl := by have := Cat.sqA_bound8 hS (.prod x y) row3 (z := c.obj.toNat) (by omega); rw [Cat.sqL_eq]; omega) (m := 3) (hm := by omega) (hr := Cat.sqL_ok Bool.false_ne_true)) ?_
  rintro _ H12 ⟨h, a12, rfl, n⟩
  replace d := d.trans h
  replace e := h.2 _ _ e
  replace hin := b.mono d
  clear g j
  have g : Cat.At _ g3 0 c p := ⟨Mem.of_get e, hin⟩
  clear k
  refine .mv rfl rfl ?_
  refine .done ?_
  refine l _ _ ?_
  refine .ret ?_
  refine i _ _ ?_
  refine ⟨_, rfl, ?_⟩
  exact ⟨d, _, rfl, n⟩
end Go.Proofs.Ytjdedelneppnlaa
