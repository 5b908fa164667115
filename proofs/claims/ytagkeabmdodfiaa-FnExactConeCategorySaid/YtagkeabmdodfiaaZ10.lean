/- Searches that tell a function of each list they find. No condition. -/
import Derived.Test.YtagkeabmdodfiaaZ9
namespace Go.GL
structure Hears (P : Program) (fn : Nat) (cap : Array Value) (e0 g1 most : Nat) (T : TypeId) (A : Nat → List (List Int) → Nat → GHeap → Prop) : Prop where
  code : ∀ (xs : Array Value) (w : World), (callFunc fn xs).run P w = .ok (.enter fn xs) w
  le : ∀ {b : Nat} {fs : List (List Int)} {gF : Nat} {H H' : GHeap}, A b fs gF H → H.Le H' → A b fs gF H'
  st : ∀ {b : Nat} {fs : List (List Int)} {gF gc : Nat} {H H' : GHeap}, A b fs gF H → e0 ≤ gc → gc < b → gc ≠ gF → St [gc] H H' → A b fs gF H'
  run : ∀ {b : Nat} {fs : List (List Int)} {gF gc : Nat} {q : List Int} {H : GHeap}, A b fs gF H → e0 ≤ gc → gc < b → gc ≠ gF → b ≤ H.next → H.get gc = some (.row (ints q) T true) → fs.length ≤ most → q.length ≤ 8 → gF < H.next →
    GCalls P fn ([.slice (some ⟨gc, 0, none⟩) q.length q.length] ++ cap.toList) H (fun v H' => v = .bool (decide (fs.length + 1 ≤ most)) ∧ ∃ gF', (gF' = gF ∨ H.next ≤ gF') ∧ gF' < H'.next ∧ St [g1, gF] H H' ∧ A b (fs ++ [q]) gF' H')
def Net.okAt (n : Net) (q : List Int) (x a : Nat) : Bool := !(max (n.sr a) (n.tg a) == x) || n.sq a (q.getD (n.sr a) 0) (q.getD (n.tg a) 0)
theorem Net.ok_eq (n : Net) (x : Nat) (q : List Int) : n.ok x q = allN n.A (n.okAt q x) := rfl
theorem Net.okAt_1 {n : Net} {q : List Int} {x a : Nat} (h : ¬ max (n.sr a) (n.tg a) = x) : n.okAt q x a = true := by simp [okAt, h]
theorem Net.okAt_2 {n : Net} {q : List Int} {x a : Nat} (h : max (n.sr a) (n.tg a) = x) : n.okAt q x a = n.sq a (q.getD (n.sr a) 0) (q.getD (n.tg a) 0) := by simp [okAt, h]
def chG (n : Net) (al : Int → Bool) (r : Nat) (p : List Int) (h : Int) : List (List Int) := bif al h then (bif n.ok p.length (p ++ [h]) then searchL n.cand n.ok r (p ++ [h]) else []) else []
theorem filter_flatMap {α β : Type} {l : List α} {P : α → Bool} {G : α → List β} : (l.filter P).flatMap G = l.flatMap fun h => bif P h then G h else [] := by
  induction l with
  | nil => rfl
  | cons a l ih =>
    rw [List.filter_cons, List.flatMap_cons, ← ih]
    cases P a <;> simp
theorem searchL_succ {n : Net} {hs : List Int} {al : Int → Bool} {r : Nat} {p : List Int} (h : n.cand p.length = hs.filter al) : searchL n.cand n.ok (r + 1) p = hs.flatMap (chG n al r p) := by
  conv => lhs; unfold searchL
  rw [h, filter_flatMap]
  rfl
theorem flatMap_snoc {α β : Type} {C : List α} {G : α → List β} {k : Nat} {d : α} (hk : k < C.length) : (C.take (k + 1)).flatMap G = (C.take k).flatMap G ++ G (C.getD k d) := by
  rw [List.take_add_one, List.getElem?_eq_getElem hk, List.flatMap_append, List.getD_eq_getElem?_getD, List.getElem?_eq_getElem hk]
  simp
theorem take_set_getD {co : List Int} {x i : Nat} {h : Int} (hx : x < co.length) (hi : i ≤ x) : (co.set x h).getD i 0 = (co.take x ++ [h]).getD i 0 := by
  rw [getD_set hx]
  by_cases e : i = x
  · subst e
    rw [if_pos rfl, List.getD_eq_getElem?_getD, List.getElem?_append_right (by rw [List.length_take]; omega), List.length_take]
    rw [show i - min i co.length = 0 by omega]; rfl
  · rw [if_neg e, getD_app_left (by rw [List.length_take]; omega), getD_take (by omega)]
theorem take_set_lt {co : List Int} {x : Nat} {h : Int} : (co.set x h).take x = co.take x := by
  apply List.ext_getElem?
  intro i
  by_cases hi : i < x
  · rw [List.getElem?_take_of_lt hi, List.getElem?_take_of_lt hi, List.getElem?_set_ne (by omega)]
  · rw [List.getElem?_eq_none (by rw [List.length_take]; omega), List.getElem?_eq_none (by rw [List.length_take]; omega)]
theorem take_set_succ {co : List Int} {x : Nat} {h : Int} (hx : x < co.length) : (co.set x h).take (x + 1) = co.take x ++ [h] := by
  rw [List.take_succ_eq_append_getElem (by simpa using hx), take_set_lt]
  simp
theorem take_le_eq {co co' : List Int} {x y : Nat} (h : co'.take y = co.take y) (hx : x ≤ y) : co'.take x = co.take x := by
  have := congrArg (List.take x) h
  rwa [List.take_take, List.take_take, show min x y = x by omega] at this
theorem takeD {co co' : List Int} {x i : Nat} (h : co'.take x = co.take x) (hi : i < x) : co'.getD i 0 = co.getD i 0 := by
  rw [← getD_take hi, h, getD_take hi]
def chP (n : Net) (al : Int → Bool) (r : Nat) (p : List Int) (hs : List Int) (j : Nat) : List (List Int) := (hs.take j).flatMap (chG n al r p)
theorem chP_zero (n : Net) (al : Int → Bool) (r : Nat) (p hs : List Int) : chP n al r p hs 0 = [] := by simp [chP]
theorem chP_succ {n : Net} {al : Int → Bool} {r : Nat} {p hs : List Int} {j : Nat} (h : j < hs.length) : chP n al r p hs (j + 1) = chP n al r p hs j ++ chG n al r p (hs.getD j 0) := flatMap_snoc h
theorem chP_no {n : Net} {al : Int → Bool} {r : Nat} {p hs : List Int} {j : Nat} (h : j < hs.length) (h0 : chG n al r p (hs.getD j 0) = []) : chP n al r p hs (j + 1) = chP n al r p hs j := by rw [chP_succ h, h0, List.append_nil]
theorem chG_bad {n : Net} {al : Int → Bool} {r : Nat} {p : List Int} {h : Int} (h0 : n.ok p.length (p ++ [h]) = false) : chG n al r p h = [] := by unfold chG; rw [h0]; cases al h <;> rfl
theorem chG_yes {n : Net} {al : Int → Bool} {r : Nat} {p : List Int} {h : Int} (h0 : al h = true) (h1 : n.ok p.length (p ++ [h]) = true) : chG n al r p h = searchL n.cand n.ok r (p ++ [h]) := by unfold chG; rw [h0, h1]; rfl
theorem chP_all {n : Net} {al : Int → Bool} {r : Nat} {p hs : List Int} (h : n.cand p.length = hs.filter al) : searchL n.cand n.ok (r + 1) p = chP n al r p hs hs.length := by unfold chP; rw [List.take_length, searchL_succ h]
theorem chP_full {n : Net} {al : Int → Bool} {r M : Nat} {p hs : List Int} {fs : List (List Int)} {j : Nat} (h : n.cand p.length = hs.filter al) (hj : j < hs.length) (hM : M ≤ (fs ++ chP n al r p hs (j + 1)).length) :
    (fs ++ searchL n.cand n.ok (r + 1) p).take M = (fs ++ chP n al r p hs (j + 1)).take M ∧ M ≤ fs.length + (searchL n.cand n.ok (r + 1) p).length := by
  have e : searchL n.cand n.ok (r + 1) p = chP n al r p hs (j + 1) ++ (hs.drop (j + 1)).flatMap (chG n al r p) := by
    rw [searchL_succ h]
    unfold chP
    rw [← List.flatMap_append, List.take_append_drop]
  rw [List.length_append] at hM
  rw [e, ← List.append_assoc, List.take_append_of_le_length (by rw [List.length_append]; exact hM), List.length_append]
  exact ⟨rfl, by omega⟩
theorem bnot_T {b : Bool} (h : (!b) = true) : b = false := by cases b <;> simp_all
theorem bnot_f {b : Bool} (h : (!b) = false) : b = true := by cases b <;> simp_all
end Go.GL
namespace Go.GL
structure GathL (T1 T2 e : TypeId) (go gm most : Nat) (Tm : TypeId) (b : Nat) (fs : List (List Int)) (gF : Nat) (H : GHeap) : Prop where
  hd : H.get go = some (.row [.slice (some ⟨gF, 0, none⟩) fs.length fs.length] T1 true)
  most : H.get gm = some (.row [.int .i64 (most : Int)] Tm true)
  rows : ∃ r, H.get gF = some (.row (slsL r fs) T2 true) ∧ OwnL b H e r fs
theorem GathL.le {T1 T2 e : TypeId} {go gm most : Nat} {Tm : TypeId} {b : Nat} {fs : List (List Int)} {gF : Nat} {H H' : GHeap} (h : GathL T1 T2 e go gm most Tm b fs gF H) (s : H.Le H') : GathL T1 T2 e go gm most Tm b fs gF H' := by
  obtain ⟨r, h1, h2⟩ := h.rows
  exact ⟨s.2 _ _ h.hd, s.2 _ _ h.most, r, s.2 _ _ h1, h2.mono s⟩
theorem GathL.st {T1 T2 e : TypeId} {go gm most : Nat} {Tm : TypeId} {b : Nat} {fs : List (List Int)} {gF gc : Nat} {H H' : GHeap} (h : GathL T1 T2 e go gm most Tm b fs gF H) (s : St [gc] H H') (h1 : go ≠ gc) (h2 : gm ≠ gc) (h3 : gc ≠ gF) (h4 : gc < b) : GathL T1 T2 e go gm most Tm b fs gF H' := by
  obtain ⟨r, k1, k2⟩ := h.rows
  exact ⟨s.same _ _ ⟨h1, trivial⟩ h.hd, s.same _ _ ⟨h2, trivial⟩ h.most, r, s.same _ _ ⟨Ne.symm h3, trivial⟩ k1, k2.st s (.cons (k2.lowNe h4) (.nil _ _))⟩
theorem row_ne {H : GHeap} {g g' : Nat} {cs cs' : List Value} {e e' : TypeId} (h : H.get g = some (.row cs e true)) (h' : H.get g' = some (.row cs' e' true)) (hne : (e != e') = true) : g ≠ g' := fun ei => by
  subst ei
  rw [h] at h'
  cases h'
  simp at hne
structure GathI (T e : TypeId) (go : Nat) (b : Nat) (fs : List (List Int)) (gF : Nat) (H : GHeap) : Prop where
  ex : ∃ x, (fs = [] ∧ x = [] ∨ fs = [x]) ∧ H.get go = some (.row [.slice (some ⟨gF, 0, none⟩) x.length x.length] T true) ∧ H.get gF = some (.row (ints x) e true)
theorem GathI.le {T e : TypeId} {go b : Nat} {fs : List (List Int)} {gF : Nat} {H H' : GHeap} (h : GathI T e go b fs gF H) (s : H.Le H') : GathI T e go b fs gF H' := by
  obtain ⟨x, h1, h2, h3⟩ := h.ex
  exact ⟨x, h1, s.2 _ _ h2, s.2 _ _ h3⟩
theorem GathI.st {T e : TypeId} {go b : Nat} {fs : List (List Int)} {gF gc : Nat} {H H' : GHeap} (h : GathI T e go b fs gF H) (s : St [gc] H H') (h1 : go ≠ gc) (h3 : gc ≠ gF) : GathI T e go b fs gF H' := by
  obtain ⟨x, k1, k2, k3⟩ := h.ex
  exact ⟨x, k1, s.same _ _ ⟨h1, trivial⟩ k2, s.same _ _ ⟨Ne.symm h3, trivial⟩ k3⟩
end Go.GL
namespace Go.GL
def Fun.cnet (d : Fun) (w : Int) : Net where
  cand j := d.t.hom w (d.ob.getD j 0)
  A := d.ar.length
  sr a := (d.s.src.getD a 0).toNat
  tg a := (d.s.tgt.getD a 0).toNat
  sq a u v := decide (d.t.th u (d.ar.getD a 0) = v)
theorem cnet_ne {d : Fun} {w : Int} {a : Nat} {q q' : List Int} (h1 : q.getD (d.s.src.getD a 0).toNat 0 = q'.getD (d.s.src.getD a 0).toNat 0) (h2 : q.getD (d.s.tgt.getD a 0).toNat 0 = q'.getD (d.s.tgt.getD a 0).toNat 0) :
    (!decide (d.t.th (q.getD (d.s.src.getD a 0).toNat 0) (d.ar.getD a 0) = q.getD (d.s.tgt.getD a 0).toNat 0)) = !((d.cnet w).sq a (q'.getD ((d.cnet w).sr a) 0) (q'.getD ((d.cnet w).tg a) 0)) := by
  rw [h1, h2]; rfl
end Go.GL
namespace Go.GL
def Con.z : Con := ⟨0, []⟩
def conV (r : Nat → Option Addr) (cs : List Con) : List Value := (List.range cs.length).flatMap fun i => (cs.getD i .z).cells ⟨r i⟩
theorem conV_snoc {r : Nat → Option Addr} {cs : List Con} {c : Con} {a : Option Addr} : conV (upd r cs.length a) (cs ++ [c]) = conV r cs ++ c.cells ⟨a⟩ := by
  unfold conV
  rw [List.length_append, List.length_singleton, List.range_succ, List.flatMap_append]
  congr 1
  · refine flatMap_congr' fun i hi => ?_
    have := List.mem_range.1 hi
    rw [getD_snoc, if_pos this, upd_ne (by omega)]
  · simp only [List.flatMap_cons, List.flatMap_nil, List.append_nil]
    rw [getD_snoc, if_neg (by omega), if_pos rfl, upd_eq]
@[simp] theorem length_conV (r : Nat → Option Addr) (cs : List Con) : (conV r cs).length = cs.length * 2 := by
  unfold conV
  generalize cs.length = n
  induction n with
  | zero => rfl
  | succ n ih => rw [List.range_succ, List.flatMap_append, List.length_append, ih]; simp [Con.cells]; omega
structure ConsAt (T e : TypeId) (b0 : Nat) (H : GHeap) (g : Nat) (r : Nat → Option Addr) (cs : List Con) : Prop where
  hd : H.get g = some (.row (conV r cs) T true)
  rows : OwnL b0 H e r (cs.map Con.lg)
structure GathC (T1 T2 Tx e : TypeId) (go gx b0 e0 : Nat) (x : Int) (pre : List Con) (b : Nat) (fs : List (List Int)) (gF : Nat) (H : GHeap) : Prop where
  hd : H.get go = some (.row [.slice (some ⟨gF, 0, none⟩) (pre ++ fs.map fun l => (⟨x, l⟩ : Con)).length (pre ++ fs.map fun l => (⟨x, l⟩ : Con)).length] T1 true)
  ix : H.get gx = some (.row [.int .i64 x] Tx true)
  rows : ∃ r, H.get gF = some (.row (conV r (pre ++ fs.map fun l => (⟨x, l⟩ : Con))) T2 true) ∧ OwnL b0 H e r ((pre ++ fs.map fun l => (⟨x, l⟩ : Con)).map Con.lg) ∧ ∀ i, i < (pre ++ fs.map fun l => (⟨x, l⟩ : Con)).length → ∀ g, r i = some ⟨g, 0, none⟩ → g < e0 ∨ b ≤ g
theorem GathC.le {T1 T2 Tx e : TypeId} {go gx b0 e0 : Nat} {x : Int} {pre : List Con} {b : Nat} {fs : List (List Int)} {gF : Nat} {H H' : GHeap} (h : GathC T1 T2 Tx e go gx b0 e0 x pre b fs gF H) (s : H.Le H') : GathC T1 T2 Tx e go gx b0 e0 x pre b fs gF H' := by
  obtain ⟨r, h1, h2, h3⟩ := h.rows
  exact ⟨s.2 _ _ h.hd, s.2 _ _ h.ix, r, s.2 _ _ h1, h2.mono s, h3⟩
theorem GathC.st {T1 T2 Tx e : TypeId} {go gx b0 e0 : Nat} {x : Int} {pre : List Con} {b : Nat} {fs : List (List Int)} {gF gc : Nat} {H H' : GHeap} (h : GathC T1 T2 Tx e go gx b0 e0 x pre b fs gF H) (s : St [gc] H H') (h1 : go ≠ gc) (h2 : gx ≠ gc) (h3 : gc ≠ gF) (h4 : e0 ≤ gc) (h5 : gc < b) : GathC T1 T2 Tx e go gx b0 e0 x pre b fs gF H' := by
  obtain ⟨r, k1, k2, k3⟩ := h.rows
  refine ⟨s.same _ _ ⟨h1, trivial⟩ h.hd, s.same _ _ ⟨h2, trivial⟩ h.ix, r, s.same _ _ ⟨Ne.symm h3, trivial⟩ k1, k2.st s (.cons (fun i hi ei => ?_) (.nil _ _)), k3⟩
  rw [List.length_map] at hi
  have := k3 i hi gc ei
  omega
def Fun.coneL (d : Fun) (n : Nat) : List Con := (List.range n).flatMap fun (w : Nat) => ((d.cnet (w : Int)).sols d.ob.length).map fun l => (⟨(w : Int), l⟩ : Con)
theorem Fun.coneL_succ {d : Fun} {n : Nat} : d.coneL (n + 1) = d.coneL n ++ ((d.cnet (n : Int)).sols d.ob.length).map fun l => (⟨(n : Int), l⟩ : Con) := by
  unfold coneL; rw [List.range_succ, List.flatMap_append]; simp
theorem Fun.coneL_mono {d : Fun} {n m : Nat} (h : n ≤ m) : (d.coneL n).length ≤ (d.coneL m).length := by
  obtain ⟨k, rfl⟩ := Nat.le.dest h
  clear h
  induction k with
  | zero => exact Nat.le_refl _
  | succ k ih => rw [← Nat.add_assoc, Fun.coneL_succ, List.length_append]; omega
theorem Fun.coneL_big {d : Fun} {x n : Nat} (h : x < n) (hb : ¬ ((d.cnet (x : Int)).sols d.ob.length).length ≤ 400 - (d.coneL x).length) (hs : (d.coneL x).length ≤ 400) : 400 < (d.coneL n).length := by
  have h1 := Fun.coneL_mono (d := d) (n := x + 1) (m := n) h
  rw [Fun.coneL_succ, List.length_append, List.length_map] at h1
  omega
theorem Fun.coneL_next {d : Fun} {x : Nat} (hb : ((d.cnet (x : Int)).sols d.ob.length).length ≤ 400 - (d.coneL x).length) : d.coneL x ++ (([] ++ (d.cnet (x : Int)).sols d.ob.length).take (400 - (d.coneL x).length + 1)).map (fun l => (⟨(x : Int), l⟩ : Con)) = d.coneL (x + 1) := by
  rw [List.nil_append, List.take_of_length_le (by omega), Fun.coneL_succ]
theorem OwnL.side {b : Nat} {H : GHeap} {e : TypeId} {r : Nat → Option Addr} {cs : List Con} (h : OwnL b H e r (cs.map Con.lg)) : ∀ i, i < cs.length → ∀ g, r i = some ⟨g, 0, none⟩ → g < H.next := fun i hi g hg => by
  obtain ⟨x, h1, _, h3⟩ := h.row i (by rw [List.length_map]; exact hi)
  rw [h1] at hg
  cases hg
  exact GHeap.ltg h3
theorem take_snocZ {l : List (List Int)} {i : Nat} (h : i < l.length) : l.take (i + 1) = l.take i ++ [l.getD i []] := by
  rw [List.take_add_one, List.getElem?_eq_getElem h, List.getD_eq_getElem?_getD, List.getElem?_eq_getElem h]; rfl
def Fun.con (d : Fun) (y : Int) : Fun := ⟨d.s, d.t, List.replicate d.s.obj.toNat y, List.replicate d.s.src.length (d.t.idn.getD y.toNat 0)⟩
theorem repl_getD {n i : Nat} {v : Int} (h : i < n) : (List.replicate n v).getD i 0 = v := by
  rw [List.getD_eq_getElem?_getD, List.getElem?_replicate, if_pos h]; rfl
end Go.GL
namespace Go.Proofs.Ytagkeabmdodfiaa
open Go Go.GL Go.RowKit Go.Proofs
theorem bt_31_Hj : buildT Try.prog 31 = some ([.int .i64 0, .slice none 0 0, .slice none 0 0, .slice none 0 0, .slice none 0 0], [(0, 1), (1, 1), (2, 1), (3, 1), (4, 1)]) := by kernel_rfl
theorem bt_33_Hj : buildT Try.prog 33 = some ([.int .i64 0, .slice none 0 0, .slice none 0 0, .slice none 0 0, .slice none 0 0, .int .i64 0, .slice none 0 0, .slice none 0 0, .slice none 0 0, .slice none 0 0, .slice none 0 0, .slice none 0 0], [(0, 5), (5, 5), (10, 1), (11, 1)]) := by kernel_rfl
set_option maxHeartbeats 4000000 in
theorem l01Own2Z_c {a : Option Addr} {pss : List (List Int)} {r : Nat → Option Addr} {H : GHeap} (h : Intss H a pss r := by assumption) (hl : pss.length ≤ 1048576 := by omega) (hl2 : ∀ i, (pss.getD i []).length ≤ 1048576) :
    GCalls Try.prog 155 [.slice a pss.length pss.length] H (NewIntss H pss) := by
  refine GCalls.body (N := 21) (rs := [.tmp 2]) Try.func155 rfl rfl rfl rfl (fun Qx hret hend => ?_)
  refine .forget (fr' := [(0, some _)]) ⟨rfl, trivial⟩ ?_
  have hle := GHeap.Le.refl H
  have base_h := h
  refine .seq (fun K1 hK1 => .region (.mv rfl (.nil (hK1 _ _ (.seq (fun K2 hK2 => .region ?_))))))
  refine .r rfl rfl rfl (.litR rfl sl_23_B ze_22_E rfl rfl (by omega) (by omega) rfl rfl) ?_
  rintro _ H5 ⟨g5, rfl, le5, ge5, at5⟩
  replace hle := hle.trans le5
  have lt_at5 := GHeap.ltg at5
  refine .mv rfl (.nil (hK2 _ _ (.seq (fun K3 hK3 => .seq (fun K4 hK4 => .region (.mv rfl (.nil (hK4 _ _ ?_))))))))
  refine .block ?_
  refine .loopR (σ := Nat × (Nat → Option Addr) × Nat × Nat) [(0, some _)] (fun (i, rr, gL3, nL3) => [(4, some (.int .i64 (i : Int))), (3, some (.slice (some ⟨gL3, 0, none⟩) nL3 nL3))]) (fun (i, rr, gL3, nL3) H' => St [g5] H5 H' ∧ H'.get gL3 = some (.row ((slsL rr (pss.take i))) 22 true) ∧ (gL3 = g5 ∨ H5.next ≤ gL3) ∧ nL3 = (slsL rr (pss.take i)).length ∧ i ≤ pss.length ∧ OwnL H.next H' 2 rr (pss.take i)) (fun (i, rr, gL3, nL3) => pss.length - i) ((0, fun _ => none, _, _)) ⟨rfl, trivial⟩ ⟨rfl, rfl, trivial⟩ ?_ ?_
  ·
   refine ⟨.refl _ _, by assumption, .inl rfl, by rfl, ?_⟩
   exact ⟨by omega, .nil _ _ _ _⟩
  rintro ⟨i, rr, gL3, nL3⟩ HL1 ⟨lst1, at_L3, pl_L3, ln_L3, hI⟩ KL1 hKL1
  refine .forget (fr' := [(4, some (.int .i64 (i : Int))), (3, some (.slice (some ⟨gL3, 0, none⟩) nL3 nL3)), (0, some _)]) ⟨rfl, rfl, rfl, trivial⟩ ?_
  have ge_L3 : H.next ≤ gL3 := by omega
  have nx_HL1 := lst1.nx
  replace hle := hle.st lst1 (fun k hk => ⟨by omega, trivial⟩)
  have lt_at_L3 := GHeap.ltg at_L3
  replace h := base_h.mono hle
  have rk := St.refl [gL3] HL1
  obtain ⟨hi, hR⟩ := hI
  have hat3 := at_L3
  have htk : (pss.take i).length = i := by rw [List.length_take]; omega
  have hfl : (slsL rr (pss.take i)).length = (pss.take i).length := length_slsL _ _
  have hli := hl2 i
  refine .seq (fun K5 hK5 => .seq (fun K6 hK6 => .region (.mv rfl (.mv rfl (.m rfl rfl rfl (.len sl_23_B rfl) (.m rfl rfl rfl (.cmp rfl rfl rfl) (.nil (hK6 _ _ ?_))))))))
  refine .cond rfl (fun h9 => ?_) (fun h9 => ?_)
  ·
   simp only [sps] at h9
   have u1 := h.2 i (by omega)
   refine .skip ?_
   refine hK5 _ _ (.seq (fun K7 hK7 => ?_))
   refine .block ?_
   refine .region (.mv rfl (.mv rfl (.mv rfl ?_)))
   refine .m rfl rfl rfl (.idxN sl_23_B (Intss.sl (by assumption)) rfl rfl (by omega)) ?_
   refine .m rfl rfl rfl (.loadR on_22_B (by assumption) rfl (by omega)) ?_
   refine .call rfl rfl rfl rfl @Try.call147 rfl (l01Own_c) ?_
   rintro _ H17 ⟨le17, g17, rfl, at17, ge17⟩
   replace lst1 := lst1.le le17
   replace rk := rk.le le17
   replace at_L3 := le17.2 _ _ at_L3
   have lt_at17 := GHeap.ltg at17
   clear u1
   refine .r rfl rfl rfl (.litR rfl sl_23_B ze_22_E rfl rfl (by omega) (by omega) rfl rfl) ?_
   rintro _ H18 ⟨g18, rfl, le18, ge18, at18⟩
   replace lst1 := lst1.le le18
   replace rk := rk.le le18
   replace at_L3 := le18.2 _ _ at_L3
   replace at17 := le18.2 _ _ at17
   have lt_at18 := GHeap.ltg at18
   refine .r rfl rfl rfl (.appendV rfl sl_23_B ze_22_E rfl by_22_E sl_23_B rfl rfl (by assumption) (by assumption) (by first | omega | (simp <;> omega)) rfl rfl (by omega) (by omega)) ?_
   rintro _ H19 ⟨g19, rfl, st19, ge19, at19⟩
   replace lst1 := lst1.st st19 (fun k hk ho => by simp only [out, and_true] at ho ⊢ <;> first | exact ho | exact ho.1 | exact ho.2 | exact ho.2.1 | exact ho.2.2 | exact ho.2.2.1 | exact ho.2.2.2 | omega)
   replace rk := rk.st st19 (fun k hk ho => by simp only [out, and_true] at ho ⊢ <;> first | exact ho | exact ho.1 | exact ho.2 | exact ho.2.1 | exact ho.2.2 | exact ho.2.2.1 | exact ho.2.2.2 | omega)
   replace at17 := st19.same _ _ ⟨(by first | assumption | omega), trivial⟩ at17
   refine .mv rfl (.nil (hK7 _ _ (.region (.mv rfl ?_))))
   refine .m rfl rfl rfl (.add rfl rfl rfl (by omega) (by omega)) ?_
   refine .mv rfl (.nil ?_)
   refine hKL1 ((i + 1, upd rr (pss.take i).length (some ⟨g17, 0, none⟩), _, _)) _ _ ?_ ?_ ⟨rfl, rfl, rfl, trivial⟩
   ·
    refine ⟨lst1, by (rw [take_snocZ (by omega), slsL_snoc]; assumption), by omega, by (rw [take_snocZ (by omega), slsL_snoc] <;> (first | omega | (simp only [List.length_append, List.length_cons, List.length_nil] <;> omega))), ?_⟩
    exact ⟨by omega, by rw [take_snocZ (by omega)]; exact hR.snoc (x := pss.getD i []) (rk.lasts1 hat3 rfl) (by assumption) (by omega) (by omega)⟩
   (dsimp only; omega)
  try simp only [sps] at h9
  refine .exit ?_
  refine hK3 _ _ (.seq (fun K8 hK8 => .region (.mv rfl (.mv rfl (.nil (hK8 _ _ ?_))))))
  refine .ret ?_
  refine hret _ _ ?_
  refine ⟨_, rfl, ?_⟩
  obtain rfl : i = pss.length := by omega
  rw [List.take_length] at hR at_L3 ln_L3
  exact ⟨hle, _, rr, by rw [ln_L3, length_slsL], (hR.done at_L3 (by omega)).1.resolve_left (fun h => by cases h.2)⟩
set_option maxHeartbeats 4000000 in
theorem l02Own_c {c : Cat} {p : CatP} {H : GHeap} (hin : c.In H p := by assumption) (hs : c.Small := by assumption) :
    GCalls Try.prog 151 [.agg (c.cells p).toArray] H (NewCat H c) := by
  obtain ⟨n1, n2, n3, n4, n5, -⟩ := hs
  refine GCalls.body (N := 18) (rs := [.cell 2 31]) Try.func151 rfl rfl rfl rfl (fun Qx hret hend => ?_)
  refine .forget (fr' := [(0, some _)]) ⟨rfl, trivial⟩ ?_
  have hle := GHeap.Le.refl H
  have base_hin := hin
  refine .seq (fun K1 hK1 => .region ?_)
  refine .r rfl rfl rfl (.boxR rfl sz_31_D rfl) ?_
  rintro _ H1 ⟨g1, rfl, le1, ge1, at1⟩
  replace hle := hle.trans le1
  have lt_at1 := GHeap.ltg at1
  replace hin := base_hin.mono hle
  have hb1 : Cat.At _ g1 0 c p := ⟨Mem.of_get at1, hin⟩
  refine .r rfl rfl rfl (.allocR rfl ze_31_E rfl) ?_
  rintro _ H2 ⟨g2, rfl, le2, ge2, at2⟩
  replace hle := hle.trans le2
  replace at1 := le2.2 _ _ at1
  have lt_at2 := GHeap.ltg at2
  replace hin := base_hin.mono hle
  clear hb1
  have hb1 : Cat.At _ g1 0 c p := ⟨Mem.of_get at1, hin⟩
  obtain ⟨c01, c11, c21, c31, c41, i11, -, -, -⟩ := hb1.get
  refine .nil (hK1 _ _ (.seq (fun K2 hK2 => ?_)))
  refine .regionD mo_B (.q 0 (.q 1 (.q 2 (.q 3 (.q 5 (.q 6 (.q 8 (.q 9 (.q 11 (.q 12 (.c 4 1 (.c 7 1 (.c 10 1 (.c 13 1 (.q 14 (.c 15 0 (.done))))))))))))))))) (by kernel_rfl) ?_
  refine .m rfl rfl rfl rfl (.refl _) (.fieldAddr fo_31_0_B rfl) ?_
  refine .m rfl rfl rfl rfl (.refl _) (.load on_2_A rfl (by first | assumption | exact Mem.of_get at1 0 _ rfl)) ?_
  refine .m rfl rfl rfl rfl (.refl _) (.fieldAddr fo_31_1_B rfl) ?_
  refine .m rfl rfl rfl rfl (.refl _) (.load on_22_B rfl (by first | assumption | exact Mem.of_get at1 1 _ rfl)) ?_
  refine .m rfl rfl rfl rfl (.refl _) (.fieldAddr fo_31_2_B rfl) ?_
  refine .m rfl rfl rfl rfl (.refl _) (.load on_22_B rfl (by first | assumption | exact Mem.of_get at1 2 _ rfl)) ?_
  refine .m rfl rfl rfl rfl (.refl _) (.fieldAddr fo_31_3_B rfl) ?_
  refine .m rfl rfl rfl rfl (.refl _) (.load on_22_B rfl (by first | assumption | exact Mem.of_get at1 3 _ rfl)) ?_
  refine .m rfl rfl rfl rfl (.refl _) (.fieldAddr fo_31_4_B rfl) ?_
  refine .m rfl rfl rfl rfl (.refl _) (.load on_23_B rfl (by first | assumption | exact Mem.of_get at1 4 _ rfl)) ?_
  refine .call1 rfl rfl rfl rfl rfl @Try.call147 rfl (l01Own_c) ?_
  rintro _ H7 ⟨le7, g7, rfl, at7, ge7⟩
  have hbl := le7
  refine ⟨hbl, ?_⟩
  replace hle := hle.trans le7
  replace at1 := le7.2 _ _ at1
  replace at2 := le7.2 _ _ at2
  have lt_at7 := GHeap.ltg at7
  replace hin := base_hin.mono hle
  clear hb1 c01 c11 c21 c31 c41 i11
  have hb1 : Cat.At _ g1 0 c p := ⟨Mem.of_get at1, hin⟩
  obtain ⟨-, -, -, -, -, -, i21, -, -⟩ := hb1.get
  refine .call1 rfl rfl rfl rfl rfl @Try.call147 rfl (l01Own_c) ?_
  rintro _ H10 ⟨le10, g10, rfl, at10, ge10⟩
  replace hbl := hbl.trans le10
  refine ⟨hbl, ?_⟩
  replace hle := hle.trans le10
  replace at1 := le10.2 _ _ at1
  replace at2 := le10.2 _ _ at2
  replace at7 := le10.2 _ _ at7
  have lt_at10 := GHeap.ltg at10
  replace hin := base_hin.mono hle
  clear hb1 i21
  have hb1 : Cat.At _ g1 0 c p := ⟨Mem.of_get at1, hin⟩
  obtain ⟨-, -, -, -, -, -, -, i31, -⟩ := hb1.get
  refine .call1 rfl rfl rfl rfl rfl @Try.call147 rfl (l01Own_c) ?_
  rintro _ H13 ⟨le13, g13, rfl, at13, ge13⟩
  replace hbl := hbl.trans le13
  refine ⟨hbl, ?_⟩
  have nx_H13 := le13.1
  replace hle := hle.trans le13
  replace at1 := le13.2 _ _ at1
  replace at2 := le13.2 _ _ at2
  replace at7 := le13.2 _ _ at7
  replace at10 := le13.2 _ _ at10
  have lt_at13 := GHeap.ltg at13
  replace hin := base_hin.mono hle
  clear hb1 i31
  have hb1 : Cat.At _ g1 0 c p := ⟨Mem.of_get at1, hin⟩
  obtain ⟨-, -, -, -, -, -, -, -, i41⟩ := hb1.get
  refine .call1 rfl rfl rfl rfl rfl @Try.call155 rfl (l01Own2Z_c (hl2 := n5)) ?_
  rintro _ H16 ⟨le16, a16, r16, rfl, v16⟩
  replace hbl := hbl.trans le16
  refine ⟨hbl, ?_⟩
  replace hle := hle.trans le16
  replace at1 := le16.2 _ _ at1
  replace at2 := le16.2 _ _ at2
  replace at7 := le16.2 _ _ at7
  replace at10 := le16.2 _ _ at10
  replace at13 := le16.2 _ _ at13
  have bs_v16 := v16
  have lv_v16 : Keep H13.next H16 H16 := fun _ _ _ h => h
  replace hin := base_hin.mono hle
  clear hb1 i41
  have hb1 : Cat.At _ g1 0 c p := ⟨Mem.of_get at1, hin⟩
  refine .m rfl rfl rfl rfl hbl (.build bt_31_Hj rfl rfl rfl) ?_
  refine .r0 rfl rfl rfl (.fillR rfl sz_31_D rfl rfl rfl rfl (by assumption) (by first | rfl | exact Nat.le_of_ble_eq_true rfl | simp)) ?_
  rintro _ H1015 ⟨rfl, st1015, at1015⟩
  replace hle := hle.st st1015 (fun k hk => ⟨by omega, trivial⟩)
  replace at1 := st1015.same _ _ ⟨(by first | assumption | omega), trivial⟩ at1
  replace at7 := st1015.same _ _ ⟨(by first | assumption | omega), trivial⟩ at7
  replace at10 := st1015.same _ _ ⟨(by first | assumption | omega), trivial⟩ at10
  replace at13 := st1015.same _ _ ⟨(by first | assumption | omega), trivial⟩ at13
  replace lv_v16 := Keep.st lv_v16 st1015 (fun k hb hk => ⟨by omega, trivial⟩)
  replace v16 := bs_v16.keep lv_v16 (Nat.le_refl _)
  replace hin := base_hin.mono hle
  clear hb1
  have hb1 : Cat.At _ g1 0 c p := ⟨Mem.of_get at1, hin⟩
  refine .done ?_
  refine hK2 _ _ ?_
  refine .ret ?_
  refine hret _ _ ?_
  refine ⟨_, _, _, _, rfl, ag_31_D, (by rfl), (Mem.of_get at1015), ?_⟩
  exact ⟨hle, ⟨some ⟨g7, 0, none⟩, some ⟨g10, 0, none⟩, some ⟨g13, 0, none⟩, a16, r16⟩, rfl, ⟨g7, _, rfl, by omega, at7⟩, ⟨g10, _, rfl, by omega, at10⟩, ⟨g13, _, rfl, by omega, at13⟩, v16.keep (.of_le (.refl _)) (by omega)⟩
theorem fu_build {c d : Cat} {p q : CatP} {a b : Option Addr} {n m : Nat} : fillL ([(0, 5), (5, 5), (10, 1), (11, 1)][·]?) [.int .i64 0, .slice none 0 0, .slice none 0 0, .slice none 0 0, .slice none 0 0, .int .i64 0, .slice none 0 0, .slice none 0 0, .slice none 0 0, .slice none 0 0, .slice none 0 0, .slice none 0 0] [(0, .agg (c.cells p).toArray), (1, .agg (d.cells q).toArray), (2, .slice a n n), (3, .slice b m m)] = some (c.cells p ++ (d.cells q ++ [.slice a n n, .slice b m m])) := by kernel_rfl
set_option maxHeartbeats 4000000 in
theorem l06Make_c {c d : Cat} {p q : CatP} {a b : Option Addr} {xs ys : List Int} {H : GHeap} (hin : c.In H p) (hin1 : d.In H q) (hx : Ints H a xs) (hy : Ints H b ys) (hs : c.Small) (hs1 : d.Small) (hl : xs.length ≤ 1048576) (hl2 : ys.length ≤ 1048576) :
    GCalls Try.prog 142 [.agg (c.cells p).toArray, .agg (d.cells q).toArray, .slice a xs.length xs.length, .slice b ys.length ys.length] H (NewFun H ⟨c, d, xs, ys⟩) := by
  refine GCalls.body (N := 18) (rs := [.cell 8 33]) Try.func142 rfl rfl rfl rfl (fun Qx hret hend => ?_)
  refine .forget (fr' := [(0, some _), (1, some _), (2, some _), (3, some _)]) ⟨rfl, rfl, rfl, rfl, trivial⟩ ?_
  have hle := GHeap.Le.refl H
  have base_hin := hin
  have base_hin1 := hin1
  have base_hx := hx
  have base_hy := hy
  refine .seq (fun K1 hK1 => .region ?_)
  refine .r rfl rfl rfl (.boxR rfl sz_31_D rfl) ?_
  rintro _ H4 ⟨g4, rfl, le4, ge4, at4⟩
  replace hle := hle.trans le4
  have lt_at4 := GHeap.ltg at4
  replace hin := base_hin.mono hle
  have hb4 : Cat.At _ g4 0 c p := ⟨Mem.of_get at4, hin⟩
  refine .r rfl rfl rfl (.boxR rfl sz_31_D rfl) ?_
  rintro _ H5 ⟨g5, rfl, le5, ge5, at5⟩
  replace hle := hle.trans le5
  replace at4 := le5.2 _ _ at4
  have lt_at5 := GHeap.ltg at5
  replace hin := base_hin.mono hle
  replace hin1 := base_hin1.mono hle
  clear hb4
  have hb4 : Cat.At _ g4 0 c p := ⟨Mem.of_get at4, hin⟩
  have hb5 : Cat.At _ g5 0 d q := ⟨Mem.of_get at5, hin1⟩
  refine .r rfl rfl rfl (.allocR rfl ze_33_E rfl) ?_
  rintro _ H8 ⟨g8, rfl, le8, ge8, at8⟩
  have nx_H8 := le8.1
  replace hle := hle.trans le8
  replace at4 := le8.2 _ _ at4
  replace at5 := le8.2 _ _ at5
  have lt_at8 := GHeap.ltg at8
  replace hin := base_hin.mono hle
  replace hin1 := base_hin1.mono hle
  clear hb4
  have hb4 : Cat.At _ g4 0 c p := ⟨Mem.of_get at4, hin⟩
  have hi4 := hb4.2
  clear hb5
  have hb5 : Cat.At _ g5 0 d q := ⟨Mem.of_get at5, hin1⟩
  refine .nil (hK1 _ _ (.seq (fun K2 hK2 => ?_)))
  refine .regionD mo_B (.q 0 (.q 2 (.q 4 (.q 6 (.c 1 1 (.c 3 1 (.c 5 1 (.c 7 0 (.q 8 (.c 9 0 (.done))))))))))) (by kernel_rfl) ?_
  refine .m rfl rfl rfl rfl (.refl _) (.loadM ag_31_D rfl ⟨rfl, Mem.of_get at4⟩) ?_
  refine .m rfl rfl rfl rfl (.refl _) (.loadM ag_31_D rfl ⟨rfl, Mem.of_get at5⟩) ?_
  refine .mv rfl rfl (.mv rfl rfl ?_)
  refine .call1 rfl rfl rfl rfl rfl @Try.call151 rfl (l02Own_c (c := c)) ?_
  rintro _ H10 ⟨le10, p10, rfl, v10⟩
  have hbl := le10
  refine ⟨hbl, ?_⟩
  have nx_H10 := le10.1
  replace hle := hle.trans le10
  replace at4 := le10.2 _ _ at4
  replace at5 := le10.2 _ _ at5
  replace at8 := le10.2 _ _ at8
  have bs_v10 := v10
  have lv_v10 : Keep H8.next H10 H10 := fun _ _ _ h => h
  replace hin := base_hin.mono hle
  replace hin1 := base_hin1.mono hle
  clear hb4 hi4
  have hb4 : Cat.At _ g4 0 c p := ⟨Mem.of_get at4, hin⟩
  clear hb5
  have hb5 : Cat.At _ g5 0 d q := ⟨Mem.of_get at5, hin1⟩
  have hi5 := hb5.2
  refine .call1 rfl rfl rfl rfl rfl @Try.call151 rfl (l02Own_c (c := d)) ?_
  rintro _ H12 ⟨le12, p12, rfl, v12⟩
  replace hbl := hbl.trans le12
  refine ⟨hbl, ?_⟩
  have nx_H12 := le12.1
  replace hle := hle.trans le12
  replace at4 := le12.2 _ _ at4
  replace at5 := le12.2 _ _ at5
  replace at8 := le12.2 _ _ at8
  replace lv_v10 := Keep.le lv_v10 le12
  have bs_v12 := v12
  have lv_v12 : Keep H10.next H12 H12 := fun _ _ _ h => h
  replace hin := base_hin.mono hle
  replace hin1 := base_hin1.mono hle
  replace hx := base_hx.mono hle
  clear hb4
  have hb4 : Cat.At _ g4 0 c p := ⟨Mem.of_get at4, hin⟩
  clear hb5 hi5
  have hb5 : Cat.At _ g5 0 d q := ⟨Mem.of_get at5, hin1⟩
  refine .call1 rfl rfl rfl rfl rfl @Try.call147 rfl (l01Own_c hx) ?_
  rintro _ H14 ⟨le14, g14, rfl, at14, ge14⟩
  replace hbl := hbl.trans le14
  refine ⟨hbl, ?_⟩
  replace hle := hle.trans le14
  replace at4 := le14.2 _ _ at4
  replace at5 := le14.2 _ _ at5
  replace at8 := le14.2 _ _ at8
  replace lv_v10 := Keep.le lv_v10 le14
  replace lv_v12 := Keep.le lv_v12 le14
  have lt_at14 := GHeap.ltg at14
  replace hin := base_hin.mono hle
  replace hin1 := base_hin1.mono hle
  replace hy := base_hy.mono hle
  clear hb4
  have hb4 : Cat.At _ g4 0 c p := ⟨Mem.of_get at4, hin⟩
  clear hb5
  have hb5 : Cat.At _ g5 0 d q := ⟨Mem.of_get at5, hin1⟩
  refine .call0 rfl rfl rfl rfl rfl @Try.call147 rfl (l01Own_c hy) ?_
  rintro _ H16 ⟨le16, g16, rfl, at16, ge16⟩
  replace hle := hle.trans le16
  replace at4 := le16.2 _ _ at4
  replace at5 := le16.2 _ _ at5
  replace at8 := le16.2 _ _ at8
  replace at14 := le16.2 _ _ at14
  replace lv_v10 := Keep.le lv_v10 le16
  replace lv_v12 := Keep.le lv_v12 le16
  replace hin := base_hin.mono hle
  replace hin1 := base_hin1.mono hle
  clear hb4
  have hb4 : Cat.At _ g4 0 c p := ⟨Mem.of_get at4, hin⟩
  clear hb5
  have hb5 : Cat.At _ g5 0 d q := ⟨Mem.of_get at5, hin1⟩
  refine .m rfl rfl rfl rfl (.refl _) (.build bt_33_Hj rfl rfl fu_build) ?_
  refine .r0 rfl rfl rfl (.fillR rfl sz_33_E rfl rfl rfl rfl (by assumption) (by first | rfl | exact Nat.le_of_ble_eq_true rfl | simp)) ?_
  rintro _ H1009 ⟨rfl, st1009, at1009⟩
  replace hle := hle.st st1009 (fun k hk => ⟨by omega, trivial⟩)
  replace at4 := st1009.same _ _ ⟨(by first | assumption | omega), trivial⟩ at4
  replace at5 := st1009.same _ _ ⟨(by first | assumption | omega), trivial⟩ at5
  replace at14 := st1009.same _ _ ⟨(by first | assumption | omega), trivial⟩ at14
  replace at16 := st1009.same _ _ ⟨(by first | assumption | omega), trivial⟩ at16
  replace lv_v10 := Keep.st lv_v10 st1009 (fun k hb hk => ⟨by omega, trivial⟩)
  replace v10 := bs_v10.keep lv_v10 (Nat.le_refl _)
  replace lv_v12 := Keep.st lv_v12 st1009 (fun k hb hk => ⟨by omega, trivial⟩)
  replace v12 := bs_v12.keep lv_v12 (Nat.le_refl _)
  replace hin := base_hin.mono hle
  replace hin1 := base_hin1.mono hle
  clear hb4
  have hb4 : Cat.At _ g4 0 c p := ⟨Mem.of_get at4, hin⟩
  clear hb5
  have hb5 : Cat.At _ g5 0 d q := ⟨Mem.of_get at5, hin1⟩
  refine .done ?_
  refine hK2 _ _ ?_
  refine .ret ?_
  refine hret _ _ ?_
  refine ⟨_, _, _, _, rfl, ag_33_E, (by rfl), (Mem.of_get at1009), ?_⟩
  exact ⟨hle, ⟨p10, p12, some ⟨g14, 0, none⟩, some ⟨g16, 0, none⟩⟩, rfl, v10.keep (.of_le (.refl _)) (by omega), v12.keep (.of_le (.refl _)) (by omega), ⟨g14, _, rfl, by omega, at14⟩, ⟨g16, _, rfl, by omega, at16⟩⟩
set_option maxHeartbeats 4000000 in
theorem l06Constant_c {d : Fun} {p : FunP} {y : Nat} {H : GHeap} (hin : d.In H p) (hs : d.Small) (hI : d.Is) (hy : (y : Int) < d.t.obj) :
    GCalls Try.prog 123 [.agg (d.s.cells p.s).toArray, .agg (d.t.cells p.t).toArray, .int .i64 (y : Int)] H (NewFun H (d.con y)) := by
  have h1 := hI.1.1.obj
  have h2 := hI.1.1.n40
  have h3 := hI.2.1.1.il
  have i1 := hin.1
  have i2 := hin.2.1
  have s1 := hs.1
  have s2 := hs.2.1
  refine GCalls.body (N := 43) (rs := [.cell 6 33]) Try.func123 rfl rfl rfl rfl (fun Qx hret hend => ?_)
  refine .forget (fr' := [(0, some _), (1, some _), (2, some _)]) ⟨rfl, rfl, rfl, trivial⟩ ?_
  have hle := GHeap.Le.refl H
  have base_i1 := i1
  have base_i2 := i2
  refine .seq (fun K1 hK1 => .region ?_)
  refine .r rfl rfl rfl (.boxR rfl sz_31_D rfl) ?_
  rintro _ H3 ⟨g3, rfl, le3, ge3, at3⟩
  replace hle := hle.trans le3
  have lt_at3 := GHeap.ltg at3
  replace i1 := base_i1.mono hle
  have hb3 : Cat.At _ g3 0 d.s p.s := ⟨Mem.of_get at3, i1⟩
  refine .r rfl rfl rfl (.boxR rfl sz_31_D rfl) ?_
  rintro _ H4 ⟨g4, rfl, le4, ge4, at4⟩
  replace hle := hle.trans le4
  replace at3 := le4.2 _ _ at3
  have lt_at4 := GHeap.ltg at4
  replace i1 := base_i1.mono hle
  replace i2 := base_i2.mono hle
  clear hb3
  have hb3 : Cat.At _ g3 0 d.s p.s := ⟨Mem.of_get at3, i1⟩
  have hb4 : Cat.At _ g4 0 d.t p.t := ⟨Mem.of_get at4, i2⟩
  refine .r rfl rfl rfl (.allocR rfl ze_33_E rfl) ?_
  rintro _ H6 ⟨g6, rfl, le6, ge6, at6⟩
  replace hle := hle.trans le6
  replace at3 := le6.2 _ _ at3
  replace at4 := le6.2 _ _ at4
  have lt_at6 := GHeap.ltg at6
  replace i1 := base_i1.mono hle
  replace i2 := base_i2.mono hle
  clear hb3
  have hb3 : Cat.At _ g3 0 d.s p.s := ⟨Mem.of_get at3, i1⟩
  clear hb4
  have hb4 : Cat.At _ g4 0 d.t p.t := ⟨Mem.of_get at4, i2⟩
  refine .nil (hK1 _ _ (.seq (fun K2 hK2 => .region ?_)))
  refine .r rfl rfl rfl (.litR rfl sl_22_A ze_2_E rfl rfl (by omega) (by omega) rfl rfl) ?_
  rintro _ H11 ⟨g11, rfl, le11, ge11, at11⟩
  replace hle := hle.trans le11
  replace at3 := le11.2 _ _ at3
  replace at4 := le11.2 _ _ at4
  replace at6 := le11.2 _ _ at6
  have lt_at11 := GHeap.ltg at11
  replace i1 := base_i1.mono hle
  replace i2 := base_i2.mono hle
  clear hb3
  have hb3 : Cat.At _ g3 0 d.s p.s := ⟨Mem.of_get at3, i1⟩
  clear hb4
  have hb4 : Cat.At _ g4 0 d.t p.t := ⟨Mem.of_get at4, i2⟩
  replace at11 : GHeap.get H11 g11 = some (.row (ints []) 2 true) := at11
  refine .r rfl rfl rfl (.litR rfl sl_22_A ze_2_E rfl rfl (by omega) (by omega) rfl rfl) ?_
  rintro _ H12 ⟨g12, rfl, le12, ge12, at12⟩
  replace hle := hle.trans le12
  replace at3 := le12.2 _ _ at3
  replace at4 := le12.2 _ _ at4
  replace at6 := le12.2 _ _ at6
  replace at11 := le12.2 _ _ at11
  have lt_at12 := GHeap.ltg at12
  replace i1 := base_i1.mono hle
  replace i2 := base_i2.mono hle
  clear hb3
  have hb3 : Cat.At _ g3 0 d.s p.s := ⟨Mem.of_get at3, i1⟩
  clear hb4
  have hb4 : Cat.At _ g4 0 d.t p.t := ⟨Mem.of_get at4, i2⟩
  replace at12 : GHeap.get H12 g12 = some (.row (ints []) 2 true) := at12
  refine .mv rfl (.mv rfl (.nil (hK2 _ _ (.seq (fun K3 hK3 => .seq (fun K4 hK4 => .region (.mv rfl (.nil (hK4 _ _ ?_)))))))))
  refine .block ?_
  refine .loopR (σ := Nat × Nat × Nat) [(2, some _), (3, some _), (4, some _), (6, some _), (8, some _)] (fun (x, gL7, nL7) => [(9, some (.int .i64 (x : Int))), (7, some (.slice (some ⟨gL7, 0, none⟩) nL7 nL7))]) (fun (x, gL7, nL7) H' => St [g11] H12 H' ∧ H'.get gL7 = some (.row (ints (List.replicate x (y : Int))) 2 true) ∧ (gL7 = g11 ∨ H12.next ≤ gL7) ∧ nL7 = (List.replicate x (y : Int)).length ∧ x ≤ d.s.obj.toNat) (fun (x, gL7, nL7) => d.s.obj.toNat - x) ((0, _, _)) ⟨rfl, rfl, rfl, rfl, rfl, trivial⟩ ⟨rfl, rfl, trivial⟩ ?_ ?_
  ·
   refine ⟨.refl _ _, by assumption, .inl rfl, by rfl, ?_⟩
   omega
  rintro ⟨x, gL7, nL7⟩ HL1 ⟨lst1, at_L7, pl_L7, ln_L7, hI⟩ KL1 hKL1
  refine .forget (fr' := [(9, some (.int .i64 (x : Int))), (7, some (.slice (some ⟨gL7, 0, none⟩) nL7 nL7)), (2, some _), (3, some _), (4, some _), (6, some _), (8, some _)]) ⟨rfl, rfl, rfl, rfl, rfl, rfl, rfl, trivial⟩ ?_
  have ge_L7 : H.next ≤ gL7 := by omega
  have nx_HL1 := lst1.nx
  replace hle := hle.st lst1 (fun k hk => ⟨by omega, trivial⟩)
  replace at3 := lst1.same _ _ ⟨(by first | assumption | omega), trivial⟩ at3
  replace at4 := lst1.same _ _ ⟨(by first | assumption | omega), trivial⟩ at4
  replace at6 := lst1.same _ _ ⟨(by first | assumption | omega), trivial⟩ at6
  replace at12 := lst1.same _ _ ⟨(by first | assumption | omega), trivial⟩ at12
  replace i1 := base_i1.mono hle
  replace i2 := base_i2.mono hle
  clear hb3
  have hb3 : Cat.At _ g3 0 d.s p.s := ⟨Mem.of_get at3, i1⟩
  obtain ⟨c03, -, -, -, -, -, -, -, -⟩ := hb3.get
  clear hb4
  have hb4 : Cat.At _ g4 0 d.t p.t := ⟨Mem.of_get at4, i2⟩
  have hrl : (List.replicate x (y : Int)).length = x := List.length_replicate
  refine .seq (fun K5 hK5 => .seq (fun K6 hK6 => .region (.mv rfl (.m rfl rfl rfl (.fieldAddr fo_31_0_B rfl) ?_))))
  refine .m rfl rfl rfl (.load on_2_A rfl (by first | assumption | exact Mem.of_get at3 0 _ rfl)) ?_
  refine .m rfl rfl rfl (.cmp rfl rfl rfl) (.nil (hK6 _ _ ?_))
  refine .cond rfl (fun h16 => ?_) (fun h16 => ?_)
  ·
   simp only [sps] at h16
   refine .skip ?_
   refine hK5 _ _ (.seq (fun K7 hK7 => ?_))
   refine .block ?_
   refine .region (.mv rfl (.mv rfl ?_))
   refine .r rfl rfl rfl (.litR rfl sl_22_A ze_2_E rfl rfl (by omega) (by omega) rfl rfl) ?_
   rintro _ H21 ⟨g21, rfl, le21, ge21, at21⟩
   replace hle := hle.trans le21
   replace lst1 := lst1.le le21
   replace at3 := le21.2 _ _ at3
   replace at4 := le21.2 _ _ at4
   replace at_L7 := le21.2 _ _ at_L7
   have lt_at21 := GHeap.ltg at21
   replace i1 := base_i1.mono hle
   replace i2 := base_i2.mono hle
   clear hb3 c03
   have hb3 : Cat.At _ g3 0 d.s p.s := ⟨Mem.of_get at3, i1⟩
   clear hb4
   have hb4 : Cat.At _ g4 0 d.t p.t := ⟨Mem.of_get at4, i2⟩
   refine .r rfl rfl rfl (.appendI rfl sl_22_A ze_2_E rfl by_2_E sl_22_A rfl rfl (by assumption) (by assumption) (by first | omega | (simp <;> omega)) (by omega) (by omega)) ?_
   rintro _ H22 ⟨g22, rfl, st22, ge22, at22⟩
   replace hle := hle.st st22 (fun k hk => ⟨by omega, trivial⟩)
   replace lst1 := lst1.st st22 (fun k hk ho => by simp only [out, and_true] at ho ⊢ <;> first | exact ho | exact ho.1 | exact ho.2 | exact ho.2.1 | exact ho.2.2 | exact ho.2.2.1 | exact ho.2.2.2 | omega)
   replace at3 := st22.same _ _ ⟨(by first | assumption | omega), trivial⟩ at3
   replace at4 := st22.same _ _ ⟨(by first | assumption | omega), trivial⟩ at4
   replace i1 := base_i1.mono hle
   replace i2 := base_i2.mono hle
   clear hb3
   have hb3 : Cat.At _ g3 0 d.s p.s := ⟨Mem.of_get at3, i1⟩
   clear hb4
   have hb4 : Cat.At _ g4 0 d.t p.t := ⟨Mem.of_get at4, i2⟩
   refine .mv rfl (.nil (hK7 _ _ (.region (.mv rfl ?_))))
   refine .m rfl rfl rfl (.add rfl rfl rfl (by omega) (by omega)) ?_
   refine .mv rfl (.nil ?_)
   refine hKL1 ((x + 1, _, _)) _ _ ?_ ?_ ⟨rfl, rfl, rfl, rfl, rfl, rfl, rfl, trivial⟩
   ·
    refine ⟨lst1, by (rw [List.replicate_succ']; assumption), by omega, by (rw [List.replicate_succ'] <;> (first | omega | (simp only [List.length_append, List.length_cons, List.length_nil] <;> omega))), ?_⟩
    omega
   (dsimp only; omega)
  simp only [sps] at h16
  refine .exit ?_
  refine hK3 _ _ (.seq (fun K8 hK8 => .seq (fun K9 hK9 => .region (.mv rfl (.nil (hK9 _ _ ?_))))))
  refine .block ?_
  refine .loopR (σ := Nat × Nat × Nat) [(2, some _), (3, some _), (4, some _), (6, some _), (7, some _)] (fun (a, gL8, nL8) => [(10, some (.int .i64 (a : Int))), (8, some (.slice (some ⟨gL8, 0, none⟩) nL8 nL8))]) (fun (a, gL8, nL8) H' => St [g12] HL1 H' ∧ H'.get gL8 = some (.row (ints (List.replicate a (d.t.idn.getD y 0))) 2 true) ∧ (gL8 = g12 ∨ HL1.next ≤ gL8) ∧ nL8 = (List.replicate a (d.t.idn.getD y 0)).length ∧ a ≤ d.s.src.length) (fun (a, gL8, nL8) => d.s.src.length - a) ((0, _, _)) ⟨rfl, rfl, rfl, rfl, rfl, trivial⟩ ⟨rfl, rfl, trivial⟩ ?_ ?_
  ·
   refine ⟨.refl _ _, by assumption, .inl rfl, by rfl, ?_⟩
   omega
  rintro ⟨a, gL8, nL8⟩ HL2 ⟨lst2, at_L8, pl_L8, ln_L8, hI⟩ KL2 hKL2
  refine .forget (fr' := [(10, some (.int .i64 (a : Int))), (8, some (.slice (some ⟨gL8, 0, none⟩) nL8 nL8)), (2, some _), (3, some _), (4, some _), (6, some _), (7, some _)]) ⟨rfl, rfl, rfl, rfl, rfl, rfl, rfl, trivial⟩ ?_
  have ge_L8 : H.next ≤ gL8 := by omega
  have nx_HL2 := lst2.nx
  replace hle := hle.st lst2 (fun k hk => ⟨by omega, trivial⟩)
  replace at3 := lst2.same _ _ ⟨(by first | assumption | omega), trivial⟩ at3
  replace at4 := lst2.same _ _ ⟨(by first | assumption | omega), trivial⟩ at4
  replace at6 := lst2.same _ _ ⟨(by first | assumption | omega), trivial⟩ at6
  replace at_L7 := lst2.same _ _ ⟨(by first | assumption | omega), trivial⟩ at_L7
  replace i1 := base_i1.mono hle
  replace i2 := base_i2.mono hle
  have hb3 : Cat.At _ g3 0 d.s p.s := ⟨Mem.of_get at3, i1⟩
  obtain ⟨-, c13, -, -, -, -, -, -, -⟩ := hb3.get
  have hb4 : Cat.At _ g4 0 d.t p.t := ⟨Mem.of_get at4, i2⟩
  obtain ⟨-, -, -, c34, -, -, -, i34, -⟩ := hb4.get
  have hrl2 : (List.replicate a (d.t.idn.getD y 0)).length = a := List.length_replicate
  refine .seq (fun K10 hK10 => .seq (fun K11 hK11 => .region (.mv rfl (.m rfl rfl rfl (.fieldAddr fo_31_1_B rfl) ?_))))
  refine .m rfl rfl rfl (.load on_22_B rfl (by first | assumption | exact Mem.of_get at3 1 _ rfl)) ?_
  refine .m rfl rfl rfl (.len sl_22_A rfl) (.m rfl rfl rfl (.cmp rfl rfl rfl) (.nil (hK11 _ _ ?_)))
  refine .cond rfl (fun h27 => ?_) (fun h27 => ?_)
  ·
   simp only [sps] at h27
   refine .skip ?_
   refine hK10 _ _ (.seq (fun K12 hK12 => ?_))
   refine .block ?_
   refine .region (.mv rfl (.m rfl rfl rfl (.fieldAddr fo_31_3_B rfl) ?_))
   refine .m rfl rfl rfl (.load on_22_B rfl (by first | assumption | exact Mem.of_get at4 3 _ rfl)) ?_
   refine .mv rfl ?_
   refine .m rfl rfl rfl (.idxN sl_22_A (by assumption) rfl rfl (by omega)) ?_
   refine .m rfl rfl rfl (.loadI on_2_A (by assumption) rfl (by omega)) ?_
   refine .r rfl rfl rfl (.litR rfl sl_22_A ze_2_E rfl rfl (by omega) (by omega) rfl rfl) ?_
   rintro _ H36 ⟨g36, rfl, le36, ge36, at36⟩
   replace hle := hle.trans le36
   replace lst2 := lst2.le le36
   replace at3 := le36.2 _ _ at3
   replace at4 := le36.2 _ _ at4
   replace at_L8 := le36.2 _ _ at_L8
   have lt_at36 := GHeap.ltg at36
   replace i1 := base_i1.mono hle
   replace i2 := base_i2.mono hle
   clear hb3 c13
   have hb3 : Cat.At _ g3 0 d.s p.s := ⟨Mem.of_get at3, i1⟩
   clear hb4 c34 i34
   have hb4 : Cat.At _ g4 0 d.t p.t := ⟨Mem.of_get at4, i2⟩
   refine .r rfl rfl rfl (.appendI rfl sl_22_A ze_2_E rfl by_2_E sl_22_A rfl rfl (by assumption) (by assumption) (by first | omega | (simp <;> omega)) (by omega) (by omega)) ?_
   rintro _ H37 ⟨g37, rfl, st37, ge37, at37⟩
   replace hle := hle.st st37 (fun k hk => ⟨by omega, trivial⟩)
   replace lst2 := lst2.st st37 (fun k hk ho => by simp only [out, and_true] at ho ⊢ <;> first | exact ho | exact ho.1 | exact ho.2 | exact ho.2.1 | exact ho.2.2 | exact ho.2.2.1 | exact ho.2.2.2 | omega)
   replace at3 := st37.same _ _ ⟨(by first | assumption | omega), trivial⟩ at3
   replace at4 := st37.same _ _ ⟨(by first | assumption | omega), trivial⟩ at4
   replace i1 := base_i1.mono hle
   replace i2 := base_i2.mono hle
   clear hb3
   have hb3 : Cat.At _ g3 0 d.s p.s := ⟨Mem.of_get at3, i1⟩
   clear hb4
   have hb4 : Cat.At _ g4 0 d.t p.t := ⟨Mem.of_get at4, i2⟩
   refine .mv rfl (.nil (hK12 _ _ (.region (.mv rfl ?_))))
   refine .m rfl rfl rfl (.add rfl rfl rfl (by omega) (by omega)) ?_
   refine .mv rfl (.nil ?_)
   refine hKL2 ((a + 1, _, _)) _ _ ?_ ?_ ⟨rfl, rfl, rfl, rfl, rfl, rfl, rfl, trivial⟩
   ·
    refine ⟨lst2, by (rw [List.replicate_succ']; assumption), by omega, by (rw [List.replicate_succ'] <;> (first | omega | (simp only [List.length_append, List.length_cons, List.length_nil] <;> omega))), ?_⟩
    omega
   (dsimp only; omega)
  simp only [sps] at h27
  refine .exit ?_
  refine hK8 _ _ (.seq (fun K13 hK13 => .region ?_))
  obtain rfl : x = d.s.obj.toNat := by omega
  obtain rfl : a = d.s.src.length := by omega
  obtain rfl := ln_L7
  obtain rfl := ln_L8
  refine .m rfl rfl rfl (.loadM ag_31_D rfl ⟨rfl, Mem.of_get at3⟩) ?_
  refine .m rfl rfl rfl (.loadM ag_31_D rfl ⟨rfl, Mem.of_get at4⟩) ?_
  refine .mv rfl (.mv rfl ?_)
  refine .call rfl rfl rfl rfl @Try.call142 rfl (l06Make_c i1 i2 (Ints.of_get at_L7) (Ints.of_get at_L8) s1 s2 (by simp; omega) (by simp; omega)) ?_
  rintro _ H42 ⟨le42, p42, rfl, v42⟩
  replace hle := hle.trans le42
  replace at3 := le42.2 _ _ at3
  replace at4 := le42.2 _ _ at4
  replace at6 := le42.2 _ _ at6
  have bs_v42 := v42
  have lv_v42 : Keep HL2.next H42 H42 := fun _ _ _ h => h
  replace i1 := base_i1.mono hle
  replace i2 := base_i2.mono hle
  have hb3 : Cat.At _ g3 0 d.s p.s := ⟨Mem.of_get at3, i1⟩
  have hb4 : Cat.At _ g4 0 d.t p.t := ⟨Mem.of_get at4, i2⟩
  refine .r0 rfl rfl (.fillR rfl sz_33_E rfl rfl rfl rfl (by assumption) (by first | rfl | exact Nat.le_of_ble_eq_true rfl | simp)) ?_
  rintro _ H10005 ⟨rfl, st10005, at10005⟩
  replace hle := hle.st st10005 (fun k hk => ⟨by omega, trivial⟩)
  replace at3 := st10005.same _ _ ⟨(by first | assumption | omega), trivial⟩ at3
  replace at4 := st10005.same _ _ ⟨(by first | assumption | omega), trivial⟩ at4
  replace lv_v42 := Keep.st lv_v42 st10005 (fun k hb hk => ⟨by omega, trivial⟩)
  replace v42 := bs_v42.keep lv_v42 (Nat.le_refl _)
  replace i1 := base_i1.mono hle
  replace i2 := base_i2.mono hle
  clear hb3
  have hb3 : Cat.At _ g3 0 d.s p.s := ⟨Mem.of_get at3, i1⟩
  clear hb4
  have hb4 : Cat.At _ g4 0 d.t p.t := ⟨Mem.of_get at4, i2⟩
  refine .nil (hK13 _ _ ?_)
  refine .ret ?_
  refine hret _ _ ?_
  refine ⟨_, _, _, _, rfl, ag_33_E, (by rfl), (Mem.of_get at10005), ?_⟩
  exact ⟨hle, p42, rfl, v42.keep (.of_le (.refl _)) (by omega)⟩
end Go.Proofs.Ytagkeabmdodfiaa
namespace Go.GL
theorem Fun.con_is {d : Fun} {y : Nat} (h : d.Is) (hy : (y : Int) < d.t.obj) : (d.con y).Is := by
  have hs := h.1.1
  have ht := h.2.1.1
  have b1 := hs.obj
  have b2 := ht.il
  have b3 := hs.il
  have hid := ht.idn y (by omega)
  have hids := ht.ids y (by omega)
  have hlaw := (h.2.1.2.ids (d.t.idn.getD y 0).toNat (by omega)).1
  have e0 : ((d.t.idn.getD y 0).toNat : Int) = d.t.idn.getD y 0 := by omega
  rw [hids.1, e0, Int.toNat_natCast] at hlaw
  have hob : ∀ i, i < d.s.obj.toNat → (d.con y).ob.getD i 0 = (y : Int) := fun i hi => repl_getD hi
  have har : ∀ i, i < d.s.src.length → (d.con y).ar.getD i 0 = d.t.idn.getD y 0 := fun i hi => by
    show (List.replicate d.s.src.length (d.t.idn.getD ((y : Int)).toNat 0)).getD i 0 = _
    rw [repl_getD hi, Int.toNat_natCast]
  refine ⟨h.1, h.2.1, ?_, ?_, ?_, ?_, ?_, ?_, ?_⟩
  · show ((List.replicate d.s.obj.toNat (y : Int)).length : Int) = d.s.obj
    rw [List.length_replicate]; omega
  · exact List.length_replicate
  · intro i hi
    have hi' : i < d.s.obj.toNat := by have : i < (List.replicate d.s.obj.toNat (y : Int)).length := hi; rwa [List.length_replicate] at this
    rw [hob i hi']
    exact ⟨by omega, hy⟩
  · intro i hi
    have hi' : i < d.s.src.length := by have : i < (List.replicate d.s.src.length (d.t.idn.getD ((y : Int)).toNat 0)).length := hi; rwa [List.length_replicate] at this
    rw [har i hi']
    exact ⟨hid.1, hid.2⟩
  · intro a ha
    have ha' : a < d.s.src.length := by have : a < (List.replicate d.s.src.length (d.t.idn.getD ((y : Int)).toNat 0)).length := ha; rwa [List.length_replicate] at this
    have q1 := hs.src a ha'
    have q2 := hs.tgt a (by have := hs.tl; omega)
    rw [har a ha']
    refine ⟨?_, ?_⟩
    · rw [show (d.con y).ob.getD ((d.con y).s.src.getD a 0).toNat 0 = (y : Int) from hob _ (by show (d.s.src.getD a 0).toNat < _; omega)]
      exact hids.1
    · rw [show (d.con y).ob.getD ((d.con y).s.tgt.getD a 0).toNat 0 = (y : Int) from hob _ (by show (d.s.tgt.getD a 0).toNat < _; omega)]
      exact hids.2
  · intro x hx
    have hx' : x < d.s.idn.length := hx
    have q1 := hs.idn x hx'
    rw [har _ (by show (d.s.idn.getD x 0).toNat < _; omega), hob x (by omega), Int.toNat_natCast]
    rfl
  · intro a ha b hb hab
    have ha' : a < d.s.src.length := ha
    have hb' : b < d.s.src.length := hb
    have q1 := (hs.th_ge ha' hb').2 hab
    have q2 := (hs.th_lt ha' hb').1
    show (d.con y).ar.getD (d.s.th a b).toNat 0 = d.t.th ((d.con y).ar.getD a 0) ((d.con y).ar.getD b 0)
    rw [har _ (by omega), har a ha', har b hb', hlaw]
theorem Fun.con_par {d : Fun} {y : Nat} (h : d.Is) (hy : (y : Int) < d.t.obj) : (d.con y).Par d := ⟨Fun.con_is h hy, h, rfl, rfl⟩
theorem searchL_congrN {c c' : Nat → List Int} {k k' : Nat → List Int → Bool} {N : Nat} (hc : ∀ j, j < N → c j = c' j) : ∀ {r : Nat} {p : List Int}, p.length + r = N → (∀ i, i < p.length → p.getD i 0 ∈ c i) → (∀ p h, p.length < N → (∀ i, i < p.length → p.getD i 0 ∈ c i) → h ∈ c p.length → k p.length (p ++ [h]) = k' p.length (p ++ [h])) → searchL c k r p = searchL c' k' r p
  | 0, _, _, _, _ => rfl
  | r + 1, p, hN, hp, hk => by
    unfold searchL
    rw [← hc p.length (by omega)]
    refine flatMap_congr' fun h hh => ?_
    rw [hk p h (by omega) hp hh]
    congr 1
    refine searchL_congrN hc (r := r) (by rw [List.length_append, List.length_singleton]; omega) (fun i hi => ?_) hk
    rw [List.length_append, List.length_singleton] at hi
    rw [getD_snoc]
    by_cases e : i < p.length
    · rw [if_pos e]; exact hp i e
    · obtain rfl : i = p.length := by omega
      rw [if_neg e, if_pos rfl]; exact hh
theorem Fun.con_cand {d : Fun} {y j : Nat} (h : d.Is) (hj : j < d.ob.length) : ((d.con y).net d false).cand j = (d.cnet y).cand j := by
  have b1 := h.2.2.ol
  show List.filter _ (d.t.hom ((List.replicate d.s.obj.toNat (y : Int)).getD j 0) (d.ob.getD j 0)) = d.t.hom y (d.ob.getD j 0)
  rw [repl_getD (by omega)]
  exact List.filter_eq_self.2 fun _ _ => rfl
theorem Fun.con_sols {d : Fun} {y : Nat} (h : d.Is) (hy : (y : Int) < d.t.obj) : ((d.con y).net d false).sols (d.con y).ob.length = (d.cnet y).sols d.ob.length := by
  have b1 := h.2.2.ol
  have b2 := h.2.2.al
  have hs := h.1.1
  have ht := h.2.1.1
  have b3 := hs.obj
  have b4 := ht.il
  have hid := ht.idn y (by omega)
  have hids := ht.ids y (by omega)
  have hl : (d.con y).ob.length = d.ob.length := by
    show (List.replicate d.s.obj.toNat (y : Int)).length = _
    rw [List.length_replicate]; omega
  rw [hl]
  unfold Net.sols
  refine searchL_congrN (N := d.ob.length) (fun j hj => Fun.con_cand h hj) (by simp) (fun i hi => by simp at hi) fun p v hpN hp hv => ?_
  have hq : ∀ i, i ≤ p.length → (p ++ [v]).getD i 0 ∈ ((d.con y).net d false).cand i := fun i hi => by
    rw [getD_snoc]
    by_cases e : i < p.length
    · rw [if_pos e]; exact hp i e
    · obtain rfl : i = p.length := by omega
      rw [if_neg e, if_pos rfl]; exact hv
  have hA : (d.con y).ar.length = d.ar.length := by
    show (List.replicate d.s.src.length (d.t.idn.getD ((y : Int)).toNat 0)).length = _
    rw [List.length_replicate]; omega
  rw [Bool.eq_iff_iff, Net.ok_iff, Net.ok_iff]
  have key : ∀ a, a < d.ar.length → max (d.s.src.getD a 0).toNat (d.s.tgt.getD a 0).toNat = p.length → (((d.con y).net d false).sq a ((p ++ [v]).getD (d.s.src.getD a 0).toNat 0) ((p ++ [v]).getD (d.s.tgt.getD a 0).toNat 0) = true ↔ (d.cnet y).sq a ((p ++ [v]).getD (d.s.src.getD a 0).toNat 0) ((p ++ [v]).getD (d.s.tgt.getD a 0).toNat 0) = true) := by
    intro a ha hm
    have hv1 := hq (d.s.tgt.getD a 0).toNat (by omega)
    have q2 := hs.tgt a (by have := hs.tl; omega)
    rw [Fun.con_cand h (by omega)] at hv1
    obtain ⟨z, z1, z2, z3, z4⟩ := Cat.mem_hom.1 hv1
    have hlaw := (h.2.1.2.ids z z1).1
    rw [z2, Int.toNat_natCast] at hlaw
    show decide (d.t.th ((List.replicate d.s.src.length (d.t.idn.getD ((y : Int)).toNat 0)).getD a 0) _ = d.t.th _ (d.ar.getD a 0)) = true ↔ decide (d.t.th _ (d.ar.getD a 0) = _) = true
    rw [repl_getD (by omega), Int.toNat_natCast, z4, hlaw, decide_eq_true_eq, decide_eq_true_eq]
    exact eq_comm
  refine ⟨fun hh a ha hm => ?_, fun hh a ha hm => ?_⟩
  · have ha' : a < d.ar.length := ha
    exact (key a ha' hm).1 (hh a (by show a < (d.con y).ar.length; omega) hm)
  · have ha' : a < d.ar.length := by have : a < (d.con y).ar.length := ha; omega
    exact (key a ha' hm).2 (hh a ha' hm)
def Fun.coneF (d : Fun) (x n : Nat) : List (List Int) := ((d.cnet (x : Int)).sols d.ob.length).take (401 - n)
def Fun.coneI (d : Fun) (x n i : Nat) : List Con := d.coneL x ++ ((d.coneF x n).take i).map fun l => (⟨(x : Int), l⟩ : Con)
theorem Fun.coneI_zero (d : Fun) (x n : Nat) : d.coneI x n 0 = d.coneL x := by simp [coneI]
theorem Fun.coneI_succ {d : Fun} {x n i : Nat} (h : i < (d.coneF x n).length) : d.coneI x n (i + 1) = d.coneI x n i ++ [⟨(x : Int), (d.coneF x n).getD i []⟩] := by
  unfold coneI
  rw [take_map_snoc (d := []) h, List.append_assoc]
theorem Fun.coneI_all {d : Fun} {x n : Nat} (hn : (d.coneL x).length = n) (h : n ≤ 400) : d.coneI x n (d.coneF x n).length = (d.coneL (x + 1)).take 401 := by
  unfold coneI coneF
  rw [List.take_length, Fun.coneL_succ, List.take_append, List.take_of_length_le (l := d.coneL x) (by omega), hn, List.map_take]
theorem Fun.coneI_len {d : Fun} {x n i : Nat} (hn : (d.coneL x).length = n) (h : n ≤ 400) : (d.coneI x n i).length ≤ 401 := by
  unfold coneI coneF
  rw [List.length_append, List.length_map, List.length_take, List.length_take]
  omega
structure RowsN (b : Nat) (H : GHeap) (r : Nat → Option Addr) (cs : List Con) (gL : Nat) : Prop where
  row : ∀ i, i < cs.length → ∃ g e, r i = some ⟨g, 0, none⟩ ∧ b ≤ g ∧ g ≠ gL ∧ H.get g = some (.row (ints (cs.getD i .z).lg) e true)
theorem RowsN.nil (b : Nat) (H : GHeap) (r : Nat → Option Addr) (gL : Nat) : RowsN b H r [] gL := ⟨fun i hi => by simp at hi⟩
theorem RowsN.mono {b gL : Nat} {H H' : GHeap} {r : Nat → Option Addr} {cs : List Con} (h : RowsN b H r cs gL) (s : H.Le H') : RowsN b H' r cs gL := ⟨fun i hi => by
  obtain ⟨g, e, h1, h2, h3, h4⟩ := h.row i hi
  exact ⟨g, e, h1, h2, h3, s.2 _ _ h4⟩⟩
theorem RowsN.turn {b gL gN : Nat} {H H' : GHeap} {r : Nat → Option Addr} {cs : List Con} (h : RowsN b H r cs gL) (s : St [gL] H H') (hn : H.next ≤ gN) : RowsN b H' r cs gN := ⟨fun i hi => by
  obtain ⟨g, e, h1, h2, h3, h4⟩ := h.row i hi
  exact ⟨g, e, h1, h2, by have := GHeap.ltg h4; omega, s.same _ _ ⟨h3, trivial⟩ h4⟩⟩
theorem RowsN.snoc {b gL : Nat} {H : GHeap} {r : Nat → Option Addr} {cs : List Con} {c : Con} {a : Option Addr} (h : RowsN b H r cs gL) (ha : ∃ g e, a = some ⟨g, 0, none⟩ ∧ b ≤ g ∧ g ≠ gL ∧ H.get g = some (.row (ints c.lg) e true)) : RowsN b H (upd r cs.length a) (cs ++ [c]) gL := ⟨fun i hi => by
  rw [List.length_append, List.length_singleton] at hi
  rw [getD_snoc]
  by_cases e : i < cs.length
  · rw [if_pos e, upd_ne (by omega)]; exact h.row i e
  · obtain rfl : i = cs.length := by omega
    rw [if_neg e, if_pos rfl, upd_eq]; exact ha⟩
theorem IntssR.rowAt {b : Nat} {H : GHeap} {a : Option Addr} {xss : List (List Int)} {r : Nat → Option Addr} (h : IntssR b H a xss r) {i : Nat} (hi : i < xss.length) : ∃ g e, r i = some ⟨g, 0, none⟩ ∧ b ≤ g ∧ H.get g = some (.row (ints (xss.getD i [])) e true) := by
  rcases h.1 with ⟨rfl, _⟩ | ⟨g, e, cs, _, _, _, _, _, h6⟩
  · simp at hi
  · exact h6 i hi
def ConsIn (T : TypeId) (b : Nat) (H : GHeap) (g : Nat) (r : Nat → Option Addr) (cs : List Con) : Prop := b ≤ g ∧ H.get g = some (.row (conV r cs) T true) ∧ ∀ i, i < cs.length → IntsAt b H (r i) (cs.getD i .z).lg
theorem ConsIn.keep {T : TypeId} {b b' g : Nat} {H H' : GHeap} {r : Nat → Option Addr} {cs : List Con} (h : ConsIn T b H g r cs) (k : Keep b' H H') (hb : b' ≤ b) : ConsIn T b' H' g r cs := ⟨by have := h.1; omega, k g _ (by have := h.1; omega) h.2.1, fun i hi => (h.2.2 i hi).keep k hb⟩
theorem Fun.coneL_more {d : Fun} {x : Nat} : ∀ {n}, x ≤ n → ∃ t, d.coneL n = d.coneL x ++ t := by
  intro n h
  obtain ⟨k, rfl⟩ := Nat.le.dest h
  clear h
  induction k with
  | zero => exact ⟨[], by simp⟩
  | succ k ih =>
    obtain ⟨t, ht⟩ := ih
    exact ⟨t ++ _, by rw [← Nat.add_assoc, Fun.coneL_succ, ht, List.append_assoc]⟩
theorem Fun.coneL_cut {d : Fun} {x n : Nat} (h : x ≤ n) (hb : 400 < ((d.coneL x).take 401).length) : (d.coneL n).take 401 = (d.coneL x).take 401 := by
  obtain ⟨t, ht⟩ := Fun.coneL_more (d := d) h
  rw [List.length_take] at hb
  rw [ht, List.take_append_of_le_length (by omega)]
theorem RowsN.cons {T : TypeId} {b gL : Nat} {H : GHeap} {r : Nat → Option Addr} {cs : List Con} (h : RowsN b H r cs gL) (hg : H.get gL = some (.row (conV r cs) T true)) (hb : b ≤ gL) : ConsIn T b H gL r cs := ⟨hb, hg, fun i hi => by
  obtain ⟨g, e, h1, h2, _, h4⟩ := h.row i hi
  exact ⟨g, e, h1, h2, h4⟩⟩
theorem flat2_get {f : Nat → List Value} (h2 : ∀ i, (f i).length = 2) : ∀ {n i j : Nat}, i < n → j < 2 → ((List.range n).flatMap f)[i * 2 + j]? = (f i)[j]?
  | 0, _, _, h, _ => by omega
  | n + 1, i, j, h, hj => by
    have hl : ∀ m, ((List.range m).flatMap f).length = m * 2 := fun m => by
      induction m with
      | zero => rfl
      | succ m ih => rw [List.range_succ, List.flatMap_append, List.length_append, ih]; simp [h2]; omega
    rw [List.range_succ, List.flatMap_append]
    by_cases e : i < n
    · rw [List.getElem?_append_left (by rw [hl]; omega)]
      exact flat2_get h2 e hj
    · obtain rfl : i = n := by omega
      rw [List.getElem?_append_right (by rw [hl]; omega), hl]
      simp
theorem conV_mem {H : GHeap} {g : Nat} {e : TypeId} {own : Bool} {r : Nat → Option Addr} {cs : List Con} (hg : H.get g = some (.row (conV r cs) e own)) {i : Nat} (hi : i < cs.length) : MemN H g (0 + (i : Int).toNat * 2) 2 ((cs.getD i .z).cells ⟨r i⟩) := by
  refine ⟨rfl, fun j v hv => ?_⟩
  have hj : j < 2 := (List.getElem?_eq_some_iff.1 hv).1
  rw [GHeap.cell_of hg, Int.toNat_natCast, Nat.zero_add]
  unfold conV
  rw [flat2_get (f := fun i => (cs.getD i .z).cells ⟨r i⟩) (fun _ => rfl) hi hj]
  exact hv
theorem Fun.cone_of_sol {d : Fun} {x : Nat} {l : List Int} (h : d.Is) (hx : (x : Int) < d.t.obj) (hl : l ∈ (d.cnet (x : Int)).sols d.ob.length) : d.Cone ⟨(x : Int), l⟩ := by
  have hg : (d.cnet (x : Int)).Good d.ob.length := by
    refine ⟨fun y v hv => ?_, fun a ha => ?_, fun a ha => ?_⟩
    · obtain ⟨_, _, _, _, rfl⟩ := Cat.mem_hom.1 hv; omega
    · have := h.arr (a := a) ha
      show (d.s.src.getD a 0).toNat < _; omega
    · have := h.arr (a := a) ha
      show (d.s.tgt.getD a 0).toNat < _; omega
  obtain ⟨h1, h2, h3⟩ := (Net.mem_sols hg).1 hl
  have hh : ∀ j, j < l.length → ∃ z : Nat, z < d.t.src.length ∧ d.t.src.getD z 0 = (x : Int) ∧ d.t.tgt.getD z 0 = d.ob.getD j 0 ∧ l.getD j 0 = z := fun j hj => Cat.mem_hom.1 (h2 j (by omega))
  refine ⟨⟨by show (0 : Int) ≤ x; omega, hx⟩, h1, fun j hj => ?_, fun j hj => ?_, fun a ha => ?_⟩
  · obtain ⟨z, z1, _, _, z4⟩ := hh j hj
    show 0 ≤ l.getD j 0 ∧ l.getD j 0 < _
    rw [z4]; omega
  · obtain ⟨z, z1, z2, z3, z4⟩ := hh j hj
    show d.t.src.getD (l.getD j 0).toNat 0 = (x : Int) ∧ d.t.tgt.getD (l.getD j 0).toNat 0 = _
    rw [z4, Int.toNat_natCast]; exact ⟨z2, z3⟩
  · exact of_decide_eq_true (h3 a ha)
theorem Fun.coneL_cone {d : Fun} (h : d.Is) : ∀ {n : Nat}, (n : Int) ≤ d.t.obj → ∀ c ∈ d.coneL n, d.Cone c
  | 0, _, c, hc => by simp [coneL] at hc
  | n + 1, hn, c, hc => by
    rw [Fun.coneL_succ, List.mem_append, List.mem_map] at hc
    rcases hc with hc | ⟨l, hl, rfl⟩
    · exact Fun.coneL_cone h (by omega) c hc
    · exact Fun.cone_of_sol h (by omega) hl
theorem ConsIn.sl {T : TypeId} {b g : Nat} {H : GHeap} {r : Nat → Option Addr} {cs : List Con} (h : ConsIn T b H g r cs) : SlA H (some ⟨g, 0, none⟩) (cs.length * 2) (fun i => (conV r cs).getD i (.bool false)) := SlA.of_row h.2.1 (length_conV _ _)
theorem ConsIn.mem {T : TypeId} {b g : Nat} {H : GHeap} {r : Nat → Option Addr} {cs : List Con} (h : ConsIn T b H g r cs) : ∀ i, i < cs.length → MemN H g (0 + (i : Int).toNat * 2) 2 ((cs.getD i .z).cells ⟨r i⟩) := fun _ hi => conV_mem h.2.1 hi
theorem ConsIn.inn {T : TypeId} {b g : Nat} {H : GHeap} {r : Nat → Option Addr} {cs : List Con} (h : ConsIn T b H g r cs) : ∀ i, i < cs.length → (cs.getD i .z).In H ⟨r i⟩ := fun i hi => (h.2.2 i hi).ints
theorem ConsAt.cin {T e : TypeId} {b g : Nat} {H : GHeap} {r : Nat → Option Addr} {cs : List Con} (h : ConsAt T e b H g r cs) (hb : b ≤ g) : ConsIn T b H g r cs := ⟨hb, h.hd, fun i hi => by
  obtain ⟨x, h1, h2, h3⟩ := h.rows.row i (by rw [List.length_map]; exact hi)
  have ee : (cs.map Con.lg).getD i [] = (cs.getD i .z).lg := by
    rw [List.getD_eq_getElem?_getD, List.getD_eq_getElem?_getD, List.getElem?_map, List.getElem?_eq_getElem hi]; rfl
  exact ⟨x, e, h1, h2, by rw [← ee]; exact h3⟩⟩
end Go.GL
namespace Go.Proofs.Ytagkeabmdodfiaa
open Go Go.GL Go.RowKit Go.Proofs
theorem sl_93_Hk : sliceT Try.prog 93 = some (98, 2) := by kernel_rfl
theorem ze_98_Hk : zeroT Try.prog 98 = some ([.int .i64 0, .slice none 0 0], 2) := by kernel_rfl
theorem bt_98_Hk : buildT Try.prog 98 = some ([.int .i64 0, .slice none 0 0], [(0, 1), (1, 1)]) := by kernel_rfl
theorem by_98_Hk : (Try.prog.info? 98).map (·.bytes) = some 32 := by kernel_rfl
set_option maxHeartbeats 4000000 in
theorem l12Cones_c {d : Fun} {p : FunP} {H : GHeap} (hin : d.In H p := by assumption) (hs : d.Small := by assumption) (hI : d.Is := by assumption) :
    GCalls Try.prog 98 [.agg (d.cells p).toArray] H (fun v H' => H.Le H' ∧ ∃ g r, v = .slice (some ⟨g, 0, none⟩) ((d.coneL d.t.obj.toNat).take 401).length ((d.coneL d.t.obj.toNat).take 401).length ∧ ConsIn 98 H.next H' g r ((d.coneL d.t.obj.toNat).take 401)) := by
  have hob := hI.2.1.1.obj
  refine GCalls.body (N := 47) (rs := [.tmp 2]) Try.func98 rfl rfl rfl rfl (fun Qx hret hend => ?_)
  refine .forget (fr' := [(0, some _)]) ⟨rfl, trivial⟩ ?_
  have hle := GHeap.Le.refl H
  have base_hin := hin
  refine .seq (fun K1 hK1 => .region ?_)
  refine .r rfl rfl rfl (.boxR rfl sz_33_E rfl) ?_
  rintro _ H1 ⟨g1, rfl, le1, ge1, at1⟩
  replace hle := hle.trans le1
  have lt_at1 := GHeap.ltg at1
  replace hin := base_hin.mono hle
  have hb1 : Fun.At _ g1 0 d p := ⟨Mem.of_get at1, hin⟩
  refine .mv rfl (.nil (hK1 _ _ (.seq (fun K2 hK2 => .region ?_))))
  refine .r rfl rfl rfl (.litR rfl sl_93_Hk ze_98_Hk rfl rfl (by omega) (by omega) rfl rfl) ?_
  rintro _ H7 ⟨g7, rfl, le7, ge7, at7⟩
  replace hle := hle.trans le7
  replace at1 := le7.2 _ _ at1
  have lt_at7 := GHeap.ltg at7
  replace hin := base_hin.mono hle
  clear hb1
  have hb1 : Fun.At _ g1 0 d p := ⟨Mem.of_get at1, hin⟩
  refine .mv rfl (.nil (hK2 _ _ (.seq (fun K3 hK3 => .seq (fun K4 hK4 => .region (.mv rfl (.nil (hK4 _ _ ?_))))))))
  refine .block ?_
  refine .loopR (σ := Nat × (Nat → Option Addr) × Nat × Nat) [(1, some _)] (fun (x, rr, gL3, nL3) => [(4, some (.int .i64 (x : Int))), (3, some (.slice (some ⟨gL3, 0, none⟩) nL3 nL3))]) (fun (x, rr, gL3, nL3) H' => St [g7] H7 H' ∧ H'.get gL3 = some (.row (conV rr ((d.coneL x).take 401)) 98 true) ∧ (gL3 = g7 ∨ H7.next ≤ gL3) ∧ nL3 = ((d.coneL x).take 401).length ∧ x ≤ d.t.obj.toNat ∧ RowsN H.next H' rr ((d.coneL x).take 401) gL3) (fun (x, rr, gL3, nL3) => d.t.obj.toNat - x) ((0, fun _ => none, _, _)) ⟨rfl, trivial⟩ ⟨rfl, rfl, trivial⟩ ?_ ?_
  ·
   refine ⟨.refl _ _, by first | assumption | exact at7 | simpa using at7, .inl rfl, by first | rfl | assumption | simp | omega, ?_⟩
   exact ⟨by omega, .nil _ _ _ _⟩
  rintro ⟨x, rr, gL3, nL3⟩ HL1 ⟨lst1, at_L3, pl_L3, ln_L3, hI⟩ KL1 hKL1
  refine .forget (fr' := [(4, some (.int .i64 (x : Int))), (3, some (.slice (some ⟨gL3, 0, none⟩) nL3 nL3)), (1, some _)]) ⟨rfl, rfl, rfl, trivial⟩ ?_
  have ge_L3 : H.next ≤ gL3 := by omega
  have nx_HL1 := lst1.nx
  replace hle := hle.st lst1 (fun k hk => ⟨by omega, trivial⟩)
  replace at1 := lst1.same _ _ ⟨(by first | assumption | omega), trivial⟩ at1
  have lt_at_L3 := GHeap.ltg at_L3
  replace hin := base_hin.mono hle
  clear hb1
  have hb1 : Fun.At _ g1 0 d p := ⟨Mem.of_get at1, hin⟩
  obtain ⟨fs1, ft1, c101, c111, j11, j21⟩ := hb1.get
  have hms1 : MemN _ _ _ _ _ := ⟨rfl, fs1.1⟩
  have hmt1 : MemN _ _ _ _ _ := ⟨rfl, ft1.1⟩
  obtain ⟨hx, hR⟩ := hI
  refine .seq (fun K5 hK5 => .seq (fun K6 hK6 => .region (.mv rfl (.m rfl rfl rfl (.fieldAddr fo_33_1_E rfl) (.m rfl rfl rfl (.fieldAddr fo_31_0_B rfl) ?_)))))
  refine .m rfl rfl rfl (.load on_2_A rfl (by first | assumption | exact Mem.of_get at1 5 _ rfl)) ?_
  refine .m rfl rfl rfl (.cmp rfl rfl rfl) (.mv rfl ?_)
  refine .split (fun h13 => ?_) (fun h13 => ?_)
  ·
   simp only [sps] at h13
   refine .mg rfl rfl rfl rfl rfl (.move rfl) (.mg rfl rfl rfl rfl rfl (.len sl_93_Hk rfl) (.mg rfl rfl rfl rfl rfl (.cmp rfl rfl rfl) (.m rfl rfl rfl (.pickT rfl rfl) (.nil (hK6 _ _ ?_)))))
   refine .cond rfl (fun h17 => ?_) (fun h17 => ?_)
   ·
    simp only [sps] at h17
    have htk : (d.coneL x).take 401 = d.coneL x := List.take_of_length_le (by have q := ln_L3; rw [List.length_take] at q; omega)
    have hcn : (d.coneL x).length ≤ 400 := by have q := ln_L3; rw [htk] at q; omega
    have hxo : (x : Int) < d.t.obj := by omega
    have hfit := Fun.con_par hI hxo
    refine .skip ?_
    refine hK5 _ _ (.seq (fun K7 hK7 => ?_))
    refine .block ?_
    refine .seq (fun K8 hK8 => ?_)
    refine .regionD mo_B (.q 0 (.q 1 (.q 2 (.q 3 (.q 4 (.q 6 (.q 7 (.q 8 (.q 9 (.c 5 1 (.c 10 0 (.q 11 (.done))))))))))))) (by kernel_rfl) ?_
    refine .m rfl rfl rfl rfl (.refl _) (.fieldAddr fo_33_0_E rfl) ?_
    refine .m rfl rfl rfl rfl (.refl _) (.loadM ag_31_D rfl (by assumption)) ?_
    refine .m rfl rfl rfl rfl (.refl _) (.fieldAddr fo_33_1_E rfl) ?_
    refine .m rfl rfl rfl rfl (.refl _) (.loadM ag_31_D rfl (by assumption)) ?_
    refine .mv rfl rfl ?_
    refine .m rfl rfl rfl rfl (.refl _) (.loadM ag_33_E rfl ⟨rfl, Mem.of_get at1⟩) ?_
    refine .mv rfl rfl (.m rfl rfl rfl rfl (.refl _) (.len sl_93_Hk rfl) ?_)
    refine .m rfl rfl rfl rfl (.refl _) (.sub (r := ((401 - (d.coneL x).length : Nat) : Int)) rfl rfl (by rw [ln_L3, htk]; omega) (by omega) (by omega)) ?_
    refine .call1 rfl rfl rfl rfl rfl @Try.call123 rfl (l06Constant_c (d := d) (y := x) hin hs hI hxo) ?_
    rintro _ H25 ⟨le25, p25, rfl, v25⟩
    have hbl := le25
    refine ⟨hbl, ?_⟩
    have nx_H25 := le25.1
    replace hle := hle.trans le25
    replace lst1 := lst1.le le25
    replace at1 := le25.2 _ _ at1
    replace at_L3 := le25.2 _ _ at_L3
    replace hin := base_hin.mono hle
    clear hb1 fs1 ft1 c101 c111 j11 j21 hms1 hmt1
    have hb1 : Fun.At _ g1 0 d p := ⟨Mem.of_get at1, hin⟩
    have i25 := v25.inn
    refine .call0 rfl rfl rfl rfl rfl @Try.call122 rfl (l07Find_c (iso := false) (M := 401 - (d.coneL x).length) (f := d.con x) (k := d) i25 hin hfit (by omega) (by omega)) ?_
    rintro _ H30 ⟨le30, a30, r30, rfl, v30⟩
    have nx_H30 := le30.1
    replace hle := hle.trans le30
    replace lst1 := lst1.le le30
    replace at1 := le30.2 _ _ at1
    replace at_L3 := le30.2 _ _ at_L3
    have bs_v30 := v30
    have lv_v30 : Keep H25.next H30 H30 := fun _ _ _ h => h
    replace hin := base_hin.mono hle
    clear hb1
    have hb1 : Fun.At _ g1 0 d p := ⟨Mem.of_get at1, hin⟩
    clear i25
    refine .mv rfl rfl ?_
    refine .done ?_
    refine hK8 _ _ (.seq (fun K9 hK9 => .region ?_))
    have hso := Fun.con_sols hI hxo
    have hFl : ((((d.con x).net d false).sols (d.con x).ob.length).take (401 - (d.coneL x).length)) = d.coneF x (d.coneL x).length := by rw [hso]; rfl
    have hFlen : ((((d.con x).net d false).sols (d.con x).ob.length).take (401 - (d.coneL x).length)).length = (d.coneF x (d.coneL x).length).length := by rw [hFl]
    have hFn : (d.coneF x (d.coneL x).length).length ≤ 401 := by unfold Fun.coneF; rw [List.length_take]; omega
    rw [htk, ← Fun.coneI_zero d x (d.coneL x).length] at at_L3 hR ln_L3
    refine .mv rfl (.nil (hK9 _ _ ?_))
    refine .block ?_
    refine .loopR (σ := Nat × (Nat → Option Addr) × Nat × Nat) [(1, some _), (4, some _), (5, some _), (14, some _), (15, some _), (16, some _)] (fun (i, r2, gL3v2, nL3v2) => [(6, some (.int .i64 (i : Int))), (3, some (.slice (some ⟨gL3v2, 0, none⟩) nL3v2 nL3v2))]) (fun (i, r2, gL3v2, nL3v2) H' => St [gL3] H30 H' ∧ H'.get gL3v2 = some (.row (conV r2 (d.coneI x (d.coneL x).length i)) 98 true) ∧ (gL3v2 = gL3 ∨ H30.next ≤ gL3v2) ∧ nL3v2 = (d.coneI x (d.coneL x).length i).length ∧ i ≤ (d.coneF x (d.coneL x).length).length ∧ RowsN H.next H' r2 (d.coneI x (d.coneL x).length i) gL3v2) (fun (i, r2, gL3v2, nL3v2) => (d.coneF x (d.coneL x).length).length - i) ((0, rr, _, _)) ⟨rfl, rfl, rfl, rfl, rfl, rfl, trivial⟩ ⟨rfl, rfl, trivial⟩ ?_ ?_
    ·
     refine ⟨.refl _ _, by first | assumption | exact at_L3 | simpa using at_L3, .inl rfl, by first | rfl | assumption | simp | omega, ?_⟩
     exact ⟨by omega, hR.mono (le25.trans le30)⟩
    rintro ⟨i, r2, gL3v2, nL3v2⟩ HL2 ⟨lst2, at_L3v2, pl_L3v2, ln_L3v2, hI⟩ KL2 hKL2
    refine .forget (fr' := [(6, some (.int .i64 (i : Int))), (3, some (.slice (some ⟨gL3v2, 0, none⟩) nL3v2 nL3v2)), (1, some _), (4, some _), (5, some _), (14, some _), (15, some _), (16, some _)]) ⟨rfl, rfl, rfl, rfl, rfl, rfl, rfl, rfl, trivial⟩ ?_
    have ge_L3v2 : H.next ≤ gL3v2 := by omega
    have nx_HL2 := lst2.nx
    replace hle := hle.st lst2 (fun k hk => ⟨by omega, trivial⟩)
    replace lst1 := lst1.st lst2 (fun k hk ho => by simp only [out, and_true] at ho ⊢ <;> first | exact ho | exact ho.1 | exact ho.2 | exact ho.2.1 | exact ho.2.2 | exact ho.2.2.1 | exact ho.2.2.2 | omega)
    replace at1 := lst2.same _ _ ⟨(by first | assumption | omega), trivial⟩ at1
    replace lv_v30 := Keep.st lv_v30 lst2 (fun k hb hk => ⟨by omega, trivial⟩)
    replace v30 := bs_v30.keep lv_v30 (Nat.le_refl _)
    replace hin := base_hin.mono hle
    clear hb1
    have hb1 : Fun.At _ g1 0 d p := ⟨Mem.of_get at1, hin⟩
    have i30 := v30.intss
    obtain ⟨hi, hR2⟩ := hI
    have hlen := Fun.coneI_len (d := d) (x := x) (i := i) rfl hcn
    have hcl2 := length_conV r2 (d.coneI x (d.coneL x).length i)
    refine .seq (fun K10 hK10 => .seq (fun K11 hK11 => .region (.mv rfl (.mv rfl (.m rfl rfl rfl (.len sl_23_B rfl) (.m rfl rfl rfl (.cmp rfl rfl rfl) (.nil (hK11 _ _ ?_))))))))
    refine .cond rfl (fun h34 => ?_) (fun h34 => ?_)
    ·
     simp only [sps] at h34
     have hE2 : d.coneI x (d.coneL x).length (i + 1) = d.coneI x (d.coneL x).length i ++ [⟨(x : Int), ((((d.con x).net d false).sols (d.con x).ob.length).take (401 - (d.coneL x).length)).getD i []⟩] := by rw [hFl]; exact Fun.coneI_succ (by omega)
     refine .skip ?_
     refine hK10 _ _ (.seq (fun K12 hK12 => ?_))
     refine .block ?_
     refine .region (.mv rfl (.mv rfl (.mv rfl (.mv rfl ?_))))
     refine .m rfl rfl rfl (.idxN sl_23_B (Intss.sl (by assumption)) rfl rfl (by omega)) ?_
     refine .m rfl rfl rfl (.loadR on_22_B (by assumption) rfl (by omega)) ?_
     refine .m rfl rfl rfl (.build bt_98_Hk rfl rfl rfl) ?_
     refine .r rfl rfl rfl (.litR rfl sl_93_Hk ze_98_Hk rfl rfl (by omega) (by omega) rfl rfl) ?_
     rintro _ H44 ⟨g44, rfl, le44, ge44, at44⟩
     replace hle := hle.trans le44
     replace lst2 := lst2.le le44
     replace at1 := le44.2 _ _ at1
     replace at_L3v2 := le44.2 _ _ at_L3v2
     replace lv_v30 := Keep.le lv_v30 le44
     have lt_at44 := GHeap.ltg at44
     replace hin := base_hin.mono hle
     clear hb1
     have hb1 : Fun.At _ g1 0 d p := ⟨Mem.of_get at1, hin⟩
     clear i30
     refine .r rfl rfl rfl (.appendV rfl sl_93_Hk ze_98_Hk rfl by_98_Hk sl_93_Hk rfl rfl (by assumption) (by assumption) (by first | omega | (simp <;> omega)) rfl rfl (by omega) (by omega)) ?_
     rintro _ H45 ⟨g45, rfl, st45, ge45, at45⟩
     replace hle := hle.st st45 (fun k hk => ⟨by omega, trivial⟩)
     replace lst2 := lst2.st st45 (fun k hk ho => by simp only [out, and_true] at ho ⊢ <;> first | exact ho | exact ho.1 | exact ho.2 | exact ho.2.1 | exact ho.2.2 | exact ho.2.2.1 | exact ho.2.2.2 | omega)
     replace at1 := st45.same _ _ ⟨(by first | assumption | omega), trivial⟩ at1
     replace lv_v30 := Keep.st lv_v30 st45 (fun k hb hk => ⟨by omega, trivial⟩)
     replace v30 := bs_v30.keep lv_v30 (Nat.le_refl _)
     replace hin := base_hin.mono hle
     clear hb1
     have hb1 : Fun.At _ g1 0 d p := ⟨Mem.of_get at1, hin⟩
     refine .mv rfl (.nil (hK12 _ _ (.region (.mv rfl ?_))))
     refine .m rfl rfl rfl (.add rfl rfl rfl (by omega) (by omega)) ?_
     refine .mv rfl (.nil ?_)
     refine hKL2 ((i + 1, upd r2 (d.coneI x (d.coneL x).length i).length (r30 i), _, _)) _ _ ?_ ?_ ⟨rfl, rfl, rfl, rfl, rfl, rfl, rfl, rfl, trivial⟩
     ·
      refine ⟨lst2, by first | assumption | (rw [hE2, conV_snoc]; assumption) | (rw [hE2]; assumption), by omega, by first | omega | (simp only [List.length_append, List.length_cons, List.length_nil] <;> omega) | (rw [hE2, conV_snoc] <;> (first | omega | (simp only [List.length_append, List.length_cons, List.length_nil] <;> omega))) | (rw [hE2] <;> (first | omega | (simp only [List.length_append, List.length_cons, List.length_nil] <;> omega))), ?_⟩
      obtain ⟨w1, y1, k1, k2, k3⟩ := bs_v30.rowAt (i := i) (by omega)
      obtain ⟨w2, y2, m1, m2, m3⟩ := v30.rowAt (i := i) (by omega)
      have hw : w1 = w2 := by rw [k1] at m1; cases m1; rfl
      subst hw
      have hwl := GHeap.ltg k3
      rw [hE2]
      exact ⟨by omega, ((hR2.mono le44).turn st45 (by omega)).snoc ⟨w1, y2, m1, by omega, by omega, m3⟩⟩
     (dsimp only; omega)
    simp only [sps] at h34
    refine .exit ?_
    refine hK7 _ _ (.region (.mv rfl ?_))
    refine .m rfl rfl rfl (.add rfl rfl rfl (by omega) (by omega)) ?_
    refine .mv rfl (.nil ?_)
    obtain rfl : i = (d.coneF x (d.coneL x).length).length := by omega
    have hE := Fun.coneI_all (d := d) (x := x) rfl hcn
    refine hKL1 ((x + 1, r2, _, _)) _ _ ?_ ?_ ⟨rfl, rfl, rfl, trivial⟩
    ·
     refine ⟨lst1, by first | assumption | (rw [← hE]; assumption), by omega, by first | omega | (simp only [List.length_append, List.length_cons, List.length_nil] <;> omega) | (rw [← hE] <;> (first | omega | (simp only [List.length_append, List.length_cons, List.length_nil] <;> omega))), ?_⟩
     exact ⟨by omega, by rw [← hE]; exact hR2⟩
    (dsimp only; omega)
   simp only [sps] at h17
   refine .exit ?_
   refine hK3 _ _ (.seq (fun K13 hK13 => .region (.mv rfl (.mv rfl (.nil (hK13 _ _ ?_))))))
   refine .ret ?_
   refine hret _ _ ?_
   refine ⟨_, rfl, ?_⟩
   have hcut := Fun.coneL_cut (d := d) (x := x) (n := d.t.obj.toNat) (by omega) (by omega)
   rw [hcut]
   exact ⟨hle, gL3, rr, by rw [ln_L3], hR.cons at_L3 (by omega)⟩
  simp only [sps] at h13
  refine .sg rfl rfl rfl rfl rfl (.sg rfl rfl rfl rfl rfl (.sg rfl rfl rfl rfl rfl (.m rfl rfl rfl (.pickF rfl rfl) (.nil (hK6 _ _ ?_)))))
  refine .condF rfl ?_
  refine .exit ?_
  refine hK3 _ _ (.seq (fun K14 hK14 => .region (.mv rfl (.mv rfl (.nil (hK14 _ _ ?_))))))
  refine .ret ?_
  refine hret _ _ ?_
  refine ⟨_, rfl, ?_⟩
  have hxe : x = d.t.obj.toNat := by omega
  subst hxe
  exact ⟨hle, gL3, rr, by rw [ln_L3], hR.cons at_L3 (by omega)⟩
end Go.Proofs.Ytagkeabmdodfiaa
namespace Go.Proofs.Ytagkeabmdodfiaa
open Go Go.GL Go.RowKit Go.Proofs
theorem on_119_Hh : oneT Try.prog 119 = true := by kernel_rfl
theorem on_75_Hh : oneT Try.prog 75 = true := by kernel_rfl
theorem on_107_Hh : oneT Try.prog 107 = true := by kernel_rfl
theorem sz_75_Hh : (Try.prog.info? 75).map (·.size) = some 1 := by kernel_rfl
theorem sz_119_Hh : (Try.prog.info? 119).map (·.size) = some 1 := by kernel_rfl
theorem sz_127_Hh : (Try.prog.info? 127).map (·.size) = some 1 := by kernel_rfl
theorem ze_107_Hh : zeroT Try.prog 107 = some ([.nilFunc], 1) := by kernel_rfl
theorem sz_107_Hh : (Try.prog.info? 107).map (·.size) = some 1 := by kernel_rfl
structure LgBox (gf of gc N fn fc : Nat) (w : Int) (cap : Array Value) (b1 b2 b3 b4 b5 b6 b7 : Nat) (H : GHeap) : Prop where
  k1 : H.get b1 = some (.row [.pointer (some ⟨gf, of + 0, none⟩)] 127 true)
  k2 : H.get b2 = some (.row [.func (.func fn) #[] cap] 119 true)
  k3 : H.get b3 = some (.row [.slice (some ⟨gc, 0, none⟩) N N] 22 true)
  k4 : H.get b4 = some (.row [.pointer (some ⟨gf, of + 5, none⟩)] 127 true)
  k5 : H.get b5 = some (.row [.int .i64 w] 2 true)
  k6 : H.get b6 = some (.row [.pointer (some ⟨gf, of, none⟩)] 75 true)
  k7 : H.get b7 = some (.row [.func (.func fc) #[] #[.pointer (some ⟨b1, 0, none⟩), .pointer (some ⟨b2, 0, none⟩), .pointer (some ⟨b3, 0, none⟩), .pointer (some ⟨b4, 0, none⟩), .pointer (some ⟨b5, 0, none⟩), .pointer (some ⟨b6, 0, none⟩), .pointer (some ⟨b7, 0, none⟩)]] 107 true)
def lgCap (b1 b2 b3 b4 b5 b6 b7 : Nat) : List Value := [.pointer (some ⟨b1, 0, none⟩), .pointer (some ⟨b2, 0, none⟩), .pointer (some ⟨b3, 0, none⟩), .pointer (some ⟨b4, 0, none⟩), .pointer (some ⟨b5, 0, none⟩), .pointer (some ⟨b6, 0, none⟩), .pointer (some ⟨b7, 0, none⟩)]
def LgSpec (f : Fun) (w : Int) (A : Nat → List (List Int) → Nat → GHeap → Prop) (most e0 g1 b gf of gc fn : Nat) (cap : Array Value) (b1 b2 b3 b4 b5 b6 b7 : Nat) (H0 : GHeap) (r : Nat) : Prop :=
  ∀ (x gF : Nat) (co : List Int) (fs : List (List Int)) (H : GHeap), x + r = f.ob.length → H0.Le H → LgBox gf of gc f.ob.length fn 124 w cap b1 b2 b3 b4 b5 b6 b7 H → H.get gc = some (.row (ints co) 2 true) → co.length = f.ob.length →
    (∀ i, i < x → 0 ≤ co.getD i 0 ∧ co.getD i 0 < f.t.src.length) → A b fs gF H → fs.length ≤ most → gF < H.next → H0.next ≤ gF → (gF < e0 ∨ b ≤ gF) → b ≤ H.next →
    GCalls Try.prog 124 (.int .i64 (x : Int) :: lgCap b1 b2 b3 b4 b5 b6 b7) H (fun v H' => ∃ gF' co', v = .bool (decide (fs.length + (searchL (f.cnet w).cand (f.cnet w).ok r (co.take x)).length ≤ most)) ∧ (gF' = gF ∨ H.next ≤ gF') ∧ gF' < H'.next ∧ St [gc, g1, gF] H H' ∧
      H'.get gc = some (.row (ints co') 2 true) ∧ co'.length = f.ob.length ∧ co'.take x = co.take x ∧ A b ((fs ++ searchL (f.cnet w).cand (f.cnet w).ok r (co.take x)).take (most + 1)) gF' H')
set_option maxHeartbeats 4000000 in
theorem legs0_c {f : Fun} {p : FunP} {w : Int} {A : Nat → List (List Int) → Nat → GHeap → Prop} {most e0 g1 b gf of gc fn : Nat} {cap : Array Value} {b1 b2 b3 b4 b5 b6 b7 : Nat} {H0 : GHeap} (hf : Fun.At H0 gf of f p) (hP : f.Is)
    (hH : Hears Try.prog fn cap e0 g1 most 2 A)
    (he0 : H0.next ≤ e0) (hg1 : H0.next ≤ g1) (hg2 : g1 < e0) (c0 : e0 ≤ gc ∧ gc < b) (c1 : e0 ≤ b1 ∧ b1 < b ∧ b1 ≠ gc) (c2 : e0 ≤ b2 ∧ b2 < b ∧ b2 ≠ gc) (c3 : e0 ≤ b3 ∧ b3 < b ∧ b3 ≠ gc) (c4 : e0 ≤ b4 ∧ b4 < b ∧ b4 ≠ gc) (c5 : e0 ≤ b5 ∧ b5 < b ∧ b5 ≠ gc) (c6 : e0 ≤ b6 ∧ b6 < b ∧ b6 ≠ gc) (c7 : e0 ≤ b7 ∧ b7 < b ∧ b7 ≠ gc) :
    LgSpec f w A most e0 g1 b gf of gc fn cap b1 b2 b3 b4 b5 b6 b7 H0 0 := by
  have hs := hP.1.1
  have hol := hP.2.2.ol
  have hob := hs.obj
  intro x gF co fs H hx hle0 hB hgc hl hr hA hfs hF hF0 hF1 hb
  obtain ⟨k1, k2, k3, -, -, -, -⟩ := hB
  refine GCalls.body (N := 94) (rs := [.tmp 9]) Try.func124 rfl rfl rfl rfl (fun Qx hret hend => ?_)
  refine .forget (fr' := [(0, some _), (1, some _), (2, some _), (3, some _), (4, some _), (5, some _), (6, some _), (7, some _)]) ⟨rfl, rfl, rfl, rfl, rfl, rfl, rfl, rfl, trivial⟩ ?_
  have hfo := St.refl [gc, g1, gF] H
  have hz := hle0.st hfo (fun k hk => ⟨by omega, by omega, by omega, trivial⟩)
  have hF2 := hf.mono hz
  obtain ⟨fsf, -, -, -, -, -⟩ := hF2.get
  obtain ⟨s0, -, -, -, -, -, -, -, -⟩ := fsf.get
  refine .seq (fun K1 hK1 => .region (.mv rfl (.nil (hK1 _ _ ?_))))
  refine .scope ?_
  refine .seq (fun K2 hK2 => .seq (fun K3 hK3 => .region (.mv rfl ?_)))
  refine .m rfl rfl rfl (.load on_127_F rfl (by first | assumption | exact Mem.of_get k1 0 _ rfl)) ?_
  refine .m rfl rfl rfl (.nilCheck rfl) (.m rfl rfl rfl (.fieldAddr fo_31_0_B rfl) ?_)
  refine .m rfl rfl rfl (.load on_2_A rfl (by assumption)) ?_
  refine .m rfl rfl rfl (.cmp rfl rfl rfl) (.nil (hK3 _ _ ?_))
  refine .cond rfl (fun h21 => ?_) (fun h21 => ?_)
  ·
   try simp only [sps] at h21
   refine .seq (fun K4 hK4 => .region ?_)
   refine .m rfl rfl rfl (.load on_119_Hh rfl (by first | assumption | exact Mem.of_get k2 0 _ rfl)) ?_
   refine .m rfl rfl rfl (.load on_22_B rfl (by first | assumption | exact Mem.of_get k3 0 _ rfl)) ?_
   refine .callV rfl rfl rfl rfl rfl hH.code rfl ((show GCalls _ fn ([.slice (some ⟨gc, 0, none⟩) f.ob.length f.ob.length] ++ cap.toList) _ _ from hl ▸ hH.run hA c0.1 c0.2 (by omega) hb hgc hfs (by omega) hF)) ?_
   rintro _ H24 ⟨rfl, gF24, hg24, hl24, st24, hA24⟩
   replace hfo := hfo.st st24 (fun k hk ho => by simp only [out, and_true] at ho ⊢ <;> first | exact ho | exact ho.1 | exact ho.2 | exact ho.2.1 | exact ho.2.2 | exact ho.2.2.1 | exact ho.2.2.2 | omega)
   replace hgc := st24.same _ _ ⟨(by first | assumption | omega), (by first | assumption | omega), trivial⟩ hgc
   clear hz hF2 fsf s0
   have hz := hle0.st hfo (fun k hk => ⟨by omega, by omega, by omega, trivial⟩)
   have hF2 := hf.mono hz
   obtain ⟨fsf, -, -, -, -, -⟩ := hF2.get
   refine .mv rfl (.nil (hK4 _ _ ?_))
   refine .ret ?_
   refine hret _ _ ?_
   refine ⟨_, rfl, ?_⟩
   have hx0 : co.take x = co := List.take_of_length_le (by omega)
   refine ⟨gF24, co, ?_, hg24, hl24, hfo, hgc, hl, rfl, ?_⟩
   · rw [hx0]; rfl
   · rw [hx0, show searchL (f.cnet w).cand (f.cnet w).ok 0 co = [co] from rfl, List.take_of_length_le (by simp; omega)]
     exact hA24
  simp only [sps] at h21; omega
set_option maxHeartbeats 4000000 in
theorem legsS_c {f : Fun} {p : FunP} {w : Int} {A : Nat → List (List Int) → Nat → GHeap → Prop} {most e0 g1 b gf of gc fn : Nat} {cap : Array Value} {b1 b2 b3 b4 b5 b6 b7 : Nat} {H0 : GHeap} (hf : Fun.At H0 gf of f p) (hP : f.Is)
    (hH : Hears Try.prog fn cap e0 g1 most 2 A)
    (he0 : H0.next ≤ e0) (hg1 : H0.next ≤ g1) (hg2 : g1 < e0) (c0 : e0 ≤ gc ∧ gc < b) (c1 : e0 ≤ b1 ∧ b1 < b ∧ b1 ≠ gc) (c2 : e0 ≤ b2 ∧ b2 < b ∧ b2 ≠ gc) (c3 : e0 ≤ b3 ∧ b3 < b ∧ b3 ≠ gc) (c4 : e0 ≤ b4 ∧ b4 < b ∧ b4 ≠ gc) (c5 : e0 ≤ b5 ∧ b5 < b ∧ b5 ≠ gc) (c6 : e0 ≤ b6 ∧ b6 < b ∧ b6 ≠ gc) (c7 : e0 ≤ b7 ∧ b7 < b ∧ b7 ≠ gc) {r : Nat} (ih : LgSpec f w A most e0 g1 b gf of gc fn cap b1 b2 b3 b4 b5 b6 b7 H0 r) :
    LgSpec f w A most e0 g1 b gf of gc fn cap b1 b2 b3 b4 b5 b6 b7 H0 (r + 1) := by
  have hs := hP.1.1
  have n40 := hs.n40
  have hol := hP.2.2.ol
  have hob := hs.obj
  have htl := hs.tl
  have hal2 := hP.2.2.al
  have ht40 := hP.2.1.1.n40
  have hTS := hP.2.1.1
  have hcl0 := hTS.cl
  intro x gF co fs H hx hle0 hB hgc hl hr hA hfs hF hF0 hF1 hb
  obtain ⟨k1, k2, k3, k4, k5, k6, k7⟩ := hB
  refine GCalls.body (N := 94) (rs := [.tmp 9]) Try.func124 rfl rfl rfl rfl (fun Qx hret hend => ?_)
  refine .forget (fr' := [(0, some _), (1, some _), (2, some _), (3, some _), (4, some _), (5, some _), (6, some _), (7, some _)]) ⟨rfl, rfl, rfl, rfl, rfl, rfl, rfl, rfl, trivial⟩ ?_
  have lt_hgc := GHeap.ltg hgc
  have hfo := St.refl [gc, g1, gF] H
  have hz := hle0.st hfo (fun k hk => ⟨by omega, by omega, by omega, trivial⟩)
  have hF2 := hf.mono hz
  obtain ⟨fsf, ftf, c10f, -, j1f, -⟩ := hF2.get
  obtain ⟨s0, -, -, -, -, -, -, -, -⟩ := fsf.get
  refine .seq (fun K1 hK1 => .region (.mv rfl (.nil (hK1 _ _ ?_))))
  refine .scope ?_
  refine .seq (fun K2 hK2 => .seq (fun K3 hK3 => .region (.mv rfl ?_)))
  refine .m rfl rfl rfl (.load on_127_F rfl (by first | assumption | exact Mem.of_get k1 0 _ rfl)) ?_
  refine .m rfl rfl rfl (.nilCheck rfl) (.m rfl rfl rfl (.fieldAddr fo_31_0_B rfl) ?_)
  refine .m rfl rfl rfl (.load on_2_A rfl (by assumption)) ?_
  refine .m rfl rfl rfl (.cmp rfl rfl rfl) (.nil (hK3 _ _ ?_))
  refine .cond rfl (fun h21 => ?_) (fun h21 => ?_)
  ·
   simp only [sps] at h21; omega
  try simp only [sps] at h21
  refine .skip ?_
  refine hK2 _ _ (.seq (fun K4 hK4 => ?_))
  refine .label ?_
  refine hK4 _ _ (.seq (fun K5 hK5 => .seq (fun K6 hK6 => ?_)))
  refine .regionD mo_B (.q 0 (.q 1 (.q 2 (.q 3 (.q 4 (.q 5 (.q 6 (.q 7 (.q 8 (.q 11 (.c 9 1 (.q 10 (.done))))))))))))) (by kernel_rfl) ?_
  refine .m rfl rfl rfl rfl (.refl _) (.load on_127_F rfl (by first | assumption | exact Mem.of_get k4 0 _ rfl)) ?_
  refine .m rfl rfl rfl rfl (.refl _) (.load on_2_A rfl (by first | assumption | exact Mem.of_get k5 0 _ rfl)) ?_
  refine .m rfl rfl rfl rfl (.refl _) (.load on_75_Hh rfl (by first | assumption | exact Mem.of_get k6 0 _ rfl)) ?_
  refine .m rfl rfl rfl rfl (.refl _) (.nilCheck rfl) (.m rfl rfl rfl rfl (.refl _) (.fieldAddr fo_33_2_E rfl) ?_)
  refine .m rfl rfl rfl rfl (.refl _) (.load on_22_B rfl (by assumption)) ?_
  refine .mv rfl rfl ?_
  refine .m rfl rfl rfl rfl (.refl _) (.idxN sl_22_A (by assumption) rfl rfl (by omega)) ?_
  refine .m rfl rfl rfl rfl (.refl _) (.loadI on_2_A (by assumption) rfl (by omega)) ?_
  refine .mv rfl rfl ?_
  refine .call1 rfl rfl rfl rfl rfl @Try.call91 rfl (hom_c (c := f.t)) ?_
  rintro _ H34 ⟨le34, g34, rfl, at34, ge34⟩
  have hbl := le34
  refine ⟨hbl, ?_⟩
  replace hfo := hfo.le le34
  replace k1 := le34.2 _ _ k1
  replace k2 := le34.2 _ _ k2
  replace k3 := le34.2 _ _ k3
  replace k4 := le34.2 _ _ k4
  replace k5 := le34.2 _ _ k5
  replace k6 := le34.2 _ _ k6
  replace k7 := le34.2 _ _ k7
  replace hgc := le34.2 _ _ hgc
  have lt_at34 := GHeap.ltg at34
  clear hz hF2 fsf ftf c10f j1f s0
  have hz := hle0.st hfo (fun k hk => ⟨by omega, by omega, by omega, trivial⟩)
  have hF2 := hf.mono hz
  obtain ⟨fsf, -, -, -, -, -⟩ := hF2.get
  have hhl := Cat.hom_le f.t w (f.ob.getD x 0)
  refine .m rfl rfl rfl rfl hbl (.len sl_22_A rfl) ?_
  refine .done ?_
  refine hK6 _ _ ?_
  refine .block ?_
  refine .loopR (σ := Nat × Nat × List Int) [(0, some _), (1, some _), (3, some _), (4, some _), (6, some _), (7, some _), (34, some _), (35, some _)] (fun (j, gV, co') => [(36, some (.int .i64 (j : Int)))]) (fun (j, gV, co') H' => St [gc, g1, gF] H34 H' ∧ H'.get gc = some (.row (ints co') 2 true) ∧ j ≤ (f.t.hom w (f.ob.getD x 0)).length ∧ co'.length = f.ob.length ∧ co'.take x = co.take x ∧ (gV = gF ∨ H34.next ≤ gV) ∧ gV < H'.next ∧ A b (fs ++ chP (f.cnet w) (fun _ => true) r (co.take x) (f.t.hom w (f.ob.getD x 0)) j) gV H' ∧ (fs ++ chP (f.cnet w) (fun _ => true) r (co.take x) (f.t.hom w (f.ob.getD x 0)) j).length ≤ most) (fun (j, gV, co') => (f.t.hom w (f.ob.getD x 0)).length - j) ((0, gF, co)) ⟨rfl, rfl, rfl, rfl, rfl, rfl, rfl, rfl, trivial⟩ ⟨rfl, trivial⟩ ?_ ?_
  ·
   refine ⟨.refl _ _, by first | assumption | exact hgc | simpa using hgc, ?_⟩
   rw [chP_zero, List.append_nil]
   exact ⟨by omega, hl, rfl, .inl rfl, by omega, hH.le hA le34, hfs⟩
  rintro ⟨j, gV, co'⟩ HL1 ⟨lst1, at_Lgc, hI⟩ KL1 hKL1
  refine .forget (fr' := [(36, some (.int .i64 (j : Int))), (0, some _), (1, some _), (3, some _), (4, some _), (6, some _), (7, some _), (34, some _), (35, some _)]) ⟨rfl, rfl, rfl, rfl, rfl, rfl, rfl, rfl, rfl, trivial⟩ ?_
  have nx_HL1 := lst1.nx
  replace hfo := hfo.st lst1 (fun k hk ho => by simp only [out, and_true] at ho ⊢ <;> first | exact ho | exact ho.1 | exact ho.2 | exact ho.2.1 | exact ho.2.2 | exact ho.2.2.1 | exact ho.2.2.2 | omega)
  have ne_b1_gc : NE b1 gc := ⟨by first | assumption | omega⟩
  replace k1 := lst1.same _ _ ⟨ne_b1_gc.ne, (by first | assumption | omega), (by first | assumption | omega), trivial⟩ k1
  have ne_b2_gc : NE b2 gc := ⟨by first | assumption | omega⟩
  replace k2 := lst1.same _ _ ⟨ne_b2_gc.ne, (by first | assumption | omega), (by first | assumption | omega), trivial⟩ k2
  have ne_b3_gc : NE b3 gc := ⟨by first | assumption | omega⟩
  replace k3 := lst1.same _ _ ⟨ne_b3_gc.ne, (by first | assumption | omega), (by first | assumption | omega), trivial⟩ k3
  have ne_b4_gc : NE b4 gc := ⟨by first | assumption | omega⟩
  replace k4 := lst1.same _ _ ⟨ne_b4_gc.ne, (by first | assumption | omega), (by first | assumption | omega), trivial⟩ k4
  have ne_b5_gc : NE b5 gc := ⟨by first | assumption | omega⟩
  replace k5 := lst1.same _ _ ⟨ne_b5_gc.ne, (by first | assumption | omega), (by first | assumption | omega), trivial⟩ k5
  have ne_b6_gc : NE b6 gc := ⟨by first | assumption | omega⟩
  replace k6 := lst1.same _ _ ⟨ne_b6_gc.ne, (by first | assumption | omega), (by first | assumption | omega), trivial⟩ k6
  have ne_b7_gc : NE b7 gc := ⟨by first | assumption | omega⟩
  replace k7 := lst1.same _ _ ⟨ne_b7_gc.ne, (by first | assumption | omega), (by first | assumption | omega), trivial⟩ k7
  replace at34 := lst1.same _ _ ⟨(by first | assumption | omega), (by first | assumption | omega), (by first | assumption | omega), trivial⟩ at34
  clear hz hF2 fsf
  have hz := hle0.st hfo (fun k hk => ⟨by omega, by omega, by omega, trivial⟩)
  have hF2 := hf.mono hz
  obtain ⟨fsf, -, -, -, -, -⟩ := hF2.get
  have i34 := Ints.of_get at34
  obtain ⟨hj, hcl, hct, hgV, hgl, hAL, hfl⟩ := hI
  refine .seq (fun K7 hK7 => .region (.m rfl rfl rfl (.cmp rfl rfl rfl) (.nil (hK7 _ _ (.seq (fun K8 hK8 => ?_))))))
  refine .cond rfl (fun h37 => ?_) (fun h37 => ?_)
  ·
   simp only [sps] at h37
   obtain ⟨v, v1, -, -, v4⟩ := Cat.hom_get (c := f.t) (x := w) (y := f.ob.getD x 0) (i := j) (by omega)
   refine .skip ?_
   refine hK8 _ _ (.seq (fun K9 hK9 => ?_))
   refine .block ?_
   refine .seq (fun K10 hK10 => .region ?_)
   refine .m rfl rfl rfl (.idxN sl_22_A (by first | assumption | exact SlA.of_row at34 (by first | rfl | (simp; done) | (simp <;> omega))) rfl rfl (by omega)) ?_
   refine .m rfl rfl rfl (.loadI on_2_A (by first | assumption | exact Ints.of_get at34) rfl (by omega)) ?_
   refine .mv rfl (.nil (hK10 _ _ (.seq (fun K11 hK11 => .region ?_))))
   refine .m rfl rfl rfl (.load on_22_B rfl (by first | assumption | exact Mem.of_get k3 0 _ rfl)) ?_
   refine .mv rfl (.mv rfl ?_)
   refine .m rfl rfl rfl (.idxN sl_22_A (by first | assumption | exact SlA.of_row at_Lgc (by first | rfl | (simp; done) | (simp <;> omega))) rfl rfl (by omega)) ?_
   refine .r0 rfl rfl (.storeI rfl sz_2_E rfl rfl (by assumption) (by first | omega | (simp <;> omega))) ?_
   rintro _ H6004 ⟨rfl, st6004, at6004⟩
   have nx_H6004 := st6004.nx
   replace hfo := hfo.st st6004 (fun k hk ho => by simp only [out, and_true] at ho ⊢ <;> first | exact ho | exact ho.1 | exact ho.2 | exact ho.2.1 | exact ho.2.2 | exact ho.2.2.1 | exact ho.2.2.2 | omega)
   replace lst1 := lst1.st st6004 (fun k hk ho => by simp only [out, and_true] at ho ⊢ <;> first | exact ho | exact ho.1 | exact ho.2 | exact ho.2.1 | exact ho.2.2 | exact ho.2.2.1 | exact ho.2.2.2 | omega)
   replace k1 := st6004.same _ _ ⟨ne_b1_gc.ne, trivial⟩ k1
   replace k2 := st6004.same _ _ ⟨ne_b2_gc.ne, trivial⟩ k2
   replace k3 := st6004.same _ _ ⟨ne_b3_gc.ne, trivial⟩ k3
   replace k4 := st6004.same _ _ ⟨ne_b4_gc.ne, trivial⟩ k4
   replace k5 := st6004.same _ _ ⟨ne_b5_gc.ne, trivial⟩ k5
   replace k6 := st6004.same _ _ ⟨ne_b6_gc.ne, trivial⟩ k6
   replace k7 := st6004.same _ _ ⟨ne_b7_gc.ne, trivial⟩ k7
   clear hz hF2 fsf
   have hz := hle0.st hfo (fun k hk => ⟨by omega, by omega, by omega, trivial⟩)
   have hF2 := hf.mono hz
   obtain ⟨fsf, ftf, -, c11f, -, j2f⟩ := hF2.get
   obtain ⟨-, s1, s2, -, -, u1, u2, -, -⟩ := fsf.get
   clear i34
   rw [Nat.zero_add] at at6004
   refine .nil (hK11 _ _ (.seq (fun K12 hK12 => .seq (fun K13 hK13 => .region ?_))))
   have hv : ∀ i, i ≤ x → 0 ≤ (co'.set x ((f.t.hom w (f.ob.getD x 0)).getD j 0)).getD i 0 ∧ (co'.set x ((f.t.hom w (f.ob.getD x 0)).getD j 0)).getD i 0 < f.t.src.length ∧ (co'.set x ((f.t.hom w (f.ob.getD x 0)).getD j 0)).getD i 0 = (co.take x ++ [(f.t.hom w (f.ob.getD x 0)).getD j 0]).getD i 0 := fun i hi => by
     refine ⟨?_, ?_, by rw [take_set_getD (by omega) hi, hct]⟩
     · rw [getD_set (by omega)]
       split
       · omega
       · rw [takeD hct (by omega)]; exact (hr i (by omega)).1
     · rw [getD_set (by omega)]
       split
       · omega
       · rw [takeD hct (by omega)]; exact (hr i (by omega)).2
   have hpl : (co.take x).length = x := by rw [List.length_take]; omega
   have hsl : (co'.set x ((f.t.hom w (f.ob.getD x 0)).getD j 0)).length = f.ob.length := by rw [List.length_set]; exact hcl
   refine .m rfl rfl rfl (.load on_75_Hh rfl (by first | assumption | exact Mem.of_get k6 0 _ rfl)) ?_
   refine .m rfl rfl rfl (.nilCheck rfl) (.m rfl rfl rfl (.fieldAddr fo_33_3_E rfl) ?_)
   refine .m rfl rfl rfl (.load on_22_B rfl (by assumption)) ?_
   refine .m rfl rfl rfl (.len sl_22_A rfl) (.mv rfl (.nil (hK13 _ _ ?_)))
   refine .block ?_
   refine .loopR (σ := Nat) [(0, some _), (1, some _), (3, some _), (4, some _), (6, some _), (7, some _), (34, some _), (35, some _), (36, some _), (47, some _), (48, some _)] (fun a => [(49, some (.int .i64 (a : Int)))]) (fun a H' => H6004 = H' ∧ a ≤ f.ar.length ∧ allN a ((f.cnet w).okAt (co.take x ++ [(f.t.hom w (f.ob.getD x 0)).getD j 0]) x) = true) (fun a => f.ar.length - a) (0) ⟨rfl, rfl, rfl, rfl, rfl, rfl, rfl, rfl, rfl, rfl, rfl, trivial⟩ ⟨rfl, trivial⟩ ?_ ?_
   ·
    refine ⟨rfl, ?_⟩
    exact ⟨by omega, rfl⟩
   rintro a _ ⟨rfl, hI⟩ KL2 hKL2
   refine .forget (fr' := [(49, some (.int .i64 (a : Int))), (0, some _), (1, some _), (3, some _), (4, some _), (6, some _), (7, some _), (34, some _), (35, some _), (36, some _), (47, some _), (48, some _)]) ⟨rfl, rfl, rfl, rfl, rfl, rfl, rfl, rfl, rfl, rfl, rfl, rfl, trivial⟩ ?_
   obtain ⟨ha, hb1⟩ := hI
   refine .seq (fun K14 hK14 => .region (.m rfl rfl rfl (.cmp rfl rfl rfl) (.nil (hK14 _ _ (.seq (fun K15 hK15 => ?_))))))
   refine .cond rfl (fun h50 => ?_) (fun h50 => ?_)
   ·
    simp only [sps] at h50
    have a1 := hs.src a (by omega)
    have a2 := hs.tgt a (by omega)
    have a3 := hP.2.2.ar a (by omega)
    refine .skip ?_
    refine hK15 _ _ (.seq (fun K16 hK16 => ?_))
    refine .block ?_
    refine .seq (fun K17 hK17 => .region (.mv rfl ?_))
    refine .m rfl rfl rfl (.idxN sl_22_A (by assumption) rfl rfl (by omega)) ?_
    refine .m rfl rfl rfl (.loadI on_2_A (by assumption) rfl (by omega)) ?_
    refine .mv rfl (.mv rfl (.nil (hK17 _ _ (.seq (fun K18 hK18 => ?_)))))
    refine .regionD mo_B (.q 0 (.q 1 (.q 2 (.q 3 (.q 4 (.q 5 (.q 6 (.q 7 (.q 8 (.q 9 (.q 10 (.q 11 (.q 12 (.q 13 (.q 14 (.q 15 (.done))))))))))))))))) (by kernel_rfl) ?_
    refine .m rfl rfl rfl rfl (.refl _) (.load on_127_F rfl (by first | assumption | exact Mem.of_get k1 0 _ rfl)) ?_
    refine .m rfl rfl rfl rfl (.refl _) (.nilCheck rfl) (.m rfl rfl rfl rfl (.refl _) (.fieldAddr fo_31_1_B rfl) ?_)
    refine .m rfl rfl rfl rfl (.refl _) (.load on_22_B rfl (by assumption)) ?_
    refine .mv rfl rfl ?_
    refine .m rfl rfl rfl rfl (.refl _) (.idxN sl_22_A (by assumption) rfl rfl (by omega)) ?_
    refine .m rfl rfl rfl rfl (.refl _) (.loadI on_2_A (by assumption) rfl (by omega)) ?_
    refine .m rfl rfl rfl rfl (.refl _) (.load on_127_F rfl (by first | assumption | exact Mem.of_get k1 0 _ rfl)) ?_
    refine .m rfl rfl rfl rfl (.refl _) (.nilCheck rfl) (.m rfl rfl rfl rfl (.refl _) (.fieldAddr fo_31_2_B rfl) ?_)
    refine .m rfl rfl rfl rfl (.refl _) (.load on_22_B rfl (by assumption)) ?_
    refine .mv rfl rfl ?_
    refine .m rfl rfl rfl rfl (.refl _) (.idxN sl_22_A (by assumption) rfl rfl (by omega)) ?_
    refine .m rfl rfl rfl rfl (.refl _) (.loadI on_2_A (by assumption) rfl (by omega)) ?_
    refine .mv rfl rfl (.mv rfl rfl ?_)
    refine .done ?_
    refine hK18 _ _ (.seq (fun K19 hK19 => ?_))
    refine .regionD mo_B (.q 0 (.q 1 (.q 2 (.q 3 (.q 4 (.q 5 (.q 6 (.q 7 (.q 8 (.q 9 (.q 10 (.q 11 (.q 13 (.q 14 (.q 15 (.q 16 (.c 12 1 (.q 17 (.q 18 (.done)))))))))))))))))))) (by kernel_rfl) ?_
    refine .cut [(0, some _), (1, some _), (3, some _), (4, some _), (6, some _), (7, some _), (12, some _), (13, some _), (14, some _), (15, some _), (34, some _), (35, some _), (36, some _), (47, some _), (48, some _), (49, some _), (50, some _), (51, some _), (52, some _), (53, some _), (54, some _), (55, some _), (56, some _), (57, some _), (58, some _), (59, some _), (60, some _), (61, some _), (62, some _), (63, some _), (64, some _), (65, some _), (66, some _), (67, some _)] ⟨rfl, rfl, rfl, rfl, rfl, rfl, rfl, rfl, rfl, rfl, rfl, rfl, rfl, rfl, rfl, rfl, rfl, rfl, rfl, rfl, rfl, rfl, rfl, rfl, rfl, rfl, rfl, rfl, rfl, rfl, rfl, rfl, rfl, rfl, trivial⟩ (fun rest fr' H' => ∃ b' : Bool, Sub ((86, some (.bool b')) :: rest) fr' ∧ H6004 = H' ∧ b' = !((f.cnet w).okAt (co.take x ++ [(f.t.hom w (f.ob.getD x 0)).getD j 0]) x a)) ?_ ?_
    ·
     refine .mv rfl rfl (.mv rfl rfl (.m rfl rfl rfl rfl (.refl _) (.max2 rfl rfl) (.mv rfl rfl (.m rfl rfl rfl rfl (.refl _) (.cmp rfl rfl rfl) (.mv rfl rfl ?_)))))
     refine .split (fun h73 => ?_) (fun h73 => ?_)
     ·
      simp only [sps] at h73
      refine .mg rfl rfl rfl rfl rfl rfl (.refl _) (.load on_127_F rfl (by first | assumption | exact Mem.of_get k4 0 _ rfl)) ?_
      refine .mg rfl rfl rfl rfl rfl rfl (.refl _) (.load on_22_B rfl (by first | assumption | exact Mem.of_get k3 0 _ rfl)) ?_
      refine .mg rfl rfl rfl rfl rfl rfl (.refl _) (.move rfl) ?_
      refine .mg rfl rfl rfl rfl rfl rfl (.refl _) (.idx1 sl_22_A (by first | assumption | exact SlA.of_row at6004 (by first | rfl | (simp; done) | (simp <;> omega))) rfl rfl (by omega) (by omega)) ?_
      refine .mg rfl rfl rfl rfl rfl rfl (.refl _) (.loadI on_2_A (by first | assumption | exact Ints.of_get at6004) rfl (by omega)) ?_
      refine .mg rfl rfl rfl rfl rfl rfl (.refl _) (.move rfl) ?_
      refine .mg rfl rfl rfl rfl rfl rfl (.refl _) (.load on_22_B rfl (by first | assumption | exact Mem.of_get k3 0 _ rfl)) ?_
      refine .mg rfl rfl rfl rfl rfl rfl (.refl _) (.move rfl) ?_
      refine .mg rfl rfl rfl rfl rfl rfl (.refl _) (.idx1 sl_22_A (by first | assumption | exact SlA.of_row at6004 (by first | rfl | (simp; done) | (simp <;> omega))) rfl rfl (by omega) (by omega)) ?_
      refine .mg rfl rfl rfl rfl rfl rfl (.refl _) (.loadI on_2_A (by first | assumption | exact Ints.of_get at6004) rfl (by omega)) ?_
      have w1 := hv (f.s.src.getD a 0).toNat (by omega)
      have w3 := hTS.row ((co'.set x ((f.t.hom w (f.ob.getD x 0)).getD j 0)).getD (f.s.src.getD a 0).toNat 0).toNat (by omega)
      have hcc := then_c (c := f.t) (f := (co'.set x ((f.t.hom w (f.ob.getD x 0)).getD j 0)).getD (f.s.src.getD a 0).toNat 0) (k := f.ar.getD a 0) ftf w1.1 (by omega) a3.1 (by omega)
      refine .callQ1g rfl rfl rfl rfl rfl rfl rfl @Try.call65 rfl (hcc) (.refl _) ?_
      refine .mg rfl rfl rfl rfl rfl rfl (.refl _) (.cmp rfl rfl rfl) (.m rfl rfl rfl rfl (.refl _) (.pickT rfl rfl) ?_)
      refine .done ?_
      refine ⟨_, ⟨rfl, rfl, rfl, rfl, rfl, rfl, rfl, rfl, rfl, rfl, rfl, rfl, rfl, rfl, rfl, rfl, rfl, rfl, rfl, rfl, rfl, rfl, rfl, rfl, rfl, rfl, rfl, rfl, rfl, rfl, rfl, rfl, rfl, rfl, rfl, trivial⟩, rfl, ?_⟩
      rw [Net.okAt_2 (show max (f.s.src.getD a 0).toNat (f.s.tgt.getD a 0).toNat = x by omega)]; exact cnet_ne (hv (f.s.src.getD a 0).toNat (by omega)).2.2 (hv (f.s.tgt.getD a 0).toNat (by omega)).2.2
     simp only [sps] at h73
     refine .sg rfl rfl rfl rfl rfl rfl (.sg rfl rfl rfl rfl rfl rfl (.sg rfl rfl rfl rfl rfl rfl (.sg rfl rfl rfl rfl rfl rfl (.sg rfl rfl rfl rfl rfl rfl (.sg rfl rfl rfl rfl rfl rfl (.sg rfl rfl rfl rfl rfl rfl (.sg rfl rfl rfl rfl rfl rfl (.sg rfl rfl rfl rfl rfl rfl (.sg rfl rfl rfl rfl rfl rfl (.sgc rfl rfl rfl rfl rfl rfl (.sg rfl rfl rfl rfl rfl rfl (.m rfl rfl rfl rfl (.refl _) (.pickF rfl rfl) ?_))))))))))))
     refine .done ?_
     refine ⟨_, ⟨rfl, rfl, rfl, rfl, rfl, rfl, rfl, rfl, rfl, rfl, rfl, rfl, rfl, rfl, rfl, rfl, rfl, rfl, rfl, rfl, rfl, rfl, rfl, rfl, rfl, rfl, rfl, rfl, rfl, rfl, rfl, rfl, rfl, rfl, rfl, trivial⟩, rfl, ?_⟩
     rw [Net.okAt_1 (show ¬ max (f.s.src.getD a 0).toNat (f.s.tgt.getD a 0).toNat = x by omega)]; rfl
    rintro frJ11 _ ⟨b', hsubJ11, rfl, hJ11⟩
    refine hK19 _ _ ?_
    refine .forget hsubJ11 ?_
    refine .cond rfl (fun h86 => ?_) (fun h86 => ?_)
    ·
     have hG0 : chG (f.cnet w) (fun _ => true) r (co.take x) ((f.t.hom w (f.ob.getD x 0)).getD j 0) = [] := chG_bad (by rw [hpl, Net.ok_eq]; exact allN_early (k := a + 1) (by rw [allN_succ, hb1, bnot_T (hJ11.symm.trans h86)]; rfl) (show a + 1 ≤ f.ar.length by omega))
     obtain ⟨coX, hcX⟩ : ∃ z, z = co'.set x ((f.t.hom w (f.ob.getD x 0)).getD j 0) := ⟨_, rfl⟩
     obtain ⟨gX, hgX⟩ : ∃ z, z = gV := ⟨_, rfl⟩
     refine .exit ?_
     refine hK9 _ _ (.region ?_)
     refine .m rfl rfl rfl (.add rfl rfl rfl (by omega) (by omega)) ?_
     refine .mv rfl (.nil ?_)
     refine hKL1 ((j + 1, gX, coX)) _ _ ?_ ?_ ⟨rfl, rfl, rfl, rfl, rfl, rfl, rfl, rfl, rfl, trivial⟩
     ·
      refine ⟨lst1, by first | assumption | (rw [hcX]; assumption), ?_⟩
      subst hcX
      subst hgX
      first
      | exact ⟨by omega, by rw [List.length_set]; exact hcl, by rw [take_set_lt]; exact hct, hgV, by omega, by rw [chP_no (by omega) hG0]; exact hH.st hAL c0.1 c0.2 (by omega) st6004, by rw [chP_no (by omega) hG0]; exact hfl⟩
      | exact ⟨by omega, hlc91, htk2, by omega, hl91, hA92, hfl2⟩
     (dsimp only; omega)
    have hok := bnot_f (hJ11.symm.trans h86)
    refine .skip ?_
    refine hK16 _ _ (.region ?_)
    refine .m rfl rfl rfl (.add rfl rfl rfl (by omega) (by omega)) ?_
    refine .mv rfl (.nil ?_)
    refine hKL2 (a + 1) _ _ ?_ ?_ ⟨rfl, rfl, rfl, rfl, rfl, rfl, rfl, rfl, rfl, rfl, rfl, rfl, trivial⟩
    ·
     refine ⟨rfl, ?_⟩
     exact ⟨by omega, by rw [allN_succ, hb1, hok]; rfl⟩
    omega
   try simp only [sps] at h50
   refine .exit ?_
   refine hK12 _ _ (.seq (fun K20 hK20 => .region ?_))
   refine .m rfl rfl rfl (.load on_107_Hh rfl (by first | assumption | exact Mem.of_get k7 0 _ rfl)) ?_
   refine .mv rfl ?_
   refine .m rfl rfl rfl (.add rfl rfl rfl (by omega) (by omega)) ?_
   obtain rfl : a = f.ar.length := by omega
   have hok1 : (f.cnet w).ok (co.take x).length (co.take x ++ [(f.t.hom w (f.ob.getD x 0)).getD j 0]) = true := by rw [hpl, Net.ok_eq]; exact hb1
   have hts : (co'.set x ((f.t.hom w (f.ob.getD x 0)).getD j 0)).take (x + 1) = co.take x ++ [(f.t.hom w (f.ob.getD x 0)).getD j 0] := by rw [take_set_succ (by omega), hct]
   have hG1 : chG (f.cnet w) (fun _ => true) r (co.take x) ((f.t.hom w (f.ob.getD x 0)).getD j 0) = searchL (f.cnet w).cand (f.cnet w).ok r ((co'.set x ((f.t.hom w (f.ob.getD x 0)).getD j 0)).take (x + 1)) := by rw [hts]; exact chG_yes rfl hok1
   have hrr : ∀ i, i < x + 1 → 0 ≤ (co'.set x ((f.t.hom w (f.ob.getD x 0)).getD j 0)).getD i 0 ∧ (co'.set x ((f.t.hom w (f.ob.getD x 0)).getD j 0)).getD i 0 < f.t.src.length := fun i hi => ⟨(hv i (by omega)).1, (hv i (by omega)).2.1⟩
   have hA7 := hH.st hAL c0.1 c0.2 (by omega) st6004
   refine .callV rfl rfl rfl rfl rfl @Try.call124 rfl ((ih (x + 1) gV (co'.set x ((f.t.hom w (f.ob.getD x 0)).getD j 0)) (fs ++ chP (f.cnet w) (fun _ => true) r (co.take x) (f.t.hom w (f.ob.getD x 0)) j) _ (by omega) hz ⟨k1, k2, k3, k4, k5, k6, k7⟩ at6004 hsl hrr hA7 hfl (by omega) (by omega) (by omega) (by omega))) ?_
   rintro _ H91 ⟨gF91, co91, rfl, hg91, hl91, st91, at91, hlc91, htk91, hA91⟩
   replace hfo := hfo.st st91 (fun k hk ho => by simp only [out, and_true] at ho ⊢ <;> first | exact ho | exact ho.1 | exact ho.2 | exact ho.2.1 | exact ho.2.2 | exact ho.2.2.1 | exact ho.2.2.2 | omega)
   replace lst1 := lst1.st st91 (fun k hk ho => by simp only [out, and_true] at ho ⊢ <;> first | exact ho | exact ho.1 | exact ho.2 | exact ho.2.1 | exact ho.2.2 | exact ho.2.2.1 | exact ho.2.2.2 | omega)
   clear hz hF2 fsf ftf c11f j2f s1 s2 u1 u2
   have hz := hle0.st hfo (fun k hk => ⟨by omega, by omega, by omega, trivial⟩)
   have hF2 := hf.mono hz
   obtain ⟨fsf, -, -, -, -, -⟩ := hF2.get
   refine .m rfl rfl rfl (.not rfl) (.nil (hK20 _ _ ?_))
   refine .cond rfl (fun h92 => ?_) (fun h92 => ?_)
   ·
    have hbig := of_decide_eq_false (bnot_T h92)
    refine .seq (fun K21 hK21 => .region (.mv rfl (.nil (hK21 _ _ ?_))))
    refine .ret ?_
    refine hret _ _ ?_
    refine ⟨_, rfl, ?_⟩
    have hcd : (f.cnet w).cand (co.take x).length = (f.t.hom w (f.ob.getD x 0)).filter (fun _ => true) := by rw [hpl]; exact (List.filter_eq_self.2 (fun _ _ => rfl)).symm
    have hcs := chP_succ (n := f.cnet w) (al := fun _ => true) (r := r) (p := co.take x) (hs := (f.t.hom w (f.ob.getD x 0))) (j := j) (by omega)
    rw [← hG1] at hbig hA91
    have hbl : most + 1 ≤ (fs ++ chP (f.cnet w) (fun _ => true) r (co.take x) (f.t.hom w (f.ob.getD x 0)) (j + 1)).length := by rw [hcs, ← List.append_assoc, List.length_append]; omega
    obtain ⟨f1, f2⟩ := chP_full (M := most + 1) hcd (by omega) hbl
    refine ⟨gF91, co91, ?_, by omega, hl91, hfo, at91, hlc91, by rw [take_le_eq htk91 (by omega), take_set_lt]; exact hct, ?_⟩
    · rw [decide_eq_false (by omega)]
    · rw [f1, hcs, ← List.append_assoc]
      exact hA91
   have hsm := of_decide_eq_true (bnot_f h92)
   obtain ⟨coX, hcX⟩ : ∃ z, z = co91 := ⟨_, rfl⟩
   obtain ⟨gX, hgX⟩ : ∃ z, z = gF91 := ⟨_, rfl⟩
   have hcs := chP_succ (n := f.cnet w) (al := fun _ => true) (r := r) (p := co.take x) (hs := (f.t.hom w (f.ob.getD x 0))) (j := j) (by omega)
   have htk2 : co91.take x = co.take x := by rw [take_le_eq htk91 (by omega), take_set_lt]; exact hct
   rw [← hG1] at hsm hA91
   have hfl2 : (fs ++ chP (f.cnet w) (fun _ => true) r (co.take x) (f.t.hom w (f.ob.getD x 0)) (j + 1)).length ≤ most := by rw [hcs, ← List.append_assoc, List.length_append]; exact hsm
   have hA92 := hA91
   rw [List.append_assoc, ← hcs, List.take_of_length_le (by omega)] at hA92
   refine .skip ?_
   refine hK9 _ _ (.region ?_)
   refine .m rfl rfl rfl (.add rfl rfl rfl (by omega) (by omega)) ?_
   refine .mv rfl (.nil ?_)
   refine hKL1 ((j + 1, gX, coX)) _ _ ?_ ?_ ⟨rfl, rfl, rfl, rfl, rfl, rfl, rfl, rfl, rfl, trivial⟩
   ·
    refine ⟨lst1, by first | assumption | (rw [hcX]; assumption), ?_⟩
    subst hcX
    subst hgX
    first
    | exact ⟨by omega, by rw [List.length_set]; exact hcl, by rw [take_set_lt]; exact hct, hgV, by omega, by rw [chP_no (by omega) hG0]; exact hH.st hAL c0.1 c0.2 (by omega) st6004, by rw [chP_no (by omega) hG0]; exact hfl⟩
    | exact ⟨by omega, hlc91, htk2, by omega, hl91, hA92, hfl2⟩
   (dsimp only; omega)
  try simp only [sps] at h37
  refine .exit ?_
  refine hK5 _ _ (.seq (fun K22 hK22 => .region (.mv rfl (.nil (hK22 _ _ ?_)))))
  refine .ret ?_
  refine hret _ _ ?_
  refine ⟨_, rfl, ?_⟩
  have hpl : (co.take x).length = x := by rw [List.length_take]; omega
  have hcd : (f.cnet w).cand (co.take x).length = (f.t.hom w (f.ob.getD x 0)).filter (fun _ => true) := by rw [hpl]; exact (List.filter_eq_self.2 (fun _ _ => rfl)).symm
  have hj2 : j = (f.t.hom w (f.ob.getD x 0)).length := by omega
  have e9 := chP_all (r := r) hcd
  rw [← hj2] at e9
  refine ⟨gV, co', ?_, by omega, hgl, hfo, at_Lgc, hcl, hct, ?_⟩
  · rw [e9, decide_eq_true (by rw [← List.length_append]; exact hfl)]
  · rw [e9, List.take_of_length_le (by omega)]
    exact hAL
theorem legsC_c {f : Fun} {p : FunP} {w : Int} {A : Nat → List (List Int) → Nat → GHeap → Prop} {most e0 g1 b gf of gc fn : Nat} {cap : Array Value} {b1 b2 b3 b4 b5 b6 b7 : Nat} {H0 : GHeap} (hf : Fun.At H0 gf of f p) (hP : f.Is)
    (hH : Hears Try.prog fn cap e0 g1 most 2 A)
    (he0 : H0.next ≤ e0) (hg1 : H0.next ≤ g1) (hg2 : g1 < e0) (c0 : e0 ≤ gc ∧ gc < b) (c1 : e0 ≤ b1 ∧ b1 < b ∧ b1 ≠ gc) (c2 : e0 ≤ b2 ∧ b2 < b ∧ b2 ≠ gc) (c3 : e0 ≤ b3 ∧ b3 < b ∧ b3 ≠ gc) (c4 : e0 ≤ b4 ∧ b4 < b ∧ b4 ≠ gc) (c5 : e0 ≤ b5 ∧ b5 < b ∧ b5 ≠ gc) (c6 : e0 ≤ b6 ∧ b6 < b ∧ b6 ≠ gc) (c7 : e0 ≤ b7 ∧ b7 < b ∧ b7 ≠ gc) (r : Nat) : LgSpec f w A most e0 g1 b gf of gc fn cap b1 b2 b3 b4 b5 b6 b7 H0 r := by
  induction r with
  | zero => exact legs0_c hf hP hH he0 hg1 hg2 c0 c1 c2 c3 c4 c5 c6 c7
  | succ r ih => exact legsS_c hf hP hH he0 hg1 hg2 c0 c1 c2 c3 c4 c5 c6 c7 ih
set_option maxHeartbeats 4000000 in
theorem legs_c {f : Fun} {p : FunP} {w : Int} {A : Nat → List (List Int) → Nat → GHeap → Prop} {most g1 gF gf of fn : Nat} {cap : Array Value} {H0 H : GHeap} (hf0 : Fun.At H0 gf of f p) (hP : f.Is)
    (hH : Hears Try.prog fn cap H.next g1 most 2 A)
    (hle0 : H0.Le H) (hg1 : H0.next ≤ g1) (hg2 : g1 < H.next) (hF0 : H0.next ≤ gF) (hF : gF < H.next) {fs : List (List Int)} (hfs : fs.length ≤ most) (hA : ∀ b, A b fs gF H) :
    GCalls Try.prog 102 [.pointer (some ⟨gf, of, none⟩), .int .i64 w, .func (.func fn) #[] cap] H (fun v H' => ∃ gF' b, v = .bool (decide (fs.length + ((f.cnet w).sols f.ob.length).length ≤ most)) ∧ H.next ≤ b ∧ b ≤ H'.next ∧ (gF' = gF ∨ H.next ≤ gF') ∧ gF' < H'.next ∧ St [g1, gF] H H' ∧ A b ((fs ++ (f.cnet w).sols f.ob.length).take (most + 1)) gF' H') := by
  have hol := hP.2.2.ol
  have hob := hP.1.1.obj
  have hf := hf0.mono hle0
  refine GCalls.body (N := 26) (rs := [.tmp 6]) Try.func102 rfl rfl rfl rfl (fun Qx hret hend => ?_)
  refine .forget (fr' := [(0, some _), (1, some _), (2, some _)]) ⟨rfl, rfl, rfl, trivial⟩ ?_
  have hle := GHeap.Le.refl H
  have base_hf := hf
  refine .seq (fun K1 hK1 => .region ?_)
  refine .r rfl rfl rfl (.boxR rfl sz_75_Hh rfl) ?_
  rintro _ H3 ⟨g3, rfl, le3, ge3, at3⟩
  replace hle := hle.trans le3
  have lt_at3 := GHeap.ltg at3
  replace hf := base_hf.mono hle
  refine .r rfl rfl rfl (.boxR rfl sz_2_E rfl) ?_
  rintro _ H4 ⟨g4, rfl, le4, ge4, at4⟩
  replace hle := hle.trans le4
  replace at3 := le4.2 _ _ at3
  have lt_at4 := GHeap.ltg at4
  replace hf := base_hf.mono hle
  refine .r rfl rfl rfl (.boxR rfl sz_119_Hh rfl) ?_
  rintro _ H5 ⟨g5, rfl, le5, ge5, at5⟩
  replace hle := hle.trans le5
  replace at3 := le5.2 _ _ at3
  replace at4 := le5.2 _ _ at4
  have lt_at5 := GHeap.ltg at5
  replace hf := base_hf.mono hle
  refine .mv rfl (.nil (hK1 _ _ (.seq (fun K2 hK2 => ?_))))
  refine .regionD mo_B (.q 0 (.q 1 (.q 2 (.q 3 (.q 4 (.q 5 (.or (.c 6 1 (.c 7 1 (.c 8 1 (.c 9 1 (.done))))) (.c 7 1 (.c 6 1 (.c 8 1 (.c 9 1 (.done)))))))))))) (by kernel_rfl) ?_
  refine .cut [(0, some _), (1, some _), (2, some _), (3, some _), (4, some _), (5, some _), (6, some _)] ⟨rfl, rfl, rfl, rfl, rfl, rfl, rfl, trivial⟩ (fun rest fr' H' => ∃ g7 g8, Sub ((7, some (.pointer (some ⟨g7, 0, none⟩))) :: (8, some (.pointer (some ⟨g8, 0, none⟩))) :: rest) fr' ∧ H5.Le H' ∧ H5.next ≤ g7 ∧ H5.next ≤ g8 ∧ H'.get g7 = some (.row ([.pointer (some ⟨gf, of + 5, none⟩)]) 127 true) ∧ H'.get g8 = some (.row ([.pointer (some ⟨gf, of + 0, none⟩)]) 127 true) ∧ g7 ≠ g8) ?_ ?_
  ·
   have hf0 := GHeap.Le.refl H5
   refine .m rfl rfl rfl rfl (.refl _) (.load on_75_Hh rfl (by first | assumption | exact Mem.of_get at3 0 _ rfl)) ?_
   refine .mB rfl rfl rfl rfl (.refl _) (.nilCheck rfl) ?_
   refine .mB rfl rfl rfl rfl (.refl _) (.fieldAddr fo_33_1_E rfl) ?_
   refine .m rfl rfl rfl rfl (.refl _) (.load on_75_Hh rfl (by first | assumption | exact Mem.of_get at3 0 _ rfl)) ?_
   refine .mB rfl rfl rfl rfl (.refl _) (.nilCheck rfl) ?_
   refine .mB rfl rfl rfl rfl (.refl _) (.fieldAddr fo_33_0_E rfl) ?_
   refine .orI ?_ ?_
   ·
    refine .c1 rfl rfl rfl rfl (.allocR rfl ze_127_G rfl) ?_
    rintro _ H7x2 ⟨g7x2, rfl, le7x2, ge7x2, at7x2⟩
    have hbl := le7x2
    refine ⟨hbl, ?_⟩
    have lt_at7x2 := GHeap.ltg at7x2
    replace hf0 := hf0.trans le7x2
    refine .c1 rfl rfl rfl rfl (.allocR rfl ze_127_G rfl) ?_
    rintro _ H8x2 ⟨g8x2, rfl, le8x2, ge8x2, at8x2⟩
    replace hbl := hbl.trans le8x2
    refine ⟨hbl, ?_⟩
    replace at7x2 := le8x2.2 _ _ at7x2
    replace hf0 := hf0.trans le8x2
    refine .r1 rfl rfl rfl (.storeR rfl sz_127_Hh rfl rfl rfl (by assumption) (by first | exact Nat.le_of_ble_eq_true rfl | (simp; done) | (simp <;> omega))) ?_
    rintro _ H1008 ⟨rfl, st1008, at1008⟩
    replace hbl := hbl.st st1008 (fun k hk => ⟨by omega, trivial⟩)
    refine ⟨hbl, ?_⟩
    have ne_g8x2_g7x2 : NE g8x2 g7x2 := ⟨by first | assumption | omega⟩
    replace at8x2 := st1008.same _ _ ⟨ne_g8x2_g7x2.ne, trivial⟩ at8x2
    try simp only [Nat.zero_add, List.set_cons_succ, List.set_cons_zero] at at1008
    replace hf0 := hf0.st st1008 (fun k hk => ⟨by omega, trivial⟩)
    refine .r1 rfl rfl rfl (.storeR rfl sz_127_Hh rfl rfl rfl (by assumption) (by first | exact Nat.le_of_ble_eq_true rfl | (simp; done) | (simp <;> omega))) ?_
    rintro _ H1009 ⟨rfl, st1009, at1009⟩
    replace hbl := hbl.st st1009 (fun k hk => ⟨by omega, trivial⟩)
    refine ⟨hbl, ?_⟩
    replace at1008 := st1009.same _ _ ⟨(Ne.symm ne_g8x2_g7x2.ne), trivial⟩ at1008
    try simp only [Nat.zero_add, List.set_cons_succ, List.set_cons_zero] at at1009
    replace hf0 := hf0.st st1009 (fun k hk => ⟨by omega, trivial⟩)
    refine .done ?_
    exact ⟨g7x2, g8x2, ⟨rfl, rfl, rfl, rfl, rfl, rfl, rfl, rfl, rfl, trivial⟩, hf0, by omega, by omega, by first | assumption | simpa using at1008, by first | assumption | simpa using at1009, by omega⟩
   refine .c1 rfl rfl rfl rfl (.allocR rfl ze_127_G rfl) ?_
   rintro _ H8x3 ⟨g8x3, rfl, le8x3, ge8x3, at8x3⟩
   have hbl := le8x3
   refine ⟨hbl, ?_⟩
   have lt_at8x3 := GHeap.ltg at8x3
   replace hf0 := hf0.trans le8x3
   refine .c1 rfl rfl rfl rfl (.allocR rfl ze_127_G rfl) ?_
   rintro _ H7x3 ⟨g7x3, rfl, le7x3, ge7x3, at7x3⟩
   replace hbl := hbl.trans le7x3
   refine ⟨hbl, ?_⟩
   replace at8x3 := le7x3.2 _ _ at8x3
   replace hf0 := hf0.trans le7x3
   refine .r1 rfl rfl rfl (.storeR rfl sz_127_Hh rfl rfl rfl (by assumption) (by first | exact Nat.le_of_ble_eq_true rfl | (simp; done) | (simp <;> omega))) ?_
   rintro _ H1008x2 ⟨rfl, st1008x2, at1008x2⟩
   replace hbl := hbl.st st1008x2 (fun k hk => ⟨by omega, trivial⟩)
   refine ⟨hbl, ?_⟩
   have ne_g8x3_g7x3 : NE g8x3 g7x3 := ⟨by first | assumption | omega⟩
   replace at8x3 := st1008x2.same _ _ ⟨ne_g8x3_g7x3.ne, trivial⟩ at8x3
   try simp only [Nat.zero_add, List.set_cons_succ, List.set_cons_zero] at at1008x2
   replace hf0 := hf0.st st1008x2 (fun k hk => ⟨by omega, trivial⟩)
   refine .r1 rfl rfl rfl (.storeR rfl sz_127_Hh rfl rfl rfl (by assumption) (by first | exact Nat.le_of_ble_eq_true rfl | (simp; done) | (simp <;> omega))) ?_
   rintro _ H1009x2 ⟨rfl, st1009x2, at1009x2⟩
   replace hbl := hbl.st st1009x2 (fun k hk => ⟨by omega, trivial⟩)
   refine ⟨hbl, ?_⟩
   replace at1008x2 := st1009x2.same _ _ ⟨(Ne.symm ne_g8x3_g7x3.ne), trivial⟩ at1008x2
   try simp only [Nat.zero_add, List.set_cons_succ, List.set_cons_zero] at at1009x2
   replace hf0 := hf0.st st1009x2 (fun k hk => ⟨by omega, trivial⟩)
   refine .done ?_
   exact ⟨g7x3, g8x3, ⟨rfl, rfl, rfl, rfl, rfl, rfl, rfl, rfl, rfl, trivial⟩, hf0, by omega, by omega, by first | assumption | simpa using at1008x2, by first | assumption | simpa using at1009x2, by omega⟩
  rintro fr8 H8 ⟨g7, g8, hsub8, le8, ge7, ge8, at7, at8, ne8_0⟩
  replace hle := hle.trans le8
  replace at3 := le8.2 _ _ at3
  replace at4 := le8.2 _ _ at4
  replace at5 := le8.2 _ _ at5
  have lt_at7 := GHeap.ltg at7
  have lt_at8 := GHeap.ltg at8
  replace hf := base_hf.mono hle
  obtain ⟨-, -, c10f, -, -, -⟩ := hf.get
  refine hK2 _ _ ?_
  refine .forget hsub8 ?_
  refine .seq (fun K3 hK3 => .region ?_)
  refine .m rfl rfl rfl (.load on_75_Hh rfl (by first | assumption | exact Mem.of_get at3 0 _ rfl)) ?_
  refine .m rfl rfl rfl (.nilCheck rfl) (.m rfl rfl rfl (.fieldAddr fo_33_2_E rfl) ?_)
  refine .m rfl rfl rfl (.load on_22_B rfl (by assumption)) ?_
  refine .m rfl rfl rfl (.len sl_22_A rfl) ?_
  refine .r rfl rfl rfl (.makeIN rfl sl_22_A ze_2_E by_2_E rfl rfl (by omega) (by omega) (by omega)) ?_
  rintro _ H22 ⟨g22, rfl, le22, ge22, at22⟩
  replace hle := hle.trans le22
  replace at3 := le22.2 _ _ at3
  replace at4 := le22.2 _ _ at4
  replace at5 := le22.2 _ _ at5
  replace at7 := le22.2 _ _ at7
  replace at8 := le22.2 _ _ at8
  have lt_at22 := GHeap.ltg at22
  replace hf := base_hf.mono hle
  clear c10f
  refine .r rfl rfl rfl (.allocR rfl ze_22_E rfl) ?_
  rintro _ H9 ⟨g9, rfl, le9, ge9, at9⟩
  replace hle := hle.trans le9
  replace at3 := le9.2 _ _ at3
  replace at4 := le9.2 _ _ at4
  replace at5 := le9.2 _ _ at5
  replace at7 := le9.2 _ _ at7
  replace at8 := le9.2 _ _ at8
  replace at22 := le9.2 _ _ at22
  replace hf := base_hf.mono hle
  refine .r0 rfl rfl (.storeR rfl sz_22_E rfl rfl rfl (by assumption) (by first | exact Nat.le_of_ble_eq_true rfl | (simp; done) | (simp <;> omega))) ?_
  rintro _ H2007 ⟨rfl, st2007, at2007⟩
  replace hle := hle.st st2007 (fun k hk => ⟨by omega, trivial⟩)
  replace at3 := st2007.same _ _ ⟨(by first | assumption | omega), trivial⟩ at3
  replace at4 := st2007.same _ _ ⟨(by first | assumption | omega), trivial⟩ at4
  replace at5 := st2007.same _ _ ⟨(by first | assumption | omega), trivial⟩ at5
  replace at7 := st2007.same _ _ ⟨(by first | assumption | omega), trivial⟩ at7
  replace at8 := st2007.same _ _ ⟨(by first | assumption | omega), trivial⟩ at8
  replace at22 := st2007.same _ _ ⟨(by first | assumption | omega), trivial⟩ at22
  have lt_at2007 := GHeap.ltg at2007
  replace hf := base_hf.mono hle
  try simp only [Nat.zero_add, List.set_cons_succ, List.set_cons_zero] at at2007
  refine .nil (hK3 _ _ (.seq (fun K4 hK4 => .region ?_)))
  refine .r rfl rfl rfl (.allocR rfl ze_107_Hh rfl) ?_
  rintro _ H10 ⟨g10, rfl, le10, ge10, at10⟩
  have nx_H10 := le10.1
  replace hle := hle.trans le10
  replace at3 := le10.2 _ _ at3
  replace at4 := le10.2 _ _ at4
  replace at5 := le10.2 _ _ at5
  replace at7 := le10.2 _ _ at7
  replace at8 := le10.2 _ _ at8
  replace at22 := le10.2 _ _ at22
  replace at2007 := le10.2 _ _ at2007
  replace hf := base_hf.mono hle
  refine .nil (hK4 _ _ (.seq (fun K5 hK5 => .region (.m rfl rfl rfl (.makeFunc rfl) ?_))))
  refine .r0 rfl rfl (.storeR rfl sz_107_Hh rfl rfl rfl (by assumption) (by first | exact Nat.le_of_ble_eq_true rfl | (simp; done) | (simp <;> omega))) ?_
  rintro _ H4001 ⟨rfl, st4001, at4001⟩
  have nx_H4001 := st4001.nx
  replace hle := hle.st st4001 (fun k hk => ⟨by omega, trivial⟩)
  replace at3 := st4001.same _ _ ⟨(by first | assumption | omega), trivial⟩ at3
  replace at4 := st4001.same _ _ ⟨(by first | assumption | omega), trivial⟩ at4
  replace at5 := st4001.same _ _ ⟨(by first | assumption | omega), trivial⟩ at5
  replace at7 := st4001.same _ _ ⟨(by first | assumption | omega), trivial⟩ at7
  replace at8 := st4001.same _ _ ⟨(by first | assumption | omega), trivial⟩ at8
  replace at22 := st4001.same _ _ ⟨(by first | assumption | omega), trivial⟩ at22
  replace at2007 := st4001.same _ _ ⟨(by first | assumption | omega), trivial⟩ at2007
  have lt_at4001 := GHeap.ltg at4001
  replace hf := base_hf.mono hle
  try simp only [Nat.zero_add, List.set_cons_succ, List.set_cons_zero] at at4001
  refine .nil (hK5 _ _ (.seq (fun K6 hK6 => .region ?_)))
  refine .m rfl rfl rfl (.load on_107_Hh rfl (by first | assumption | exact Mem.of_get at4001 0 _ rfl)) ?_
  refine .callV rfl rfl rfl rfl rfl @Try.call124 rfl ((legsC_c (b := H4001.next) (gc := g22) (b1 := g8) (b2 := g5) (b3 := g9) (b4 := g7) (b5 := g4) (b6 := g3) (b7 := g10) (e0 := H.next) hf0 hP hH hle0.1 hg1 hg2 (by omega) (by omega) (by omega) (by omega) (by omega) (by omega) (by omega) (by omega) f.ob.length 0 gF (List.replicate f.ob.length 0) fs H4001 (by omega) (hle0.trans hle) ⟨at8, at5, at2007, at7, at4, at3, at4001⟩ at22 (by simp) (fun i hi => by omega) (hH.le (hA _) hle) hfs (by omega) hF0 (.inl hF) (Nat.le_refl _))) ?_
  rintro _ H25 ⟨gF25, co25, rfl, hg25, hl25, st25, at25, hlc25, htk25, hA25⟩
  refine .mv rfl (.nil (hK6 _ _ ?_))
  refine .ret ?_
  refine hret _ _ ?_
  refine ⟨_, rfl, ?_⟩
  exact ⟨gF25, H4001.next, rfl, by omega, st25.nx, by omega, hl25, (St.of_le (bs := [g1, gF]) hle).st st25 (fun k hk ho => ⟨by omega, ho.1, ho.2.1, trivial⟩), hA25⟩
end Go.Proofs.Ytagkeabmdodfiaa
namespace Go.Proofs.Ytagkeabmdodfiaa
open Go Go.GL Go.RowKit Go.Proofs
theorem on_93_Hi : oneT Try.prog 93 = true := by kernel_rfl
theorem bt_98_Hi : buildT Try.prog 98 = some ([.int .i64 0, .slice none 0 0], [(0, 1), (1, 1)]) := by kernel_rfl
theorem sl_93_Hi : sliceT Try.prog 93 = some (98, 2) := by kernel_rfl
theorem ze_98_Hi : zeroT Try.prog 98 = some ([.int .i64 0, .slice none 0 0], 2) := by kernel_rfl
theorem by_98_Hi : (Try.prog.info? 98).map (·.bytes) = some 32 := by kernel_rfl
theorem sz_93_Hi : (Try.prog.info? 93).map (·.size) = some 1 := by kernel_rfl
theorem ze_93_Hi : zeroT Try.prog 93 = some ([.slice none 0 0], 1) := by kernel_rfl
theorem allCones1_c {go gx gF gc b0 e0 b : Nat} {x : Int} {pre : List Con} {q : List Int} {fs : List (List Int)} {H : GHeap} (hA : GathC 93 98 2 2 go gx b0 e0 x pre b fs gF H) (hgc : H.get gc = some (.row (ints q) 2 true)) (n1 : gc ≠ go) (n2 : gc ≠ gF) (n6 : go ≠ gx) (hb : b ≤ H.next) (hb0 : b0 ≤ b) (hfs : pre.length + fs.length ≤ 400) (hq : q.length ≤ 8) :
    GCalls Try.prog 103 [.slice (some ⟨gc, 0, none⟩) q.length q.length, .pointer (some ⟨go, 0, none⟩), .pointer (some ⟨gx, 0, none⟩)] H (fun v H' => v = .bool (decide (fs.length + 1 ≤ 400 - pre.length)) ∧ ∃ gF', (gF' = gF ∨ H.next ≤ gF') ∧ gF' < H'.next ∧ St [go, gF] H H' ∧ GathC 93 98 2 2 go gx b0 e0 x pre b (fs ++ [q]) gF' H') := by
  obtain ⟨hd, hmo, r, hgF, hR, hside⟩ := hA
  have hd0 := hd
  have hgF0 := hgF
  have n3 := row_ne hd hgF rfl
  have n4 := row_ne hmo hgF rfl
  have hln : (pre ++ fs.map fun l => (⟨x, l⟩ : Con)).length = pre.length + fs.length := by simp
  have hfl := length_conV r (pre ++ fs.map fun l => (⟨x, l⟩ : Con))
  refine GCalls.body (N := 15) (rs := [.tmp 4]) Try.func103 rfl rfl rfl rfl (fun Qx hret hend => ?_)
  refine .forget (fr' := [(0, some _), (1, some _), (2, some _)]) ⟨rfl, rfl, rfl, trivial⟩ ?_
  have lt_hd := GHeap.ltg hd
  have lt_hgF := GHeap.ltg hgF
  have hfo := St.refl [go, gF] H
  refine .seq (fun K1 hK1 => .region (.mv rfl (.nil (hK1 _ _ (.seq (fun K2 hK2 => ?_))))))
  refine .regionD mo_B (.q 0 (.q 1 (.q 2 (.c 3 1 (.q 4 (.c 5 1 (.c 6 0 (.c 7 0 (.done))))))))) (by kernel_rfl) ?_
  refine .m rfl rfl rfl rfl (.refl _) (.load on_93_Hi rfl (by first | assumption | exact Mem.of_get hd 0 _ rfl)) ?_
  refine .m rfl rfl rfl rfl (.refl _) (.load on_2_A rfl (by first | assumption | exact Mem.of_get hmo 0 _ rfl)) ?_
  refine .mv rfl rfl ?_
  refine .call1 rfl rfl rfl rfl rfl @Try.call73 rfl (clone_c (Ints.of_get hgc)) ?_
  rintro _ H8 ⟨le8, g8, rfl, at8, ge8⟩
  have hbl := le8
  refine ⟨hbl, ?_⟩
  replace hfo := hfo.le le8
  replace hd := le8.2 _ _ hd
  replace hmo := le8.2 _ _ hmo
  replace hgF := le8.2 _ _ hgF
  have lt_at8 := GHeap.ltg at8
  refine .m rfl rfl rfl rfl hbl (.build bt_98_Hi rfl rfl rfl) ?_
  refine .c1 rfl rfl rfl rfl (.litR rfl sl_93_Hi ze_98_Hi rfl rfl (by omega) (by omega) rfl rfl) ?_
  rintro _ H10 ⟨g10, rfl, le10, ge10, at10⟩
  have hbl := le10
  refine ⟨hbl, ?_⟩
  replace hfo := hfo.le le10
  replace hd := le10.2 _ _ hd
  replace hmo := le10.2 _ _ hmo
  replace hgF := le10.2 _ _ hgF
  replace at8 := le10.2 _ _ at8
  have lt_at10 := GHeap.ltg at10
  refine .c0 rfl rfl rfl rfl (.appendV rfl sl_93_Hi ze_98_Hi rfl by_98_Hi sl_93_Hi rfl rfl (by assumption) (by assumption) (by first | omega | (simp <;> omega)) rfl rfl (by omega) (by omega)) ?_
  rintro _ H11 ⟨g11, rfl, st11, ge11, at11⟩
  replace hfo := hfo.st st11 (fun k hk ho => by simp only [out, and_true] at ho ⊢ <;> first | exact ho | exact ho.1 | exact ho.2 | exact ho.2.1 | exact ho.2.2 | exact ho.2.2.1 | exact ho.2.2.2 | omega)
  replace hd := st11.same _ _ ⟨(by first | assumption | omega), trivial⟩ hd
  replace hmo := st11.same _ _ ⟨(by first | assumption | omega), trivial⟩ hmo
  replace at8 := st11.same _ _ ⟨(by first | assumption | omega), trivial⟩ at8
  have lt_at11 := GHeap.ltg at11
  refine .r0 rfl rfl rfl (.storeR rfl sz_93_Hi rfl rfl rfl (by assumption) (by first | exact Nat.le_of_ble_eq_true rfl | (simp; done) | (simp <;> omega))) ?_
  rintro _ H1007 ⟨rfl, st1007, at1007⟩
  have nx_H1007 := st1007.nx
  replace hfo := hfo.st st1007 (fun k hk ho => by simp only [out, and_true] at ho ⊢ <;> first | exact ho | exact ho.1 | exact ho.2 | exact ho.2.1 | exact ho.2.2 | exact ho.2.2.1 | exact ho.2.2.2 | omega)
  replace hmo := st1007.same _ _ ⟨(by first | assumption | omega), trivial⟩ hmo
  replace at8 := st1007.same _ _ ⟨(by first | assumption | omega), trivial⟩ at8
  replace at11 := st1007.same _ _ ⟨(by first | assumption | omega), trivial⟩ at11
  try simp only [Nat.zero_add, List.set_cons_succ, List.set_cons_zero] at at1007
  refine .done ?_
  refine hK2 _ _ (.seq (fun K3 hK3 => .region ?_))
  refine .m rfl rfl rfl (.load on_93_Hi rfl (by first | assumption | exact Mem.of_get at1007 0 _ rfl)) ?_
  refine .m rfl rfl rfl (.len sl_93_Hi rfl) (.m rfl rfl rfl (.cmp rfl rfl rfl) (.mv rfl (.nil (hK3 _ _ ?_))))
  refine .ret ?_
  refine hret _ _ ?_
  refine ⟨_, rfl, ?_⟩
  have hsn : pre ++ (fs ++ [q]).map (fun l => (⟨x, l⟩ : Con)) = (pre ++ fs.map fun l => (⟨x, l⟩ : Con)) ++ [⟨x, q⟩] := by simp
  have hw0 := hR.st hfo (.cons (hR.neT hd0 rfl) (.cons (hR.neT hgF0 rfl) (.nil _ _)))
  have hw := hw0.snoc2 (x := q) at8 (hR.ne (by omega)) (by omega)
  rw [List.length_map] at hw
  refine ⟨congrArg _ (decide_eq_decide.2 (by omega)), g11, .inr (by omega), by omega, hfo, ?_, hmo, ⟨upd r (pre ++ fs.map fun l => (⟨x, l⟩ : Con)).length (some ⟨g8, 0, none⟩), ?_, ?_, fun i hi g hg => ?_⟩⟩
  · rw [hsn, List.length_append]; exact at1007
  · rw [hsn, conV_snoc]; exact at11
  · rw [hsn, List.map_append]; exact hw
  · by_cases e : i = (pre ++ fs.map fun l => (⟨x, l⟩ : Con)).length
    · subst e
      rw [upd_eq] at hg
      cases hg
      right; omega
    · rw [upd_ne e] at hg
      rw [hsn, List.length_append, List.length_singleton] at hi
      exact hside i (by omega) g hg
set_option maxHeartbeats 4000000 in
theorem allCones_c {g o : Nat} {d : Fun} {p : FunP} {H : GHeap} (h : Fun.At H g o d p := by assumption) (hP : d.Is) :
    GCalls Try.prog 59 [.pointer (some ⟨g, o, none⟩)] H (fun v H' => H.Le H' ∧ ((400 < (d.coneL d.t.obj.toNat).length ∧ v = .tuple #[.slice none 0 0, .bool false]) ∨ ((d.coneL d.t.obj.toNat).length ≤ 400 ∧ ∃ gL r, v = .tuple #[.slice (some ⟨gL, 0, none⟩) (d.coneL d.t.obj.toNat).length (d.coneL d.t.obj.toNat).length, .bool true] ∧ H.next ≤ gL ∧ ConsAt 98 2 H.next H' gL r (d.coneL d.t.obj.toNat)))) := by
  have hob := hP.2.1.1.obj
  refine GCalls.body (N := 25) (rs := [.tmp 2, .tmp 3]) Try.func59 rfl rfl rfl rfl (fun Qx hret hend => ?_)
  refine .forget (fr' := [(0, some _)]) ⟨rfl, trivial⟩ ?_
  have hle := GHeap.Le.refl H
  have base_h := h
  obtain ⟨fs, ft, c10, c11, j1, j2⟩ := h.get
  have hm : MemN _ _ _ _ _ := ⟨rfl, h.1⟩
  have hi := h.2
  have hms : MemN _ _ _ _ _ := ⟨rfl, fs.1⟩
  have his := fs.2
  have hmt : MemN _ _ _ _ _ := ⟨rfl, ft.1⟩
  have hit := ft.2
  obtain ⟨s0, s1, s2, s3, s4, u1, u2, u3, u4⟩ := ft.get
  refine .seq (fun K1 hK1 => .region (.mv rfl (.mv rfl (.nil (hK1 _ _ (.seq (fun K2 hK2 => .region ?_)))))))
  refine .r rfl rfl rfl (.litR rfl sl_93_Hi ze_98_Hi rfl rfl (by omega) (by omega) rfl rfl) ?_
  rintro _ H7 ⟨g7, rfl, le7, ge7, at7⟩
  have nx_H7 := le7.1
  replace hle := hle.trans le7
  have lt_at7 := GHeap.ltg at7
  replace h := base_h.mono hle
  clear fs ft c10 c11 j1 j2 hm hi hms his hmt hit s0 s1 s2 s3 s4 u1 u2 u3 u4
  obtain ⟨fs, ft, c10, c11, j1, j2⟩ := h.get
  have hm : MemN _ _ _ _ _ := ⟨rfl, h.1⟩
  have hi := h.2
  have hms : MemN _ _ _ _ _ := ⟨rfl, fs.1⟩
  have his := fs.2
  have hmt : MemN _ _ _ _ _ := ⟨rfl, ft.1⟩
  have hit := ft.2
  obtain ⟨s0, s1, s2, s3, s4, u1, u2, u3, u4⟩ := ft.get
  refine .r rfl rfl rfl (.allocR rfl ze_93_Hi rfl) ?_
  rintro _ H4 ⟨g4, rfl, le4, ge4, at4⟩
  have nx_H4 := le4.1
  replace hle := hle.trans le4
  replace at7 := le4.2 _ _ at7
  have lt_at4 := GHeap.ltg at4
  replace h := base_h.mono hle
  clear fs ft c10 c11 j1 j2 hm hi hms his hmt hit s0 s1 s2 s3 s4 u1 u2 u3 u4
  obtain ⟨fs, ft, c10, c11, j1, j2⟩ := h.get
  have hm : MemN _ _ _ _ _ := ⟨rfl, h.1⟩
  have hi := h.2
  have hms : MemN _ _ _ _ _ := ⟨rfl, fs.1⟩
  have his := fs.2
  have hmt : MemN _ _ _ _ _ := ⟨rfl, ft.1⟩
  have hit := ft.2
  obtain ⟨s0, s1, s2, s3, s4, u1, u2, u3, u4⟩ := ft.get
  refine .r0 rfl rfl (.storeR rfl sz_93_Hi rfl rfl rfl (by assumption) (by first | exact Nat.le_of_ble_eq_true rfl | (simp; done) | (simp <;> omega))) ?_
  rintro _ H1002 ⟨rfl, st1002, at1002⟩
  have nx_H1002 := st1002.nx
  replace hle := hle.st st1002 (fun k hk => ⟨by omega, trivial⟩)
  replace at7 := st1002.same _ _ ⟨(by first | assumption | omega), trivial⟩ at7
  have lt_at1002 := GHeap.ltg at1002
  replace h := base_h.mono hle
  clear fs ft c10 c11 j1 j2 hm hi hms his hmt hit s0 s1 s2 s3 s4 u1 u2 u3 u4
  obtain ⟨fs, ft, c10, c11, j1, j2⟩ := h.get
  have hm : MemN _ _ _ _ _ := ⟨rfl, h.1⟩
  have hi := h.2
  have hms : MemN _ _ _ _ _ := ⟨rfl, fs.1⟩
  have his := fs.2
  have hmt : MemN _ _ _ _ _ := ⟨rfl, ft.1⟩
  have hit := ft.2
  obtain ⟨s0, s1, s2, s3, s4, u1, u2, u3, u4⟩ := ft.get
  try simp only [Nat.zero_add, List.set_cons_succ, List.set_cons_zero] at at1002
  refine .nil (hK2 _ _ (.seq (fun K3 hK3 => .seq (fun K4 hK4 => .region ?_))))
  refine .r rfl rfl rfl (.allocR rfl ze_2_E rfl) ?_
  rintro _ H5 ⟨g5, rfl, le5, ge5, at5⟩
  have nx_H5 := le5.1
  replace hle := hle.trans le5
  replace at7 := le5.2 _ _ at7
  replace at1002 := le5.2 _ _ at1002
  have lt_at5 := GHeap.ltg at5
  replace h := base_h.mono hle
  clear fs ft c10 c11 j1 j2 hm hi hms his hmt hit s0 s1 s2 s3 s4 u1 u2 u3 u4
  obtain ⟨fs, ft, c10, c11, j1, j2⟩ := h.get
  have hm : MemN _ _ _ _ _ := ⟨rfl, h.1⟩
  have hi := h.2
  have hms : MemN _ _ _ _ _ := ⟨rfl, fs.1⟩
  have his := fs.2
  have hmt : MemN _ _ _ _ _ := ⟨rfl, ft.1⟩
  have hit := ft.2
  obtain ⟨s0, s1, s2, s3, s4, u1, u2, u3, u4⟩ := ft.get
  refine .r0 rfl rfl (.storeR rfl sz_2_E rfl rfl rfl (by assumption) (by first | exact Nat.le_of_ble_eq_true rfl | (simp; done) | (simp <;> omega))) ?_
  rintro _ H2001 ⟨rfl, st2001, at2001⟩
  have nx_H2001 := st2001.nx
  replace hle := hle.st st2001 (fun k hk => ⟨by omega, trivial⟩)
  have ne_g7_g5 : NE g7 g5 := ⟨by first | assumption | omega⟩
  replace at7 := st2001.same _ _ ⟨ne_g7_g5.ne, trivial⟩ at7
  have ne_g4_g5 : NE g4 g5 := ⟨by first | assumption | omega⟩
  replace at1002 := st2001.same _ _ ⟨ne_g4_g5.ne, trivial⟩ at1002
  have lt_at2001 := GHeap.ltg at2001
  replace h := base_h.mono hle
  clear fs ft c10 c11 j1 j2 hm hi hms his hmt hit s0 s1 s2 s3 s4 u1 u2 u3 u4
  obtain ⟨fs, ft, c10, c11, j1, j2⟩ := h.get
  have hm : MemN _ _ _ _ _ := ⟨rfl, h.1⟩
  have hi := h.2
  have hms : MemN _ _ _ _ _ := ⟨rfl, fs.1⟩
  have his := fs.2
  have hmt : MemN _ _ _ _ _ := ⟨rfl, ft.1⟩
  have hit := ft.2
  obtain ⟨s0, s1, s2, s3, s4, u1, u2, u3, u4⟩ := ft.get
  try simp only [Nat.zero_add, List.set_cons_succ, List.set_cons_zero] at at2001
  refine .nil (hK4 _ _ ?_)
  refine .block ?_
  refine .loopR (σ := Nat × Nat × Nat) [(0, some _), (4, some _)] (fun (x, gx, gV) => [(5, some (.pointer (some ⟨gx, 0, none⟩)))]) (fun (x, gx, gV) H' => St [g4, g7] H2001 H' ∧ x ≤ d.t.obj.toNat ∧ (d.coneL x).length ≤ 400 ∧ (gx = g5 ∨ H2001.next ≤ gx) ∧ gx < H'.next ∧ (gV = g7 ∨ H2001.next ≤ gV) ∧ gV < H'.next ∧ gx ≠ gV ∧ H'.get gx = some (.row [.int .i64 (x : Int)] 2 true) ∧ H'.get g4 = some (.row [.slice (some ⟨gV, 0, none⟩) (d.coneL x).length (d.coneL x).length] 93 true) ∧ ∃ r, H'.get gV = some (.row (conV r (d.coneL x)) 98 true) ∧ OwnL H.next H' 2 r ((d.coneL x).map Con.lg)) (fun (x, gx, gV) => d.t.obj.toNat - x) ((0, g5, g7)) ⟨rfl, rfl, trivial⟩ ⟨rfl, trivial⟩ ?_ ?_
  ·
   refine ⟨.refl _ _, ?_⟩
   exact ⟨by omega, by simp [Fun.coneL], .inl rfl, by omega, .inl rfl, by omega, by omega, at2001, at1002, fun _ => none, at7, .nil _ _ _ _⟩
  rintro ⟨x, gx, gV⟩ HL1 ⟨lst1, hI⟩ KL1 hKL1
  refine .forget (fr' := [(5, some (.pointer (some ⟨gx, 0, none⟩))), (0, some _), (4, some _)]) ⟨rfl, rfl, rfl, trivial⟩ ?_
  have nx_HL1 := lst1.nx
  replace hle := hle.st lst1 (fun k hk => ⟨by omega, by omega, trivial⟩)
  replace at2001 := lst1.same _ _ ⟨(Ne.symm ne_g4_g5.ne), (Ne.symm ne_g7_g5.ne), trivial⟩ at2001
  replace h := base_h.mono hle
  clear fs ft c10 c11 j1 j2 hm hi hms his hmt hit s0 s1 s2 s3 s4 u1 u2 u3 u4
  obtain ⟨fs, ft, c10, c11, j1, j2⟩ := h.get
  have hm : MemN _ _ _ _ _ := ⟨rfl, h.1⟩
  have hi := h.2
  have hms : MemN _ _ _ _ _ := ⟨rfl, fs.1⟩
  have his := fs.2
  have hmt : MemN _ _ _ _ _ := ⟨rfl, ft.1⟩
  have hit := ft.2
  obtain ⟨s0, s1, s2, s3, s4, u1, u2, u3, u4⟩ := ft.get
  obtain ⟨hx, hcl, hgx, hgxl, hgV, hgVl, hxv, hix, hd, r, hgc, hR⟩ := hI
  have c5 := Mem.of_get hix 0 _ rfl
  refine .seq (fun K5 hK5 => .seq (fun K6 hK6 => ?_))
  refine .regionD mo_B (.q 0 (.q 1 (.q 2 (.q 3 (.q 4 (.q 5 (.q 6 (.done)))))))) (by kernel_rfl) ?_
  refine .m rfl rfl rfl rfl (.refl _) (.load on_2_A rfl (by assumption)) ?_
  refine .mv rfl rfl (.m rfl rfl rfl rfl (.refl _) (.nilCheck rfl) (.m rfl rfl rfl rfl (.refl _) (.fieldAddr fo_33_1_E rfl) (.m rfl rfl rfl rfl (.refl _) (.fieldAddr fo_31_0_B rfl) ?_)))
  refine .m rfl rfl rfl rfl (.refl _) (.load on_2_A rfl (by assumption)) ?_
  refine .m rfl rfl rfl rfl (.refl _) (.cmp rfl rfl rfl) ?_
  refine .done ?_
  refine hK6 _ _ ?_
  refine .cond rfl (fun h14 => ?_) (fun h14 => ?_)
  ·
   simp only [sps] at h14
   refine .skip ?_
   refine hK5 _ _ (.seq (fun K7 hK7 => ?_))
   refine .block ?_
   refine .seq (fun K8 hK8 => .region (.mv rfl ?_))
   refine .m rfl rfl rfl (.load on_2_A rfl (by assumption)) ?_
   refine .m rfl rfl rfl (.makeFunc rfl) ?_
   have hears : Hears Try.prog 103 #[.pointer (some ⟨g4, 0, none⟩), .pointer (some ⟨gx, 0, none⟩)] HL1.next g4 (400 - (d.coneL x).length) 2 (fun b fs gF H' => GathC 93 98 2 2 g4 gx H.next HL1.next (x : Int) (d.coneL x) b fs gF H') := ⟨@Try.call103, fun h s => h.le s, fun h h1 h2 h3 s => h.st s (by omega) (by omega) h3 h1 h2, fun hA h1 h2 h3 h4 h5 h6 h7 _ => allCones1_c hA h5 (by omega) h3 (by omega) h4 (by omega) (by omega) h7⟩
   refine .call rfl rfl rfl rfl @Try.call102 rfl ((legs_c (H0 := H) (w := (x : Int)) (gF := gV) (g1 := g4) (fs := []) base_h hP hears hle (by omega) (by omega) (by omega) (by omega) (by simp) (fun b => ⟨by simpa using hd, hix, r, by simpa using hgc, by simpa using hR, fun i hi g hg => .inl (hR.side i (by simpa using hi) g hg)⟩))) ?_
   rintro _ H20 ⟨gF20, b20, rfl, hb20, hbb20, hg20, hl20, st20, hA20⟩
   obtain ⟨hd20, hix20, r20, hgF20, hR20, hsd20⟩ := hA20
   have rk20 := St.refl [] H20
   have nx_H20 := st20.nx
   replace hle := hle.st st20 (fun k hk => ⟨by omega, by omega, trivial⟩)
   replace lst1 := lst1.st st20 (fun k hk ho => by simp only [out, and_true] at ho ⊢ <;> first | exact ho | exact ho.1 | exact ho.2 | exact ho.2.1 | exact ho.2.2 | exact ho.2.2.1 | exact ho.2.2.2 | omega)
   replace at2001 := st20.same _ _ ⟨(Ne.symm ne_g4_g5.ne), (by first | assumption | omega), trivial⟩ at2001
   have lt_hd20 := GHeap.ltg hd20
   have lt_hgF20 := GHeap.ltg hgF20
   replace h := base_h.mono hle
   clear fs ft c10 c11 j1 j2 hm hi hms his hmt hit s0 s1 s2 s3 s4 u1 u2 u3 u4
   obtain ⟨fs, ft, c10, c11, j1, j2⟩ := h.get
   have hm : MemN _ _ _ _ _ := ⟨rfl, h.1⟩
   have hi := h.2
   have hms : MemN _ _ _ _ _ := ⟨rfl, fs.1⟩
   have his := fs.2
   have hmt : MemN _ _ _ _ _ := ⟨rfl, ft.1⟩
   have hit := ft.2
   obtain ⟨s0, s1, s2, s3, s4, u1, u2, u3, u4⟩ := ft.get
   refine .mv rfl (.nil (hK8 _ _ (.seq (fun K9 hK9 => .region (.mv rfl (.m rfl rfl rfl (.not rfl) (.nil (hK9 _ _ ?_))))))))
   refine .cond rfl (fun h22 => ?_) (fun h22 => ?_)
   ·
    have hbig := Fun.coneL_big (d := d) (x := x) (n := d.t.obj.toNat) (by omega) (by have := of_decide_eq_false (bnot_T h22); rw [List.length_nil, Nat.zero_add] at this; exact this) hcl
    refine .seq (fun K10 hK10 => .region (.mv rfl (.mv rfl (.nil (hK10 _ _ ?_)))))
    refine .ret ?_
    refine hret _ _ ?_
    refine ⟨_, _, rfl, rfl, ?_⟩
    exact ⟨hle, .inl ⟨hbig, rfl⟩⟩
   have hsm := of_decide_eq_true (bnot_f h22)
   rw [List.length_nil, Nat.zero_add] at hsm
   have hE := Fun.coneL_next hsm
   have hlen : (d.coneL (x + 1)).length ≤ 400 := by rw [Fun.coneL_succ, List.length_append, List.length_map]; omega
   rw [hE] at hd20 hgF20 hR20
   refine .skip ?_
   refine hK7 _ _ (.seq (fun K11 hK11 => .seq (fun K12 hK12 => .region ?_)))
   have c5b := Mem.of_get hix20 0 _ rfl
   refine .m rfl rfl rfl (.load on_2_A rfl (by assumption)) ?_
   refine .nil (hK12 _ _ (.region ?_))
   refine .r rfl rfl rfl (.allocR rfl ze_2_E rfl) ?_
   rintro _ H5x2 ⟨g5x2, rfl, le5x2, ge5x2, at5x2⟩
   have nx_H5x2 := le5x2.1
   replace hle := hle.trans le5x2
   replace lst1 := lst1.le le5x2
   replace rk20 := rk20.le le5x2
   replace at2001 := le5x2.2 _ _ at2001
   replace hd20 := le5x2.2 _ _ hd20
   replace hgF20 := le5x2.2 _ _ hgF20
   have lt_at5x2 := GHeap.ltg at5x2
   replace h := base_h.mono hle
   clear fs ft c10 c11 j1 j2 hm hi hms his hmt hit s0 s1 s2 s3 s4 u1 u2 u3 u4
   obtain ⟨fs, ft, c10, c11, j1, j2⟩ := h.get
   have hm : MemN _ _ _ _ _ := ⟨rfl, h.1⟩
   have hi := h.2
   have hms : MemN _ _ _ _ _ := ⟨rfl, fs.1⟩
   have his := fs.2
   have hmt : MemN _ _ _ _ _ := ⟨rfl, ft.1⟩
   have hit := ft.2
   obtain ⟨s0, s1, s2, s3, s4, u1, u2, u3, u4⟩ := ft.get
   refine .r0 rfl rfl (.storeR rfl sz_2_E rfl rfl rfl (by assumption) (by first | exact Nat.le_of_ble_eq_true rfl | (simp; done) | (simp <;> omega))) ?_
   rintro _ H9001 ⟨rfl, st9001, at9001⟩
   have nx_H9001 := st9001.nx
   replace hle := hle.st st9001 (fun k hk => ⟨by omega, trivial⟩)
   replace lst1 := lst1.st st9001 (fun k hk ho => by simp only [out, and_true] at ho ⊢ <;> first | exact ho | exact ho.1 | exact ho.2 | exact ho.2.1 | exact ho.2.2 | exact ho.2.2.1 | exact ho.2.2.2 | omega)
   replace rk20 := rk20.st st9001 (fun k hk ho => by simp only [out, and_true] at ho ⊢ <;> first | exact ho | exact ho.1 | exact ho.2 | exact ho.2.1 | exact ho.2.2 | exact ho.2.2.1 | exact ho.2.2.2 | omega)
   have ne_g5_g5x2 : NE g5 g5x2 := ⟨by first | assumption | omega⟩
   replace at2001 := st9001.same _ _ ⟨ne_g5_g5x2.ne, trivial⟩ at2001
   have ne_g4_g5x2 : NE g4 g5x2 := ⟨by first | assumption | omega⟩
   replace hd20 := st9001.same _ _ ⟨ne_g4_g5x2.ne, trivial⟩ hd20
   have ne_gF20_g5x2 : NE gF20 g5x2 := ⟨by first | assumption | omega⟩
   replace hgF20 := st9001.same _ _ ⟨ne_gF20_g5x2.ne, trivial⟩ hgF20
   have lt_at9001 := GHeap.ltg at9001
   replace h := base_h.mono hle
   clear fs ft c10 c11 j1 j2 hm hi hms his hmt hit s0 s1 s2 s3 s4 u1 u2 u3 u4
   obtain ⟨fs, ft, c10, c11, j1, j2⟩ := h.get
   have hm : MemN _ _ _ _ _ := ⟨rfl, h.1⟩
   have hi := h.2
   have hms : MemN _ _ _ _ _ := ⟨rfl, fs.1⟩
   have his := fs.2
   have hmt : MemN _ _ _ _ _ := ⟨rfl, ft.1⟩
   have hit := ft.2
   obtain ⟨s0, s1, s2, s3, s4, u1, u2, u3, u4⟩ := ft.get
   try simp only [Nat.zero_add, List.set_cons_succ, List.set_cons_zero] at at9001
   refine .nil (hK11 _ _ (.region ?_))
   refine .m rfl rfl rfl (.load on_2_A rfl (by first | assumption | exact Mem.of_get at9001 0 _ rfl)) ?_
   refine .m rfl rfl rfl (.add rfl rfl rfl (by omega) (by omega)) ?_
   refine .r0 rfl rfl (.storeR rfl sz_2_E rfl rfl rfl (by assumption) (by first | exact Nat.le_of_ble_eq_true rfl | (simp; done) | (simp <;> omega))) ?_
   rintro _ H4002 ⟨rfl, st4002, at4002⟩
   have nx_H4002 := st4002.nx
   replace hle := hle.st st4002 (fun k hk => ⟨by omega, trivial⟩)
   replace lst1 := lst1.st st4002 (fun k hk ho => by simp only [out, and_true] at ho ⊢ <;> first | exact ho | exact ho.1 | exact ho.2 | exact ho.2.1 | exact ho.2.2 | exact ho.2.2.1 | exact ho.2.2.2 | omega)
   replace rk20 := rk20.st st4002 (fun k hk ho => by simp only [out, and_true] at ho ⊢ <;> first | exact ho | exact ho.1 | exact ho.2 | exact ho.2.1 | exact ho.2.2 | exact ho.2.2.1 | exact ho.2.2.2 | omega)
   replace at2001 := st4002.same _ _ ⟨ne_g5_g5x2.ne, trivial⟩ at2001
   replace hd20 := st4002.same _ _ ⟨ne_g4_g5x2.ne, trivial⟩ hd20
   replace hgF20 := st4002.same _ _ ⟨ne_gF20_g5x2.ne, trivial⟩ hgF20
   have lt_at4002 := GHeap.ltg at4002
   replace h := base_h.mono hle
   clear fs ft c10 c11 j1 j2 hm hi hms his hmt hit s0 s1 s2 s3 s4 u1 u2 u3 u4
   obtain ⟨fs, ft, c10, c11, j1, j2⟩ := h.get
   have hm : MemN _ _ _ _ _ := ⟨rfl, h.1⟩
   have hi := h.2
   have hms : MemN _ _ _ _ _ := ⟨rfl, fs.1⟩
   have his := fs.2
   have hmt : MemN _ _ _ _ _ := ⟨rfl, ft.1⟩
   have hit := ft.2
   obtain ⟨s0, s1, s2, s3, s4, u1, u2, u3, u4⟩ := ft.get
   try simp only [Nat.zero_add, List.set_cons_succ, List.set_cons_zero] at at4002
   refine .nil ?_
   refine hKL1 ((x + 1, g5x2, gF20)) _ _ ?_ ?_ ⟨rfl, rfl, rfl, trivial⟩
   ·
    refine ⟨lst1, ?_⟩
    exact ⟨by omega, hlen, .inr (by omega), by omega, by omega, by omega, by omega, at4002, hd20, r20, hgF20, hR20.mono (rk20.le_of_nil)⟩
   (dsimp only; omega)
  simp only [sps] at h14
  refine .exit ?_
  refine hK3 _ _ (.seq (fun K13 hK13 => .region ?_))
  have c44 := Mem.of_get hd 0 _ rfl
  refine .m rfl rfl rfl (.load on_93_Hi rfl (by assumption)) ?_
  refine .mv rfl (.mv rfl (.nil (hK13 _ _ ?_)))
  refine .ret ?_
  refine hret _ _ ?_
  refine ⟨_, _, rfl, rfl, ?_⟩
  obtain rfl : x = d.t.obj.toNat := by omega
  exact ⟨hle, .inr ⟨hcl, gV, r, rfl, by omega, hgc, hR⟩⟩
end Go.Proofs.Ytagkeabmdodfiaa
namespace Go.Proofs.Ytagkeabmdodfiaa
open Go Go.GL Go.RowKit Go.Proofs
end Go.Proofs.Ytagkeabmdodfiaa
namespace Go.Proofs.Ytagkeabmdodfiaa
open Go Go.GL Go.RowKit Go.Proofs
set_option maxHeartbeats 4000000 in
theorem l12List0_c {d : Fun} {p : FunP} {H : GHeap} (hin : d.In H p) (hs : d.Small) (hI : d.Is) (hb : (d.coneL d.t.obj.toNat).length ≤ 400) :
    GCalls Try.prog 52 [.agg (d.cells p).toArray] H (fun v H' => H.Le H' ∧ ∃ g r, v = .tuple #[.slice (some ⟨g, 0, none⟩) (d.coneL d.t.obj.toNat).length (d.coneL d.t.obj.toNat).length, .int .i64 0] ∧ ConsIn 98 H.next H' g r (d.coneL d.t.obj.toNat)) := by
  have htk : (d.coneL d.t.obj.toNat).take 401 = d.coneL d.t.obj.toNat := List.take_of_length_le (by omega)
  have hlt : ((d.coneL d.t.obj.toNat).take 401).length = (d.coneL d.t.obj.toNat).length := by rw [htk]
  refine GCalls.body (N := 11) (rs := [.tmp 2, .tmp 3]) Try.func52 rfl rfl rfl rfl (fun Qx hret hend => ?_)
  refine .forget (fr' := [(0, some _)]) ⟨rfl, trivial⟩ ?_
  have hle := GHeap.Le.refl H
  have base_hin := hin
  refine .seq (fun K1 hK1 => .region ?_)
  refine .r rfl rfl rfl (.boxR rfl sz_33_E rfl) ?_
  rintro _ H1 ⟨g1, rfl, le1, ge1, at1⟩
  have nx_H1 := le1.1
  replace hle := hle.trans le1
  replace hin := base_hin.mono hle
  have hb1 : Fun.At _ g1 0 d p := ⟨Mem.of_get at1, hin⟩
  refine .mv rfl (.mv rfl (.nil (hK1 _ _ (.seq (fun K2 hK2 => .region ?_)))))
  refine .m rfl rfl rfl (.loadM ag_33_E rfl ⟨rfl, Mem.of_get at1⟩) ?_
  refine .call rfl rfl rfl rfl @Try.call98 rfl (l12Cones_c hin hs hI) ?_
  rintro _ H6 ⟨le6, g6, r6, rfl, v6⟩
  replace hle := hle.trans le6
  replace at1 := le6.2 _ _ at1
  replace hin := base_hin.mono hle
  clear hb1
  have hb1 : Fun.At _ g1 0 d p := ⟨Mem.of_get at1, hin⟩
  refine .mv rfl (.nil (hK2 _ _ (.seq (fun K3 hK3 => .seq (fun K4 hK4 => .region (.mv rfl (.m rfl rfl rfl (.len sl_93_Hk rfl) (.m rfl rfl rfl (.cmp rfl rfl rfl) (.nil (hK4 _ _ ?_))))))))))
  refine .cond rfl (fun h9 => ?_) (fun h9 => ?_)
  ·
   simp only [sps] at h9; omega
  try simp only [sps] at h9
  refine .skip ?_
  refine hK3 _ _ (.seq (fun K5 hK5 => .region (.mv rfl (.mv rfl (.mv rfl (.nil (hK5 _ _ ?_)))))))
  refine .ret ?_
  refine hret _ _ ?_
  refine ⟨_, _, rfl, rfl, ?_⟩
  rw [htk] at v6
  exact ⟨hle, g6, r6, by rw [htk], v6.keep (.of_le (.refl _)) (by omega)⟩
set_option maxHeartbeats 4000000 in
theorem l12List1_c {d : Fun} {p : FunP} {H : GHeap} (hin : d.In H p) (hs : d.Small) (hI : d.Is) (hb : ¬ (d.coneL d.t.obj.toNat).length ≤ 400) :
    GCalls Try.prog 52 [.agg (d.cells p).toArray] H (Ret (.tuple #[.slice none 0 0, .int .i64 3]) H) := by
  refine GCalls.ret rfl ?_
  have hlt : 400 < ((d.coneL d.t.obj.toNat).take 401).length := by rw [List.length_take]; omega
  refine GCalls.body (N := 11) (rs := [.tmp 2, .tmp 3]) Try.func52 rfl rfl rfl rfl (fun Qx hret hend => ?_)
  refine .forget (fr' := [(0, some _)]) ⟨rfl, trivial⟩ ?_
  have hle := GHeap.Le.refl H
  have base_hin := hin
  refine .seq (fun K1 hK1 => .region ?_)
  refine .r rfl rfl rfl (.boxR rfl sz_33_E rfl) ?_
  rintro _ H1 ⟨g1, rfl, le1, ge1, at1⟩
  replace hle := hle.trans le1
  replace hin := base_hin.mono hle
  have hb1 : Fun.At _ g1 0 d p := ⟨Mem.of_get at1, hin⟩
  refine .mv rfl (.mv rfl (.nil (hK1 _ _ (.seq (fun K2 hK2 => .region ?_)))))
  refine .m rfl rfl rfl (.loadM ag_33_E rfl ⟨rfl, Mem.of_get at1⟩) ?_
  refine .call rfl rfl rfl rfl @Try.call98 rfl (l12Cones_c hin hs hI) ?_
  rintro _ H6 ⟨le6, g6, r6, rfl, v6⟩
  replace hle := hle.trans le6
  replace at1 := le6.2 _ _ at1
  replace hin := base_hin.mono hle
  clear hb1
  have hb1 : Fun.At _ g1 0 d p := ⟨Mem.of_get at1, hin⟩
  refine .mv rfl (.nil (hK2 _ _ (.seq (fun K3 hK3 => .seq (fun K4 hK4 => .region (.mv rfl (.m rfl rfl rfl (.len sl_93_Hk rfl) (.m rfl rfl rfl (.cmp rfl rfl rfl) (.nil (hK4 _ _ ?_))))))))))
  refine .cond rfl (fun h9 => ?_) (fun h9 => ?_)
  ·
   try simp only [sps] at h9
   refine .seq (fun K5 hK5 => .region (.mv rfl (.mv rfl (.nil (hK5 _ _ ?_)))))
   refine .ret ?_
   refine hret _ _ ?_
   refine ⟨_, _, rfl, rfl, ?_⟩
   exact ⟨rfl, hle⟩
  simp only [sps] at h9; omega
theorem allCones0_c {g o : Nat} {d : Fun} {p : FunP} {H : GHeap} (h : Fun.At H g o d p) (hP : d.Is) (hb : (d.coneL d.t.obj.toNat).length ≤ 400) :
    GCalls Try.prog 59 [.pointer (some ⟨g, o, none⟩)] H (fun v H' => H.Le H' ∧ ∃ gL r, v = .tuple #[.slice (some ⟨gL, 0, none⟩) (d.coneL d.t.obj.toNat).length (d.coneL d.t.obj.toNat).length, .bool true] ∧ ConsIn 98 H.next H' gL r (d.coneL d.t.obj.toNat)) :=
  (allCones_c h hP).mono fun v H' ⟨h1, h2⟩ => by
    rcases h2 with ⟨h3, _⟩ | ⟨_, gL, r, h4, h5, h6⟩
    · omega
    · exact ⟨h1, gL, r, h4, h6.cin h5⟩
theorem allCones1b_c {g o : Nat} {d : Fun} {p : FunP} {H : GHeap} (h : Fun.At H g o d p) (hP : d.Is) (hb : ¬ (d.coneL d.t.obj.toNat).length ≤ 400) :
    GCalls Try.prog 59 [.pointer (some ⟨g, o, none⟩)] H (fun v H' => H.Le H' ∧ v = .tuple #[.slice none 0 0, .bool false]) :=
  (allCones_c h hP).mono fun v H' ⟨h1, h2⟩ => by
    rcases h2 with ⟨_, h4⟩ | ⟨h3, _⟩
    · exact ⟨h1, h4⟩
    · omega
end Go.Proofs.Ytagkeabmdodfiaa
namespace Go.GL
def u8s (ns : List Int) : List Value := ns.map (Value.int .u8)
@[simp] theorem length_u8s (ns : List Int) : (u8s ns).length = ns.length := by simp [u8s]
def idxLL (xss : List (List Int)) (t : List Int) : Int := match firstN xss.length fun i => xss.getD i [] == t with | some i => (i : Int) | none => -1
theorem idxLL_some {xss : List (List Int)} {t : List Int} {i : Nat} (hi : i < xss.length) (h : xss.getD i [] = t) (hb : ∀ j, j < i → ¬ xss.getD j [] = t) : idxLL xss t = i := by
  unfold idxLL
  rw [firstN_some hi (by simpa using h) fun j hj => by simpa using hb j hj]
theorem idxLL_none {xss : List (List Int)} {t : List Int} (h : ∀ j, j < xss.length → ¬ xss.getD j [] = t) : idxLL xss t = -1 := by
  unfold idxLL
  rw [firstN_none fun j hj => by simpa using h j hj]
theorem getD_inj {xss : List (List Int)} (hn : xss.Nodup) {i j : Nat} (hi : i < xss.length) (hj : j < xss.length) (h : xss.getD i [] = xss.getD j []) : i = j := by
  rw [List.getD_eq_getElem?_getD, List.getD_eq_getElem?_getD, List.getElem?_eq_getElem hi, List.getElem?_eq_getElem hj] at h
  exact (List.getElem_inj hn).1 (by simpa using h)
theorem idxLL_at {xss : List (List Int)} (hn : xss.Nodup) {i : Nat} (hi : i < xss.length) : idxLL xss (xss.getD i []) = i := idxLL_some hi rfl fun j hj e => by have := getD_inj hn (by omega) hi e; omega
theorem idxLL_mem {xss : List (List Int)} (hn : xss.Nodup) {t : List Int} (h : t ∈ xss) : ∃ i : Nat, i < xss.length ∧ xss.getD i [] = t ∧ idxLL xss t = i := by
  obtain ⟨i, hi, e⟩ := List.getElem_of_mem h
  have e2 : xss.getD i [] = t := by rw [List.getD_eq_getElem?_getD, List.getElem?_eq_getElem hi, e]; rfl
  exact ⟨i, hi, e2, by rw [← e2]; exact idxLL_at hn hi⟩
structure Keys (n : Nat) (xss : List (List Int)) : Prop where
  nd : xss.Nodup
  ok : ∀ t ∈ xss, t.length = n ∧ ∀ i, i < n → 0 ≤ t.getD i 0 ∧ t.getD i 0 ≤ 255
end Go.GL
namespace Go.GL
open Go.RowKit
structure PL (g g0 n : Nat) : Prop where
  or : g = g0 ∨ n ≤ g
theorem PL.ne {g g0 n x : Nat} (h : PL g g0 n) (h0 : x ≠ g0) (hx : x < n) : x ≠ g := by
  rcases h.or with rfl | h
  · exact h0
  · omega
theorem PL.trans {g g1 g0 n n' : Nat} (h : PL g g1 n') (h' : PL g1 g0 n) (hn : n ≤ n') : PL g g0 n := by
  rcases h.or with rfl | h
  · exact h'
  · exact ⟨.inr (by omega)⟩
theorem PL.ge {g g0 n b : Nat} (h : PL g g0 n) (h0 : b ≤ g0) (hn : b ≤ n) : b ≤ g := by
  rcases h.or with rfl | h
  · exact h0
  · omega
def nz : Nat → Nat → Option Addr
  | 0, _ => none
  | _ + 1, g => some ⟨g, 0, none⟩
theorem nz_pos {k g : Nat} (h : 0 < k) : nz k g = some ⟨g, 0, none⟩ := by
  cases k with
  | zero => omega
  | succ k => rfl
structure NO (H : GHeap) (g : Nat) (cs : List Value) (e : TypeId) (k : Nat) : Prop where
  lt : g < H.next
  or : (k = 0 ∧ cs = []) ∨ (0 < k ∧ H.get g = some (.row cs e true))
theorem NO.le {H H' : GHeap} {g k : Nat} {cs : List Value} {e : TypeId} (h : NO H g cs e k) (s : H.Le H') : NO H' g cs e k := ⟨by have := h.lt; have := s.1; omega, h.or.imp id fun h => ⟨h.1, s.2 _ _ h.2⟩⟩
theorem NO.st {H H' : GHeap} {g k : Nat} {bs : List Nat} {cs : List Value} {e : TypeId} (h : NO H g cs e k) (s : St bs H H') (ho : out bs g) : NO H' g cs e k := ⟨by have := h.lt; have := s.nx; omega, h.or.imp id fun h => ⟨h.1, s.same _ _ ho h.2⟩⟩
theorem NO.start {H : GHeap} {g k : Nat} {cs : List Value} {e : TypeId} (h : g < H.next) (hk : k = 0) (hc : cs = []) : NO H g cs e k := ⟨h, .inl ⟨hk, hc⟩⟩
theorem NO.of {H : GHeap} {g k : Nat} {cs : List Value} {e : TypeId} (h : H.get g = some (.row cs e true)) (hk : 0 < k) : NO H g cs e k := ⟨GHeap.ltg h, .inr ⟨hk, h⟩⟩
theorem NO.get {H : GHeap} {g k : Nat} {cs : List Value} {e : TypeId} (h : NO H g cs e k) (hk : 0 < k) : H.get g = some (.row cs e true) := by
  rcases h.or with ⟨h, _⟩ | ⟨_, h⟩
  · omega
  · exact h
theorem NO.nil {H : GHeap} {g k : Nat} {cs : List Value} {e : TypeId} (h : NO H g cs e k) (hk : k = 0) : cs = [] := by
  rcases h.or with ⟨_, h⟩ | ⟨h, _⟩
  · exact h
  · omega
theorem NO.isR {b : Nat} {H : GHeap} {g k : Nat} {xs : List Int} {e : TypeId} (h : NO H g (ints xs) e k) (hk : k = xs.length) (hb : b ≤ g) : IntsR b H (nz k g) xs := by
  subst hk
  by_cases h0 : xs.length = 0
  · obtain rfl := List.eq_nil_of_length_eq_zero h0
    exact .inl ⟨rfl, rfl⟩
  · rw [nz_pos (by omega)]
    exact .inr ⟨g, e, rfl, hb, h.get (by omega)⟩
theorem NO.isV {H : GHeap} {g k : Nat} {xs : List Int} {e : TypeId} (h : NO H g (ints xs) e k) (hk : k = xs.length) : Ints H (nz k g) xs := (h.isR (b := 0) hk (Nat.zero_le _)).ints
theorem NO.sl {H : GHeap} {g k n : Nat} {cs : List Value} {e : TypeId} (h : NO H g cs e k) (hn : cs.length = n) : SlA H (nz k g) n (fun i => cs.getD i (.bool false)) := by
  rcases h.or with ⟨rfl, rfl⟩ | ⟨h1, h2⟩
  · exact .inl hn.symm
  · rw [nz_pos h1]; exact SlA.of_row h2 hn
theorem nz_or (k g : Nat) : nz k g = none ∨ nz k g = some ⟨g, 0, none⟩ := by
  cases k with
  | zero => exact .inl rfl
  | succ k => exact .inr rfl
theorem Sim.hold {P : Program} {B : Nat} {w0 : World} {ρ : Place} {H : GHeap} {w : World} (hs : Sim P B w0 ρ H w) : Sim P B w0 ρ ⟨H.objs ++ [none]⟩ w := by
  have hg : ∀ {g : Nat} {o : GObj}, GHeap.get ⟨H.objs ++ [none]⟩ g = some o → H.get g = some o := fun {g o} h => by
    unfold GHeap.get at h ⊢
    rcases Nat.lt_trichotomy g H.objs.length with hl | hl | hl
    · rwa [List.getElem?_append_left hl] at h
    · subst hl; simp at h
    · rw [List.getElem?_eq_none (by simp; omega)] at h; cases h
  exact ⟨fun g h => hs.dom g (by have : (GHeap.mk (H.objs ++ [none])).next = H.next + 1 := by simp [GHeap.next]
                                 omega), fun g o h => hs.live g o (hg h), fun g g' o o' s s' h1 h2 => hs.apart g g' o o' s s' (hg h1) (hg h2), hs.base, hs.below⟩
theorem GT.hold {P : Program} {N : Nat} {c : Code} {Q : Exit → Slots → GHeap → Prop} {fr : Slots} {H : GHeap} (h : ∀ H', H.Le H' → H'.next = H.next + 1 → GT P N c Q fr H') : GT P N c Q fr H := fun B w0 ρ a w hs hf =>
  h ⟨H.objs ++ [none]⟩ ⟨by simp [GHeap.next], fun g o hg => by
    have hl : g < H.objs.length := GHeap.ltg hg
    unfold GHeap.get at hg ⊢
    rwa [List.getElem?_append_left hl]⟩ (by simp [GHeap.next]) B w0 ρ a w hs.hold hf
section
variable {P : Program} {o : Oper} {fr : Slots} {H : GHeap}
theorem CDo.appendNO {t tx e e' : TypeId} {s x : Operand} {g g1 n sz bytes : Nat} {z cs vs : List Value} (ho : o.op = .call { callee := .builtin .append, args := #[s, x], argTypes := #[t, tx] }) (ht : sliceT P t = some (e, sz)) (hz : zeroT P e = some (z, sz)) (hzn : z.length = sz)
    (hb : (P.info? e).map (·.bytes) = some bytes) (htx : sliceT P tx = some (e', sz)) (hsv : ev fr s = some (.slice (nz n g) n n)) (hx : ev fr x = some (.slice (some ⟨g1, 0, none⟩) 1 1)) (hno : NO H g cs e n) (hg1 : H.get g1 = some (.row vs e' true)) (hend : n * sz = cs.length)
    (hv : vs.length = sz) (hone : vs.all (·.oneCell') = true) (hN : n + 1 ≤ 16777216) (hB : (n + 1) * bytes ≤ 140737488355328) :
    CDo P o fr H (fun r H' => ∃ g', r = some (.slice (some ⟨g', 0, none⟩) (n + 1) (n + 1)) ∧ St [g] H H' ∧ H.next ≤ g' ∧ H'.get g' = some (.row (cs ++ vs) e true)) := by
  rcases hno.or with ⟨rfl, rfl⟩ | ⟨h1, h2⟩
  · have hsrc : SrcG P fr H sz tx x 1 vs := .slice htx hx (by omega) (fun i v hv => by rw [GHeap.cell_of hg1, Nat.zero_add]; exact hv) (fun v hv => List.all_eq_true.1 hone v hv)
    exact .appendNil ho ht hz hzn hb hsv hsrc (by omega) (by unfold maxLen; omega) (by omega) ⟨_, rfl, .push (.refl _ _), Nat.le_refl _, GHeap.get_push_new _ _⟩
  · rw [nz_pos h1] at hsv
    exact .appendV ho ht hz hzn hb htx hsv hx h2 hg1 hend hv hone hN hB
theorem CDo.appendNOI {t tx e e' : TypeId} {s x : Operand} {g g1 n bytes : Nat} {z : List Value} {ys : List Int} {m : Int} (ho : o.op = .call { callee := .builtin .append, args := #[s, x], argTypes := #[t, tx] }) (ht : sliceT P t = some (e, 1)) (hz : zeroT P e = some (z, 1)) (hzn : z.length = 1)
    (hb : (P.info? e).map (·.bytes) = some bytes) (htx : sliceT P tx = some (e', 1)) (hsv : ev fr s = some (.slice (nz n g) n n)) (hx : ev fr x = some (.slice (some ⟨g1, 0, none⟩) 1 1)) (hno : NO H g (ints ys) e n) (hg1 : H.get g1 = some (.row [.int .i64 m] e' true)) (hend : n = ys.length)
    (hN : n + 1 ≤ 16777216) (hB : (n + 1) * bytes ≤ 140737488355328) :
    CDo P o fr H (fun r H' => ∃ g', r = some (.slice (some ⟨g', 0, none⟩) (n + 1) (n + 1)) ∧ St [g] H H' ∧ H.next ≤ g' ∧ H'.get g' = some (.row (ints (ys ++ [m])) e true)) := by
  have e1 : ints (ys ++ [m]) = ints ys ++ [.int .i64 m] := by simp [ints]
  rw [e1]
  exact .appendNO ho ht hz hzn hb htx hsv hx hno hg1 (by simp; omega) rfl rfl hN hB
end
end Go.GL
namespace Go.Proofs.Ytagkeabmdodfiaa
open Go Go.GL Go.RowKit Go.Proofs
theorem l09Find_c {a b : Option Addr} {xss : List (List Int)} {r : Nat → Option Addr} {t : List Int} {H : GHeap} (h : Intss H a xss r := by assumption) (ht : Ints H b t := by assumption) (hl : xss.length ≤ 1048576 := by omega) (hl2 : ∀ i, (xss.getD i []).length ≤ 1048576) (htl : t.length ≤ 1048576 := by omega) :
    GCalls Try.prog 56 [.slice a xss.length xss.length, .slice b t.length t.length] H (Ret (.int .i64 (idxLL xss t)) H) := by
  refine GCalls.ret rfl ?_
  refine GCalls.body (N := 19) (rs := [.tmp 4]) Try.func56 rfl rfl rfl rfl (fun Qx hret hend => ?_)
  refine .forget (fr' := [(0, some _), (1, some _)]) ⟨rfl, rfl, trivial⟩ ?_
  have hle := GHeap.Le.refl H
  have base_h := h
  have base_ht := ht
  refine .seq (fun K1 hK1 => .region (.mv rfl (.nil (hK1 _ _ (.seq (fun K2 hK2 => .seq (fun K3 hK3 => .region (.mv rfl (.nil (hK3 _ _ ?_))))))))))
  refine .block ?_
  refine .loopR (σ := Nat) [(0, some _), (1, some _)] (fun k => [(5, some (.int .i64 (k : Int)))]) (fun k H' => St [] H H' ∧ k ≤ xss.length ∧ ∀ j, j < k → ¬ xss.getD j [] = t) (fun k => xss.length - k) (0) ⟨rfl, rfl, trivial⟩ ⟨rfl, trivial⟩ ?_ ?_
  ·
   refine ⟨.refl _ _, ?_⟩
   exact ⟨by omega, fun _ _ => by omega⟩
  rintro k HL1 ⟨lst1, hI⟩ KL1 hKL1
  refine .forget (fr' := [(5, some (.int .i64 (k : Int))), (0, some _), (1, some _)]) ⟨rfl, rfl, rfl, trivial⟩ ?_
  replace hle := hle.st lst1 (fun k hk => trivial)
  replace h := base_h.mono hle
  replace ht := base_ht.mono hle
  obtain ⟨hi, ha⟩ := hI
  refine .seq (fun K4 hK4 => .seq (fun K5 hK5 => .region (.mv rfl (.mv rfl (.m rfl rfl rfl (.len sl_23_B rfl) (.m rfl rfl rfl (.cmp rfl rfl rfl) (.nil (hK5 _ _ ?_))))))))
  refine .cond rfl (fun h9 => ?_) (fun h9 => ?_)
  ·
   simp only [sps] at h9
   have q1 := hl2 k
   have u1 := h.2 k (by omega)
   refine .skip ?_
   refine hK4 _ _ (.seq (fun K6 hK6 => ?_))
   refine .block ?_
   refine .seq (fun K7 hK7 => .region (.mv rfl (.mv rfl ?_)))
   refine .m rfl rfl rfl (.idxN sl_23_B (Intss.sl (by assumption)) rfl rfl (by omega)) ?_
   refine .m rfl rfl rfl (.loadR on_22_B (by assumption) rfl (by omega)) ?_
   refine .mv rfl ?_
   refine .callQ rfl rfl rfl rfl @Try.call99 rfl (l01Same_c) ?_
   refine .nil (hK7 _ _ ?_)
   refine .cond rfl (fun h17 => ?_) (fun h17 => ?_)
   ·
    simp only [sps] at h17
    refine .seq (fun K8 hK8 => .region (.mv rfl (.mv rfl (.nil (hK8 _ _ ?_)))))
    refine .ret ?_
    refine hret _ _ ?_
    refine ⟨_, rfl, ?_⟩
    exact ⟨by rw [idxLL_some (by omega) h17 ha], hle⟩
   simp only [sps] at h17
   refine .skip ?_
   refine hK6 _ _ (.region (.mv rfl ?_))
   refine .m rfl rfl rfl (.add rfl rfl rfl (by omega) (by omega)) ?_
   refine .mv rfl (.nil ?_)
   refine hKL1 (k + 1) _ _ ?_ ?_ ⟨rfl, rfl, rfl, trivial⟩
   ·
    refine ⟨lst1, ?_⟩
    refine ⟨by omega, fun j hj => ?_⟩
    by_cases e : j < k
    · exact ha j e
    · obtain rfl : j = k := by omega
      exact h17
   omega
  try simp only [sps] at h9
  refine .exit ?_
  refine hK2 _ _ (.seq (fun K9 hK9 => .region (.mv rfl (.nil (hK9 _ _ ?_)))))
  refine .ret ?_
  refine hret _ _ ?_
  refine ⟨_, rfl, ?_⟩
  obtain rfl : k = xss.length := by omega
  exact ⟨by rw [idxLL_none ha], hle⟩
end Go.Proofs.Ytagkeabmdodfiaa
namespace Go.Proofs.Ytagkeabmdodfiaa
open Go Go.GL Go.RowKit Go.Proofs
end Go.Proofs.Ytagkeabmdodfiaa
namespace Go.GL
theorem Lasts.of_le {e : TypeId} {H H' : GHeap} (h : H.Le H') : Lasts e H H' := fun x _ hx => h.2 x _ hx
def lePr (k : Fun) (y : Int) (x i e : Nat) : List Int := [(x : Int), (k.t.hom (k.ob.getD x 0) y).getD i 0, (e : Int)]
def leL (k : Fun) (f : SFun) (y : Int) (x i e : Nat) : List (List Int) := nest3 (lePr k y) (fun x => (k.t.hom (k.ob.getD x 0) y).length) (fun x _ => (f.sz.getD x 0).toNat) x i e
theorem leLen {k : Fun} {f : SFun} (hk : k.Is) (hf : f.Is) (h : f.sh = k.s) : f.sz.length = k.ob.length := by
  have h1 := hf.1.zl
  have h2 := hk.2.2.ol
  rw [h] at h1
  omega
end Go.GL
namespace Go.GL
noncomputable def ctCode (p q : Prof) (x z : Int) : Int := bif B (p.Is ∧ q.Is) then (bif B ((0 ≤ x ∧ x < p.s.obj) ∧ (0 ≤ z ∧ z < q.t.obj)) then (bif B (p.t = q.s) then 0 else 5) else 2) else 1
theorem ctCode_1 {p q : Prof} {x z : Int} (h : ¬ (p.Is ∧ q.Is)) : ctCode p q x z = 1 := by unfold ctCode; rw [B_false h]; rfl
theorem ctCode_2 {p q : Prof} {x z : Int} (h : p.Is ∧ q.Is) (h' : ¬ ((0 ≤ x ∧ x < p.s.obj) ∧ (0 ≤ z ∧ z < q.t.obj))) : ctCode p q x z = 2 := by unfold ctCode; rw [B_true h, B_false h']; rfl
theorem ctCode_3 {p q : Prof} {x z : Int} (h : p.Is ∧ q.Is) (h' : (0 ≤ x ∧ x < p.s.obj) ∧ (0 ≤ z ∧ z < q.t.obj)) (h'' : ¬ p.t = q.s) : ctCode p q x z = 5 := by unfold ctCode; rw [B_true h, B_true h', B_false h'']; rfl
theorem ctCode_0 {p q : Prof} {x z : Int} (h : ctCode p q x z = 0) : p.Is ∧ q.Is ∧ 0 ≤ x ∧ x < p.s.obj ∧ 0 ≤ z ∧ z < q.t.obj ∧ p.t = q.s := by
  by_cases h1 : p.Is ∧ q.Is
  · by_cases h2 : (0 ≤ x ∧ x < p.s.obj) ∧ (0 ≤ z ∧ z < q.t.obj)
    · by_cases h3 : p.t = q.s
      · exact ⟨h1.1, h1.2, h2.1.1, h2.1.2, h2.2.1, h2.2.2, h3⟩
      · rw [ctCode_3 h1 h2 h3] at h; omega
    · rw [ctCode_2 h1 h2] at h; omega
  · rw [ctCode_1 h1] at h; omega
def ctPr (y e d : Nat) : List Int := [(y : Int), (e : Int), (d : Int)]
def ctL (p q : Prof) (x z : Int) (y e d : Nat) : List (List Int) := nest3 ctPr (fun y => ((p.sz.getD x.toNat []).getD y 0).toNat) (fun y _ => ((q.sz.getD y []).getD z.toNat 0).toNat) y e d
theorem ctL_snoc {p q : Prof} {x z : Int} {y e d : Nat} : ctL p q x z y e (d + 1) = ctL p q x z y e d ++ [ctPr y e d] := nest3_snoc
theorem ctL_next2 {p q : Prof} {x z : Int} {y e : Nat} : ctL p q x z y (e + 1) 0 = ctL p q x z y e ((q.sz.getD y []).getD z.toNat 0).toNat := nest3_next2
theorem ctL_next1 {p q : Prof} {x z : Int} {y : Nat} : ctL p q x z (y + 1) 0 0 = ctL p q x z y ((p.sz.getD x.toNat []).getD y 0).toNat 0 := nest3_next1
structure CtOk (p q : Prof) (x z : Int) (n : Nat) : Prop where
  n8 : n ≤ 8
  x0 : 0 ≤ x
  xl : x.toNat < p.sz.length
  z0 : 0 ≤ z
  pn : ((p.sz.getD x.toNat []).length : Int) = n
  qn : (q.sz.length : Int) = n
  pe : ∀ y, y < n → 0 ≤ (p.sz.getD x.toNat []).getD y 0 ∧ (p.sz.getD x.toNat []).getD y 0 ≤ 64
  qe : ∀ y, y < n → z.toNat < (q.sz.getD y []).length ∧ 0 ≤ (q.sz.getD y []).getD z.toNat 0 ∧ (q.sz.getD y []).getD z.toNat 0 ≤ 64
theorem CtOk.of {p q : Prof} {x z : Int} (hp : p.Is) (hq : q.Is) (h1 : 0 ≤ x) (h2 : x < p.s.obj) (h3 : 0 ≤ z) (h4 : z < q.t.obj) (h5 : p.t = q.s) : CtOk p q x z p.t.obj.toNat ∧ 0 ≤ p.t.obj := by
  have a1 := hp.1.t.1.obj
  have a2 := hp.1.z.sl
  have a3 := hq.1.z.sl
  have a4 := hp.1.z.row x.toNat (by omega)
  have e1 : q.s.obj = p.t.obj := by rw [h5]
  refine ⟨⟨by omega, h1, by omega, h3, by omega, by omega, fun y hy => hp.1.z.rng _ (by omega) y (by omega), fun y hy => ?_⟩, by omega⟩
  have b1 := hq.1.z.row y (by omega)
  exact ⟨by omega, hq.1.z.rng y (by omega) z.toNat (by omega)⟩
theorem CtOk.len {p q : Prof} {x z : Int} {n y e d : Nat} (h : CtOk p q x z n) (hy : y < n) (he : e < ((p.sz.getD x.toNat []).getD y 0).toNat) (hd : d ≤ ((q.sz.getD y []).getD z.toNat 0).toNat) : (ctL p q x z y e d).length ≤ 32768 := by
  have := nest3_le (pr := ctPr) (s1 := fun y => ((p.sz.getD x.toNat []).getD y 0).toNat) (s2 := fun y _ => ((q.sz.getD y []).getD z.toNat 0).toNat) (c := 64) (d := 64) (n := n) (fun a ha => by have := h.pe a ha; omega) (fun a ha b _ => by have := h.qe a ha; omega) hy he hd
  have h2 : n * (64 * 64) ≤ 8 * (64 * 64) := Nat.mul_le_mul_right _ h.n8
  exact Nat.le_trans this h2
def tcells (xss : List (List Int)) : List Value := xss.flatMap ints
theorem tcells_snoc (xss : List (List Int)) (x : List Int) : tcells (xss ++ [x]) = tcells xss ++ ints x := by simp [tcells]
theorem tcells_len {xss : List (List Int)} (h : ∀ x ∈ xss, x.length = 3) : (tcells xss).length = xss.length * 3 := by
  induction xss with
  | nil => rfl
  | cons x r ih =>
    have h1 := h x (by simp)
    have h2 := ih fun y hy => h y (by simp [hy])
    unfold tcells at h2 ⊢
    simp only [List.flatMap_cons, List.length_append, length_ints, List.length_cons]
    omega
theorem tcells_get {xss : List (List Int)} (h : ∀ x ∈ xss, x.length = 3) {i j : Nat} (hi : i < xss.length) (hj : j < 3) : (tcells xss)[i * 3 + j]? = some (.int .i64 ((xss.getD i []).getD j 0)) := by
  induction xss generalizing i with
  | nil => simp at hi
  | cons x r ih =>
    have h1 := h x (by simp)
    unfold tcells
    rw [List.flatMap_cons]
    cases i with
    | zero =>
      rw [List.getElem?_append_left (by simp; omega)]
      simp only [Nat.zero_mul, Nat.zero_add, List.getD_cons_zero]
      exact ints_get (by omega)
    | succ i =>
      rw [List.getElem?_append_right (by simp; omega)]
      simp only [length_ints, h1, List.getD_cons_succ]
      have := ih (fun y hy => h y (by simp [hy])) (i := i) (by simpa using hi)
      unfold tcells at this
      rw [← this]
      congr 1
      omega
theorem tcells_slA {H : GHeap} {g : Nat} {e : TypeId} {own : Bool} {xss : List (List Int)} (h : ∀ x ∈ xss, x.length = 3) (hg : H.get g = some (.row (tcells xss) e own)) : SlA H (some ⟨g, 0, none⟩) (xss.length * 3) (fun i => (tcells xss).getD i undef) :=
  .inr ⟨g, 0, rfl, fun i hi => by
    rw [GHeap.cell_of hg, Nat.zero_add]
    show _ = some ((tcells xss).getD i undef)
    rw [List.getD_eq_getElem?_getD, List.getElem?_eq_getElem (by rw [tcells_len h]; exact hi)]; rfl⟩
theorem tcells_mem {H : GHeap} {g : Nat} {e : TypeId} {own : Bool} {xss : List (List Int)} (h : ∀ x ∈ xss, x.length = 3) (hg : H.get g = some (.row (tcells xss) e own)) {i : Nat} (hi : i < xss.length) :
    MemN H g (0 + (i : Int).toNat * 3) 3 [.int .i64 ((xss.getD i []).getD 0 0), .int .i64 ((xss.getD i []).getD 1 0), .int .i64 ((xss.getD i []).getD 2 0)] := by
  refine ⟨rfl, fun j v hv => ?_⟩
  rw [GHeap.cell_of hg, Int.toNat_natCast, Nat.zero_add]
  match j, hv with
  | 0, hv => cases hv; exact tcells_get h hi (j := 0) (by omega)
  | 1, hv => cases hv; exact tcells_get h hi (j := 1) (by omega)
  | 2, hv => cases hv; exact tcells_get h hi (j := 2) (by omega)
  | n + 3, hv => simp at hv
structure TrAt (b : Nat) (H : GHeap) (g : Nat) (xss : List (List Int)) : Prop where
  lo : b ≤ g
  three : ∀ x ∈ xss, x.length = 3
  at' : ∃ e, H.get g = some (.row (tcells xss) e true)
theorem TrAt.keep {b b' : Nat} {H H' : GHeap} {g : Nat} {xss : List (List Int)} (h : TrAt b H g xss) (k : Keep b' H H') (hb : b' ≤ b) : TrAt b' H' g xss := by
  obtain ⟨h1, h2, e, h3⟩ := h
  exact ⟨by omega, h2, e, k _ _ (by omega) h3⟩
theorem TrAt.sl {b : Nat} {H : GHeap} {g : Nat} {xss : List (List Int)} (h : TrAt b H g xss) : SlA H (some ⟨g, 0, none⟩) (xss.length * 3) (fun i => (tcells xss).getD i undef) := by
  obtain ⟨h1, h2, e, h3⟩ := h
  exact tcells_slA h2 h3
theorem TrAt.mem {b : Nat} {H : GHeap} {g : Nat} {xss : List (List Int)} (h : TrAt b H g xss) {i : Nat} (hi : i < xss.length) :
    MemN H g (0 + (i : Int).toNat * 3) 3 [.int .i64 ((xss.getD i []).getD 0 0), .int .i64 ((xss.getD i []).getD 1 0), .int .i64 ((xss.getD i []).getD 2 0)] := by
  obtain ⟨h1, h2, e, h3⟩ := h
  exact tcells_mem h2 h3 hi
theorem TrAt.row {b : Nat} {H : GHeap} {g : Nat} {xss : List (List Int)} (h : TrAt b H g xss) {i : Nat} (hi : i < xss.length) : (xss.getD i []).length = 3 := h.three _ (getD_mem_list (d := []) hi)
end Go.GL
namespace Go.GL
abbrev rep (xs : List Int) (k : Nat) : Nat := least (kerB xs) k
theorem rep_lab (xs : List Int) (k : Nat) : xs.getD (rep xs k) 0 = xs.getD k 0 := by
  have := (least_mate (kerB_eqv xs (k + 1)) (i := k) (by omega)).1
  unfold kerB at this
  exact eq_of_beq this
theorem rep_eq {xs : List Int} {a b : Nat} : rep xs a = rep xs b ↔ xs.getD a 0 = xs.getD b 0 := by
  have := least_congr_mate (kerB_eqv xs (a + b + 1)) (i := a) (j := b) (by omega) (by omega)
  rw [this]; simp [kerB]
def pairsL (xs : List Int) (m : Nat) : List (List Int) := (List.range m).map fun i => [(rep xs i : Int), (i : Int)]
@[simp] theorem length_pairsL (xs : List Int) (m : Nat) : (pairsL xs m).length = m := by simp [pairsL]
abbrev Cat.tn (c : Cat) (a b : Nat) : Nat := ((c.comp.getD a []).getD b 0).toNat
theorem Cat.Shape.tn {c : Cat} (h : c.Shape) {a b : Nat} (ha : a < c.src.length) (hb : b < c.src.length) (e : c.tgt.getD a 0 = c.src.getD b 0) :
    c.tn a b < c.src.length ∧ c.src.getD (c.tn a b) 0 = c.src.getD a 0 ∧ c.tgt.getD (c.tn a b) 0 = c.tgt.getD b 0 ∧ (c.comp.getD a []).getD b 0 = (c.tn a b : Int) := by
  have h1 := (Cat.Cell.pos e).1 (h.cell a (by have := h.cl; omega) b hb)
  obtain ⟨h2, h3, h4, h5⟩ := h1
  exact ⟨by unfold Cat.tn; omega, h4, h5, by unfold Cat.tn; omega⟩
theorem Cat.Is.idl {c : Cat} (h : c.Is) {f : Nat} (hf : f < c.src.length) : c.tn (c.idn.getD (c.src.getD f 0).toNat 0).toNat f = f := by
  have := (h.2.ids f hf).1
  unfold Cat.th at this
  rw [Int.toNat_natCast] at this
  unfold Cat.tn
  omega
def Cat.ParOk (c : Cat) (xs : List Int) : Prop := ∀ k, k < c.src.length → c.src.getD (rep xs k) 0 = c.src.getD k 0 ∧ c.tgt.getD (rep xs k) 0 = c.tgt.getD k 0
def Cat.CmpOk (c : Cat) (xs : List Int) : Prop := ∀ i, i < c.src.length → ∀ j, j < c.src.length → c.tgt.getD i 0 = c.src.getD j 0 → xs.getD (c.tn i j) 0 = xs.getD (c.tn (rep xs i) (rep xs j)) 0
structure Cat.Cong (c : Cat) (xs : List Int) : Prop where
  len : xs.length = c.src.length
  nor : clsL (kerB xs) xs.length = xs
  par : c.ParOk xs
  cmp : c.CmpOk xs

theorem OwnL.low {b b' : Nat} {H : GHeap} {e : TypeId} {r : Nat → Option Addr} {xss : List (List Int)} (h : OwnL b H e r xss) (hb : b' ≤ b) : OwnL b' H e r xss := ⟨fun i hi => by
  obtain ⟨g, h1, h2, h3⟩ := h.row i hi
  exact ⟨g, h1, by omega, h3⟩, h.inj⟩
theorem Intss.slN {H : GHeap} {a : Option Addr} {xss : List (List Int)} {r : Nat → Option Addr} {n : Nat} (h : Intss H a xss r) (hn : xss.length = n) : SlA H a n (fun i => .slice (r i) (xss.getD i []).length (xss.getD i []).length) := by subst hn; exact h.1
def Cat.quOk (c : Cat) (xs : List Int) (t : Nat × Nat × Nat) : Bool := decide (c.tgt.getD t.2.1 0 = c.src.getD (rep xs t.1) 0) && decide (c.tgt.getD (rep xs t.1) 0 = c.src.getD t.2.2 0)
def Cat.quRow (c : Cat) (xs : List Int) (t : Nat × Nat × Nat) : List Int := [(c.tn (c.tn t.2.1 (rep xs t.1)) t.2.2 : Int), (c.tn (c.tn t.2.1 t.1) t.2.2 : Int)]
def quT (n k i j : Nat) : List (Nat × Nat × Nat) := nest3 (fun a b d => (a, b, d)) (fun _ => n) (fun _ _ => n) k i j
def Cat.quL (c : Cat) (xs : List Int) (k i j : Nat) : List (List Int) := pairsL xs c.src.length ++ ((quT c.src.length k i j).filter (c.quOk xs)).map (c.quRow xs)
theorem Cat.quL_zero (c : Cat) (xs : List Int) : c.quL xs 0 0 0 = pairsL xs c.src.length := by simp [Cat.quL, quT, nest3_zero]
@[simp] theorem Cat.quL_len0 (c : Cat) (xs : List Int) : (c.quL xs 0 0 0).length = c.src.length := by rw [Cat.quL_zero, length_pairsL]
def NorK (xs : List Int) (k : Nat) : Prop := ∀ i, i < k → xs.getD i 0 = clsAt (kerB xs) i
theorem NorK.zero (xs : List Int) : NorK xs 0 := fun i hi => by omega
theorem reps_lt_of {xs : List Int} {j k : Nat} (hj : least (kerB xs) j = j) (h : j < k) : reps (kerB xs) j < reps (kerB xs) k := by
  have h5 := reps_mono (K := kerB xs) (a := j + 1) h
  rw [reps_succ, if_pos hj] at h5
  omega
theorem NorK.old {xs : List Int} {k : Nat} (h : NorK xs k) (hl : least (kerB xs) k < k) : xs.getD k 0 = clsAt (kerB xs) k ∧ xs.getD k 0 < (reps (kerB xs) k : Int) := by
  have h1 := rep_lab xs k
  have h2 := h _ hl
  have hi := least_idem (kerB_eqv xs (k + 1)) (i := k) (by omega)
  have h3 := reps_lt_of (xs := xs) hi hl
  unfold clsAt at h2 ⊢
  rw [hi] at h2
  unfold rep at h1
  omega
theorem NorK.lo {xs : List Int} {k : Nat} (h : NorK xs k) (h0 : 0 ≤ xs.getD k 0) (h1 : xs.getD k 0 < (reps (kerB xs) k : Int)) : NorK xs (k + 1) ∧ reps (kerB xs) (k + 1) = reps (kerB xs) k := by
  obtain ⟨j, hj, hjj, hr, _⟩ := seenL_at (xs := xs) (i := k) (m := (xs.getD k 0).toNat) (by rw [length_seenL]; omega)
  have hx : xs.getD j 0 = xs.getD k 0 := by
    rw [h j hj]; unfold clsAt; rw [hjj]; omega
  have hlt : least (kerB xs) k < k := by
    have e : rep xs j = rep xs k := rep_eq.2 hx
    unfold rep at e
    omega
  refine ⟨fun i hi => ?_, by rw [reps_succ, if_neg (by omega)]; rfl⟩
  by_cases e : i < k
  · exact h i e
  · obtain rfl : i = k := by omega
    exact (h.old hlt).1
theorem NorK.hi {xs : List Int} {k : Nat} (h : NorK xs k) (h1 : xs.getD k 0 = (reps (kerB xs) k : Int)) : NorK xs (k + 1) ∧ reps (kerB xs) (k + 1) = reps (kerB xs) k + 1 := by
  have hk : least (kerB xs) k = k := by
    have := least_le (kerB xs) k
    refine Classical.byContradiction fun hne => ?_
    have := (h.old (by omega)).2
    omega
  refine ⟨fun i hi => ?_, by rw [reps_succ, if_pos hk]⟩
  by_cases e : i < k
  · exact h i e
  · obtain rfl : i = k := by omega
    unfold clsAt; rw [hk]; exact h1
end Go.GL
namespace Go.GL
def repL (xs : List Int) (n : Nat) : List Nat := (List.range n).filter fun i => rep xs i == i
def Cat.quoX (c : Cat) (xs : List Int) (i j : Nat) : Int := if 0 ≤ (c.comp.getD i []).getD j 0 then xs.getD ((c.comp.getD i []).getD j 0).toNat 0 else (c.comp.getD i []).getD j 0
def Cat.quo (c : Cat) (xs : List Int) : Cat where
  obj := c.obj
  src := (repL xs xs.length).map fun i => c.src.getD i 0
  tgt := (repL xs xs.length).map fun i => c.tgt.getD i 0
  idn := c.idn.map fun a => xs.getD a.toNat 0
  comp := (repL xs xs.length).map fun i => (repL xs xs.length).map fun j => c.quoX xs i j

def fromL (xs : List Int) (n e : Nat) (v : Int) : Option Nat := (List.range n).find? fun i => decide (e ≤ i) && xs.getD i 0 == v
def backL (xs : List Int) (f : Nat → Int) (m n e : Nat) : List Int := (List.range m).map fun (v : Nat) => match fromL xs n e v with | some i => f i | none => 0
@[simp] theorem length_backL (xs : List Int) (f : Nat → Int) (m n e : Nat) : (backL xs f m n e).length = m := by simp [backL]
end Go.GL
namespace Go.GL
def repI (xs : List Int) (n : Nat) : List Int := (repL xs n).map fun (i : Nat) => (i : Int)
@[simp] theorem length_repI (xs : List Int) (n : Nat) : (repI xs n).length = (repL xs n).length := by simp [repI]
theorem NorK.lt {xs : List Int} {n k : Nat} (h : NorK xs n) (hk : k < n) : xs.getD k 0 < (reps (kerB xs) n : Int) := by
  rw [h k hk]
  unfold clsAt
  have := reps_lt_of (least_idem (kerB_eqv xs n) hk) (Nat.lt_of_le_of_lt (least_le (kerB xs) k) hk)
  omega
end Go.GL
namespace Go.GL
def tabB (n : Nat) (p : Nat → Bool) : List Bool := (List.range n).map p
@[simp] theorem length_tabB (n : Nat) (p : Nat → Bool) : (tabB n p).length = n := by simp [tabB]
theorem tabB_congr {n : Nat} {p q : Nat → Bool} (h : ∀ i, i < n → p i = q i) : tabB n p = tabB n q := List.map_congr_left fun i hi => h i (List.mem_range.1 hi)
def slsN (r : Nat → Nat) (L : Nat → Nat) (k : Nat) : List Value := (List.range k).map fun i => .slice (some ⟨r i, 0, none⟩) (L i) (L i)
@[simp] theorem length_slsN (r : Nat → Nat) (L : Nat → Nat) (k : Nat) : (slsN r L k).length = k := by simp [slsN]
def updN (r : Nat → Nat) (k g : Nat) : Nat → Nat := fun i => if i = k then g else r i
theorem updN_eq (r : Nat → Nat) (k g : Nat) : updN r k g k = g := by simp [updN]
theorem updN_ne {r : Nat → Nat} {k i g : Nat} (h : i ≠ k) : updN r k g i = r i := by simp [updN, h]
def LastsV (e : TypeId) (H H' : GHeap) : Prop := ∀ x cs, H.get x = some (.row cs e true) → H'.get x = some (.row cs e true)
theorem LastsV.trans {e : TypeId} {A B C : GHeap} (h : LastsV e A B) (h' : LastsV e B C) : LastsV e A C := fun x xs hx => h' x xs (h x xs hx)
theorem LastsV.of_le {e : TypeId} {H H' : GHeap} (h : H.Le H') : LastsV e H H' := fun x cs hx => h.2 x _ hx
structure OwnB (b : Nat) (H : GHeap) (e : TypeId) (r : Nat → Nat) (L : Nat → Nat) (M : Nat → Nat → Bool) (k : Nat) : Prop where
  row : ∀ i, i < k → b ≤ r i ∧ H.get (r i) = some (.row (bools (tabB (L i) (M i))) e true)
  inj : ∀ i j, i < k → j < k → r i = r j → i = j
theorem OwnB.zero (b : Nat) (H : GHeap) (e : TypeId) (r : Nat → Nat) (L : Nat → Nat) (M : Nat → Nat → Bool) : OwnB b H e r L M 0 := ⟨fun i hi => by omega, fun i j hi => by omega⟩
theorem OwnB.keep {b k : Nat} {H H' : GHeap} {e : TypeId} {r : Nat → Nat} {L : Nat → Nat} {M : Nat → Nat → Bool} (h : OwnB b H e r L M k) (s : LastsV e H H') : OwnB b H' e r L M k := ⟨fun i hi => ⟨(h.row i hi).1, s _ _ (h.row i hi).2⟩, h.inj⟩
theorem OwnB.succ {b g k : Nat} {H H' : GHeap} {e : TypeId} {r : Nat → Nat} {L : Nat → Nat} {M : Nat → Nat → Bool} (h : OwnB b H e r L M k) (s : LastsV e H H')
    (hg : H'.get g = some (.row (bools (tabB (L k) (M k))) e true)) (hn : H.next ≤ g) (hb : b ≤ g) : OwnB b H' e (updN r k g) L M (k + 1) := by
  have lt : ∀ i, i < k → r i < g := fun i hi => Nat.lt_of_lt_of_le (GHeap.ltg (h.row i hi).2) hn
  refine ⟨fun i hi => ?_, fun i j hi hj hij => ?_⟩
  · by_cases ek : i = k
    · subst ek; rw [updN_eq]; exact ⟨hb, hg⟩
    · rw [updN_ne ek]; exact ⟨(h.row i (by omega)).1, s _ _ (h.row i (by omega)).2⟩
  · by_cases ei : i = k
    · by_cases ej : j = k
      · omega
      · subst ei
        rw [updN_eq, updN_ne ej] at hij
        have := lt j (by omega)
        omega
    · by_cases ej : j = k
      · subst ej
        rw [updN_eq, updN_ne ei] at hij
        have := lt i (by omega)
        omega
      · rw [updN_ne ei, updN_ne ej] at hij
        exact h.inj i j (by omega) (by omega) hij
theorem OwnB.put {b k i : Nat} {H H' : GHeap} {e : TypeId} {r : Nat → Nat} {L : Nat → Nat} {M M' : Nat → Nat → Bool} (h : OwnB b H e r L M k) (hi : i < k) (s : St [r i] H H') (hg : H'.get (r i) = some (.row (bools (tabB (L i) (M' i))) e true))
    (hM : ∀ j, j < k → j ≠ i → ∀ d, d < L j → M' j d = M j d) : OwnB b H' e r L M' k := ⟨fun j hj => by
  by_cases ej : j = i
  · subst ej; exact ⟨(h.row j hj).1, hg⟩
  · refine ⟨(h.row j hj).1, ?_⟩
    rw [tabB_congr (hM j hj ej)]
    exact s.same _ _ ⟨fun er => ej (h.inj j i hj hi er), trivial⟩ (h.row j hj).2, h.inj⟩
theorem OwnB.congr {b k : Nat} {H : GHeap} {e : TypeId} {r : Nat → Nat} {L : Nat → Nat} {M M' : Nat → Nat → Bool} (h : OwnB b H e r L M k) (hM : ∀ j, j < k → ∀ d, d < L j → M' j d = M j d) : OwnB b H e r L M' k :=
  ⟨fun j hj => ⟨(h.row j hj).1, by rw [tabB_congr (hM j hj)]; exact (h.row j hj).2⟩, h.inj⟩
structure BMat (b : Nat) (H : GHeap) (g : Nat) (e1 e2 : TypeId) (r : Nat → Nat) (L : Nat → Nat) (M : Nat → Nat → Bool) (n : Nat) : Prop where
  hd : H.get g = some (.row (slsN r L n) e1 true)
  gb : b ≤ g
  own : OwnB b H e2 r L M n
theorem BMat.keep {b b' n g : Nat} {H H' : GHeap} {e1 e2 : TypeId} {r : Nat → Nat} {L : Nat → Nat} {M : Nat → Nat → Bool} (h : BMat b H g e1 e2 r L M n) (k : Keep b' H H') (hb : b' ≤ b) : BMat b' H' g e1 e2 r L M n :=
  ⟨k _ _ (by have := h.gb; omega) h.hd, by have := h.gb; omega, fun i hi => ⟨by have := (h.own.row i hi).1; omega, k _ _ (by have := (h.own.row i hi).1; omega) (h.own.row i hi).2⟩, h.own.inj⟩
theorem BMat.mono {b n g : Nat} {H H' : GHeap} {e1 e2 : TypeId} {r : Nat → Nat} {L : Nat → Nat} {M : Nat → Nat → Bool} (h : BMat b H g e1 e2 r L M n) (hle : H.Le H') : BMat b H' g e1 e2 r L M n :=
  ⟨hle.2 _ _ h.hd, h.gb, fun i hi => ⟨(h.own.row i hi).1, hle.2 _ _ (h.own.row i hi).2⟩, h.own.inj⟩
theorem BMat.congr {b n g : Nat} {H : GHeap} {e1 e2 : TypeId} {r : Nat → Nat} {L : Nat → Nat} {M M' : Nat → Nat → Bool} (h : BMat b H g e1 e2 r L M n) (hM : ∀ j, j < n → ∀ d, d < L j → M' j d = M j d) : BMat b H g e1 e2 r L M' n := ⟨h.hd, h.gb, h.own.congr hM⟩
theorem BMat.row {b n g i : Nat} {H : GHeap} {e1 e2 : TypeId} {r : Nat → Nat} {L : Nat → Nat} {M : Nat → Nat → Bool} (h : BMat b H g e1 e2 r L M n) (hi : i < n) : Bools H (some ⟨r i, 0, none⟩) (tabB (L i) (M i)) := Bools.of_get (h.own.row i hi).2
theorem BMat.lt {b n g i : Nat} {H : GHeap} {e1 e2 : TypeId} {r : Nat → Nat} {L : Nat → Nat} {M : Nat → Nat → Bool} (h : BMat b H g e1 e2 r L M n) : g < H.next ∧ (i < n → r i < H.next) := ⟨GHeap.ltg h.hd, fun hi => GHeap.ltg (h.own.row i hi).2⟩
theorem BMat.sl {b n g : Nat} {H : GHeap} {e1 e2 : TypeId} {r : Nat → Nat} {L : Nat → Nat} {M : Nat → Nat → Bool} (h : BMat b H g e1 e2 r L M n) : SlA H (some ⟨g, 0, none⟩) n (fun i => .slice (some ⟨r i, 0, none⟩) (L i) (L i)) :=
  .inr ⟨g, 0, rfl, fun i hi => by rw [GHeap.cell_of h.hd, Nat.zero_add]; simp [slsN, hi]⟩
theorem BMat.put {b n g i : Nat} {H H' : GHeap} {e1 e2 : TypeId} {r : Nat → Nat} {L : Nat → Nat} {M M' : Nat → Nat → Bool} (h : BMat b H g e1 e2 r L M n) (hi : i < n) (s : St [r i] H H') (hg : H'.get (r i) = some (.row (bools (tabB (L i) (M' i))) e2 true))
    (hM : ∀ j, j < n → j ≠ i → ∀ d, d < L j → M' j d = M j d) (hne : (e1 != e2) = true) : BMat b H' g e1 e2 r L M' n := ⟨by
    simp only [bne_iff_ne, ne_eq] at hne
    refine s.same _ _ ⟨fun ex => ?_, trivial⟩ h.hd
    have h1 := h.hd
    rw [ex, (h.own.row i hi).2] at h1
    injection h1 with h1
    injection h1 with _ h1 _
    exact hne h1.symm, h.gb, h.own.put hi s hg hM⟩
theorem BMat.st {b n g k : Nat} {H H' : GHeap} {e1 e2 : TypeId} {r : Nat → Nat} {L : Nat → Nat} {M : Nat → Nat → Bool} (h : BMat b H g e1 e2 r L M n) (s : St [k] H H') (hlt : k < b) : BMat b H' g e1 e2 r L M n :=
  ⟨s.same _ _ ⟨by have := h.gb; omega, trivial⟩ h.hd, h.gb, fun i hi => ⟨(h.own.row i hi).1, s.same _ _ ⟨by have := (h.own.row i hi).1; omega, trivial⟩ (h.own.row i hi).2⟩, h.own.inj⟩
def hasL (me : List (List Int)) (x e : Nat) : Bool := (me.getD x []).contains (e : Int)
def opL (op : Bool → Bool → Bool) (p q : List (List Int)) (x e : Nat) : Bool := op (hasL p x e) (hasL q x e)
def SFun.conn (f : SFun) (op : Bool → Bool → Bool) (p q : List (List Int)) : Prt := f.pick (opL op p q)
noncomputable def SFun.con (f : SFun) (op : Bool → Bool → Bool) (p q : List (List Int)) : Prt := bif B (f.Is ∧ f.Part p ∧ f.Part q) then f.conn op p q else ⟨[]⟩
end Go.GL
namespace Go.GL
theorem Cat.inv_mate {c : Cat} {f : Nat} (hS : c.Shape) (hf : f < c.src.length) (h : 0 ≤ c.inv f) : c.Alike (c.tgt.getD f 0) (c.src.getD f 0) := by
  unfold Cat.inv at h
  rw [Int.toNat_natCast] at h
  obtain ⟨g, hg, hb⟩ := (firstIn_ge (fun g hg => by obtain ⟨f, _, _, _, rfl⟩ := Cat.mem_hom.1 hg; omega)).1 h
  refine ⟨g, hg, ?_⟩
  obtain ⟨k, k1, k2, k3, rfl⟩ := Cat.mem_hom.1 hg
  unfold Cat.inv
  rw [Int.toNat_natCast, k2, k3]
  refine (firstIn_ge (fun g hg => by obtain ⟨f, _, _, _, rfl⟩ := Cat.mem_hom.1 hg; omega)).2 ⟨f, Cat.mem_hom.2 ⟨f, hf, rfl, rfl, rfl⟩, ?_⟩
  simp only [Cat.invB, sps, Int.toNat_natCast] at hb ⊢
  rw [k2, k3]
  exact ⟨hb.2, hb.1⟩
theorem Cat.Alike.symm {c : Cat} {x y : Int} (hS : c.Shape) (h : c.Alike x y) : c.Alike y x := by
  obtain ⟨g, hg, hi⟩ := h
  obtain ⟨k, k1, k2, k3, rfl⟩ := Cat.mem_hom.1 hg
  have := Cat.inv_mate hS k1 hi
  rwa [k2, k3] at this
def Cat.partO (c : Cat) (xs : List Int) : List Int := filtN c.obj.toNat fun x => xs.contains (c.idn.getD x 0)
def Cat.partR (c : Cat) (xs : List Int) (f : Int) : List Int := xs.map fun g => idxL xs (c.th f g)
def Cat.part (c : Cat) (xs : List Int) : Cat where
  obj := ((c.partO xs).length : Int)
  src := xs.map fun f => idxL (c.partO xs) (c.src.getD f.toNat 0)
  tgt := xs.map fun f => idxL (c.partO xs) (c.tgt.getD f.toNat 0)
  idn := (c.partO xs).map fun x => idxL xs (c.idn.getD x.toNat 0)
  comp := xs.map fun f => c.partR xs f
structure Cat.Closed (c : Cat) (xs : List Int) : Prop where
  filt : ∃ P, xs = filtN c.src.length P
  id : ∀ f ∈ xs, c.idn.getD (c.src.getD f.toNat 0).toNat 0 ∈ xs ∧ c.idn.getD (c.tgt.getD f.toNat 0).toNat 0 ∈ xs
  th : ∀ f ∈ xs, ∀ g ∈ xs, 0 ≤ c.th f g → c.th f g ∈ xs
theorem Cat.Closed.lt {c : Cat} {xs : List Int} (h : c.Closed xs) : ∀ f ∈ xs, 0 ≤ f ∧ f < c.src.length := fun f hf => by
  obtain ⟨P, rfl⟩ := h.filt
  obtain ⟨i, h1, _, rfl⟩ := mem_filtN.1 hf
  omega
theorem Cat.Closed.len {c : Cat} {xs : List Int} (h : c.Closed xs) : xs.length ≤ c.src.length := by
  obtain ⟨P, rfl⟩ := h.filt
  exact filtN_le _ _
end Go.GL
namespace Go.GL
theorem filtN_nodup (n : Nat) (P : Nat → Bool) : (filtN n P).Nodup := by
  unfold filtN
  exact List.pairwise_map.2 ((List.nodup_range.sublist List.filter_sublist).imp fun h e => h (by omega))
theorem nodup_getD {xs : List Int} (hn : xs.Nodup) {i j : Nat} (hi : i < xs.length) (hj : j < xs.length) (h : xs.getD i 0 = xs.getD j 0) : i = j := by
  rw [List.getD_eq_getElem?_getD, List.getD_eq_getElem?_getD, List.getElem?_eq_getElem hi, List.getElem?_eq_getElem hj] at h
  exact (List.getElem_inj hn).1 (by simpa using h)
def numF (xs : List Int) (m i : Nat) : List Int := (List.range m).map fun (v : Nat) => if (v : Int) ∈ xs.take i then idxL xs v else 0
@[simp] theorem length_numF (xs : List Int) (m i : Nat) : (numF xs m i).length = m := by simp [numF]
abbrev Cat.hasId (c : Cat) (xs : List Int) (x : Nat) : Bool := xs.contains (c.idn.getD x 0)
def Cat.plF (c : Cat) (xs : List Int) (n k : Nat) : List Int := (List.range n).map fun (x : Nat) => if x < k ∧ c.hasId xs x = true then ((filtN x (c.hasId xs)).length : Int) else 0
@[simp] theorem Cat.length_plF (c : Cat) (xs : List Int) (n k : Nat) : (c.plF xs n k).length = n := by simp [Cat.plF]
theorem Cat.Closed.has {c : Cat} {xs : List Int} (h : c.Closed xs) {f : Int} (hf : f ∈ xs) (hS : c.Shape) : (0 ≤ c.src.getD f.toNat 0 ∧ c.src.getD f.toNat 0 < c.obj ∧ c.idn.getD (c.src.getD f.toNat 0).toNat 0 ∈ xs) ∧ 0 ≤ c.tgt.getD f.toNat 0 ∧ c.tgt.getD f.toNat 0 < c.obj ∧ c.idn.getD (c.tgt.getD f.toNat 0).toNat 0 ∈ xs := by
  have b := h.lt f hf
  have s1 := hS.src f.toNat (by omega)
  have s2 := hS.tgt f.toNat (by have := hS.tl; omega)
  have hi := h.id f hf
  exact ⟨⟨s1.1, s1.2, hi.1⟩, s2.1, s2.2, hi.2⟩
end Go.GL
namespace Go.GL
theorem mem_nest3 {α : Type} {pr : Nat → Nat → Nat → α} {s1 : Nat → Nat} {s2 : Nat → Nat → Nat} {k a b t : Nat} (ha : a < k) (hb : b < s1 a) (ht : t < s2 a b) : pr a b t ∈ nest3 pr s1 s2 k 0 0 := by
  unfold nest3 nestL
  refine List.mem_append.2 (.inl (List.mem_flatMap.2 ⟨a, List.mem_range.2 ha, List.mem_append.2 (.inl (List.mem_flatMap.2 ⟨b, List.mem_range.2 hb, List.mem_map.2 ⟨t, List.mem_range.2 ht, rfl⟩⟩))⟩))
theorem nest3_nodup {α : Type} {pr : Nat → Nat → Nat → α} {s1 : Nat → Nat} {s2 : Nat → Nat → Nat} {k : Nat} (h : ∀ a b t a' b' t', a < k → b < s1 a → t < s2 a b → a' < k → b' < s1 a' → t' < s2 a' b' → pr a b t = pr a' b' t' → a = a' ∧ b = b' ∧ t = t') : (nest3 pr s1 s2 k 0 0).Nodup := by
  unfold nest3 nestL
  simp only [List.range_zero, List.map_nil, List.append_nil, List.flatMap_nil]
  refine List.pairwise_flatMap.2 ⟨fun a ha => List.pairwise_flatMap.2 ⟨fun b hb => List.pairwise_map.2 ?_, ?_⟩, ?_⟩
  · exact List.nodup_range.imp_of_mem fun {t t'} ht ht' hne e => hne (h a b t a b t' (List.mem_range.1 ha) (List.mem_range.1 hb) (List.mem_range.1 ht) (List.mem_range.1 ha) (List.mem_range.1 hb) (List.mem_range.1 ht') e).2.2
  · refine List.nodup_range.imp_of_mem fun {b b'} hb hb' hne x hx y hy e => ?_
    obtain ⟨t, ht, rfl⟩ := List.mem_map.1 hx
    obtain ⟨t', ht', rfl⟩ := List.mem_map.1 hy
    exact hne (h a b t a b' t' (List.mem_range.1 ha) (List.mem_range.1 hb) (List.mem_range.1 ht) (List.mem_range.1 ha) (List.mem_range.1 hb') (List.mem_range.1 ht') e).2.1
  · refine List.nodup_range.imp_of_mem fun {a a'} ha ha' hne x hx y hy e => ?_
    obtain ⟨b, hb, hx⟩ := List.mem_flatMap.1 hx
    obtain ⟨b', hb', hy⟩ := List.mem_flatMap.1 hy
    obtain ⟨t, ht, rfl⟩ := List.mem_map.1 hx
    obtain ⟨t', ht', rfl⟩ := List.mem_map.1 hy
    exact hne (h a b t a' b' t' (List.mem_range.1 ha) (List.mem_range.1 hb) (List.mem_range.1 ht) (List.mem_range.1 ha') (List.mem_range.1 hb') (List.mem_range.1 ht') e).1
structure LcOk (k : Fun) (f : SFun) : Prop where
  hk : k.Is
  hf : f.Is
  he : f.sh = k.s
def lcE (k : Fun) (f : SFun) (y : Int) : List (List Int) := leL k f y k.ob.length 0 0
theorem lcE_mem {k : Fun} {f : SFun} {y : Int} {x e : Nat} {h : Int} (hx : x < k.ob.length) (hh : h ∈ k.t.hom (k.ob.getD x 0) y) (he : (e : Int) < f.sz.getD x 0) : [(x : Int), h, (e : Int)] ∈ lcE k f y := by
  obtain ⟨i, hi, e1⟩ := List.getElem_of_mem hh
  have := mem_nest3 (pr := lePr k y) (s1 := fun x => (k.t.hom (k.ob.getD x 0) y).length) (s2 := fun x _ => (f.sz.getD x 0).toNat) hx hi (t := e) (by omega)
  unfold lePr at this
  rw [List.getD_eq_getElem?_getD (l := k.t.hom _ _), List.getElem?_eq_getElem hi, e1] at this
  exact this
theorem lcE_keys {k : Fun} {f : SFun} {y : Int} (o : LcOk k f) : Keys 3 (lcE k f y) := by
  have b1 := o.hk.2.1.1.n40
  have b2 := o.hk.1.1.obj
  have b3 := o.hk.2.2.ol
  refine ⟨nest3_nodup fun a b t a' b' t' ha hb ht ha' hb' ht' e => ?_, fun t ht => ?_⟩
  · unfold lePr at e
    simp only [List.cons.injEq, and_true] at e
    obtain ⟨e1, e2, e3⟩ := e
    obtain rfl : a = a' := by omega
    exact ⟨rfl, nodup_getD (filtN_nodup _ _) hb hb' e2, by omega⟩
  · obtain ⟨x, i, e, h1, h2, h3, rfl⟩ := nest3_mem ht
    have q1 := o.hf.1.sz x (by have := leLen o.hk o.hf o.he; omega)
    obtain ⟨z, z1, _, _, z4⟩ := Cat.hom_get h2
    refine ⟨rfl, fun i hi => ?_⟩
    match i, hi with
    | 0, _ => show 0 ≤ (x : Int) ∧ (x : Int) ≤ 255; omega
    | 1, _ => show 0 ≤ (k.t.hom _ _).getD _ 0 ∧ (k.t.hom _ _).getD _ 0 ≤ 255; rw [z4]; omega
    | 2, _ => show 0 ≤ (e : Int) ∧ (e : Int) ≤ 255; omega
structure LcA (k : Fun) (f : SFun) (y : Int) (a : Nat) : Prop where
  s0 : 0 ≤ k.s.src.getD a 0
  s1 : k.s.src.getD a 0 < k.ob.length
  t0 : 0 ≤ k.s.tgt.getD a 0
  t1 : k.s.tgt.getD a 0 < k.ob.length
  al : ((f.ac.getD a []).length : Int) = f.sz.getD (k.s.src.getD a 0).toNat 0
  zs : f.sz.getD (k.s.src.getD a 0).toNat 0 ≤ 16
  ac : ∀ e, e < (f.ac.getD a []).length → 0 ≤ (f.ac.getD a []).getD e 0 ∧ (f.ac.getD a []).getD e 0 < f.sz.getD (k.s.tgt.getD a 0).toNat 0
  r0 : 0 ≤ k.ar.getD a 0
  r1 : k.ar.getD a 0 < k.t.src.length
  th : ∀ h, h ∈ k.t.hom (k.ob.getD (k.s.tgt.getD a 0).toNat 0) y → (0 ≤ h ∧ h < k.t.src.length) ∧ k.t.th (k.ar.getD a 0) h ∈ k.t.hom (k.ob.getD (k.s.src.getD a 0).toNat 0) y
theorem LcOk.len {k : Fun} {f : SFun} (o : LcOk k f) : f.sz.length = k.ob.length ∧ f.ac.length = k.s.src.length ∧ k.ar.length = k.s.src.length ∧ k.s.tgt.length = k.s.src.length ∧ k.s.src.length ≤ 40 ∧ k.ob.length ≤ 8 ∧ (k.s.obj = k.ob.length) := by
  have h1 := leLen o.hk o.hf o.he
  have h2 := o.hf.1.al
  rw [o.he] at h2
  have h3 := o.hk.2.2.al
  have h4 := o.hk.1.1.tl
  have h5 := o.hk.1.1.n40
  have h6 := o.hk.2.2.ol
  have h7 := o.hk.1.1.obj
  omega
theorem LcOk.arrow {k : Fun} {f : SFun} {y : Int} (o : LcOk k f) {a : Nat} (ha : a < k.s.src.length) : LcA k f y a := by
  obtain ⟨l1, l2, l3, l4, _, _, _⟩ := o.len
  have q := o.hf.1.ends (a := a) (by rw [o.he]; exact ha)
  have act := fun e => o.hf.1.act (a := a) (e := e) (by omega)
  rw [o.he] at q act
  have hz := o.hf.1.sz (k.s.src.getD a 0).toNat (by omega)
  have r := o.hk.arr (a := a) (by omega)
  refine ⟨q.1, by omega, q.2.2.1, by omega, q.2.2.2.2, hz.2, act, r.2.2.2.2.1, r.2.2.2.2.2.1, fun h hh => ?_⟩
  obtain ⟨z, z1, z2, z3, rfl⟩ := Cat.mem_hom.1 hh
  have hS := o.hk.2.1.1
  have hc := (Cat.Cell.pos (f := (k.ar.getD a 0).toNat) (g := z) (by rw [r.2.2.2.2.2.2.2, z2])).1 (hS.cell _ (by have := hS.cl; omega) z z1)
  rw [← Cat.th_nat, show (((k.ar.getD a 0).toNat : Nat) : Int) = k.ar.getD a 0 by omega] at hc
  refine ⟨by omega, Cat.mem_hom.2 ⟨(k.t.th (k.ar.getD a 0) z).toNat, by omega, ?_, ?_, by omega⟩⟩
  · rw [hc.2.2.1]; exact r.2.2.2.2.2.2.1
  · rw [hc.2.2.2]; exact z3
def lcT (k : Fun) (a : Nat) (h : Int) (e : Nat) : List Int := [k.s.src.getD a 0, k.t.th (k.ar.getD a 0) h, (e : Int)]
def lcU (k : Fun) (f : SFun) (a : Nat) (h : Int) (e : Nat) : List Int := [k.s.tgt.getD a 0, h, (f.ac.getD a []).getD e 0]
theorem LcOk.two {k : Fun} {f : SFun} {y : Int} (o : LcOk k f) {a e : Nat} {h : Int} (ha : a < k.s.src.length) (hh : h ∈ k.t.hom (k.ob.getD (k.s.tgt.getD a 0).toNat 0) y) (he : e < (f.ac.getD a []).length) : lcT k a h e ∈ lcE k f y ∧ lcU k f a h e ∈ lcE k f y := by
  have q := o.arrow (y := y) ha
  obtain ⟨a0, a1, a2, a3, a4, _, a6, _, _, a9⟩ := q
  have h6 := a6 e he
  constructor
  · have := lcE_mem (k := k) (f := f) (y := y) (x := (k.s.src.getD a 0).toNat) (e := e) (by omega) (a9 h hh).2 (by omega)
    rwa [show (((k.s.src.getD a 0).toNat : Nat) : Int) = k.s.src.getD a 0 by omega] at this
  · have := lcE_mem (k := k) (f := f) (y := y) (x := (k.s.tgt.getD a 0).toNat) (e := ((f.ac.getD a []).getD e 0).toNat) (by omega) hh (by omega)
    rwa [show (((k.s.tgt.getD a 0).toNat : Nat) : Int) = k.s.tgt.getD a 0 by omega, show ((((f.ac.getD a []).getD e 0).toNat : Nat) : Int) = (f.ac.getD a []).getD e 0 by omega] at this
def lcPr (k : Fun) (f : SFun) (y : Int) (a i e : Nat) : Nat × Nat := ((idxLL (lcE k f y) (lcT k a ((k.t.hom (k.ob.getD (k.s.tgt.getD a 0).toNat 0) y).getD i 0) e)).toNat, (idxLL (lcE k f y) (lcU k f a ((k.t.hom (k.ob.getD (k.s.tgt.getD a 0).toNat 0) y).getD i 0) e)).toNat)
theorem LcOk.pr {k : Fun} {f : SFun} {y : Int} (o : LcOk k f) {a i e : Nat} (ha : a < k.s.src.length) (hi : i < (k.t.hom (k.ob.getD (k.s.tgt.getD a 0).toNat 0) y).length) (he : e < (f.ac.getD a []).length) : (lcPr k f y a i e).1 < (lcE k f y).length ∧ (lcPr k f y a i e).2 < (lcE k f y).length ∧ 0 ≤ idxLL (lcE k f y) (lcT k a ((k.t.hom (k.ob.getD (k.s.tgt.getD a 0).toNat 0) y).getD i 0) e) ∧ 0 ≤ idxLL (lcE k f y) (lcU k f a ((k.t.hom (k.ob.getD (k.s.tgt.getD a 0).toNat 0) y).getD i 0) e) := by
  obtain ⟨h1, h2⟩ := o.two ha (getD_mem hi) he
  obtain ⟨u, u1, _, u3⟩ := idxLL_mem (lcE_keys o).nd h1
  obtain ⟨v, v1, _, v3⟩ := idxLL_mem (lcE_keys o).nd h2
  unfold lcPr
  rw [u3, v3]
  exact ⟨by simpa using u1, by simpa using v1, by omega, by omega⟩
end Go.GL
namespace Go.GL
def ccF (m k : Prof) (x z : Int) (y : Nat) : Int := (m.sz.getD x.toNat []).getD y 0 * (k.sz.getD y []).getD z.toNat 0
def ccSt (m k : Prof) (x z : Int) (n : Nat) : List Int := (List.range n).map (sumN (ccF m k x z))
theorem ccSt_get {m k : Prof} {x z : Int} {n i : Nat} (h : i < n) : (ccSt m k x z n).getD i 0 = sumN (ccF m k x z) i := by simp [ccSt, List.getD_eq_getElem?_getD, h]
theorem prod_bd {a b : Int} (ha : 0 ≤ a ∧ a ≤ 64) (hb : 0 ≤ b ∧ b ≤ 64) : 0 ≤ a * b ∧ a * b ≤ 4096 := by
  have h1 := Int.mul_nonneg ha.1 hb.1
  have h2 : a * b ≤ 64 * 64 := Int.mul_le_mul ha.2 hb.2 hb.1 (by omega)
  omega
theorem ccF_bd {m k : Prof} {x z : Int} {n : Nat} (hc : CtOk m k x z n) {y : Nat} (hy : y < n) : 0 ≤ ccF m k x z y ∧ ccF m k x z y ≤ 4096 := prod_bd (hc.pe y hy) (hc.qe y hy).2
theorem ccSum_bd {m k : Prof} {x z : Int} {n : Nat} (hc : CtOk m k x z n) {y : Nat} (hy : y ≤ n) : 0 ≤ sumN (ccF m k x z) y ∧ sumN (ccF m k x z) y ≤ 32768 := by
  have h1 := sumN_bd (f := ccF m k x z) (c := 4096) (N := n) (fun i hi => ccF_bd hc hi) hy
  have h2 := hc.n8
  omega
theorem ctL_lenD {m k : Prof} {x z : Int} {y e : Nat} : ∀ {d}, (ctL m k x z y e d).length = (ctL m k x z y e 0).length + d
  | 0 => rfl
  | d + 1 => by rw [ctL_snoc, List.length_append, ctL_lenD (d := d)]; simp; omega
theorem ctL_lenE {m k : Prof} {x z : Int} {y : Nat} : ∀ {e}, (ctL m k x z y e 0).length = (ctL m k x z y 0 0).length + e * ((k.sz.getD y []).getD z.toNat 0).toNat
  | 0 => by simp
  | e + 1 => by rw [ctL_next2, ctL_lenD, ctL_lenE (e := e), Nat.succ_mul]; omega
theorem ctL_lenY {m k : Prof} {x z : Int} {n : Nat} (hc : CtOk m k x z n) : ∀ {y}, y ≤ n → ((ctL m k x z y 0 0).length : Int) = sumN (ccF m k x z) y
  | 0, _ => by simp [ctL, nest3_zero, sumN]
  | y + 1, hy => by
    have ih := ctL_lenY hc (y := y) (by omega)
    have h1 := hc.pe y (by omega)
    have h2 := (hc.qe y (by omega)).2
    rw [ctL_next1, ctL_lenE]
    simp only [sumN, ccF, Int.natCast_add, Int.natCast_mul, Int.toNat_of_nonneg h1.1, Int.toNat_of_nonneg h2.1, ih]
theorem ctL_preD {m k : Prof} {x z : Int} {y e d : Nat} : ∀ j, ctL m k x z y e d <+: ctL m k x z y e (d + j)
  | 0 => List.prefix_refl _
  | j + 1 => by rw [← Nat.add_assoc, ctL_snoc]; exact (ctL_preD j).trans (List.prefix_append _ _)
theorem ctL_preE {m k : Prof} {x z : Int} {y e : Nat} : ∀ j, ctL m k x z y e 0 <+: ctL m k x z y (e + j) 0
  | 0 => List.prefix_refl _
  | j + 1 => by
    rw [← Nat.add_assoc, ctL_next2]
    have := ctL_preD (m := m) (k := k) (x := x) (z := z) (y := y) (e := e + j) (d := 0) ((k.sz.getD y []).getD z.toNat 0).toNat
    rw [Nat.zero_add] at this
    exact (ctL_preE j).trans this
theorem ctL_preY {m k : Prof} {x z : Int} {y : Nat} : ∀ j, ctL m k x z y 0 0 <+: ctL m k x z (y + j) 0 0
  | 0 => List.prefix_refl _
  | j + 1 => by
    rw [← Nat.add_assoc, ctL_next1]
    have := ctL_preE (m := m) (k := k) (x := x) (z := z) (y := y + j) (e := 0) ((m.sz.getD x.toNat []).getD (y + j) 0).toNat
    rw [Nat.zero_add] at this
    exact (ctL_preY j).trans this
theorem ctL_pre {m k : Prof} {x z : Int} {n y e d : Nat} (hy : y < n) (he : e < ((m.sz.getD x.toNat []).getD y 0).toNat) (hd : d < ((k.sz.getD y []).getD z.toNat 0).toNat) : ctL m k x z y e (d + 1) <+: ctL m k x z n 0 0 := by
  have h1 := ctL_preD (m := m) (k := k) (x := x) (z := z) (y := y) (e := e) (d := d + 1) (((k.sz.getD y []).getD z.toNat 0).toNat - (d + 1))
  rw [show d + 1 + (((k.sz.getD y []).getD z.toNat 0).toNat - (d + 1)) = ((k.sz.getD y []).getD z.toNat 0).toNat by omega, ← ctL_next2] at h1
  have h2 := ctL_preE (m := m) (k := k) (x := x) (z := z) (y := y) (e := e + 1) (((m.sz.getD x.toNat []).getD y 0).toNat - (e + 1))
  rw [show e + 1 + (((m.sz.getD x.toNat []).getD y 0).toNat - (e + 1)) = ((m.sz.getD x.toNat []).getD y 0).toNat by omega, ← ctL_next1] at h2
  have h3 := ctL_preY (m := m) (k := k) (x := x) (z := z) (y := y + 1) (n - (y + 1))
  rw [show y + 1 + (n - (y + 1)) = n by omega] at h3
  exact (h1.trans h2).trans h3
theorem ctL_at {m k : Prof} {x z : Int} {n y e d : Nat} (hy : y < n) (he : e < ((m.sz.getD x.toNat []).getD y 0).toNat) (hd : d < ((k.sz.getD y []).getD z.toNat 0).toNat) : (ctL m k x z y e d).length < (ctL m k x z n 0 0).length ∧ (ctL m k x z n 0 0).getD (ctL m k x z y e d).length [] = ctPr y e d := by
  obtain ⟨r, hr⟩ := ctL_pre (m := m) (k := k) (x := x) (z := z) hy he hd
  rw [← hr, ctL_snoc]
  refine ⟨by simp, ?_⟩
  rw [List.getD_eq_getElem?_getD, List.append_assoc, List.getElem?_append_right (Nat.le_refl _)]
  simp
theorem ctL_nodup {m k : Prof} {x z : Int} {n : Nat} : (ctL m k x z n 0 0).Nodup := nest3_nodup fun a b t a' b' t' _ _ _ _ _ _ e => by
  unfold ctPr at e
  simp only [List.cons.injEq, and_true] at e
  omega
theorem cc_idx {m k : Prof} {x z : Int} {n : Nat} (hc : CtOk m k x z n) {y e d : Int} (y0 : 0 ≤ y) (y1 : y < n) (e0 : 0 ≤ e) (e1 : e < (m.sz.getD x.toNat []).getD y.toNat 0) (d0 : 0 ≤ d) (d1 : d < (k.sz.getD y.toNat []).getD z.toNat 0) :
    [y, e, d] ∈ ctL m k x z n 0 0 ∧ idxLL (ctL m k x z n 0 0) [y, e, d] = sumN (ccF m k x z) y.toNat + e * (k.sz.getD y.toNat []).getD z.toNat 0 + d ∧ idxLL (ctL m k x z n 0 0) [y, e, d] < (ctL m k x z n 0 0).length ∧ 0 ≤ sumN (ccF m k x z) y.toNat ∧ 0 ≤ e * (k.sz.getD y.toNat []).getD z.toNat 0 := by
  have h2 := hc.qe y.toNat (by omega)
  obtain ⟨l, a⟩ := ctL_at (m := m) (k := k) (x := x) (z := z) (n := n) (y := y.toNat) (e := e.toNat) (d := d.toNat) (by omega) (by omega) (by omega)
  have hp : ctPr y.toNat e.toNat d.toNat = [y, e, d] := by unfold ctPr; rw [Int.toNat_of_nonneg y0, Int.toNat_of_nonneg e0, Int.toNat_of_nonneg d0]
  rw [hp] at a
  have hm := getD_mem_list (d := []) l
  rw [a] at hm
  have hi := idxLL_at (xss := ctL m k x z n 0 0) ctL_nodup l
  rw [a] at hi
  have hl : ((ctL m k x z y.toNat e.toNat d.toNat).length : Int) = sumN (ccF m k x z) y.toNat + e * (k.sz.getD y.toNat []).getD z.toNat 0 + d := by
    rw [ctL_lenD, ctL_lenE]
    simp only [Int.natCast_add, Int.natCast_mul, ctL_lenY hc (y := y.toNat) (by omega), Int.toNat_of_nonneg e0, Int.toNat_of_nonneg d0, Int.toNat_of_nonneg h2.2.1]
  exact ⟨hm, by rw [hi, hl], by rw [hi]; omega, (ccSum_bd hc (y := y.toNat) (by omega)).1, Int.mul_nonneg e0 h2.2.1⟩
def ccL (m k : Prof) (x z : Int) : List (List Int) := ctL m k x z m.t.obj.toNat 0 0
def ccT (m : Prof) (x : Int) (b e d : Nat) : List Int := [m.t.tgt.getD b 0, ((m.bh.getD b []).getD x.toNat []).getD e 0, (d : Int)]
def ccU (m k : Prof) (z : Int) (b e d : Nat) : List Int := [m.t.src.getD b 0, (e : Int), ((k.be.getD b []).getD z.toNat []).getD d 0]
def ccA1 (m : Prof) (x : Int) (b : Nat) : Nat := ((m.sz.getD x.toNat []).getD (m.t.src.getD b 0).toNat 0).toNat
def ccA2 (m k : Prof) (z : Int) (b : Nat) : Nat := ((k.sz.getD (m.t.tgt.getD b 0).toNat []).getD z.toNat 0).toNat
def ccRow (m k : Prof) (x z : Int) (b e d : Nat) : List Int := [idxLL (ccL m k x z) (ccT m x b e d), idxLL (ccL m k x z) (ccU m k z b e d)]
def ccS (m k : Prof) (x z : Int) (b e d : Nat) : List (List Int) := nest3 (ccRow m k x z) (ccA1 m x) (fun b _ => ccA2 m k z b) b e d
structure CcOk (m k : Prof) (x z : Int) : Prop where
  hm : m.Is
  hk : k.Is
  x0 : 0 ≤ x
  x1 : x < m.s.obj
  z0 : 0 ≤ z
  z1 : z < k.t.obj
  he : m.t = k.s
structure CcA (m k : Prof) (x z : Int) (b : Nat) : Prop where
  s0 : 0 ≤ m.t.src.getD b 0
  s1 : m.t.src.getD b 0 < m.t.obj
  t0 : 0 ≤ m.t.tgt.getD b 0
  t1 : m.t.tgt.getD b 0 < m.t.obj
  b1 : x.toNat < (m.bh.getD b []).length
  b2 : (((m.bh.getD b []).getD x.toNat []).length : Int) = (m.sz.getD x.toNat []).getD (m.t.src.getD b 0).toNat 0
  b3 : ∀ e, e < ((m.bh.getD b []).getD x.toNat []).length → 0 ≤ ((m.bh.getD b []).getD x.toNat []).getD e 0 ∧ ((m.bh.getD b []).getD x.toNat []).getD e 0 < (m.sz.getD x.toNat []).getD (m.t.tgt.getD b 0).toNat 0
  k1 : z.toNat < (k.be.getD b []).length
  k2 : (((k.be.getD b []).getD z.toNat []).length : Int) = (k.sz.getD (m.t.tgt.getD b 0).toNat []).getD z.toNat 0
  k3 : ∀ d, d < ((k.be.getD b []).getD z.toNat []).length → 0 ≤ ((k.be.getD b []).getD z.toNat []).getD d 0 ∧ ((k.be.getD b []).getD z.toNat []).getD d 0 < (k.sz.getD (m.t.src.getD b 0).toNat []).getD z.toNat 0
  z1 : 0 ≤ (m.sz.getD x.toNat []).getD (m.t.src.getD b 0).toNat 0 ∧ (m.sz.getD x.toNat []).getD (m.t.src.getD b 0).toNat 0 ≤ 64
  z2 : 0 ≤ (k.sz.getD (m.t.tgt.getD b 0).toNat []).getD z.toNat 0 ∧ (k.sz.getD (m.t.tgt.getD b 0).toNat []).getD z.toNat 0 ≤ 64
theorem CcOk.arrow {m k : Prof} {x z : Int} (o : CcOk m k x z) {b : Nat} (hb : b < m.t.src.length) : CcA m k x z b := by
  obtain ⟨hm, hk, x0, x1, z0, z1, he⟩ := o
  have e1 := hm.1.z.hl
  have e2 := hk.1.z.bl
  rw [← he] at e2
  have q1 := hm.1.z.h hm.1.t (b := b) (by omega)
  have q2 := hm.1.hx (b := b) (x := x.toNat) (by omega) (by omega)
  have q3 := hk.1.by (a := b) (y := z.toNat) (by omega) (by omega)
  rw [← he] at q3
  exact ⟨q1.2.2.1, q1.2.2.2.1, q1.2.2.2.2.1, q1.2.2.2.2.2, q2.1, q2.2.2.2.2.1, q2.2.2.2.2.2.1, q3.1, q3.2.2.2.1, q3.2.2.2.2.1, q2.2.2.2.2.2.2.1, q3.2.2.2.2.2.2⟩
structure CcP (m k : Prof) (x z : Int) (b e d : Nat) : Prop where
  mT : ccT m x b e d ∈ ccL m k x z
  mU : ccU m k z b e d ∈ ccL m k x z
  iT : idxLL (ccL m k x z) (ccT m x b e d) = (ccSt m k x z m.t.obj.toNat).getD (m.t.tgt.getD b 0).toNat 0 + ((m.bh.getD b []).getD x.toNat []).getD e 0 * (k.sz.getD (m.t.tgt.getD b 0).toNat []).getD z.toNat 0 + (d : Int)
  iU : idxLL (ccL m k x z) (ccU m k z b e d) = (ccSt m k x z m.t.obj.toNat).getD (m.t.src.getD b 0).toNat 0 + (e : Int) * (k.sz.getD (m.t.src.getD b 0).toNat []).getD z.toNat 0 + ((k.be.getD b []).getD z.toNat []).getD d 0
  lT : idxLL (ccL m k x z) (ccT m x b e d) < (ccL m k x z).length
  lU : idxLL (ccL m k x z) (ccU m k z b e d) < (ccL m k x z).length
  t0 : 0 ≤ (ccSt m k x z m.t.obj.toNat).getD (m.t.tgt.getD b 0).toNat 0
  t1 : 0 ≤ ((m.bh.getD b []).getD x.toNat []).getD e 0 * (k.sz.getD (m.t.tgt.getD b 0).toNat []).getD z.toNat 0
  u0 : 0 ≤ (ccSt m k x z m.t.obj.toNat).getD (m.t.src.getD b 0).toNat 0
  u1 : 0 ≤ (e : Int) * (k.sz.getD (m.t.src.getD b 0).toNat []).getD z.toNat 0
theorem CcOk.pr {m k : Prof} {x z : Int} (o : CcOk m k x z) {b e d : Nat} (hb : b < m.t.src.length) (he : e < ccA1 m x b) (hd : d < ccA2 m k z b) : CcP m k x z b e d := by
  have q := o.arrow hb
  obtain ⟨hc, h0⟩ := CtOk.of o.hm o.hk o.x0 o.x1 o.z0 o.z1 o.he
  obtain ⟨s0, s1, t0, t1, b1, b2, b3, k1, k2, k3, z1, z2⟩ := q
  unfold ccA1 at he
  unfold ccA2 at hd
  have b4 := b3 e (by omega)
  have k4 := k3 d (by omega)
  obtain ⟨a1, a2, a3, a4, a5⟩ := cc_idx hc (y := m.t.tgt.getD b 0) (e := ((m.bh.getD b []).getD x.toNat []).getD e 0) (d := (d : Int)) t0 (by omega) b4.1 b4.2 (by omega) (by omega)
  obtain ⟨c1, c2, c3, c4, c5⟩ := cc_idx hc (y := m.t.src.getD b 0) (e := (e : Int)) (d := ((k.be.getD b []).getD z.toNat []).getD d 0) s0 (by omega) (by omega) (by omega) k4.1 k4.2
  rw [← ccSt_get (n := m.t.obj.toNat) (by omega)] at a2 a4 c2 c4
  exact ⟨a1, c1, a2, c2, a3, c3, a4, a5, c4, c5⟩
theorem CcOk.a1 {m k : Prof} {x z : Int} (o : CcOk m k x z) {b : Nat} (hb : b < m.t.src.length) : ccA1 m x b ≤ 64 := by have := (o.arrow hb).z1; unfold ccA1; omega
theorem CcOk.a2 {m k : Prof} {x z : Int} (o : CcOk m k x z) {b : Nat} (hb : b < m.t.src.length) : ccA2 m k z b ≤ 64 := by have := (o.arrow hb).z2; unfold ccA2; omega
theorem CcOk.row {m k : Prof} {x z : Int} (o : CcOk m k x z) {p : List Int} (hp : p ∈ ccS m k x z m.t.src.length 0 0) : 2 ≤ p.length ∧ 0 ≤ p.getD 0 0 ∧ p.getD 0 0 < (ccL m k x z).length ∧ 0 ≤ p.getD 1 0 ∧ p.getD 1 0 < (ccL m k x z).length := by
  obtain ⟨b, e, d, h1, h2, h3, rfl⟩ := nest3_mem hp
  have q := o.pr h1 h2 h3
  obtain ⟨u, u1, _, u3⟩ := idxLL_mem (ctL_nodup) q.mT
  obtain ⟨v, v1, _, v3⟩ := idxLL_mem (ctL_nodup) q.mU
  refine ⟨by simp [ccRow], ?_, q.lT, ?_, q.lU⟩
  · show 0 ≤ idxLL (ccL m k x z) _
    unfold ccL; rw [u3]; omega
  · show 0 ≤ idxLL (ccL m k x z) _
    unfold ccL; rw [v3]; omega
structure CcV (m k : Prof) (x z : Int) (b e d : Nat) : Prop where
  row : ccRow m k x z b e d = [(ccSt m k x z m.t.obj.toNat).getD (m.t.tgt.getD b 0).toNat 0 + ((m.bh.getD b []).getD x.toNat []).getD e 0 * (k.sz.getD (m.t.tgt.getD b 0).toNat []).getD z.toNat 0 + (d : Int), (ccSt m k x z m.t.obj.toNat).getD (m.t.src.getD b 0).toNat 0 + (e : Int) * (k.sz.getD (m.t.src.getD b 0).toNat []).getD z.toNat 0 + ((k.be.getD b []).getD z.toNat []).getD d 0]
  lT : (ccSt m k x z m.t.obj.toNat).getD (m.t.tgt.getD b 0).toNat 0 + ((m.bh.getD b []).getD x.toNat []).getD e 0 * (k.sz.getD (m.t.tgt.getD b 0).toNat []).getD z.toNat 0 + (d : Int) < (ccL m k x z).length
  lU : (ccSt m k x z m.t.obj.toNat).getD (m.t.src.getD b 0).toNat 0 + (e : Int) * (k.sz.getD (m.t.src.getD b 0).toNat []).getD z.toNat 0 + ((k.be.getD b []).getD z.toNat []).getD d 0 < (ccL m k x z).length
theorem CcP.v {m k : Prof} {x z : Int} {b e d : Nat} (q : CcP m k x z b e d) : CcV m k x z b e d := by
  obtain ⟨mT, mU, iT, iU, lT, lU, _, _, _, _⟩ := q
  rw [iT] at lT
  rw [iU] at lU
  exact ⟨by unfold ccRow; rw [iT, iU], lT, lU⟩
theorem CcOk.of {m k : Prof} {x z : Int} (h : ctCode m k x z = 0) : CcOk m k x z := by
  obtain ⟨h1, h2, h3, h4, h5, h6, h7⟩ := ctCode_0 h
  exact ⟨h1, h2, h3, h4, h5, h6, h7⟩
end Go.GL
