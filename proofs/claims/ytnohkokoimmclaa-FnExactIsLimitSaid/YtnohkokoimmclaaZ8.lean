/- Steps that make or write memory, told by what holds behind them; lists that are gathered in loops. No condition. -/
import Derived.Test.YtnohkokoimmclaaZ7
import Derived.Deep.Slices
namespace Go.GL
open Go.RowKit

/-- Not among these. -/
def out : List Nat → Nat → Prop
  | [], _ => True
  | g :: r, k => k ≠ g ∧ out r k
/-- All but some rows stay. -/
structure St (bs : List Nat) (H H' : GHeap) : Prop where
  nx : H.next ≤ H'.next
  same : ∀ k o, out bs k → H.get k = some o → H'.get k = some o
theorem St.refl (bs : List Nat) (H : GHeap) : St bs H H := ⟨Nat.le_refl _, fun _ _ _ h => h⟩
theorem GHeap.Le.st {H0 H H' : GHeap} {bs : List Nat} (h : H0.Le H) (s : St bs H H') (hg : ∀ k, k < H0.next → out bs k) : H0.Le H' :=
  ⟨Nat.le_trans h.1 s.nx, fun k o hk => s.same k o (hg k (GHeap.lt_of_get hk)) (h.2 k o hk)⟩
theorem St.le {bs : List Nat} {H0 H H' : GHeap} (s : St bs H0 H) (h : H.Le H') : St bs H0 H' := ⟨Nat.le_trans s.nx h.1, fun k o hk hg => h.2 k o (s.same k o hk hg)⟩
theorem St.st {bs cs : List Nat} {H0 H H' : GHeap} (s : St bs H0 H) (h : St cs H H') (hg : ∀ k, k < H0.next → out bs k → out cs k) : St bs H0 H' :=
  ⟨Nat.le_trans s.nx h.nx, fun k o hk h1 => h.same k o (hg k (GHeap.lt_of_get h1) hk) (s.same k o hk h1)⟩
theorem St.of_le {bs : List Nat} {H H' : GHeap} (h : H.Le H') : St bs H H' := ⟨h.1, fun k o _ hg => h.2 k o hg⟩
theorem St.keep {bs : List Nat} {b : Nat} {H H' : GHeap} (s : St bs H H') (hg : ∀ k, b ≤ k → out bs k) : Keep b H H' := fun k o hk h => s.same k o (hg k hk) h
theorem Keep.le {b : Nat} {H0 H H' : GHeap} (k : Keep b H0 H) (h : H.Le H') : Keep b H0 H' := fun g o hb hg => h.2 g o (k g o hb hg)
theorem Keep.st {bs : List Nat} {b : Nat} {H0 H H' : GHeap} (k : Keep b H0 H) (h : St bs H H') (hg : ∀ k, b ≤ k → k < H0.next → out bs k) : Keep b H0 H' := fun g o hb h1 => h.same g o (hg g hb (GHeap.lt_of_get h1)) (k g o hb h1)
theorem St.of_set {g : Nat} {H : GHeap} {o : Option GObj} : St [g] H (H.set g o) := ⟨by rw [GHeap.next_set]; exact Nat.le_refl _, fun k x hk h => by rw [GHeap.get_set_ne (Ne.symm hk.1)]; exact h⟩
theorem St.push {bs : List Nat} {H H' : GHeap} {o : GObj} (s : St bs H H') : St bs H (H'.push o) := ⟨by rw [GHeap.next_push]; have := s.nx; omega, fun k x hk h => GHeap.get_push_of (s.same k x hk h)⟩

section
variable {P : Program} {N : Nat} {ops : Array Oper} {Q : Slots → GHeap → Prop} {L : List (Oper × Nat)} {fr : Slots} {H Hb : GHeap} {o : Oper} {i : Nat} {t : Tree}
theorem CDo.mono {R R' : Option Value → GHeap → Prop} (h : CDo P o fr H R) (hi : ∀ v H', R v H' → R' v H') : CDo P o fr H R' :=
  .mk fun B w0 ρ a w hs hf next Qx hn => h.run B w0 ρ a w hs hf next Qx fun ρ' v c H' w' hR => hn ρ' v c H' w' (hi v H' hR)
theorem GTree.mono {Q' : Slots → GHeap → Prop} (hq : ∀ fr H, Q' fr H → Q fr H) : ∀ {t : Tree} {fr : Slots} {Hb H : GHeap}, GTree P N ops Q' t fr Hb H → GTree P N ops Q t fr Hb H
  | .done, _, _, _, h => hq _ _ h
  | .q i t, fr, Hb, H, h => by
    unfold GTree at h ⊢
    obtain ⟨o, h1, h2, h3⟩ := h
    refine ⟨o, h1, h2, ?_⟩
    split
    · rename_i hg
      rw [hg] at h3
      obtain ⟨v, Hq, k1, k2, k3, k4⟩ := h3
      exact ⟨v, Hq, k1, k2, k3, GTree.mono hq k4⟩
    · rename_i j want hg
      rw [hg] at h3
      obtain ⟨s, c, k1, k2, k3, k4⟩ := h3
      exact ⟨s, c, k1, k2, fun e => let ⟨v, Hq, l1, l2, l3, l4⟩ := k3 e; ⟨v, Hq, l1, l2, l3, GTree.mono hq l4⟩, fun e => GTree.mono hq (k4 e)⟩
  | .c i k t, fr, Hb, H, h => by
    unfold GTree at h ⊢
    obtain ⟨o, h1, h2, h3⟩ := h
    refine ⟨o, h1, h2, ?_⟩
    split
    · rename_i hg
      rw [hg] at h3
      exact h3.mono fun v H' ⟨l1, l2⟩ => ⟨l1, GTree.mono hq l2⟩
    · rename_i j want hg
      rw [hg] at h3
      obtain ⟨s, c, k1, k2, k3, k4⟩ := h3
      exact ⟨s, c, k1, k2, fun e => (k3 e).mono fun v H' ⟨l1, l2⟩ => ⟨l1, GTree.mono hq l2⟩, fun e => GTree.mono hq (k4 e)⟩
  | .or s t, fr, Hb, H, h => by
    unfold GTree at h ⊢
    exact ⟨GTree.mono hq h.1, GTree.mono hq h.2⟩
theorem GTree.cut (rest : Slots) (hr : Sub rest fr) (R : Slots → Slots → GHeap → Prop) (h : GTree P N ops (R rest) t fr Hb H) (hq : ∀ fr' H', R rest fr' H' → Q fr' H') : GTree P N ops Q t fr Hb H := h.mono hq
theorem GTree.mB {d : Tmp} {v : Value} (hi : ops[i]? = some o) (hd : o.dst = some d) (hN : Nat.blt d N = true) (hg : o.guard = none) (hle : Hb.Le H) (hm : MStep P fr Hb o.op v) (h : GTree P N ops Q t ((d, some v) :: fr) Hb H) : GTree P N ops Q (.q i t) fr Hb H := by
  unfold GTree
  refine ⟨o, hi, by unfold dstOk; rw [hd]; exact hN, ?_⟩
  rw [hg]
  exact ⟨v, Hb, .refl _, hle, hm, by rw [hd]; exact h⟩
theorem GTree.orI {s : Tree} (h : GTree P N ops Q s fr Hb H) (h' : GTree P N ops Q t fr Hb H) : GTree P N ops Q (.or s t) fr Hb H := by unfold GTree; exact ⟨h, h'⟩
theorem GRun.r {d : Tmp} {R : Option Value → GHeap → Prop} (hd : o.dst = some d) (hN : Nat.blt d N = true) (hg : o.guard = none) (hc : CDo P o fr H R) (h : ∀ v H', R v H' → GRun P N ops Q L ((d, v) :: fr) H') : GRun P N ops Q ((o, 0) :: L) fr H :=
  .c hd hN hg (by simp) hc fun v H' hR => ⟨fun e => (by cases e), h v H' hR⟩
theorem GRun.rg {d s : Tmp} {R : Option Value → GHeap → Prop} {j : Nat} {want : Bool} (hd : o.dst = some d) (hN : Nat.blt d N = true) (hg : o.guard = some (j, want)) (hs : guardSlot ops j = some s) (hb : fr.get s = some (.bool want)) (hc : CDo P o fr H R)
    (h : ∀ v H', R v H' → GRun P N ops Q L ((d, v) :: fr) H') : GRun P N ops Q ((o, 0) :: L) fr H :=
  .cg hd hN hg hs hb (by simp) hc fun v H' hR => ⟨fun e => (by cases e), h v H' hR⟩
theorem GRun.r0 {R : Option Value → GHeap → Prop} (hd : o.dst = none) (hg : o.guard = none) (hc : CDo P o fr H R) (h : ∀ v H', R v H' → GRun P N ops Q L fr H') : GRun P N ops Q ((o, 0) :: L) fr H :=
  .c0 hd hg (by simp) hc fun v H' hR => ⟨fun e => (by cases e), h v H' hR⟩
theorem GTree.r0 {R : Option Value → GHeap → Prop} (hi : ops[i]? = some o) (hd : o.dst = none) (hg : o.guard = none) (hc : CDo P o fr H R) (h : ∀ v H', R v H' → GTree P N ops Q t fr H' H') : GTree P N ops Q (.c i 0 t) fr Hb H := by
  unfold GTree
  refine ⟨o, hi, by unfold dstOk; rw [hd], ?_⟩
  rw [hg]
  refine .mk fun B w0 ρ a w hs hf next Qx hn => ?_
  exact hc.run B w0 ρ a w hs hf next Qx fun ρ' v c H' w' hR => hn ρ' v c H' w' ⟨fun e => (by cases e), by rw [hd, if_neg (by simp)]; exact h v H' hR⟩
theorem GTree.r1 {R : Option Value → GHeap → Prop} (hi : ops[i]? = some o) (hd : o.dst = none) (hg : o.guard = none) (hc : CDo P o fr H R) (h : ∀ v H', R v H' → Hb.Le H' ∧ GTree P N ops Q t fr Hb H') : GTree P N ops Q (.c i 1 t) fr Hb H := by
  unfold GTree
  refine ⟨o, hi, by unfold dstOk; rw [hd], ?_⟩
  rw [hg]
  refine .mk fun B w0 ρ a w hs hf next Qx hn => ?_
  exact hc.run B w0 ρ a w hs hf next Qx fun ρ' v c H' w' hR => hn ρ' v c H' w' ⟨fun _ => (h v H' hR).1, by rw [hd, if_pos rfl]; exact (h v H' hR).2⟩
end

section
variable {P : Program} {H : GHeap} {fr : Slots} {o : Oper}
theorem CDo.boxR {e : TypeId} {x : Operand} {v : Value} {n : Nat} (ho : o.op = .box e x) (he : (P.info? e).map (·.size) = some n) (hx : ev fr x = some v) :
    CDo P o fr H (fun r H' => ∃ g, r = some (.pointer (some ⟨g, 0, none⟩)) ∧ H.Le H' ∧ H.next ≤ g ∧ H'.get g = some (.row v.cells.toList e true)) :=
  .box ho he hx ⟨_, rfl, GHeap.le_push _ _, Nat.le_refl _, GHeap.get_push_new _ _⟩
theorem CDo.allocR {e : TypeId} {z : List Value} {n : Nat} (ho : o.op = .alloc e) (hz : zeroT P e = some (z, n)) (hfl : z.all flat1 = true) :
    CDo P o fr H (fun r H' => ∃ g, r = some (.pointer (some ⟨g, 0, none⟩)) ∧ H.Le H' ∧ H.next ≤ g ∧ H'.get g = some (.row z e true)) :=
  .alloc ho hz hfl ⟨_, rfl, GHeap.le_push _ _, Nat.le_refl _, GHeap.get_push_new _ _⟩
theorem CDo.litR {t e : TypeId} {len n : Nat} {parts : Array (Nat × Operand)} {z vs cs : List Value} (ho : o.op = .buildSlice t len parts) (ht : sliceT P t = some (e, n)) (hz : zeroT P e = some (z, n)) (hfl : z.all flat1 = true) (hzn : z.length = n) (h0 : 0 < n)
    (hsm : len * n ≤ 16777216) (hv : evs fr (parts.toList.map (·.2)) = some vs) (hc : fillL (fun i => some (i * n, n)) (madeL z (len * n)) ((parts.toList.map (·.1)).zip vs) = some cs) :
    CDo P o fr H (fun r H' => ∃ g, r = some (.slice (some ⟨g, 0, none⟩) len len) ∧ H.Le H' ∧ H.next ≤ g ∧ H'.get g = some (.row cs e true)) :=
  .buildSlice ho ht hz hfl hzn h0 hsm hv hc ⟨_, rfl, GHeap.le_push _ _, Nat.le_refl _, GHeap.get_push_new _ _⟩
theorem CDo.makeR {t e : TypeId} {x y : Operand} {k k' : IntKind} {l c n bytes : Nat} {z : List Value} (ho : o.op = .makeSlice t x y) (ht : sliceT P t = some (e, n)) (hz : zeroT P e = some (z, n)) (hb : (P.info? e).map (·.bytes) = some bytes)
    (hfl : z.all flat1 = true) (hzn : z.length = n) (h0 : 0 < n) (hx : ev fr x = some (.int k l)) (hy : ev fr y = some (.int k' c)) (hlc : l ≤ c) (hsm : bytes * c ≤ 281474976710656) (hsc : c ≤ 9223372036854775807) :
    CDo P o fr H (fun r H' => ∃ g, r = some (.slice (some ⟨g, 0, none⟩) l l) ∧ H.Le H' ∧ H.next ≤ g ∧ H'.get g = some (.row (madeL z (l * n)) e true)) :=
  .makeSlice ho ht hz hb hfl hzn h0 hx hy hlc hsm hsc ⟨_, rfl, GHeap.le_push _ _, Nat.le_refl _, GHeap.get_push_new _ _⟩
/-- A new list whose elements are of one cell; j, c: its length and room, as numbers of the program. -/
theorem CDo.makeV {t e : TypeId} {x y : Operand} {k k' : IntKind} {j c : Int} {bytes : Nat} {z : Value} (ho : o.op = .makeSlice t x y) (ht : sliceT P t = some (e, 1)) (hz : zeroT P e = some ([z], 1)) (hb : (P.info? e).map (·.bytes) = some bytes)
    (hfl : [z].all flat1 = true) (hx : ev fr x = some (.int k j)) (hy : ev fr y = some (.int k' c)) (h0 : 0 ≤ j) (hlc : j ≤ c) (hsm : bytes * c ≤ 281474976710656) (hsc : c ≤ 9223372036854775807) :
    CDo P o fr H (fun r H' => ∃ g, r = some (.slice (some ⟨g, 0, none⟩) j.toNat j.toNat) ∧ H.Le H' ∧ H.next ≤ g ∧ H'.get g = some (.row (List.replicate j.toNat z) e true)) := by
  have e1 : (j.toNat : Int) = j := Int.toNat_of_nonneg h0
  have e2 : (c.toNat : Int) = c := Int.toNat_of_nonneg (by omega)
  have e3 : bytes * c.toNat ≤ 281474976710656 := by
    have : ((bytes * c.toNat : Nat) : Int) ≤ 281474976710656 := by rw [Int.natCast_mul, e2]; exact hsm
    omega
  refine .makeSlice (l := j.toNat) (c := c.toNat) ho ht hz hb hfl rfl (by omega) (by rw [e1]; exact hx) (by rw [e2]; exact hy) (by omega) e3 (by omega) ⟨_, rfl, GHeap.le_push _ _, Nat.le_refl _, ?_⟩
  rw [GHeap.get_push_new, madeL_one, Nat.mul_one]
theorem CDo.makeI {t e : TypeId} {x y : Operand} {k k' : IntKind} {j c : Int} {bytes : Nat} (ho : o.op = .makeSlice t x y) (ht : sliceT P t = some (e, 1)) (hz : zeroT P e = some ([.int .i64 0], 1)) (hb : (P.info? e).map (·.bytes) = some bytes)
    (hx : ev fr x = some (.int k j)) (hy : ev fr y = some (.int k' c)) (h0 : 0 ≤ j) (hlc : j ≤ c) (hsm : bytes * c ≤ 281474976710656) (hsc : c ≤ 9223372036854775807) :
    CDo P o fr H (fun r H' => ∃ g, r = some (.slice (some ⟨g, 0, none⟩) j.toNat j.toNat) ∧ H.Le H' ∧ H.next ≤ g ∧ H'.get g = some (.row (ints (List.replicate j.toNat 0)) e true)) := by
  have : ints (List.replicate j.toNat 0) = List.replicate j.toNat (Value.int .i64 0) := by simp [ints]
  rw [this]
  exact .makeV ho ht hz hb rfl hx hy h0 hlc hsm hsc
theorem CDo.makeB {t e : TypeId} {x y : Operand} {k k' : IntKind} {j c : Int} {bytes : Nat} (ho : o.op = .makeSlice t x y) (ht : sliceT P t = some (e, 1)) (hz : zeroT P e = some ([.bool false], 1)) (hb : (P.info? e).map (·.bytes) = some bytes)
    (hx : ev fr x = some (.int k j)) (hy : ev fr y = some (.int k' c)) (h0 : 0 ≤ j) (hlc : j ≤ c) (hsm : bytes * c ≤ 281474976710656) (hsc : c ≤ 9223372036854775807) :
    CDo P o fr H (fun r H' => ∃ g, r = some (.slice (some ⟨g, 0, none⟩) j.toNat j.toNat) ∧ H.Le H' ∧ H.next ≤ g ∧ H'.get g = some (.row (bools (List.replicate j.toNat false)) e true)) := by
  have : bools (List.replicate j.toNat false) = List.replicate j.toNat (Value.bool false) := by simp [bools]
  rw [this]
  exact .makeV ho ht hz hb rfl hx hy h0 hlc hsm hsc
theorem CDo.storeR {t : TypeId} {x y : Operand} {g off : Nat} {v : Value} {cs : List Value} {e : TypeId} (ho : o.op = .store t x y) (ht : (P.info? t).map (·.size) = some 1) (hx : ev fr x = some (.pointer (some ⟨g, off, none⟩))) (hy : ev fr y = some v)
    (h1 : v.oneCell' = true) (hg : H.get g = some (.row cs e true)) (hoff : off < cs.length) :
    CDo P o fr H (fun r H' => r = none ∧ St [g] H H' ∧ H'.get g = some (.row (cs.set off v) e true)) :=
  .store ho ht hx hy h1 hg hoff ⟨rfl, .of_set, GHeap.get_set_eq (GHeap.lt_of_get hg)⟩
theorem CDo.storeI {t : TypeId} {x y : Operand} {g off : Nat} {m : Int} {ys : List Int} {e : TypeId} (ho : o.op = .store t x y) (ht : (P.info? t).map (·.size) = some 1) (hx : ev fr x = some (.pointer (some ⟨g, off, none⟩))) (hy : ev fr y = some (.int .i64 m))
    (hg : H.get g = some (.row (ints ys) e true)) (hoff : off < ys.length) :
    CDo P o fr H (fun r H' => r = none ∧ St [g] H H' ∧ H'.get g = some (.row (ints (ys.set off m)) e true)) := by
  rw [← ints_set]; exact .storeR ho ht hx hy rfl hg (by simpa using hoff)
theorem bools_set (ys : List Bool) (i : Nat) (v : Bool) : (bools ys).set i (.bool v) = bools (ys.set i v) := by simp [bools, List.map_set]
theorem CDo.storeB {t : TypeId} {x y : Operand} {g off : Nat} {m : Bool} {ys : List Bool} {e : TypeId} (ho : o.op = .store t x y) (ht : (P.info? t).map (·.size) = some 1) (hx : ev fr x = some (.pointer (some ⟨g, off, none⟩))) (hy : ev fr y = some (.bool m))
    (hg : H.get g = some (.row (bools ys) e true)) (hoff : off < ys.length) :
    CDo P o fr H (fun r H' => r = none ∧ St [g] H H' ∧ H'.get g = some (.row (bools (ys.set off m)) e true)) := by
  rw [← bools_set]; exact .storeR ho ht hx hy rfl hg (by simpa using hoff)
theorem CDo.storeNR {t : TypeId} {x y : Operand} {g off n : Nat} {vs : Array Value} {cs : List Value} {e : TypeId} (ho : o.op = .store t x y) (ht : (P.info? t).map (·.size) = some n) (hx : ev fr x = some (.pointer (some ⟨g, off, none⟩))) (hy : ev fr y = some (.agg vs))
    (hn : vs.size = n) (h1 : vs.toList.all (·.oneCell') = true) (hg : H.get g = some (.row cs e true)) (hoff : off + n ≤ cs.length) :
    CDo P o fr H (fun r H' => r = none ∧ St [g] H H' ∧ H'.get g = some (.row (setAll cs off vs.toList) e true)) :=
  .storeN ho ht hx hy hn h1 hg hoff ⟨rfl, .of_set, GHeap.get_set_eq (GHeap.lt_of_get hg)⟩
/-- A struct's row is filled whole. -/
theorem CDo.fillR {t : TypeId} {x y : Operand} {g n : Nat} {vs : Array Value} {cs : List Value} {e : TypeId} (ho : o.op = .store t x y) (ht : (P.info? t).map (·.size) = some n) (hx : ev fr x = some (.pointer (some ⟨g, 0, none⟩))) (hy : ev fr y = some (.agg vs))
    (hn : vs.size = n) (h1 : vs.toList.all (·.oneCell') = true) (hg : H.get g = some (.row cs e true)) (hoff : cs.length = n) :
    CDo P o fr H (fun r H' => r = none ∧ St [g] H H' ∧ H'.get g = some (.row vs.toList e true)) := by
  have : setAll cs 0 vs.toList = vs.toList := setAll_all _ _ (by simp [hoff, hn])
  have h := CDo.storeNR (P := P) (H := H) ho ht hx hy hn h1 hg (by omega)
  rw [this] at h
  exact h
theorem CDo.appendR {t tx e : TypeId} {s x : Operand} {g off n m sz bytes : Nat} {z cs news : List Value} (ho : o.op = .call { callee := .builtin .append, args := #[s, x], argTypes := #[t, tx] }) (ht : sliceT P t = some (e, sz)) (hz : zeroT P e = some (z, sz)) (hzn : z.length = sz)
    (hb : (P.info? e).map (·.bytes) = some bytes) (hsv : ev fr s = some (.slice (some ⟨g, off, none⟩) n n)) (hg : H.get g = some (.row cs e true)) (hend : off + n * sz = cs.length) (hsrc : SrcG P fr H sz tx x m news)
    (hN : n + m ≤ 16777216) (hB : (n + m) * bytes ≤ 140737488355328) :
    CDo P o fr H (fun r H' => ∃ g', r = some (.slice (some ⟨g', 0, none⟩) (n + m) (n + m)) ∧ St [g] H H' ∧ H.next ≤ g' ∧ H'.get g' = some (.row (cs.drop off ++ news) e true)) :=
  .append ho ht hz hzn hb hsv hg hend hsrc (by unfold maxLen; omega) hB ⟨_, rfl, .push .of_set, Nat.le_refl _, by have := GHeap.get_push_new (H.set g none) (.row (cs.drop off ++ news) e true); rwa [GHeap.next_set] at this⟩
/-- One value more, that lies in a row of its own. -/
theorem CDo.appendV {t tx e e' : TypeId} {s x : Operand} {g g1 n sz bytes : Nat} {z cs vs : List Value} (ho : o.op = .call { callee := .builtin .append, args := #[s, x], argTypes := #[t, tx] }) (ht : sliceT P t = some (e, sz)) (hz : zeroT P e = some (z, sz)) (hzn : z.length = sz)
    (hb : (P.info? e).map (·.bytes) = some bytes) (htx : sliceT P tx = some (e', sz)) (hsv : ev fr s = some (.slice (some ⟨g, 0, none⟩) n n)) (hx : ev fr x = some (.slice (some ⟨g1, 0, none⟩) 1 1)) (hg : H.get g = some (.row cs e true)) (hg1 : H.get g1 = some (.row vs e' true)) (hend : n * sz = cs.length)
    (hv : vs.length = sz) (hone : vs.all (·.oneCell') = true) (hN : n + 1 ≤ 16777216) (hB : (n + 1) * bytes ≤ 140737488355328) :
    CDo P o fr H (fun r H' => ∃ g', r = some (.slice (some ⟨g', 0, none⟩) (n + 1) (n + 1)) ∧ St [g] H H' ∧ H.next ≤ g' ∧ H'.get g' = some (.row (cs ++ vs) e true)) :=
  .appendR (cs := cs) (news := vs) ho ht hz hzn hb hsv hg (by omega) (.slice htx hx (by omega) (fun i v hv => by rw [GHeap.cell_of hg1, Nat.zero_add]; exact hv) (fun v hv => List.all_eq_true.1 hone v hv)) hN hB
theorem CDo.appendI {t tx e e' : TypeId} {s x : Operand} {g g1 n bytes : Nat} {z : List Value} {ys : List Int} {m : Int} (ho : o.op = .call { callee := .builtin .append, args := #[s, x], argTypes := #[t, tx] }) (ht : sliceT P t = some (e, 1)) (hz : zeroT P e = some (z, 1)) (hzn : z.length = 1)
    (hb : (P.info? e).map (·.bytes) = some bytes) (htx : sliceT P tx = some (e', 1)) (hsv : ev fr s = some (.slice (some ⟨g, 0, none⟩) n n)) (hx : ev fr x = some (.slice (some ⟨g1, 0, none⟩) 1 1)) (hg : H.get g = some (.row (ints ys) e true)) (hg1 : H.get g1 = some (.row [.int .i64 m] e' true)) (hend : n = ys.length)
    (hN : n + 1 ≤ 16777216) (hB : (n + 1) * bytes ≤ 140737488355328) :
    CDo P o fr H (fun r H' => ∃ g', r = some (.slice (some ⟨g', 0, none⟩) (n + 1) (n + 1)) ∧ St [g] H H' ∧ H.next ≤ g' ∧ H'.get g' = some (.row (ints (ys ++ [m])) e true)) := by
  have e1 : ints (ys ++ [m]) = ints ys ++ [.int .i64 m] := by simp [ints]
  rw [e1]
  exact .appendV ho ht hz hzn hb htx hsv hx hg hg1 (by simp; omega) rfl rfl hN hB
end

/-- The numbers below n with a property, in order. -/
def filtN (n : Nat) (p : Nat → Bool) : List Int := ((List.range n).filter p).map fun (i : Nat) => (i : Int)
theorem filtN_zero (p : Nat → Bool) : filtN 0 p = [] := rfl
theorem filtN_T {n : Nat} {p : Nat → Bool} (h : p n = true) : filtN (n + 1) p = filtN n p ++ [(n : Int)] := by simp [filtN, List.range_succ, h]
theorem filtN_F {n : Nat} {p : Nat → Bool} (h : p n = false) : filtN (n + 1) p = filtN n p := by simp [filtN, List.range_succ, h]
theorem filtN_le (n : Nat) (p : Nat → Bool) : (filtN n p).length ≤ n := by
  unfold filtN; rw [List.length_map]; exact Nat.le_trans (List.length_filter_le _ _) (by simp)
theorem mem_filtN {n : Nat} {p : Nat → Bool} {x : Int} : x ∈ filtN n p ↔ ∃ i, i < n ∧ p i = true ∧ x = i := by
  simp only [filtN, List.mem_map, List.mem_filter, List.mem_range]
  exact ⟨fun ⟨i, ⟨h1, h2⟩, h3⟩ => ⟨i, h1, h2, h3.symm⟩, fun ⟨i, h1, h2, h3⟩ => ⟨i, ⟨h1, h2⟩, h3.symm⟩⟩
theorem filtN_congr {n : Nat} {p q : Nat → Bool} (h : ∀ i, i < n → p i = q i) : filtN n p = filtN n q := by
  unfold filtN
  rw [List.filter_congr fun i hi => h i (List.mem_range.1 hi)]
theorem getD_mem {xs : List Int} {i : Nat} (h : i < xs.length) : xs.getD i 0 ∈ xs := by
  rw [List.getD_eq_getElem?_getD, List.getElem?_eq_getElem h]; exact List.getElem_mem h
theorem mem_getD {xs : List Int} {x : Int} (h : x ∈ xs) : ∃ i, i < xs.length ∧ xs.getD i 0 = x := by
  obtain ⟨i, hi, e⟩ := List.getElem_of_mem h
  exact ⟨i, hi, by rw [List.getD_eq_getElem?_getD, List.getElem?_eq_getElem hi]; exact e⟩
theorem filtN_get {n : Nat} {p : Nat → Bool} {i : Nat} (h : i < (filtN n p).length) : ∃ j, j < n ∧ p j = true ∧ (filtN n p).getD i 0 = j := mem_filtN.1 (getD_mem h)

/-- The first of a list with a property, or -1. -/
def firstIn (xs : List Int) (p : Int → Bool) : Int := (xs.find? p).getD (-1)
theorem firstIn_some {xs : List Int} {p : Int → Bool} {i : Nat} (hi : i < xs.length) (h : p (xs.getD i 0) = true) (hb : ∀ j, j < i → p (xs.getD j 0) = false) : firstIn xs p = xs.getD i 0 := by
  unfold firstIn
  have : xs.find? p = some (xs.getD i 0) := by
    rw [List.find?_eq_some_iff_getElem]
    refine ⟨h, i, hi, by simp [List.getD_eq_getElem?_getD, hi], fun j hj => ?_⟩
    have := hb j hj
    rw [List.getD_eq_getElem?_getD, List.getElem?_eq_getElem (by omega)] at this
    simpa using this
  rw [this]; rfl
theorem firstIn_none {xs : List Int} {p : Int → Bool} (h : ∀ j, j < xs.length → p (xs.getD j 0) = false) : firstIn xs p = -1 := by
  unfold firstIn
  have : xs.find? p = none := by
    rw [List.find?_eq_none]
    intro x hx
    obtain ⟨i, hi, rfl⟩ := mem_getD hx
    simp only [h i hi]; exact Bool.false_ne_true
  rw [this]; rfl
theorem firstIn_congr {xs : List Int} {p q : Int → Bool} (h : ∀ x ∈ xs, p x = q x) : firstIn xs p = firstIn xs q := by
  unfold firstIn
  congr 1
  induction xs with
  | nil => rfl
  | cons a l ih =>
    simp only [List.find?_cons]
    rw [h a (by simp), ih fun x hx => h x (by simp [hx])]
theorem firstIn_ge {xs : List Int} {p : Int → Bool} (h0 : ∀ x ∈ xs, 0 ≤ x) : 0 ≤ firstIn xs p ↔ ∃ x ∈ xs, p x = true := by
  unfold firstIn
  cases e : xs.find? p with
  | none =>
    rw [List.find?_eq_none] at e
    simp only [Option.getD_none]
    exact ⟨fun h => by omega, fun ⟨x, hx, hp⟩ => absurd hp (e x hx)⟩
  | some y =>
    have h1 := List.mem_of_find?_eq_some e
    have h2 := List.find?_some e
    exact ⟨fun _ => ⟨y, h1, h2⟩, fun _ => h0 y h1⟩
end Go.GL
/- Hom sets and inverses: plain laws. No condition. -/
namespace Go.GL

def Cat.hom (c : Cat) (x y : Int) : List Int := filtN c.src.length fun f => decide (c.src.getD f 0 = x) && decide (c.tgt.getD f 0 = y)
/-- g is the inverse of f, for f; g and g; f that are there. -/
def Cat.invB (c : Cat) (f g : Int) : Bool := decide (c.th f g = c.idn.getD (c.src.getD f.toNat 0).toNat 0) && decide (c.th g f = c.idn.getD (c.tgt.getD f.toNat 0).toNat 0)
/-- The inverse of an arrow, or -1. -/
def Cat.inv (c : Cat) (f : Int) : Int := firstIn (c.hom (c.tgt.getD f.toNat 0) (c.src.getD f.toNat 0)) (c.invB f)
theorem Cat.hom_get {c : Cat} {x y : Int} {i : Nat} (h : i < (c.hom x y).length) : ∃ f : Nat, f < c.src.length ∧ c.src.getD f 0 = x ∧ c.tgt.getD f 0 = y ∧ (c.hom x y).getD i 0 = f := by
  obtain ⟨j, h1, h2, h3⟩ := filtN_get h
  simp only [sps] at h2
  exact ⟨j, h1, h2.1, h2.2, h3⟩
theorem Cat.mem_hom {c : Cat} {x y g : Int} : g ∈ c.hom x y ↔ ∃ f : Nat, f < c.src.length ∧ c.src.getD f 0 = x ∧ c.tgt.getD f 0 = y ∧ g = f := by
  unfold Cat.hom
  rw [mem_filtN]
  simp only [sps]
  exact ⟨fun ⟨f, h1, h2, h3⟩ => ⟨f, h1, h2.1, h2.2, h3⟩, fun ⟨f, h1, h2, h3, h4⟩ => ⟨f, h1, ⟨h2, h3⟩, h4⟩⟩
theorem Cat.hom_le (c : Cat) (x y : Int) : (c.hom x y).length ≤ c.src.length := filtN_le _ _

def Cat.retr (c : Cat) (f : Int) : List Int := filtN c.src.length fun g => (decide (c.src.getD g 0 = c.T f) && decide (c.tgt.getD g 0 = c.S f)) && decide (c.th f g = c.I (c.S f))
def Cat.sect (c : Cat) (f : Int) : List Int := filtN c.src.length fun g => (decide (c.src.getD g 0 = c.T f) && decide (c.tgt.getD g 0 = c.S f)) && decide (c.th g f = c.I (c.T f))
theorem Cat.mem_sect {c : Cat} {f g : Int} : g ∈ c.sect f ↔ ∃ k : Nat, k < c.src.length ∧ c.src.getD k 0 = c.T f ∧ c.tgt.getD k 0 = c.S f ∧ c.th k f = c.I (c.T f) ∧ g = k := by
  unfold Cat.sect
  rw [mem_filtN]
  simp only [sps]
  exact ⟨fun ⟨f, h1, h2, h3⟩ => ⟨f, h1, h2.1.1, h2.1.2, h2.2, h3⟩, fun ⟨f, h1, h2, h3, h4, h5⟩ => ⟨f, h1, ⟨⟨h2, h3⟩, h4⟩, h5⟩⟩
theorem firstIn_filt {n : Nat} {p q : Nat → Bool} {r s : Int → Bool} (h : ∀ i : Nat, i < n → (p i && r i) = (q i && s i)) : firstIn (filtN n p) r = firstIn (filtN n q) s := by
  unfold firstIn filtN
  congr 1
  rw [List.find?_map, List.find?_map, List.find?_filter, List.find?_filter]
  congr 1
  have : ∀ l : List Nat, (∀ i ∈ l, i < n) → l.find? (fun a => p a && (r ∘ fun (i : Nat) => (i : Int)) a) = l.find? (fun a => q a && (s ∘ fun (i : Nat) => (i : Int)) a) := by
    intro l
    induction l with
    | nil => intro _; rfl
    | cons a l ih =>
      intro hl
      simp only [List.find?_cons, Function.comp]
      rw [h a (hl a (by simp))]
      rw [show List.find? (fun a => p a && r ↑a) l = List.find? (fun a => q a && s ↑a) l from ih fun i hi => hl i (by simp [hi])]
  have h2 := this _ fun i hi => List.mem_range.1 hi
  simpa using h2
theorem Cat.inv_retr (c : Cat) (f : Int) : firstIn (c.retr f) (fun g => (c.sect f).contains g) = c.inv f := by
  unfold Cat.inv Cat.retr Cat.hom
  refine firstIn_filt fun i hi => ?_
  rw [Bool.eq_iff_iff]
  simp only [sps, Cat.invB, List.contains_iff_mem, Cat.mem_sect]
  refine ⟨fun ⟨⟨⟨h1, h2⟩, h3⟩, k, h4, h5, h6, h7, h8⟩ => ⟨⟨h1, h2⟩, h3, ?_⟩, fun ⟨⟨h1, h2⟩, h3, h4⟩ => ⟨⟨⟨h1, h2⟩, h3⟩, i, hi, h1, h2, h4, rfl⟩⟩
  obtain rfl : i = k := by omega
  exact h7
end Go.GL
/- Hom sets and inverses. No condition but those of each statement. -/
namespace Go.Proofs.Ytnohkokoimmclaa
open Go Go.GL Go.RowKit Go.Proofs
theorem hom_c {g o : Nat} {c : Cat} {p : CatP} {x y : Int} {H : GHeap} (h : Cat.At H g o c p := by assumption) (hS : c.Shape := by assumption) :
    GCalls Try.prog 77 [.pointer (some ⟨g, o, none⟩), .int .i64 x, .int .i64 y] H (NewInts 2 H (c.hom x y)) := by
  refine GCalls.body (N := 44) (rs := [.tmp 6]) Try.func77 rfl rfl rfl rfl (fun Qx hret hend => ?_)
  refine .forget (fr' := [(0, some _), (1, some _), (2, some _)]) ⟨rfl, rfl, rfl, trivial⟩ ?_
  have hle := GHeap.Le.refl H
  have base_h := h
  obtain ⟨c0, c1, c2, c3, c4, i1, i2, i3, i4⟩ := h.get
  have hm : MemN _ _ _ _ _ := ⟨rfl, h.1⟩
  have hi := h.2
  have q1 := hS.tl
  have q2 := hS.n40
  refine .seq (fun K1 hK1 => ?_)
  refine .region (.m rfl rfl rfl (.assign rfl) (.nil ?_))
  refine hK1 _ _ ?_
  refine .seq (fun K2 hK2 => ?_)
  refine .region ?_
  refine .r rfl rfl rfl (.litR rfl sl_22_A ze_2_E rfl rfl (by omega) (by omega) rfl rfl) ?_
  rintro _ H9 ⟨g9, rfl, le9, ge9, at9⟩
  have nx_H9 := le9.1
  replace hle := hle.trans le9
  have lt_at9 := GHeap.lt_of_get at9
  replace h := base_h.mono hle
  clear c0 c1 c2 c3 c4 i1 i2 i3 i4 hm hi
  obtain ⟨c0, c1, c2, c3, c4, i1, i2, i3, i4⟩ := h.get
  have hm : MemN _ _ _ _ _ := ⟨rfl, h.1⟩
  have hi := h.2
  replace at9 : GHeap.get H9 g9 = some (.row (ints []) 2 true) := at9
  refine .m rfl rfl rfl (.assign rfl) (.nil ?_)
  refine hK2 _ _ ?_
  refine .seq (fun K3 hK3 => ?_)
  refine .seq (fun K4 hK4 => ?_)
  refine .region (.m rfl rfl rfl (.move rfl) (.m rfl rfl rfl (.nilCheck rfl) (.m rfl rfl rfl (.fieldAddr fo_31_1_B rfl) ?_)))
  refine .m rfl rfl rfl (.load on_22_B rfl (by assumption)) ?_
  refine .m rfl rfl rfl (.len sl_22_A rfl) (.m rfl rfl rfl (.move rfl) (.nil ?_))
  refine hK4 _ _ ?_
  refine .block ?_
  refine .loopR (σ := Nat × Nat × Nat) [(0, some _), (1, some _), (2, some _), (14, some _)] (fun (k, gL7, nL7) => [(15, some (.int .i64 (k : Int))), (7, some (.slice (some ⟨gL7, 0, none⟩) nL7 nL7))]) (fun (k, gL7, nL7) H' => St [g9] H9 H' ∧ H'.get gL7 = some (.row (ints (filtN k fun f => decide (c.src.getD f 0 = x) && decide (c.tgt.getD f 0 = y))) 2 true) ∧ (gL7 = g9 ∨ H9.next ≤ gL7) ∧ nL7 = (filtN k fun f => decide (c.src.getD f 0 = x) && decide (c.tgt.getD f 0 = y)).length ∧ k ≤ c.src.length) (fun (k, gL7, nL7) => c.src.length - k) ((0, _, _)) ⟨rfl, rfl, rfl, rfl, trivial⟩ ⟨rfl, rfl, trivial⟩ ?_ ?_
  ·
   refine ⟨.refl _ _, by first | assumption | exact at9 | simpa using at9, .inl rfl, by first | rfl | assumption | simp | omega, ?_⟩
   omega
  rintro ⟨k, gL7, nL7⟩ HL1 ⟨lst1, at_L7, pl_L7, ln_L7, hI⟩ KL1 hKL1
  refine .forget (fr' := [(15, some (.int .i64 (k : Int))), (7, some (.slice (some ⟨gL7, 0, none⟩) nL7 nL7)), (0, some _), (1, some _), (2, some _), (14, some _)]) ⟨rfl, rfl, rfl, rfl, rfl, rfl, trivial⟩ ?_
  have ge_L7 : H.next ≤ gL7 := by omega
  have nx_HL1 := lst1.nx
  replace hle := hle.st lst1 (fun k hk => ⟨by omega, trivial⟩)
  have lt_at_L7 := GHeap.lt_of_get at_L7
  replace h := base_h.mono hle
  clear c0 c1 c2 c3 c4 i1 i2 i3 i4 hm hi
  obtain ⟨c0, c1, c2, c3, c4, i1, i2, i3, i4⟩ := h.get
  have hm : MemN _ _ _ _ _ := ⟨rfl, h.1⟩
  have hi := h.2
  have hfl := filtN_le k fun f => decide (c.src.getD f 0 = x) && decide (c.tgt.getD f 0 = y)
  refine .seq (fun K5 hK5 => ?_)
  refine .region (.m rfl rfl rfl (.cmp rfl rfl rfl) (.nil ?_))
  refine hK5 _ _ ?_
  refine .seq (fun K6 hK6 => ?_)
  refine .cond rfl (fun h16 => ?_) (fun h16 => ?_)
  ·
   try simp only [sps] at h16
   refine .skip ?_
   refine hK6 _ _ ?_
   refine .seq (fun K7 hK7 => ?_)
   refine .block ?_
   refine .seq (fun K8 hK8 => ?_)
   refine .region (.m rfl rfl rfl (.move rfl) (.m rfl rfl rfl (.assign rfl) (.nil ?_)))
   refine hK8 _ _ ?_
   refine .seq (fun K9 hK9 => ?_)
   refine .region (.m rfl rfl rfl (.move rfl) (.m rfl rfl rfl (.nilCheck rfl) (.m rfl rfl rfl (.fieldAddr fo_31_1_B rfl) ?_)))
   refine .m rfl rfl rfl (.load on_22_B rfl (by assumption)) ?_
   refine .m rfl rfl rfl (.move rfl) ?_
   refine .m rfl rfl rfl (.idxN sl_22_A (by assumption) rfl rfl (by omega)) ?_
   refine .m rfl rfl rfl (.loadI on_2_A (by assumption) rfl (by omega)) ?_
   refine .m rfl rfl rfl (.move rfl) (.m rfl rfl rfl (.cmp rfl rfl rfl) (.m rfl rfl rfl (.move rfl) ?_))
   refine .split (fun h27 => ?_) (fun h27 => ?_)
   ·
    try simp only [sps] at h27
    refine .mg rfl rfl rfl rfl rfl (.move rfl) (.mg rfl rfl rfl rfl rfl (.nilCheck rfl) (.mg rfl rfl rfl rfl rfl (.fieldAddr fo_31_2_B rfl) ?_))
    refine .mg rfl rfl rfl rfl rfl (.load on_22_B rfl (by assumption)) ?_
    refine .mg rfl rfl rfl rfl rfl (.move rfl) ?_
    refine .mg rfl rfl rfl rfl rfl (.idxN sl_22_A (by assumption) rfl rfl (by omega)) ?_
    refine .mg rfl rfl rfl rfl rfl (.loadI on_2_A (by assumption) rfl (by omega)) ?_
    refine .mg rfl rfl rfl rfl rfl (.move rfl) (.mg rfl rfl rfl rfl rfl (.cmp rfl rfl rfl) (.m rfl rfl rfl (.pickT rfl rfl) (.nil ?_)))
    refine hK9 _ _ ?_
    refine .cond rfl (fun h37 => ?_) (fun h37 => ?_)
    ·
     try simp only [sps] at h37
     refine .region (.m rfl rfl rfl (.move rfl) (.m rfl rfl rfl (.move rfl) ?_))
     refine .r rfl rfl rfl (.litR rfl sl_22_A ze_2_E rfl rfl (by omega) (by omega) rfl rfl) ?_
     rintro _ H40 ⟨g40, rfl, le40, ge40, at40⟩
     have nx_H40 := le40.1
     replace hle := hle.trans le40
     replace lst1 := lst1.le le40
     replace at_L7 := le40.2 _ _ at_L7
     have lt_at40 := GHeap.lt_of_get at40
     replace h := base_h.mono hle
     clear c0 c1 c2 c3 c4 i1 i2 i3 i4 hm hi
     obtain ⟨c0, c1, c2, c3, c4, i1, i2, i3, i4⟩ := h.get
     have hm : MemN _ _ _ _ _ := ⟨rfl, h.1⟩
     have hi := h.2
     refine .r rfl rfl rfl (.appendI rfl sl_22_A ze_2_E rfl by_2_E sl_22_A rfl rfl (by assumption) (by assumption) (by first | omega | (simp <;> omega)) (by omega) (by omega)) ?_
     rintro _ H41 ⟨g41, rfl, st41, ge41, at41⟩
     have nx_H41 := st41.nx
     replace hle := hle.st st41 (fun k hk => ⟨by omega, trivial⟩)
     replace lst1 := lst1.st st41 (fun k hk ho => by simp only [out, and_true] at ho ⊢ <;> omega)
     replace at40 := st41.same _ _ ⟨by omega, trivial⟩ at40
     have lt_at41 := GHeap.lt_of_get at41
     replace h := base_h.mono hle
     clear c0 c1 c2 c3 c4 i1 i2 i3 i4 hm hi
     obtain ⟨c0, c1, c2, c3, c4, i1, i2, i3, i4⟩ := h.get
     have hm : MemN _ _ _ _ _ := ⟨rfl, h.1⟩
     have hi := h.2
     refine .m rfl rfl rfl (.assign rfl) (.nil ?_)
     refine hK7 _ _ ?_
     refine .region ?_
     refine .m rfl rfl rfl (.add rfl rfl rfl (by omega) (by omega)) ?_
     refine .m rfl rfl rfl (.move rfl) (.nil ?_)
     refine hKL1 ((k + 1, _, _)) _ _ ?_ ?_ ⟨rfl, rfl, rfl, rfl, rfl, rfl, trivial⟩
     ·
      refine ⟨lst1, by first | assumption | (rw [filtN_T (by simp only [sps]; omega)]; assumption) | (rw [filtN_F (by simp only [sps]; omega)]; assumption), by omega, by first | omega | (simp only [List.length_append, List.length_cons, List.length_nil] <;> omega) | (rw [filtN_T (by simp only [sps]; omega)] <;> (first | omega | (simp only [List.length_append, List.length_cons, List.length_nil] <;> omega))) | (rw [filtN_F (by simp only [sps]; omega)] <;> (first | omega | (simp only [List.length_append, List.length_cons, List.length_nil] <;> omega))), ?_⟩
      omega
     (dsimp only; omega)
    try simp only [sps] at h37
    refine .skip ?_
    refine hK7 _ _ ?_
    refine .region ?_
    refine .m rfl rfl rfl (.add rfl rfl rfl (by omega) (by omega)) ?_
    refine .m rfl rfl rfl (.move rfl) (.nil ?_)
    refine hKL1 ((k + 1, _, _)) _ _ ?_ ?_ ⟨rfl, rfl, rfl, rfl, rfl, rfl, trivial⟩
    ·
     refine ⟨lst1, by first | assumption | (rw [filtN_T (by simp only [sps]; omega)]; assumption) | (rw [filtN_F (by simp only [sps]; omega)]; assumption), by omega, by first | omega | (simp only [List.length_append, List.length_cons, List.length_nil] <;> omega) | (rw [filtN_T (by simp only [sps]; omega)] <;> (first | omega | (simp only [List.length_append, List.length_cons, List.length_nil] <;> omega))) | (rw [filtN_F (by simp only [sps]; omega)] <;> (first | omega | (simp only [List.length_append, List.length_cons, List.length_nil] <;> omega))), ?_⟩
     omega
    (dsimp only; omega)
   try simp only [sps] at h27
   refine .sg rfl rfl rfl rfl rfl (.sg rfl rfl rfl rfl rfl (.sg rfl rfl rfl rfl rfl (.sg rfl rfl rfl rfl rfl ?_)))
   refine .sg rfl rfl rfl rfl rfl (.sg rfl rfl rfl rfl rfl (.sg rfl rfl rfl rfl rfl (.sg rfl rfl rfl rfl rfl ?_)))
   refine .sg rfl rfl rfl rfl rfl (.m rfl rfl rfl (.pickF rfl rfl) (.nil ?_))
   refine hK9 _ _ ?_
   refine .condF rfl ?_
   refine .skip ?_
   refine hK7 _ _ ?_
   refine .region ?_
   refine .m rfl rfl rfl (.add rfl rfl rfl (by omega) (by omega)) ?_
   refine .m rfl rfl rfl (.move rfl) (.nil ?_)
   refine hKL1 ((k + 1, _, _)) _ _ ?_ ?_ ⟨rfl, rfl, rfl, rfl, rfl, rfl, trivial⟩
   ·
    refine ⟨lst1, by first | assumption | (rw [filtN_T (by simp only [sps]; omega)]; assumption) | (rw [filtN_F (by simp only [sps]; omega)]; assumption), by omega, by first | omega | (simp only [List.length_append, List.length_cons, List.length_nil] <;> omega) | (rw [filtN_T (by simp only [sps]; omega)] <;> (first | omega | (simp only [List.length_append, List.length_cons, List.length_nil] <;> omega))) | (rw [filtN_F (by simp only [sps]; omega)] <;> (first | omega | (simp only [List.length_append, List.length_cons, List.length_nil] <;> omega))), ?_⟩
    omega
   (dsimp only; omega)
  try simp only [sps] at h16
  refine .exit ?_
  refine hK3 _ _ ?_
  refine .seq (fun K10 hK10 => ?_)
  refine .region (.m rfl rfl rfl (.move rfl) (.m rfl rfl rfl (.assign rfl) (.nil ?_)))
  refine hK10 _ _ ?_
  refine .ret ?_
  refine hret _ _ ?_
  refine ⟨_, rfl, ?_⟩
  obtain rfl : k = c.src.length := by omega
  exact ⟨hle, _, by rw [ln_L7]; rfl, at_L7, ge_L7⟩
theorem l01Has_c {a : Option Addr} {xs : List Int} {n : Int} {H : GHeap} (h : Ints H a xs := by assumption) (hl : xs.length ≤ 1048576 := by omega) :
    GCalls Try.prog 114 [.slice a xs.length xs.length, .int .i64 n] H (Ret (.bool (xs.contains n)) H) := by
  refine GCalls.body (N := 18) (rs := [.tmp 4]) Try.func114 rfl rfl rfl rfl (fun Qx hret hend => ?_)
  refine .forget (fr' := [(0, some _), (1, some _)]) ⟨rfl, rfl, trivial⟩ ?_
  refine .seq (fun K1 hK1 => ?_)
  refine .region (.m rfl rfl rfl (.assign rfl) (.nil ?_))
  refine hK1 _ _ ?_
  refine .seq (fun K2 hK2 => ?_)
  refine .seq (fun K3 hK3 => ?_)
  refine .region (.m rfl rfl rfl (.assign rfl) (.nil ?_))
  refine hK3 _ _ ?_
  refine .block ?_
  refine .loopR (σ := Nat) [(0, some _), (1, some _)] (fun k => [(5, some (.int .i64 (k : Int)))]) (fun k H' => H = H' ∧ (k : Int) ≤ xs.length ∧ ∀ i, i < k → ¬ xs.getD i 0 = n) (fun k => (xs.length - k : Int).toNat) (0) ⟨rfl, rfl, trivial⟩ ⟨rfl, trivial⟩ ?_ ?_
  ·
   refine ⟨rfl, ?_⟩
   exact ⟨by omega, fun _ _ => by omega⟩
  rintro k _ ⟨rfl, hI⟩ KL1 hKL1
  refine .forget (fr' := [(5, some (.int .i64 (k : Int))), (0, some _), (1, some _)]) ⟨rfl, rfl, rfl, trivial⟩ ?_
  obtain ⟨hk1, ha1⟩ := hI
  refine .seq (fun K4 hK4 => ?_)
  refine .seq (fun K5 hK5 => ?_)
  refine .region (.m rfl rfl rfl (.move rfl) (.m rfl rfl rfl (.move rfl) (.m rfl rfl rfl (.len sl_22_A rfl) ?_)))
  refine .m rfl rfl rfl (.cmp rfl rfl rfl) (.nil ?_)
  refine hK5 _ _ ?_
  refine .cond rfl (fun h9 => ?_) (fun h9 => ?_)
  ·
   try simp only [sps] at h9
   refine .skip ?_
   refine hK4 _ _ ?_
   refine .seq (fun K6 hK6 => ?_)
   refine .block ?_
   refine .seq (fun K7 hK7 => ?_)
   refine .region (.m rfl rfl rfl (.move rfl) (.m rfl rfl rfl (.move rfl) ?_))
   refine .m rfl rfl rfl (.idxN sl_22_A (by assumption) rfl rfl (by omega)) ?_
   refine .m rfl rfl rfl (.loadI on_2_A (by assumption) rfl (by omega)) ?_
   refine .m rfl rfl rfl (.move rfl) (.m rfl rfl rfl (.cmp rfl rfl rfl) (.nil ?_))
   refine hK7 _ _ ?_
   refine .cond rfl (fun h17 => ?_) (fun h17 => ?_)
   ·
    try simp only [sps] at h17
    refine .seq (fun K8 hK8 => ?_)
    refine .region (.m rfl rfl rfl (.assign rfl) (.nil ?_))
    refine hK8 _ _ ?_
    refine .ret ?_
    refine hret _ _ ?_
    refine ⟨_, rfl, ?_⟩
    exact .of (congrArg _ (List.contains_iff_mem.2 (by rw [← h17]; exact getD_mem (by omega))))
   try simp only [sps] at h17
   refine .skip ?_
   refine hK6 _ _ ?_
   refine .region (.m rfl rfl rfl (.move rfl) ?_)
   refine .m rfl rfl rfl (.add rfl rfl rfl (by omega) (by omega)) ?_
   refine .m rfl rfl rfl (.assign rfl) (.nil ?_)
   refine hKL1 (k + 1) _ _ ?_ ?_ ⟨rfl, rfl, rfl, trivial⟩
   ·
    refine ⟨rfl, ?_⟩
    refine ⟨by omega, fun i hx => ?_⟩
    by_cases hltq : i < k
    · exact ha1 i hltq
    · obtain rfl : i = k := by omega
      first | assumption | omega | simp_all
   omega
  try simp only [sps] at h9
  refine .exit ?_
  refine hK2 _ _ ?_
  refine .seq (fun K9 hK9 => ?_)
  refine .region (.m rfl rfl rfl (.assign rfl) (.nil ?_))
  refine hK9 _ _ ?_
  refine .ret ?_
  refine hret _ _ ?_
  refine ⟨_, rfl, ?_⟩
  exact .of (congrArg _ (Bool.eq_false_iff.2 fun hc => by
    obtain ⟨i, hi, e⟩ := mem_getD (List.contains_iff_mem.1 hc)
    exact ha1 i (by omega) e))
theorem l05Sections_c {c : Cat} {p : CatP} {f : Int} {H : GHeap} (hin : c.In H p := by assumption) (hS : c.Shape := by assumption) (h0 : 0 ≤ f := by omega) (h1 : f < c.src.length := by omega) :
    GCalls Try.prog 113 [.agg (c.cells p).toArray, .int .i64 f] H (NewInts 2 H (c.sect f)) := by
  refine GCalls.body (N := 64) (rs := [.tmp 4]) Try.func113 rfl rfl rfl rfl (fun Qx hret hend => ?_)
  refine .forget (fr' := [(0, some _), (1, some _)]) ⟨rfl, rfl, trivial⟩ ?_
  have hle := GHeap.Le.refl H
  have base_hin := hin
  have q1 := hS.tl
  have q2 := hS.n40
  have q3 := hS.il
  have q4 := hS.src f.toNat (by omega)
  have q5 := hS.tgt f.toNat (by omega)
  have q6 := hS.cl
  refine .seq (fun K1 hK1 => ?_)
  refine .region ?_
  refine .r rfl rfl rfl (.boxR rfl sz_31_D rfl) ?_
  rintro _ H2 ⟨g2, rfl, le2, ge2, at2⟩
  have nx_H2 := le2.1
  replace hle := hle.trans le2
  have lt_at2 := GHeap.lt_of_get at2
  replace hin := base_hin.mono hle
  have hb2 : Cat.At _ g2 0 c p := ⟨Mem.of_get at2, hin⟩
  obtain ⟨c02, c12, c22, c32, c42, i12, i22, i32, i42⟩ := hb2.get
  have hm2 : MemN _ _ _ _ _ := ⟨rfl, hb2.1⟩
  have hi2 := hb2.2
  refine .m rfl rfl rfl (.assign rfl) (.nil ?_)
  refine hK1 _ _ ?_
  refine .seq (fun K2 hK2 => ?_)
  refine .region ?_
  refine .r rfl rfl rfl (.litR rfl sl_22_A ze_2_E rfl rfl (by omega) (by omega) rfl rfl) ?_
  rintro _ H7 ⟨g7, rfl, le7, ge7, at7⟩
  have nx_H7 := le7.1
  replace hle := hle.trans le7
  replace at2 := le7.2 _ _ at2
  have lt_at7 := GHeap.lt_of_get at7
  replace hin := base_hin.mono hle
  clear hb2 c02 c12 c22 c32 c42 i12 i22 i32 i42 hm2 hi2
  have hb2 : Cat.At _ g2 0 c p := ⟨Mem.of_get at2, hin⟩
  obtain ⟨c02, c12, c22, c32, c42, i12, i22, i32, i42⟩ := hb2.get
  have hm2 : MemN _ _ _ _ _ := ⟨rfl, hb2.1⟩
  have hi2 := hb2.2
  replace at7 : GHeap.get H7 g7 = some (.row (ints []) 2 true) := at7
  refine .m rfl rfl rfl (.assign rfl) (.nil ?_)
  refine hK2 _ _ ?_
  refine .seq (fun K3 hK3 => ?_)
  refine .seq (fun K4 hK4 => ?_)
  refine .region (.m rfl rfl rfl (.assign rfl) (.nil ?_))
  refine hK4 _ _ ?_
  refine .block ?_
  refine .loopR (σ := Nat × Nat × Nat) [(1, some _), (2, some _)] (fun (k, gL5, nL5) => [(6, some (.int .i64 (k : Int))), (5, some (.slice (some ⟨gL5, 0, none⟩) nL5 nL5))]) (fun (k, gL5, nL5) H' => St [g7] H7 H' ∧ H'.get gL5 = some (.row (ints (filtN k fun g => (decide (c.src.getD g 0 = c.T f) && decide (c.tgt.getD g 0 = c.S f)) && decide (c.th g f = c.I (c.T f)))) 2 true) ∧ (gL5 = g7 ∨ H7.next ≤ gL5) ∧ nL5 = (filtN k fun g => (decide (c.src.getD g 0 = c.T f) && decide (c.tgt.getD g 0 = c.S f)) && decide (c.th g f = c.I (c.T f))).length ∧ k ≤ c.src.length) (fun (k, gL5, nL5) => c.src.length - k) ((0, _, _)) ⟨rfl, rfl, trivial⟩ ⟨rfl, rfl, trivial⟩ ?_ ?_
  ·
   refine ⟨.refl _ _, by first | assumption | exact at7 | simpa using at7, .inl rfl, by first | rfl | assumption | simp | omega, ?_⟩
   omega
  rintro ⟨k, gL5, nL5⟩ HL1 ⟨lst1, at_L5, pl_L5, ln_L5, hI⟩ KL1 hKL1
  refine .forget (fr' := [(6, some (.int .i64 (k : Int))), (5, some (.slice (some ⟨gL5, 0, none⟩) nL5 nL5)), (1, some _), (2, some _)]) ⟨rfl, rfl, rfl, rfl, trivial⟩ ?_
  have ge_L5 : H.next ≤ gL5 := by omega
  have nx_HL1 := lst1.nx
  replace hle := hle.st lst1 (fun k hk => ⟨by omega, trivial⟩)
  replace at2 := lst1.same _ _ ⟨by omega, trivial⟩ at2
  have lt_at_L5 := GHeap.lt_of_get at_L5
  replace hin := base_hin.mono hle
  clear hb2 c02 c12 c22 c32 c42 i12 i22 i32 i42 hm2 hi2
  have hb2 : Cat.At _ g2 0 c p := ⟨Mem.of_get at2, hin⟩
  obtain ⟨c02, c12, c22, c32, c42, i12, i22, i32, i42⟩ := hb2.get
  have hm2 : MemN _ _ _ _ _ := ⟨rfl, hb2.1⟩
  have hi2 := hb2.2
  have hfl := filtN_le k fun g => (decide (c.src.getD g 0 = c.T f) && decide (c.tgt.getD g 0 = c.S f)) && decide (c.th g f = c.I (c.T f))
  refine .seq (fun K5 hK5 => ?_)
  refine .seq (fun K6 hK6 => ?_)
  refine .region (.m rfl rfl rfl (.move rfl) (.m rfl rfl rfl (.fieldAddr fo_31_1_B rfl) ?_))
  refine .m rfl rfl rfl (.load on_22_B rfl (by first | assumption | exact Mem.of_get at2 1 _ rfl)) ?_
  refine .m rfl rfl rfl (.len sl_22_A rfl) (.m rfl rfl rfl (.cmp rfl rfl rfl) (.nil ?_))
  refine hK6 _ _ ?_
  refine .cond rfl (fun h12 => ?_) (fun h12 => ?_)
  ·
   simp only [sps] at h12
   have q9 := hS.row k (by omega)
   have q10 := i42.2 k (by omega)
   refine .skip ?_
   refine hK5 _ _ ?_
   refine .seq (fun K7 hK7 => ?_)
   refine .block ?_
   refine .seq (fun K8 hK8 => ?_)
   refine .regionD mixed_orders_B (.q 0 (.q 1 (.q 2 (.q 3 (.q 4 (.q 5 (.q 6 (.q 7 (.q 8 (.q 9 (.q 10 (.q 11 (.q 12 (.q 13 (.q 14 (.q 15 (.q 16 (.q 17 (.q 18 (.q 19 (.q 20 (.q 21 (.q 22 (.q 23 (.q 24 (.q 25 (.q 26 (.q 27 (.q 28 (.q 29 (.q 30 (.q 31 (.q 32 (.q 33 (.q 34 (.q 35 (.q 36 (.q 37 (.q 38 (.q 39 (.q 40 (.q 41 (.q 42 (.q 43 (.done))))))))))))))))))))))))))))))))))))))))))))) (by kernel_rfl) ?_
   refine .m rfl rfl rfl rfl (.refl _) (.fieldAddr fo_31_1_B rfl) ?_
   refine .m rfl rfl rfl rfl (.refl _) (.load on_22_B rfl (by first | assumption | exact Mem.of_get at2 1 _ rfl)) ?_
   refine .m rfl rfl rfl rfl (.refl _) (.move rfl) ?_
   refine .m rfl rfl rfl rfl (.refl _) (.idxN sl_22_A (by assumption) rfl rfl (by omega)) ?_
   refine .m rfl rfl rfl rfl (.refl _) (.loadI on_2_A (by assumption) rfl (by omega)) ?_
   refine .m rfl rfl rfl rfl (.refl _) (.fieldAddr fo_31_2_B rfl) ?_
   refine .m rfl rfl rfl rfl (.refl _) (.load on_22_B rfl (by first | assumption | exact Mem.of_get at2 2 _ rfl)) ?_
   refine .m rfl rfl rfl rfl (.refl _) (.move rfl) ?_
   refine .m rfl rfl rfl rfl (.refl _) (.idx1 sl_22_A (by assumption) rfl rfl (by omega) (by omega)) ?_
   refine .m rfl rfl rfl rfl (.refl _) (.loadI on_2_A (by assumption) rfl (by omega)) ?_
   refine .m rfl rfl rfl rfl (.refl _) (.cmp rfl rfl rfl) (.m rfl rfl rfl rfl (.refl _) (.move rfl) ?_)
   refine .split (fun h26 => ?_) (fun h26 => ?_)
   ·
    try simp only [sps] at h26
    refine .mg rfl rfl rfl rfl rfl rfl (.refl _) (.fieldAddr fo_31_2_B rfl) ?_
    refine .mg rfl rfl rfl rfl rfl rfl (.refl _) (.load on_22_B rfl (by first | assumption | exact Mem.of_get at2 2 _ rfl)) ?_
    refine .mg rfl rfl rfl rfl rfl rfl (.refl _) (.move rfl) ?_
    refine .mg rfl rfl rfl rfl rfl rfl (.refl _) (.idxN sl_22_A (by assumption) rfl rfl (by omega)) ?_
    refine .mg rfl rfl rfl rfl rfl rfl (.refl _) (.loadI on_2_A (by assumption) rfl (by omega)) ?_
    refine .mg rfl rfl rfl rfl rfl rfl (.refl _) (.fieldAddr fo_31_1_B rfl) ?_
    refine .mg rfl rfl rfl rfl rfl rfl (.refl _) (.load on_22_B rfl (by first | assumption | exact Mem.of_get at2 1 _ rfl)) ?_
    refine .mg rfl rfl rfl rfl rfl rfl (.refl _) (.move rfl) ?_
    refine .mg rfl rfl rfl rfl rfl rfl (.refl _) (.idx1 sl_22_A (by assumption) rfl rfl (by omega) (by omega)) ?_
    refine .mg rfl rfl rfl rfl rfl rfl (.refl _) (.loadI on_2_A (by assumption) rfl (by omega)) ?_
    refine .mg rfl rfl rfl rfl rfl rfl (.refl _) (.cmp rfl rfl rfl) (.m rfl rfl rfl rfl (.refl _) (.pickT rfl rfl) (.m rfl rfl rfl rfl (.refl _) (.move rfl) ?_))
    refine .split (fun h39 => ?_) (fun h39 => ?_)
    ·
     try simp only [sps] at h39
     refine .mg rfl rfl rfl rfl rfl rfl (.refl _) (.fieldAddr fo_31_4_B rfl) ?_
     refine .mg rfl rfl rfl rfl rfl rfl (.refl _) (.load on_23_B rfl (by first | assumption | exact Mem.of_get at2 4 _ rfl)) ?_
     refine .mg rfl rfl rfl rfl rfl rfl (.refl _) (.move rfl) ?_
     refine .mg rfl rfl rfl rfl rfl rfl (.refl _) (.idxN sl_23_B (Intss.sl (by assumption)) rfl rfl (by omega)) ?_
     refine .mg rfl rfl rfl rfl rfl rfl (.refl _) (.loadR on_22_B (by assumption) rfl (by omega)) ?_
     refine .mg rfl rfl rfl rfl rfl rfl (.refl _) (.move rfl) ?_
     refine .mg rfl rfl rfl rfl rfl rfl (.refl _) (.idx1 sl_22_A (by assumption) rfl rfl (by omega) (by omega)) ?_
     refine .mg rfl rfl rfl rfl rfl rfl (.refl _) (.loadI on_2_A (by assumption) rfl (by omega)) ?_
     refine .mg rfl rfl rfl rfl rfl rfl (.refl _) (.fieldAddr fo_31_3_B rfl) ?_
     refine .mg rfl rfl rfl rfl rfl rfl (.refl _) (.load on_22_B rfl (by first | assumption | exact Mem.of_get at2 3 _ rfl)) ?_
     refine .mg rfl rfl rfl rfl rfl rfl (.refl _) (.fieldAddr fo_31_2_B rfl) ?_
     refine .mg rfl rfl rfl rfl rfl rfl (.refl _) (.load on_22_B rfl (by first | assumption | exact Mem.of_get at2 2 _ rfl)) ?_
     refine .mg rfl rfl rfl rfl rfl rfl (.refl _) (.move rfl) ?_
     refine .mg rfl rfl rfl rfl rfl rfl (.refl _) (.idx1 sl_22_A (by assumption) rfl rfl (by omega) (by omega)) ?_
     refine .mg rfl rfl rfl rfl rfl rfl (.refl _) (.loadI on_2_A (by assumption) rfl (by omega)) ?_
     refine .mg rfl rfl rfl rfl rfl rfl (.refl _) (.idx1 sl_22_A (by assumption) rfl rfl (by omega) (by omega)) ?_
     refine .mg rfl rfl rfl rfl rfl rfl (.refl _) (.loadI on_2_A (by assumption) rfl (by omega)) ?_
     refine .mg rfl rfl rfl rfl rfl rfl (.refl _) (.cmp rfl rfl rfl) (.m rfl rfl rfl rfl (.refl _) (.pickT rfl rfl) ?_)
     refine .done ?_
     refine hK8 _ _ ?_
     refine .cond rfl (fun h58 => ?_) (fun h58 => ?_)
     ·
      try simp only [sps] at h58
      refine .region (.m rfl rfl rfl (.move rfl) (.m rfl rfl rfl (.move rfl) ?_))
      refine .r rfl rfl rfl (.litR rfl sl_22_A ze_2_E rfl rfl (by omega) (by omega) rfl rfl) ?_
      rintro _ H61 ⟨g61, rfl, le61, ge61, at61⟩
      have nx_H61 := le61.1
      replace hle := hle.trans le61
      replace lst1 := lst1.le le61
      replace at2 := le61.2 _ _ at2
      replace at_L5 := le61.2 _ _ at_L5
      have lt_at61 := GHeap.lt_of_get at61
      replace hin := base_hin.mono hle
      clear hb2 c02 c12 c22 c32 c42 i12 i22 i32 i42 hm2 hi2
      have hb2 : Cat.At _ g2 0 c p := ⟨Mem.of_get at2, hin⟩
      obtain ⟨c02, c12, c22, c32, c42, i12, i22, i32, i42⟩ := hb2.get
      have hm2 : MemN _ _ _ _ _ := ⟨rfl, hb2.1⟩
      have hi2 := hb2.2
      refine .r rfl rfl rfl (.appendI rfl sl_22_A ze_2_E rfl by_2_E sl_22_A rfl rfl (by assumption) (by assumption) (by first | omega | (simp <;> omega)) (by omega) (by omega)) ?_
      rintro _ H62 ⟨g62, rfl, st62, ge62, at62⟩
      have nx_H62 := st62.nx
      replace hle := hle.st st62 (fun k hk => ⟨by omega, trivial⟩)
      replace lst1 := lst1.st st62 (fun k hk ho => by simp only [out, and_true] at ho ⊢ <;> omega)
      replace at2 := st62.same _ _ ⟨by omega, trivial⟩ at2
      replace at61 := st62.same _ _ ⟨by omega, trivial⟩ at61
      have lt_at62 := GHeap.lt_of_get at62
      replace hin := base_hin.mono hle
      clear hb2 c02 c12 c22 c32 c42 i12 i22 i32 i42 hm2 hi2
      have hb2 : Cat.At _ g2 0 c p := ⟨Mem.of_get at2, hin⟩
      obtain ⟨c02, c12, c22, c32, c42, i12, i22, i32, i42⟩ := hb2.get
      have hm2 : MemN _ _ _ _ _ := ⟨rfl, hb2.1⟩
      have hi2 := hb2.2
      refine .m rfl rfl rfl (.assign rfl) (.nil ?_)
      refine hK7 _ _ ?_
      refine .region (.m rfl rfl rfl (.move rfl) ?_)
      refine .m rfl rfl rfl (.add rfl rfl rfl (by omega) (by omega)) ?_
      refine .m rfl rfl rfl (.assign rfl) (.nil ?_)
      refine hKL1 ((k + 1, _, _)) _ _ ?_ ?_ ⟨rfl, rfl, rfl, rfl, trivial⟩
      ·
       refine ⟨lst1, by first | assumption | (rw [filtN_T (by simp only [sps]; simp only [Cat.S, Cat.T, Cat.th, Cat.I, Int.toNat_natCast]; omega)]; assumption) | (rw [filtN_F (by simp only [sps]; simp only [Cat.S, Cat.T, Cat.th, Cat.I, Int.toNat_natCast]; omega)]; assumption), by omega, by first | omega | (simp only [List.length_append, List.length_cons, List.length_nil] <;> omega) | (rw [filtN_T (by simp only [sps]; simp only [Cat.S, Cat.T, Cat.th, Cat.I, Int.toNat_natCast]; omega)] <;> (first | omega | (simp only [List.length_append, List.length_cons, List.length_nil] <;> omega))) | (rw [filtN_F (by simp only [sps]; simp only [Cat.S, Cat.T, Cat.th, Cat.I, Int.toNat_natCast]; omega)] <;> (first | omega | (simp only [List.length_append, List.length_cons, List.length_nil] <;> omega))), ?_⟩
       omega
      (dsimp only; omega)
     try simp only [sps] at h58
     refine .skip ?_
     refine hK7 _ _ ?_
     refine .region (.m rfl rfl rfl (.move rfl) ?_)
     refine .m rfl rfl rfl (.add rfl rfl rfl (by omega) (by omega)) ?_
     refine .m rfl rfl rfl (.assign rfl) (.nil ?_)
     refine hKL1 ((k + 1, _, _)) _ _ ?_ ?_ ⟨rfl, rfl, rfl, rfl, trivial⟩
     ·
      refine ⟨lst1, by first | assumption | (rw [filtN_T (by simp only [sps]; simp only [Cat.S, Cat.T, Cat.th, Cat.I, Int.toNat_natCast]; omega)]; assumption) | (rw [filtN_F (by simp only [sps]; simp only [Cat.S, Cat.T, Cat.th, Cat.I, Int.toNat_natCast]; omega)]; assumption), by omega, by first | omega | (simp only [List.length_append, List.length_cons, List.length_nil] <;> omega) | (rw [filtN_T (by simp only [sps]; simp only [Cat.S, Cat.T, Cat.th, Cat.I, Int.toNat_natCast]; omega)] <;> (first | omega | (simp only [List.length_append, List.length_cons, List.length_nil] <;> omega))) | (rw [filtN_F (by simp only [sps]; simp only [Cat.S, Cat.T, Cat.th, Cat.I, Int.toNat_natCast]; omega)] <;> (first | omega | (simp only [List.length_append, List.length_cons, List.length_nil] <;> omega))), ?_⟩
      omega
     (dsimp only; omega)
    try simp only [sps] at h39
    refine .sg rfl rfl rfl rfl rfl rfl (.sg rfl rfl rfl rfl rfl rfl (.sg rfl rfl rfl rfl rfl rfl (.sg rfl rfl rfl rfl rfl rfl ?_)))
    refine .sg rfl rfl rfl rfl rfl rfl (.sg rfl rfl rfl rfl rfl rfl (.sg rfl rfl rfl rfl rfl rfl (.sg rfl rfl rfl rfl rfl rfl ?_)))
    refine .sg rfl rfl rfl rfl rfl rfl (.sg rfl rfl rfl rfl rfl rfl (.sg rfl rfl rfl rfl rfl rfl (.sg rfl rfl rfl rfl rfl rfl ?_)))
    refine .sg rfl rfl rfl rfl rfl rfl (.sg rfl rfl rfl rfl rfl rfl (.sg rfl rfl rfl rfl rfl rfl (.sg rfl rfl rfl rfl rfl rfl ?_)))
    refine .sg rfl rfl rfl rfl rfl rfl (.sg rfl rfl rfl rfl rfl rfl (.m rfl rfl rfl rfl (.refl _) (.pickF rfl rfl) ?_))
    refine .done ?_
    refine hK8 _ _ ?_
    refine .condF rfl ?_
    refine .skip ?_
    refine hK7 _ _ ?_
    refine .region (.m rfl rfl rfl (.move rfl) ?_)
    refine .m rfl rfl rfl (.add rfl rfl rfl (by omega) (by omega)) ?_
    refine .m rfl rfl rfl (.assign rfl) (.nil ?_)
    refine hKL1 ((k + 1, _, _)) _ _ ?_ ?_ ⟨rfl, rfl, rfl, rfl, trivial⟩
    ·
     refine ⟨lst1, by first | assumption | (rw [filtN_T (by simp only [sps]; simp only [Cat.S, Cat.T, Cat.th, Cat.I, Int.toNat_natCast]; omega)]; assumption) | (rw [filtN_F (by simp only [sps]; simp only [Cat.S, Cat.T, Cat.th, Cat.I, Int.toNat_natCast]; omega)]; assumption), by omega, by first | omega | (simp only [List.length_append, List.length_cons, List.length_nil] <;> omega) | (rw [filtN_T (by simp only [sps]; simp only [Cat.S, Cat.T, Cat.th, Cat.I, Int.toNat_natCast]; omega)] <;> (first | omega | (simp only [List.length_append, List.length_cons, List.length_nil] <;> omega))) | (rw [filtN_F (by simp only [sps]; simp only [Cat.S, Cat.T, Cat.th, Cat.I, Int.toNat_natCast]; omega)] <;> (first | omega | (simp only [List.length_append, List.length_cons, List.length_nil] <;> omega))), ?_⟩
     omega
    (dsimp only; omega)
   try simp only [sps] at h26
   refine .sg rfl rfl rfl rfl rfl rfl (.sg rfl rfl rfl rfl rfl rfl (.sg rfl rfl rfl rfl rfl rfl (.sg rfl rfl rfl rfl rfl rfl ?_)))
   refine .sg rfl rfl rfl rfl rfl rfl (.sg rfl rfl rfl rfl rfl rfl (.sg rfl rfl rfl rfl rfl rfl (.sg rfl rfl rfl rfl rfl rfl ?_)))
   refine .sg rfl rfl rfl rfl rfl rfl (.sg rfl rfl rfl rfl rfl rfl (.sg rfl rfl rfl rfl rfl rfl (.m rfl rfl rfl rfl (.refl _) (.pickF rfl rfl) ?_)))
   refine .m rfl rfl rfl rfl (.refl _) (.move rfl) (.sg rfl rfl rfl rfl rfl rfl (.sg rfl rfl rfl rfl rfl rfl (.sg rfl rfl rfl rfl rfl rfl ?_)))
   refine .sg rfl rfl rfl rfl rfl rfl (.sg rfl rfl rfl rfl rfl rfl (.sg rfl rfl rfl rfl rfl rfl (.sg rfl rfl rfl rfl rfl rfl ?_)))
   refine .sg rfl rfl rfl rfl rfl rfl (.sg rfl rfl rfl rfl rfl rfl (.sg rfl rfl rfl rfl rfl rfl (.sg rfl rfl rfl rfl rfl rfl ?_)))
   refine .sg rfl rfl rfl rfl rfl rfl (.sg rfl rfl rfl rfl rfl rfl (.sg rfl rfl rfl rfl rfl rfl (.sg rfl rfl rfl rfl rfl rfl ?_)))
   refine .sg rfl rfl rfl rfl rfl rfl (.sg rfl rfl rfl rfl rfl rfl (.sg rfl rfl rfl rfl rfl rfl (.m rfl rfl rfl rfl (.refl _) (.pickF rfl rfl) ?_)))
   refine .done ?_
   refine hK8 _ _ ?_
   refine .condF rfl ?_
   refine .skip ?_
   refine hK7 _ _ ?_
   refine .region (.m rfl rfl rfl (.move rfl) ?_)
   refine .m rfl rfl rfl (.add rfl rfl rfl (by omega) (by omega)) ?_
   refine .m rfl rfl rfl (.assign rfl) (.nil ?_)
   refine hKL1 ((k + 1, _, _)) _ _ ?_ ?_ ⟨rfl, rfl, rfl, rfl, trivial⟩
   ·
    refine ⟨lst1, by first | assumption | (rw [filtN_T (by simp only [sps]; simp only [Cat.S, Cat.T, Cat.th, Cat.I, Int.toNat_natCast]; omega)]; assumption) | (rw [filtN_F (by simp only [sps]; simp only [Cat.S, Cat.T, Cat.th, Cat.I, Int.toNat_natCast]; omega)]; assumption), by omega, by first | omega | (simp only [List.length_append, List.length_cons, List.length_nil] <;> omega) | (rw [filtN_T (by simp only [sps]; simp only [Cat.S, Cat.T, Cat.th, Cat.I, Int.toNat_natCast]; omega)] <;> (first | omega | (simp only [List.length_append, List.length_cons, List.length_nil] <;> omega))) | (rw [filtN_F (by simp only [sps]; simp only [Cat.S, Cat.T, Cat.th, Cat.I, Int.toNat_natCast]; omega)] <;> (first | omega | (simp only [List.length_append, List.length_cons, List.length_nil] <;> omega))), ?_⟩
    omega
   (dsimp only; omega)
  try simp only [sps] at h12
  refine .exit ?_
  refine hK3 _ _ ?_
  refine .seq (fun K9 hK9 => ?_)
  refine .region (.m rfl rfl rfl (.move rfl) (.m rfl rfl rfl (.assign rfl) (.nil ?_)))
  refine hK9 _ _ ?_
  refine .ret ?_
  refine hret _ _ ?_
  refine ⟨_, rfl, ?_⟩
  obtain rfl : k = c.src.length := by omega
  exact ⟨hle, _, by rw [ln_L5]; rfl, at_L5, ge_L5⟩
theorem l05Retractions_c {c : Cat} {p : CatP} {f : Int} {H : GHeap} (hin : c.In H p := by assumption) (hS : c.Shape := by assumption) (h0 : 0 ≤ f := by omega) (h1 : f < c.src.length := by omega) :
    GCalls Try.prog 112 [.agg (c.cells p).toArray, .int .i64 f] H (NewInts 2 H (c.retr f)) := by
  refine GCalls.body (N := 64) (rs := [.tmp 4]) Try.func112 rfl rfl rfl rfl (fun Qx hret hend => ?_)
  refine .forget (fr' := [(0, some _), (1, some _)]) ⟨rfl, rfl, trivial⟩ ?_
  have hle := GHeap.Le.refl H
  have base_hin := hin
  have q1 := hS.tl
  have q2 := hS.n40
  have q3 := hS.il
  have q4 := hS.src f.toNat (by omega)
  have q5 := hS.tgt f.toNat (by omega)
  have q6 := hS.cl
  have q9 := hS.row f.toNat (by omega)
  refine .seq (fun K1 hK1 => ?_)
  refine .region ?_
  refine .r rfl rfl rfl (.boxR rfl sz_31_D rfl) ?_
  rintro _ H2 ⟨g2, rfl, le2, ge2, at2⟩
  have nx_H2 := le2.1
  replace hle := hle.trans le2
  have lt_at2 := GHeap.lt_of_get at2
  replace hin := base_hin.mono hle
  have hb2 : Cat.At _ g2 0 c p := ⟨Mem.of_get at2, hin⟩
  obtain ⟨c02, c12, c22, c32, c42, i12, i22, i32, i42⟩ := hb2.get
  have hm2 : MemN _ _ _ _ _ := ⟨rfl, hb2.1⟩
  have hi2 := hb2.2
  refine .m rfl rfl rfl (.assign rfl) (.nil ?_)
  refine hK1 _ _ ?_
  refine .seq (fun K2 hK2 => ?_)
  refine .region ?_
  refine .r rfl rfl rfl (.litR rfl sl_22_A ze_2_E rfl rfl (by omega) (by omega) rfl rfl) ?_
  rintro _ H7 ⟨g7, rfl, le7, ge7, at7⟩
  have nx_H7 := le7.1
  replace hle := hle.trans le7
  replace at2 := le7.2 _ _ at2
  have lt_at7 := GHeap.lt_of_get at7
  replace hin := base_hin.mono hle
  clear hb2 c02 c12 c22 c32 c42 i12 i22 i32 i42 hm2 hi2
  have hb2 : Cat.At _ g2 0 c p := ⟨Mem.of_get at2, hin⟩
  obtain ⟨c02, c12, c22, c32, c42, i12, i22, i32, i42⟩ := hb2.get
  have hm2 : MemN _ _ _ _ _ := ⟨rfl, hb2.1⟩
  have hi2 := hb2.2
  replace at7 : GHeap.get H7 g7 = some (.row (ints []) 2 true) := at7
  refine .m rfl rfl rfl (.assign rfl) (.nil ?_)
  refine hK2 _ _ ?_
  refine .seq (fun K3 hK3 => ?_)
  refine .seq (fun K4 hK4 => ?_)
  refine .region (.m rfl rfl rfl (.assign rfl) (.nil ?_))
  refine hK4 _ _ ?_
  refine .block ?_
  refine .loopR (σ := Nat × Nat × Nat) [(1, some _), (2, some _)] (fun (k, gL5, nL5) => [(6, some (.int .i64 (k : Int))), (5, some (.slice (some ⟨gL5, 0, none⟩) nL5 nL5))]) (fun (k, gL5, nL5) H' => St [g7] H7 H' ∧ H'.get gL5 = some (.row (ints (filtN k fun g => (decide (c.src.getD g 0 = c.T f) && decide (c.tgt.getD g 0 = c.S f)) && decide (c.th f g = c.I (c.S f)))) 2 true) ∧ (gL5 = g7 ∨ H7.next ≤ gL5) ∧ nL5 = (filtN k fun g => (decide (c.src.getD g 0 = c.T f) && decide (c.tgt.getD g 0 = c.S f)) && decide (c.th f g = c.I (c.S f))).length ∧ k ≤ c.src.length) (fun (k, gL5, nL5) => c.src.length - k) ((0, _, _)) ⟨rfl, rfl, trivial⟩ ⟨rfl, rfl, trivial⟩ ?_ ?_
  ·
   refine ⟨.refl _ _, by first | assumption | exact at7 | simpa using at7, .inl rfl, by first | rfl | assumption | simp | omega, ?_⟩
   omega
  rintro ⟨k, gL5, nL5⟩ HL1 ⟨lst1, at_L5, pl_L5, ln_L5, hI⟩ KL1 hKL1
  refine .forget (fr' := [(6, some (.int .i64 (k : Int))), (5, some (.slice (some ⟨gL5, 0, none⟩) nL5 nL5)), (1, some _), (2, some _)]) ⟨rfl, rfl, rfl, rfl, trivial⟩ ?_
  have ge_L5 : H.next ≤ gL5 := by omega
  have nx_HL1 := lst1.nx
  replace hle := hle.st lst1 (fun k hk => ⟨by omega, trivial⟩)
  replace at2 := lst1.same _ _ ⟨by omega, trivial⟩ at2
  have lt_at_L5 := GHeap.lt_of_get at_L5
  replace hin := base_hin.mono hle
  clear hb2 c02 c12 c22 c32 c42 i12 i22 i32 i42 hm2 hi2
  have hb2 : Cat.At _ g2 0 c p := ⟨Mem.of_get at2, hin⟩
  obtain ⟨c02, c12, c22, c32, c42, i12, i22, i32, i42⟩ := hb2.get
  have hm2 : MemN _ _ _ _ _ := ⟨rfl, hb2.1⟩
  have hi2 := hb2.2
  have hfl := filtN_le k fun g => (decide (c.src.getD g 0 = c.T f) && decide (c.tgt.getD g 0 = c.S f)) && decide (c.th f g = c.I (c.S f))
  refine .seq (fun K5 hK5 => ?_)
  refine .seq (fun K6 hK6 => ?_)
  refine .region (.m rfl rfl rfl (.move rfl) (.m rfl rfl rfl (.fieldAddr fo_31_1_B rfl) ?_))
  refine .m rfl rfl rfl (.load on_22_B rfl (by first | assumption | exact Mem.of_get at2 1 _ rfl)) ?_
  refine .m rfl rfl rfl (.len sl_22_A rfl) (.m rfl rfl rfl (.cmp rfl rfl rfl) (.nil ?_))
  refine hK6 _ _ ?_
  refine .cond rfl (fun h12 => ?_) (fun h12 => ?_)
  ·
   simp only [sps] at h12
   have q10 := i42.2 f.toNat (by omega)
   refine .skip ?_
   refine hK5 _ _ ?_
   refine .seq (fun K7 hK7 => ?_)
   refine .block ?_
   refine .seq (fun K8 hK8 => ?_)
   refine .regionD mixed_orders_B (.q 0 (.q 1 (.q 2 (.q 3 (.q 4 (.q 5 (.q 6 (.q 7 (.q 8 (.q 9 (.q 10 (.q 11 (.q 12 (.q 13 (.q 14 (.q 15 (.q 16 (.q 17 (.q 18 (.q 19 (.q 20 (.q 21 (.q 22 (.q 23 (.q 24 (.q 25 (.q 26 (.q 27 (.q 28 (.q 29 (.q 30 (.q 31 (.q 32 (.q 33 (.q 34 (.q 35 (.q 36 (.q 37 (.q 38 (.q 39 (.q 40 (.q 41 (.q 42 (.q 43 (.done))))))))))))))))))))))))))))))))))))))))))))) (by kernel_rfl) ?_
   refine .m rfl rfl rfl rfl (.refl _) (.fieldAddr fo_31_1_B rfl) ?_
   refine .m rfl rfl rfl rfl (.refl _) (.load on_22_B rfl (by first | assumption | exact Mem.of_get at2 1 _ rfl)) ?_
   refine .m rfl rfl rfl rfl (.refl _) (.move rfl) ?_
   refine .m rfl rfl rfl rfl (.refl _) (.idxN sl_22_A (by assumption) rfl rfl (by omega)) ?_
   refine .m rfl rfl rfl rfl (.refl _) (.loadI on_2_A (by assumption) rfl (by omega)) ?_
   refine .m rfl rfl rfl rfl (.refl _) (.fieldAddr fo_31_2_B rfl) ?_
   refine .m rfl rfl rfl rfl (.refl _) (.load on_22_B rfl (by first | assumption | exact Mem.of_get at2 2 _ rfl)) ?_
   refine .m rfl rfl rfl rfl (.refl _) (.move rfl) ?_
   refine .m rfl rfl rfl rfl (.refl _) (.idx1 sl_22_A (by assumption) rfl rfl (by omega) (by omega)) ?_
   refine .m rfl rfl rfl rfl (.refl _) (.loadI on_2_A (by assumption) rfl (by omega)) ?_
   refine .m rfl rfl rfl rfl (.refl _) (.cmp rfl rfl rfl) (.m rfl rfl rfl rfl (.refl _) (.move rfl) ?_)
   refine .split (fun h26 => ?_) (fun h26 => ?_)
   ·
    try simp only [sps] at h26
    refine .mg rfl rfl rfl rfl rfl rfl (.refl _) (.fieldAddr fo_31_2_B rfl) ?_
    refine .mg rfl rfl rfl rfl rfl rfl (.refl _) (.load on_22_B rfl (by first | assumption | exact Mem.of_get at2 2 _ rfl)) ?_
    refine .mg rfl rfl rfl rfl rfl rfl (.refl _) (.move rfl) ?_
    refine .mg rfl rfl rfl rfl rfl rfl (.refl _) (.idxN sl_22_A (by assumption) rfl rfl (by omega)) ?_
    refine .mg rfl rfl rfl rfl rfl rfl (.refl _) (.loadI on_2_A (by assumption) rfl (by omega)) ?_
    refine .mg rfl rfl rfl rfl rfl rfl (.refl _) (.fieldAddr fo_31_1_B rfl) ?_
    refine .mg rfl rfl rfl rfl rfl rfl (.refl _) (.load on_22_B rfl (by first | assumption | exact Mem.of_get at2 1 _ rfl)) ?_
    refine .mg rfl rfl rfl rfl rfl rfl (.refl _) (.move rfl) ?_
    refine .mg rfl rfl rfl rfl rfl rfl (.refl _) (.idx1 sl_22_A (by assumption) rfl rfl (by omega) (by omega)) ?_
    refine .mg rfl rfl rfl rfl rfl rfl (.refl _) (.loadI on_2_A (by assumption) rfl (by omega)) ?_
    refine .mg rfl rfl rfl rfl rfl rfl (.refl _) (.cmp rfl rfl rfl) (.m rfl rfl rfl rfl (.refl _) (.pickT rfl rfl) (.m rfl rfl rfl rfl (.refl _) (.move rfl) ?_))
    refine .split (fun h39 => ?_) (fun h39 => ?_)
    ·
     try simp only [sps] at h39
     refine .mg rfl rfl rfl rfl rfl rfl (.refl _) (.fieldAddr fo_31_4_B rfl) ?_
     refine .mg rfl rfl rfl rfl rfl rfl (.refl _) (.load on_23_B rfl (by first | assumption | exact Mem.of_get at2 4 _ rfl)) ?_
     refine .mg rfl rfl rfl rfl rfl rfl (.refl _) (.move rfl) ?_
     refine .mg rfl rfl rfl rfl rfl rfl (.refl _) (.idx1 sl_23_B (Intss.sl (by assumption)) rfl rfl (by omega) (by omega)) ?_
     refine .mg rfl rfl rfl rfl rfl rfl (.refl _) (.loadR on_22_B (by assumption) rfl (by omega)) ?_
     refine .mg rfl rfl rfl rfl rfl rfl (.refl _) (.move rfl) ?_
     refine .mg rfl rfl rfl rfl rfl rfl (.refl _) (.idxN sl_22_A (by assumption) rfl rfl (by omega)) ?_
     refine .mg rfl rfl rfl rfl rfl rfl (.refl _) (.loadI on_2_A (by assumption) rfl (by omega)) ?_
     refine .mg rfl rfl rfl rfl rfl rfl (.refl _) (.fieldAddr fo_31_3_B rfl) ?_
     refine .mg rfl rfl rfl rfl rfl rfl (.refl _) (.load on_22_B rfl (by first | assumption | exact Mem.of_get at2 3 _ rfl)) ?_
     refine .mg rfl rfl rfl rfl rfl rfl (.refl _) (.fieldAddr fo_31_1_B rfl) ?_
     refine .mg rfl rfl rfl rfl rfl rfl (.refl _) (.load on_22_B rfl (by first | assumption | exact Mem.of_get at2 1 _ rfl)) ?_
     refine .mg rfl rfl rfl rfl rfl rfl (.refl _) (.move rfl) ?_
     refine .mg rfl rfl rfl rfl rfl rfl (.refl _) (.idx1 sl_22_A (by assumption) rfl rfl (by omega) (by omega)) ?_
     refine .mg rfl rfl rfl rfl rfl rfl (.refl _) (.loadI on_2_A (by assumption) rfl (by omega)) ?_
     refine .mg rfl rfl rfl rfl rfl rfl (.refl _) (.idx1 sl_22_A (by assumption) rfl rfl (by omega) (by omega)) ?_
     refine .mg rfl rfl rfl rfl rfl rfl (.refl _) (.loadI on_2_A (by assumption) rfl (by omega)) ?_
     refine .mg rfl rfl rfl rfl rfl rfl (.refl _) (.cmp rfl rfl rfl) (.m rfl rfl rfl rfl (.refl _) (.pickT rfl rfl) ?_)
     refine .done ?_
     refine hK8 _ _ ?_
     refine .cond rfl (fun h58 => ?_) (fun h58 => ?_)
     ·
      try simp only [sps] at h58
      refine .region (.m rfl rfl rfl (.move rfl) (.m rfl rfl rfl (.move rfl) ?_))
      refine .r rfl rfl rfl (.litR rfl sl_22_A ze_2_E rfl rfl (by omega) (by omega) rfl rfl) ?_
      rintro _ H61 ⟨g61, rfl, le61, ge61, at61⟩
      have nx_H61 := le61.1
      replace hle := hle.trans le61
      replace lst1 := lst1.le le61
      replace at2 := le61.2 _ _ at2
      replace at_L5 := le61.2 _ _ at_L5
      have lt_at61 := GHeap.lt_of_get at61
      replace hin := base_hin.mono hle
      clear hb2 c02 c12 c22 c32 c42 i12 i22 i32 i42 hm2 hi2
      have hb2 : Cat.At _ g2 0 c p := ⟨Mem.of_get at2, hin⟩
      obtain ⟨c02, c12, c22, c32, c42, i12, i22, i32, i42⟩ := hb2.get
      have hm2 : MemN _ _ _ _ _ := ⟨rfl, hb2.1⟩
      have hi2 := hb2.2
      refine .r rfl rfl rfl (.appendI rfl sl_22_A ze_2_E rfl by_2_E sl_22_A rfl rfl (by assumption) (by assumption) (by first | omega | (simp <;> omega)) (by omega) (by omega)) ?_
      rintro _ H62 ⟨g62, rfl, st62, ge62, at62⟩
      have nx_H62 := st62.nx
      replace hle := hle.st st62 (fun k hk => ⟨by omega, trivial⟩)
      replace lst1 := lst1.st st62 (fun k hk ho => by simp only [out, and_true] at ho ⊢ <;> omega)
      replace at2 := st62.same _ _ ⟨by omega, trivial⟩ at2
      replace at61 := st62.same _ _ ⟨by omega, trivial⟩ at61
      have lt_at62 := GHeap.lt_of_get at62
      replace hin := base_hin.mono hle
      clear hb2 c02 c12 c22 c32 c42 i12 i22 i32 i42 hm2 hi2
      have hb2 : Cat.At _ g2 0 c p := ⟨Mem.of_get at2, hin⟩
      obtain ⟨c02, c12, c22, c32, c42, i12, i22, i32, i42⟩ := hb2.get
      have hm2 : MemN _ _ _ _ _ := ⟨rfl, hb2.1⟩
      have hi2 := hb2.2
      refine .m rfl rfl rfl (.assign rfl) (.nil ?_)
      refine hK7 _ _ ?_
      refine .region (.m rfl rfl rfl (.move rfl) ?_)
      refine .m rfl rfl rfl (.add rfl rfl rfl (by omega) (by omega)) ?_
      refine .m rfl rfl rfl (.assign rfl) (.nil ?_)
      refine hKL1 ((k + 1, _, _)) _ _ ?_ ?_ ⟨rfl, rfl, rfl, rfl, trivial⟩
      ·
       refine ⟨lst1, by first | assumption | (rw [filtN_T (by simp only [sps]; simp only [Cat.S, Cat.T, Cat.th, Cat.I, Int.toNat_natCast]; omega)]; assumption) | (rw [filtN_F (by simp only [sps]; simp only [Cat.S, Cat.T, Cat.th, Cat.I, Int.toNat_natCast]; omega)]; assumption), by omega, by first | omega | (simp only [List.length_append, List.length_cons, List.length_nil] <;> omega) | (rw [filtN_T (by simp only [sps]; simp only [Cat.S, Cat.T, Cat.th, Cat.I, Int.toNat_natCast]; omega)] <;> (first | omega | (simp only [List.length_append, List.length_cons, List.length_nil] <;> omega))) | (rw [filtN_F (by simp only [sps]; simp only [Cat.S, Cat.T, Cat.th, Cat.I, Int.toNat_natCast]; omega)] <;> (first | omega | (simp only [List.length_append, List.length_cons, List.length_nil] <;> omega))), ?_⟩
       omega
      (dsimp only; omega)
     try simp only [sps] at h58
     refine .skip ?_
     refine hK7 _ _ ?_
     refine .region (.m rfl rfl rfl (.move rfl) ?_)
     refine .m rfl rfl rfl (.add rfl rfl rfl (by omega) (by omega)) ?_
     refine .m rfl rfl rfl (.assign rfl) (.nil ?_)
     refine hKL1 ((k + 1, _, _)) _ _ ?_ ?_ ⟨rfl, rfl, rfl, rfl, trivial⟩
     ·
      refine ⟨lst1, by first | assumption | (rw [filtN_T (by simp only [sps]; simp only [Cat.S, Cat.T, Cat.th, Cat.I, Int.toNat_natCast]; omega)]; assumption) | (rw [filtN_F (by simp only [sps]; simp only [Cat.S, Cat.T, Cat.th, Cat.I, Int.toNat_natCast]; omega)]; assumption), by omega, by first | omega | (simp only [List.length_append, List.length_cons, List.length_nil] <;> omega) | (rw [filtN_T (by simp only [sps]; simp only [Cat.S, Cat.T, Cat.th, Cat.I, Int.toNat_natCast]; omega)] <;> (first | omega | (simp only [List.length_append, List.length_cons, List.length_nil] <;> omega))) | (rw [filtN_F (by simp only [sps]; simp only [Cat.S, Cat.T, Cat.th, Cat.I, Int.toNat_natCast]; omega)] <;> (first | omega | (simp only [List.length_append, List.length_cons, List.length_nil] <;> omega))), ?_⟩
      omega
     (dsimp only; omega)
    try simp only [sps] at h39
    refine .sg rfl rfl rfl rfl rfl rfl (.sg rfl rfl rfl rfl rfl rfl (.sg rfl rfl rfl rfl rfl rfl (.sg rfl rfl rfl rfl rfl rfl ?_)))
    refine .sg rfl rfl rfl rfl rfl rfl (.sg rfl rfl rfl rfl rfl rfl (.sg rfl rfl rfl rfl rfl rfl (.sg rfl rfl rfl rfl rfl rfl ?_)))
    refine .sg rfl rfl rfl rfl rfl rfl (.sg rfl rfl rfl rfl rfl rfl (.sg rfl rfl rfl rfl rfl rfl (.sg rfl rfl rfl rfl rfl rfl ?_)))
    refine .sg rfl rfl rfl rfl rfl rfl (.sg rfl rfl rfl rfl rfl rfl (.sg rfl rfl rfl rfl rfl rfl (.sg rfl rfl rfl rfl rfl rfl ?_)))
    refine .sg rfl rfl rfl rfl rfl rfl (.sg rfl rfl rfl rfl rfl rfl (.m rfl rfl rfl rfl (.refl _) (.pickF rfl rfl) ?_))
    refine .done ?_
    refine hK8 _ _ ?_
    refine .condF rfl ?_
    refine .skip ?_
    refine hK7 _ _ ?_
    refine .region (.m rfl rfl rfl (.move rfl) ?_)
    refine .m rfl rfl rfl (.add rfl rfl rfl (by omega) (by omega)) ?_
    refine .m rfl rfl rfl (.assign rfl) (.nil ?_)
    refine hKL1 ((k + 1, _, _)) _ _ ?_ ?_ ⟨rfl, rfl, rfl, rfl, trivial⟩
    ·
     refine ⟨lst1, by first | assumption | (rw [filtN_T (by simp only [sps]; simp only [Cat.S, Cat.T, Cat.th, Cat.I, Int.toNat_natCast]; omega)]; assumption) | (rw [filtN_F (by simp only [sps]; simp only [Cat.S, Cat.T, Cat.th, Cat.I, Int.toNat_natCast]; omega)]; assumption), by omega, by first | omega | (simp only [List.length_append, List.length_cons, List.length_nil] <;> omega) | (rw [filtN_T (by simp only [sps]; simp only [Cat.S, Cat.T, Cat.th, Cat.I, Int.toNat_natCast]; omega)] <;> (first | omega | (simp only [List.length_append, List.length_cons, List.length_nil] <;> omega))) | (rw [filtN_F (by simp only [sps]; simp only [Cat.S, Cat.T, Cat.th, Cat.I, Int.toNat_natCast]; omega)] <;> (first | omega | (simp only [List.length_append, List.length_cons, List.length_nil] <;> omega))), ?_⟩
     omega
    (dsimp only; omega)
   try simp only [sps] at h26
   refine .sg rfl rfl rfl rfl rfl rfl (.sg rfl rfl rfl rfl rfl rfl (.sg rfl rfl rfl rfl rfl rfl (.sg rfl rfl rfl rfl rfl rfl ?_)))
   refine .sg rfl rfl rfl rfl rfl rfl (.sg rfl rfl rfl rfl rfl rfl (.sg rfl rfl rfl rfl rfl rfl (.sg rfl rfl rfl rfl rfl rfl ?_)))
   refine .sg rfl rfl rfl rfl rfl rfl (.sg rfl rfl rfl rfl rfl rfl (.sg rfl rfl rfl rfl rfl rfl (.m rfl rfl rfl rfl (.refl _) (.pickF rfl rfl) ?_)))
   refine .m rfl rfl rfl rfl (.refl _) (.move rfl) (.sg rfl rfl rfl rfl rfl rfl (.sg rfl rfl rfl rfl rfl rfl (.sg rfl rfl rfl rfl rfl rfl ?_)))
   refine .sg rfl rfl rfl rfl rfl rfl (.sg rfl rfl rfl rfl rfl rfl (.sg rfl rfl rfl rfl rfl rfl (.sg rfl rfl rfl rfl rfl rfl ?_)))
   refine .sg rfl rfl rfl rfl rfl rfl (.sg rfl rfl rfl rfl rfl rfl (.sg rfl rfl rfl rfl rfl rfl (.sg rfl rfl rfl rfl rfl rfl ?_)))
   refine .sg rfl rfl rfl rfl rfl rfl (.sg rfl rfl rfl rfl rfl rfl (.sg rfl rfl rfl rfl rfl rfl (.sg rfl rfl rfl rfl rfl rfl ?_)))
   refine .sg rfl rfl rfl rfl rfl rfl (.sg rfl rfl rfl rfl rfl rfl (.sg rfl rfl rfl rfl rfl rfl (.m rfl rfl rfl rfl (.refl _) (.pickF rfl rfl) ?_)))
   refine .done ?_
   refine hK8 _ _ ?_
   refine .condF rfl ?_
   refine .skip ?_
   refine hK7 _ _ ?_
   refine .region (.m rfl rfl rfl (.move rfl) ?_)
   refine .m rfl rfl rfl (.add rfl rfl rfl (by omega) (by omega)) ?_
   refine .m rfl rfl rfl (.assign rfl) (.nil ?_)
   refine hKL1 ((k + 1, _, _)) _ _ ?_ ?_ ⟨rfl, rfl, rfl, rfl, trivial⟩
   ·
    refine ⟨lst1, by first | assumption | (rw [filtN_T (by simp only [sps]; simp only [Cat.S, Cat.T, Cat.th, Cat.I, Int.toNat_natCast]; omega)]; assumption) | (rw [filtN_F (by simp only [sps]; simp only [Cat.S, Cat.T, Cat.th, Cat.I, Int.toNat_natCast]; omega)]; assumption), by omega, by first | omega | (simp only [List.length_append, List.length_cons, List.length_nil] <;> omega) | (rw [filtN_T (by simp only [sps]; simp only [Cat.S, Cat.T, Cat.th, Cat.I, Int.toNat_natCast]; omega)] <;> (first | omega | (simp only [List.length_append, List.length_cons, List.length_nil] <;> omega))) | (rw [filtN_F (by simp only [sps]; simp only [Cat.S, Cat.T, Cat.th, Cat.I, Int.toNat_natCast]; omega)] <;> (first | omega | (simp only [List.length_append, List.length_cons, List.length_nil] <;> omega))), ?_⟩
    omega
   (dsimp only; omega)
  try simp only [sps] at h12
  refine .exit ?_
  refine hK3 _ _ ?_
  refine .seq (fun K9 hK9 => ?_)
  refine .region (.m rfl rfl rfl (.move rfl) (.m rfl rfl rfl (.assign rfl) (.nil ?_)))
  refine hK9 _ _ ?_
  refine .ret ?_
  refine hret _ _ ?_
  refine ⟨_, rfl, ?_⟩
  obtain rfl : k = c.src.length := by omega
  exact ⟨hle, _, by rw [ln_L5]; rfl, at_L5, ge_L5⟩
theorem l05Inverse_c {c : Cat} {p : CatP} {f : Int} {H : GHeap} (hin : c.In H p := by assumption) (hS : c.Shape := by assumption) (h0 : 0 ≤ f := by omega) (h1 : f < c.src.length := by omega) :
    GCalls Try.prog 101 [.agg (c.cells p).toArray, .int .i64 f] H (Ret (.int .i64 (c.inv f)) H) := by
  refine GCalls.ret rfl ?_
  refine GCalls.body (N := 30) (rs := [.tmp 4]) Try.func101 rfl rfl rfl rfl (fun Qx hret hend => ?_)
  refine .forget (fr' := [(0, some _), (1, some _)]) ⟨rfl, rfl, trivial⟩ ?_
  have hle := GHeap.Le.refl H
  have base_hin := hin
  have q2 := hS.n40
  have q3 : (c.retr f).length ≤ _ := filtN_le _ _
  have q4 : (c.sect f).length ≤ _ := filtN_le _ _
  refine .seq (fun K1 hK1 => ?_)
  refine .region ?_
  refine .r rfl rfl rfl (.boxR rfl sz_31_D rfl) ?_
  rintro _ H2 ⟨g2, rfl, le2, ge2, at2⟩
  have nx_H2 := le2.1
  replace hle := hle.trans le2
  have lt_at2 := GHeap.lt_of_get at2
  replace hin := base_hin.mono hle
  have hb2 : Cat.At _ g2 0 c p := ⟨Mem.of_get at2, hin⟩
  obtain ⟨c02, c12, c22, c32, c42, i12, i22, i32, i42⟩ := hb2.get
  have hm2 : MemN _ _ _ _ _ := ⟨rfl, hb2.1⟩
  have hi2 := hb2.2
  refine .m rfl rfl rfl (.assign rfl) (.nil ?_)
  refine hK1 _ _ ?_
  refine .seq (fun K2 hK2 => ?_)
  refine .regionD mixed_orders_B (.q 0 (.q 1 (.q 3 (.q 4 (.c 2 1 (.c 5 0 (.q 6 (.q 7 (.done))))))))) (by kernel_rfl) ?_
  refine .m rfl rfl rfl rfl (.refl _) (.loadM ag_31_D rfl ⟨rfl, Mem.of_get at2⟩) ?_
  refine .m rfl rfl rfl rfl (.refl _) (.move rfl) ?_
  refine .m rfl rfl rfl rfl (.refl _) (.loadM ag_31_D rfl ⟨rfl, Mem.of_get at2⟩) ?_
  refine .m rfl rfl rfl rfl (.refl _) (.move rfl) ?_
  refine .call1 rfl rfl rfl rfl rfl @Try.call112 rfl (l05Retractions_c) ?_
  rintro _ H10 ⟨le10, g10, rfl, at10, ge10⟩
  have hbl := le10
  refine ⟨hbl, ?_⟩
  have nx_H10 := le10.1
  replace hle := hle.trans le10
  replace at2 := le10.2 _ _ at2
  have lt_at10 := GHeap.lt_of_get at10
  replace hin := base_hin.mono hle
  clear hb2 c02 c12 c22 c32 c42 i12 i22 i32 i42 hm2 hi2
  have hb2 : Cat.At _ g2 0 c p := ⟨Mem.of_get at2, hin⟩
  obtain ⟨c02, c12, c22, c32, c42, i12, i22, i32, i42⟩ := hb2.get
  have hm2 : MemN _ _ _ _ _ := ⟨rfl, hb2.1⟩
  have hi2 := hb2.2
  have i10 := Ints.of_get at10
  refine .call0 rfl rfl rfl rfl rfl @Try.call113 rfl (l05Sections_c) ?_
  rintro _ H13 ⟨le13, g13, rfl, at13, ge13⟩
  have nx_H13 := le13.1
  replace hle := hle.trans le13
  replace at2 := le13.2 _ _ at2
  replace at10 := le13.2 _ _ at10
  have lt_at13 := GHeap.lt_of_get at13
  replace hin := base_hin.mono hle
  clear hb2 c02 c12 c22 c32 c42 i12 i22 i32 i42 hm2 hi2
  have hb2 : Cat.At _ g2 0 c p := ⟨Mem.of_get at2, hin⟩
  obtain ⟨c02, c12, c22, c32, c42, i12, i22, i32, i42⟩ := hb2.get
  have hm2 : MemN _ _ _ _ _ := ⟨rfl, hb2.1⟩
  have hi2 := hb2.2
  clear i10
  have i10 := Ints.of_get at10
  have i13 := Ints.of_get at13
  refine .m rfl rfl rfl rfl (.refl _) (.assign rfl) (.m rfl rfl rfl rfl (.refl _) (.assign rfl) ?_)
  refine .done ?_
  refine hK2 _ _ ?_
  refine .seq (fun K3 hK3 => ?_)
  refine .seq (fun K4 hK4 => ?_)
  refine .region (.m rfl rfl rfl (.assign rfl) (.nil ?_))
  refine hK4 _ _ ?_
  refine .block ?_
  refine .loopR (σ := Nat) [(5, some _), (6, some _)] (fun k => [(7, some (.int .i64 (k : Int)))]) (fun k H' => H13 = H' ∧ (k : Int) ≤ (c.retr f).length ∧ ∀ i, i < k → (c.sect f).contains ((c.retr f).getD i 0) = false) (fun k => ((c.retr f).length - k : Int).toNat) (0) ⟨rfl, rfl, trivial⟩ ⟨rfl, trivial⟩ ?_ ?_
  ·
   refine ⟨rfl, ?_⟩
   exact ⟨by omega, fun _ _ => by omega⟩
  rintro k _ ⟨rfl, hI⟩ KL1 hKL1
  refine .forget (fr' := [(7, some (.int .i64 (k : Int))), (5, some _), (6, some _)]) ⟨rfl, rfl, rfl, trivial⟩ ?_
  obtain ⟨hk1, ha1⟩ := hI
  refine .seq (fun K5 hK5 => ?_)
  refine .seq (fun K6 hK6 => ?_)
  refine .region (.m rfl rfl rfl (.move rfl) (.m rfl rfl rfl (.move rfl) (.m rfl rfl rfl (.len sl_22_A rfl) ?_)))
  refine .m rfl rfl rfl (.cmp rfl rfl rfl) (.nil ?_)
  refine hK6 _ _ ?_
  refine .cond rfl (fun h17 => ?_) (fun h17 => ?_)
  ·
   try simp only [sps] at h17
   refine .skip ?_
   refine hK5 _ _ ?_
   refine .seq (fun K7 hK7 => ?_)
   refine .block ?_
   refine .seq (fun K8 hK8 => ?_)
   refine .region (.m rfl rfl rfl (.move rfl) (.m rfl rfl rfl (.move rfl) (.m rfl rfl rfl (.move rfl) ?_)))
   refine .m rfl rfl rfl (.idxN sl_22_A (by first | assumption | exact SlA.of_row at10 (by first | rfl | (simp; done) | (simp <;> omega))) rfl rfl (by omega)) ?_
   refine .m rfl rfl rfl (.loadI on_2_A (by first | assumption | exact Ints.of_get at10) rfl (by omega)) ?_
   refine .callQ rfl rfl rfl rfl @Try.call114 rfl (l01Has_c) ?_
   refine .nil ?_
   refine hK8 _ _ ?_
   refine .cond rfl (fun h25 => ?_) (fun h25 => ?_)
   ·
    try simp only [sps] at h25
    refine .seq (fun K9 hK9 => ?_)
    refine .region (.m rfl rfl rfl (.move rfl) (.m rfl rfl rfl (.move rfl) ?_))
    refine .m rfl rfl rfl (.idxN sl_22_A (by first | assumption | exact SlA.of_row at10 (by first | rfl | (simp; done) | (simp <;> omega))) rfl rfl (by omega)) ?_
    refine .m rfl rfl rfl (.loadI on_2_A (by first | assumption | exact Ints.of_get at10) rfl (by omega)) ?_
    refine .m rfl rfl rfl (.assign rfl) (.nil ?_)
    refine hK9 _ _ ?_
    refine .ret ?_
    refine hret _ _ ?_
    refine ⟨_, rfl, ?_⟩
    exact ⟨congrArg _ (by rw [← c.inv_retr]; exact firstIn_some (i := k) (by omega) h25 ha1), hle⟩
   try simp only [sps] at h25
   refine .skip ?_
   refine hK7 _ _ ?_
   refine .region (.m rfl rfl rfl (.move rfl) ?_)
   refine .m rfl rfl rfl (.add rfl rfl rfl (by omega) (by omega)) ?_
   refine .m rfl rfl rfl (.assign rfl) (.nil ?_)
   refine hKL1 (k + 1) _ _ ?_ ?_ ⟨rfl, rfl, rfl, trivial⟩
   ·
    refine ⟨rfl, ?_⟩
    refine ⟨by omega, fun i hx => ?_⟩
    by_cases hltq : i < k
    · exact ha1 i hltq
    · obtain rfl : i = k := by omega
      first | assumption | omega | simp_all
   omega
  try simp only [sps] at h17
  refine .exit ?_
  refine hK3 _ _ ?_
  refine .seq (fun K10 hK10 => ?_)
  refine .region (.m rfl rfl rfl (.assign rfl) (.nil ?_))
  refine hK10 _ _ ?_
  refine .ret ?_
  refine hret _ _ ?_
  refine ⟨_, rfl, ?_⟩
  exact ⟨congrArg _ (by rw [← c.inv_retr]; exact firstIn_none fun i hi => ha1 i (by omega)), hle⟩
end Go.Proofs.Ytnohkokoimmclaa
/- Maps behind maps; full, faithful and essentially surjective functors. No condition. -/
namespace Go.GL
open Go.RowKit

theorem CDo.makeIN {P : Program} {H : GHeap} {fr : Slots} {o : Oper} {t e : TypeId} {x y : Operand} {k k' : IntKind} {l c bytes : Nat} (ho : o.op = .makeSlice t x y) (ht : sliceT P t = some (e, 1)) (hz : zeroT P e = some ([.int .i64 0], 1)) (hb : (P.info? e).map (·.bytes) = some bytes)
    (hx : ev fr x = some (.int k (l : Int))) (hy : ev fr y = some (.int k' (c : Int))) (hlc : l ≤ c) (hsm : bytes * c ≤ 281474976710656) (hsc : c ≤ 9223372036854775807) :
    CDo P o fr H (fun r H' => ∃ g, r = some (.slice (some ⟨g, 0, none⟩) l l) ∧ H.Le H' ∧ H.next ≤ g ∧ H'.get g = some (.row (ints (List.replicate l 0)) e true)) := by
  have := CDo.makeI (P := P) (H := H) (fr := fr) (o := o) ho ht hz hb hx hy (by omega) (by omega) (by omega) (by omega)
  simpa using this

/-- f then g. -/
def thenL (f g : List Int) : List Int := f.map fun y => g.getD y.toNat 0
@[simp] theorem length_thenL (f g : List Int) : (thenL f g).length = f.length := by simp [thenL]
theorem thenL_get {f g : List Int} {i : Nat} (h : i < f.length) : (thenL f g).getD i 0 = g.getD (f.getD i 0).toNat 0 := by
  simp [thenL, List.getD_eq_getElem?_getD, h]
theorem thenL_eq {f g ys : List Int} (hl : ys.length = f.length) (h : ∀ i, i < f.length → ys.getD i 0 = g.getD (f.getD i 0).toNat 0) : ys = thenL f g := by
  refine eq_of_getD (by rw [hl, length_thenL]) fun i hi => ?_
  rw [length_thenL] at hi
  rw [h i hi, thenL_get hi]
theorem mem_thenL {f g : List Int} {b : Int} : b ∈ thenL f g ↔ ∃ y ∈ f, g.getD y.toNat 0 = b := by simp [thenL]
theorem thenL_take_succ {f g : List Int} {k : Nat} (h : k < f.length) : thenL (f.take (k + 1)) g = thenL (f.take k) g ++ [g.getD (f.getD k 0).toNat 0] := by
  unfold thenL
  rw [List.take_add_one, List.map_append, List.getElem?_eq_getElem h]
  simp [List.getD_eq_getElem?_getD, h]

/-- There is an isomorphism from x to y. -/
def Cat.Alike (c : Cat) (x y : Int) : Prop := ∃ g ∈ c.hom x y, 0 ≤ c.inv g
noncomputable def Cat.iso (c : Cat) (x y : Int) : Int := firstIn (c.hom x y) fun g => decide (0 ≤ c.inv g)
theorem Cat.iso_ge {c : Cat} {x y : Int} : 0 ≤ c.iso x y ↔ c.Alike x y := by
  unfold Cat.iso Cat.Alike
  rw [firstIn_ge (fun g hg => by obtain ⟨f, _, _, _, rfl⟩ := Cat.mem_hom.1 hg; omega)]
  simp
def Fun.Full (f : Fun) : Prop := ∀ x : Nat, (x : Int) < f.s.obj → ∀ y : Nat, (y : Int) < f.s.obj → ∀ i, i < (f.t.hom (f.ob.getD x 0) (f.ob.getD y 0)).length → (f.t.hom (f.ob.getD x 0) (f.ob.getD y 0)).getD i 0 ∈ thenL (f.s.hom x y) f.ar
def Fun.Faithful (f : Fun) : Prop := ∀ a : Nat, a < f.ar.length → ∀ b : Nat, b < a → ¬ (f.s.src.getD a 0 = f.s.src.getD b 0 ∧ f.s.tgt.getD a 0 = f.s.tgt.getD b 0 ∧ f.ar.getD a 0 = f.ar.getD b 0)
def Fun.Onto (f : Fun) : Prop := ∀ y : Nat, (y : Int) < f.t.obj → ∃ x, x < f.ob.length ∧ f.t.Alike (f.ob.getD x 0) y
def Fun.Equiv (f : Fun) : Prop := f.Full ∧ f.Faithful ∧ f.Onto
end Go.GL
/- Equivalences. No condition but those of each statement. -/
namespace Go.Proofs.Ytnohkokoimmclaa
open Go Go.GL Go.RowKit Go.Proofs
theorem l02Hom_c {c : Cat} {p : CatP} {x y : Int} {H : GHeap} (hin : c.In H p := by assumption) (hS : c.Shape := by assumption) :
    GCalls Try.prog 100 [.agg (c.cells p).toArray, .int .i64 x, .int .i64 y] H (NewInts 2 H (c.hom x y)) := by
  refine GCalls.body (N := 38) (rs := [.tmp 6]) Try.func100 rfl rfl rfl rfl (fun Qx hret hend => ?_)
  refine .forget (fr' := [(0, some _), (1, some _), (2, some _)]) ⟨rfl, rfl, rfl, trivial⟩ ?_
  have hle := GHeap.Le.refl H
  have base_hin := hin
  have q1 := hS.tl
  have q2 := hS.n40
  refine .seq (fun K1 hK1 => ?_)
  refine .region ?_
  refine .r rfl rfl rfl (.boxR rfl sz_31_D rfl) ?_
  rintro _ H3 ⟨g3, rfl, le3, ge3, at3⟩
  have nx_H3 := le3.1
  replace hle := hle.trans le3
  have lt_at3 := GHeap.lt_of_get at3
  replace hin := base_hin.mono hle
  have hb3 : Cat.At _ g3 0 c p := ⟨Mem.of_get at3, hin⟩
  obtain ⟨c03, c13, c23, c33, c43, i13, i23, i33, i43⟩ := hb3.get
  have hm3 : MemN _ _ _ _ _ := ⟨rfl, hb3.1⟩
  have hi3 := hb3.2
  refine .m rfl rfl rfl (.assign rfl) (.nil ?_)
  refine hK1 _ _ ?_
  refine .seq (fun K2 hK2 => ?_)
  refine .region ?_
  refine .r rfl rfl rfl (.litR rfl sl_22_A ze_2_E rfl rfl (by omega) (by omega) rfl rfl) ?_
  rintro _ H9 ⟨g9, rfl, le9, ge9, at9⟩
  have nx_H9 := le9.1
  replace hle := hle.trans le9
  replace at3 := le9.2 _ _ at3
  have lt_at9 := GHeap.lt_of_get at9
  replace hin := base_hin.mono hle
  clear hb3 c03 c13 c23 c33 c43 i13 i23 i33 i43 hm3 hi3
  have hb3 : Cat.At _ g3 0 c p := ⟨Mem.of_get at3, hin⟩
  obtain ⟨c03, c13, c23, c33, c43, i13, i23, i33, i43⟩ := hb3.get
  have hm3 : MemN _ _ _ _ _ := ⟨rfl, hb3.1⟩
  have hi3 := hb3.2
  replace at9 : GHeap.get H9 g9 = some (.row (ints []) 2 true) := at9
  refine .m rfl rfl rfl (.assign rfl) (.nil ?_)
  refine hK2 _ _ ?_
  refine .seq (fun K3 hK3 => ?_)
  refine .seq (fun K4 hK4 => ?_)
  refine .region (.m rfl rfl rfl (.assign rfl) (.nil ?_))
  refine hK4 _ _ ?_
  refine .block ?_
  refine .loopR (σ := Nat × Nat × Nat) [(1, some _), (2, some _), (3, some _)] (fun (k, gL7, nL7) => [(8, some (.int .i64 (k : Int))), (7, some (.slice (some ⟨gL7, 0, none⟩) nL7 nL7))]) (fun (k, gL7, nL7) H' => St [g9] H9 H' ∧ H'.get gL7 = some (.row (ints (filtN k fun f => decide (c.src.getD f 0 = x) && decide (c.tgt.getD f 0 = y))) 2 true) ∧ (gL7 = g9 ∨ H9.next ≤ gL7) ∧ nL7 = (filtN k fun f => decide (c.src.getD f 0 = x) && decide (c.tgt.getD f 0 = y)).length ∧ k ≤ c.src.length) (fun (k, gL7, nL7) => c.src.length - k) ((0, _, _)) ⟨rfl, rfl, rfl, trivial⟩ ⟨rfl, rfl, trivial⟩ ?_ ?_
  ·
   refine ⟨.refl _ _, by first | assumption | exact at9 | simpa using at9, .inl rfl, by first | rfl | assumption | simp | omega, ?_⟩
   omega
  rintro ⟨k, gL7, nL7⟩ HL1 ⟨lst1, at_L7, pl_L7, ln_L7, hI⟩ KL1 hKL1
  refine .forget (fr' := [(8, some (.int .i64 (k : Int))), (7, some (.slice (some ⟨gL7, 0, none⟩) nL7 nL7)), (1, some _), (2, some _), (3, some _)]) ⟨rfl, rfl, rfl, rfl, rfl, trivial⟩ ?_
  have ge_L7 : H.next ≤ gL7 := by omega
  have nx_HL1 := lst1.nx
  replace hle := hle.st lst1 (fun k hk => ⟨by omega, trivial⟩)
  replace at3 := lst1.same _ _ ⟨by omega, trivial⟩ at3
  have lt_at_L7 := GHeap.lt_of_get at_L7
  replace hin := base_hin.mono hle
  clear hb3 c03 c13 c23 c33 c43 i13 i23 i33 i43 hm3 hi3
  have hb3 : Cat.At _ g3 0 c p := ⟨Mem.of_get at3, hin⟩
  obtain ⟨c03, c13, c23, c33, c43, i13, i23, i33, i43⟩ := hb3.get
  have hm3 : MemN _ _ _ _ _ := ⟨rfl, hb3.1⟩
  have hi3 := hb3.2
  have hfl := filtN_le k fun f => decide (c.src.getD f 0 = x) && decide (c.tgt.getD f 0 = y)
  refine .seq (fun K5 hK5 => ?_)
  refine .seq (fun K6 hK6 => ?_)
  refine .region (.m rfl rfl rfl (.move rfl) (.m rfl rfl rfl (.fieldAddr fo_31_1_B rfl) ?_))
  refine .m rfl rfl rfl (.load on_22_B rfl (by first | assumption | exact Mem.of_get at3 1 _ rfl)) ?_
  refine .m rfl rfl rfl (.len sl_22_A rfl) (.m rfl rfl rfl (.cmp rfl rfl rfl) (.nil ?_))
  refine hK6 _ _ ?_
  refine .cond rfl (fun h14 => ?_) (fun h14 => ?_)
  ·
   try simp only [sps] at h14
   refine .skip ?_
   refine hK5 _ _ ?_
   refine .seq (fun K7 hK7 => ?_)
   refine .block ?_
   refine .seq (fun K8 hK8 => ?_)
   refine .region (.m rfl rfl rfl (.fieldAddr fo_31_1_B rfl) ?_)
   refine .m rfl rfl rfl (.load on_22_B rfl (by first | assumption | exact Mem.of_get at3 1 _ rfl)) ?_
   refine .m rfl rfl rfl (.move rfl) ?_
   refine .m rfl rfl rfl (.idxN sl_22_A (by assumption) rfl rfl (by omega)) ?_
   refine .m rfl rfl rfl (.loadI on_2_A (by assumption) rfl (by omega)) ?_
   refine .m rfl rfl rfl (.move rfl) (.m rfl rfl rfl (.cmp rfl rfl rfl) (.m rfl rfl rfl (.move rfl) ?_))
   refine .split (fun h24 => ?_) (fun h24 => ?_)
   ·
    try simp only [sps] at h24
    refine .mg rfl rfl rfl rfl rfl (.fieldAddr fo_31_2_B rfl) ?_
    refine .mg rfl rfl rfl rfl rfl (.load on_22_B rfl (by first | assumption | exact Mem.of_get at3 2 _ rfl)) ?_
    refine .mg rfl rfl rfl rfl rfl (.move rfl) ?_
    refine .mg rfl rfl rfl rfl rfl (.idxN sl_22_A (by assumption) rfl rfl (by omega)) ?_
    refine .mg rfl rfl rfl rfl rfl (.loadI on_2_A (by assumption) rfl (by omega)) ?_
    refine .mg rfl rfl rfl rfl rfl (.move rfl) (.mg rfl rfl rfl rfl rfl (.cmp rfl rfl rfl) (.m rfl rfl rfl (.pickT rfl rfl) (.nil ?_)))
    refine hK8 _ _ ?_
    refine .cond rfl (fun h32 => ?_) (fun h32 => ?_)
    ·
     try simp only [sps] at h32
     refine .region (.m rfl rfl rfl (.move rfl) (.m rfl rfl rfl (.move rfl) ?_))
     refine .r rfl rfl rfl (.litR rfl sl_22_A ze_2_E rfl rfl (by omega) (by omega) rfl rfl) ?_
     rintro _ H35 ⟨g35, rfl, le35, ge35, at35⟩
     have nx_H35 := le35.1
     replace hle := hle.trans le35
     replace lst1 := lst1.le le35
     replace at3 := le35.2 _ _ at3
     replace at_L7 := le35.2 _ _ at_L7
     have lt_at35 := GHeap.lt_of_get at35
     replace hin := base_hin.mono hle
     clear hb3 c03 c13 c23 c33 c43 i13 i23 i33 i43 hm3 hi3
     have hb3 : Cat.At _ g3 0 c p := ⟨Mem.of_get at3, hin⟩
     obtain ⟨c03, c13, c23, c33, c43, i13, i23, i33, i43⟩ := hb3.get
     have hm3 : MemN _ _ _ _ _ := ⟨rfl, hb3.1⟩
     have hi3 := hb3.2
     refine .r rfl rfl rfl (.appendI rfl sl_22_A ze_2_E rfl by_2_E sl_22_A rfl rfl (by assumption) (by assumption) (by first | omega | (simp <;> omega)) (by omega) (by omega)) ?_
     rintro _ H36 ⟨g36, rfl, st36, ge36, at36⟩
     have nx_H36 := st36.nx
     replace hle := hle.st st36 (fun k hk => ⟨by omega, trivial⟩)
     replace lst1 := lst1.st st36 (fun k hk ho => by simp only [out, and_true] at ho ⊢ <;> omega)
     replace at3 := st36.same _ _ ⟨by omega, trivial⟩ at3
     replace at35 := st36.same _ _ ⟨by omega, trivial⟩ at35
     have lt_at36 := GHeap.lt_of_get at36
     replace hin := base_hin.mono hle
     clear hb3 c03 c13 c23 c33 c43 i13 i23 i33 i43 hm3 hi3
     have hb3 : Cat.At _ g3 0 c p := ⟨Mem.of_get at3, hin⟩
     obtain ⟨c03, c13, c23, c33, c43, i13, i23, i33, i43⟩ := hb3.get
     have hm3 : MemN _ _ _ _ _ := ⟨rfl, hb3.1⟩
     have hi3 := hb3.2
     refine .m rfl rfl rfl (.assign rfl) (.nil ?_)
     refine hK7 _ _ ?_
     refine .region (.m rfl rfl rfl (.move rfl) ?_)
     refine .m rfl rfl rfl (.add rfl rfl rfl (by omega) (by omega)) ?_
     refine .m rfl rfl rfl (.assign rfl) (.nil ?_)
     refine hKL1 ((k + 1, _, _)) _ _ ?_ ?_ ⟨rfl, rfl, rfl, rfl, rfl, trivial⟩
     ·
      refine ⟨lst1, by first | assumption | (rw [filtN_T (by simp only [sps]; omega)]; assumption) | (rw [filtN_F (by simp only [sps]; omega)]; assumption), by omega, by first | omega | (simp only [List.length_append, List.length_cons, List.length_nil] <;> omega) | (rw [filtN_T (by simp only [sps]; omega)] <;> (first | omega | (simp only [List.length_append, List.length_cons, List.length_nil] <;> omega))) | (rw [filtN_F (by simp only [sps]; omega)] <;> (first | omega | (simp only [List.length_append, List.length_cons, List.length_nil] <;> omega))), ?_⟩
      omega
     (dsimp only; omega)
    try simp only [sps] at h32
    refine .skip ?_
    refine hK7 _ _ ?_
    refine .region (.m rfl rfl rfl (.move rfl) ?_)
    refine .m rfl rfl rfl (.add rfl rfl rfl (by omega) (by omega)) ?_
    refine .m rfl rfl rfl (.assign rfl) (.nil ?_)
    refine hKL1 ((k + 1, _, _)) _ _ ?_ ?_ ⟨rfl, rfl, rfl, rfl, rfl, trivial⟩
    ·
     refine ⟨lst1, by first | assumption | (rw [filtN_T (by simp only [sps]; omega)]; assumption) | (rw [filtN_F (by simp only [sps]; omega)]; assumption), by omega, by first | omega | (simp only [List.length_append, List.length_cons, List.length_nil] <;> omega) | (rw [filtN_T (by simp only [sps]; omega)] <;> (first | omega | (simp only [List.length_append, List.length_cons, List.length_nil] <;> omega))) | (rw [filtN_F (by simp only [sps]; omega)] <;> (first | omega | (simp only [List.length_append, List.length_cons, List.length_nil] <;> omega))), ?_⟩
     omega
    (dsimp only; omega)
   try simp only [sps] at h24
   refine .sg rfl rfl rfl rfl rfl (.sg rfl rfl rfl rfl rfl (.sg rfl rfl rfl rfl rfl (.sg rfl rfl rfl rfl rfl ?_)))
   refine .sg rfl rfl rfl rfl rfl (.sg rfl rfl rfl rfl rfl (.sg rfl rfl rfl rfl rfl (.m rfl rfl rfl (.pickF rfl rfl) ?_)))
   refine .nil ?_
   refine hK8 _ _ ?_
   refine .condF rfl ?_
   refine .skip ?_
   refine hK7 _ _ ?_
   refine .region (.m rfl rfl rfl (.move rfl) ?_)
   refine .m rfl rfl rfl (.add rfl rfl rfl (by omega) (by omega)) ?_
   refine .m rfl rfl rfl (.assign rfl) (.nil ?_)
   refine hKL1 ((k + 1, _, _)) _ _ ?_ ?_ ⟨rfl, rfl, rfl, rfl, rfl, trivial⟩
   ·
    refine ⟨lst1, by first | assumption | (rw [filtN_T (by simp only [sps]; omega)]; assumption) | (rw [filtN_F (by simp only [sps]; omega)]; assumption), by omega, by first | omega | (simp only [List.length_append, List.length_cons, List.length_nil] <;> omega) | (rw [filtN_T (by simp only [sps]; omega)] <;> (first | omega | (simp only [List.length_append, List.length_cons, List.length_nil] <;> omega))) | (rw [filtN_F (by simp only [sps]; omega)] <;> (first | omega | (simp only [List.length_append, List.length_cons, List.length_nil] <;> omega))), ?_⟩
    omega
   (dsimp only; omega)
  try simp only [sps] at h14
  refine .exit ?_
  refine hK3 _ _ ?_
  refine .seq (fun K9 hK9 => ?_)
  refine .region (.m rfl rfl rfl (.move rfl) (.m rfl rfl rfl (.assign rfl) (.nil ?_)))
  refine hK9 _ _ ?_
  refine .ret ?_
  refine hret _ _ ?_
  refine ⟨_, rfl, ?_⟩
  obtain rfl : k = c.src.length := by omega
  exact ⟨hle, _, by rw [ln_L7]; rfl, at_L7, ge_L7⟩
theorem l02Then_c {c : Cat} {p : CatP} {f k : Int} {H : GHeap} (hin : c.In H p := by assumption) (hS : c.Shape := by assumption) (h0 : 0 ≤ f := by omega) (h1 : f < c.src.length := by omega) (h2 : 0 ≤ k := by omega) (h3 : k < c.src.length := by omega) :
    GCalls Try.prog 92 [.agg (c.cells p).toArray, .int .i64 f, .int .i64 k] H (Ret (.int .i64 (c.th f k)) H) := by
  refine GCalls.ret rfl ?_
  refine GCalls.body (N := 15) (rs := [.tmp 6]) Try.func92 rfl rfl rfl rfl (fun Qx hret hend => ?_)
  refine .forget (fr' := [(0, some _), (1, some _), (2, some _)]) ⟨rfl, rfl, rfl, trivial⟩ ?_
  have hle := GHeap.Le.refl H
  have base_hin := hin
  have q6 := hS.cl
  have q7 := hS.row f.toNat (by omega)
  refine .seq (fun K1 hK1 => ?_)
  refine .region ?_
  refine .r rfl rfl rfl (.boxR rfl sz_31_D rfl) ?_
  rintro _ H3 ⟨g3, rfl, le3, ge3, at3⟩
  have nx_H3 := le3.1
  replace hle := hle.trans le3
  have lt_at3 := GHeap.lt_of_get at3
  replace hin := base_hin.mono hle
  have hb3 : Cat.At _ g3 0 c p := ⟨Mem.of_get at3, hin⟩
  obtain ⟨c03, c13, c23, c33, c43, i13, i23, i33, i43⟩ := hb3.get
  have hm3 : MemN _ _ _ _ _ := ⟨rfl, hb3.1⟩
  have hi3 := hb3.2
  refine .m rfl rfl rfl (.assign rfl) (.nil ?_)
  refine hK1 _ _ ?_
  refine .seq (fun K2 hK2 => ?_)
  refine .region ?_
  have q8 := i43.2 f.toNat (by omega)
  refine .m rfl rfl rfl (.fieldAddr fo_31_4_B rfl) ?_
  refine .m rfl rfl rfl (.load on_23_B rfl (by first | assumption | exact Mem.of_get at3 4 _ rfl)) ?_
  refine .m rfl rfl rfl (.move rfl) ?_
  refine .m rfl rfl rfl (.idx1 sl_23_B (Intss.sl (by assumption)) rfl rfl (by omega) (by omega)) ?_
  refine .m rfl rfl rfl (.loadR on_22_B (by assumption) rfl (by omega)) ?_
  refine .m rfl rfl rfl (.move rfl) ?_
  refine .m rfl rfl rfl (.idx1 sl_22_A (by assumption) rfl rfl (by omega) (by omega)) ?_
  refine .m rfl rfl rfl (.loadI on_2_A (by assumption) rfl (by omega)) ?_
  refine .m rfl rfl rfl (.assign rfl) (.nil ?_)
  refine hK2 _ _ ?_
  refine .ret ?_
  refine hret _ _ ?_
  refine ⟨_, rfl, ?_⟩
  exact ⟨rfl, hle⟩
end Go.Proofs.Ytnohkokoimmclaa
/- Lists of lists of lists. No condition. -/
namespace Go.GL
open Go.RowKit Go.WideShapes Go.ChangeShapes Go.Deep

def Intsss (H : GHeap) (a : Option Addr) (x : List (List (List Int))) (r : Nat → Option Addr) (s : Nat → Nat → Option Addr) : Prop :=
  SlA H a x.length (fun i => .slice (r i) (x.getD i []).length (x.getD i []).length) ∧ ∀ i, i < x.length → Intss H (r i) (x.getD i []) (s i)
theorem Intsss.mono {H H' : GHeap} {a : Option Addr} {x : List (List (List Int))} {r : Nat → Option Addr} {s : Nat → Nat → Option Addr} (h : Intsss H a x r s) (hle : H.Le H') : Intsss H' a x r s := ⟨SlA.mono h.1 hle, fun i hi => (h.2 i hi).mono hle⟩
theorem Intsss.sl {H : GHeap} {a : Option Addr} {x : List (List (List Int))} {r : Nat → Option Addr} {s : Nat → Nat → Option Addr} (h : Intsss H a x r s) : SlA H a x.length (fun i => .slice (r i) (x.getD i []).length (x.getD i []).length) := h.1
theorem MStep.loadRR {P : Program} {fr : Slots} {H : GHeap} {a : Option Addr} {t : TypeId} {y : Operand} {k : Nat} {x : List (List (List Int))} {r : Nat → Option Addr} {s : Nat → Nat → Option Addr} (ht : oneT P t = true) (h : Intsss H a x r s) (hx : ev fr y = some (elemPtr a k)) (hk : k < x.length) :
    MStep P fr H (.load t y) (.slice (r k) (x.getD k []).length (x.getD k []).length) := .loadE (f := fun i => .slice (r i) (x.getD i []).length (x.getD i []).length) ht h.1 hx hk
def IntsssAt (b : Nat) (H : GHeap) (a : Option Addr) (x : List (List (List Int))) (r : Nat → Option Addr) (s : Nat → Nat → Option Addr) : Prop :=
  ∃ g e cs, a = some ⟨g, 0, none⟩ ∧ b ≤ g ∧ H.get g = some (.row cs e true) ∧ cs.length = x.length ∧ (∀ i, i < x.length → cs[i]? = some (.slice (r i) (x.getD i []).length (x.getD i []).length)) ∧ ∀ i, i < x.length → IntssAt b H (r i) (x.getD i []) (s i)
theorem IntsssAt.keep {b b' : Nat} {H H' : GHeap} {a : Option Addr} {x : List (List (List Int))} {r : Nat → Option Addr} {s : Nat → Nat → Option Addr} (h : IntsssAt b H a x r s) (hk : Keep b' H H') (hb : b' ≤ b) : IntsssAt b' H' a x r s :=
  let ⟨g, e, cs, h1, h2, h3, h4, h5, h6⟩ := h; ⟨g, e, cs, h1, by omega, hk g _ (by omega) h3, h4, h5, fun i hi => (h6 i hi).keep hk hb⟩
theorem IntsssAt.intsss {b : Nat} {H : GHeap} {a : Option Addr} {x : List (List (List Int))} {r : Nat → Option Addr} {s : Nat → Nat → Option Addr} (h : IntsssAt b H a x r s) : Intsss H a x r s := by
  obtain ⟨g, e, cs, rfl, _, h3, h4, h5, h6⟩ := h
  exact ⟨.inr ⟨g, 0, rfl, fun i hi => by rw [GHeap.cell_of h3, Nat.zero_add]; exact h5 i hi⟩, fun i hi => (h6 i hi).intss⟩
def NewIntsss (H : GHeap) (x : List (List (List Int))) (v : Value) (H' : GHeap) : Prop := H.Le H' ∧ ∃ a r s, v = .slice a x.length x.length ∧ IntsssAt H.next H' a x r s

def intsssT (P : Program) (t : TypeId) : Bool := match P.underlying t with | some (.slice e) => intssT P e && (P.cellsOf e == 1) | _ => false
theorem intsssT_run {P : Program} {t : TypeId} (h : intsssT P t = true) : ∃ e, P.underlying t = some (.slice e) ∧ intssT P e = true ∧ P.cellsOf e = 1 := by
  unfold intsssT at h
  split at h
  · simp only [Bool.and_eq_true, beq_iff_eq] at h
    exact ⟨_, by assumption, h.1, h.2⟩
  · cases h
def Wd2 (xss : List (List Int)) : Prop := xss.length ≤ 9223372036854775807 ∧ ∀ i, I64s (xss.getD i [])
def Wd3 (x : List (List (List Int))) : Prop := x.length ≤ 9223372036854775807 ∧ ∀ i, Wd2 (x.getD i [])
def Sm3 (x : List (List (List Int))) : Prop := x.length ≤ 1048576 ∧ ∀ i, (x.getD i []).length ≤ 1048576 ∧ ∀ j, ((x.getD i []).getD j []).length ≤ 1048576
def RIntsss (ρ : Place) (H : GHeap) (cs : List Value) : Prop := ∃ a x r s c, cs = [c] ∧ VRel ρ (.slice a x.length x.length) c ∧ Intsss H a x r s ∧ Wd3 x
theorem RIntsss.mono {ρ ρ' : Place} {H H' : GHeap} {cs : List Value} (h : RIntsss ρ H cs) (he : Ext ρ ρ') (hl : H.Le H') : RIntsss ρ' H' cs :=
  let ⟨a, x, r, s, c, h1, h2, h3, h4⟩ := h; ⟨a, x, r, s, c, h1, h2.mono he, h3.mono hl, h4⟩
theorem Wd2.nil : Wd2 [] := ⟨by simp, fun i => by simp [I64s, I64]⟩
theorem import_intsss {P : Program} {t : TypeId} (ht : intsssT P t = true) : Imports P t RIntsss := by
  intro T enc B w0 ρ H w held fuel cs x hs hB h
  obtain ⟨e, h1, h2, h3⟩ := intsssT_run ht
  rcases open_slice1 h1 h3 h with ⟨rfl, _⟩ | ⟨a, len, cap, m, n, V, D, Pl, rfl, _, hl, hm, hmm, _, hx⟩
  · exact ⟨ρ, H, hs, .refl ρ, .refl H, none, [], fun _ => none, fun _ _ => none, _, rfl, .nilSlice, ⟨.inl rfl, fun i hi => by simp at hi⟩, by simp, fun i => by simpa using Wd2.nil⟩
  · simp only [if_true] at hmm
    subst hmm
    have rows : ∀ k, k ≤ len → ∃ ρ' H', Sim P B w0 ρ' H' w ∧ Ext ρ ρ' ∧ H.Le H' ∧ ∃ (X : Nat → List (List Int)) (rr : Nat → Option Addr) (ss : Nat → Nat → Option Addr), ∀ i, i < k → VRel ρ' (.slice (rr i) (X i).length (X i).length) (V i) ∧ Intss H' (rr i) (X i) (ss i) ∧ Wd2 (X i) := by
      intro k
      induction k with
      | zero => exact fun _ => ⟨ρ, H, hs, .refl ρ, .refl H, fun _ => [], fun _ => none, fun _ _ => none, fun i hi => by omega⟩
      | succ k ih =>
        intro hk
        obtain ⟨ρ1, H1, s1, e1, l1, X, rr, ss, hrr⟩ := ih (by omega)
        obtain ⟨ρ2, H2, s2, e2, l2, a', xs, r, c, hc, hv, hi', hw1, hw2⟩ := import_intss h2 s1 hB (hx k (by omega)).2
        have hc' : V k = c := by simpa using hc
        subst hc'
        refine ⟨ρ2, H2, s2, e1.trans e2, l1.trans l2, fun i => if i = k then xs else X i, fun i => if i = k then a' else rr i, fun i => if i = k then r else ss i, fun i hi => ?_⟩
        by_cases ek : i = k
        · subst ek; simp only [if_true]; exact ⟨hv, hi', hw1, hw2⟩
        · simp only [ek, if_false]
          obtain ⟨v1, i1, w1⟩ := hrr i (by omega)
          exact ⟨v1.mono e2, i1.mono l2, w1⟩
    obtain ⟨ρ1, H1, s1, e1, l1, X, rr, ss, hrr⟩ := rows len (Nat.le_refl _)
    obtain ⟨a', ρ2, H2, k1, k2, k3, k4, k5⟩ := s1.list hB (f := fun i => .slice (rr i) (X i).length (X i).length) hl hm (fun i hi => (hx i hi).1) (fun i hi => (hrr i hi).1)
    have hlen : ((List.range len).map X).length = len := by simp
    have hg : ∀ i, i < len → ((List.range len).map X).getD i [] = X i := fun i hi => by simp [List.getD_eq_getElem?_getD, hi]
    refine ⟨ρ2, H2, k1, e1.trans k2, l1.trans k3, a', (List.range len).map X, rr, ss, _, rfl, by rw [hlen]; exact k4, ⟨?_, fun i hi => ?_⟩, by rw [hlen]; unfold maxLen at hm; omega, fun i => ?_⟩
    · rw [hlen]
      refine k5.imp id fun ⟨g, off, hga, hc⟩ => ⟨g, off, hga, fun i hi => ?_⟩
      show _ = some (Value.slice (rr i) (((List.range len).map X).getD i []).length (((List.range len).map X).getD i []).length)
      rw [hg i hi]
      exact hc i hi
    · rw [hlen] at hi
      rw [hg i hi]
      exact (hrr i hi).2.1.mono k3
    · by_cases hi : i < len
      · rw [hg i hi]; exact (hrr i hi).2.2
      · rw [List.getD_eq_getElem?_getD, List.getElem?_eq_none (by rw [hlen]; omega)]
        exact Wd2.nil
end Go.GL
/- Structs of lists, as they lie in a ghost heap. No condition. -/
namespace Go.GL
open Go.RowKit
structure SFun where
  sh : Cat
  sz : List Int
  ac : List (List Int)
structure SFunP where
  sh : CatP
  a1 : Option Addr
  a2 : Option Addr
  r2 : Nat → Option Addr
def SFun.cells (c : SFun) (p : SFunP) : List Value := c.sh.cells p.sh ++ ([.slice p.a1 c.sz.length c.sz.length] ++ ([.slice p.a2 c.ac.length c.ac.length]))
def SFun.In (H : GHeap) (c : SFun) (p : SFunP) : Prop := c.sh.In H p.sh ∧ Ints H p.a1 c.sz ∧ Intss H p.a2 c.ac p.r2
theorem SFun.In.mono {H H' : GHeap} {c : SFun} {p : SFunP} (h : c.In H p) (hle : H.Le H') : c.In H' p := ⟨Cat.In.mono (h.1) hle, Ints.mono (h.2.1) hle, Intss.mono (h.2.2) hle⟩
def SFun.At (H : GHeap) (g o : Nat) (c : SFun) (p : SFunP) : Prop := Mem H g o (c.cells p) ∧ c.In H p
theorem SFun.At.mono {H H' : GHeap} {g o : Nat} {c : SFun} {p : SFunP} (h : SFun.At H g o c p) (hle : H.Le H') : SFun.At H' g o c p := ⟨h.1.mono hle, SFun.In.mono h.2 hle⟩
theorem SFun.At.get {H : GHeap} {g o : Nat} {c : SFun} {p : SFunP} (h : SFun.At H g o c p) : Cat.At H g (o + 0) c.sh p.sh ∧ H.cell g (o + 5) = some (.slice p.a1 c.sz.length c.sz.length) ∧ H.cell g (o + 6) = some (.slice p.a2 c.ac.length c.ac.length) ∧ Ints H p.a1 c.sz ∧ Intss H p.a2 c.ac p.r2 :=
  ⟨⟨h.1.left, h.2.1⟩, (h.1.right (n := 5) rfl).left 0 _ rfl, ((h.1.right (n := 5) rfl).right (n := 1) rfl) 0 _ rfl, h.2.2.1, h.2.2.2⟩
def SFun.Small (c : SFun) : Prop := c.sh.Small ∧ c.sz.length ≤ 1048576 ∧ (c.ac.length ≤ 1048576 ∧ ∀ i, (c.ac.getD i []).length ≤ 1048576)
def SFun.Wide (c : SFun) : Prop := c.sh.Wide ∧ I64s c.sz ∧ (c.ac.length ≤ 9223372036854775807 ∧ ∀ i, I64s (c.ac.getD i []))
def SFunAt (b : Nat) (H : GHeap) (c : SFun) (p : SFunP) : Prop := CatAt b H c.sh p.sh ∧ IntsAt b H p.a1 c.sz ∧ IntssAt b H p.a2 c.ac p.r2
theorem SFunAt.keep {b b' : Nat} {H H' : GHeap} {c : SFun} {p : SFunP} (h : SFunAt b H c p) (hk : Keep b' H H') (hb : b' ≤ b) : SFunAt b' H' c p := ⟨CatAt.keep (h.1) hk hb, IntsAt.keep (h.2.1) hk hb, IntssAt.keep (h.2.2) hk hb⟩
theorem SFunAt.inn {b : Nat} {H : GHeap} {c : SFun} {p : SFunP} (h : SFunAt b H c p) : c.In H p := ⟨CatAt.inn (h.1), IntsAt.ints (h.2.1), IntssAt.intss (h.2.2)⟩
def NewSFun (H : GHeap) (c : SFun) (v : Value) (H' : GHeap) : Prop := H.Le H' ∧ ∃ p, v = .agg (c.cells p).toArray ∧ SFunAt H.next H' c p
def sfunT (P : Program) (t : TypeId) : Bool := structIs P t 7 3 fun fs => fieldIs P fs 0 0 5 catT && fieldIs P fs 1 5 1 intsT && fieldIs P fs 2 6 1 intssT
def RSFun (ρ : Place) (H : GHeap) (cs : List Value) : Prop := ∃ (c : SFun) (p : SFunP), LRel ρ (c.cells p) cs ∧ c.In H p ∧ c.Wide
theorem import_sfun {P : Program} {t : TypeId} (ht : sfunT P t = true) : Imports P t RSFun := by
  intro T enc B w0 ρ H w held fuel cs x hs hB h
  obtain ⟨fs, g1, g2, g3, g4⟩ := structIs_run ht
  simp only [Bool.and_eq_true] at g4
  obtain ⟨⟨q0, q1⟩, q2⟩ := g4
  obtain ⟨xs, n, _, _, hl, hx, hf⟩ := DataW.trod_struct g1 h
  obtain ⟨ρ0, H0, s0, e0, l0, y0, p0, v0, i0, w0⟩ := import_field (fun _ h => import_cat h) q0 hx hf hs hB
  obtain ⟨ρ1, H1, s1, e1, l1, a1, x1, c1, z1, v1, i1, w1⟩ := import_field (fun _ h => import_ints h) q1 hx hf s0 hB
  obtain ⟨ρ2, H2, s2, e2, l2, a2, x2, r2, c2, z2, v2, i2, w2⟩ := import_field (fun _ h => import_intss h) q2 hx hf s1 hB
  refine ⟨ρ2, H2, s2, e0.trans (e1.trans (e2)), l0.trans (l1.trans (l2)), ⟨y0, x1, x2⟩, ⟨p0, a1, a2, r2⟩, ?_, ⟨Cat.In.mono i0 (l1.trans (l2)), i1.mono (l2), i2⟩, ⟨w0, w1, w2⟩⟩
  have hlen : cs.length = 7 := by rw [hl, g2]
  have e : cs = (cs.drop 0).take 5 ++ ((cs.drop 5).take 1 ++ ((cs.drop 6).take 1)) := by
    match cs, hlen with
    | [_, _, _, _, _, _, _], _ => rfl
  rw [e, z1, z2]
  exact (LRel.append (v0.mono (e1.trans (e2))) (LRel.append (.cons (v1.mono (e2)) (.nil _)) (.cons (v2) (.nil _))))
structure SMap where
  s : SFun
  t : SFun
  pa : List (List Int)
structure SMapP where
  s : SFunP
  t : SFunP
  a2 : Option Addr
  r2 : Nat → Option Addr
def SMap.cells (c : SMap) (p : SMapP) : List Value := c.s.cells p.s ++ (c.t.cells p.t ++ ([.slice p.a2 c.pa.length c.pa.length]))
def SMap.In (H : GHeap) (c : SMap) (p : SMapP) : Prop := c.s.In H p.s ∧ c.t.In H p.t ∧ Intss H p.a2 c.pa p.r2
theorem SMap.In.mono {H H' : GHeap} {c : SMap} {p : SMapP} (h : c.In H p) (hle : H.Le H') : c.In H' p := ⟨SFun.In.mono (h.1) hle, SFun.In.mono (h.2.1) hle, Intss.mono (h.2.2) hle⟩
def SMap.At (H : GHeap) (g o : Nat) (c : SMap) (p : SMapP) : Prop := Mem H g o (c.cells p) ∧ c.In H p
theorem SMap.At.mono {H H' : GHeap} {g o : Nat} {c : SMap} {p : SMapP} (h : SMap.At H g o c p) (hle : H.Le H') : SMap.At H' g o c p := ⟨h.1.mono hle, SMap.In.mono h.2 hle⟩
theorem SMap.At.get {H : GHeap} {g o : Nat} {c : SMap} {p : SMapP} (h : SMap.At H g o c p) : SFun.At H g (o + 0) c.s p.s ∧ SFun.At H g (o + 7) c.t p.t ∧ H.cell g (o + 14) = some (.slice p.a2 c.pa.length c.pa.length) ∧ Intss H p.a2 c.pa p.r2 :=
  ⟨⟨h.1.left, h.2.1⟩, ⟨(h.1.right (n := 7) rfl).left, h.2.2.1⟩, ((h.1.right (n := 7) rfl).right (n := 7) rfl) 0 _ rfl, h.2.2.2⟩
def SMap.Small (c : SMap) : Prop := c.s.Small ∧ c.t.Small ∧ (c.pa.length ≤ 1048576 ∧ ∀ i, (c.pa.getD i []).length ≤ 1048576)
def SMap.Wide (c : SMap) : Prop := c.s.Wide ∧ c.t.Wide ∧ (c.pa.length ≤ 9223372036854775807 ∧ ∀ i, I64s (c.pa.getD i []))
def SMapAt (b : Nat) (H : GHeap) (c : SMap) (p : SMapP) : Prop := SFunAt b H c.s p.s ∧ SFunAt b H c.t p.t ∧ IntssAt b H p.a2 c.pa p.r2
theorem SMapAt.keep {b b' : Nat} {H H' : GHeap} {c : SMap} {p : SMapP} (h : SMapAt b H c p) (hk : Keep b' H H') (hb : b' ≤ b) : SMapAt b' H' c p := ⟨SFunAt.keep (h.1) hk hb, SFunAt.keep (h.2.1) hk hb, IntssAt.keep (h.2.2) hk hb⟩
theorem SMapAt.inn {b : Nat} {H : GHeap} {c : SMap} {p : SMapP} (h : SMapAt b H c p) : c.In H p := ⟨SFunAt.inn (h.1), SFunAt.inn (h.2.1), IntssAt.intss (h.2.2)⟩
def NewSMap (H : GHeap) (c : SMap) (v : Value) (H' : GHeap) : Prop := H.Le H' ∧ ∃ p, v = .agg (c.cells p).toArray ∧ SMapAt H.next H' c p
def smapT (P : Program) (t : TypeId) : Bool := structIs P t 15 3 fun fs => fieldIs P fs 0 0 7 sfunT && fieldIs P fs 1 7 7 sfunT && fieldIs P fs 2 14 1 intssT
def RSMap (ρ : Place) (H : GHeap) (cs : List Value) : Prop := ∃ (c : SMap) (p : SMapP), LRel ρ (c.cells p) cs ∧ c.In H p ∧ c.Wide
theorem import_smap {P : Program} {t : TypeId} (ht : smapT P t = true) : Imports P t RSMap := by
  intro T enc B w0 ρ H w held fuel cs x hs hB h
  obtain ⟨fs, g1, g2, g3, g4⟩ := structIs_run ht
  simp only [Bool.and_eq_true] at g4
  obtain ⟨⟨q0, q1⟩, q2⟩ := g4
  obtain ⟨xs, n, _, _, hl, hx, hf⟩ := DataW.trod_struct g1 h
  obtain ⟨ρ0, H0, s0, e0, l0, y0, p0, v0, i0, w0⟩ := import_field (fun _ h => import_sfun h) q0 hx hf hs hB
  obtain ⟨ρ1, H1, s1, e1, l1, y1, p1, v1, i1, w1⟩ := import_field (fun _ h => import_sfun h) q1 hx hf s0 hB
  obtain ⟨ρ2, H2, s2, e2, l2, a2, x2, r2, c2, z2, v2, i2, w2⟩ := import_field (fun _ h => import_intss h) q2 hx hf s1 hB
  refine ⟨ρ2, H2, s2, e0.trans (e1.trans (e2)), l0.trans (l1.trans (l2)), ⟨y0, y1, x2⟩, ⟨p0, p1, a2, r2⟩, ?_, ⟨SFun.In.mono i0 (l1.trans (l2)), SFun.In.mono i1 (l2), i2⟩, ⟨w0, w1, w2⟩⟩
  have hlen : cs.length = 15 := by rw [hl, g2]
  have e : cs = (cs.drop 0).take 7 ++ ((cs.drop 7).take 7 ++ ((cs.drop 14).take 1)) := by
    match cs, hlen with
    | [_, _, _, _, _, _, _, _, _, _, _, _, _, _, _], _ => rfl
  rw [e, z2]
  exact (LRel.append (v0.mono (e1.trans (e2))) (LRel.append (v1.mono (e2)) (.cons (v2) (.nil _))))
structure Con where
  ap : Int
  lg : List Int
structure ConP where
  a1 : Option Addr
def Con.cells (c : Con) (p : ConP) : List Value := [.int .i64 c.ap] ++ ([.slice p.a1 c.lg.length c.lg.length])
def Con.In (H : GHeap) (c : Con) (p : ConP) : Prop := Ints H p.a1 c.lg
theorem Con.In.mono {H H' : GHeap} {c : Con} {p : ConP} (h : c.In H p) (hle : H.Le H') : c.In H' p := Ints.mono (h) hle
def Con.At (H : GHeap) (g o : Nat) (c : Con) (p : ConP) : Prop := Mem H g o (c.cells p) ∧ c.In H p
theorem Con.At.mono {H H' : GHeap} {g o : Nat} {c : Con} {p : ConP} (h : Con.At H g o c p) (hle : H.Le H') : Con.At H' g o c p := ⟨h.1.mono hle, Con.In.mono h.2 hle⟩
theorem Con.At.get {H : GHeap} {g o : Nat} {c : Con} {p : ConP} (h : Con.At H g o c p) : H.cell g (o + 0) = some (.int .i64 c.ap) ∧ H.cell g (o + 1) = some (.slice p.a1 c.lg.length c.lg.length) ∧ Ints H p.a1 c.lg :=
  ⟨h.1.left 0 _ rfl, (h.1.right (n := 1) rfl) 0 _ rfl, h.2⟩
def Con.Small (c : Con) : Prop := (-9223372036854775808 ≤ c.ap ∧ c.ap ≤ 9223372036854775807) ∧ c.lg.length ≤ 1048576
def Con.Wide (c : Con) : Prop := I64 c.ap ∧ I64s c.lg
def ConAt (b : Nat) (H : GHeap) (c : Con) (p : ConP) : Prop := IntsAt b H p.a1 c.lg
theorem ConAt.keep {b b' : Nat} {H H' : GHeap} {c : Con} {p : ConP} (h : ConAt b H c p) (hk : Keep b' H H') (hb : b' ≤ b) : ConAt b' H' c p := IntsAt.keep (h) hk hb
theorem ConAt.inn {b : Nat} {H : GHeap} {c : Con} {p : ConP} (h : ConAt b H c p) : c.In H p := IntsAt.ints (h)
def NewCon (H : GHeap) (c : Con) (v : Value) (H' : GHeap) : Prop := H.Le H' ∧ ∃ p, v = .agg (c.cells p).toArray ∧ ConAt H.next H' c p
def conT (P : Program) (t : TypeId) : Bool := structIs P t 2 2 fun fs => fieldIs P fs 0 0 1 i64T && fieldIs P fs 1 1 1 intsT
def RCon (ρ : Place) (H : GHeap) (cs : List Value) : Prop := ∃ (c : Con) (p : ConP), LRel ρ (c.cells p) cs ∧ c.In H p ∧ c.Wide
theorem import_con {P : Program} {t : TypeId} (ht : conT P t = true) : Imports P t RCon := by
  intro T enc B w0 ρ H w held fuel cs x hs hB h
  obtain ⟨fs, g1, g2, g3, g4⟩ := structIs_run ht
  simp only [Bool.and_eq_true] at g4
  obtain ⟨q0, q1⟩ := g4
  obtain ⟨xs, n, _, _, hl, hx, hf⟩ := DataW.trod_struct g1 h
  obtain ⟨ρ0, H0, s0, e0, l0, n0, z0, w0⟩ := import_field (fun _ h => import_int h) q0 hx hf hs hB
  obtain ⟨ρ1, H1, s1, e1, l1, a1, x1, c1, z1, v1, i1, w1⟩ := import_field (fun _ h => import_ints h) q1 hx hf s0 hB
  refine ⟨ρ1, H1, s1, e0.trans (e1), l0.trans (l1), ⟨n0, x1⟩, ⟨a1⟩, ?_, i1, ⟨w0, w1⟩⟩
  have hlen : cs.length = 2 := by rw [hl, g2]
  have e : cs = (cs.drop 0).take 1 ++ ((cs.drop 1).take 1) := by
    match cs, hlen with
    | [_, _], _ => rfl
  rw [e, z0, z1]
  exact (LRel.append (.cons (.int _ _) (.nil _)) (.cons (v1) (.nil _)))
structure Prt where
  me : List (List Int)
structure PrtP where
  a0 : Option Addr
  r0 : Nat → Option Addr
def Prt.cells (c : Prt) (p : PrtP) : List Value := [.slice p.a0 c.me.length c.me.length]
def Prt.In (H : GHeap) (c : Prt) (p : PrtP) : Prop := Intss H p.a0 c.me p.r0
theorem Prt.In.mono {H H' : GHeap} {c : Prt} {p : PrtP} (h : c.In H p) (hle : H.Le H') : c.In H' p := Intss.mono (h) hle
def Prt.At (H : GHeap) (g o : Nat) (c : Prt) (p : PrtP) : Prop := Mem H g o (c.cells p) ∧ c.In H p
theorem Prt.At.mono {H H' : GHeap} {g o : Nat} {c : Prt} {p : PrtP} (h : Prt.At H g o c p) (hle : H.Le H') : Prt.At H' g o c p := ⟨h.1.mono hle, Prt.In.mono h.2 hle⟩
theorem Prt.At.get {H : GHeap} {g o : Nat} {c : Prt} {p : PrtP} (h : Prt.At H g o c p) : H.cell g (o + 0) = some (.slice p.a0 c.me.length c.me.length) ∧ Intss H p.a0 c.me p.r0 :=
  ⟨h.1 0 _ rfl, h.2⟩
def Prt.Small (c : Prt) : Prop := (c.me.length ≤ 1048576 ∧ ∀ i, (c.me.getD i []).length ≤ 1048576)
def Prt.Wide (c : Prt) : Prop := (c.me.length ≤ 9223372036854775807 ∧ ∀ i, I64s (c.me.getD i []))
def PrtAt (b : Nat) (H : GHeap) (c : Prt) (p : PrtP) : Prop := IntssAt b H p.a0 c.me p.r0
theorem PrtAt.keep {b b' : Nat} {H H' : GHeap} {c : Prt} {p : PrtP} (h : PrtAt b H c p) (hk : Keep b' H H') (hb : b' ≤ b) : PrtAt b' H' c p := IntssAt.keep (h) hk hb
theorem PrtAt.inn {b : Nat} {H : GHeap} {c : Prt} {p : PrtP} (h : PrtAt b H c p) : c.In H p := IntssAt.intss (h)
def NewPrt (H : GHeap) (c : Prt) (v : Value) (H' : GHeap) : Prop := H.Le H' ∧ ∃ p, v = .agg (c.cells p).toArray ∧ PrtAt H.next H' c p
def prtT (P : Program) (t : TypeId) : Bool := structIs P t 1 1 fun fs => fieldIs P fs 0 0 1 intssT
def RPrt (ρ : Place) (H : GHeap) (cs : List Value) : Prop := ∃ (c : Prt) (p : PrtP), LRel ρ (c.cells p) cs ∧ c.In H p ∧ c.Wide
theorem import_prt {P : Program} {t : TypeId} (ht : prtT P t = true) : Imports P t RPrt := by
  intro T enc B w0 ρ H w held fuel cs x hs hB h
  obtain ⟨fs, g1, g2, g3, g4⟩ := structIs_run ht
  have q0 := g4
  obtain ⟨xs, n, _, _, hl, hx, hf⟩ := DataW.trod_struct g1 h
  obtain ⟨ρ0, H0, s0, e0, l0, a0, x0, r0, c0, z0, v0, i0, w0⟩ := import_field (fun _ h => import_intss h) q0 hx hf hs hB
  refine ⟨ρ0, H0, s0, e0, l0, ⟨x0⟩, ⟨a0, r0⟩, ?_, i0, w0⟩
  have hlen : cs.length = 1 := by rw [hl, g2]
  have e : cs = (cs.drop 0).take 1 := by
    match cs, hlen with
    | [_], _ => rfl
  rw [e, z0]
  exact (.cons (v0) (.nil _))
structure Prof where
  s : Cat
  t : Cat
  sz : List (List Int)
  be : List (List (List Int))
  bh : List (List (List Int))
structure ProfP where
  s : CatP
  t : CatP
  a2 : Option Addr
  r2 : Nat → Option Addr
  a3 : Option Addr
  r3 : Nat → Option Addr
  s3 : Nat → Nat → Option Addr
  a4 : Option Addr
  r4 : Nat → Option Addr
  s4 : Nat → Nat → Option Addr
def Prof.cells (c : Prof) (p : ProfP) : List Value := c.s.cells p.s ++ (c.t.cells p.t ++ ([.slice p.a2 c.sz.length c.sz.length] ++ ([.slice p.a3 c.be.length c.be.length] ++ ([.slice p.a4 c.bh.length c.bh.length]))))
def Prof.In (H : GHeap) (c : Prof) (p : ProfP) : Prop := c.s.In H p.s ∧ c.t.In H p.t ∧ Intss H p.a2 c.sz p.r2 ∧ Intsss H p.a3 c.be p.r3 p.s3 ∧ Intsss H p.a4 c.bh p.r4 p.s4
theorem Prof.In.mono {H H' : GHeap} {c : Prof} {p : ProfP} (h : c.In H p) (hle : H.Le H') : c.In H' p := ⟨Cat.In.mono (h.1) hle, Cat.In.mono (h.2.1) hle, Intss.mono (h.2.2.1) hle, Intsss.mono (h.2.2.2.1) hle, Intsss.mono (h.2.2.2.2) hle⟩
def Prof.At (H : GHeap) (g o : Nat) (c : Prof) (p : ProfP) : Prop := Mem H g o (c.cells p) ∧ c.In H p
theorem Prof.At.mono {H H' : GHeap} {g o : Nat} {c : Prof} {p : ProfP} (h : Prof.At H g o c p) (hle : H.Le H') : Prof.At H' g o c p := ⟨h.1.mono hle, Prof.In.mono h.2 hle⟩
theorem Prof.At.get {H : GHeap} {g o : Nat} {c : Prof} {p : ProfP} (h : Prof.At H g o c p) : Cat.At H g (o + 0) c.s p.s ∧ Cat.At H g (o + 5) c.t p.t ∧ H.cell g (o + 10) = some (.slice p.a2 c.sz.length c.sz.length) ∧ H.cell g (o + 11) = some (.slice p.a3 c.be.length c.be.length) ∧ H.cell g (o + 12) = some (.slice p.a4 c.bh.length c.bh.length) ∧ Intss H p.a2 c.sz p.r2 ∧ Intsss H p.a3 c.be p.r3 p.s3 ∧ Intsss H p.a4 c.bh p.r4 p.s4 :=
  ⟨⟨h.1.left, h.2.1⟩, ⟨(h.1.right (n := 5) rfl).left, h.2.2.1⟩, ((h.1.right (n := 5) rfl).right (n := 5) rfl).left 0 _ rfl, (((h.1.right (n := 5) rfl).right (n := 5) rfl).right (n := 1) rfl).left 0 _ rfl, ((((h.1.right (n := 5) rfl).right (n := 5) rfl).right (n := 1) rfl).right (n := 1) rfl) 0 _ rfl, h.2.2.2.1, h.2.2.2.2.1, h.2.2.2.2.2⟩
def Prof.Small (c : Prof) : Prop := c.s.Small ∧ c.t.Small ∧ (c.sz.length ≤ 1048576 ∧ ∀ i, (c.sz.getD i []).length ≤ 1048576) ∧ Sm3 c.be ∧ Sm3 c.bh
def Prof.Wide (c : Prof) : Prop := c.s.Wide ∧ c.t.Wide ∧ (c.sz.length ≤ 9223372036854775807 ∧ ∀ i, I64s (c.sz.getD i [])) ∧ Wd3 c.be ∧ Wd3 c.bh
def ProfAt (b : Nat) (H : GHeap) (c : Prof) (p : ProfP) : Prop := CatAt b H c.s p.s ∧ CatAt b H c.t p.t ∧ IntssAt b H p.a2 c.sz p.r2 ∧ IntsssAt b H p.a3 c.be p.r3 p.s3 ∧ IntsssAt b H p.a4 c.bh p.r4 p.s4
theorem ProfAt.keep {b b' : Nat} {H H' : GHeap} {c : Prof} {p : ProfP} (h : ProfAt b H c p) (hk : Keep b' H H') (hb : b' ≤ b) : ProfAt b' H' c p := ⟨CatAt.keep (h.1) hk hb, CatAt.keep (h.2.1) hk hb, IntssAt.keep (h.2.2.1) hk hb, IntsssAt.keep (h.2.2.2.1) hk hb, IntsssAt.keep (h.2.2.2.2) hk hb⟩
theorem ProfAt.inn {b : Nat} {H : GHeap} {c : Prof} {p : ProfP} (h : ProfAt b H c p) : c.In H p := ⟨CatAt.inn (h.1), CatAt.inn (h.2.1), IntssAt.intss (h.2.2.1), IntsssAt.intsss (h.2.2.2.1), IntsssAt.intsss (h.2.2.2.2)⟩
def NewProf (H : GHeap) (c : Prof) (v : Value) (H' : GHeap) : Prop := H.Le H' ∧ ∃ p, v = .agg (c.cells p).toArray ∧ ProfAt H.next H' c p
def profT (P : Program) (t : TypeId) : Bool := structIs P t 13 5 fun fs => fieldIs P fs 0 0 5 catT && fieldIs P fs 1 5 5 catT && fieldIs P fs 2 10 1 intssT && fieldIs P fs 3 11 1 intsssT && fieldIs P fs 4 12 1 intsssT
def RProf (ρ : Place) (H : GHeap) (cs : List Value) : Prop := ∃ (c : Prof) (p : ProfP), LRel ρ (c.cells p) cs ∧ c.In H p ∧ c.Wide
theorem import_prof {P : Program} {t : TypeId} (ht : profT P t = true) : Imports P t RProf := by
  intro T enc B w0 ρ H w held fuel cs x hs hB h
  obtain ⟨fs, g1, g2, g3, g4⟩ := structIs_run ht
  simp only [Bool.and_eq_true] at g4
  obtain ⟨⟨⟨⟨q0, q1⟩, q2⟩, q3⟩, q4⟩ := g4
  obtain ⟨xs, n, _, _, hl, hx, hf⟩ := DataW.trod_struct g1 h
  obtain ⟨ρ0, H0, s0, e0, l0, y0, p0, v0, i0, w0⟩ := import_field (fun _ h => import_cat h) q0 hx hf hs hB
  obtain ⟨ρ1, H1, s1, e1, l1, y1, p1, v1, i1, w1⟩ := import_field (fun _ h => import_cat h) q1 hx hf s0 hB
  obtain ⟨ρ2, H2, s2, e2, l2, a2, x2, r2, c2, z2, v2, i2, w2⟩ := import_field (fun _ h => import_intss h) q2 hx hf s1 hB
  obtain ⟨ρ3, H3, s3, e3, l3, a3, x3, r3, t3, c3, z3, v3, i3, w3⟩ := import_field (fun _ h => import_intsss h) q3 hx hf s2 hB
  obtain ⟨ρ4, H4, s4, e4, l4, a4, x4, r4, t4, c4, z4, v4, i4, w4⟩ := import_field (fun _ h => import_intsss h) q4 hx hf s3 hB
  refine ⟨ρ4, H4, s4, e0.trans (e1.trans (e2.trans (e3.trans (e4)))), l0.trans (l1.trans (l2.trans (l3.trans (l4)))), ⟨y0, y1, x2, x3, x4⟩, ⟨p0, p1, a2, r2, a3, r3, t3, a4, r4, t4⟩, ?_, ⟨Cat.In.mono i0 (l1.trans (l2.trans (l3.trans (l4)))), Cat.In.mono i1 (l2.trans (l3.trans (l4))), i2.mono (l3.trans (l4)), i3.mono (l4), i4⟩, ⟨w0, w1, w2, w3, w4⟩⟩
  have hlen : cs.length = 13 := by rw [hl, g2]
  have e : cs = (cs.drop 0).take 5 ++ ((cs.drop 5).take 5 ++ ((cs.drop 10).take 1 ++ ((cs.drop 11).take 1 ++ ((cs.drop 12).take 1)))) := by
    match cs, hlen with
    | [_, _, _, _, _, _, _, _, _, _, _, _, _], _ => rfl
  rw [e, z2, z3, z4]
  exact (LRel.append (v0.mono (e1.trans (e2.trans (e3.trans (e4))))) (LRel.append (v1.mono (e2.trans (e3.trans (e4)))) (LRel.append (.cons (v2.mono (e3.trans (e4))) (.nil _)) (LRel.append (.cons (v3.mono (e4)) (.nil _)) (.cons (v4) (.nil _))))))
end Go.GL
/- Lists that are written over: what marking leaves, and what it finds again. No condition. -/
namespace Go.GL

/-- A row may have turned only into another one of as many numbers, and only among the rows lo .. hi - 1. -/
structure StM (lo hi : Nat) (H H' : GHeap) : Prop where
  nx : H.next ≤ H'.next
  same : ∀ k o, ¬ (lo ≤ k ∧ k < hi) → H.get k = some o → H'.get k = some o
  ins : ∀ k o, H.get k = some o → ∃ o', H'.get k = some o' ∧ (o' = o ∨ ∃ xs ys e, o = .row (ints xs) e true ∧ o' = .row (ints ys) e true ∧ ys.length = xs.length)
theorem StM.refl (lo hi : Nat) (H : GHeap) : StM lo hi H H := ⟨Nat.le_refl _, fun _ _ _ h => h, fun _ o h => ⟨o, h, .inl rfl⟩⟩
theorem StM.of_le {lo hi : Nat} {H H' : GHeap} (h : H.Le H') : StM lo hi H H' := ⟨h.1, fun k o _ ho => h.2 k o ho, fun _ o ho => ⟨o, h.2 _ _ ho, .inl rfl⟩⟩
theorem ints_inj {xs ys : List Int} (h : ints xs = ints ys) : xs = ys := by
  unfold ints at h
  exact (List.map_inj_right (fun a b hab => by cases hab; rfl)).1 h
theorem StM.trans {lo hi : Nat} {A B C : GHeap} (h : StM lo hi A B) (k : StM lo hi B C) : StM lo hi A C where
  nx := Nat.le_trans h.nx k.nx
  same g o hg ho := k.same g o hg (h.same g o hg ho)
  ins g o ho := by
    obtain ⟨o1, h1, h2⟩ := h.ins g o ho
    obtain ⟨o2, k1, k2⟩ := k.ins g o1 h1
    refine ⟨o2, k1, ?_⟩
    rcases h2 with rfl | ⟨xs, ys, e, rfl, rfl, hl⟩
    · exact k2
    · rcases k2 with rfl | ⟨us, vs, e', h3, rfl, hl'⟩
      · exact .inr ⟨xs, ys, e, rfl, rfl, hl⟩
      · injection h3 with h3 h4 h5
        have := ints_inj h3
        subst this
        subst h4
        exact .inr ⟨xs, vs, _, rfl, rfl, by rw [hl', hl]⟩
theorem StM.le_left {lo hi : Nat} {A B C : GHeap} (h : A.Le B) (k : StM lo hi B C) (hA : A.next ≤ lo) : A.Le C :=
  ⟨Nat.le_trans h.1 k.nx, fun g o ho => k.same g o (by have := GHeap.lt_of_get ho; omega) (h.2 g o ho)⟩
theorem Keep.stM {b lo hi : Nat} {H0 H H' : GHeap} (k : Keep b H0 H) (h : StM lo hi H H') (hg : ∀ k, b ≤ k → k < H0.next → ¬ (lo ≤ k ∧ k < hi)) : Keep b H0 H' := fun g o hb h1 => h.same g o (hg g hb (GHeap.lt_of_get h1)) (k g o hb h1)

/-- A list that may be written over: its row lies among lo .. hi - 1. -/
def IntsW (lo hi : Nat) (H : GHeap) (a : Option Addr) (n : Nat) : Prop := n = 0 ∨ ∃ g e xs, a = some ⟨g, 0, none⟩ ∧ lo ≤ g ∧ g < hi ∧ H.get g = some (.row (ints xs) e true) ∧ xs.length = n
theorem IntsW.stm {lo hi : Nat} {H H' : GHeap} {a : Option Addr} {n : Nat} (h : IntsW lo hi H a n) (s : StM lo hi H H') : IntsW lo hi H' a n := by
  rcases h with h | ⟨g, e, xs, h1, h2, h3, h4, h5⟩
  · exact .inl h
  · obtain ⟨o', k1, k2⟩ := s.ins g _ h4
    rcases k2 with rfl | ⟨us, vs, e', h6, rfl, hl⟩
    · exact .inr ⟨g, e, xs, h1, h2, h3, k1, h5⟩
    · injection h6 with h6 h7 h8
      have := ints_inj h6
      subst this
      exact .inr ⟨g, e', vs, h1, h2, h3, k1, by rw [hl, h5]⟩
theorem IntsW.of_at {b : Nat} {H0 H : GHeap} {a : Option Addr} {xs : List Int} (h : IntsAt b H0 a xs) (k : Keep b H0 H) : IntsW b H0.next H a xs.length := by
  obtain ⟨g, e, h1, h2, h3⟩ := h
  exact .inr ⟨g, e, xs, h1, h2, GHeap.lt_of_get h3, k g _ h2 h3, rfl⟩
/-- A list's row, if it has one, is not below b. -/
def HdGe (b : Nat) (a : Option Addr) (n : Nat) : Prop := n = 0 ∨ ∃ g o, a = some ⟨g, o, none⟩ ∧ b ≤ g
theorem HdGe.le {b b' : Nat} {a : Option Addr} {n : Nat} (h : HdGe b a n) (hb : b' ≤ b) : HdGe b' a n := h.imp id fun ⟨g, o, h1, h2⟩ => ⟨g, o, h1, Nat.le_trans hb h2⟩
theorem SlA.keep {b b' : Nat} {H H' : GHeap} {a : Option Addr} {n : Nat} {f : Nat → Value} (h : SlA H a n f) (hd : HdGe b a n) (k : Keep b' H H') (hb : b' ≤ b) : SlA H' a n f := by
  rcases hd with h0 | ⟨g, o, rfl, hg⟩
  · exact .inl h0
  · rcases h with h0 | ⟨g', o', e, hc⟩
    · exact .inl h0
    · cases e
      refine .inr ⟨g, o, rfl, fun i hi => ?_⟩
      have h1 := hc i hi
      unfold GHeap.cell at h1 ⊢
      cases hx : H.get g with
      | none => rw [hx] at h1; cases h1
      | some x => rw [hx] at h1; rw [k g x (by omega) hx]; exact h1
def IntssW (lo hi : Nat) (H : GHeap) (a : Option Addr) (xss : List (List Int)) (r : Nat → Option Addr) : Prop :=
  SlA H a xss.length (fun i => .slice (r i) (xss.getD i []).length (xss.getD i []).length) ∧ (∀ i, i < xss.length → IntsW lo hi H (r i) (xss.getD i []).length) ∧ HdGe lo a xss.length
theorem SlA.stm {lo hi : Nat} {H H' : GHeap} {a : Option Addr} {n : Nat} {f : Nat → Value} (h : SlA H a n f) (s : StM lo hi H H') (hf : ∀ i m, f i ≠ .int .i64 m) : SlA H' a n f := by
  rcases h with h | ⟨g, o, e, h⟩
  · exact .inl h
  · refine .inr ⟨g, o, e, fun i hi => ?_⟩
    have hc := h i hi
    unfold GHeap.cell at hc ⊢
    split at hc
    · rename_i cs el own hg
      obtain ⟨o', k1, k2⟩ := s.ins g _ hg
      rw [k1]
      rcases k2 with rfl | ⟨us, vs, e', h6, rfl, hl⟩
      · exact hc
      · injection h6 with h6 h7 h8
        subst h6
        exfalso
        simp only [ints, List.getElem?_map, Option.map_eq_some_iff] at hc
        obtain ⟨m, _, hm⟩ := hc
        exact hf i m hm.symm
    · cases hc
theorem IntssW.stm {lo hi : Nat} {H H' : GHeap} {a : Option Addr} {xss : List (List Int)} {r : Nat → Option Addr} (h : IntssW lo hi H a xss r) (s : StM lo hi H H') : IntssW lo hi H' a xss r :=
  ⟨h.1.stm s fun i m e => (by cases e), fun i hi => (h.2.1 i hi).stm s, h.2.2⟩
theorem IntssW.of_at {b : Nat} {H0 H : GHeap} {a : Option Addr} {xss : List (List Int)} {r : Nat → Option Addr} (h : IntssAt b H0 a xss r) (k : Keep b H0 H) : IntssW b H0.next H a xss r :=
  ⟨(h.keep k (Nat.le_refl _)).intss.1, fun i hi => by obtain ⟨g, e, cs, _, _, _, _, _, h6⟩ := h; exact .of_at (h6 i hi) k, by obtain ⟨g, e, cs, h1, h2, _⟩ := h; exact .inr ⟨g, 0, h1, h2⟩⟩
def sumL : List (List Int) → Nat
  | [] => 0
  | xs :: r => xs.length + sumL r
theorem sumL_take_succ {xss : List (List Int)} {k : Nat} (h : k < xss.length) : sumL (xss.take (k + 1)) = sumL (xss.take k) + (xss.getD k []).length := by
  induction xss generalizing k with
  | nil => simp at h
  | cons x r ih =>
    cases k with
    | zero => simp [sumL]
    | succ k =>
      have := ih (k := k) (by simpa using h)
      simp only [List.take_succ_cons, sumL, List.getD_cons_succ]
      omega
theorem sumL_le {m : Nat} : ∀ {xss : List (List Int)}, (∀ i, (xss.getD i []).length ≤ m) → sumL xss ≤ xss.length * m
  | [], _ => by simp [sumL]
  | x :: r, h => by
    have h0 := h 0
    have := sumL_le (xss := r) fun i => by simpa using h (i + 1)
    simp only [sumL, List.length_cons, Nat.add_mul]
    simp at h0
    omega
theorem sumL_take_le {xss : List (List Int)} {k : Nat} : sumL (xss.take k) ≤ sumL xss := by
  induction xss generalizing k with
  | nil => simp
  | cons x r ih =>
    cases k with
    | zero => simp [sumL]
    | succ k => simp only [List.take_succ_cons, sumL]; have := ih (k := k); omega
def Cat.total (c : Cat) : Nat := c.src.length + (c.tgt.length + (c.idn.length + sumL c.comp))
def CatW (lo hi : Nat) (H : GHeap) (c : Cat) (p : CatP) : Prop := IntsW lo hi H p.a1 c.src.length ∧ IntsW lo hi H p.a2 c.tgt.length ∧ IntsW lo hi H p.a3 c.idn.length ∧ IntssW lo hi H p.a4 c.comp p.r
theorem CatW.stm {lo hi : Nat} {H H' : GHeap} {c : Cat} {p : CatP} (h : CatW lo hi H c p) (s : StM lo hi H H') : CatW lo hi H' c p := ⟨h.1.stm s, h.2.1.stm s, h.2.2.1.stm s, h.2.2.2.stm s⟩
theorem CatW.of_at {b : Nat} {H0 H : GHeap} {c : Cat} {p : CatP} (h : CatAt b H0 c p) (k : Keep b H0 H) : CatW b H0.next H c p := ⟨.of_at h.1 k, .of_at h.2.1 k, .of_at h.2.2.1 k, .of_at h.2.2.2 k⟩
def Fun.total (f : Fun) : Nat := f.s.total + (f.t.total + (f.ob.length + f.ar.length))
def FunW (lo hi : Nat) (H : GHeap) (f : Fun) (p : FunP) : Prop := CatW lo hi H f.s p.s ∧ CatW lo hi H f.t p.t ∧ IntsW lo hi H p.b1 f.ob.length ∧ IntsW lo hi H p.b2 f.ar.length
theorem FunW.stm {lo hi : Nat} {H H' : GHeap} {c : Fun} {p : FunP} (h : FunW lo hi H c p) (s : StM lo hi H H') : FunW lo hi H' c p := ⟨h.1.stm s, h.2.1.stm s, h.2.2.1.stm s, h.2.2.2.stm s⟩
theorem FunW.of_at {b : Nat} {H0 H : GHeap} {c : Fun} {p : FunP} (h : FunAt b H0 c p) (k : Keep b H0 H) : FunW b H0.next H c p := ⟨.of_at h.1 k, .of_at h.2.1 k, .of_at h.2.2.1 k, .of_at h.2.2.2 k⟩
def Con.total (c : Con) : Nat := c.lg.length
def ConW (lo hi : Nat) (H : GHeap) (c : Con) (p : ConP) : Prop := IntsW lo hi H p.a1 c.lg.length
theorem ConW.stm {lo hi : Nat} {H H' : GHeap} {c : Con} {p : ConP} (h : ConW lo hi H c p) (s : StM lo hi H H') : ConW lo hi H' c p := IntsW.stm h s
theorem ConW.of_at {b : Nat} {H0 H : GHeap} {c : Con} {p : ConP} (h : ConAt b H0 c p) (k : Keep b H0 H) : ConW b H0.next H c p := IntsW.of_at h k

/-! ### Results: their own rows, no two alike. -/
def seqL (k : Int) (n : Nat) : List Int := (List.range n).map fun (i : Nat) => k + (i : Int)
@[simp] theorem length_seqL (k : Int) (n : Nat) : (seqL k n).length = n := by simp [seqL]
theorem seqL_get {k : Int} {n i : Nat} (h : i < n) : (seqL k n).getD i 0 = k + i := by simp [seqL, List.getD_eq_getElem?_getD, h]
/-- A leaf: where a list of n numbers lies, and its length. -/
abbrev Leaf := Option Addr × Nat
def lvBlk : Leaf → List Nat
  | (some a, _ + 1) => [a.block]
  | _ => []
def lvBlks (ls : List Leaf) : List Nat := ls.flatMap lvBlk
def lvSum : List Leaf → Nat
  | [] => 0
  | l :: r => l.2 + lvSum r
/-- All leaves are live, from row b on. -/
def Live1 (b : Nat) (H : GHeap) (l : Leaf) : Prop := l.2 = 0 ∨ ∃ g e xs, l.1 = some ⟨g, 0, none⟩ ∧ b ≤ g ∧ H.get g = some (.row (ints xs) e true) ∧ xs.length = l.2
def Lives (b : Nat) (H : GHeap) (ls : List Leaf) : Prop := ∀ l ∈ ls, Live1 b H l
/-- The leaves hold k, k + 1, .. in order. -/
def Held (b : Nat) (H : GHeap) : List Leaf → Int → Prop
  | [], _ => True
  | l :: r, k => (l.2 = 0 ∨ ∃ g e, l.1 = some ⟨g, 0, none⟩ ∧ b ≤ g ∧ H.get g = some (.row (ints (seqL k l.2)) e true)) ∧ Held b H r (k + l.2)
theorem Held.keep0 {b : Nat} {H H' : GHeap} : ∀ {ls : List Leaf} {k : Int}, Held b H ls k → Keep b H H' → Held b H' ls k
  | [], _, _, _ => trivial
  | _ :: _, _, h, hk => ⟨h.1.imp id fun ⟨g, e, h1, h2, h3⟩ => ⟨g, e, h1, h2, hk g _ h2 h3⟩, Held.keep0 h.2 hk⟩
theorem Held.append {b : Nat} {H : GHeap} : ∀ {ls ms : List Leaf} {k : Int}, Held b H ls k → Held b H ms (k + lvSum ls) → Held b H (ls ++ ms) k
  | [], _, _, _, h => by simpa [lvSum] using h
  | l :: r, ms, k, h, h' => ⟨h.1, Held.append h.2 (by rw [show k + (l.2 : Int) + (lvSum r : Int) = k + (lvSum (l :: r) : Int) by simp [lvSum]; omega]; exact h')⟩
/-- Only rows of bs have turned. -/
structure StB (bs : List Nat) (H H' : GHeap) : Prop where
  nx : H.next ≤ H'.next
  same : ∀ k o, ¬ k ∈ bs → H.get k = some o → H'.get k = some o
theorem StB.refl (bs : List Nat) (H : GHeap) : StB bs H H := ⟨Nat.le_refl _, fun _ _ _ h => h⟩
theorem StB.trans {bs cs : List Nat} {A B C : GHeap} (h : StB bs A B) (k : StB cs B C) : StB (bs ++ cs) A C :=
  ⟨Nat.le_trans h.nx k.nx, fun g o hg ho => k.same g o (fun hc => hg (List.mem_append_right _ hc)) (h.same g o (fun hc => hg (List.mem_append_left _ hc)) ho)⟩
theorem Live1.blk {b : Nat} {H : GHeap} {l : Leaf} (h : Live1 b H l) {g : Nat} {e : TypeId} {xs : List Int} (h1 : l.1 = some ⟨g, 0, none⟩) (hn : l.2 ≠ 0) : g ∈ lvBlk l := by
  obtain ⟨a, n⟩ := l
  simp only at h1 hn
  subst h1
  cases n with
  | zero => exact absurd rfl hn
  | succ n => simp [lvBlk]
theorem Lives.stB {b : Nat} {H H' : GHeap} {ls : List Leaf} {bs : List Nat} (h : Lives b H ls) (s : StB bs H H') (hd : ∀ g ∈ lvBlks ls, ¬ g ∈ bs) : Lives b H' ls := fun l hl => by
  by_cases hn : l.2 = 0
  · exact .inl hn
  · rcases h l hl with h0 | ⟨g, e, xs, h1, h2, h3, h4⟩
    · exact .inl h0
    · exact .inr ⟨g, e, xs, h1, h2, s.same g _ (hd g (List.mem_flatMap.2 ⟨l, hl, (h l hl).blk (e := e) (xs := xs) h1 hn⟩)) h3, h4⟩
theorem Live1.keep {b : Nat} {H H' : GHeap} {l : Leaf} (h : Live1 b H l) (k : Keep b H H') : Live1 b H' l := h.imp id fun ⟨g, e, xs, h1, h2, h3, h4⟩ => ⟨g, e, xs, h1, h2, k g _ h2 h3, h4⟩
theorem Lives.keep {b : Nat} {H H' : GHeap} {ls : List Leaf} (h : Lives b H ls) (k : Keep b H H') : Lives b H' ls := fun l hl => (h l hl).keep k
theorem Held.stB {b : Nat} {H H' : GHeap} {bs : List Nat} (s : StB bs H H') : ∀ {ls : List Leaf} {k : Int}, Held b H ls k → (∀ g ∈ lvBlks ls, ¬ g ∈ bs) → Held b H' ls k
  | [], _, _, _ => trivial
  | l :: r, k, h, hd => by
    refine ⟨?_, Held.stB s h.2 fun g hg => hd g (by simp only [lvBlks, List.flatMap_cons, List.mem_append]; exact .inr hg)⟩
    by_cases hn : l.2 = 0
    · exact .inl hn
    · rcases h.1 with h0 | ⟨g, e, h1, h2, h3⟩
      · exact .inl h0
      · have hl : Live1 b H l := .inr ⟨g, e, _, h1, h2, h3, by simp⟩
        exact .inr ⟨g, e, h1, h2, s.same g _ (hd g (by simp only [lvBlks, List.flatMap_cons, List.mem_append]; exact .inl (hl.blk (e := e) (xs := seqL k l.2) h1 hn))) h3⟩
theorem Lives.app {b : Nat} {H : GHeap} {ls ms : List Leaf} (h : Lives b H ls) (h' : Lives b H ms) : Lives b H (ls ++ ms) := fun l hl => (List.mem_append.1 hl).elim (h l) (h' l)
theorem lvBlks_append (ls ms : List Leaf) : lvBlks (ls ++ ms) = lvBlks ls ++ lvBlks ms := by simp [lvBlks]
theorem lvSum_append : ∀ (ls ms : List Leaf), lvSum (ls ++ ms) = lvSum ls + lvSum ms
  | [], ms => by simp [lvSum]
  | l :: r, ms => by simp only [List.cons_append, lvSum, lvSum_append r ms]; omega

/-- A result's list: none, or a row of its own. -/
def IntsR (b : Nat) (H : GHeap) (a : Option Addr) (xs : List Int) : Prop := (xs = [] ∧ a = none) ∨ IntsAt b H a xs
theorem IntsR.keep {b b' : Nat} {H H' : GHeap} {a : Option Addr} {xs : List Int} (h : IntsR b H a xs) (k : Keep b' H H') (hb : b' ≤ b) : IntsR b' H' a xs := h.imp id fun h => h.keep k hb
theorem IntsR.ints {b : Nat} {H : GHeap} {a : Option Addr} {xs : List Int} (h : IntsR b H a xs) : Ints H a xs := by
  rcases h with ⟨rfl, _⟩ | h
  · exact .inl rfl
  · exact h.ints
theorem IntsR.live {b : Nat} {H : GHeap} {a : Option Addr} {xs : List Int} (h : IntsR b H a xs) : Live1 b H (a, xs.length) := by
  rcases h with ⟨rfl, _⟩ | ⟨g, e, h1, h2, h3⟩
  · exact .inl rfl
  · exact .inr ⟨g, e, xs, h1, h2, h3, rfl⟩
def Con.leaves (c : Con) (p : ConP) : List Leaf := [(p.a1, c.lg.length)]
def ConR (b : Nat) (H : GHeap) (c : Con) (p : ConP) : Prop := IntsR b H p.a1 c.lg
theorem ConR.keep {b b' : Nat} {H H' : GHeap} {c : Con} {p : ConP} (h : ConR b H c p) (k : Keep b' H H') (hb : b' ≤ b) : ConR b' H' c p := IntsR.keep h k hb
theorem ConR.inn {b : Nat} {H : GHeap} {c : Con} {p : ConP} (h : ConR b H c p) : c.In H p := IntsR.ints h
theorem ConR.lives {b : Nat} {H : GHeap} {c : Con} {p : ConP} (h : ConR b H c p) : Lives b H (c.leaves p) := fun l hl => by
  simp only [Con.leaves, List.mem_singleton] at hl
  subst hl
  exact h.live
theorem Con.nodup (c : Con) (p : ConP) : (lvBlks (c.leaves p)).Nodup := by
  simp only [Con.leaves, lvBlks, List.flatMap_cons, List.flatMap_nil, List.append_nil]
  unfold lvBlk
  split <;> simp
theorem Held.keep {b b' : Nat} {H H' : GHeap} {ls : List Leaf} {k : Int} (h : Held b H ls k) (hk : Keep b' H H') (hb : b' ≤ b) : Held b H' ls k := h.keep0 fun g o hg ho => hk g o (by omega) ho
theorem Held.app {b : Nat} {H : GHeap} : ∀ {ls ms : List Leaf} {k : Int}, Held b H (ls ++ ms) k → Held b H ls k ∧ Held b H ms (k + lvSum ls)
  | [], ms, k, h => ⟨trivial, by simpa [lvSum] using h⟩
  | l :: r, ms, k, h => by
    obtain ⟨h1, h2⟩ := Held.app (ls := r) h.2
    exact ⟨⟨h.1, h1⟩, by rw [show k + (lvSum (l :: r) : Int) = k + (l.2 : Int) + (lvSum r : Int) by simp [lvSum]; omega]; exact h2⟩
theorem Held.ints {b : Nat} {H : GHeap} {a : Option Addr} {n : Nat} {k : Int} (h : Held b H [(a, n)] k) : Ints H a (seqL k n) := by
  rcases h.1 with h0 | ⟨g, e, h1, h2, h3⟩
  · simp only at h0; subst h0; exact .inl (by simp)
  · simp only at h1 h3; subst h1; exact Ints.of_get h3

/-- What marking leaves. -/
structure Marked (lo hi : Nat) (H H' : GHeap) (ls : List Leaf) (k : Int) : Prop where
  stm : StM lo hi H H'
  stb : StB (lvBlks ls) H H'
  held : (lvBlks ls).Nodup → Held lo H' ls k
theorem Marked.nil (lo hi : Nat) (H : GHeap) (k : Int) : Marked lo hi H H [] k := ⟨.refl _ _ _, .refl _ _, fun _ => trivial⟩
theorem Marked.app {lo hi : Nat} {A B C : GHeap} {ls ms : List Leaf} {k : Int} (h : Marked lo hi A B ls k) (h' : Marked lo hi B C ms (k + lvSum ls)) : Marked lo hi A C (ls ++ ms) k where
  stm := h.stm.trans h'.stm
  stb := by rw [lvBlks_append]; exact h.stb.trans h'.stb
  held := fun nd => by
    rw [lvBlks_append, List.nodup_append] at nd
    exact ((h.held nd.1).stB h'.stb fun g hg hg' => nd.2.2 g hg g hg' rfl).append (h'.held nd.2.1)
theorem Marked.le_left {lo hi : Nat} {A B C : GHeap} {ls : List Leaf} {k : Int} (h : A.Le B) (m : Marked lo hi B C ls k) : Marked lo hi A C ls k :=
  ⟨⟨Nat.le_trans h.1 m.stm.nx, fun g o hg ho => m.stm.same g o hg (h.2 g o ho), fun g o ho => m.stm.ins g o (h.2 g o ho)⟩, ⟨Nat.le_trans h.1 m.stb.nx, fun g o hg ho => m.stb.same g o hg (h.2 g o ho)⟩, m.held⟩
theorem Marked.one {lo hi g : Nat} {H H' : GHeap} {e : TypeId} {xs : List Int} {k : Int} (hlo : lo ≤ g) (hhi : g < hi) (h0 : H.get g = some (.row (ints xs) e true)) (s : St [g] H H') (h1 : H'.get g = some (.row (ints (seqL k xs.length)) e true)) (hn : xs.length ≠ 0) :
    Marked lo hi H H' [(some ⟨g, 0, none⟩, xs.length)] k where
  stm := ⟨s.nx, fun i o hi ho => s.same i o ⟨by omega, trivial⟩ ho, fun i o ho => by
    by_cases hi : i = g
    · subst hi
      rw [h0] at ho; cases ho
      exact ⟨_, h1, .inr ⟨xs, seqL k xs.length, e, rfl, rfl, by simp⟩⟩
    · exact ⟨o, s.same i o ⟨hi, trivial⟩ ho, .inl rfl⟩⟩
  stb := ⟨s.nx, fun i o hi ho => s.same i o ⟨fun e' => hi (by
    subst e'
    cases hx : xs.length with
    | zero => exact absurd hx hn
    | succ m => simp [lvBlks, lvBlk]), trivial⟩ ho⟩
  held := fun _ => ⟨.inr ⟨g, e, rfl, hlo, h1⟩, trivial⟩
def rowsL (r : Nat → Option Addr) (xss : List (List Int)) (n : Nat) : List Leaf := (List.range n).map fun i => (r i, (xss.getD i []).length)
theorem rowsL_succ (r : Nat → Option Addr) (xss : List (List Int)) (n : Nat) : rowsL r xss (n + 1) = rowsL r xss n ++ [(r n, (xss.getD n []).length)] := by simp [rowsL, List.range_succ]
theorem lvSum_rowsL (r : Nat → Option Addr) (xss : List (List Int)) : ∀ n, n ≤ xss.length → lvSum (rowsL r xss n) = sumL (xss.take n)
  | 0, _ => by simp [rowsL, lvSum, sumL]
  | n + 1, h => by rw [rowsL_succ, lvSum_append, lvSum_rowsL r xss n (by omega), sumL_take_succ (by omega)]; simp [lvSum]
def Cat.leaves (c : Cat) (p : CatP) : List Leaf := [(p.a1, c.src.length)] ++ ([(p.a2, c.tgt.length)] ++ ([(p.a3, c.idn.length)] ++ rowsL p.r c.comp c.comp.length))
theorem Cat.lvSum_leaves (c : Cat) (p : CatP) : lvSum (c.leaves p) = c.total := by
  simp only [Cat.leaves, lvSum_append, lvSum, lvSum_rowsL p.r c.comp _ (Nat.le_refl _), List.take_length, Cat.total, Nat.add_zero]
def Fun.leaves (f : Fun) (p : FunP) : List Leaf := f.s.leaves p.s ++ (f.t.leaves p.t ++ ([(p.b1, f.ob.length)] ++ [(p.b2, f.ar.length)]))
theorem Fun.lvSum_leaves (c : Fun) (p : FunP) : lvSum (c.leaves p) = c.total := by
  simp only [Fun.leaves, lvSum_append, lvSum, Cat.lvSum_leaves, Fun.total, Nat.add_zero]
theorem Con.lvSum_leaves (c : Con) (p : ConP) : lvSum (c.leaves p) = c.total := by simp [Con.leaves, lvSum, Con.total]
theorem Cat.total_le {c : Cat} (h : c.Small) : c.total ≤ 3 * 1048576 + 1048576 * 1048576 := by
  obtain ⟨h1, h2, h3, h4, h5, _⟩ := h
  have := sumL_le (m := 1048576) h5
  have h6 : c.comp.length * 1048576 ≤ 1048576 * 1048576 := Nat.mul_le_mul_right _ h4
  unfold Cat.total
  omega
theorem Marked.app' {lo hi : Nat} {A B C : GHeap} {ls ms : List Leaf} {k k' : Int} (h : Marked lo hi A B ls k) (h' : Marked lo hi B C ms k') (e : k' = k + lvSum ls) : Marked lo hi A C (ls ++ ms) k := by subst e; exact h.app h'
theorem IntsW.of_r {b : Nat} {H0 H : GHeap} {a : Option Addr} {xs : List Int} (h : IntsR b H0 a xs) (k : Keep b H0 H) : IntsW b H0.next H a xs.length := by
  rcases h with ⟨rfl, _⟩ | h
  · exact .inl rfl
  · exact .of_at h k
theorem ConW.of_r {b : Nat} {H0 H : GHeap} {c : Con} {p : ConP} (h : ConR b H0 c p) (k : Keep b H0 H) : ConW b H0.next H c p := IntsW.of_r h k
theorem IntsW.keep {lo lo' hi : Nat} {H H' : GHeap} {a : Option Addr} {n : Nat} (h : IntsW lo hi H a n) (k : Keep lo' H H') (hb : lo' ≤ lo) : IntsW lo hi H' a n := h.imp id fun ⟨g, e, xs, h1, h2, h3, h4, h5⟩ => ⟨g, e, xs, h1, h2, h3, k g _ (by omega) h4, h5⟩
theorem IntssW.keep {lo lo' hi : Nat} {H H' : GHeap} {a : Option Addr} {xss : List (List Int)} {r : Nat → Option Addr} (h : IntssW lo hi H a xss r) (k : Keep lo' H H') (hb : lo' ≤ lo) : IntssW lo hi H' a xss r := ⟨h.1.keep h.2.2 k hb, fun i hi => (h.2.1 i hi).keep k hb, h.2.2⟩
theorem CatW.keep {lo lo' hi : Nat} {H H' : GHeap} {c : Cat} {p : CatP} (h : CatW lo hi H c p) (k : Keep lo' H H') (hb : lo' ≤ lo) : CatW lo hi H' c p := ⟨h.1.keep k hb, h.2.1.keep k hb, h.2.2.1.keep k hb, h.2.2.2.keep k hb⟩
theorem FunW.keep {lo lo' hi : Nat} {H H' : GHeap} {c : Fun} {p : FunP} (h : FunW lo hi H c p) (k : Keep lo' H H') (hb : lo' ≤ lo) : FunW lo hi H' c p := ⟨h.1.keep k hb, h.2.1.keep k hb, h.2.2.1.keep k hb, h.2.2.2.keep k hb⟩
theorem ConW.keep {lo lo' hi : Nat} {H H' : GHeap} {c : Con} {p : ConP} (h : ConW lo hi H c p) (k : Keep lo' H H') (hb : lo' ≤ lo) : ConW lo hi H' c p := IntsW.keep h k hb
theorem Cat.Small.tot {c : Cat} (h : c.Small) : c.total ≤ 3 * 1048576 + 1048576 * 1048576 := Cat.total_le h
theorem Fun.Small.tot {c : Fun} (h : c.Small) : c.total ≤ 8 * 1048576 + 2 * 1048576 * 1048576 := by
  obtain ⟨h1, h2, h3, h4⟩ := h
  have := h1.tot
  have := h2.tot
  unfold Fun.total
  omega
theorem Con.Small.tot {c : Con} (h : c.Small) : c.total ≤ 1048576 := by
  obtain ⟨_, h2⟩ := h
  unfold Con.total
  omega
end Go.GL
/- Writing over lists, and finding again what was written. No condition but those of each statement. -/
namespace Go.Proofs.Ytnohkokoimmclaa
open Go Go.GL Go.RowKit Go.Proofs
theorem heldRow {b : Nat} {H : GHeap} {r : Nat → Option Addr} {xss : List (List Int)} {k : Int} : ∀ {n : Nat}, n ≤ xss.length → Held b H (rowsL r xss n) k → ∀ i, i < n → Held b H [(r i, (xss.getD i []).length)] (k + sumL (xss.take i))
  | 0, _, _, i, hi => by omega
  | n + 1, hn, h, i, hi => by
    rw [rowsL_succ] at h
    obtain ⟨h1, h2⟩ := h.app
    rw [lvSum_rowsL _ _ _ (by omega)] at h2
    by_cases e : i = n
    · subst e; exact h2
    · exact heldRow (by omega) h1 i (by omega)
end Go.Proofs.Ytnohkokoimmclaa
/- The smallest of the laws' helpers, told for the larger ones. No condition but those of each statement. -/
namespace Go.Proofs.Ytnohkokoimmclaa
open Go Go.GL Go.RowKit Go.Proofs
theorem szInt64S_s {a : Option Addr} {xs : List Int} {left : Int} {H : GHeap} (hx : xs.length ≤ 9223372036854775807 := by omega) (h0 : 0 ≤ left := by omega) (h1 : left ≤ 1048576 := by omega) :
    GCalls Try.prog 32 [.slice a xs.length xs.length, .int .i64 left] H (SzR left (xs.length ≤ 1048576) H) :=
  (szInt64S_c hx h0 h1).mono fun _ _ ⟨e, l, h2, h3, h4, h5⟩ => ⟨e, l, h2, h3, h4, fun h => by have := h5 h; omega⟩
theorem szInt64SS_s {a : Option Addr} {xss : List (List Int)} {r : Nat → Option Addr} {left : Int} {H : GHeap} (h : Intss H a xss r := by assumption) (hx : xss.length ≤ 9223372036854775807 := by omega) (hy : ∀ i, I64s (xss.getD i []) := by assumption) (h0 : 0 ≤ left := by omega) (h1 : left ≤ 1048576 := by omega) :
    GCalls Try.prog 50 [.slice a xss.length xss.length, .int .i64 left] H (SzR left (xss.length ≤ 1048576 ∧ ∀ i, (xss.getD i []).length ≤ 1048576) H) :=
  (szInt64SS_c h hx hy h0 h1).mono fun _ _ ⟨e, l, h2, h3, h4, h5⟩ => ⟨e, l, h2, h3, h4, fun h => ⟨by have := (h5 h).1; omega, fun i => by have := (h5 h).2 i; omega⟩⟩
end Go.Proofs.Ytnohkokoimmclaa
/- The laws' helpers for Cone. No condition but those of each statement. -/
namespace Go.Proofs.Ytnohkokoimmclaa
open Go Go.GL Go.RowKit Go.Proofs
theorem sz_51_VCon : (Try.prog.info? 51).map (·.size) = some 2 := by kernel_rfl
theorem fo_51_1_VCon : fieldOff Try.prog 51 1 = some 1 := by kernel_rfl
theorem ze_55_VCon : zeroT Try.prog 55 = some ([.int .i64 0, .slice none 0 0], 2) := by kernel_rfl
theorem fo_51_0_VCon : fieldOff Try.prog 51 0 = some 0 := by kernel_rfl
theorem fo_55_0_VCon : fieldOff Try.prog 55 0 = some 0 := by kernel_rfl
theorem fo_55_1_VCon : fieldOff Try.prog 55 1 = some 1 := by kernel_rfl
theorem ag_55_VCon : aggT Try.prog 55 = some 2 := by kernel_rfl
theorem sz_55_VCon : (Try.prog.info? 55).map (·.size) = some 2 := by kernel_rfl
theorem szCone_c {c : Con} {p : ConP} {left : Int} {H : GHeap} (hin : c.In H p := by assumption) (hw : c.Wide := by assumption) (h0 : 0 ≤ left := by omega) (h1 : left ≤ 1048576 := by omega) :
    GCalls Try.prog 26 [.agg (c.cells p).toArray, .int .i64 left] H (SzR left c.Small H) := by
  refine SzR.of ?_
  obtain ⟨⟨wa0, wb0⟩, ⟨wa1, _⟩⟩ := hw
  refine GCalls.body (N := 12) (rs := [.tmp 4]) Try.func26 rfl rfl rfl rfl (fun Qx hret hend => ?_)
  refine .forget (fr' := [(0, some _), (1, some _)]) ⟨rfl, rfl, trivial⟩ ?_
  have hle := GHeap.Le.refl H
  have base_hin := hin
  refine .seq (fun K1 hK1 => ?_)
  refine .region ?_
  refine .r rfl rfl rfl (.boxR rfl sz_51_VCon rfl) ?_
  rintro _ H2 ⟨g2, rfl, le2, ge2, at2⟩
  have nx_H2 := le2.1
  replace hle := hle.trans le2
  have lt_at2 := GHeap.lt_of_get at2
  replace hin := base_hin.mono hle
  have hb2 : Con.At _ g2 0 c p := ⟨Mem.of_get at2, hin⟩
  obtain ⟨c02, c12, i12⟩ := hb2.get
  have hm2 : MemN _ _ _ _ _ := ⟨rfl, hb2.1⟩
  have hi2 := hb2.2
  refine .m rfl rfl rfl (.assign rfl) (.nil ?_)
  refine hK1 _ _ ?_
  refine .seq (fun K2 hK2 => ?_)
  refine .region (.m rfl rfl rfl (.fieldAddr fo_51_1_VCon rfl) ?_)
  refine .m rfl rfl rfl (.load on_22_B rfl (by first | assumption | exact Mem.of_get at2 1 _ rfl)) ?_
  refine .m rfl rfl rfl (.move rfl) ?_
  refine .call rfl rfl rfl rfl @Try.call32 rfl (szInt64S_s) ?_
  rintro _ _ ⟨heq, lf8, rfl, z18, z28, z38⟩
  obtain rfl := heq.symm
  refine .m rfl rfl rfl (.assign rfl) (.nil ?_)
  refine hK2 _ _ ?_
  refine .seq (fun K3 hK3 => ?_)
  refine .seq (fun K4 hK4 => ?_)
  refine .region (.m rfl rfl rfl (.move rfl) (.m rfl rfl rfl (.cmp rfl rfl rfl) (.nil ?_)))
  refine hK4 _ _ ?_
  refine .cond rfl (fun h10 => ?_) (fun h10 => ?_)
  ·
   try simp only [sps] at h10
   refine .seq (fun K5 hK5 => ?_)
   refine .region (.m rfl rfl rfl (.assign rfl) (.nil ?_))
   refine hK5 _ _ ?_
   refine .ret ?_
   refine hret _ _ ?_
   refine ⟨_, rfl, ?_⟩
   first
   | exact ⟨hle, _, rfl, by omega, by omega, fun h => by omega⟩
   | exact ⟨hle, _, rfl, by omega, by omega, fun h => ⟨⟨by omega, by omega⟩, by assumption⟩⟩
  try simp only [sps] at h10
  have hsm8 := z38 (by omega)
  refine .skip ?_
  refine hK3 _ _ ?_
  refine .seq (fun K6 hK6 => ?_)
  refine .region (.m rfl rfl rfl (.move rfl) (.m rfl rfl rfl (.assign rfl) (.nil ?_)))
  refine hK6 _ _ ?_
  refine .ret ?_
  refine hret _ _ ?_
  refine ⟨_, rfl, ?_⟩
  first
  | exact ⟨hle, _, rfl, by omega, by omega, fun h => by omega⟩
  | exact ⟨hle, _, rfl, by omega, by omega, fun h => ⟨⟨by omega, by omega⟩, by assumption⟩⟩
set_option maxHeartbeats 4000000 in
theorem toCone_c {c : Con} {p : ConP} {H : GHeap} (hin : c.In H p := by assumption) (hs : c.Small := by assumption) : GCalls Try.prog 28 [.agg (c.cells p).toArray] H (NewCon H c) := by
  obtain ⟨⟨wa0, wb0⟩, w1⟩ := hs
  refine GCalls.body (N := 12) (rs := [.cell 2 55]) Try.func28 rfl rfl rfl rfl (fun Qx hret hend => ?_)
  refine .forget (fr' := [(0, some _)]) ⟨rfl, trivial⟩ ?_
  have hle := GHeap.Le.refl H
  have base_hin := hin
  refine .seq (fun K1 hK1 => ?_)
  refine .region ?_
  refine .r rfl rfl rfl (.boxR rfl sz_51_VCon rfl) ?_
  rintro _ H1 ⟨g1, rfl, le1, ge1, at1⟩
  have nx_H1 := le1.1
  replace hle := hle.trans le1
  have lt_at1 := GHeap.lt_of_get at1
  replace hin := base_hin.mono hle
  have hb1 : Con.At _ g1 0 c p := ⟨Mem.of_get at1, hin⟩
  obtain ⟨c01, c11, i11⟩ := hb1.get
  have hm1 : MemN _ _ _ _ _ := ⟨rfl, hb1.1⟩
  have hi1 := hb1.2
  refine .r rfl rfl rfl (.allocR rfl ze_55_VCon rfl) ?_
  rintro _ H2 ⟨g2, rfl, le2, ge2, at2⟩
  have nx_H2 := le2.1
  replace hle := hle.trans le2
  replace at1 := le2.2 _ _ at1
  have lt_at2 := GHeap.lt_of_get at2
  replace hin := base_hin.mono hle
  clear hb1 c01 c11 i11 hm1 hi1
  have hb1 : Con.At _ g1 0 c p := ⟨Mem.of_get at1, hin⟩
  obtain ⟨c01, c11, i11⟩ := hb1.get
  have hm1 : MemN _ _ _ _ _ := ⟨rfl, hb1.1⟩
  have hi1 := hb1.2
  refine .nil ?_
  refine hK1 _ _ ?_
  refine .seq (fun K2 hK2 => ?_)
  refine .region ?_
  refine .r rfl rfl rfl (.allocR rfl ze_55_VCon rfl) ?_
  rintro _ H3 ⟨g3, rfl, le3, ge3, at3⟩
  have nx_H3 := le3.1
  replace hle := hle.trans le3
  replace at1 := le3.2 _ _ at1
  replace at2 := le3.2 _ _ at2
  have lt_at3 := GHeap.lt_of_get at3
  replace hin := base_hin.mono hle
  clear hb1 c01 c11 i11 hm1 hi1
  have hb1 : Con.At _ g1 0 c p := ⟨Mem.of_get at1, hin⟩
  obtain ⟨c01, c11, i11⟩ := hb1.get
  have hm1 : MemN _ _ _ _ _ := ⟨rfl, hb1.1⟩
  have hi1 := hb1.2
  refine .nil ?_
  refine hK2 _ _ ?_
  refine .seq (fun K3 hK3 => ?_)
  refine .region (.m rfl rfl rfl (.fieldAddr fo_51_0_VCon rfl) ?_)
  refine .m rfl rfl rfl (.load on_2_A rfl (by first | assumption | exact Mem.of_get at1 0 _ rfl)) ?_
  refine .m rfl rfl rfl (.fieldAddr fo_55_0_VCon rfl) ?_
  refine .r0 rfl rfl (.storeR rfl sz_2_E rfl rfl rfl (by assumption) (by first | exact Nat.le_of_ble_eq_true rfl | (simp; done) | (simp <;> omega))) ?_
  rintro _ H2003 ⟨rfl, st2003, at2003⟩
  have nx_H2003 := st2003.nx
  replace hle := hle.st st2003 (fun k hk => ⟨by omega, trivial⟩)
  replace at1 := st2003.same _ _ ⟨by omega, trivial⟩ at1
  replace at2 := st2003.same _ _ ⟨by omega, trivial⟩ at2
  have lt_at2003 := GHeap.lt_of_get at2003
  replace hin := base_hin.mono hle
  clear hb1 c01 c11 i11 hm1 hi1
  have hb1 : Con.At _ g1 0 c p := ⟨Mem.of_get at1, hin⟩
  obtain ⟨c01, c11, i11⟩ := hb1.get
  have hm1 : MemN _ _ _ _ _ := ⟨rfl, hb1.1⟩
  have hi1 := hb1.2
  try simp only [Nat.zero_add, List.set_cons_succ, List.set_cons_zero] at at2003
  refine .nil ?_
  refine hK3 _ _ ?_
  refine .seq (fun K4 hK4 => ?_)
  refine .region (.m rfl rfl rfl (.fieldAddr fo_51_1_VCon rfl) ?_)
  refine .m rfl rfl rfl (.load on_22_B rfl (by first | assumption | exact Mem.of_get at1 1 _ rfl)) ?_
  refine .call rfl rfl rfl rfl @Try.call36 rfl (toInt64S_c) ?_
  rintro _ H9 ⟨le9, g9, rfl, at9, ge9⟩
  have nx_H9 := le9.1
  replace hle := hle.trans le9
  replace at1 := le9.2 _ _ at1
  replace at2 := le9.2 _ _ at2
  replace at2003 := le9.2 _ _ at2003
  have lt_at9 := GHeap.lt_of_get at9
  replace hin := base_hin.mono hle
  clear hb1 c01 c11 i11 hm1 hi1
  have hb1 : Con.At _ g1 0 c p := ⟨Mem.of_get at1, hin⟩
  obtain ⟨c01, c11, i11⟩ := hb1.get
  have hm1 : MemN _ _ _ _ _ := ⟨rfl, hb1.1⟩
  have hi1 := hb1.2
  have i9 := Ints.of_get at9
  refine .m rfl rfl rfl (.fieldAddr fo_55_1_VCon rfl) ?_
  refine .r0 rfl rfl (.storeR rfl sz_22_E rfl rfl rfl (by assumption) (by first | exact Nat.le_of_ble_eq_true rfl | (simp; done) | (simp <;> omega))) ?_
  rintro _ H3004 ⟨rfl, st3004, at3004⟩
  have nx_H3004 := st3004.nx
  replace hle := hle.st st3004 (fun k hk => ⟨by omega, trivial⟩)
  replace at1 := st3004.same _ _ ⟨by omega, trivial⟩ at1
  replace at2 := st3004.same _ _ ⟨by omega, trivial⟩ at2
  replace at9 := st3004.same _ _ ⟨by omega, trivial⟩ at9
  have lt_at3004 := GHeap.lt_of_get at3004
  replace hin := base_hin.mono hle
  clear hb1 c01 c11 i11 hm1 hi1
  have hb1 : Con.At _ g1 0 c p := ⟨Mem.of_get at1, hin⟩
  obtain ⟨c01, c11, i11⟩ := hb1.get
  have hm1 : MemN _ _ _ _ _ := ⟨rfl, hb1.1⟩
  have hi1 := hb1.2
  clear i9
  have i9 := Ints.of_get at9
  try simp only [Nat.zero_add, List.set_cons_succ, List.set_cons_zero] at at3004
  refine .nil ?_
  refine hK4 _ _ ?_
  refine .seq (fun K5 hK5 => ?_)
  refine .region ?_
  refine .m rfl rfl rfl (.loadM ag_55_VCon rfl ⟨rfl, Mem.of_get at3004⟩) ?_
  refine .r0 rfl rfl (.fillR rfl sz_55_VCon rfl rfl rfl rfl (by assumption) (by first | rfl | exact Nat.le_of_ble_eq_true rfl | simp)) ?_
  rintro _ H4001 ⟨rfl, st4001, at4001⟩
  have nx_H4001 := st4001.nx
  replace hle := hle.st st4001 (fun k hk => ⟨by omega, trivial⟩)
  replace at1 := st4001.same _ _ ⟨by omega, trivial⟩ at1
  replace at9 := st4001.same _ _ ⟨by omega, trivial⟩ at9
  replace at3004 := st4001.same _ _ ⟨by omega, trivial⟩ at3004
  have lt_at4001 := GHeap.lt_of_get at4001
  replace hin := base_hin.mono hle
  clear hb1 c01 c11 i11 hm1 hi1
  have hb1 : Con.At _ g1 0 c p := ⟨Mem.of_get at1, hin⟩
  obtain ⟨c01, c11, i11⟩ := hb1.get
  have hm1 : MemN _ _ _ _ _ := ⟨rfl, hb1.1⟩
  have hi1 := hb1.2
  clear i9
  have i9 := Ints.of_get at9
  have mm4001 : MemN _ _ _ _ _ := ⟨rfl, Mem.of_get at4001⟩
  refine .nil ?_
  refine hK5 _ _ ?_
  refine .ret ?_
  refine hret _ _ ?_
  refine ⟨_, _, _, _, rfl, ag_55_VCon, (by rfl), (Mem.of_get at4001), ?_⟩
  exact ⟨hle, ⟨some ⟨g9, 0, none⟩⟩, rfl, ⟨g9, _, rfl, by omega, at9⟩⟩
set_option maxHeartbeats 4000000 in
theorem eqCone_c {c : Con} {p p' : ConP} {H : GHeap} (hin : c.In H p := by assumption) (hin' : c.In H p' := by assumption) (hs : c.Small := by assumption) : GCalls Try.prog 30 [.agg (c.cells p).toArray, .agg (c.cells p').toArray] H (Ret (.bool true) H) := by
  refine GCalls.ret rfl ?_
  obtain ⟨⟨wa0, wb0⟩, w1⟩ := hs
  refine GCalls.body (N := 16) (rs := [.tmp 4]) Try.func30 rfl rfl rfl rfl (fun Qx hret hend => ?_)
  refine .forget (fr' := [(0, some _), (1, some _)]) ⟨rfl, rfl, trivial⟩ ?_
  have hle := GHeap.Le.refl H
  have base_hin := hin
  have base_hin' := hin'
  refine .seq (fun K1 hK1 => ?_)
  refine .region ?_
  refine .r rfl rfl rfl (.boxR rfl sz_55_VCon rfl) ?_
  rintro _ H2 ⟨g2, rfl, le2, ge2, at2⟩
  have nx_H2 := le2.1
  replace hle := hle.trans le2
  have lt_at2 := GHeap.lt_of_get at2
  replace hin := base_hin.mono hle
  replace hin' := base_hin'.mono hle
  have hb2 : Con.At _ g2 0 c p := ⟨Mem.of_get at2, hin⟩
  obtain ⟨c02, c12, i12⟩ := hb2.get
  have hm2 : MemN _ _ _ _ _ := ⟨rfl, hb2.1⟩
  have hi2 := hb2.2
  refine .r rfl rfl rfl (.boxR rfl sz_55_VCon rfl) ?_
  rintro _ H3 ⟨g3, rfl, le3, ge3, at3⟩
  have nx_H3 := le3.1
  replace hle := hle.trans le3
  replace at2 := le3.2 _ _ at2
  have lt_at3 := GHeap.lt_of_get at3
  replace hin := base_hin.mono hle
  replace hin' := base_hin'.mono hle
  clear hb2 c02 c12 i12 hm2 hi2
  have hb2 : Con.At _ g2 0 c p := ⟨Mem.of_get at2, hin⟩
  obtain ⟨c02, c12, i12⟩ := hb2.get
  have hm2 : MemN _ _ _ _ _ := ⟨rfl, hb2.1⟩
  have hi2 := hb2.2
  have hb3 : Con.At _ g3 0 c p' := ⟨Mem.of_get at3, hin'⟩
  obtain ⟨c03, c13, i13⟩ := hb3.get
  have hm3 : MemN _ _ _ _ _ := ⟨rfl, hb3.1⟩
  have hi3 := hb3.2
  refine .m rfl rfl rfl (.assign rfl) (.nil ?_)
  refine hK1 _ _ ?_
  refine .seq (fun K2 hK2 => ?_)
  refine .seq (fun K3 hK3 => ?_)
  refine .region (.m rfl rfl rfl (.fieldAddr fo_55_0_VCon rfl) ?_)
  refine .m rfl rfl rfl (.load on_2_A rfl (by first | assumption | exact Mem.of_get at2 0 _ rfl)) ?_
  refine .m rfl rfl rfl (.fieldAddr fo_55_0_VCon rfl) ?_
  refine .m rfl rfl rfl (.load on_2_A rfl (by first | assumption | exact Mem.of_get at3 0 _ rfl)) ?_
  refine .m rfl rfl rfl (.cmp rfl rfl rfl) (.nil ?_)
  refine hK3 _ _ ?_
  refine .cond rfl (fun h9 => ?_) (fun h9 => ?_)
  ·
   try simp only [sps] at h9
   refine .seq (fun K4 hK4 => ?_)
   refine .region (.m rfl rfl rfl (.assign rfl) (.nil ?_))
   refine hK4 _ _ ?_
   refine .ret ?_
   refine hret _ _ ?_
   refine ⟨_, rfl, ?_⟩
   first
   | exact ⟨rfl, hle⟩
   | exact absurd trivial (by assumption)
   | contradiction
   | (exfalso; omega)
   | (exfalso; simp_all)
  try simp only [sps] at h9
  refine .skip ?_
  refine hK2 _ _ ?_
  refine .seq (fun K5 hK5 => ?_)
  refine .seq (fun K6 hK6 => ?_)
  refine .region (.m rfl rfl rfl (.fieldAddr fo_55_1_VCon rfl) ?_)
  refine .m rfl rfl rfl (.load on_22_B rfl (by first | assumption | exact Mem.of_get at2 1 _ rfl)) ?_
  refine .m rfl rfl rfl (.fieldAddr fo_55_1_VCon rfl) ?_
  refine .m rfl rfl rfl (.load on_22_B rfl (by first | assumption | exact Mem.of_get at3 1 _ rfl)) ?_
  refine .callQ rfl rfl rfl rfl @Try.call18 rfl (eqInt64S_c) ?_
  refine .m rfl rfl rfl (.not rfl) (.nil ?_)
  refine hK6 _ _ ?_
  refine .cond rfl (fun h15 => ?_) (fun h15 => ?_)
  ·
   try simp only [sps] at h15
   refine .seq (fun K7 hK7 => ?_)
   refine .region (.m rfl rfl rfl (.assign rfl) (.nil ?_))
   refine hK7 _ _ ?_
   refine .ret ?_
   refine hret _ _ ?_
   refine ⟨_, rfl, ?_⟩
   first
   | exact ⟨rfl, hle⟩
   | exact absurd trivial (by assumption)
   | contradiction
   | (exfalso; omega)
   | (exfalso; simp_all)
  try simp only [sps] at h15
  refine .skip ?_
  refine hK5 _ _ ?_
  refine .seq (fun K8 hK8 => ?_)
  refine .region (.m rfl rfl rfl (.assign rfl) (.nil ?_))
  refine hK8 _ _ ?_
  refine .ret ?_
  refine hret _ _ ?_
  refine ⟨_, rfl, ?_⟩
  first
  | exact ⟨rfl, hle⟩
  | exact absurd trivial (by assumption)
  | contradiction
  | (exfalso; omega)
  | (exfalso; simp_all)
end Go.Proofs.Ytnohkokoimmclaa
/- Cones over functors. No condition. -/
namespace Go.GL

structure Fun.Cone (d : Fun) (p : Con) : Prop where
  ap : 0 ≤ p.ap ∧ p.ap < d.t.obj
  ll : p.lg.length = d.ob.length
  lg : ∀ j, j < p.lg.length → 0 ≤ p.lg.getD j 0 ∧ p.lg.getD j 0 < d.t.src.length
  ends : ∀ j, j < p.lg.length → d.t.src.getD (p.lg.getD j 0).toNat 0 = p.ap ∧ d.t.tgt.getD (p.lg.getD j 0).toNat 0 = d.ob.getD j 0
  tri : ∀ a, a < d.ar.length → d.t.th (p.lg.getD (d.s.src.getD a 0).toNat 0) (d.ar.getD a 0) = p.lg.getD (d.s.tgt.getD a 0).toNat 0
/-- Where arrow a of a functor goes. -/
theorem Fun.Is.arr {f : Fun} (h : f.Is) {a : Nat} (ha : a < f.ar.length) : 0 ≤ f.s.src.getD a 0 ∧ f.s.src.getD a 0 < f.ob.length ∧ 0 ≤ f.s.tgt.getD a 0 ∧ f.s.tgt.getD a 0 < f.ob.length ∧ 0 ≤ f.ar.getD a 0 ∧ f.ar.getD a 0 < f.t.src.length ∧
    f.t.src.getD (f.ar.getD a 0).toNat 0 = f.ob.getD (f.s.src.getD a 0).toNat 0 ∧ f.t.tgt.getD (f.ar.getD a 0).toNat 0 = f.ob.getD (f.s.tgt.getD a 0).toNat 0 := by
  have hS := h.1.1
  have q0 := h.2.2.al
  have q1 := hS.src a (by omega)
  have q2 := hS.tgt a (by have := hS.tl; omega)
  have q3 := h.2.2.ol
  have q4 := h.2.2.ar a ha
  have q5 := h.2.2.ends a ha
  omega
def Fun.image (f : Fun) (p : Con) : Con := ⟨f.ob.getD p.ap.toNat 0, thenL p.lg f.ar⟩
def Con.zero : Con := ⟨0, []⟩
/-- What ImageCone hands back. -/
noncomputable def imageConeR (d : Fun) (p : Con) (f : Fun) : Con := bif B (d.Is ∧ f.Is) then (bif B (d.Cone p ∧ d.t = f.s) then f.image p else Con.zero) else Con.zero
noncomputable def imageConeC (d : Fun) (p : Con) (f : Fun) : Int := bif B (d.Is ∧ f.Is) then (bif B (d.Cone p ∧ d.t = f.s) then 0 else 5) else 1
theorem imageCone_1 {d f : Fun} {m : Con} (h : ¬ (d.Is ∧ f.Is)) : imageConeR d m f = Con.zero ∧ imageConeC d m f = 1 := by
  unfold imageConeR imageConeC; rw [B_false h]; exact ⟨rfl, rfl⟩
theorem imageCone_2 {d f : Fun} {m : Con} (h : d.Is ∧ f.Is) (h' : ¬ (d.Cone m ∧ d.t = f.s)) : imageConeR d m f = Con.zero ∧ imageConeC d m f = 5 := by
  unfold imageConeR imageConeC; rw [B_true h, B_false h']; exact ⟨rfl, rfl⟩
theorem imageCone_3 {d f : Fun} {m : Con} (h : d.Is ∧ f.Is) (h' : d.Cone m ∧ d.t = f.s) : imageConeR d m f = f.image m ∧ imageConeC d m f = 0 := by
  unfold imageConeR imageConeC; rw [B_true h, B_true h']; exact ⟨rfl, rfl⟩
theorem imageConeR_total {d f : Fun} {m : Con} : (imageConeR d m f).total ≤ m.total := by
  unfold imageConeR Fun.image Con.zero Con.total
  cases B (d.Is ∧ f.Is) <;> cases B (d.Cone m ∧ d.t = f.s) <;> simp
theorem imageConeR_small {d f : Fun} {m : Con} (hw : f.Wide) (hs : m.Small) : (imageConeR d m f).Small := by
  have h1 := hw.2.2.1.2 m.ap.toNat
  unfold imageConeR
  cases B (d.Is ∧ f.Is) <;> cases B (d.Cone m ∧ d.t = f.s)
  · exact ⟨⟨by simp [Con.zero], by simp [Con.zero]⟩, by simp [Con.zero]⟩
  · exact ⟨⟨by simp [Con.zero], by simp [Con.zero]⟩, by simp [Con.zero]⟩
  · exact ⟨⟨by simp [Con.zero], by simp [Con.zero]⟩, by simp [Con.zero]⟩
  · exact ⟨h1, by simp only [cond_true, Fun.image, length_thenL]; exact hs.2⟩
end Go.GL
/- Cones and their images. No condition but those of each statement. -/
namespace Go.Proofs.Ytnohkokoimmclaa
open Go Go.GL Go.RowKit Go.Proofs
theorem l02Object_c {c : Cat} {p : CatP} {x : Int} {H : GHeap} (hin : c.In H p := by assumption) : GCalls Try.prog 91 [.agg (c.cells p).toArray, .int .i64 x] H (Ret (.bool (B (0 ≤ x ∧ x < c.obj))) H) := by
  refine GCalls.ret rfl ?_
  refine GCalls.body (N := 13) (rs := [.tmp 4]) Try.func91 rfl rfl rfl rfl (fun Qx hret hend => ?_)
  refine .forget (fr' := [(0, some _), (1, some _)]) ⟨rfl, rfl, trivial⟩ ?_
  have hle := GHeap.Le.refl H
  have base_hin := hin
  refine .seq (fun K1 hK1 => ?_)
  refine .region ?_
  refine .r rfl rfl rfl (.boxR rfl sz_31_D rfl) ?_
  rintro _ H2 ⟨g2, rfl, le2, ge2, at2⟩
  have nx_H2 := le2.1
  replace hle := hle.trans le2
  have lt_at2 := GHeap.lt_of_get at2
  replace hin := base_hin.mono hle
  have hb2 : Cat.At _ g2 0 c p := ⟨Mem.of_get at2, hin⟩
  obtain ⟨c02, c12, c22, c32, c42, i12, i22, i32, i42⟩ := hb2.get
  have hm2 : MemN _ _ _ _ _ := ⟨rfl, hb2.1⟩
  have hi2 := hb2.2
  refine .m rfl rfl rfl (.assign rfl) (.nil ?_)
  refine hK1 _ _ ?_
  refine .seq (fun K2 hK2 => ?_)
  refine .region (.m rfl rfl rfl (.move rfl) (.m rfl rfl rfl (.cmp rfl rfl rfl) (.m rfl rfl rfl (.move rfl) ?_)))
  refine .split (fun h7 => ?_) (fun h7 => ?_)
  ·
   try simp only [sps] at h7
   refine .mg rfl rfl rfl rfl rfl (.move rfl) (.mg rfl rfl rfl rfl rfl (.fieldAddr fo_31_0_B rfl) ?_)
   refine .mg rfl rfl rfl rfl rfl (.load on_2_A rfl (by first | assumption | exact Mem.of_get at2 0 _ rfl)) ?_
   refine .mg rfl rfl rfl rfl rfl (.cmp rfl rfl rfl) (.m rfl rfl rfl (.pickT rfl rfl) (.m rfl rfl rfl (.assign rfl) (.nil ?_)))
   refine hK2 _ _ ?_
   refine .ret ?_
   refine hret _ _ ?_
   refine ⟨_, rfl, ?_⟩
   first
   | exact ⟨congrArg _ (B_false fun hh => by omega), hle⟩
   | exact ⟨congrArg _ (by rw [Bool.eq_iff_iff, B_iff, decide_eq_true_eq]; omega), hle⟩
  try simp only [sps] at h7
  refine .sg rfl rfl rfl rfl rfl (.sg rfl rfl rfl rfl rfl (.sg rfl rfl rfl rfl rfl (.sg rfl rfl rfl rfl rfl ?_)))
  refine .m rfl rfl rfl (.pickF rfl rfl) (.m rfl rfl rfl (.assign rfl) (.nil ?_))
  refine hK2 _ _ ?_
  refine .ret ?_
  refine hret _ _ ?_
  refine ⟨_, rfl, ?_⟩
  first
  | exact ⟨congrArg _ (B_false fun hh => by omega), hle⟩
  | exact ⟨congrArg _ (by rw [Bool.eq_iff_iff, B_iff, decide_eq_true_eq]; omega), hle⟩
theorem isCone_c {g o : Nat} {d : Fun} {p : FunP} {m : Con} {q : ConP} {H : GHeap} (h : Fun.At H g o d p := by assumption) (hin : m.In H q := by assumption) (hI : d.Is := by assumption) (hs : m.Small := by assumption) :
    GCalls Try.prog 94 [.pointer (some ⟨g, o, none⟩), .agg (m.cells q).toArray] H (Ret (.bool (B (d.Cone m))) H) := by
  refine GCalls.ret rfl ?_
  have hS := hI.2.1.1
  have hSs := hI.1.1
  refine GCalls.body (N := 103) (rs := [.tmp 4]) Try.func94 rfl rfl rfl rfl (fun Qx hret hend => ?_)
  refine .forget (fr' := [(0, some _), (1, some _)]) ⟨rfl, rfl, trivial⟩ ?_
  have hle := GHeap.Le.refl H
  have base_h := h
  have base_hin := hin
  obtain ⟨fs, ft, c10, c11, j1, j2⟩ := h.get
  have hm : MemN _ _ _ _ _ := ⟨rfl, h.1⟩
  have hi := h.2
  have hms : MemN _ _ _ _ _ := ⟨rfl, fs.1⟩
  have his := fs.2
  have hmt : MemN _ _ _ _ _ := ⟨rfl, ft.1⟩
  have hit := ft.2
  obtain ⟨t0, t1, t2, t3, t4, ti1, ti2, ti3, ti4⟩ := ft.get
  obtain ⟨s0, s1, s2, s3, s4, si1, si2, si3, si4⟩ := fs.get
  obtain ⟨⟨w0, w1⟩, w2⟩ := hs
  have q1 := hS.tl
  have q2 := hS.n40
  have q3 := hS.obj
  have q4 := hS.cl
  have q5 := hI.2.2.al
  have q6 := hSs.n40
  have q7 := hSs.tl
  refine .seq (fun K1 hK1 => ?_)
  refine .region ?_
  refine .r rfl rfl rfl (.boxR rfl sz_55_VCon rfl) ?_
  rintro _ H3 ⟨g3, rfl, le3, ge3, at3⟩
  have nx_H3 := le3.1
  replace hle := hle.trans le3
  have lt_at3 := GHeap.lt_of_get at3
  replace h := base_h.mono hle
  replace hin := base_hin.mono hle
  clear fs ft c10 c11 j1 j2 hm hi hms his hmt hit t0 t1 t2 t3 t4 ti1 ti2 ti3 ti4 s0 s1 s2 s3 s4 si1 si2 si3 si4
  obtain ⟨fs, ft, c10, c11, j1, j2⟩ := h.get
  have hm : MemN _ _ _ _ _ := ⟨rfl, h.1⟩
  have hi := h.2
  have hms : MemN _ _ _ _ _ := ⟨rfl, fs.1⟩
  have his := fs.2
  have hmt : MemN _ _ _ _ _ := ⟨rfl, ft.1⟩
  have hit := ft.2
  obtain ⟨t0, t1, t2, t3, t4, ti1, ti2, ti3, ti4⟩ := ft.get
  obtain ⟨s0, s1, s2, s3, s4, si1, si2, si3, si4⟩ := fs.get
  have hb3 : Con.At _ g3 0 m q := ⟨Mem.of_get at3, hin⟩
  obtain ⟨c03, c13, i13⟩ := hb3.get
  have hm3 : MemN _ _ _ _ _ := ⟨rfl, hb3.1⟩
  have hi3 := hb3.2
  refine .m rfl rfl rfl (.assign rfl) (.nil ?_)
  refine hK1 _ _ ?_
  refine .seq (fun K2 hK2 => ?_)
  refine .region (.m rfl rfl rfl (.move rfl) (.m rfl rfl rfl (.nilCheck rfl) (.m rfl rfl rfl (.fieldAddr fo_33_1_E rfl) ?_)))
  refine .m rfl rfl rfl (.assign rfl) (.nil ?_)
  refine hK2 _ _ ?_
  refine .seq (fun K3 hK3 => ?_)
  refine .seq (fun K4 hK4 => ?_)
  refine .regionD mixed_orders_B (.q 0 (.q 1 (.q 2 (.q 3 (.q 4 (.q 5 (.q 6 (.c 7 0 (.q 8 (.q 9 (.q 10 (.q 11 (.q 12 (.q 13 (.q 14 (.q 15 (.q 16 (.q 17 (.q 18 (.q 19 (.q 20 (.q 21 (.q 22 (.q 23 (.c 24 1 (.c 25 0 (.q 26 (.q 27 (.done))))))))))))))))))))))))))))) (by kernel_rfl) ?_
  refine .m rfl rfl rfl rfl (.refl _) (.fieldAddr fo_55_0_VCon rfl) ?_
  refine .m rfl rfl rfl rfl (.refl _) (.load on_2_A rfl (by first | assumption | exact Mem.of_get at3 0 _ rfl)) ?_
  refine .m rfl rfl rfl rfl (.refl _) (.move rfl) (.m rfl rfl rfl rfl (.refl _) (.nilCheck rfl) (.m rfl rfl rfl rfl (.refl _) (.fieldAddr fo_31_0_B rfl) ?_))
  refine .m rfl rfl rfl rfl (.refl _) (.load on_2_A rfl (by assumption)) ?_
  refine .m rfl rfl rfl rfl (.refl _) (.sub rfl rfl rfl (by omega) (by omega)) ?_
  refine .callQ0 rfl rfl rfl rfl rfl @Try.call108 rfl (inRange_c) ?_
  refine .m rfl rfl rfl rfl (.refl _) (.not rfl) (.m rfl rfl rfl rfl (.refl _) (.move rfl) ?_)
  refine .split (fun h22 => ?_) (fun h22 => ?_)
  ·
   try simp only [sps] at h22
   refine .sg rfl rfl rfl rfl rfl rfl (.sg rfl rfl rfl rfl rfl rfl (.sg rfl rfl rfl rfl rfl rfl (.sg rfl rfl rfl rfl rfl rfl ?_)))
   refine .sg rfl rfl rfl rfl rfl rfl (.sg rfl rfl rfl rfl rfl rfl (.sg rfl rfl rfl rfl rfl rfl (.sg rfl rfl rfl rfl rfl rfl ?_)))
   refine .sg rfl rfl rfl rfl rfl rfl (.m rfl rfl rfl rfl (.refl _) (.pickT rfl rfl) (.m rfl rfl rfl rfl (.refl _) (.move rfl) (.sg rfl rfl rfl rfl rfl rfl ?_)))
   refine .sg rfl rfl rfl rfl rfl rfl (.sg rfl rfl rfl rfl rfl rfl (.sgc rfl rfl rfl rfl rfl rfl (.sgc rfl rfl rfl rfl rfl rfl ?_)))
   refine .sg rfl rfl rfl rfl rfl rfl (.m rfl rfl rfl rfl (.refl _) (.pickT rfl rfl) ?_)
   refine .done ?_
   refine hK4 _ _ ?_
   refine .condT rfl ?_
   refine .seq (fun K5 hK5 => ?_)
   refine .region (.m rfl rfl rfl (.assign rfl) (.nil ?_))
   refine hK5 _ _ ?_
   refine .ret ?_
   refine hret _ _ ?_
   refine ⟨_, rfl, ?_⟩
   exact ⟨congrArg _ (B_false fun hh => by have := hh.ap; omega), hle⟩
  simp only [inR_iff, Bool.not_eq_false'] at h22
  refine .mg rfl rfl rfl rfl rfl rfl (.refl _) (.fieldAddr fo_55_1_VCon rfl) ?_
  refine .mg rfl rfl rfl rfl rfl rfl (.refl _) (.load on_22_B rfl (by first | assumption | exact Mem.of_get at3 1 _ rfl)) ?_
  refine .mg rfl rfl rfl rfl rfl rfl (.refl _) (.len sl_22_A rfl) (.mg rfl rfl rfl rfl rfl rfl (.refl _) (.move rfl) (.mg rfl rfl rfl rfl rfl rfl (.refl _) (.nilCheck rfl) (.mg rfl rfl rfl rfl rfl rfl (.refl _) (.fieldAddr fo_33_2_E rfl) ?_)))
  refine .mg rfl rfl rfl rfl rfl rfl (.refl _) (.load on_22_B rfl (by assumption)) ?_
  refine .mg rfl rfl rfl rfl rfl rfl (.refl _) (.len sl_22_A rfl) (.mg rfl rfl rfl rfl rfl rfl (.refl _) (.cmp rfl rfl rfl) (.m rfl rfl rfl rfl (.refl _) (.pickF rfl rfl) (.m rfl rfl rfl rfl (.refl _) (.move rfl) ?_)))
  refine .split (fun h33 => ?_) (fun h33 => ?_)
  ·
   try simp only [sps] at h33
   refine .sg rfl rfl rfl rfl rfl rfl (.sg rfl rfl rfl rfl rfl rfl (.sg rfl rfl rfl rfl rfl rfl (.sgc rfl rfl rfl rfl rfl rfl ?_)))
   refine .sgc rfl rfl rfl rfl rfl rfl (.sg rfl rfl rfl rfl rfl rfl (.m rfl rfl rfl rfl (.refl _) (.pickT rfl rfl) ?_))
   refine .done ?_
   refine hK4 _ _ ?_
   refine .condT rfl ?_
   refine .seq (fun K6 hK6 => ?_)
   refine .region (.m rfl rfl rfl (.assign rfl) (.nil ?_))
   refine hK6 _ _ ?_
   refine .ret ?_
   refine hret _ _ ?_
   refine ⟨_, rfl, ?_⟩
   exact ⟨congrArg _ (B_false fun hh => by have := hh.ll; omega), hle⟩
  simp only [sps] at h33
  refine .mg rfl rfl rfl rfl rfl rfl (.refl _) (.fieldAddr fo_55_1_VCon rfl) ?_
  refine .mg rfl rfl rfl rfl rfl rfl (.refl _) (.load on_22_B rfl (by first | assumption | exact Mem.of_get at3 1 _ rfl)) ?_
  refine .mg rfl rfl rfl rfl rfl rfl (.refl _) (.move rfl) ?_
  refine .callQ1g rfl rfl rfl rfl rfl rfl rfl @Try.call87 rfl (arrows_c) (.refl _) ?_
  refine .callQ0g rfl rfl rfl rfl rfl rfl rfl @Try.call88 rfl (within_c) ?_
  refine .mg rfl rfl rfl rfl rfl rfl (.refl _) (.not rfl) (.m rfl rfl rfl rfl (.refl _) (.pickF rfl rfl) ?_)
  refine .done ?_
  refine hK4 _ _ ?_
  refine .cond rfl (fun h40 => ?_) (fun h40 => ?_)
  ·
   try simp only [sps] at h40
   refine .seq (fun K7 hK7 => ?_)
   refine .region (.m rfl rfl rfl (.assign rfl) (.nil ?_))
   refine hK7 _ _ ?_
   refine .ret ?_
   refine hret _ _ ?_
   refine ⟨_, rfl, ?_⟩
   exact ⟨congrArg _ (B_false fun hh => by rw [allIn_iff.2 hh.lg] at h40; cases h40), hle⟩
  simp only [sps] at h40
  refine .skip ?_
  refine hK3 _ _ ?_
  refine .seq (fun K8 hK8 => ?_)
  refine .seq (fun K9 hK9 => ?_)
  refine .region (.m rfl rfl rfl (.fieldAddr fo_55_1_VCon rfl) ?_)
  refine .m rfl rfl rfl (.load on_22_B rfl (by first | assumption | exact Mem.of_get at3 1 _ rfl)) ?_
  refine .m rfl rfl rfl (.len sl_22_A rfl) (.m rfl rfl rfl (.move rfl) (.nil ?_))
  refine hK9 _ _ ?_
  refine .block ?_
  refine .loopR (σ := Nat) [(0, some _), (3, some _), (5, some _), (42, some _), (43, some _)] (fun k => [(44, some (.int .i64 (k : Int)))]) (fun k H' => H3 = H' ∧ (k : Int) ≤ m.lg.length ∧ ∀ j, j < k → d.t.src.getD (m.lg.getD j 0).toNat 0 = m.ap ∧ d.t.tgt.getD (m.lg.getD j 0).toNat 0 = d.ob.getD j 0) (fun k => (m.lg.length - k : Int).toNat) (0) ⟨rfl, rfl, rfl, rfl, rfl, trivial⟩ ⟨rfl, trivial⟩ ?_ ?_
  ·
   refine ⟨rfl, ?_⟩
   exact ⟨by omega, fun _ _ => by omega⟩
  rintro k _ ⟨rfl, hI⟩ KL1 hKL1
  refine .forget (fr' := [(44, some (.int .i64 (k : Int))), (0, some _), (3, some _), (5, some _), (42, some _), (43, some _)]) ⟨rfl, rfl, rfl, rfl, rfl, rfl, trivial⟩ ?_
  obtain ⟨hk1, ha1⟩ := hI
  refine .seq (fun K10 hK10 => ?_)
  refine .region (.m rfl rfl rfl (.cmp rfl rfl rfl) (.nil ?_))
  refine hK10 _ _ ?_
  refine .seq (fun K11 hK11 => ?_)
  refine .cond rfl (fun h45 => ?_) (fun h45 => ?_)
  ·
   simp only [sps] at h45
   have r1 := h40 k (by omega)
   refine .skip ?_
   refine hK11 _ _ ?_
   refine .seq (fun K12 hK12 => ?_)
   refine .block ?_
   refine .seq (fun K13 hK13 => ?_)
   refine .region (.m rfl rfl rfl (.move rfl) ?_)
   refine .m rfl rfl rfl (.idxN sl_22_A (by assumption) rfl rfl (by omega)) ?_
   refine .m rfl rfl rfl (.loadI on_2_A (by assumption) rfl (by omega)) ?_
   refine .m rfl rfl rfl (.assign rfl) (.m rfl rfl rfl (.assign rfl) (.nil ?_))
   refine hK13 _ _ ?_
   refine .seq (fun K14 hK14 => ?_)
   refine .regionD mixed_orders_B (.q 0 (.q 1 (.q 3 (.q 4 (.q 5 (.q 6 (.q 7 (.q 8 (.q 9 (.q 10 (.q 11 (.q 12 (.c 2 1 (.q 13 (.done))))))))))))))) (by kernel_rfl) ?_
   refine .m rfl rfl rfl rfl (.refl _) (.move rfl) (.m rfl rfl rfl rfl (.refl _) (.move rfl) (.m rfl rfl rfl rfl (.refl _) (.fieldAddr fo_55_0_VCon rfl) ?_))
   refine .m rfl rfl rfl rfl (.refl _) (.load on_2_A rfl (by first | assumption | exact Mem.of_get at3 0 _ rfl)) ?_
   refine .m rfl rfl rfl rfl (.refl _) (.move rfl) (.m rfl rfl rfl rfl (.refl _) (.nilCheck rfl) (.m rfl rfl rfl rfl (.refl _) (.fieldAddr fo_33_2_E rfl) ?_))
   refine .m rfl rfl rfl rfl (.refl _) (.load on_22_B rfl (by assumption)) ?_
   refine .m rfl rfl rfl rfl (.refl _) (.move rfl) ?_
   refine .m rfl rfl rfl rfl (.refl _) (.idxN sl_22_A (by assumption) rfl rfl (by omega)) ?_
   refine .m rfl rfl rfl rfl (.refl _) (.loadI on_2_A (by assumption) rfl (by omega)) ?_
   refine .m rfl rfl rfl rfl (.refl _) (.build bt_133_B rfl rfl rfl) ?_
   refine .callQ1 rfl rfl rfl rfl rfl @Try.call110 rfl (ends_c) (.refl _) ?_
   refine .m rfl rfl rfl rfl (.refl _) (.aggNe eg_133_B rfl rfl rfl rfl (aggEq_133 _ _ _ _)) ?_
   refine .done ?_
   refine hK14 _ _ ?_
   refine .cond rfl (fun h62 => ?_) (fun h62 => ?_)
   ·
    try simp only [sps] at h62
    refine .seq (fun K15 hK15 => ?_)
    refine .region (.m rfl rfl rfl (.assign rfl) (.nil ?_))
    refine hK15 _ _ ?_
    refine .ret ?_
    refine hret _ _ ?_
    refine ⟨_, rfl, ?_⟩
    exact ⟨congrArg _ (B_false fun hh => by have := hh.ends k (by omega); omega), hle⟩
   try simp only [sps] at h62
   refine .skip ?_
   refine hK12 _ _ ?_
   refine .region ?_
   refine .m rfl rfl rfl (.add rfl rfl rfl (by omega) (by omega)) ?_
   refine .m rfl rfl rfl (.move rfl) (.nil ?_)
   refine hKL1 (k + 1) _ _ ?_ ?_ ⟨rfl, rfl, rfl, rfl, rfl, rfl, trivial⟩
   ·
    refine ⟨rfl, ?_⟩
    refine ⟨by omega, fun j hx => ?_⟩
    by_cases hltq : j < k
    · exact ha1 j hltq
    · obtain rfl : j = k := by omega
      omega
   omega
  try simp only [sps] at h45
  refine .exit ?_
  refine hK8 _ _ ?_
  refine .seq (fun K16 hK16 => ?_)
  refine .seq (fun K17 hK17 => ?_)
  refine .region (.m rfl rfl rfl (.move rfl) (.m rfl rfl rfl (.nilCheck rfl) (.m rfl rfl rfl (.fieldAddr fo_33_3_E rfl) ?_)))
  refine .m rfl rfl rfl (.load on_22_B rfl (by assumption)) ?_
  refine .m rfl rfl rfl (.len sl_22_A rfl) (.m rfl rfl rfl (.move rfl) (.nil ?_))
  refine hK17 _ _ ?_
  refine .block ?_
  refine .loopR (σ := Nat) [(0, some _), (3, some _), (5, some _), (67, some _), (68, some _)] (fun a => [(69, some (.int .i64 (a : Int)))]) (fun a H' => H3 = H' ∧ (a : Int) ≤ d.ar.length ∧ ∀ a', a' < a → d.t.th (m.lg.getD (d.s.src.getD a' 0).toNat 0) (d.ar.getD a' 0) = m.lg.getD (d.s.tgt.getD a' 0).toNat 0) (fun a => (d.ar.length - a : Int).toNat) (0) ⟨rfl, rfl, rfl, rfl, rfl, trivial⟩ ⟨rfl, trivial⟩ ?_ ?_
  ·
   refine ⟨rfl, ?_⟩
   exact ⟨by omega, fun _ _ => by omega⟩
  rintro a _ ⟨rfl, hI⟩ KL2 hKL2
  refine .forget (fr' := [(69, some (.int .i64 (a : Int))), (0, some _), (3, some _), (5, some _), (67, some _), (68, some _)]) ⟨rfl, rfl, rfl, rfl, rfl, rfl, trivial⟩ ?_
  obtain ⟨hk2, ha2⟩ := hI
  refine .seq (fun K18 hK18 => ?_)
  refine .region (.m rfl rfl rfl (.cmp rfl rfl rfl) (.nil ?_))
  refine hK18 _ _ ?_
  refine .seq (fun K19 hK19 => ?_)
  refine .cond rfl (fun h70 => ?_) (fun h70 => ?_)
  ·
   simp only [sps] at h70
   have r1 := hI.arr (a := a) (by omega)
   have r2 := h40 (d.s.src.getD a 0).toNat (by omega)
   have r3 := h40 (d.s.tgt.getD a 0).toNat (by omega)
   refine .skip ?_
   refine hK19 _ _ ?_
   refine .seq (fun K20 hK20 => ?_)
   refine .block ?_
   refine .seq (fun K21 hK21 => ?_)
   refine .region (.m rfl rfl rfl (.move rfl) ?_)
   refine .m rfl rfl rfl (.idxN sl_22_A (by assumption) rfl rfl (by omega)) ?_
   refine .m rfl rfl rfl (.loadI on_2_A (by assumption) rfl (by omega)) ?_
   refine .m rfl rfl rfl (.assign rfl) (.m rfl rfl rfl (.assign rfl) (.nil ?_))
   refine hK21 _ _ ?_
   refine .seq (fun K22 hK22 => ?_)
   refine .regionD mixed_orders_B (.q 0 (.q 1 (.q 2 (.q 3 (.q 4 (.q 5 (.q 6 (.q 7 (.q 8 (.q 9 (.q 10 (.q 11 (.q 12 (.q 13 (.q 15 (.q 16 (.q 17 (.q 18 (.q 19 (.q 20 (.q 21 (.q 22 (.q 23 (.q 24 (.q 25 (.q 26 (.c 14 1 (.q 27 (.done))))))))))))))))))))))))))))) (by kernel_rfl) ?_
   refine .m rfl rfl rfl rfl (.refl _) (.move rfl) (.m rfl rfl rfl rfl (.refl _) (.fieldAddr fo_55_1_VCon rfl) ?_)
   refine .m rfl rfl rfl rfl (.refl _) (.load on_22_B rfl (by first | assumption | exact Mem.of_get at3 1 _ rfl)) ?_
   refine .m rfl rfl rfl rfl (.refl _) (.move rfl) (.m rfl rfl rfl rfl (.refl _) (.nilCheck rfl) (.m rfl rfl rfl rfl (.refl _) (.fieldAddr fo_33_0_E rfl) (.m rfl rfl rfl rfl (.refl _) (.fieldAddr fo_31_1_B rfl) ?_)))
   refine .m rfl rfl rfl rfl (.refl _) (.load on_22_B rfl (by assumption)) ?_
   refine .m rfl rfl rfl rfl (.refl _) (.move rfl) ?_
   refine .m rfl rfl rfl rfl (.refl _) (.idxN sl_22_A (by assumption) rfl rfl (by omega)) ?_
   refine .m rfl rfl rfl rfl (.refl _) (.loadI on_2_A (by assumption) rfl (by omega)) ?_
   refine .m rfl rfl rfl rfl (.refl _) (.idx1 sl_22_A (by assumption) rfl rfl (by omega) (by omega)) ?_
   refine .m rfl rfl rfl rfl (.refl _) (.loadI on_2_A (by assumption) rfl (by omega)) ?_
   refine .m rfl rfl rfl rfl (.refl _) (.move rfl) (.m rfl rfl rfl rfl (.refl _) (.fieldAddr fo_55_1_VCon rfl) ?_)
   refine .m rfl rfl rfl rfl (.refl _) (.load on_22_B rfl (by first | assumption | exact Mem.of_get at3 1 _ rfl)) ?_
   refine .m rfl rfl rfl rfl (.refl _) (.move rfl) (.m rfl rfl rfl rfl (.refl _) (.nilCheck rfl) (.m rfl rfl rfl rfl (.refl _) (.fieldAddr fo_33_0_E rfl) (.m rfl rfl rfl rfl (.refl _) (.fieldAddr fo_31_2_B rfl) ?_)))
   refine .m rfl rfl rfl rfl (.refl _) (.load on_22_B rfl (by assumption)) ?_
   refine .m rfl rfl rfl rfl (.refl _) (.move rfl) ?_
   refine .m rfl rfl rfl rfl (.refl _) (.idxN sl_22_A (by assumption) rfl rfl (by omega)) ?_
   refine .m rfl rfl rfl rfl (.refl _) (.loadI on_2_A (by assumption) rfl (by omega)) ?_
   refine .m rfl rfl rfl rfl (.refl _) (.idx1 sl_22_A (by assumption) rfl rfl (by omega) (by omega)) ?_
   refine .m rfl rfl rfl rfl (.refl _) (.loadI on_2_A (by assumption) rfl (by omega)) ?_
   refine .callQ1 rfl rfl rfl rfl rfl @Try.call82 rfl (then_s) (.refl _) ?_
   refine .m rfl rfl rfl rfl (.refl _) (.cmp rfl rfl rfl) ?_
   refine .done ?_
   refine hK22 _ _ ?_
   refine .cond rfl (fun h101 => ?_) (fun h101 => ?_)
   ·
    try simp only [sps] at h101
    refine .seq (fun K23 hK23 => ?_)
    refine .region (.m rfl rfl rfl (.assign rfl) (.nil ?_))
    refine hK23 _ _ ?_
    refine .ret ?_
    refine hret _ _ ?_
    refine ⟨_, rfl, ?_⟩
    exact ⟨congrArg _ (B_false fun hh => h101 (hh.tri a (by omega))), hle⟩
   try simp only [sps] at h101
   refine .skip ?_
   refine hK20 _ _ ?_
   refine .region ?_
   refine .m rfl rfl rfl (.add rfl rfl rfl (by omega) (by omega)) ?_
   refine .m rfl rfl rfl (.move rfl) (.nil ?_)
   refine hKL2 (a + 1) _ _ ?_ ?_ ⟨rfl, rfl, rfl, rfl, rfl, rfl, trivial⟩
   ·
    refine ⟨rfl, ?_⟩
    refine ⟨by omega, fun a' hx => ?_⟩
    by_cases hltq : a' < a
    · exact ha2 a' hltq
    · obtain rfl : a' = a := by omega
      exact h101
   omega
  try simp only [sps] at h70
  refine .exit ?_
  refine hK16 _ _ ?_
  refine .seq (fun K24 hK24 => ?_)
  refine .region (.m rfl rfl rfl (.assign rfl) (.nil ?_))
  refine hK24 _ _ ?_
  refine .ret ?_
  refine hret _ _ ?_
  refine ⟨_, rfl, ?_⟩
  exact ⟨congrArg _ (B_true ⟨by omega, by omega, h40, fun j hj => ha1 j (by omega), fun a ha => ha2 a (by omega)⟩), hle⟩
theorem l12Cone_c {d : Fun} {p : FunP} {m : Con} {q : ConP} {H : GHeap} (hin : d.In H p := by assumption) (hin' : m.In H q := by assumption) (hI : d.Is := by assumption) (hs : m.Small := by assumption) :
    GCalls Try.prog 70 [.agg (d.cells p).toArray, .agg (m.cells q).toArray] H (Ret (.bool (B (d.Cone m))) H) := by
  refine GCalls.ret rfl ?_
  have hS := hI.2.1.1
  have hSs := hI.1.1
  refine GCalls.body (N := 104) (rs := [.tmp 4]) Try.func70 rfl rfl rfl rfl (fun Qx hret hend => ?_)
  refine .forget (fr' := [(0, some _), (1, some _)]) ⟨rfl, rfl, trivial⟩ ?_
  have hle := GHeap.Le.refl H
  have base_hin := hin
  have base_hin' := hin'
  obtain ⟨⟨w0, w1⟩, w2⟩ := hs
  have q1 := hS.tl
  have q2 := hS.n40
  have q3 := hS.obj
  have q4 := hS.cl
  have q5 := hI.2.2.al
  have q6 := hSs.n40
  have q7 := hSs.tl
  refine .seq (fun K1 hK1 => ?_)
  refine .region ?_
  refine .r rfl rfl rfl (.boxR rfl sz_33_E rfl) ?_
  rintro _ H2 ⟨g2, rfl, le2, ge2, at2⟩
  have nx_H2 := le2.1
  replace hle := hle.trans le2
  have lt_at2 := GHeap.lt_of_get at2
  replace hin := base_hin.mono hle
  replace hin' := base_hin'.mono hle
  have hb2 : Fun.At _ g2 0 d p := ⟨Mem.of_get at2, hin⟩
  obtain ⟨fs2, ft2, c102, c112, j12, j22⟩ := hb2.get
  have hm2 : MemN _ _ _ _ _ := ⟨rfl, hb2.1⟩
  have hi2 := hb2.2
  have hms2 : MemN _ _ _ _ _ := ⟨rfl, fs2.1⟩
  have his2 := fs2.2
  have hmt2 : MemN _ _ _ _ _ := ⟨rfl, ft2.1⟩
  have hit2 := ft2.2
  refine .r rfl rfl rfl (.boxR rfl sz_55_VCon rfl) ?_
  rintro _ H3 ⟨g3, rfl, le3, ge3, at3⟩
  have nx_H3 := le3.1
  replace hle := hle.trans le3
  replace at2 := le3.2 _ _ at2
  have lt_at3 := GHeap.lt_of_get at3
  replace hin := base_hin.mono hle
  replace hin' := base_hin'.mono hle
  clear hb2 fs2 ft2 c102 c112 j12 j22 hm2 hi2 hms2 his2 hmt2 hit2
  have hb2 : Fun.At _ g2 0 d p := ⟨Mem.of_get at2, hin⟩
  obtain ⟨fs2, ft2, c102, c112, j12, j22⟩ := hb2.get
  have hm2 : MemN _ _ _ _ _ := ⟨rfl, hb2.1⟩
  have hi2 := hb2.2
  have hms2 : MemN _ _ _ _ _ := ⟨rfl, fs2.1⟩
  have his2 := fs2.2
  have hmt2 : MemN _ _ _ _ _ := ⟨rfl, ft2.1⟩
  have hit2 := ft2.2
  have hb3 : Con.At _ g3 0 m q := ⟨Mem.of_get at3, hin'⟩
  obtain ⟨c03, c13, i13⟩ := hb3.get
  have hm3 : MemN _ _ _ _ _ := ⟨rfl, hb3.1⟩
  have hi3 := hb3.2
  refine .m rfl rfl rfl (.assign rfl) (.nil ?_)
  refine hK1 _ _ ?_
  refine .seq (fun K2 hK2 => ?_)
  refine .region (.m rfl rfl rfl (.fieldAddr fo_33_1_E rfl) ?_)
  refine .m rfl rfl rfl (.loadM ag_31_D rfl (by assumption)) ?_
  refine .r rfl rfl rfl (.allocR rfl ze_31_E rfl) ?_
  rintro _ H5 ⟨g5, rfl, le5, ge5, at5⟩
  have nx_H5 := le5.1
  replace hle := hle.trans le5
  replace at2 := le5.2 _ _ at2
  replace at3 := le5.2 _ _ at3
  have lt_at5 := GHeap.lt_of_get at5
  replace hin := base_hin.mono hle
  replace hin' := base_hin'.mono hle
  clear hb2 fs2 ft2 c102 c112 j12 j22 hm2 hi2 hms2 his2 hmt2 hit2
  have hb2 : Fun.At _ g2 0 d p := ⟨Mem.of_get at2, hin⟩
  obtain ⟨fs2, ft2, c102, c112, j12, j22⟩ := hb2.get
  have hm2 : MemN _ _ _ _ _ := ⟨rfl, hb2.1⟩
  have hi2 := hb2.2
  have hms2 : MemN _ _ _ _ _ := ⟨rfl, fs2.1⟩
  have his2 := fs2.2
  have hmt2 : MemN _ _ _ _ _ := ⟨rfl, ft2.1⟩
  have hit2 := ft2.2
  clear hb3 c03 c13 i13 hm3 hi3
  have hb3 : Con.At _ g3 0 m q := ⟨Mem.of_get at3, hin'⟩
  obtain ⟨c03, c13, i13⟩ := hb3.get
  have hm3 : MemN _ _ _ _ _ := ⟨rfl, hb3.1⟩
  have hi3 := hb3.2
  refine .r0 rfl rfl (.fillR rfl sz_31_D rfl rfl rfl rfl (by assumption) (by first | rfl | exact Nat.le_of_ble_eq_true rfl | simp)) ?_
  rintro _ H1003 ⟨rfl, st1003, at1003⟩
  have nx_H1003 := st1003.nx
  replace hle := hle.st st1003 (fun k hk => ⟨by omega, trivial⟩)
  replace at2 := st1003.same _ _ ⟨by omega, trivial⟩ at2
  replace at3 := st1003.same _ _ ⟨by omega, trivial⟩ at3
  have lt_at1003 := GHeap.lt_of_get at1003
  replace hin := base_hin.mono hle
  replace hin' := base_hin'.mono hle
  clear hb2 fs2 ft2 c102 c112 j12 j22 hm2 hi2 hms2 his2 hmt2 hit2
  have hb2 : Fun.At _ g2 0 d p := ⟨Mem.of_get at2, hin⟩
  obtain ⟨fs2, ft2, c102, c112, j12, j22⟩ := hb2.get
  have hm2 : MemN _ _ _ _ _ := ⟨rfl, hb2.1⟩
  have hi2 := hb2.2
  have hms2 : MemN _ _ _ _ _ := ⟨rfl, fs2.1⟩
  have his2 := fs2.2
  have hmt2 : MemN _ _ _ _ _ := ⟨rfl, ft2.1⟩
  have hit2 := ft2.2
  clear hb3 c03 c13 i13 hm3 hi3
  have hb3 : Con.At _ g3 0 m q := ⟨Mem.of_get at3, hin'⟩
  obtain ⟨c03, c13, i13⟩ := hb3.get
  have hm3 : MemN _ _ _ _ _ := ⟨rfl, hb3.1⟩
  have hi3 := hb3.2
  have mm1003 : MemN _ _ _ _ _ := ⟨rfl, Mem.of_get at1003⟩
  have hb5 : Cat.At _ g5 0 d.t p.t := ⟨Mem.of_get at1003, hit2⟩
  obtain ⟨c05, c15, c25, c35, c45, i15, i25, i35, i45⟩ := hb5.get
  have hm5 : MemN _ _ _ _ _ := ⟨rfl, hb5.1⟩
  have hi5 := hb5.2
  refine .nil ?_
  refine hK2 _ _ ?_
  refine .seq (fun K3 hK3 => ?_)
  refine .seq (fun K4 hK4 => ?_)
  refine .region ?_
  obtain ⟨s0, s1, s2, s3, s4, si1, si2, si3, si4⟩ := fs2.get
  refine .m rfl rfl rfl (.loadM ag_31_D rfl ⟨rfl, Mem.of_get at1003⟩) ?_
  refine .m rfl rfl rfl (.fieldAddr fo_55_0_VCon rfl) ?_
  refine .m rfl rfl rfl (.load on_2_A rfl (by first | assumption | exact Mem.of_get at3 0 _ rfl)) ?_
  refine .callQ rfl rfl rfl rfl @Try.call91 rfl (l02Object_c) ?_
  refine .m rfl rfl rfl (.not rfl) (.m rfl rfl rfl (.move rfl) ?_)
  refine .split (fun h15 => ?_) (fun h15 => ?_)
  ·
   try simp only [sps] at h15
   refine .sg rfl rfl rfl rfl rfl (.sg rfl rfl rfl rfl rfl (.sg rfl rfl rfl rfl rfl (.sg rfl rfl rfl rfl rfl ?_)))
   refine .sg rfl rfl rfl rfl rfl (.sg rfl rfl rfl rfl rfl (.sg rfl rfl rfl rfl rfl (.m rfl rfl rfl (.pickT rfl rfl) ?_)))
   refine .m rfl rfl rfl (.move rfl) (.sg rfl rfl rfl rfl rfl (.sg rfl rfl rfl rfl rfl (.sg rfl rfl rfl rfl rfl ?_)))
   refine .sg rfl rfl rfl rfl rfl (.sg rfl rfl rfl rfl rfl (.sg rfl rfl rfl rfl rfl (.sg rfl rfl rfl rfl rfl ?_)))
   refine .m rfl rfl rfl (.pickT rfl rfl) (.nil ?_)
   refine hK4 _ _ ?_
   refine .condT rfl ?_
   refine .seq (fun K5 hK5 => ?_)
   refine .region (.m rfl rfl rfl (.assign rfl) (.nil ?_))
   refine hK5 _ _ ?_
   refine .ret ?_
   refine hret _ _ ?_
   refine ⟨_, rfl, ?_⟩
   exact ⟨congrArg _ (B_false fun hh => by have := hh.ap; omega), hle⟩
  simp only [sps] at h15
  refine .mg rfl rfl rfl rfl rfl (.fieldAddr fo_55_1_VCon rfl) ?_
  refine .mg rfl rfl rfl rfl rfl (.load on_22_B rfl (by first | assumption | exact Mem.of_get at3 1 _ rfl)) ?_
  refine .mg rfl rfl rfl rfl rfl (.len sl_22_A rfl) (.mg rfl rfl rfl rfl rfl (.fieldAddr fo_33_2_E rfl) ?_)
  refine .mg rfl rfl rfl rfl rfl (.load on_22_B rfl (by first | assumption | exact Mem.of_get at2 10 _ rfl)) ?_
  refine .mg rfl rfl rfl rfl rfl (.len sl_22_A rfl) (.mg rfl rfl rfl rfl rfl (.cmp rfl rfl rfl) (.m rfl rfl rfl (.pickF rfl rfl) (.m rfl rfl rfl (.move rfl) ?_)))
  refine .split (fun h24 => ?_) (fun h24 => ?_)
  ·
   try simp only [sps] at h24
   refine .sg rfl rfl rfl rfl rfl (.sg rfl rfl rfl rfl rfl (.sg rfl rfl rfl rfl rfl (.sg rfl rfl rfl rfl rfl ?_)))
   refine .sg rfl rfl rfl rfl rfl (.sg rfl rfl rfl rfl rfl (.sg rfl rfl rfl rfl rfl (.m rfl rfl rfl (.pickT rfl rfl) ?_)))
   refine .nil ?_
   refine hK4 _ _ ?_
   refine .condT rfl ?_
   refine .seq (fun K6 hK6 => ?_)
   refine .region (.m rfl rfl rfl (.assign rfl) (.nil ?_))
   refine hK6 _ _ ?_
   refine .ret ?_
   refine hret _ _ ?_
   refine ⟨_, rfl, ?_⟩
   exact ⟨congrArg _ (B_false fun hh => by have := hh.ll; omega), hle⟩
  simp only [sps] at h24
  refine .mg rfl rfl rfl rfl rfl (.fieldAddr fo_31_1_B rfl) ?_
  refine .mg rfl rfl rfl rfl rfl (.load on_22_B rfl (by first | assumption | exact Mem.of_get at1003 1 _ rfl)) ?_
  refine .mg rfl rfl rfl rfl rfl (.len sl_22_A rfl) (.mg rfl rfl rfl rfl rfl (.fieldAddr fo_55_1_VCon rfl) ?_)
  refine .mg rfl rfl rfl rfl rfl (.load on_22_B rfl (by first | assumption | exact Mem.of_get at3 1 _ rfl)) ?_
  refine .callQg rfl rfl rfl rfl rfl rfl @Try.call65 rfl (l01Map_c) ?_
  refine .mg rfl rfl rfl rfl rfl (.not rfl) (.m rfl rfl rfl (.pickF rfl rfl) (.nil ?_))
  refine hK4 _ _ ?_
  refine .cond rfl (fun h32 => ?_) (fun h32 => ?_)
  ·
   try simp only [sps] at h32
   refine .seq (fun K7 hK7 => ?_)
   refine .region (.m rfl rfl rfl (.assign rfl) (.nil ?_))
   refine hK7 _ _ ?_
   refine .ret ?_
   refine hret _ _ ?_
   refine ⟨_, rfl, ?_⟩
   exact ⟨congrArg _ (B_false fun hh => by rw [allIn_iff.2 hh.lg] at h32; cases h32), hle⟩
  simp only [sps] at h32
  refine .skip ?_
  refine hK3 _ _ ?_
  refine .seq (fun K8 hK8 => ?_)
  refine .seq (fun K9 hK9 => ?_)
  refine .region (.m rfl rfl rfl (.assign rfl) (.nil ?_))
  refine hK9 _ _ ?_
  refine .block ?_
  refine .loopR (σ := Nat) [(2, some _), (3, some _), (5, some _)] (fun k => [(6, some (.int .i64 (k : Int)))]) (fun k H' => H1003 = H' ∧ (k : Int) ≤ m.lg.length ∧ ∀ j, j < k → d.t.src.getD (m.lg.getD j 0).toNat 0 = m.ap ∧ d.t.tgt.getD (m.lg.getD j 0).toNat 0 = d.ob.getD j 0) (fun k => (m.lg.length - k : Int).toNat) (0) ⟨rfl, rfl, rfl, trivial⟩ ⟨rfl, trivial⟩ ?_ ?_
  ·
   refine ⟨rfl, ?_⟩
   exact ⟨by omega, fun _ _ => by omega⟩
  rintro k _ ⟨rfl, hI⟩ KL1 hKL1
  refine .forget (fr' := [(6, some (.int .i64 (k : Int))), (2, some _), (3, some _), (5, some _)]) ⟨rfl, rfl, rfl, rfl, trivial⟩ ?_
  obtain ⟨hk1, ha1⟩ := hI
  refine .seq (fun K10 hK10 => ?_)
  refine .seq (fun K11 hK11 => ?_)
  refine .region (.m rfl rfl rfl (.move rfl) (.m rfl rfl rfl (.fieldAddr fo_55_1_VCon rfl) ?_))
  refine .m rfl rfl rfl (.load on_22_B rfl (by first | assumption | exact Mem.of_get at3 1 _ rfl)) ?_
  refine .m rfl rfl rfl (.len sl_22_A rfl) (.m rfl rfl rfl (.cmp rfl rfl rfl) (.nil ?_))
  refine hK11 _ _ ?_
  refine .cond rfl (fun h37 => ?_) (fun h37 => ?_)
  ·
   simp only [sps] at h37
   have r1 := h32 k (by omega)
   refine .skip ?_
   refine hK10 _ _ ?_
   refine .seq (fun K12 hK12 => ?_)
   refine .block ?_
   refine .seq (fun K13 hK13 => ?_)
   refine .regionD mixed_orders_B (.q 0 (.q 1 (.q 2 (.q 3 (.q 4 (.q 5 (.q 6 (.q 7 (.q 8 (.q 9 (.q 10 (.q 11 (.q 12 (.q 13 (.q 14 (.q 15 (.q 16 (.q 17 (.q 18 (.q 19 (.q 20 (.q 21 (.q 22 (.q 23 (.q 24 (.q 25 (.q 26 (.q 27 (.q 28 (.done)))))))))))))))))))))))))))))) (by kernel_rfl) ?_
   refine .m rfl rfl rfl rfl (.refl _) (.fieldAddr fo_31_1_B rfl) ?_
   refine .m rfl rfl rfl rfl (.refl _) (.load on_22_B rfl (by first | assumption | exact Mem.of_get at1003 1 _ rfl)) ?_
   refine .m rfl rfl rfl rfl (.refl _) (.fieldAddr fo_55_1_VCon rfl) ?_
   refine .m rfl rfl rfl rfl (.refl _) (.load on_22_B rfl (by first | assumption | exact Mem.of_get at3 1 _ rfl)) ?_
   refine .m rfl rfl rfl rfl (.refl _) (.move rfl) ?_
   refine .m rfl rfl rfl rfl (.refl _) (.idxN sl_22_A (by assumption) rfl rfl (by omega)) ?_
   refine .m rfl rfl rfl rfl (.refl _) (.loadI on_2_A (by assumption) rfl (by omega)) ?_
   refine .m rfl rfl rfl rfl (.refl _) (.idx1 sl_22_A (by assumption) rfl rfl (by omega) (by omega)) ?_
   refine .m rfl rfl rfl rfl (.refl _) (.loadI on_2_A (by assumption) rfl (by omega)) ?_
   refine .m rfl rfl rfl rfl (.refl _) (.fieldAddr fo_55_0_VCon rfl) ?_
   refine .m rfl rfl rfl rfl (.refl _) (.load on_2_A rfl (by first | assumption | exact Mem.of_get at3 0 _ rfl)) ?_
   refine .m rfl rfl rfl rfl (.refl _) (.cmp rfl rfl rfl) (.m rfl rfl rfl rfl (.refl _) (.move rfl) ?_)
   refine .split (fun h52 => ?_) (fun h52 => ?_)
   ·
    try simp only [sps] at h52
    refine .sg rfl rfl rfl rfl rfl rfl (.sg rfl rfl rfl rfl rfl rfl (.sg rfl rfl rfl rfl rfl rfl (.sg rfl rfl rfl rfl rfl rfl ?_)))
    refine .sg rfl rfl rfl rfl rfl rfl (.sg rfl rfl rfl rfl rfl rfl (.sg rfl rfl rfl rfl rfl rfl (.sg rfl rfl rfl rfl rfl rfl ?_)))
    refine .sg rfl rfl rfl rfl rfl rfl (.sg rfl rfl rfl rfl rfl rfl (.sg rfl rfl rfl rfl rfl rfl (.sg rfl rfl rfl rfl rfl rfl ?_)))
    refine .sg rfl rfl rfl rfl rfl rfl (.sg rfl rfl rfl rfl rfl rfl (.sg rfl rfl rfl rfl rfl rfl (.m rfl rfl rfl rfl (.refl _) (.pickT rfl rfl) ?_)))
    refine .done ?_
    refine hK13 _ _ ?_
    refine .condT rfl ?_
    refine .seq (fun K14 hK14 => ?_)
    refine .region (.m rfl rfl rfl (.assign rfl) (.nil ?_))
    refine hK14 _ _ ?_
    refine .ret ?_
    refine hret _ _ ?_
    refine ⟨_, rfl, ?_⟩
    exact ⟨congrArg _ (B_false fun hh => by have := hh.ends k (by omega); omega), hle⟩
   try simp only [sps] at h52
   refine .mg rfl rfl rfl rfl rfl rfl (.refl _) (.fieldAddr fo_31_2_B rfl) ?_
   refine .mg rfl rfl rfl rfl rfl rfl (.refl _) (.load on_22_B rfl (by first | assumption | exact Mem.of_get at1003 2 _ rfl)) ?_
   refine .mg rfl rfl rfl rfl rfl rfl (.refl _) (.fieldAddr fo_55_1_VCon rfl) ?_
   refine .mg rfl rfl rfl rfl rfl rfl (.refl _) (.load on_22_B rfl (by first | assumption | exact Mem.of_get at3 1 _ rfl)) ?_
   refine .mg rfl rfl rfl rfl rfl rfl (.refl _) (.move rfl) ?_
   refine .mg rfl rfl rfl rfl rfl rfl (.refl _) (.idxN sl_22_A (by assumption) rfl rfl (by omega)) ?_
   refine .mg rfl rfl rfl rfl rfl rfl (.refl _) (.loadI on_2_A (by assumption) rfl (by omega)) ?_
   refine .mg rfl rfl rfl rfl rfl rfl (.refl _) (.idx1 sl_22_A (by assumption) rfl rfl (by omega) (by omega)) ?_
   refine .mg rfl rfl rfl rfl rfl rfl (.refl _) (.loadI on_2_A (by assumption) rfl (by omega)) ?_
   refine .mg rfl rfl rfl rfl rfl rfl (.refl _) (.fieldAddr fo_33_2_E rfl) ?_
   refine .mg rfl rfl rfl rfl rfl rfl (.refl _) (.load on_22_B rfl (by first | assumption | exact Mem.of_get at2 10 _ rfl)) ?_
   refine .mg rfl rfl rfl rfl rfl rfl (.refl _) (.move rfl) ?_
   refine .mg rfl rfl rfl rfl rfl rfl (.refl _) (.idxN sl_22_A (by assumption) rfl rfl (by omega)) ?_
   refine .mg rfl rfl rfl rfl rfl rfl (.refl _) (.loadI on_2_A (by assumption) rfl (by omega)) ?_
   refine .mg rfl rfl rfl rfl rfl rfl (.refl _) (.cmp rfl rfl rfl) (.m rfl rfl rfl rfl (.refl _) (.pickF rfl rfl) ?_)
   refine .done ?_
   refine hK13 _ _ ?_
   refine .cond rfl (fun h68 => ?_) (fun h68 => ?_)
   ·
    try simp only [sps] at h68
    refine .seq (fun K15 hK15 => ?_)
    refine .region (.m rfl rfl rfl (.assign rfl) (.nil ?_))
    refine hK15 _ _ ?_
    refine .ret ?_
    refine hret _ _ ?_
    refine ⟨_, rfl, ?_⟩
    exact ⟨congrArg _ (B_false fun hh => by have := hh.ends k (by omega); omega), hle⟩
   try simp only [sps] at h68
   refine .skip ?_
   refine hK12 _ _ ?_
   refine .region (.m rfl rfl rfl (.move rfl) ?_)
   refine .m rfl rfl rfl (.add rfl rfl rfl (by omega) (by omega)) ?_
   refine .m rfl rfl rfl (.assign rfl) (.nil ?_)
   refine hKL1 (k + 1) _ _ ?_ ?_ ⟨rfl, rfl, rfl, rfl, trivial⟩
   ·
    refine ⟨rfl, ?_⟩
    refine ⟨by omega, fun j hx => ?_⟩
    by_cases hltq : j < k
    · exact ha1 j hltq
    · obtain rfl : j = k := by omega
      exact ⟨by omega, by omega⟩
   omega
  try simp only [sps] at h37
  refine .exit ?_
  refine hK8 _ _ ?_
  refine .seq (fun K16 hK16 => ?_)
  refine .seq (fun K17 hK17 => ?_)
  refine .region (.m rfl rfl rfl (.assign rfl) (.nil ?_))
  refine hK17 _ _ ?_
  refine .block ?_
  refine .loopR (σ := Nat) [(2, some _), (3, some _), (5, some _)] (fun a => [(7, some (.int .i64 (a : Int)))]) (fun a H' => H1003 = H' ∧ (a : Int) ≤ d.ar.length ∧ ∀ a', a' < a → d.t.th (m.lg.getD (d.s.src.getD a' 0).toNat 0) (d.ar.getD a' 0) = m.lg.getD (d.s.tgt.getD a' 0).toNat 0) (fun a => (d.ar.length - a : Int).toNat) (0) ⟨rfl, rfl, rfl, trivial⟩ ⟨rfl, trivial⟩ ?_ ?_
  ·
   refine ⟨rfl, ?_⟩
   exact ⟨by omega, fun _ _ => by omega⟩
  rintro a _ ⟨rfl, hI⟩ KL2 hKL2
  refine .forget (fr' := [(7, some (.int .i64 (a : Int))), (2, some _), (3, some _), (5, some _)]) ⟨rfl, rfl, rfl, rfl, trivial⟩ ?_
  obtain ⟨hk2, ha2⟩ := hI
  refine .seq (fun K18 hK18 => ?_)
  refine .seq (fun K19 hK19 => ?_)
  refine .region (.m rfl rfl rfl (.move rfl) (.m rfl rfl rfl (.fieldAddr fo_33_3_E rfl) ?_))
  refine .m rfl rfl rfl (.load on_22_B rfl (by first | assumption | exact Mem.of_get at2 11 _ rfl)) ?_
  refine .m rfl rfl rfl (.len sl_22_A rfl) (.m rfl rfl rfl (.cmp rfl rfl rfl) (.nil ?_))
  refine hK19 _ _ ?_
  refine .cond rfl (fun h73 => ?_) (fun h73 => ?_)
  ·
   simp only [sps] at h73
   have r1 := hI.arr (a := a) (by omega)
   have r2 := h32 (d.s.src.getD a 0).toNat (by omega)
   have r3 := h32 (d.s.tgt.getD a 0).toNat (by omega)
   refine .skip ?_
   refine hK18 _ _ ?_
   refine .seq (fun K20 hK20 => ?_)
   refine .block ?_
   refine .seq (fun K21 hK21 => ?_)
   refine .regionD mixed_orders_B (.q 0 (.q 1 (.q 2 (.q 3 (.q 4 (.q 5 (.q 6 (.q 7 (.q 8 (.q 9 (.q 10 (.q 11 (.q 12 (.q 13 (.q 14 (.q 15 (.q 17 (.q 18 (.q 19 (.q 20 (.q 21 (.q 22 (.q 23 (.q 24 (.q 25 (.q 26 (.c 16 1 (.q 27 (.done))))))))))))))))))))))))))))) (by kernel_rfl) ?_
   refine .m rfl rfl rfl rfl (.refl _) (.loadM ag_31_D rfl ⟨rfl, Mem.of_get at1003⟩) ?_
   refine .m rfl rfl rfl rfl (.refl _) (.fieldAddr fo_55_1_VCon rfl) ?_
   refine .m rfl rfl rfl rfl (.refl _) (.load on_22_B rfl (by first | assumption | exact Mem.of_get at3 1 _ rfl)) ?_
   refine .m rfl rfl rfl rfl (.refl _) (.fieldAddr fo_33_0_E rfl) (.m rfl rfl rfl rfl (.refl _) (.fieldAddr fo_31_1_B rfl) ?_)
   refine .m rfl rfl rfl rfl (.refl _) (.load on_22_B rfl (by first | assumption | exact Mem.of_get at2 1 _ rfl)) ?_
   refine .m rfl rfl rfl rfl (.refl _) (.move rfl) ?_
   refine .m rfl rfl rfl rfl (.refl _) (.idxN sl_22_A (by assumption) rfl rfl (by omega)) ?_
   refine .m rfl rfl rfl rfl (.refl _) (.loadI on_2_A (by assumption) rfl (by omega)) ?_
   refine .m rfl rfl rfl rfl (.refl _) (.idx1 sl_22_A (by assumption) rfl rfl (by omega) (by omega)) ?_
   refine .m rfl rfl rfl rfl (.refl _) (.loadI on_2_A (by assumption) rfl (by omega)) ?_
   refine .m rfl rfl rfl rfl (.refl _) (.fieldAddr fo_33_3_E rfl) ?_
   refine .m rfl rfl rfl rfl (.refl _) (.load on_22_B rfl (by first | assumption | exact Mem.of_get at2 11 _ rfl)) ?_
   refine .m rfl rfl rfl rfl (.refl _) (.move rfl) ?_
   refine .m rfl rfl rfl rfl (.refl _) (.idxN sl_22_A (by assumption) rfl rfl (by omega)) ?_
   refine .m rfl rfl rfl rfl (.refl _) (.loadI on_2_A (by assumption) rfl (by omega)) ?_
   refine .m rfl rfl rfl rfl (.refl _) (.fieldAddr fo_55_1_VCon rfl) ?_
   refine .m rfl rfl rfl rfl (.refl _) (.load on_22_B rfl (by first | assumption | exact Mem.of_get at3 1 _ rfl)) ?_
   refine .m rfl rfl rfl rfl (.refl _) (.fieldAddr fo_33_0_E rfl) (.m rfl rfl rfl rfl (.refl _) (.fieldAddr fo_31_2_B rfl) ?_)
   refine .m rfl rfl rfl rfl (.refl _) (.load on_22_B rfl (by first | assumption | exact Mem.of_get at2 2 _ rfl)) ?_
   refine .m rfl rfl rfl rfl (.refl _) (.move rfl) ?_
   refine .m rfl rfl rfl rfl (.refl _) (.idxN sl_22_A (by assumption) rfl rfl (by omega)) ?_
   refine .m rfl rfl rfl rfl (.refl _) (.loadI on_2_A (by assumption) rfl (by omega)) ?_
   refine .m rfl rfl rfl rfl (.refl _) (.idx1 sl_22_A (by assumption) rfl rfl (by omega) (by omega)) ?_
   refine .m rfl rfl rfl rfl (.refl _) (.loadI on_2_A (by assumption) rfl (by omega)) ?_
   refine .callQ1 rfl rfl rfl rfl rfl @Try.call92 rfl (l02Then_c) (.refl _) ?_
   refine .m rfl rfl rfl rfl (.refl _) (.cmp rfl rfl rfl) ?_
   refine .done ?_
   refine hK21 _ _ ?_
   refine .cond rfl (fun h103 => ?_) (fun h103 => ?_)
   ·
    try simp only [sps] at h103
    refine .seq (fun K22 hK22 => ?_)
    refine .region (.m rfl rfl rfl (.assign rfl) (.nil ?_))
    refine hK22 _ _ ?_
    refine .ret ?_
    refine hret _ _ ?_
    refine ⟨_, rfl, ?_⟩
    exact ⟨congrArg _ (B_false fun hh => h103 (hh.tri a (by omega))), hle⟩
   try simp only [sps] at h103
   refine .skip ?_
   refine hK20 _ _ ?_
   refine .region (.m rfl rfl rfl (.move rfl) ?_)
   refine .m rfl rfl rfl (.add rfl rfl rfl (by omega) (by omega)) ?_
   refine .m rfl rfl rfl (.assign rfl) (.nil ?_)
   refine hKL2 (a + 1) _ _ ?_ ?_ ⟨rfl, rfl, rfl, rfl, trivial⟩
   ·
    refine ⟨rfl, ?_⟩
    refine ⟨by omega, fun a' hx => ?_⟩
    by_cases hltq : a' < a
    · exact ha2 a' hltq
    · obtain rfl : a' = a := by omega
      exact h103
   omega
  try simp only [sps] at h73
  refine .exit ?_
  refine hK16 _ _ ?_
  refine .seq (fun K23 hK23 => ?_)
  refine .region (.m rfl rfl rfl (.assign rfl) (.nil ?_))
  refine hK23 _ _ ?_
  refine .ret ?_
  refine hret _ _ ?_
  refine ⟨_, rfl, ?_⟩
  exact ⟨congrArg _ (B_true ⟨by omega, by omega, h32, fun j hj => ha1 j (by omega), fun a ha => ha2 a (by omega)⟩), hle⟩
end Go.Proofs.Ytnohkokoimmclaa
/- Set functors and their maps: what their laws are. No condition. -/
namespace Go.GL

/-- The first pair with a property, or (-1, 0). -/
def first2 (n : Nat) (len : Nat → Nat) (p : Nat → Nat → Bool) : Int × Int :=
  match firstN n fun a => (firstN (len a) (p a)).isSome with
  | some a => ((a : Int), (((firstN (len a) (p a)).getD 0 : Nat) : Int))
  | none => (-1, 0)
theorem first2_some {n a e : Nat} {len : Nat → Nat} {p : Nat → Nat → Bool} (ha : a < n) (he : e < len a) (h : p a e = true) (h1 : ∀ i, i < e → p a i = false) (h2 : ∀ b, b < a → ∀ i, i < len b → p b i = false) : first2 n len p = ((a : Int), (e : Int)) := by
  have e1 : firstN (len a) (p a) = some e := firstN_some he h h1
  have e2 : (firstN n fun a => (firstN (len a) (p a)).isSome) = some a := firstN_some ha (by rw [e1]; rfl) fun b hb => by rw [firstN_none (h2 b hb)]; rfl
  unfold first2
  rw [e2]
  simp only [e1, Option.getD_some]
theorem first2_none {n : Nat} {len : Nat → Nat} {p : Nat → Nat → Bool} (h2 : ∀ b, b < n → ∀ i, i < len b → p b i = false) : first2 n len p = (-1, 0) := by
  have e2 : (firstN n fun a => (firstN (len a) (p a)).isSome) = none := firstN_none fun b hb => by rw [firstN_none (h2 b hb)]; rfl
  unfold first2
  rw [e2]
theorem first2_neg {n : Nat} {len : Nat → Nat} {p : Nat → Nat → Bool} : (first2 n len p).1 < 0 ↔ ∀ b, b < n → ∀ i, i < len b → p b i = false := by
  refine ⟨fun h b hb i hi => ?_, fun h => by rw [first2_none h]; decide⟩
  unfold first2 at h
  split at h
  · simp only at h; omega
  · rename_i e
    unfold firstN at e
    rw [List.find?_range_eq_none] at e
    have := e b hb
    cases hp : p b i with
    | false => rfl
    | true =>
      exfalso
      cases e1 : firstN (len b) (p b) with
      | some x => unfold firstN at e1; rw [e1] at this; cases this
      | none =>
        unfold firstN at e1
        rw [List.find?_range_eq_none] at e1
        have := e1 i hi
        rw [hp] at this
        cases this

/-- The action of arrow a is a map between its sets. -/
def SFun.AcOk (f : SFun) (a : Nat) : Prop :=
  ((f.ac.getD a []).length : Int) = f.sz.getD (f.sh.src.getD a 0).toNat 0 ∧ allIn (f.ac.getD a []) (f.sz.getD (f.sh.tgt.getD a 0).toNat 0) = true
structure SFun.Shape (f : SFun) : Prop where
  c : f.sh.Is
  zl : (f.sz.length : Int) = f.sh.obj
  sz : ∀ i, i < f.sz.length → 0 ≤ f.sz.getD i 0 ∧ f.sz.getD i 0 ≤ 16
  al : f.ac.length = f.sh.src.length
  ac : ∀ a, a < f.ac.length → f.AcOk a
theorem SFun.Shape.act {f : SFun} (h : f.Shape) {a : Nat} (ha : a < f.ac.length) {e : Nat} (he : e < (f.ac.getD a []).length) : 0 ≤ (f.ac.getD a []).getD e 0 ∧ (f.ac.getD a []).getD e 0 < f.sz.getD (f.sh.tgt.getD a 0).toNat 0 := allIn_iff.1 (h.ac a ha).2 e he
/-- Where arrow a goes, and how large its sets are. -/
theorem SFun.Shape.ends {f : SFun} (h : f.Shape) {a : Nat} (ha : a < f.sh.src.length) : 0 ≤ f.sh.src.getD a 0 ∧ f.sh.src.getD a 0 < f.sz.length ∧ 0 ≤ f.sh.tgt.getD a 0 ∧ f.sh.tgt.getD a 0 < f.sz.length ∧ ((f.ac.getD a []).length : Int) = f.sz.getD (f.sh.src.getD a 0).toNat 0 := by
  have hS := h.c.1
  have q1 := hS.src a ha
  have q2 := hS.tgt a (by have := hS.tl; omega)
  have q3 := h.zl
  have q4 := (h.ac a (by have := h.al; omega)).1
  omega
structure SFun.Laws (f : SFun) : Prop where
  ids : ∀ x : Nat, x < f.sh.idn.length → ∀ e : Nat, e < (f.ac.getD (f.sh.idn.getD x 0).toNat []).length → (f.ac.getD (f.sh.idn.getD x 0).toNat []).getD e 0 = e
  th : ∀ a : Nat, a < f.sh.src.length → ∀ b : Nat, b < f.sh.src.length → f.sh.tgt.getD a 0 = f.sh.src.getD b 0 → ∀ e : Nat, e < (f.ac.getD a []).length →
    (f.ac.getD ((f.sh.comp.getD a []).getD b 0).toNat []).getD e 0 = (f.ac.getD b []).getD ((f.ac.getD a []).getD e 0).toNat 0
def SFun.Is (f : SFun) : Prop := f.Shape ∧ f.Laws

def SMap.PaOk (m : SMap) (x : Nat) : Prop := ((m.pa.getD x []).length : Int) = m.s.sz.getD x 0 ∧ allIn (m.pa.getD x []) (m.t.sz.getD x 0) = true
structure SMap.Fits (m : SMap) : Prop where
  pl : m.pa.length = m.s.sz.length
  pa : ∀ x, x < m.pa.length → m.PaOk x
structure SMap.Shape (m : SMap) : Prop where
  s : m.s.Is
  t : m.t.Is
  sh : m.s.sh = m.t.sh
  fits : m.Fits
/-- The square of arrow a and element e does not commute. -/
def SMap.bad (m : SMap) (a e : Nat) : Bool := decide (¬ (m.pa.getD (m.s.sh.tgt.getD a 0).toNat []).getD ((m.s.ac.getD a []).getD e 0).toNat 0 = (m.t.ac.getD a []).getD ((m.pa.getD (m.s.sh.src.getD a 0).toNat []).getD e 0).toNat 0)
def SMap.first (m : SMap) : Int × Int := first2 m.s.ac.length (fun a => (m.s.ac.getD a []).length) m.bad
def SMap.Is (m : SMap) : Prop := m.Shape ∧ ∀ a, a < m.s.ac.length → ∀ e, e < (m.s.ac.getD a []).length → m.bad a e = false
end Go.GL
/- Parts of set functors. No condition. -/
namespace Go.GL

def Rising (xs : List Int) : Prop := ∀ i, 1 ≤ i → i < xs.length → xs.getD (i - 1) 0 < xs.getD i 0
/-- The lists are a part of a set functor. -/
structure SFun.Part (f : SFun) (me : List (List Int)) : Prop where
  pl : me.length = f.sz.length
  rs : ∀ x, x < me.length → Rising (me.getD x []) ∧ allIn (me.getD x []) (f.sz.getD x 0) = true
  cl : ∀ a, a < f.ac.length → ∀ i, i < (me.getD (f.sh.src.getD a 0).toNat []).length → (me.getD (f.sh.tgt.getD a 0).toNat []).contains ((f.ac.getD a []).getD ((me.getD (f.sh.src.getD a 0).toNat []).getD i 0).toNat 0) = true
def BelowL (p q : List (List Int)) : Prop := ∀ x, x < p.length → ∀ i, i < (p.getD x []).length → (q.getD x []).contains ((p.getD x []).getD i 0) = true
end Go.GL
