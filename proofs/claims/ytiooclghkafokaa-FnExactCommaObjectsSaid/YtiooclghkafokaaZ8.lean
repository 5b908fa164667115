/- Steps that make or write memory, told by what holds behind them; lists that are gathered in loops. No condition. -/
import Derived.Test.YtiooclghkafokaaZ7
import Derived.MapKept
import Derived.Deep.Slices
namespace Go.GL
open Go.RowKit

def out : List Nat → Nat → Prop
  | [], _ => True
  | g :: r, k => k ≠ g ∧ out r k
structure St (bs : List Nat) (H H' : GHeap) : Prop where
  nx : H.next ≤ H'.next
  same : ∀ k o, out bs k → H.get k = some o → H'.get k = some o
theorem St.refl (bs : List Nat) (H : GHeap) : St bs H H := ⟨Nat.le_refl _, fun _ _ _ h => h⟩
theorem GHeap.Le.st {H0 H H' : GHeap} {bs : List Nat} (h : H0.Le H) (s : St bs H H') (hg : ∀ k, k < H0.next → out bs k) : H0.Le H' :=
  ⟨Nat.le_trans h.1 s.nx, fun k o hk => s.same k o (hg k (GHeap.ltg hk)) (h.2 k o hk)⟩
theorem St.le {bs : List Nat} {H0 H H' : GHeap} (s : St bs H0 H) (h : H.Le H') : St bs H0 H' := ⟨Nat.le_trans s.nx h.1, fun k o hk hg => h.2 k o (s.same k o hk hg)⟩
theorem St.st {bs cs : List Nat} {H0 H H' : GHeap} (s : St bs H0 H) (h : St cs H H') (hg : ∀ k, k < H0.next → out bs k → out cs k) : St bs H0 H' :=
  ⟨Nat.le_trans s.nx h.nx, fun k o hk h1 => h.same k o (hg k (GHeap.ltg h1) hk) (s.same k o hk h1)⟩
theorem St.sA {bs cs : List Nat} {H0 H H' : GHeap} (s : St bs H0 H) (h : St cs H H') (hg : ∀ k, k < H0.next → out bs k → out cs k := by intro k hk ho; simp only [out, and_true] at ho ⊢ <;> first | exact ho | exact ho.1 | exact ho.2 | exact ho.2.1 | exact ho.2.2 | exact ho.2.2.1 | exact ho.2.2.2 | omega) : St bs H0 H' := s.st h hg
theorem St.s {g k : Nat} {H H' : GHeap} {o : GObj} (s : St [g] H H') (h : H.get k = some o) (hne : k ≠ g := by first | assumption | omega) : H'.get k = some o := s.same k o ⟨hne, trivial⟩ h
theorem Keep.le {b : Nat} {H0 H H' : GHeap} (k : Keep b H0 H) (h : H.Le H') : Keep b H0 H' := fun g o hb hg => h.2 g o (k g o hb hg)
theorem Keep.st {bs : List Nat} {b : Nat} {H0 H H' : GHeap} (k : Keep b H0 H) (h : St bs H H') (hg : ∀ k, b ≤ k → k < H0.next → out bs k) : Keep b H0 H' := fun g o hb h1 => h.same g o (hg g hb (GHeap.ltg h1)) (k g o hb h1)
theorem St.of_set {g : Nat} {H : GHeap} {o : Option GObj} : St [g] H (H.set g o) := ⟨by rw [GHeap.next_set]; exact Nat.le_refl _, fun k x hk h => by rw [GHeap.get_set_ne (Ne.symm hk.1)]; exact h⟩
theorem St.push {bs : List Nat} {H H' : GHeap} {o : GObj} (s : St bs H H') : St bs H (H'.push o) := ⟨by rw [GHeap.next_push]; have := s.nx; omega, fun k x hk h => GHeap.get_push_of (s.same k x hk h)⟩

section
variable {P : Program} {N : Nat} {ops : Array Oper} {Q : Slots → GHeap → Prop} {L : List (Oper × Nat)} {fr : Slots} {H Hb : GHeap} {o : Oper} {i : Nat} {t : Tree}
theorem GTree.mB {d : Tmp} {v : Value} (hi : ops[i]? = some o) (hd : o.dst = some d) (hN : Nat.blt d N = true) (hg : o.guard = none) (hle : Hb.Le H) (hm : MStep P fr Hb o.op v) (h : GTree P N ops Q t ((d, some v) :: fr) Hb H) : GTree P N ops Q (.q i t) fr Hb H := by
  unfold GTree
  refine ⟨o, hi, by unfold dstOk; rw [hd]; exact hN, ?_⟩
  rw [hg]
  exact ⟨v, Hb, .refl _, hle, hm, by rw [hd]; exact h⟩
theorem GTree.qB {d : Tmp} {v : Value} (h : stpT ops i N = some (o, d)) (hle : Hb.Le H) (hm : MStep P fr Hb o.op v) (hq : GTree P N ops Q t ((d, some v) :: fr) Hb H) : GTree P N ops Q (.q i t) fr Hb H := by
  obtain ⟨h0, h4⟩ := stpT.spec h
  obtain ⟨h1, h2, h3⟩ := stpR.spec h4
  exact .mB h0 h1 h2 h3 hle hm hq
theorem GRun.r {d : Tmp} {R : Option Value → GHeap → Prop} (hd : o.dst = some d) (hN : Nat.blt d N = true) (hg : o.guard = none) (hc : CDo P o fr H R) (h : ∀ v H', R v H' → GRun P N ops Q L ((d, v) :: fr) H') : GRun P N ops Q ((o, 0) :: L) fr H :=
  .c hd hN hg (by simp) hc fun v H' hR => ⟨fun e => (by cases e), h v H' hR⟩
theorem GRun.R {d : Tmp} {R : Option Value → GHeap → Prop} (h0 : stpR o N = some d) (hc : CDo P o fr H R) (h : ∀ v H', R v H' → GRun P N ops Q L ((d, v) :: fr) H') : GRun P N ops Q ((o, 0) :: L) fr H := by
  obtain ⟨h1, h2, h3⟩ := stpR.spec h0
  exact .r h1 h2 h3 hc h
theorem GRun.r0 {R : Option Value → GHeap → Prop} (hd : o.dst = none) (hg : o.guard = none) (hc : CDo P o fr H R) (h : ∀ v H', R v H' → GRun P N ops Q L fr H') : GRun P N ops Q ((o, 0) :: L) fr H :=
  .c0 hd hg (by simp) hc fun v H' hR => ⟨fun e => (by cases e), h v H' hR⟩
theorem GTree.r0 {R : Option Value → GHeap → Prop} (hi : ops[i]? = some o) (hd : o.dst = none) (hg : o.guard = none) (hc : CDo P o fr H R) (h : ∀ v H', R v H' → GTree P N ops Q t fr H' H') : GTree P N ops Q (.c i 0 t) fr Hb H := by
  unfold GTree
  refine ⟨o, hi, by unfold dstOk; rw [hd], ?_⟩
  rw [hg]
  refine .mkI fun l B w0 ρ a w hs hf next Qx hn => ?_
  exact hc.run l B w0 ρ a w hs hf next Qx fun ρ' v c H' w' hR => hn ρ' v c H' w' ⟨fun e => (by cases e), by rw [hd, if_neg (by simp)]; exact h v H' hR⟩
theorem GTree.r1 {R : Option Value → GHeap → Prop} (hi : ops[i]? = some o) (hd : o.dst = none) (hg : o.guard = none) (hc : CDo P o fr H R) (h : ∀ v H', R v H' → Hb.Le H' ∧ GTree P N ops Q t fr Hb H') : GTree P N ops Q (.c i 1 t) fr Hb H := by
  unfold GTree
  refine ⟨o, hi, by unfold dstOk; rw [hd], ?_⟩
  rw [hg]
  refine .mkI fun l B w0 ρ a w hs hf next Qx hn => ?_
  exact hc.run l B w0 ρ a w hs hf next Qx fun ρ' v c H' w' hR => hn ρ' v c H' w' ⟨fun _ => (h v H' hR).1, by rw [hd, if_pos rfl]; exact (h v H' hR).2⟩
end

section
variable {P : Program} {H : GHeap} {fr : Slots} {o : Oper}
theorem CDo.boxR {e : TypeId} {x : Operand} {v : Value} {n : Nat} (ho : o.op = .box e x) (he : (P.info? e).map (·.size) = some n) (hx : ev fr x = some v) :
    CDo P o fr H (fun r H' => ∃ g, r = some (.pointer (some ⟨g, 0, none⟩)) ∧ H.Le H' ∧ H.next ≤ g ∧ H'.get g = some (.row v.cells.toList e true)) :=
  .box ho he hx ⟨_, rfl, GHeap.le_push _ _, Nat.le_refl _, GHeap.get_push_new _ _⟩
theorem CDo.allocR {e : TypeId} {z : List Value} {n : Nat} (ho : o.op = .alloc e) (hz : zeroT P e = some (z, n)) (hfl : z.all flat1 = true) :
    CDo P o fr H (fun r H' => ∃ g, r = some (.pointer (some ⟨g, 0, none⟩)) ∧ H.Le H' ∧ H.next ≤ g ∧ H'.get g = some (.row z e true)) :=
  .alloc ho hz hfl ⟨_, rfl, GHeap.le_push _ _, Nat.le_refl _, GHeap.get_push_new _ _⟩
theorem CDo.litR {t e : TypeId} {len n : Nat} {parts : Array (Nat × Operand)} {z vs cs : List Value} (ho : o.op = .buildSlice t len parts) (ht : sliceT P t = some (e, n)) (hz : zeroT P e = some (z, n)) (hfl : z.all flat1 = true) (hzn : z.length = n) (h0 : 0 < n)
    (hsm : len * n ≤ 16777216) (hv : evs fr (parts.toList.map (·.2)) = some vs) (hc : fillL (fun i => some (i * n, n)) (madeL z (len * n)) ((parts.toList.map (·.1)).zip vs) = some cs) :
    CDo P o fr H (fun r H' => ∃ g, r = some (.slice (some ⟨g, 0, none⟩) len len) ∧ H.Le H' ∧ H.next ≤ g ∧ H'.get g = some (.row cs e true)) :=
  .buildSlice ho ht hz hfl hzn h0 hsm hv hc ⟨_, rfl, GHeap.le_push _ _, Nat.le_refl _, GHeap.get_push_new _ _⟩
theorem CDo.storeR {t : TypeId} {x y : Operand} {g off : Nat} {v : Value} {cs : List Value} {e : TypeId} (ho : o.op = .store t x y) (ht : (P.info? t).map (·.size) = some 1) (hx : ev fr x = some (.pointer (some ⟨g, off, none⟩))) (hy : ev fr y = some v)
    (h1 : v.oneCell' = true) (hg : H.get g = some (.row cs e true)) (hoff : off < cs.length) :
    CDo P o fr H (fun r H' => r = none ∧ St [g] H H' ∧ H'.get g = some (.row (cs.set off v) e true)) :=
  .store ho ht hx hy h1 hg hoff ⟨rfl, .of_set, GHeap.get_set_eq (GHeap.ltg hg)⟩
theorem CDo.storeI {t : TypeId} {x y : Operand} {g off : Nat} {m : Int} {ys : List Int} {e : TypeId} (ho : o.op = .store t x y) (ht : (P.info? t).map (·.size) = some 1) (hx : ev fr x = some (.pointer (some ⟨g, off, none⟩))) (hy : ev fr y = some (.int .i64 m))
    (hg : H.get g = some (.row (ints ys) e true)) (hoff : off < ys.length) :
    CDo P o fr H (fun r H' => r = none ∧ St [g] H H' ∧ H'.get g = some (.row (ints (ys.set off m)) e true)) := by
  rw [← ints_set]; exact .storeR ho ht hx hy rfl hg (by simpa using hoff)
theorem CDo.storeNR {t : TypeId} {x y : Operand} {g off n : Nat} {vs : Array Value} {cs : List Value} {e : TypeId} (ho : o.op = .store t x y) (ht : (P.info? t).map (·.size) = some n) (hx : ev fr x = some (.pointer (some ⟨g, off, none⟩))) (hy : ev fr y = some (.agg vs))
    (hn : vs.size = n) (h1 : vs.toList.all (·.oneCell') = true) (hg : H.get g = some (.row cs e true)) (hoff : off + n ≤ cs.length) :
    CDo P o fr H (fun r H' => r = none ∧ St [g] H H' ∧ H'.get g = some (.row (setAll cs off vs.toList) e true)) :=
  .storeN ho ht hx hy hn h1 hg hoff ⟨rfl, .of_set, GHeap.get_set_eq (GHeap.ltg hg)⟩
theorem CDo.fillR {t : TypeId} {x y : Operand} {g n : Nat} {vs : Array Value} {cs : List Value} {e : TypeId} (ho : o.op = .store t x y) (ht : (P.info? t).map (·.size) = some n) (hx : ev fr x = some (.pointer (some ⟨g, 0, none⟩))) (hy : ev fr y = some (.agg vs))
    (hn : vs.size = n) (h1 : vs.toList.all (·.oneCell') = true) (hg : H.get g = some (.row cs e true)) (hoff : cs.length = n) :
    CDo P o fr H (fun r H' => r = none ∧ St [g] H H' ∧ H'.get g = some (.row vs.toList e true)) := by
  have : setAll cs 0 vs.toList = vs.toList := setAll_all _ _ (by simp [hoff, hn])
  have h := CDo.storeNR (P := P) (H := H) ho ht hx hy hn h1 hg (by omega)
  rw [this] at h
  exact h
theorem CDo.litA {t e : TypeId} {len n : Nat} {parts : Array (Nat × Operand)} {z vs cs : List Value} (ho : o.op = .buildSlice t len parts) (ht : sliceT P t = some (e, n)) (hz : zeroT P e = some (z, n)) (hfl : z.all flat1 = true) (hzn : z.length = n) (hv : evs fr (parts.toList.map (·.2)) = some vs) (hc : fillL (fun i => some (i * n, n)) (madeL z (len * n)) ((parts.toList.map (·.1)).zip vs) = some cs) (h0 : 0 < n := by omega)
    (hsm : len * n ≤ 16777216 := by omega) : CDo P o fr H (fun r H' => ∃ g, r = some (.slice (some ⟨g, 0, none⟩) len len) ∧ H.Le H' ∧ H.next ≤ g ∧ H'.get g = some (.row cs e true)) := .litR ho ht hz hfl hzn h0 hsm hv hc
theorem CDo.fillA {t : TypeId} {x y : Operand} {g n : Nat} {vs : Array Value} {cs : List Value} {e : TypeId} (ho : o.op = .store t x y) (ht : (P.info? t).map (·.size) = some n) (hx : ev fr x = some (.pointer (some ⟨g, 0, none⟩))) (hy : ev fr y = some (.agg vs))
    (hn : vs.size = n) (h1 : vs.toList.all (·.oneCell') = true) (hg : H.get g = some (.row cs e true) := by assumption) (hoff : cs.length = n := by first | rfl | exact Nat.le_of_ble_eq_true rfl | simp) :
    CDo P o fr H (fun r H' => r = none ∧ St [g] H H' ∧ H'.get g = some (.row vs.toList e true)) := .fillR ho ht hx hy hn h1 hg hoff
theorem CDo.appendR {t tx e : TypeId} {s x : Operand} {g off n m sz bytes : Nat} {z cs news : List Value} (ho : o.op = .call { callee := .builtin .append, args := #[s, x], argTypes := #[t, tx] }) (ht : sliceT P t = some (e, sz)) (hz : zeroT P e = some (z, sz)) (hzn : z.length = sz)
    (hb : (P.info? e).map (·.bytes) = some bytes) (hsv : ev fr s = some (.slice (some ⟨g, off, none⟩) n n)) (hg : H.get g = some (.row cs e true)) (hend : off + n * sz = cs.length) (hsrc : SrcG P fr H sz tx x m news)
    (hN : n + m ≤ 16777216) (hB : (n + m) * bytes ≤ 140737488355328) :
    CDo P o fr H (fun r H' => ∃ g', r = some (.slice (some ⟨g', 0, none⟩) (n + m) (n + m)) ∧ St [g] H H' ∧ H.next ≤ g' ∧ H'.get g' = some (.row (cs.drop off ++ news) e true)) :=
  .append ho ht hz hzn hb hsv hg hend hsrc (by unfold maxLen; omega) hB ⟨_, rfl, .push .of_set, Nat.le_refl _, by have := GHeap.get_push_new (H.set g none) (.row (cs.drop off ++ news) e true); rwa [GHeap.next_set] at this⟩
theorem CDo.appendV {t tx e e' : TypeId} {s x : Operand} {g g1 n sz bytes : Nat} {z cs vs : List Value} (ho : o.op = .call { callee := .builtin .append, args := #[s, x], argTypes := #[t, tx] }) (ht : sliceT P t = some (e, sz)) (hz : zeroT P e = some (z, sz)) (hzn : z.length = sz)
    (hb : (P.info? e).map (·.bytes) = some bytes) (htx : sliceT P tx = some (e', sz)) (hsv : ev fr s = some (.slice (some ⟨g, 0, none⟩) n n)) (hx : ev fr x = some (.slice (some ⟨g1, 0, none⟩) 1 1)) (hg : H.get g = some (.row cs e true)) (hg1 : H.get g1 = some (.row vs e' true)) (hend : n * sz = cs.length)
    (hv : vs.length = sz) (hone : vs.all (·.oneCell') = true) (hN : n + 1 ≤ 16777216) (hB : (n + 1) * bytes ≤ 140737488355328) :
    CDo P o fr H (fun r H' => ∃ g', r = some (.slice (some ⟨g', 0, none⟩) (n + 1) (n + 1)) ∧ St [g] H H' ∧ H.next ≤ g' ∧ H'.get g' = some (.row (cs ++ vs) e true)) :=
  .appendR (cs := cs) (news := vs) ho ht hz hzn hb hsv hg (by omega) (.slice htx hx (by omega) (fun i v hv => by rw [GHeap.cell_of hg1, Nat.zero_add]; exact hv) (fun v hv => List.all_eq_true.1 hone v hv)) hN hB
theorem CDo.appendI {t tx e e' : TypeId} {s x : Operand} {g g1 n bytes : Nat} {z : List Value} {ys : List Int} {m : Int} (ho : o.op = .call { callee := .builtin .append, args := #[s, x], argTypes := #[t, tx] }) (ht : sliceT P t = some (e, 1)) (hz : zeroT P e = some (z, 1)) (hzn : z.length = 1)
    (hb : (P.info? e).map (·.bytes) = some bytes) (htx : sliceT P tx = some (e', 1)) (hsv : ev fr s = some (.slice (some ⟨g, 0, none⟩) n n)) (hx : ev fr x = some (.slice (some ⟨g1, 0, none⟩) 1 1)) (hg : H.get g = some (.row (ints ys) e true)) (hg1 : H.get g1 = some (.row [.int .i64 m] e' true)) (hend : n = ys.length)
    (hN : n + 1 ≤ 16777216) (hB : (n + 1) * bytes ≤ 140737488355328) :
    CDo P o fr H (fun r H' => ∃ g', r = some (.slice (some ⟨g', 0, none⟩) (n + 1) (n + 1)) ∧ St [g] H H' ∧ H.next ≤ g' ∧ H'.get g' = some (.row (ints (ys ++ [m])) e true)) := by
  have e1 : ints (ys ++ [m]) = ints ys ++ [.int .i64 m] := by simp [ints]
  rw [e1]
  exact .appendV ho ht hz hzn hb htx hsv hx hg hg1 (by simp; omega) rfl rfl hN hB
end

def filtN (n : Nat) (p : Nat → Bool) : List Int := ((List.range n).filter p).map fun (i : Nat) => (i : Int)
theorem filtN_T {n : Nat} {p : Nat → Bool} (h : p n = true) : filtN (n + 1) p = filtN n p ++ [(n : Int)] := by simp [filtN, List.range_succ, h]
theorem filtN_F {n : Nat} {p : Nat → Bool} (h : p n = false) : filtN (n + 1) p = filtN n p := by simp [filtN, List.range_succ, h]
theorem filtN_le (n : Nat) (p : Nat → Bool) : (filtN n p).length ≤ n := by
  unfold filtN; rw [List.length_map]; exact Nat.le_trans (List.length_filter_le _ _) (by simp)
theorem mem_filtN {n : Nat} {p : Nat → Bool} {x : Int} : x ∈ filtN n p ↔ ∃ i, i < n ∧ p i = true ∧ x = i := by
  simp only [filtN, List.mem_map, List.mem_filter, List.mem_range]
  exact ⟨fun ⟨i, ⟨h1, h2⟩, h3⟩ => ⟨i, h1, h2, h3.symm⟩, fun ⟨i, h1, h2, h3⟩ => ⟨i, ⟨h1, h2⟩, h3.symm⟩⟩
theorem getD_mem {xs : List Int} {i : Nat} (h : i < xs.length) : xs.getD i 0 ∈ xs := by
  rw [List.getD_eq_getElem?_getD, List.getElem?_eq_getElem h]; exact List.getElem_mem h
theorem filtN_get {n : Nat} {p : Nat → Bool} {i : Nat} (h : i < (filtN n p).length) : ∃ j, j < n ∧ p j = true ∧ (filtN n p).getD i 0 = j := mem_filtN.1 (getD_mem h)

def firstIn (xs : List Int) (p : Int → Bool) : Int := (xs.find? p).getD (-1)
end Go.GL
namespace Go.GL

def Cat.hom (c : Cat) (x y : Int) : List Int := filtN c.src.length fun f => decide (c.src.getD f 0 = x) && decide (c.tgt.getD f 0 = y)
def Cat.invB (c : Cat) (f g : Int) : Bool := decide (c.th f g = c.idn.getD (c.src.getD f.toNat 0).toNat 0) && decide (c.th g f = c.idn.getD (c.tgt.getD f.toNat 0).toNat 0)
def Cat.inv (c : Cat) (f : Int) : Int := firstIn (c.hom (c.tgt.getD f.toNat 0) (c.src.getD f.toNat 0)) (c.invB f)
theorem Cat.hom_get {c : Cat} {x y : Int} {i : Nat} (h : i < (c.hom x y).length) : ∃ f : Nat, f < c.src.length ∧ c.src.getD f 0 = x ∧ c.tgt.getD f 0 = y ∧ (c.hom x y).getD i 0 = f := by
  obtain ⟨j, h1, h2, h3⟩ := filtN_get h
  simp only [sps] at h2
  exact ⟨j, h1, h2.1, h2.2, h3⟩
theorem Cat.hom_le (c : Cat) (x y : Int) : (c.hom x y).length ≤ c.src.length := filtN_le _ _

end Go.GL
namespace Go.Proofs.Ytiooclghkafokaa
open Go Go.GL Go.RowKit Go.Proofs
theorem hom_c {g o : Nat} {c : Cat} {p : CatP} {x y : Int} {H : GHeap} (h : Cat.At H g o c p := by assumption) (hS : c.Shape := by assumption) :
    GCalls Try.prog 123 [.pointer (some ⟨g, o, none⟩), .int .i64 x, .int .i64 y] H (NewInts 2 H (c.hom x y)) := by
  refine GCalls.body (N := 44) (rs := [.tmp 6]) Try.func123 rfl rfl rfl rfl (fun Qx a2 hend => ?_)
  refine .fg [0, 1, 2] rfl ?_
  have d := GHeap.Le.refl H
  have a := h
  have q1 := hS.tl
  have q2 := hS.n40
  refine .seq (fun K1 a8 => .region (.mv rfl (.nil (a8 _ _ (.seq (fun K2 b2 => .region ?_))))))
  refine .R rfl (.litA rfl sl_24_A ze_2_E rfl rfl rfl rfl) ?_
  rintro _ H9 ⟨g9, rfl, a5, ge9, w⟩
  replace d := d.trans a5
  have lt_at9 := GHeap.ltg w
  replace h := a.mono d
  obtain ⟨-, c1, -, -, -, -, -, -, -⟩ := h.get
  replace w : GHeap.get H9 g9 = some (.row (ints []) 2 true) := w
  refine .mv rfl (.nil (b2 _ _ (.seq (fun K3 b1 => .seq (fun K4 b0 => .region (.mv rfl (.q rfl (.nilCheck rfl) (.q rfl (.fieldAddr fo_27_1_B rfl) ?_))))))))
  refine .q rfl (.load on_24_B rfl (by assumption)) ?_
  refine .q rfl (.len sl_24_A rfl) (.mv rfl (.nil (b0 _ _ ?_)))
  refine .block ?_
  refine .loopR (σ := Nat × Nat × Nat) [(0, some _), (1, some _), (2, some _), (14, some _)] (fun (k, i, j) => [(15, some (.int .i64 (k : Int))), (7, some (.slice (some ⟨i, 0, none⟩) j j))]) (fun (k, i, j) H' => St [g9] H9 H' ∧ H'.get i = some (.row (ints (filtN k fun f => decide (c.src.getD f 0 = x) && decide (c.tgt.getD f 0 = y))) 2 true) ∧ (i = g9 ∨ H9.next ≤ i) ∧ j = (filtN k fun f => decide (c.src.getD f 0 = x) && decide (c.tgt.getD f 0 = y)).length ∧ k ≤ c.src.length) (fun (k, i, j) => c.src.length - k) ((0, _, _)) ⟨rfl, rfl, rfl, rfl, trivial⟩ ⟨rfl, rfl, trivial⟩ ?_ ?_
  ·
   refine ⟨.refl _ _, by assumption, .inl rfl, by rfl, ?_⟩
   omega
  rintro ⟨k, i, j⟩ HL1 ⟨b, e, pl_L7, n, hI⟩ KL1 l
  refine .forget (fr' := [(15, some (.int .i64 (k : Int))), (7, some (.slice (some ⟨i, 0, none⟩) j j)), (0, some _), (1, some _), (2, some _), (14, some _)]) ⟨rfl, rfl, rfl, rfl, rfl, rfl, trivial⟩ ?_
  have r : H.next ≤ i := by omega
  have nx_HL1 := b.nx
  replace d := d.st b (fun k hk => ⟨by omega, trivial⟩)
  replace h := a.mono d
  clear c1
  obtain ⟨-, c1, c2, -, -, i1, i2, -, -⟩ := h.get
  have hfl := filtN_le k fun f => decide (c.src.getD f 0 = x) && decide (c.tgt.getD f 0 = y)
  refine .seq (fun K5 a9 => .region (.q rfl (.cmp rfl rfl rfl) (.nil (a9 _ _ (.seq (fun K6 a6 => ?_))))))
  refine .cond rfl (fun v => ?_) (fun v => ?_)
  ·
   try simp only [sps] at v
   refine .skip ?_
   refine a6 _ _ (.seq (fun K7 a3 => ?_))
   refine .block ?_
   refine .seq (fun K8 a7 => .region (.mv rfl (.mv rfl (.nil (a7 _ _ (.seq (fun K9 a4 => .region (.mv rfl (.q rfl (.nilCheck rfl) (.q rfl (.fieldAddr fo_27_1_B rfl) ?_))))))))))
   refine .q rfl (.load on_24_B rfl (by assumption)) ?_
   refine .mv rfl ?_
   refine .q rfl (.idxN sl_24_A (by assumption) rfl rfl (by omega)) ?_
   refine .q rfl (.loadI on_2_A (by assumption) rfl (by omega)) ?_
   refine .mv rfl (.q rfl (.cmp rfl rfl rfl) (.mv rfl ?_))
   refine .split (fun u => ?_) (fun u => ?_)
   ·
    try simp only [sps] at u
    refine .qg rfl (.move rfl) (.qg rfl (.nilCheck rfl) (.qg rfl (.fieldAddr fo_27_2_B rfl) ?_))
    refine .qg rfl (.load on_24_B rfl (by assumption)) ?_
    refine .qg rfl (.move rfl) ?_
    refine .qg rfl (.idxN sl_24_A (by assumption) rfl rfl (by omega)) ?_
    refine .qg rfl (.loadI on_2_A (by assumption) rfl (by omega)) ?_
    refine .qg rfl (.move rfl) (.qg rfl (.cmp rfl rfl rfl) (.q rfl (.pickT rfl rfl) (.nil (a4 _ _ ?_))))
    refine .cond rfl (fun a0 => ?_) (fun a0 => ?_)
    ·
     try simp only [sps] at a0
     refine .region (.mv rfl (.mv rfl ?_))
     refine .R rfl (.litA rfl sl_24_A ze_2_E rfl rfl rfl rfl) ?_
     rintro _ H40 ⟨g40, rfl, m, ge40, t⟩
     replace d := d.trans m
     replace b := b.le m
     replace e := m.2 _ _ e
     have lt_at40 := GHeap.ltg t
     replace h := a.mono d
     clear c1 c2 i1 i2
     refine .R rfl (.appendI rfl sl_24_A ze_2_E rfl by_2_E sl_24_A rfl rfl (by assumption) (by assumption) (by first | omega | (simp <;> omega)) (by omega) (by omega)) ?_
     rintro _ H41 ⟨g41, rfl, s, ge41, at41⟩
     replace d := d.st s (fun k hk => ⟨by omega, trivial⟩)
     replace b := b.sA s
     replace h := a.mono d
     refine .mv rfl (.nil (a3 _ _ (.region ?_)))
     refine .q rfl (.add rfl rfl rfl (by omega) (by omega)) ?_
     refine .mv rfl (.nil ?_)
     refine l ((k + 1, _, _)) _ _ ?_ ?_ ⟨rfl, rfl, rfl, rfl, rfl, rfl, trivial⟩
     ·
      refine ⟨b, by (rw [filtN_T (by simp only [sps]; omega)]; assumption), by omega, by (rw [filtN_T (by simp only [sps]; omega)] <;> (first | omega | (simp only [List.length_append, List.length_cons, List.length_nil] <;> omega))), ?_⟩
      omega
     (dsimp only; omega)
    try simp only [sps] at a0
    refine .skip ?_
    refine a3 _ _ (.region ?_)
    refine .q rfl (.add rfl rfl rfl (by omega) (by omega)) ?_
    refine .mv rfl (.nil ?_)
    refine l ((k + 1, _, _)) _ _ ?_ ?_ ⟨rfl, rfl, rfl, rfl, rfl, rfl, trivial⟩
    ·
     refine ⟨b, by (rw [filtN_F (by simp only [sps]; omega)]; assumption), by omega, by (rw [filtN_F (by simp only [sps]; omega)] <;> (first | omega | (simp only [List.length_append, List.length_cons, List.length_nil] <;> omega))), ?_⟩
     omega
    (dsimp only; omega)
   try simp only [sps] at u
   refine .z rfl (.z rfl (.z rfl (.z rfl (.z rfl (.z rfl (.z rfl (.z rfl (.z rfl (.q rfl (.pickF rfl rfl) (.nil (a4 _ _ ?_)))))))))))
   refine .condF rfl ?_
   refine .skip ?_
   refine a3 _ _ (.region ?_)
   refine .q rfl (.add rfl rfl rfl (by omega) (by omega)) ?_
   refine .mv rfl (.nil ?_)
   refine l ((k + 1, _, _)) _ _ ?_ ?_ ⟨rfl, rfl, rfl, rfl, rfl, rfl, trivial⟩
   ·
    refine ⟨b, by (rw [filtN_F (by simp only [sps]; omega)]; assumption), by omega, by (rw [filtN_F (by simp only [sps]; omega)] <;> (first | omega | (simp only [List.length_append, List.length_cons, List.length_nil] <;> omega))), ?_⟩
    omega
   (dsimp only; omega)
  try simp only [sps] at v
  refine .exit ?_
  refine b1 _ _ (.seq (fun K10 a1 => .region (.mv rfl (.mv rfl (.nil (a1 _ _ ?_))))))
  refine .ret ?_
  refine a2 _ _ ?_
  refine ⟨_, rfl, ?_⟩
  obtain rfl : k = c.src.length := by omega
  exact ⟨d, _, by rw [n]; rfl, e, r⟩
end Go.Proofs.Ytiooclghkafokaa
namespace Go.GL
open Go.RowKit

def thenL (f g : List Int) : List Int := f.map fun y => g.getD y.toNat 0
noncomputable def Cat.iso (c : Cat) (x y : Int) : Int := firstIn (c.hom x y) fun g => decide (0 ≤ c.inv g)
end Go.GL
namespace Go.Proofs.Ytiooclghkafokaa
open Go Go.GL Go.RowKit Go.Proofs
theorem l02Hom_c {c : Cat} {p : CatP} {x y : Int} {H : GHeap} (hin : c.In H p := by assumption) (hS : c.Shape := by assumption) :
    GCalls Try.prog 114 [.agg (c.cells p).toArray, .int .i64 x, .int .i64 y] H (NewInts 2 H (c.hom x y)) := by
  refine GCalls.body (N := 38) (rs := [.tmp 6]) Try.func114 rfl rfl rfl rfl (fun Qx a1 hend => ?_)
  refine .fg [0, 1, 2] rfl ?_
  have e := GHeap.Le.refl H
  have a := hin
  have q1 := hS.tl
  have q2 := hS.n40
  refine .seq (fun K1 a8 => .region ?_)
  refine .R rfl (.boxR rfl sz_27_D rfl) ?_
  rintro _ H3 ⟨g3, rfl, b4, ge3, d⟩
  replace e := e.trans b4
  have lt_at3 := GHeap.ltg d
  replace hin := a.mono e
  have j : Cat.At _ g3 0 c p := ⟨Mem.of_get d, hin⟩
  refine .mv rfl (.nil (a8 _ _ (.seq (fun K2 b6 => .region ?_))))
  refine .R rfl (.litA rfl sl_24_A ze_2_E rfl rfl rfl rfl) ?_
  rintro _ H9 ⟨g9, rfl, a3, ge9, a0⟩
  replace e := e.trans a3
  replace d := a3.2 _ _ d
  have lt_at9 := GHeap.ltg a0
  replace hin := a.mono e
  clear j
  have j : Cat.At _ g3 0 c p := ⟨Mem.of_get d, hin⟩
  replace a0 : GHeap.get H9 g9 = some (.row (ints []) 2 true) := a0
  refine .mv rfl (.nil (b6 _ _ (.seq (fun K3 b3 => .seq (fun K4 b2 => .region (.mv rfl (.nil (b2 _ _ ?_))))))))
  refine .block ?_
  refine .loopR (σ := Nat × Nat × Nat) [(1, some _), (2, some _), (3, some _)] (fun (k, h, l) => [(8, some (.int .i64 (k : Int))), (7, some (.slice (some ⟨h, 0, none⟩) l l))]) (fun (k, h, l) H' => St [g9] H9 H' ∧ H'.get h = some (.row (ints (filtN k fun f => decide (c.src.getD f 0 = x) && decide (c.tgt.getD f 0 = y))) 2 true) ∧ (h = g9 ∨ H9.next ≤ h) ∧ l = (filtN k fun f => decide (c.src.getD f 0 = x) && decide (c.tgt.getD f 0 = y)).length ∧ k ≤ c.src.length) (fun (k, h, l) => c.src.length - k) ((0, _, _)) ⟨rfl, rfl, rfl, trivial⟩ ⟨rfl, rfl, trivial⟩ ?_ ?_
  ·
   refine ⟨.refl _ _, by assumption, .inl rfl, by rfl, ?_⟩
   omega
  rintro ⟨k, h, l⟩ HL1 ⟨b, g, pl_L7, o, hI⟩ KL1 m
  refine .forget (fr' := [(8, some (.int .i64 (k : Int))), (7, some (.slice (some ⟨h, 0, none⟩) l l)), (1, some _), (2, some _), (3, some _)]) ⟨rfl, rfl, rfl, rfl, rfl, trivial⟩ ?_
  have r : H.next ≤ h := by omega
  have nx_HL1 := b.nx
  replace e := e.st b (fun k hk => ⟨by omega, trivial⟩)
  replace d := b.s d
  replace hin := a.mono e
  clear j
  have j : Cat.At _ g3 0 c p := ⟨Mem.of_get d, hin⟩
  obtain ⟨-, a5, a9, -, -, a6, b1, -, -⟩ := j.get
  have hfl := filtN_le k fun f => decide (c.src.getD f 0 = x) && decide (c.tgt.getD f 0 = y)
  refine .seq (fun K5 b0 => .seq (fun K6 a7 => .region (.mv rfl (.q rfl (.fieldAddr fo_27_1_B rfl) ?_))))
  refine .q rfl (.load on_24_B rfl (by first | assumption | exact Mem.of_get d 1 _ rfl)) ?_
  refine .q rfl (.len sl_24_A rfl) (.q rfl (.cmp rfl rfl rfl) (.nil (a7 _ _ ?_)))
  refine .cond rfl (fun t => ?_) (fun t => ?_)
  ·
   try simp only [sps] at t
   refine .skip ?_
   refine b0 _ _ (.seq (fun K7 a2 => ?_))
   refine .block ?_
   refine .seq (fun K8 a4 => .region (.q rfl (.fieldAddr fo_27_1_B rfl) ?_))
   refine .q rfl (.load on_24_B rfl (by first | assumption | exact Mem.of_get d 1 _ rfl)) ?_
   refine .mv rfl ?_
   refine .q rfl (.idxN sl_24_A (by assumption) rfl rfl (by omega)) ?_
   refine .q rfl (.loadI on_2_A (by assumption) rfl (by omega)) ?_
   refine .mv rfl (.q rfl (.cmp rfl rfl rfl) (.mv rfl ?_))
   refine .split (fun u => ?_) (fun u => ?_)
   ·
    try simp only [sps] at u
    refine .qg rfl (.fieldAddr fo_27_2_B rfl) ?_
    refine .qg rfl (.load on_24_B rfl (by first | assumption | exact Mem.of_get d 2 _ rfl)) ?_
    refine .qg rfl (.move rfl) ?_
    refine .qg rfl (.idxN sl_24_A (by assumption) rfl rfl (by omega)) ?_
    refine .qg rfl (.loadI on_2_A (by assumption) rfl (by omega)) ?_
    refine .qg rfl (.move rfl) (.qg rfl (.cmp rfl rfl rfl) (.q rfl (.pickT rfl rfl) (.nil (a4 _ _ ?_))))
    refine .cond rfl (fun w => ?_) (fun w => ?_)
    ·
     try simp only [sps] at w
     refine .region (.mv rfl (.mv rfl ?_))
     refine .R rfl (.litA rfl sl_24_A ze_2_E rfl rfl rfl rfl) ?_
     rintro _ H35 ⟨g35, rfl, i, ge35, v⟩
     replace e := e.trans i
     replace b := b.le i
     replace d := i.2 _ _ d
     replace g := i.2 _ _ g
     have lt_at35 := GHeap.ltg v
     replace hin := a.mono e
     clear j a5 a9 a6 b1
     have j : Cat.At _ g3 0 c p := ⟨Mem.of_get d, hin⟩
     refine .R rfl (.appendI rfl sl_24_A ze_2_E rfl by_2_E sl_24_A rfl rfl (by assumption) (by assumption) (by first | omega | (simp <;> omega)) (by omega) (by omega)) ?_
     rintro _ H36 ⟨g36, rfl, n, ge36, at36⟩
     replace e := e.st n (fun k hk => ⟨by omega, trivial⟩)
     replace b := b.sA n
     replace d := n.s d
     replace hin := a.mono e
     clear j
     have j : Cat.At _ g3 0 c p := ⟨Mem.of_get d, hin⟩
     refine .mv rfl (.nil (a2 _ _ (.region (.mv rfl ?_))))
     refine .q rfl (.add rfl rfl rfl (by omega) (by omega)) ?_
     refine .mv rfl (.nil ?_)
     refine m ((k + 1, _, _)) _ _ ?_ ?_ ⟨rfl, rfl, rfl, rfl, rfl, trivial⟩
     ·
      refine ⟨b, by (rw [filtN_T (by simp only [sps]; omega)]; assumption), by omega, by (rw [filtN_T (by simp only [sps]; omega)] <;> (first | omega | (simp only [List.length_append, List.length_cons, List.length_nil] <;> omega))), ?_⟩
      omega
     (dsimp only; omega)
    try simp only [sps] at w
    refine .skip ?_
    refine a2 _ _ (.region (.mv rfl ?_))
    refine .q rfl (.add rfl rfl rfl (by omega) (by omega)) ?_
    refine .mv rfl (.nil ?_)
    refine m ((k + 1, _, _)) _ _ ?_ ?_ ⟨rfl, rfl, rfl, rfl, rfl, trivial⟩
    ·
     refine ⟨b, by (rw [filtN_F (by simp only [sps]; omega)]; assumption), by omega, by (rw [filtN_F (by simp only [sps]; omega)] <;> (first | omega | (simp only [List.length_append, List.length_cons, List.length_nil] <;> omega))), ?_⟩
     omega
    (dsimp only; omega)
   try simp only [sps] at u
   refine .z rfl (.z rfl (.z rfl (.z rfl (.z rfl (.z rfl (.z rfl (.q rfl (.pickF rfl rfl) (.nil (a4 _ _ ?_)))))))))
   refine .condF rfl ?_
   refine .skip ?_
   refine a2 _ _ (.region (.mv rfl ?_))
   refine .q rfl (.add rfl rfl rfl (by omega) (by omega)) ?_
   refine .mv rfl (.nil ?_)
   refine m ((k + 1, _, _)) _ _ ?_ ?_ ⟨rfl, rfl, rfl, rfl, rfl, trivial⟩
   ·
    refine ⟨b, by (rw [filtN_F (by simp only [sps]; omega)]; assumption), by omega, by (rw [filtN_F (by simp only [sps]; omega)] <;> (first | omega | (simp only [List.length_append, List.length_cons, List.length_nil] <;> omega))), ?_⟩
    omega
   (dsimp only; omega)
  try simp only [sps] at t
  refine .exit ?_
  refine b3 _ _ (.seq (fun K9 b5 => .region (.mv rfl (.mv rfl (.nil (b5 _ _ ?_))))))
  refine .ret ?_
  refine a1 _ _ ?_
  refine ⟨_, rfl, ?_⟩
  obtain rfl : k = c.src.length := by omega
  exact ⟨e, _, by rw [o]; rfl, g, r⟩
theorem l02Then_c {c : Cat} {p : CatP} {f k : Int} {H : GHeap} (hin : c.In H p := by assumption) (hS : c.Shape := by assumption) (h0 : 0 ≤ f := by omega) (h1 : f < c.src.length := by omega) (h2 : 0 ≤ k := by omega) (h3 : k < c.src.length := by omega) :
    GCalls Try.prog 209 [.agg (c.cells p).toArray, .int .i64 f, .int .i64 k] H (Ret (.int .i64 (c.th f k)) H) := by
  refine GCalls.ret rfl ?_
  refine GCalls.body (N := 15) (rs := [.tmp 6]) Try.func209 rfl rfl rfl rfl (fun Qx d hend => ?_)
  refine .fg [0, 1, 2] rfl ?_
  have b := GHeap.Le.refl H
  have a := hin
  have q6 := hS.cl
  have q7 := hS.row f.toNat (by omega)
  refine .seq (fun K1 g => .region ?_)
  refine .R rfl (.boxR rfl sz_27_D rfl) ?_
  rintro _ H3 ⟨g3, rfl, l, ge3, e⟩
  replace b := b.trans l
  replace hin := a.mono b
  have h : Cat.At _ g3 0 c p := ⟨Mem.of_get e, hin⟩
  obtain ⟨-, -, -, -, c43, -, -, -, j⟩ := h.get
  refine .mv rfl (.nil (g _ _ (.seq (fun K2 i => .region ?_))))
  have q8 := j.2 f.toNat (by omega)
  refine .q rfl (.fieldAddr fo_27_4_B rfl) ?_
  refine .q rfl (.load on_25_B rfl (by first | assumption | exact Mem.of_get e 4 _ rfl)) ?_
  refine .mv rfl ?_
  refine .q rfl (.idx1 sl_25_B (Intss.sl (by assumption)) rfl rfl (by omega) (by omega)) ?_
  refine .q rfl (.loadR on_24_B (by assumption) rfl (by omega)) ?_
  refine .mv rfl ?_
  refine .q rfl (.idx1 sl_24_A (by assumption) rfl rfl (by omega) (by omega)) ?_
  refine .q rfl (.loadI on_2_A (by assumption) rfl (by omega)) ?_
  refine .mv rfl (.nil (i _ _ ?_))
  refine .ret ?_
  refine d _ _ ?_
  refine ⟨_, rfl, ?_⟩
  exact ⟨rfl, b⟩
end Go.Proofs.Ytiooclghkafokaa
namespace Go.GL
open Go.RowKit
section
variable {P : Program} {B : Nat} {w0 : World} {ρ : Place} {H : GHeap} {w : World} {fr : Slots} {o : Oper} {R : Option Value → GHeap → Prop}
end
end Go.GL
namespace Go.GL
open Go.RowKit Go.WideShapes Go.ChangeShapes Go.Deep

def Intsss (H : GHeap) (a : Option Addr) (x : List (List (List Int))) (r : Nat → Option Addr) (s : Nat → Nat → Option Addr) : Prop :=
  SlA H a x.length (fun i => .slice (r i) (x.getD i []).length (x.getD i []).length) ∧ ∀ i, i < x.length → Intss H (r i) (x.getD i []) (s i)
def Wd2 (xss : List (List Int)) : Prop := xss.length ≤ 9223372036854775807 ∧ ∀ i, I64s (xss.getD i [])
def Wd3 (x : List (List (List Int))) : Prop := x.length ≤ 9223372036854775807 ∧ ∀ i, Wd2 (x.getD i [])
def Sm3 (x : List (List (List Int))) : Prop := x.length ≤ 1048576 ∧ ∀ i, (x.getD i []).length ≤ 1048576 ∧ ∀ j, ((x.getD i []).getD j []).length ≤ 1048576
end Go.GL
namespace Go.GL
open Go.RowKit
structure SFun where
  sh : Cat
  sz : List Int
  ac : List (List Int)
structure SFunP where
  sh : CatP
  a1 : Option Addr
  a2 : Option Addr
  r2 : Nat → Option Addr
def SFun.cells (c : SFun) (p : SFunP) : List Value := c.sh.cells p.sh ++ ([.slice p.a1 c.sz.length c.sz.length] ++ ([.slice p.a2 c.ac.length c.ac.length]))
def SFun.In (H : GHeap) (c : SFun) (p : SFunP) : Prop := c.sh.In H p.sh ∧ Ints H p.a1 c.sz ∧ Intss H p.a2 c.ac p.r2
def SFun.At (H : GHeap) (g o : Nat) (c : SFun) (p : SFunP) : Prop := Mem H g o (c.cells p) ∧ c.In H p
def SFun.Small (c : SFun) : Prop := c.sh.Small ∧ c.sz.length ≤ 1048576 ∧ (c.ac.length ≤ 1048576 ∧ ∀ i, (c.ac.getD i []).length ≤ 1048576)
def SFun.Wide (c : SFun) : Prop := c.sh.Wide ∧ I64s c.sz ∧ (c.ac.length ≤ 9223372036854775807 ∧ ∀ i, I64s (c.ac.getD i []))
structure SMap where
  s : SFun
  t : SFun
  pa : List (List Int)
structure SMapP where
  s : SFunP
  t : SFunP
  a2 : Option Addr
  r2 : Nat → Option Addr
def SMap.cells (c : SMap) (p : SMapP) : List Value := c.s.cells p.s ++ (c.t.cells p.t ++ ([.slice p.a2 c.pa.length c.pa.length]))
def SMap.In (H : GHeap) (c : SMap) (p : SMapP) : Prop := c.s.In H p.s ∧ c.t.In H p.t ∧ Intss H p.a2 c.pa p.r2
def SMap.At (H : GHeap) (g o : Nat) (c : SMap) (p : SMapP) : Prop := Mem H g o (c.cells p) ∧ c.In H p
def SMap.Small (c : SMap) : Prop := c.s.Small ∧ c.t.Small ∧ (c.pa.length ≤ 1048576 ∧ ∀ i, (c.pa.getD i []).length ≤ 1048576)
def SMap.Wide (c : SMap) : Prop := c.s.Wide ∧ c.t.Wide ∧ (c.pa.length ≤ 9223372036854775807 ∧ ∀ i, I64s (c.pa.getD i []))
structure Con where
  ap : Int
  lg : List Int
structure ConP where
  a1 : Option Addr
def Con.cells (c : Con) (p : ConP) : List Value := [.int .i64 c.ap] ++ ([.slice p.a1 c.lg.length c.lg.length])
def Con.In (H : GHeap) (c : Con) (p : ConP) : Prop := Ints H p.a1 c.lg
def Con.At (H : GHeap) (g o : Nat) (c : Con) (p : ConP) : Prop := Mem H g o (c.cells p) ∧ c.In H p
def Con.Small (c : Con) : Prop := (-9223372036854775808 ≤ c.ap ∧ c.ap ≤ 9223372036854775807) ∧ c.lg.length ≤ 1048576
def Con.Wide (c : Con) : Prop := I64 c.ap ∧ I64s c.lg
structure Prt where
  me : List (List Int)
structure PrtP where
  a0 : Option Addr
  r0 : Nat → Option Addr
def Prt.cells (c : Prt) (p : PrtP) : List Value := [.slice p.a0 c.me.length c.me.length]
def Prt.In (H : GHeap) (c : Prt) (p : PrtP) : Prop := Intss H p.a0 c.me p.r0
def Prt.At (H : GHeap) (g o : Nat) (c : Prt) (p : PrtP) : Prop := Mem H g o (c.cells p) ∧ c.In H p
def Prt.Small (c : Prt) : Prop := (c.me.length ≤ 1048576 ∧ ∀ i, (c.me.getD i []).length ≤ 1048576)
def Prt.Wide (c : Prt) : Prop := (c.me.length ≤ 9223372036854775807 ∧ ∀ i, I64s (c.me.getD i []))
structure Prof where
  s : Cat
  t : Cat
  sz : List (List Int)
  be : List (List (List Int))
  bh : List (List (List Int))
structure ProfP where
  s : CatP
  t : CatP
  a2 : Option Addr
  r2 : Nat → Option Addr
  a3 : Option Addr
  r3 : Nat → Option Addr
  s3 : Nat → Nat → Option Addr
  a4 : Option Addr
  r4 : Nat → Option Addr
  s4 : Nat → Nat → Option Addr
def Prof.cells (c : Prof) (p : ProfP) : List Value := c.s.cells p.s ++ (c.t.cells p.t ++ ([.slice p.a2 c.sz.length c.sz.length] ++ ([.slice p.a3 c.be.length c.be.length] ++ ([.slice p.a4 c.bh.length c.bh.length]))))
def Prof.In (H : GHeap) (c : Prof) (p : ProfP) : Prop := c.s.In H p.s ∧ c.t.In H p.t ∧ Intss H p.a2 c.sz p.r2 ∧ Intsss H p.a3 c.be p.r3 p.s3 ∧ Intsss H p.a4 c.bh p.r4 p.s4
def Prof.At (H : GHeap) (g o : Nat) (c : Prof) (p : ProfP) : Prop := Mem H g o (c.cells p) ∧ c.In H p
def Prof.Small (c : Prof) : Prop := c.s.Small ∧ c.t.Small ∧ (c.sz.length ≤ 1048576 ∧ ∀ i, (c.sz.getD i []).length ≤ 1048576) ∧ Sm3 c.be ∧ Sm3 c.bh
def Prof.Wide (c : Prof) : Prop := c.s.Wide ∧ c.t.Wide ∧ (c.sz.length ≤ 9223372036854775807 ∧ ∀ i, I64s (c.sz.getD i [])) ∧ Wd3 c.be ∧ Wd3 c.bh
end Go.GL
namespace Go.GL

structure StM (lo hi : Nat) (H H' : GHeap) : Prop where
  nx : H.next ≤ H'.next
  same : ∀ k o, ¬ (lo ≤ k ∧ k < hi) → H.get k = some o → H'.get k = some o
  ins : ∀ k o, H.get k = some o → ∃ o', H'.get k = some o' ∧ (o' = o ∨ ∃ xs ys e, o = .row (ints xs) e true ∧ o' = .row (ints ys) e true ∧ ys.length = xs.length)
theorem StM.refl (lo hi : Nat) (H : GHeap) : StM lo hi H H := ⟨Nat.le_refl _, fun _ _ _ h => h, fun _ o h => ⟨o, h, .inl rfl⟩⟩
theorem StM.of_le {lo hi : Nat} {H H' : GHeap} (h : H.Le H') : StM lo hi H H' := ⟨h.1, fun k o _ ho => h.2 k o ho, fun _ o ho => ⟨o, h.2 _ _ ho, .inl rfl⟩⟩
theorem ints_inj {xs ys : List Int} (h : ints xs = ints ys) : xs = ys := by
  unfold ints at h
  exact (List.map_inj_right (fun a b hab => by cases hab; rfl)).1 h
theorem StM.trans {lo hi : Nat} {A B C : GHeap} (h : StM lo hi A B) (k : StM lo hi B C) : StM lo hi A C where
  nx := Nat.le_trans h.nx k.nx
  same g o hg ho := k.same g o hg (h.same g o hg ho)
  ins g o ho := by
    obtain ⟨o1, h1, h2⟩ := h.ins g o ho
    obtain ⟨o2, k1, k2⟩ := k.ins g o1 h1
    refine ⟨o2, k1, ?_⟩
    rcases h2 with rfl | ⟨xs, ys, e, rfl, rfl, hl⟩
    · exact k2
    · rcases k2 with rfl | ⟨us, vs, e', h3, rfl, hl'⟩
      · exact .inr ⟨xs, ys, e, rfl, rfl, hl⟩
      · injection h3 with h3 h4 h5
        have := ints_inj h3
        subst this
        subst h4
        exact .inr ⟨xs, vs, _, rfl, rfl, by rw [hl', hl]⟩
theorem StM.le_left {lo hi : Nat} {A B C : GHeap} (h : A.Le B) (k : StM lo hi B C) (hA : A.next ≤ lo) : A.Le C :=
  ⟨Nat.le_trans h.1 k.nx, fun g o ho => k.same g o (by have := GHeap.ltg ho; omega) (h.2 g o ho)⟩
theorem Keep.stM {b lo hi : Nat} {H0 H H' : GHeap} (k : Keep b H0 H) (h : StM lo hi H H') (hg : ∀ k, b ≤ k → k < H0.next → ¬ (lo ≤ k ∧ k < hi)) : Keep b H0 H' := fun g o hb h1 => h.same g o (hg g hb (GHeap.ltg h1)) (k g o hb h1)

def IntsW (lo hi : Nat) (H : GHeap) (a : Option Addr) (n : Nat) : Prop := n = 0 ∨ ∃ g e xs, a = some ⟨g, 0, none⟩ ∧ lo ≤ g ∧ g < hi ∧ H.get g = some (.row (ints xs) e true) ∧ xs.length = n
theorem IntsW.stm {lo hi : Nat} {H H' : GHeap} {a : Option Addr} {n : Nat} (h : IntsW lo hi H a n) (s : StM lo hi H H') : IntsW lo hi H' a n := by
  rcases h with h | ⟨g, e, xs, h1, h2, h3, h4, h5⟩
  · exact .inl h
  · obtain ⟨o', k1, k2⟩ := s.ins g _ h4
    rcases k2 with rfl | ⟨us, vs, e', h6, rfl, hl⟩
    · exact .inr ⟨g, e, xs, h1, h2, h3, k1, h5⟩
    · injection h6 with h6 h7 h8
      have := ints_inj h6
      subst this
      exact .inr ⟨g, e', vs, h1, h2, h3, k1, by rw [hl, h5]⟩
theorem IntsW.of_at {b : Nat} {H0 H : GHeap} {a : Option Addr} {xs : List Int} (h : IntsAt b H0 a xs) (k : Keep b H0 H) : IntsW b H0.next H a xs.length := by
  obtain ⟨g, e, h1, h2, h3⟩ := h
  exact .inr ⟨g, e, xs, h1, h2, GHeap.ltg h3, k g _ h2 h3, rfl⟩
def HdGe (b : Nat) (a : Option Addr) (n : Nat) : Prop := n = 0 ∨ ∃ g o, a = some ⟨g, o, none⟩ ∧ b ≤ g
theorem SlA.keep {b b' : Nat} {H H' : GHeap} {a : Option Addr} {n : Nat} {f : Nat → Value} (h : SlA H a n f) (hd : HdGe b a n) (k : Keep b' H H') (hb : b' ≤ b) : SlA H' a n f := by
  rcases hd with h0 | ⟨g, o, rfl, hg⟩
  · exact .inl h0
  · rcases h with h0 | ⟨g', o', e, hc⟩
    · exact .inl h0
    · cases e
      refine .inr ⟨g, o, rfl, fun i hi => ?_⟩
      have h1 := hc i hi
      unfold GHeap.cell at h1 ⊢
      cases hx : H.get g with
      | none => rw [hx] at h1; cases h1
      | some x => rw [hx] at h1; rw [k g x (by omega) hx]; exact h1
def IntssW (lo hi : Nat) (H : GHeap) (a : Option Addr) (xss : List (List Int)) (r : Nat → Option Addr) : Prop :=
  SlA H a xss.length (fun i => .slice (r i) (xss.getD i []).length (xss.getD i []).length) ∧ (∀ i, i < xss.length → IntsW lo hi H (r i) (xss.getD i []).length) ∧ HdGe lo a xss.length
theorem SlA.stm {lo hi : Nat} {H H' : GHeap} {a : Option Addr} {n : Nat} {f : Nat → Value} (h : SlA H a n f) (s : StM lo hi H H') (hf : ∀ i m, f i ≠ .int .i64 m) : SlA H' a n f := by
  rcases h with h | ⟨g, o, e, h⟩
  · exact .inl h
  · refine .inr ⟨g, o, e, fun i hi => ?_⟩
    have hc := h i hi
    unfold GHeap.cell at hc ⊢
    split at hc
    · rename_i cs el own hg
      obtain ⟨o', k1, k2⟩ := s.ins g _ hg
      rw [k1]
      rcases k2 with rfl | ⟨us, vs, e', h6, rfl, hl⟩
      · exact hc
      · injection h6 with h6 h7 h8
        subst h6
        exfalso
        simp only [ints, List.getElem?_map, Option.map_eq_some_iff] at hc
        obtain ⟨m, _, hm⟩ := hc
        exact hf i m hm.symm
    · cases hc
theorem IntssW.stm {lo hi : Nat} {H H' : GHeap} {a : Option Addr} {xss : List (List Int)} {r : Nat → Option Addr} (h : IntssW lo hi H a xss r) (s : StM lo hi H H') : IntssW lo hi H' a xss r :=
  ⟨h.1.stm s fun i m e => (by cases e), fun i hi => (h.2.1 i hi).stm s, h.2.2⟩
theorem IntssW.of_at {b : Nat} {H0 H : GHeap} {a : Option Addr} {xss : List (List Int)} {r : Nat → Option Addr} (h : IntssAt b H0 a xss r) (k : Keep b H0 H) : IntssW b H0.next H a xss r :=
  ⟨(h.keep k (Nat.le_refl _)).intss.1, fun i hi => by obtain ⟨g, e, cs, _, _, _, _, _, h6⟩ := h; exact .of_at (h6 i hi) k, by obtain ⟨g, e, cs, h1, h2, _⟩ := h; exact .inr ⟨g, 0, h1, h2⟩⟩
def sumL : List (List Int) → Nat
  | [] => 0
  | xs :: r => xs.length + sumL r
theorem sumL_take_succ {xss : List (List Int)} {k : Nat} (h : k < xss.length) : sumL (xss.take (k + 1)) = sumL (xss.take k) + (xss.getD k []).length := by
  induction xss generalizing k with
  | nil => simp at h
  | cons x r ih =>
    cases k with
    | zero => simp [sumL]
    | succ k =>
      have := ih (k := k) (by simpa using h)
      simp only [List.take_succ_cons, sumL, List.getD_cons_succ]
      omega
theorem sumL_le {m : Nat} : ∀ {xss : List (List Int)}, (∀ i, (xss.getD i []).length ≤ m) → sumL xss ≤ xss.length * m
  | [], _ => by simp [sumL]
  | x :: r, h => by
    have h0 := h 0
    have := sumL_le (xss := r) fun i => by simpa using h (i + 1)
    simp only [sumL, List.length_cons, Nat.add_mul]
    simp at h0
    omega
theorem sumL_take_le {xss : List (List Int)} {k : Nat} : sumL (xss.take k) ≤ sumL xss := by
  induction xss generalizing k with
  | nil => simp
  | cons x r ih =>
    cases k with
    | zero => simp [sumL]
    | succ k => simp only [List.take_succ_cons, sumL]; have := ih (k := k); omega
def Cat.total (c : Cat) : Nat := c.src.length + (c.tgt.length + (c.idn.length + sumL c.comp))
def CatW (lo hi : Nat) (H : GHeap) (c : Cat) (p : CatP) : Prop := IntsW lo hi H p.a1 c.src.length ∧ IntsW lo hi H p.a2 c.tgt.length ∧ IntsW lo hi H p.a3 c.idn.length ∧ IntssW lo hi H p.a4 c.comp p.r
theorem CatW.stm {lo hi : Nat} {H H' : GHeap} {c : Cat} {p : CatP} (h : CatW lo hi H c p) (s : StM lo hi H H') : CatW lo hi H' c p := ⟨h.1.stm s, h.2.1.stm s, h.2.2.1.stm s, h.2.2.2.stm s⟩
theorem CatW.of_at {b : Nat} {H0 H : GHeap} {c : Cat} {p : CatP} (h : CatAt b H0 c p) (k : Keep b H0 H) : CatW b H0.next H c p := ⟨.of_at h.1 k, .of_at h.2.1 k, .of_at h.2.2.1 k, .of_at h.2.2.2 k⟩
def Fun.total (f : Fun) : Nat := f.s.total + (f.t.total + (f.ob.length + f.ar.length))
def FunW (lo hi : Nat) (H : GHeap) (f : Fun) (p : FunP) : Prop := CatW lo hi H f.s p.s ∧ CatW lo hi H f.t p.t ∧ IntsW lo hi H p.b1 f.ob.length ∧ IntsW lo hi H p.b2 f.ar.length
theorem FunW.of_at {b : Nat} {H0 H : GHeap} {c : Fun} {p : FunP} (h : FunAt b H0 c p) (k : Keep b H0 H) : FunW b H0.next H c p := ⟨.of_at h.1 k, .of_at h.2.1 k, .of_at h.2.2.1 k, .of_at h.2.2.2 k⟩
def Con.total (c : Con) : Nat := c.lg.length
def seqL (k : Int) (n : Nat) : List Int := (List.range n).map fun (i : Nat) => k + (i : Int)
@[simp] theorem length_seqL (k : Int) (n : Nat) : (seqL k n).length = n := by simp [seqL]
theorem seqL_get {k : Int} {n i : Nat} (h : i < n) : (seqL k n).getD i 0 = k + i := by simp [seqL, List.getD_eq_getElem?_getD, h]
abbrev Leaf := Option Addr × Nat
def lvBlk : Leaf → List Nat
  | (some a, _ + 1) => [a.block]
  | _ => []
def lvBlks (ls : List Leaf) : List Nat := ls.flatMap lvBlk
def lvSum : List Leaf → Nat
  | [] => 0
  | l :: r => l.2 + lvSum r
def Live1 (b : Nat) (H : GHeap) (l : Leaf) : Prop := l.2 = 0 ∨ ∃ g e xs, l.1 = some ⟨g, 0, none⟩ ∧ b ≤ g ∧ H.get g = some (.row (ints xs) e true) ∧ xs.length = l.2
def Held (b : Nat) (H : GHeap) : List Leaf → Int → Prop
  | [], _ => True
  | l :: r, k => (l.2 = 0 ∨ ∃ g e, l.1 = some ⟨g, 0, none⟩ ∧ b ≤ g ∧ H.get g = some (.row (ints (seqL k l.2)) e true)) ∧ Held b H r (k + l.2)
theorem Held.keep0 {b : Nat} {H H' : GHeap} : ∀ {ls : List Leaf} {k : Int}, Held b H ls k → Keep b H H' → Held b H' ls k
  | [], _, _, _ => trivial
  | _ :: _, _, h, hk => ⟨h.1.imp id fun ⟨g, e, h1, h2, h3⟩ => ⟨g, e, h1, h2, hk g _ h2 h3⟩, Held.keep0 h.2 hk⟩
theorem Held.append {b : Nat} {H : GHeap} : ∀ {ls ms : List Leaf} {k : Int}, Held b H ls k → Held b H ms (k + lvSum ls) → Held b H (ls ++ ms) k
  | [], _, _, _, h => by simpa [lvSum] using h
  | l :: r, ms, k, h, h' => ⟨h.1, Held.append h.2 (by rw [show k + (l.2 : Int) + (lvSum r : Int) = k + (lvSum (l :: r) : Int) by simp [lvSum]; omega]; exact h')⟩
structure StB (bs : List Nat) (H H' : GHeap) : Prop where
  nx : H.next ≤ H'.next
  same : ∀ k o, ¬ k ∈ bs → H.get k = some o → H'.get k = some o
theorem StB.refl (bs : List Nat) (H : GHeap) : StB bs H H := ⟨Nat.le_refl _, fun _ _ _ h => h⟩
theorem StB.trans {bs cs : List Nat} {A B C : GHeap} (h : StB bs A B) (k : StB cs B C) : StB (bs ++ cs) A C :=
  ⟨Nat.le_trans h.nx k.nx, fun g o hg ho => k.same g o (fun hc => hg (List.mem_append_right _ hc)) (h.same g o (fun hc => hg (List.mem_append_left _ hc)) ho)⟩
theorem Live1.blk {b : Nat} {H : GHeap} {l : Leaf} (h : Live1 b H l) {g : Nat} {e : TypeId} {xs : List Int} (h1 : l.1 = some ⟨g, 0, none⟩) (hn : l.2 ≠ 0) : g ∈ lvBlk l := by
  obtain ⟨a, n⟩ := l
  simp only at h1 hn
  subst h1
  cases n with
  | zero => exact absurd rfl hn
  | succ n => simp [lvBlk]
theorem Held.stB {b : Nat} {H H' : GHeap} {bs : List Nat} (s : StB bs H H') : ∀ {ls : List Leaf} {k : Int}, Held b H ls k → (∀ g ∈ lvBlks ls, ¬ g ∈ bs) → Held b H' ls k
  | [], _, _, _ => trivial
  | l :: r, k, h, hd => by
    refine ⟨?_, Held.stB s h.2 fun g hg => hd g (by simp only [lvBlks, List.flatMap_cons, List.mem_append]; exact .inr hg)⟩
    by_cases hn : l.2 = 0
    · exact .inl hn
    · rcases h.1 with h0 | ⟨g, e, h1, h2, h3⟩
      · exact .inl h0
      · have hl : Live1 b H l := .inr ⟨g, e, _, h1, h2, h3, by simp⟩
        exact .inr ⟨g, e, h1, h2, s.same g _ (hd g (by simp only [lvBlks, List.flatMap_cons, List.mem_append]; exact .inl (hl.blk (e := e) (xs := seqL k l.2) h1 hn))) h3⟩
theorem lvBlks_append (ls ms : List Leaf) : lvBlks (ls ++ ms) = lvBlks ls ++ lvBlks ms := by simp [lvBlks]
theorem lvSum_append : ∀ (ls ms : List Leaf), lvSum (ls ++ ms) = lvSum ls + lvSum ms
  | [], ms => by simp [lvSum]
  | l :: r, ms => by simp only [List.cons_append, lvSum, lvSum_append r ms]; omega

def IntsR (b : Nat) (H : GHeap) (a : Option Addr) (xs : List Int) : Prop := (xs = [] ∧ a = none) ∨ IntsAt b H a xs
theorem IntsR.keep {b b' : Nat} {H H' : GHeap} {a : Option Addr} {xs : List Int} (h : IntsR b H a xs) (k : Keep b' H H') (hb : b' ≤ b) : IntsR b' H' a xs := h.imp id fun h => h.keep k hb
theorem IntsR.ints {b : Nat} {H : GHeap} {a : Option Addr} {xs : List Int} (h : IntsR b H a xs) : Ints H a xs := by
  rcases h with ⟨rfl, _⟩ | h
  · exact .inl rfl
  · exact h.ints
def Con.leaves (c : Con) (p : ConP) : List Leaf := [(p.a1, c.lg.length)]
theorem Held.keep {b b' : Nat} {H H' : GHeap} {ls : List Leaf} {k : Int} (h : Held b H ls k) (hk : Keep b' H H') (hb : b' ≤ b) : Held b H' ls k := h.keep0 fun g o hg ho => hk g o (by omega) ho
theorem Held.app {b : Nat} {H : GHeap} : ∀ {ls ms : List Leaf} {k : Int}, Held b H (ls ++ ms) k → Held b H ls k ∧ Held b H ms (k + lvSum ls)
  | [], ms, k, h => ⟨trivial, by simpa [lvSum] using h⟩
  | l :: r, ms, k, h => by
    obtain ⟨h1, h2⟩ := Held.app (ls := r) h.2
    exact ⟨⟨h.1, h1⟩, by rw [show k + (lvSum (l :: r) : Int) = k + (l.2 : Int) + (lvSum r : Int) by simp [lvSum]; omega]; exact h2⟩
theorem Held.ints {b : Nat} {H : GHeap} {a : Option Addr} {n : Nat} {k : Int} (h : Held b H [(a, n)] k) : Ints H a (seqL k n) := by
  rcases h.1 with h0 | ⟨g, e, h1, h2, h3⟩
  · simp only at h0; subst h0; exact .inl (by simp)
  · simp only at h1 h3; subst h1; exact Ints.of_get h3

structure Marked (lo hi : Nat) (H H' : GHeap) (ls : List Leaf) (k : Int) : Prop where
  stm : StM lo hi H H'
  stb : StB (lvBlks ls) H H'
  held : (lvBlks ls).Nodup → Held lo H' ls k
theorem Marked.nil (lo hi : Nat) (H : GHeap) (k : Int) : Marked lo hi H H [] k := ⟨.refl _ _ _, .refl _ _, fun _ => trivial⟩
theorem Marked.app {lo hi : Nat} {A B C : GHeap} {ls ms : List Leaf} {k : Int} (h : Marked lo hi A B ls k) (h' : Marked lo hi B C ms (k + lvSum ls)) : Marked lo hi A C (ls ++ ms) k where
  stm := h.stm.trans h'.stm
  stb := by rw [lvBlks_append]; exact h.stb.trans h'.stb
  held := fun nd => by
    rw [lvBlks_append, List.nodup_append] at nd
    exact ((h.held nd.1).stB h'.stb fun g hg hg' => nd.2.2 g hg g hg' rfl).append (h'.held nd.2.1)
theorem Marked.le_left {lo hi : Nat} {A B C : GHeap} {ls : List Leaf} {k : Int} (h : A.Le B) (m : Marked lo hi B C ls k) : Marked lo hi A C ls k :=
  ⟨⟨Nat.le_trans h.1 m.stm.nx, fun g o hg ho => m.stm.same g o hg (h.2 g o ho), fun g o ho => m.stm.ins g o (h.2 g o ho)⟩, ⟨Nat.le_trans h.1 m.stb.nx, fun g o hg ho => m.stb.same g o hg (h.2 g o ho)⟩, m.held⟩
theorem Marked.one {lo hi g : Nat} {H H' : GHeap} {e : TypeId} {xs : List Int} {k : Int} (hlo : lo ≤ g) (hhi : g < hi) (h0 : H.get g = some (.row (ints xs) e true)) (s : St [g] H H') (h1 : H'.get g = some (.row (ints (seqL k xs.length)) e true)) (hn : xs.length ≠ 0) :
    Marked lo hi H H' [(some ⟨g, 0, none⟩, xs.length)] k where
  stm := ⟨s.nx, fun i o hi ho => s.same i o ⟨by omega, trivial⟩ ho, fun i o ho => by
    by_cases hi : i = g
    · subst hi
      rw [h0] at ho; cases ho
      exact ⟨_, h1, .inr ⟨xs, seqL k xs.length, e, rfl, rfl, by simp⟩⟩
    · exact ⟨o, s.same i o ⟨hi, trivial⟩ ho, .inl rfl⟩⟩
  stb := ⟨s.nx, fun i o hi ho => s.same i o ⟨fun e' => hi (by
    subst e'
    cases hx : xs.length with
    | zero => exact absurd hx hn
    | succ m => simp [lvBlks, lvBlk]), trivial⟩ ho⟩
  held := fun _ => ⟨.inr ⟨g, e, rfl, hlo, h1⟩, trivial⟩
def rowsL (r : Nat → Option Addr) (xss : List (List Int)) (n : Nat) : List Leaf := (List.range n).map fun i => (r i, (xss.getD i []).length)
theorem rowsL_succ (r : Nat → Option Addr) (xss : List (List Int)) (n : Nat) : rowsL r xss (n + 1) = rowsL r xss n ++ [(r n, (xss.getD n []).length)] := by simp [rowsL, List.range_succ]
theorem lvSum_rowsL (r : Nat → Option Addr) (xss : List (List Int)) : ∀ n, n ≤ xss.length → lvSum (rowsL r xss n) = sumL (xss.take n)
  | 0, _ => by simp [rowsL, lvSum, sumL]
  | n + 1, h => by rw [rowsL_succ, lvSum_append, lvSum_rowsL r xss n (by omega), sumL_take_succ (by omega)]; simp [lvSum]
def Cat.leaves (c : Cat) (p : CatP) : List Leaf := [(p.a1, c.src.length)] ++ ([(p.a2, c.tgt.length)] ++ ([(p.a3, c.idn.length)] ++ rowsL p.r c.comp c.comp.length))
theorem Cat.lvSum_leaves (c : Cat) (p : CatP) : lvSum (c.leaves p) = c.total := by
  simp only [Cat.leaves, lvSum_append, lvSum, lvSum_rowsL p.r c.comp _ (Nat.le_refl _), List.take_length, Cat.total, Nat.add_zero]
def Fun.leaves (f : Fun) (p : FunP) : List Leaf := f.s.leaves p.s ++ (f.t.leaves p.t ++ ([(p.b1, f.ob.length)] ++ [(p.b2, f.ar.length)]))
theorem Cat.total_le {c : Cat} (h : c.Small) : c.total ≤ 3 * 1048576 + 1048576 * 1048576 := by
  obtain ⟨h1, h2, h3, h4, h5, _⟩ := h
  have := sumL_le (m := 1048576) h5
  have h6 : c.comp.length * 1048576 ≤ 1048576 * 1048576 := Nat.mul_le_mul_right _ h4
  unfold Cat.total
  omega
theorem Marked.app' {lo hi : Nat} {A B C : GHeap} {ls ms : List Leaf} {k k' : Int} (h : Marked lo hi A B ls k) (h' : Marked lo hi B C ms k') (e : k' = k + lvSum ls) : Marked lo hi A C (ls ++ ms) k := by subst e; exact h.app h'
theorem IntsW.keep {lo lo' hi : Nat} {H H' : GHeap} {a : Option Addr} {n : Nat} (h : IntsW lo hi H a n) (k : Keep lo' H H') (hb : lo' ≤ lo) : IntsW lo hi H' a n := h.imp id fun ⟨g, e, xs, h1, h2, h3, h4, h5⟩ => ⟨g, e, xs, h1, h2, h3, k g _ (by omega) h4, h5⟩
theorem IntssW.keep {lo lo' hi : Nat} {H H' : GHeap} {a : Option Addr} {xss : List (List Int)} {r : Nat → Option Addr} (h : IntssW lo hi H a xss r) (k : Keep lo' H H') (hb : lo' ≤ lo) : IntssW lo hi H' a xss r := ⟨h.1.keep h.2.2 k hb, fun i hi => (h.2.1 i hi).keep k hb, h.2.2⟩
theorem Cat.Small.tot {c : Cat} (h : c.Small) : c.total ≤ 3 * 1048576 + 1048576 * 1048576 := Cat.total_le h
theorem Fun.Small.tot {c : Fun} (h : c.Small) : c.total ≤ 8 * 1048576 + 2 * 1048576 * 1048576 := by
  obtain ⟨h1, h2, h3, h4⟩ := h
  have := h1.tot
  have := h2.tot
  unfold Fun.total
  omega
end Go.GL
namespace Go.GL

def first2 (n : Nat) (len : Nat → Nat) (p : Nat → Nat → Bool) : Int × Int :=
  match firstN n fun a => (firstN (len a) (p a)).isSome with
  | some a => ((a : Int), (((firstN (len a) (p a)).getD 0 : Nat) : Int))
  | none => (-1, 0)
def SFun.AcOk (f : SFun) (a : Nat) : Prop :=
  ((f.ac.getD a []).length : Int) = f.sz.getD (f.sh.src.getD a 0).toNat 0 ∧ allIn (f.ac.getD a []) (f.sz.getD (f.sh.tgt.getD a 0).toNat 0) = true
structure SFun.Shape (f : SFun) : Prop where
  c : f.sh.Is
  zl : (f.sz.length : Int) = f.sh.obj
  sz : ∀ i, i < f.sz.length → 0 ≤ f.sz.getD i 0 ∧ f.sz.getD i 0 ≤ 16
  al : f.ac.length = f.sh.src.length
  ac : ∀ a, a < f.ac.length → f.AcOk a
structure SFun.Laws (f : SFun) : Prop where
  ids : ∀ x : Nat, x < f.sh.idn.length → ∀ e : Nat, e < (f.ac.getD (f.sh.idn.getD x 0).toNat []).length → (f.ac.getD (f.sh.idn.getD x 0).toNat []).getD e 0 = e
  th : ∀ a : Nat, a < f.sh.src.length → ∀ b : Nat, b < f.sh.src.length → f.sh.tgt.getD a 0 = f.sh.src.getD b 0 → ∀ e : Nat, e < (f.ac.getD a []).length →
    (f.ac.getD ((f.sh.comp.getD a []).getD b 0).toNat []).getD e 0 = (f.ac.getD b []).getD ((f.ac.getD a []).getD e 0).toNat 0
def SFun.Is (f : SFun) : Prop := f.Shape ∧ f.Laws

def SMap.PaOk (m : SMap) (x : Nat) : Prop := ((m.pa.getD x []).length : Int) = m.s.sz.getD x 0 ∧ allIn (m.pa.getD x []) (m.t.sz.getD x 0) = true
structure SMap.Fits (m : SMap) : Prop where
  pl : m.pa.length = m.s.sz.length
  pa : ∀ x, x < m.pa.length → m.PaOk x
structure SMap.Shape (m : SMap) : Prop where
  s : m.s.Is
  t : m.t.Is
  sh : m.s.sh = m.t.sh
  fits : m.Fits
def SMap.bad (m : SMap) (a e : Nat) : Bool := decide (¬ (m.pa.getD (m.s.sh.tgt.getD a 0).toNat []).getD ((m.s.ac.getD a []).getD e 0).toNat 0 = (m.t.ac.getD a []).getD ((m.pa.getD (m.s.sh.src.getD a 0).toNat []).getD e 0).toNat 0)
def SMap.first (m : SMap) : Int × Int := first2 m.s.ac.length (fun a => (m.s.ac.getD a []).length) m.bad
def SMap.Is (m : SMap) : Prop := m.Shape ∧ ∀ a, a < m.s.ac.length → ∀ e, e < (m.s.ac.getD a []).length → m.bad a e = false
end Go.GL
namespace Go.GL

def Rising (xs : List Int) : Prop := ∀ i, 1 ≤ i → i < xs.length → xs.getD (i - 1) 0 < xs.getD i 0
structure SFun.Part (f : SFun) (me : List (List Int)) : Prop where
  pl : me.length = f.sz.length
  rs : ∀ x, x < me.length → Rising (me.getD x []) ∧ allIn (me.getD x []) (f.sz.getD x 0) = true
  cl : ∀ a, a < f.ac.length → ∀ i, i < (me.getD (f.sh.src.getD a 0).toNat []).length → (me.getD (f.sh.tgt.getD a 0).toNat []).contains ((f.ac.getD a []).getD ((me.getD (f.sh.src.getD a 0).toNat []).getD i 0).toNat 0) = true
end Go.GL
namespace Go.GL

def SFun.total (f : SFun) : Nat := f.sh.total + (f.sz.length + sumL f.ac)
def SFun.leaves (f : SFun) (p : SFunP) : List Leaf := f.sh.leaves p.sh ++ ([(p.a1, f.sz.length)] ++ rowsL p.r2 f.ac f.ac.length)
theorem sumL_tot {xss : List (List Int)} (h : xss.length ≤ 1048576) (h' : ∀ i, (xss.getD i []).length ≤ 1048576) : sumL xss ≤ 1048576 * 1048576 := by
  have := sumL_le (m := 1048576) h'
  have h6 : xss.length * 1048576 ≤ 1048576 * 1048576 := Nat.mul_le_mul_right _ h
  exact Nat.le_trans this h6
def SMap.total (f : SMap) : Nat := f.s.total + (f.t.total + sumL f.pa)
def SMap.leaves (f : SMap) (p : SMapP) : List Leaf := f.s.leaves p.s ++ (f.t.leaves p.t ++ rowsL p.r2 f.pa f.pa.length)
def Prt.total (f : Prt) : Nat := sumL f.me
def Prt.leaves (f : Prt) (p : PrtP) : List Leaf := rowsL p.r0 f.me f.me.length
def NoTwo (xss : List (List Int)) (r : Nat → Option Addr) : Prop := (lvBlks (rowsL r xss xss.length)).Nodup
def IntssR (b : Nat) (H : GHeap) (a : Option Addr) (xss : List (List Int)) (r : Nat → Option Addr) : Prop := ((xss = [] ∧ a = none) ∨ IntssAt b H a xss r) ∧ NoTwo xss r
theorem IntssR.keep {b b' : Nat} {H H' : GHeap} {a : Option Addr} {xs : List (List Int)} {r : Nat → Option Addr} (h : IntssR b H a xs r) (k : Keep b' H H') (hb : b' ≤ b) : IntssR b' H' a xs r := ⟨h.1.imp id fun h => h.keep k hb, h.2⟩
theorem IntssR.intss {b : Nat} {H : GHeap} {a : Option Addr} {xs : List (List Int)} {r : Nat → Option Addr} (h : IntssR b H a xs r) : Intss H a xs r := by
  rcases h.1 with ⟨rfl, rfl⟩ | h
  · exact ⟨.inl rfl, fun i hi => by simp at hi⟩
  · exact h.intss
theorem IntssR.nil (b : Nat) (H : GHeap) (r : Nat → Option Addr) : IntssR b H none [] r := ⟨.inl ⟨rfl, rfl⟩, by simp [NoTwo, lvBlks, rowsL]⟩
def NewIntssR (H : GHeap) (xs : List (List Int)) (v : Value) (H' : GHeap) : Prop := H.Le H' ∧ ∃ a r, v = .slice a xs.length xs.length ∧ IntssR H.next H' a xs r
theorem IntssW.of_r {b : Nat} {H0 H : GHeap} {a : Option Addr} {xs : List (List Int)} {r : Nat → Option Addr} (h : IntssR b H0 a xs r) (k : Keep b H0 H) : IntssW b H0.next H a xs r := by
  rcases h.1 with ⟨rfl, rfl⟩ | h
  · exact ⟨.inl rfl, fun i hi => by simp at hi, .inl rfl⟩
  · exact .of_at h k
def slsOf (r : Nat → Option Addr) (X : Nat → List Int) (k : Nat) : List Value := (List.range k).map fun i => .slice (r i) (X i).length (X i).length
@[simp] theorem length_slsOf (r : Nat → Option Addr) (X : Nat → List Int) (k : Nat) : (slsOf r X k).length = k := by simp [slsOf]
def upd (r : Nat → Option Addr) (k : Nat) (a : Option Addr) : Nat → Option Addr := fun i => if i = k then a else r i
theorem upd_eq (r : Nat → Option Addr) (k : Nat) (a : Option Addr) : upd r k a k = a := by simp [upd]
theorem upd_ne {r : Nat → Option Addr} {k i : Nat} {a : Option Addr} (h : i ≠ k) : upd r k a i = r i := by simp [upd, h]
theorem slsOf_succ {r : Nat → Option Addr} {X : Nat → List Int} {k : Nat} {a : Option Addr} : slsOf (upd r k a) X (k + 1) = slsOf r X k ++ [.slice a (X k).length (X k).length] := by
  unfold slsOf
  rw [List.range_succ, List.map_append]
  congr 1
  · refine List.map_congr_left fun i hi => ?_
    rw [upd_ne (by have := List.mem_range.1 hi; omega)]
  · simp [upd_eq]
structure OwnRows (b : Nat) (H : GHeap) (e : TypeId) (r : Nat → Option Addr) (X : Nat → List Int) (k : Nat) : Prop where
  row : ∀ i, i < k → ∃ g, r i = some ⟨g, 0, none⟩ ∧ b ≤ g ∧ H.get g = some (.row (ints (X i)) e true)
  inj : ∀ i j, i < k → j < k → r i = r j → i = j
theorem OwnRows.zero (b : Nat) (H : GHeap) (e : TypeId) (r : Nat → Option Addr) (X : Nat → List Int) : OwnRows b H e r X 0 := ⟨fun i hi => by omega, fun i j hi => by omega⟩
def Lasts (e : TypeId) (H H' : GHeap) : Prop := ∀ x xs, H.get x = some (.row (ints xs) e true) → H'.get x = some (.row (ints xs) e true)
theorem St.lasts1 {g0 : Nat} {H H' : GHeap} {e e' : TypeId} {cs : List Value} (s : St [g0] H H') (h0 : H.get g0 = some (.row cs e' true)) (hne : (e != e') = true) : Lasts e H H' := fun x xs hx => by
  simp only [bne_iff_ne, ne_eq] at hne
  refine s.same x _ ⟨fun ex => ?_, trivial⟩ hx
  subst ex
  rw [h0] at hx
  cases hx
  exact hne rfl
theorem OwnRows.keep {b k : Nat} {H H' : GHeap} {e : TypeId} {r : Nat → Option Addr} {X : Nat → List Int} (h : OwnRows b H e r X k) (s : Lasts e H H') : OwnRows b H' e r X k := ⟨fun i hi => by
  obtain ⟨x, h1, h2, h3⟩ := h.row i hi
  exact ⟨x, h1, h2, s x _ h3⟩, h.inj⟩
theorem OwnRows.succ' {b g k : Nat} {H H' : GHeap} {e : TypeId} {r : Nat → Option Addr} {X : Nat → List Int} (h : OwnRows b H e r X k) (s : Lasts e H H')
    (hg : H'.get g = some (.row (ints (X k)) e true)) (hn : H.next ≤ g) (hb : b ≤ g) : OwnRows b H' e (upd r k (some ⟨g, 0, none⟩)) X (k + 1) := by
  refine ⟨fun i hi => ?_, fun i j hi hj hij => ?_⟩
  · by_cases ek : i = k
    · subst ek; exact ⟨g, upd_eq _ _ _, hb, hg⟩
    · obtain ⟨x, h1, h2, h3⟩ := h.row i (by omega)
      exact ⟨x, by rw [upd_ne ek]; exact h1, h2, s x _ h3⟩
  · by_cases ei : i = k
    · by_cases ej : j = k
      · omega
      · subst ei
        rw [upd_eq, upd_ne ej] at hij
        obtain ⟨x, h1, _, h3⟩ := h.row j (by omega)
        rw [h1] at hij
        cases hij
        have := GHeap.ltg h3
        omega
    · by_cases ej : j = k
      · subst ej
        rw [upd_eq, upd_ne ei] at hij
        obtain ⟨x, h1, _, h3⟩ := h.row i (by omega)
        rw [h1] at hij
        cases hij
        have := GHeap.ltg h3
        omega
      · rw [upd_ne ei, upd_ne ej] at hij
        exact h.inj i j (by omega) (by omega) hij
theorem mem_lvBlk {g n x : Nat} (h : x ∈ lvBlk (some ⟨g, 0, none⟩, n)) : x = g := by
  cases n with
  | zero => simp [lvBlk] at h
  | succ n => simpa [lvBlk] using h
theorem lvBlks_rowsL {r : Nat → Option Addr} {xss : List (List Int)} (hr : ∀ i, i < xss.length → ∃ g, r i = some ⟨g, 0, none⟩) (hi : ∀ i j, i < xss.length → j < xss.length → r i = r j → i = j) : ∀ {n}, n ≤ xss.length →
    (lvBlks (rowsL r xss n)).Nodup ∧ ∀ g ∈ lvBlks (rowsL r xss n), ∃ i, i < n ∧ r i = some ⟨g, 0, none⟩
  | 0, _ => by simp [rowsL, lvBlks]
  | n + 1, hn => by
    obtain ⟨h1, h2⟩ := lvBlks_rowsL hr hi (n := n) (by omega)
    obtain ⟨g, hg⟩ := hr n (by omega)
    have h3 : ∀ x ∈ lvBlk (r n, (xss.getD n []).length), x = g := fun x hx => by rw [hg] at hx; exact mem_lvBlk hx
    have h4 : (lvBlk (r n, (xss.getD n []).length)).Nodup := by unfold lvBlk; split <;> simp
    have e1 : lvBlks (rowsL r xss (n + 1)) = lvBlks (rowsL r xss n) ++ lvBlk (r n, (xss.getD n []).length) := by rw [rowsL_succ, lvBlks_append]; simp [lvBlks]
    rw [e1]
    refine ⟨List.nodup_append.2 ⟨h1, h4, fun x hx y hy hxy => ?_⟩, fun x hx => ?_⟩
    · obtain ⟨i, i1, i2⟩ := h2 x hx
      have := h3 y hy
      subst hxy this
      have := hi i n (by omega) (by omega) (by rw [i2, hg])
      omega
    · rcases List.mem_append.1 hx with hx | hx
      · obtain ⟨i, i1, i2⟩ := h2 x hx
        exact ⟨i, by omega, i2⟩
      · exact ⟨n, by omega, by rw [h3 x hx]; exact hg⟩
def rowsOf (X : Nat → List Int) (n : Nat) : List (List Int) := (List.range n).map X
@[simp] theorem length_rowsOf (X : Nat → List Int) (n : Nat) : (rowsOf X n).length = n := by simp [rowsOf]
theorem rowsOf_get {X : Nat → List Int} {n i : Nat} (h : i < n) : (rowsOf X n).getD i [] = X i := by simp [rowsOf, List.getD_eq_getElem?_getD, h]
theorem OwnRows.done {b g n : Nat} {H : GHeap} {e e' : TypeId} {r : Nat → Option Addr} {X : Nat → List Int} (h : OwnRows b H e r X n) (hg : H.get g = some (.row (slsOf r X n) e' true)) (hb : b ≤ g) : IntssR b H (some ⟨g, 0, none⟩) (rowsOf X n) r := by
  refine ⟨.inr ⟨g, e', slsOf r X n, rfl, hb, hg, by simp, fun i hi => ?_, fun i hi => ?_⟩, ?_⟩
  · rw [length_rowsOf] at hi
    rw [rowsOf_get hi]
    simp [slsOf, hi]
  · rw [length_rowsOf] at hi
    rw [rowsOf_get hi]
    obtain ⟨x, h1, h2, h3⟩ := h.row i hi
    exact ⟨x, e, h1, h2, h3⟩
  · exact (lvBlks_rowsL (fun i hi => by rw [length_rowsOf] at hi; obtain ⟨x, h1, _⟩ := h.row i hi; exact ⟨x, h1⟩) (fun i j hi hj => by rw [length_rowsOf] at hi hj; exact h.inj i j hi hj) (Nat.le_refl _)).1

section
variable {P : Program} {o : Oper} {fr : Slots} {H : GHeap}
end
def SMap.backX (m : SMap) (me : List (List Int)) (x : Nat) : List Int := filtN (m.pa.getD x []).length fun e => (me.getD x []).contains ((m.pa.getD x []).getD e 0)
def SMap.backR (m : SMap) (me : List (List Int)) : List (List Int) := rowsOf (m.backX me) m.pa.length
noncomputable def SMap.back (m : SMap) (me : List (List Int)) : Prt := ⟨bif B (m.Is ∧ m.t.Part me) then m.backR me else []⟩
def SFun.pick (f : SFun) (Y : Nat → Nat → Bool) : Prt := ⟨rowsOf (fun x => filtN (f.sz.getD x 0).toNat (Y x)) f.sz.length⟩
end Go.GL
namespace Go.GL
def slsL (r : Nat → Option Addr) (xss : List (List Int)) : List Value := slsOf r (fun i => xss.getD i []) xss.length
@[simp] theorem length_slsL (r : Nat → Option Addr) (xss : List (List Int)) : (slsL r xss).length = xss.length := by simp [slsL]
theorem slsOf_congr {r : Nat → Option Addr} {X Y : Nat → List Int} {k : Nat} (h : ∀ i, i < k → X i = Y i) : slsOf r X k = slsOf r Y k := List.map_congr_left fun i hi => by rw [h i (List.mem_range.1 hi)]
theorem getD_snoc {α : Type} {xs : List α} {x d : α} {i : Nat} : (xs ++ [x]).getD i d = if i < xs.length then xs.getD i d else if i = xs.length then x else d := by
  rw [List.getD_eq_getElem?_getD, List.getD_eq_getElem?_getD]
  by_cases h : i < xs.length
  · rw [if_pos h, List.getElem?_append_left h]
  · rw [if_neg h, List.getElem?_append_right (by omega)]
    by_cases e : i = xs.length
    · subst e; simp
    · rw [if_neg e, List.getElem?_eq_none (by simp; omega)]; rfl
theorem slsL_snoc {r : Nat → Option Addr} {xss : List (List Int)} {x : List Int} {a : Option Addr} : slsL (upd r xss.length a) (xss ++ [x]) = slsL r xss ++ [.slice a x.length x.length] := by
  unfold slsL
  rw [List.length_append, List.length_singleton]
  rw [slsOf_succ]
  congr 1
  · refine slsOf_congr fun i hi => ?_
    rw [getD_snoc, if_pos hi]
  · rw [getD_snoc, if_neg (by omega), if_pos rfl]
def OwnL (b : Nat) (H : GHeap) (e : TypeId) (r : Nat → Option Addr) (xss : List (List Int)) : Prop := OwnRows b H e r (fun i => xss.getD i []) xss.length
theorem OwnL.nil (b : Nat) (H : GHeap) (e : TypeId) (r : Nat → Option Addr) : OwnL b H e r [] := OwnRows.zero _ _ _ _ _
theorem OwnRows.congr {b : Nat} {H : GHeap} {e : TypeId} {r : Nat → Option Addr} {X Y : Nat → List Int} {k : Nat} (h : OwnRows b H e r X k) (hx : ∀ i, i < k → X i = Y i) : OwnRows b H e r Y k := ⟨fun i hi => by rw [← hx i hi]; exact h.row i hi, h.inj⟩
theorem OwnL.snoc {b g : Nat} {H H' : GHeap} {e : TypeId} {r : Nat → Option Addr} {xss : List (List Int)} {x : List Int} (h : OwnL b H e r xss) (s : Lasts e H H') (hg : H'.get g = some (.row (ints x) e true)) (hn : H.next ≤ g) (hb : b ≤ g) : OwnL b H' e (upd r xss.length (some ⟨g, 0, none⟩)) (xss ++ [x]) := by
  unfold OwnL at h ⊢
  rw [List.length_append, List.length_singleton]
  have h' : OwnRows b H e r (fun i => (xss ++ [x]).getD i []) xss.length := h.congr fun i hi => by rw [getD_snoc, if_pos hi]
  exact h'.succ' s (by rw [getD_snoc, if_neg (by omega), if_pos rfl]; exact hg) hn hb
theorem OwnL.keep {b : Nat} {H H' : GHeap} {e : TypeId} {r : Nat → Option Addr} {xss : List (List Int)} (h : OwnL b H e r xss) (s : Lasts e H H') : OwnL b H' e r xss := OwnRows.keep h s
theorem rowsOf_self (xss : List (List Int)) : rowsOf (fun i => xss.getD i []) xss.length = xss := by
  apply List.ext_getElem (by simp)
  intro i h1 h2
  simp only [rowsOf, List.getElem_map, List.getElem_range, List.getD_eq_getElem?_getD, List.getElem?_eq_getElem h2, Option.getD_some]
theorem OwnL.done {b g : Nat} {H : GHeap} {e e' : TypeId} {r : Nat → Option Addr} {xss : List (List Int)} (h : OwnL b H e r xss) (hg : H.get g = some (.row (slsL r xss) e' true)) (hb : b ≤ g) : IntssR b H (some ⟨g, 0, none⟩) xss r := by
  have := OwnRows.done (X := fun i => xss.getD i []) h hg hb
  rwa [rowsOf_self] at this
theorem OwnL.intss {b g : Nat} {H : GHeap} {e e' : TypeId} {r : Nat → Option Addr} {xss : List (List Int)} (h : OwnL b H e r xss) (hg : H.get g = some (.row (slsL r xss) e' true)) (hb : b ≤ g) : Intss H (some ⟨g, 0, none⟩) xss r := (h.done hg hb).intss
theorem IntsR.of_at {b : Nat} {H : GHeap} {g : Nat} {e : TypeId} {xs : List Int} (h : H.get g = some (.row (Go.GL.ints xs) e true)) (hb : b ≤ g) : IntsR b H (some ⟨g, 0, none⟩) xs := .inr ⟨g, e, rfl, hb, h⟩

def nestL {α : Type} (pr : Nat → Nat → α) (sz : Nat → Nat) (k t : Nat) : List α := (List.range k).flatMap (fun a => (List.range (sz a)).map (pr a)) ++ (List.range t).map (pr k)
theorem nestL_zero {α : Type} (pr : Nat → Nat → α) (sz : Nat → Nat) : nestL pr sz 0 0 = [] := rfl
theorem nestL_snoc {α : Type} {pr : Nat → Nat → α} {sz : Nat → Nat} {k t : Nat} : nestL pr sz k (t + 1) = nestL pr sz k t ++ [pr k t] := by
  unfold nestL
  rw [List.range_succ, List.map_append, ← List.append_assoc]
  rfl
theorem nestL_next {α : Type} {pr : Nat → Nat → α} {sz : Nat → Nat} {k : Nat} : nestL pr sz (k + 1) 0 = nestL pr sz k (sz k) := by
  unfold nestL
  rw [List.range_succ, List.flatMap_append]
  simp
theorem nestL_mem {α : Type} {pr : Nat → Nat → α} {sz : Nat → Nat} {k : Nat} {x : α} (h : x ∈ nestL pr sz k 0) : ∃ a t, a < k ∧ t < sz a ∧ x = pr a t := by
  simp only [nestL, List.range_zero, List.map_nil, List.append_nil, List.mem_flatMap, List.mem_range, List.mem_map] at h
  obtain ⟨a, ha, t, ht, e⟩ := h
  exact ⟨a, t, ha, ht, e.symm⟩
theorem nestL_length {α : Type} {pr : Nat → Nat → α} {sz : Nat → Nat} {c : Nat} : ∀ {k}, (∀ a, a < k → sz a ≤ c) → (nestL pr sz k 0).length ≤ k * c
  | 0, _ => by simp [nestL]
  | k + 1, h => by
    have ih := nestL_length (pr := pr) (sz := sz) (c := c) (k := k) fun a ha => h a (by omega)
    have := h k (by omega)
    rw [nestL_next]
    simp only [nestL, List.length_append, List.length_map, List.length_range, List.range_zero, List.map_nil, List.append_nil] at ih ⊢
    rw [Nat.add_mul]
    omega
theorem nestL_le {α : Type} {pr : Nat → Nat → α} {sz : Nat → Nat} {c k t n : Nat} (h : ∀ a, a < n → sz a ≤ c) (hk : k < n) (ht : t ≤ sz k) : (nestL pr sz k t).length ≤ n * c := by
  have h1 := nestL_length (pr := pr) (sz := sz) (c := c) (k := k) fun a ha => h a (by omega)
  have h2 := h k hk
  have h3 : (k + 1) * c ≤ n * c := Nat.mul_le_mul_right _ hk
  rw [Nat.add_mul] at h3
  simp only [nestL, List.length_append, List.length_map, List.length_range, List.range_zero, List.map_nil, List.append_nil] at h1 ⊢
  omega
def nest3 {α : Type} (pr : Nat → Nat → Nat → α) (s1 : Nat → Nat) (s2 : Nat → Nat → Nat) (k t u : Nat) : List α := (List.range k).flatMap (fun a => nestL (pr a) (s2 a) (s1 a) 0) ++ nestL (pr k) (s2 k) t u
theorem nest3_snoc {α : Type} {pr : Nat → Nat → Nat → α} {s1 : Nat → Nat} {s2 : Nat → Nat → Nat} {k t u : Nat} : nest3 pr s1 s2 k t (u + 1) = nest3 pr s1 s2 k t u ++ [pr k t u] := by
  unfold nest3
  rw [nestL_snoc, List.append_assoc]
theorem nest3_next2 {α : Type} {pr : Nat → Nat → Nat → α} {s1 : Nat → Nat} {s2 : Nat → Nat → Nat} {k t : Nat} : nest3 pr s1 s2 k (t + 1) 0 = nest3 pr s1 s2 k t (s2 k t) := by
  unfold nest3
  rw [nestL_next]
theorem nest3_next1 {α : Type} {pr : Nat → Nat → Nat → α} {s1 : Nat → Nat} {s2 : Nat → Nat → Nat} {k : Nat} : nest3 pr s1 s2 (k + 1) 0 0 = nest3 pr s1 s2 k (s1 k) 0 := by
  unfold nest3
  rw [List.range_succ, List.flatMap_append]
  simp [nestL_zero]
theorem nest3_mem {α : Type} {pr : Nat → Nat → Nat → α} {s1 : Nat → Nat} {s2 : Nat → Nat → Nat} {k : Nat} {x : α} (h : x ∈ nest3 pr s1 s2 k 0 0) : ∃ a b t, a < k ∧ b < s1 a ∧ t < s2 a b ∧ x = pr a b t := by
  unfold nest3 at h
  rw [nestL_zero, List.append_nil, List.mem_flatMap] at h
  obtain ⟨a, ha, hx⟩ := h
  obtain ⟨b, t, hb, ht, e⟩ := nestL_mem hx
  exact ⟨a, b, t, List.mem_range.1 ha, hb, ht, e⟩
theorem flatMap_len {α : Type} {f : Nat → List α} {c : Nat} : ∀ {k}, (∀ a, a < k → (f a).length ≤ c) → ((List.range k).flatMap f).length ≤ k * c
  | 0, _ => by simp
  | k + 1, h => by
    have ih := flatMap_len (f := f) (c := c) (k := k) fun a ha => h a (by omega)
    have := h k (by omega)
    rw [List.range_succ, List.flatMap_append, List.length_append, Nat.add_mul]
    simp only [List.flatMap_cons, List.flatMap_nil, List.append_nil]
    omega
theorem nest3_le {α : Type} {pr : Nat → Nat → Nat → α} {s1 : Nat → Nat} {s2 : Nat → Nat → Nat} {c d k t u n : Nat} (h1 : ∀ a, a < n → s1 a ≤ d) (h2 : ∀ a, a < n → ∀ b, b < s1 a → s2 a b ≤ c) (hk : k < n) (ht : t < s1 k) (hu : u ≤ s2 k t) : (nest3 pr s1 s2 k t u).length ≤ n * (d * c) := by
  unfold nest3
  rw [List.length_append]
  have q1 := flatMap_len (f := fun a => nestL (pr a) (s2 a) (s1 a) 0) (c := d * c) (k := k) fun a ha => by
    have r1 := nestL_length (pr := pr a) (sz := s2 a) (c := c) (k := s1 a) fun b hb => h2 a (by omega) b hb
    exact Nat.le_trans r1 (Nat.mul_le_mul_right _ (h1 a (by omega)))
  have q2 := nestL_le (pr := pr k) (sz := s2 k) (c := c) (k := t) (t := u) (n := s1 k) (fun b hb => h2 k hk b hb) ht hu
  have q3 : s1 k * c ≤ d * c := Nat.mul_le_mul_right _ (h1 k hk)
  have q4 : (k + 1) * (d * c) ≤ n * (d * c) := Nat.mul_le_mul_right _ hk
  rw [Nat.add_mul] at q4
  omega
theorem nest3_all {α : Type} {pr : Nat → Nat → Nat → α} {s1 : Nat → Nat} {s2 : Nat → Nat → Nat} {c d n : Nat} (h1 : ∀ a, a < n → s1 a ≤ d) (h2 : ∀ a, a < n → ∀ b, b < s1 a → s2 a b ≤ c) : (nest3 pr s1 s2 n 0 0).length ≤ n * (d * c) := by
  unfold nest3
  rw [nestL_zero, List.append_nil]
  exact flatMap_len fun a ha => by
    have r1 := nestL_length (pr := pr a) (sz := s2 a) (c := c) (k := s1 a) fun b hb => h2 a ha b hb
    exact Nat.le_trans r1 (Nat.mul_le_mul_right _ (h1 a ha))
theorem getD_mem_list {α : Type} {xs : List α} {d : α} {i : Nat} (h : i < xs.length) : xs.getD i d ∈ xs := by
  rw [List.getD_eq_getElem?_getD, List.getElem?_eq_getElem h]
  exact List.getElem_mem h

def CatR (b : Nat) (H : GHeap) (c : Cat) (p : CatP) : Prop := (IntsR b H p.a1 c.src ∧ IntsR b H p.a2 c.tgt ∧ IntsR b H p.a3 c.idn ∧ IntssR b H p.a4 c.comp p.r) ∧ (lvBlks (c.leaves p)).Nodup
def Cat.zero : Cat := ⟨0, [], [], [], []⟩
def CatP.zero : CatP := ⟨none, none, none, none, fun _ => none⟩
end Go.GL
namespace Go.GL

def NoMove (xs : List Int) : Prop := ∀ i : Nat, i < xs.length → xs.getD i 0 = i
structure Prof.Sized (m : Prof) : Prop where
  sl : (m.sz.length : Int) = m.s.obj
  bl : m.be.length = m.s.src.length
  hl : m.bh.length = m.t.src.length
  row : ∀ x, x < m.sz.length → ((m.sz.getD x []).length : Int) = m.t.obj
  rng : ∀ x, x < m.sz.length → ∀ y, y < (m.sz.getD x []).length → 0 ≤ (m.sz.getD x []).getD y 0 ∧ (m.sz.getD x []).getD y 0 ≤ 64
def Prof.BeOk (m : Prof) (a y : Nat) : Prop :=
  (((m.be.getD a []).getD y []).length : Int) = (m.sz.getD (m.s.tgt.getD a 0).toNat []).getD y 0 ∧ allIn ((m.be.getD a []).getD y []) ((m.sz.getD (m.s.src.getD a 0).toNat []).getD y 0) = true
def Prof.BhOk (m : Prof) (b x : Nat) : Prop :=
  (((m.bh.getD b []).getD x []).length : Int) = (m.sz.getD x []).getD (m.t.src.getD b 0).toNat 0 ∧ allIn ((m.bh.getD b []).getD x []) ((m.sz.getD x []).getD (m.t.tgt.getD b 0).toNat 0) = true
structure Prof.Maps (m : Prof) : Prop where
  be : ∀ a, a < m.be.length → ((m.be.getD a []).length : Int) = m.t.obj ∧ ∀ y, y < (m.be.getD a []).length → m.BeOk a y
  bh : ∀ b, b < m.bh.length → ((m.bh.getD b []).length : Int) = m.s.obj ∧ ∀ x, x < (m.bh.getD b []).length → m.BhOk b x
structure Prof.Shape (m : Prof) : Prop where
  s : m.s.Is
  t : m.t.Is
  z : m.Sized
  ok : m.Maps
structure Prof.Acts (m : Prof) : Prop where
  idb : ∀ y : Nat, (y : Int) < m.t.obj → ∀ x : Nat, (x : Int) < m.s.obj → NoMove ((m.be.getD (m.s.idn.getD x 0).toNat []).getD y []) ∧ NoMove ((m.bh.getD (m.t.idn.getD y 0).toNat []).getD x [])
  thb : ∀ y : Nat, (y : Int) < m.t.obj → ∀ a : Nat, a < m.s.src.length → ∀ b : Nat, b < m.s.src.length → 0 ≤ (m.s.comp.getD a []).getD b 0 →
    (m.be.getD ((m.s.comp.getD a []).getD b 0).toNat []).getD y [] = thenL ((m.be.getD b []).getD y []) ((m.be.getD a []).getD y [])
  thh : ∀ x : Nat, (x : Int) < m.s.obj → ∀ a : Nat, a < m.t.src.length → ∀ b : Nat, b < m.t.src.length → 0 ≤ (m.t.comp.getD a []).getD b 0 →
    (m.bh.getD ((m.t.comp.getD a []).getD b 0).toNat []).getD x [] = thenL ((m.bh.getD a []).getD x []) ((m.bh.getD b []).getD x [])
def Prof.MixAt (m : Prof) (a b : Nat) : Prop :=
  thenL ((m.be.getD a []).getD (m.t.src.getD b 0).toNat []) ((m.bh.getD b []).getD (m.s.src.getD a 0).toNat []) = thenL ((m.bh.getD b []).getD (m.s.tgt.getD a 0).toNat []) ((m.be.getD a []).getD (m.t.tgt.getD b 0).toNat [])
def Prof.Mix (m : Prof) : Prop := ∀ a, a < m.s.src.length → ∀ b, b < m.t.src.length → m.MixAt a b
def Prof.Is (m : Prof) : Prop := m.Shape ∧ m.Acts ∧ m.Mix

def sumN (f : Nat → Int) : Nat → Int
  | 0 => 0
  | n + 1 => sumN f n + f n
def Prof.diag (m : Prof) (i : Nat) : Int := (m.sz.getD i []).getD i 0
noncomputable def Prof.code (m : Prof) : Int := bif B m.Is then (bif B (m.s = m.t) then 0 else 5) else 1
noncomputable def Prof.place (m : Prof) (x e : Int) : Int × Int := bif B (m.code = 0) then (bif B (0 ≤ x ∧ x < m.s.obj ∧ 0 ≤ e ∧ e < m.diag x.toNat) then (sumN m.diag x.toNat + e, 0) else (0, 2)) else (0, m.code)
abbrev L3 := List (List (List Int))
def Prof.CoOk (m n : Prof) (c : L3) (x y : Nat) : Prop := (((c.getD x []).getD y []).length : Int) = (m.sz.getD x []).getD y 0 ∧ allIn ((c.getD x []).getD y []) ((n.sz.getD x []).getD y 0) = true
structure Prof.Rows (m n : Prof) (c : L3) : Prop where
  cl : (c.length : Int) = m.s.obj
  row : ∀ x, x < c.length → ((c.getD x []).length : Int) = m.t.obj ∧ ∀ y, y < (c.getD x []).length → m.CoOk n c x y
def Prof.NatB (m n : Prof) (c : L3) (a y : Nat) : Prop :=
  thenL ((m.be.getD a []).getD y []) ((c.getD (m.s.src.getD a 0).toNat []).getD y []) = thenL ((c.getD (m.s.tgt.getD a 0).toNat []).getD y []) ((n.be.getD a []).getD y [])
def Prof.NatH (m n : Prof) (c : L3) (b x : Nat) : Prop :=
  thenL ((m.bh.getD b []).getD x []) ((c.getD x []).getD (m.t.tgt.getD b 0).toNat []) = thenL ((c.getD x []).getD (m.t.src.getD b 0).toNat []) ((n.bh.getD b []).getD x [])
structure Prof.IsMap (m n : Prof) (c : L3) : Prop where
  rows : m.Rows n c
  nb : ∀ a, a < m.s.src.length → ∀ y : Nat, (y : Int) < m.t.obj → m.NatB n c a y
  nh : ∀ b, b < m.t.src.length → ∀ x : Nat, (x : Int) < m.s.obj → m.NatH n c b x
end Go.GL
namespace Go.GL
def least (K : Nat → Nat → Bool) (i : Nat) : Nat := ((List.range i).find? fun j => K j i).getD i
def reps (K : Nat → Nat → Bool) (m : Nat) : Nat := ((List.range m).filter fun j => least K j == j).length
def clsAt (K : Nat → Nat → Bool) (i : Nat) : Int := (reps K (least K i) : Int)
def clsL (K : Nat → Nat → Bool) (n : Nat) : List Int := (List.range n).map (clsAt K)
structure Eqv (K : Nat → Nat → Bool) (n : Nat) : Prop where
  rf : ∀ a, a < n → K a a = true
  sy : ∀ a b, a < n → b < n → K a b = true → K b a = true
  tr : ∀ a b c, a < n → b < n → c < n → K a b = true → K b c = true → K a c = true
def kerB (xs : List Int) (a b : Nat) : Bool := xs.getD a 0 == xs.getD b 0
abbrev pA (p : List Int) : Nat := (p.getD 0 0).toNat
abbrev pB (p : List Int) : Nat := (p.getD 1 0).toNat
def stepK (K : Nat → Nat → Bool) (p q : Nat) : Nat → Nat → Bool := fun a b => K a b || (K a p && K q b) || (K a q && K p b)
def joinK (ps : List (Nat × Nat)) : Nat → Nat → Bool := ps.foldl (fun K p => stepK K p.1 p.2) (fun a b => a == b)
structure Forest (j : List Int) : Prop where
  up : ∀ x, x < j.length → 0 ≤ j.getD x 0 ∧ j.getD x 0 ≤ (x : Int)
def joinL (n : Nat) (ps : List (Nat × Nat)) : List Int := clsL (joinK ps) n
end Go.GL
namespace Go.GL
def idxLL (xss : List (List Int)) (t : List Int) : Int := match firstN xss.length fun i => xss.getD i [] == t with | some i => (i : Int) | none => -1
theorem idxLL_some {xss : List (List Int)} {t : List Int} {i : Nat} (hi : i < xss.length) (h : xss.getD i [] = t) (hb : ∀ j, j < i → ¬ xss.getD j [] = t) : idxLL xss t = i := by
  unfold idxLL
  rw [firstN_some hi (by simpa using h) fun j hj => by simpa using hb j hj]
theorem idxLL_none {xss : List (List Int)} {t : List Int} (h : ∀ j, j < xss.length → ¬ xss.getD j [] = t) : idxLL xss t = -1 := by
  unfold idxLL
  rw [firstN_none fun j hj => by simpa using h j hj]
structure Keys (n : Nat) (xss : List (List Int)) : Prop where
  nd : xss.Nodup
  ok : ∀ t ∈ xss, t.length = n ∧ ∀ i, i < n → 0 ≤ t.getD i 0 ∧ t.getD i 0 ≤ 255
end Go.GL
namespace Go.GL
open Go.RowKit
structure PL (g g0 n : Nat) : Prop where
  or : g = g0 ∨ n ≤ g
theorem PL.ne {g g0 n x : Nat} (h : PL g g0 n) (h0 : x ≠ g0) (hx : x < n) : x ≠ g := by
  rcases h.or with rfl | h
  · exact h0
  · omega
theorem St.sP {bs cs : List Nat} {H0 H H' : GHeap} (s : St bs H0 H) (h : St cs H H') (hg : ∀ k, k < H0.next → out bs k → out cs k := by intro k hk ho; simp only [out, and_true] at ho ⊢ <;> first | exact ho | exact ho.1 | exact ho.2 | exact ho.2.1 | exact ho.2.2 | exact ho.2.2.1 | exact ho.2.2.2 | exact PL.ne (by assumption) (by first | exact ho | exact ho.1 | exact ho.2 | exact ho.2.1 | exact ho.2.2 | exact ho.2.2.1 | exact ho.2.2.2 | omega) (by omega) | omega) : St bs H0 H' := s.st h hg
theorem PL.ge {g g0 n b : Nat} (h : PL g g0 n) (h0 : b ≤ g0) (hn : b ≤ n) : b ≤ g := by
  rcases h.or with rfl | h
  · exact h0
  · omega
def nz : Nat → Nat → Option Addr
  | 0, _ => none
  | _ + 1, g => some ⟨g, 0, none⟩
theorem nz_pos {k g : Nat} (h : 0 < k) : nz k g = some ⟨g, 0, none⟩ := by
  cases k with
  | zero => omega
  | succ k => rfl
structure NO (H : GHeap) (g : Nat) (cs : List Value) (e : TypeId) (k : Nat) : Prop where
  lt : g < H.next
  or : (k = 0 ∧ cs = []) ∨ (0 < k ∧ H.get g = some (.row cs e true))
theorem NO.le {H H' : GHeap} {g k : Nat} {cs : List Value} {e : TypeId} (h : NO H g cs e k) (s : H.Le H') : NO H' g cs e k := ⟨by have := h.lt; have := s.1; omega, h.or.imp id fun h => ⟨h.1, s.2 _ _ h.2⟩⟩
theorem NO.st {H H' : GHeap} {g k : Nat} {bs : List Nat} {cs : List Value} {e : TypeId} (h : NO H g cs e k) (s : St bs H H') (ho : out bs g) : NO H' g cs e k := ⟨by have := h.lt; have := s.nx; omega, h.or.imp id fun h => ⟨h.1, s.same _ _ ho h.2⟩⟩
theorem NO.start {H : GHeap} {g k : Nat} {cs : List Value} {e : TypeId} (h : g < H.next) (hk : k = 0) (hc : cs = []) : NO H g cs e k := ⟨h, .inl ⟨hk, hc⟩⟩
theorem NO.of {H : GHeap} {g k : Nat} {cs : List Value} {e : TypeId} (h : H.get g = some (.row cs e true)) (hk : 0 < k) : NO H g cs e k := ⟨GHeap.ltg h, .inr ⟨hk, h⟩⟩
theorem NO.get {H : GHeap} {g k : Nat} {cs : List Value} {e : TypeId} (h : NO H g cs e k) (hk : 0 < k) : H.get g = some (.row cs e true) := by
  rcases h.or with ⟨h, _⟩ | ⟨_, h⟩
  · omega
  · exact h
theorem Sim.hold {P : Program} {B : Nat} {w0 : World} {ρ : Place} {H : GHeap} {w : World} (hs : Sim P B w0 ρ H w) : Sim P B w0 ρ ⟨H.objs ++ [none]⟩ w := by
  have hg : ∀ {g : Nat} {o : GObj}, GHeap.get ⟨H.objs ++ [none]⟩ g = some o → H.get g = some o := fun {g o} h => by
    unfold GHeap.get at h ⊢
    rcases Nat.lt_trichotomy g H.objs.length with hl | hl | hl
    · rwa [List.getElem?_append_left hl] at h
    · subst hl; simp at h
    · rw [List.getElem?_eq_none (by simp; omega)] at h; cases h
  exact ⟨fun g h => hs.dom g (by have : (GHeap.mk (H.objs ++ [none])).next = H.next + 1 := by simp [GHeap.next]
                                 omega), fun g o h => hs.live g o (hg h), fun g g' o o' s s' h1 h2 => hs.apart g g' o o' s s' (hg h1) (hg h2), hs.base, hs.below⟩
section
variable {P : Program} {o : Oper} {fr : Slots} {H : GHeap}
theorem CDo.appendNO {t tx e e' : TypeId} {s x : Operand} {g g1 n sz bytes : Nat} {z cs vs : List Value} (ho : o.op = .call { callee := .builtin .append, args := #[s, x], argTypes := #[t, tx] }) (ht : sliceT P t = some (e, sz)) (hz : zeroT P e = some (z, sz)) (hzn : z.length = sz)
    (hb : (P.info? e).map (·.bytes) = some bytes) (htx : sliceT P tx = some (e', sz)) (hsv : ev fr s = some (.slice (nz n g) n n)) (hx : ev fr x = some (.slice (some ⟨g1, 0, none⟩) 1 1)) (hno : NO H g cs e n) (hg1 : H.get g1 = some (.row vs e' true)) (hend : n * sz = cs.length)
    (hv : vs.length = sz) (hone : vs.all (·.oneCell') = true) (hN : n + 1 ≤ 16777216) (hB : (n + 1) * bytes ≤ 140737488355328) :
    CDo P o fr H (fun r H' => ∃ g', r = some (.slice (some ⟨g', 0, none⟩) (n + 1) (n + 1)) ∧ St [g] H H' ∧ H.next ≤ g' ∧ H'.get g' = some (.row (cs ++ vs) e true)) := by
  rcases hno.or with ⟨rfl, rfl⟩ | ⟨h1, h2⟩
  · have hsrc : SrcG P fr H sz tx x 1 vs := .slice htx hx (by omega) (fun i v hv => by rw [GHeap.cell_of hg1, Nat.zero_add]; exact hv) (fun v hv => List.all_eq_true.1 hone v hv)
    exact .appendNil ho ht hz hzn hb hsv hsrc (by omega) (by unfold maxLen; omega) (by omega) ⟨_, rfl, .push (.refl _ _), Nat.le_refl _, GHeap.get_push_new _ _⟩
  · rw [nz_pos h1] at hsv
    exact .appendV ho ht hz hzn hb htx hsv hx h2 hg1 hend hv hone hN hB
end
end Go.GL
namespace Go.Proofs.Ytiooclghkafokaa
open Go Go.GL Go.RowKit Go.Proofs
theorem l09Find_c {a b : Option Addr} {xss : List (List Int)} {r : Nat → Option Addr} {t : List Int} {H : GHeap} (h : Intss H a xss r := by assumption) (ht : Ints H b t := by assumption) (hl : xss.length ≤ 1048576 := by omega) (hl2 : ∀ i, (xss.getD i []).length ≤ 1048576) (htl : t.length ≤ 1048576 := by omega) :
    GCalls Try.prog 210 [.slice a xss.length xss.length, .slice b t.length t.length] H (Ret (.int .i64 (idxLL xss t)) H) := by
  refine GCalls.ret rfl ?_
  refine GCalls.body (N := 19) (rs := [.tmp 4]) Try.func210 rfl rfl rfl rfl (fun Qx l hend => ?_)
  refine .fg [0, 1] rfl ?_
  have f := GHeap.Le.refl H
  have d := h
  have c := ht
  refine .seq (fun K1 o => .region (.mv rfl (.nil (o _ _ (.seq (fun K2 y => .seq (fun K3 v => .region (.mv rfl (.nil (v _ _ ?_))))))))))
  refine .block ?_
  refine .loopR (σ := Nat) [(0, some _), (1, some _)] (fun k => [(5, some (.int .i64 (k : Int)))]) (fun k H' => St [] H H' ∧ k ≤ xss.length ∧ ∀ j, j < k → ¬ xss.getD j [] = t) (fun k => xss.length - k) (0) ⟨rfl, rfl, trivial⟩ ⟨rfl, trivial⟩ ?_ ?_
  ·
   refine ⟨.refl _ _, ?_⟩
   exact ⟨by omega, fun _ _ => by omega⟩
  rintro k HL1 ⟨g, hI⟩ KL1 n
  refine .forget (fr' := [(5, some (.int .i64 (k : Int))), (0, some _), (1, some _)]) ⟨rfl, rfl, rfl, trivial⟩ ?_
  replace f := f.st g (fun k hk => trivial)
  replace h := d.mono f
  replace ht := c.mono f
  obtain ⟨hi, ha⟩ := hI
  refine .seq (fun K4 p => .seq (fun K5 x => .region (.mv rfl (.mv rfl (.q rfl (.len sl_25_B rfl) (.q rfl (.cmp rfl rfl rfl) (.nil (x _ _ ?_))))))))
  refine .cond rfl (fun h9 => ?_) (fun h9 => ?_)
  ·
   simp only [sps] at h9
   have q1 := hl2 k
   have u1 := h.2 k (by omega)
   refine .skip ?_
   refine p _ _ (.seq (fun K6 w => ?_))
   refine .block ?_
   refine .seq (fun K7 u => .region (.mv rfl (.mv rfl ?_)))
   refine .q rfl (.idxN sl_25_B (Intss.sl (by assumption)) rfl rfl (by omega)) ?_
   refine .q rfl (.loadR on_24_B (by assumption) rfl (by omega)) ?_
   refine .mv rfl ?_
   refine .callQ rfl rfl rfl rfl @Try.call146 rfl (l01Same_c) ?_
   refine .nil (u _ _ ?_)
   refine .cond rfl (fun m => ?_) (fun m => ?_)
   ·
    simp only [sps] at m
    refine .seq (fun K8 z => .region (.mv rfl (.mv rfl (.nil (z _ _ ?_)))))
    refine .ret ?_
    refine l _ _ ?_
    refine ⟨_, rfl, ?_⟩
    exact ⟨by rw [idxLL_some (by omega) m ha], f⟩
   simp only [sps] at m
   refine .skip ?_
   refine w _ _ (.region (.mv rfl ?_))
   refine .q rfl (.add rfl rfl rfl (by omega) (by omega)) ?_
   refine .mv rfl (.nil ?_)
   refine n (k + 1) _ _ ?_ ?_ ⟨rfl, rfl, rfl, trivial⟩
   ·
    refine ⟨g, ?_⟩
    refine ⟨by omega, fun j hj => ?_⟩
    by_cases e : j < k
    · exact ha j e
    · obtain rfl : j = k := by omega
      exact m
   omega
  try simp only [sps] at h9
  refine .exit ?_
  refine y _ _ (.seq (fun K9 s => .region (.mv rfl (.nil (s _ _ ?_)))))
  refine .ret ?_
  refine l _ _ ?_
  refine ⟨_, rfl, ?_⟩
  obtain rfl : k = xss.length := by omega
  exact ⟨by rw [idxLL_none ha], f⟩
end Go.Proofs.Ytiooclghkafokaa
namespace Go.Proofs.Ytiooclghkafokaa
open Go Go.GL Go.RowKit Go.Proofs
end Go.Proofs.Ytiooclghkafokaa
namespace Go.Proofs.Ytiooclghkafokaa
open Go Go.GL Go.RowKit Go.Proofs
end Go.Proofs.Ytiooclghkafokaa
namespace Go.Proofs.Ytiooclghkafokaa
open Go Go.GL Go.RowKit Go.Proofs
end Go.Proofs.Ytiooclghkafokaa
namespace Go.Proofs.Ytiooclghkafokaa
open Go Go.GL Go.RowKit Go.Proofs
end Go.Proofs.Ytiooclghkafokaa
namespace Go.Proofs.Ytiooclghkafokaa
open Go Go.GL Go.RowKit Go.Proofs
end Go.Proofs.Ytiooclghkafokaa
namespace Go.Proofs.Ytiooclghkafokaa
open Go Go.GL Go.RowKit Go.Proofs
end Go.Proofs.Ytiooclghkafokaa
namespace Go.GL
def searchL (cand : Nat → List Int) (ok : Nat → List Int → Bool) : Nat → List Int → List (List Int)
  | 0, p => [p]
  | r + 1, p => (cand p.length).flatMap fun h => bif ok p.length (p ++ [h]) then searchL cand ok r (p ++ [h]) else []
structure Net where
  cand : Nat → List Int
  A : Nat
  sr : Nat → Nat
  tg : Nat → Nat
  sq : Nat → Int → Int → Bool
namespace Net
def ok (n : Net) (j : Nat) (q : List Int) : Bool := allN n.A fun a => !(max (n.sr a) (n.tg a) == j) || n.sq a (q.getD (n.sr a) 0) (q.getD (n.tg a) 0)
def fits (n : Net) (q : List Int) (x : Nat) : Bool := allN n.A fun a => (n.sr a != x && n.tg a != x) || decide (q.getD (n.sr a) 0 < 0) || decide (q.getD (n.tg a) 0 < 0) || n.sq a (q.getD (n.sr a) 0) (q.getD (n.tg a) 0)
def choices (n : Net) (c : List Int) (x : Nat) : List Int := (n.cand x).filter fun h => n.fits (c.set x h) x
def sols (n : Net) (N : Nat) : List (List Int) := searchL n.cand n.ok N []
end Net
def firstU (c : List Int) : Option Nat := firstN c.length fun i => c.getD i 0 == -1
def cntU (c : List Int) : Nat := ((List.range c.length).filter fun i => c.getD i 0 == -1).length
def Net.stuck (n : Net) (c : List Int) : Bool := (List.range c.length).any fun y => c.getD y 0 == -1 && (n.choices c y).isEmpty
def Net.goF (n : Net) : Nat → List Int → List (List Int)
  | 0, c => [c]
  | f + 1, c => match firstU c with
    | none => [c]
    | some x => bif n.stuck c then [] else (n.choices c x).flatMap fun h => n.goF f (c.set x h)
def Net.go (n : Net) (c : List Int) : List (List Int) := n.goF (cntU c) c
structure Net.Good (n : Net) (N : Nat) : Prop where
  pos : ∀ x, ∀ h ∈ n.cand x, 0 ≤ h
  sr : ∀ a, a < n.A → n.sr a < N
  tg : ∀ a, a < n.A → n.tg a < N
end Go.GL
namespace Go.GL

structure Fun.Cone (d : Fun) (p : Con) : Prop where
  ap : 0 ≤ p.ap ∧ p.ap < d.t.obj
  ll : p.lg.length = d.ob.length
  lg : ∀ j, j < p.lg.length → 0 ≤ p.lg.getD j 0 ∧ p.lg.getD j 0 < d.t.src.length
  ends : ∀ j, j < p.lg.length → d.t.src.getD (p.lg.getD j 0).toNat 0 = p.ap ∧ d.t.tgt.getD (p.lg.getD j 0).toNat 0 = d.ob.getD j 0
  tri : ∀ a, a < d.ar.length → d.t.th (p.lg.getD (d.s.src.getD a 0).toNat 0) (d.ar.getD a 0) = p.lg.getD (d.s.tgt.getD a 0).toNat 0
def Con.zero : Con := ⟨0, []⟩
end Go.GL
namespace Go.GL
section
variable {P : Program} {N : Nat} {ops : Array Oper} {Q : Slots → GHeap → Prop} {L : List (Oper × Nat)} {fr : Slots} {H Hb : GHeap} {o : Oper} {i : Nat} {t : Tree}
end
end Go.GL
namespace Go.GL
end Go.GL
namespace Go.GL
def Off (r : Nat → Option Addr) (n : Nat) (gs : List Nat) : Prop := ∀ i, i < n → ∀ g, r i = some ⟨g, 0, none⟩ → out gs g
theorem Off.nil (r : Nat → Option Addr) (n : Nat) : Off r n [] := fun _ _ _ _ => trivial
theorem Off.cons {r : Nat → Option Addr} {n g : Nat} {gs : List Nat} (h : ∀ i, i < n → r i ≠ some ⟨g, 0, none⟩) (h' : Off r n gs) : Off r n (g :: gs) := fun i hi k hk => ⟨fun e => h i hi (by rw [hk, e]), h' i hi k hk⟩
theorem OwnRows.st {b k : Nat} {bs : List Nat} {H H' : GHeap} {e : TypeId} {r : Nat → Option Addr} {X : Nat → List Int} (h : OwnRows b H e r X k) (s : St bs H H') (ho : Off r k bs) : OwnRows b H' e r X k := ⟨fun i hi => by
  obtain ⟨x, h1, h2, h3⟩ := h.row i hi
  exact ⟨x, h1, h2, s.same x _ (ho i hi x h1) h3⟩, h.inj⟩
theorem OwnL.st {b : Nat} {bs : List Nat} {H H' : GHeap} {e : TypeId} {r : Nat → Option Addr} {xss : List (List Int)} (h : OwnL b H e r xss) (s : St bs H H') (ho : Off r xss.length bs) : OwnL b H' e r xss := OwnRows.st h s ho
theorem OwnL.ne {b g : Nat} {H : GHeap} {e : TypeId} {r : Nat → Option Addr} {xss : List (List Int)} (h : OwnL b H e r xss) (hg : H.next ≤ g) : ∀ i, i < xss.length → r i ≠ some ⟨g, 0, none⟩ := fun i hi e => by
  obtain ⟨x, h1, _, h3⟩ := h.row i hi
  rw [h1] at e
  cases e
  have := GHeap.ltg h3
  omega
theorem OwnL.neT {b g : Nat} {H : GHeap} {e e' : TypeId} {cs : List Value} {r : Nat → Option Addr} {xss : List (List Int)} (h : OwnL b H e r xss) (hg : H.get g = some (.row cs e' true)) (hne : (e != e') = true) : ∀ i, i < xss.length → r i ≠ some ⟨g, 0, none⟩ := fun i hi ei => by
  obtain ⟨x, h1, _, h3⟩ := h.row i hi
  rw [h1] at ei
  cases ei
  rw [hg] at h3
  cases h3
  simp at hne
theorem OwnL.snoc2 {b g : Nat} {H : GHeap} {e : TypeId} {r : Nat → Option Addr} {xss : List (List Int)} {x : List Int} (h : OwnL b H e r xss) (hg : H.get g = some (.row (ints x) e true)) (hne : ∀ i, i < xss.length → r i ≠ some ⟨g, 0, none⟩) (hb : b ≤ g) :
    OwnL b H e (upd r xss.length (some ⟨g, 0, none⟩)) (xss ++ [x]) := by
  have key : ∀ i, i < xss.length + 1 → (i = xss.length ∧ upd r xss.length (some ⟨g, 0, none⟩) i = some ⟨g, 0, none⟩ ∧ (xss ++ [x]).getD i [] = x) ∨ (i < xss.length ∧ upd r xss.length (some ⟨g, 0, none⟩) i = r i ∧ (xss ++ [x]).getD i [] = xss.getD i []) := by
    intro i hi
    by_cases e : i = xss.length
    · subst e
      exact .inl ⟨rfl, upd_eq _ _ _, by rw [getD_snoc, if_neg (by omega), if_pos rfl]⟩
    · exact .inr ⟨by omega, upd_ne e, by rw [getD_snoc, if_pos (by omega)]⟩
  unfold OwnL
  rw [List.length_append, List.length_singleton]
  refine ⟨fun i hi => ?_, fun i j hi hj hij => ?_⟩
  · rcases key i hi with ⟨_, h2, h3⟩ | ⟨h1, h2, h3⟩
    · exact ⟨g, h2, hb, by rw [h3]; exact hg⟩
    · obtain ⟨y, y1, y2, y3⟩ := h.row i h1
      exact ⟨y, by rw [h2]; exact y1, y2, by rw [h3]; exact y3⟩
  · rcases key i hi with ⟨h1, h2, _⟩ | ⟨h1, h2, _⟩
    · rcases key j hj with ⟨k1, k2, _⟩ | ⟨k1, k2, _⟩
      · omega
      · rw [h2, k2] at hij
        exact absurd hij.symm (hne j k1)
    · rcases key j hj with ⟨k1, k2, _⟩ | ⟨k1, k2, _⟩
      · rw [h2, k2] at hij
        exact absurd hij (hne i h1)
      · rw [h2, k2] at hij
        exact h.inj i j h1 k1 hij
theorem take_map_snoc {α β : Type} {f : α → β} {l : List α} {i : Nat} {d : α} (h : i < l.length) : (l.take (i + 1)).map f = (l.take i).map f ++ [f (l.getD i d)] := by
  rw [List.take_add_one, List.getElem?_eq_getElem h, List.map_append, List.getD_eq_getElem?_getD, List.getElem?_eq_getElem h]; rfl

end Go.GL
namespace Go.GL
structure Fun.Par (f g : Fun) : Prop where
  fi : f.Is
  gi : g.Is
  ps : f.s = g.s
  pt : f.t = g.t
def Fun.net (f g : Fun) (iso : Bool) : Net where
  cand x := (f.t.hom (f.ob.getD x 0) (g.ob.getD x 0)).filter fun h => !iso || decide (0 ≤ f.t.inv h)
  A := f.ar.length
  sr a := (f.s.src.getD a 0).toNat
  tg a := (f.s.tgt.getD a 0).toNat
  sq a u v := decide (f.t.th (f.ar.getD a 0) v = f.t.th u (g.ar.getD a 0))
def stCells (f : Fun) (p : FunP) (g : Fun) (q : FunP) (iso : Bool) (most : Int) (a : Option Addr) (n : Nat) : List Value := f.cells p ++ (g.cells q ++ [.bool iso, .int .i64 most, .slice a n n])
end Go.GL
namespace Go.GL
def SlO (b : Nat) (H : GHeap) (a : Option Addr) (g : Nat) (cs : List Value) (e : TypeId) (k : Nat) : Prop := (a = none ∧ k = 0 ∧ cs = []) ∨ (a = some ⟨g, 0, none⟩ ∧ b ≤ g ∧ H.get g = some (.row cs e true))
section
variable {P : Program} {o : Oper} {fr : Slots} {H : GHeap}
end
structure FoundAt (T e e' : TypeId) (b : Nat) (H : GHeap) (gs gF : Nat) (f : Fun) (p : FunP) (k : Fun) (q : FunP) (iso : Bool) (M : Nat) (fs : List (List Int)) : Prop where
  ex : ∃ a r, H.get gs = some (.row (stCells f p k q iso (M : Int) a fs.length) T true) ∧ SlO b H a gF (slsL r fs) e fs.length ∧ OwnL b H e' r fs
structure SeenU (n : Net) (co : List Int) (y : Nat) (x : Int) : Prop where
  fst : (x = -1 ∧ ∀ j, y ≤ j → j < co.length → ¬ co.getD j 0 = -1) ∨ (∃ m : Nat, x = m ∧ y ≤ m ∧ m < co.length ∧ co.getD m 0 = -1 ∧ ∀ j, y ≤ j → j < m → ¬ co.getD j 0 = -1)
  cho : ∀ j, y ≤ j → j < co.length → co.getD j 0 = -1 → n.choices co j ≠ []
theorem GT.regionDB {P : Program} {N : Nat} {Q : Exit → Slots → GHeap → Prop} {fr : Slots} {Hb H : GHeap} {id : Nat} {ops : Array Oper} (hm : P.follows .mixedOrders = true) (t : Tree) (hok : (ctxOf ops).ok [] false t = true) (hb : Hb.Le H) (h : GTree P N ops (fun fr' H' => Q .normal fr' H') t fr Hb H) :
    GT P N (.region id ops true) Q fr H := fun l D B w0 ρ a w hs hf => by
  refine wpIn_region_any hm ?_
  refine tree_sound (ρ0 := ρ) (fun ρ' fr' H' a' w' hQ he hs' hf' => ⟨ρ', fr', H', hQ, he, hs', hf'⟩) ops.size t [] fr Hb H ρ _ a _ ⟨hok, h, hb, .refl ρ, hs.drew, hf.1, hf.2.1, by simp, fun i hi => ?_, fun i hi => ?_, .nil, (fun i hi => by cases hi), (fun i hi => by cases hi), fun s v hv _ => hf.2.2 s v hv, (fun j hj => by cases hj)⟩ ?_
  · unfold lis at hi
    simp [Array.getD_eq_getD_getElem?, Array.getElem?_replicate] at hi
    split at hi <;> simp at hi
  · unfold lis at hi
    simp [Array.getD_eq_getD_getElem?, Array.getElem?_replicate] at hi
    split at hi <;> simp at hi
  · unfold left
    exact Nat.le_trans (List.length_filter_le _ _) (by simp)
theorem GHeap.get_erase {H : GHeap} {g k : Nat} {o : GObj} (h : (H.set g none).get k = some o) : k ≠ g ∧ H.get k = some o := by
  by_cases e : g = k
  · subst e
    by_cases hl : g < H.next
    · rw [GHeap.get_set_eq hl] at h; cases h
    · have := GHeap.ltg h
      rw [GHeap.next_set] at this
      exact absurd this hl
  · rw [GHeap.get_set_ne e] at h
    exact ⟨Ne.symm e, h⟩
theorem GHeap.le_erase (H : GHeap) (g : Nat) : (H.set g none).Le H := ⟨by rw [GHeap.next_set]; exact Nat.le_refl _, fun _ _ h => (GHeap.get_erase h).2⟩
theorem GHeap.Le.erase_st {H0 H1 H2 : GHeap} {g : Nat} (h : (H0.set g none).Le H1) (s : St [g] H1 H2) : (H0.set g none).Le H2 := ⟨Nat.le_trans h.1 s.nx, fun k o hk => s.same k o ⟨(GHeap.get_erase hk).1, trivial⟩ (h.2 k o hk)⟩
theorem GHeap.get_erase_of {H : GHeap} {g k : Nat} {o : GObj} (h : H.get k = some o) (hk : k ≠ g) : (H.set g none).get k = some o := by rw [GHeap.get_set_ne (Ne.symm hk)]; exact h
end Go.GL
namespace Go.GL
structure Hears (P : Program) (fn : Nat) (cap : Array Value) (e0 g1 most : Nat) (T : TypeId) (A : Nat → List (List Int) → Nat → GHeap → Prop) : Prop where
  code : ∀ (xs : Array Value) (w : World), (callFunc fn xs).run P w = .ok (.enter fn xs) w
  le : ∀ {b : Nat} {fs : List (List Int)} {gF : Nat} {H H' : GHeap}, A b fs gF H → H.Le H' → A b fs gF H'
  st : ∀ {b : Nat} {fs : List (List Int)} {gF gc : Nat} {H H' : GHeap}, A b fs gF H → e0 ≤ gc → gc < b → gc ≠ gF → St [gc] H H' → A b fs gF H'
  run : ∀ {b : Nat} {fs : List (List Int)} {gF gc : Nat} {q : List Int} {H : GHeap}, A b fs gF H → e0 ≤ gc → gc < b → gc ≠ gF → b ≤ H.next → H.get gc = some (.row (ints q) T true) → fs.length ≤ most → q.length ≤ 8 → gF < H.next →
    GCalls P fn ([.slice (some ⟨gc, 0, none⟩) q.length q.length] ++ cap.toList) H (fun v H' => v = .bool (decide (fs.length + 1 ≤ most)) ∧ ∃ gF', (gF' = gF ∨ H.next ≤ gF') ∧ gF' < H'.next ∧ St [g1, gF] H H' ∧ A b (fs ++ [q]) gF' H')
end Go.GL
namespace Go.GL
structure GathL (T1 T2 e : TypeId) (go gm most : Nat) (Tm : TypeId) (b : Nat) (fs : List (List Int)) (gF : Nat) (H : GHeap) : Prop where
  hd : H.get go = some (.row [.slice (some ⟨gF, 0, none⟩) fs.length fs.length] T1 true)
  most : H.get gm = some (.row [.int .i64 (most : Int)] Tm true)
  rows : ∃ r, H.get gF = some (.row (slsL r fs) T2 true) ∧ OwnL b H e r fs
noncomputable def Fun.atR (f k : Fun) : List (List Int) := bif B (f.Is ∧ k.Is) then (bif B (f.s = k.s ∧ f.t = k.t) then (bif decide (((f.net k false).sols f.ob.length).length ≤ 200) then (f.net k false).sols f.ob.length else []) else []) else []
structure GathI (T e : TypeId) (go : Nat) (b : Nat) (fs : List (List Int)) (gF : Nat) (H : GHeap) : Prop where
  ex : ∃ x, (fs = [] ∧ x = [] ∨ fs = [x]) ∧ H.get go = some (.row [.slice (some ⟨gF, 0, none⟩) x.length x.length] T true) ∧ H.get gF = some (.row (ints x) e true)
end Go.GL
namespace Go.GL
end Go.GL
namespace Go.GL
def Con.z : Con := ⟨0, []⟩
def conV (r : Nat → Option Addr) (cs : List Con) : List Value := (List.range cs.length).flatMap fun i => (cs.getD i .z).cells ⟨r i⟩
structure ConsAt (T e : TypeId) (b0 : Nat) (H : GHeap) (g : Nat) (r : Nat → Option Addr) (cs : List Con) : Prop where
  hd : H.get g = some (.row (conV r cs) T true)
  rows : OwnL b0 H e r (cs.map Con.lg)
structure GathC (T1 T2 Tx e : TypeId) (go gx b0 e0 : Nat) (x : Int) (pre : List Con) (b : Nat) (fs : List (List Int)) (gF : Nat) (H : GHeap) : Prop where
  hd : H.get go = some (.row [.slice (some ⟨gF, 0, none⟩) (pre ++ fs.map fun l => (⟨x, l⟩ : Con)).length (pre ++ fs.map fun l => (⟨x, l⟩ : Con)).length] T1 true)
  ix : H.get gx = some (.row [.int .i64 x] Tx true)
  rows : ∃ r, H.get gF = some (.row (conV r (pre ++ fs.map fun l => (⟨x, l⟩ : Con))) T2 true) ∧ OwnL b0 H e r ((pre ++ fs.map fun l => (⟨x, l⟩ : Con)).map Con.lg) ∧ ∀ i, i < (pre ++ fs.map fun l => (⟨x, l⟩ : Con)).length → ∀ g, r i = some ⟨g, 0, none⟩ → g < e0 ∨ b ≤ g
end Go.GL
namespace Go.Proofs.Ytiooclghkafokaa
open Go Go.GL Go.RowKit Go.Proofs
end Go.Proofs.Ytiooclghkafokaa
namespace Go.Proofs.Ytiooclghkafokaa
open Go Go.GL Go.RowKit Go.Proofs
end Go.Proofs.Ytiooclghkafokaa
namespace Go.GL
theorem Lasts.of_le {e : TypeId} {H H' : GHeap} (h : H.Le H') : Lasts e H H' := fun x _ hx => h.2 x _ hx
end Go.GL
namespace Go.GL
def ctPr (y e d : Nat) : List Int := [(y : Int), (e : Int), (d : Int)]
def ctL (p q : Prof) (x z : Int) (y e d : Nat) : List (List Int) := nest3 ctPr (fun y => ((p.sz.getD x.toNat []).getD y 0).toNat) (fun y _ => ((q.sz.getD y []).getD z.toNat 0).toNat) y e d
structure CtOk (p q : Prof) (x z : Int) (n : Nat) : Prop where
  n8 : n ≤ 8
  x0 : 0 ≤ x
  xl : x.toNat < p.sz.length
  z0 : 0 ≤ z
  pn : ((p.sz.getD x.toNat []).length : Int) = n
  qn : (q.sz.length : Int) = n
  pe : ∀ y, y < n → 0 ≤ (p.sz.getD x.toNat []).getD y 0 ∧ (p.sz.getD x.toNat []).getD y 0 ≤ 64
  qe : ∀ y, y < n → z.toNat < (q.sz.getD y []).length ∧ 0 ≤ (q.sz.getD y []).getD z.toNat 0 ∧ (q.sz.getD y []).getD z.toNat 0 ≤ 64
def tcells (xss : List (List Int)) : List Value := xss.flatMap ints
structure TrAt (b : Nat) (H : GHeap) (g : Nat) (xss : List (List Int)) : Prop where
  lo : b ≤ g
  three : ∀ x ∈ xss, x.length = 3
  at' : ∃ e, H.get g = some (.row (tcells xss) e true)
end Go.GL
namespace Go.GL
abbrev rep (xs : List Int) (k : Nat) : Nat := least (kerB xs) k
abbrev Cat.tn (c : Cat) (a b : Nat) : Nat := ((c.comp.getD a []).getD b 0).toNat
def Cat.ParOk (c : Cat) (xs : List Int) : Prop := ∀ k, k < c.src.length → c.src.getD (rep xs k) 0 = c.src.getD k 0 ∧ c.tgt.getD (rep xs k) 0 = c.tgt.getD k 0
def Cat.CmpOk (c : Cat) (xs : List Int) : Prop := ∀ i, i < c.src.length → ∀ j, j < c.src.length → c.tgt.getD i 0 = c.src.getD j 0 → xs.getD (c.tn i j) 0 = xs.getD (c.tn (rep xs i) (rep xs j)) 0
structure Cat.Cong (c : Cat) (xs : List Int) : Prop where
  len : xs.length = c.src.length
  nor : clsL (kerB xs) xs.length = xs
  par : c.ParOk xs
  cmp : c.CmpOk xs

theorem OwnL.low {b b' : Nat} {H : GHeap} {e : TypeId} {r : Nat → Option Addr} {xss : List (List Int)} (h : OwnL b H e r xss) (hb : b' ≤ b) : OwnL b' H e r xss := ⟨fun i hi => by
  obtain ⟨g, h1, h2, h3⟩ := h.row i hi
  exact ⟨g, h1, by omega, h3⟩, h.inj⟩
end Go.GL
namespace Go.GL
end Go.GL
namespace Go.GL
end Go.GL
namespace Go.GL
def tabB (n : Nat) (p : Nat → Bool) : List Bool := (List.range n).map p
def slsN (r : Nat → Nat) (L : Nat → Nat) (k : Nat) : List Value := (List.range k).map fun i => .slice (some ⟨r i, 0, none⟩) (L i) (L i)
structure OwnB (b : Nat) (H : GHeap) (e : TypeId) (r : Nat → Nat) (L : Nat → Nat) (M : Nat → Nat → Bool) (k : Nat) : Prop where
  row : ∀ i, i < k → b ≤ r i ∧ H.get (r i) = some (.row (bools (tabB (L i) (M i))) e true)
  inj : ∀ i j, i < k → j < k → r i = r j → i = j
structure BMat (b : Nat) (H : GHeap) (g : Nat) (e1 e2 : TypeId) (r : Nat → Nat) (L : Nat → Nat) (M : Nat → Nat → Bool) (n : Nat) : Prop where
  hd : H.get g = some (.row (slsN r L n) e1 true)
  gb : b ≤ g
  own : OwnB b H e2 r L M n
end Go.GL
namespace Go.GL
def Cat.among (c : Cat) (os : List Int) : List Int := filtN c.src.length fun f => os.contains (c.src.getD f 0) && os.contains (c.tgt.getD f 0)
structure Cat.Closed (c : Cat) (xs : List Int) : Prop where
  filt : ∃ P, xs = filtN c.src.length P
  id : ∀ f ∈ xs, c.idn.getD (c.src.getD f.toNat 0).toNat 0 ∈ xs ∧ c.idn.getD (c.tgt.getD f.toNat 0).toNat 0 ∈ xs
  th : ∀ f ∈ xs, ∀ g ∈ xs, 0 ≤ c.th f g → c.th f g ∈ xs
end Go.GL
namespace Go.GL
theorem OwnL.neNO {b g k : Nat} {H : GHeap} {e e' : TypeId} {cs : List Value} {r : Nat → Option Addr} {xss : List (List Int)} (h : OwnL b H e r xss) (hg : NO H g cs e' k) (hk : k = xss.length) (hne : (e != e') = true) : ∀ i, i < xss.length → r i ≠ some ⟨g, 0, none⟩ := fun i hi => h.neT (hg.get (by omega)) hne i hi
theorem OwnL.doneNO {b g k : Nat} {H : GHeap} {e e' : TypeId} {r : Nat → Option Addr} {xss : List (List Int)} (h : OwnL b H e r xss) (hg : NO H g (slsL r xss) e' k) (hk : k = xss.length) (hb : b ≤ g) : IntssR b H (nz k g) xss r := by
  subst hk
  by_cases h0 : xss.length = 0
  · obtain rfl := List.eq_nil_of_length_eq_zero h0
    exact .nil _ _ _
  · rw [nz_pos (by omega)]
    exact h.done (hg.get (by omega)) hb
end Go.GL
namespace Go.GL
structure LcOk (k : Fun) (f : SFun) : Prop where
  hk : k.Is
  hf : f.Is
  he : f.sh = k.s
structure LcA (k : Fun) (f : SFun) (y : Int) (a : Nat) : Prop where
  s0 : 0 ≤ k.s.src.getD a 0
  s1 : k.s.src.getD a 0 < k.ob.length
  t0 : 0 ≤ k.s.tgt.getD a 0
  t1 : k.s.tgt.getD a 0 < k.ob.length
  al : ((f.ac.getD a []).length : Int) = f.sz.getD (k.s.src.getD a 0).toNat 0
  zs : f.sz.getD (k.s.src.getD a 0).toNat 0 ≤ 16
  ac : ∀ e, e < (f.ac.getD a []).length → 0 ≤ (f.ac.getD a []).getD e 0 ∧ (f.ac.getD a []).getD e 0 < f.sz.getD (k.s.tgt.getD a 0).toNat 0
  r0 : 0 ≤ k.ar.getD a 0
  r1 : k.ar.getD a 0 < k.t.src.length
  th : ∀ h, h ∈ k.t.hom (k.ob.getD (k.s.tgt.getD a 0).toNat 0) y → (0 ≤ h ∧ h < k.t.src.length) ∧ k.t.th (k.ar.getD a 0) h ∈ k.t.hom (k.ob.getD (k.s.src.getD a 0).toNat 0) y
end Go.GL
namespace Go.GL
def ccF (m k : Prof) (x z : Int) (y : Nat) : Int := (m.sz.getD x.toNat []).getD y 0 * (k.sz.getD y []).getD z.toNat 0
def ccSt (m k : Prof) (x z : Int) (n : Nat) : List Int := (List.range n).map (sumN (ccF m k x z))
def ccL (m k : Prof) (x z : Int) : List (List Int) := ctL m k x z m.t.obj.toNat 0 0
def ccT (m : Prof) (x : Int) (b e d : Nat) : List Int := [m.t.tgt.getD b 0, ((m.bh.getD b []).getD x.toNat []).getD e 0, (d : Int)]
def ccU (m k : Prof) (z : Int) (b e d : Nat) : List Int := [m.t.src.getD b 0, (e : Int), ((k.be.getD b []).getD z.toNat []).getD d 0]
def ccRow (m k : Prof) (x z : Int) (b e d : Nat) : List Int := [idxLL (ccL m k x z) (ccT m x b e d), idxLL (ccL m k x z) (ccU m k z b e d)]
structure CcOk (m k : Prof) (x z : Int) : Prop where
  hm : m.Is
  hk : k.Is
  x0 : 0 ≤ x
  x1 : x < m.s.obj
  z0 : 0 ≤ z
  z1 : z < k.t.obj
  he : m.t = k.s
structure CcA (m k : Prof) (x z : Int) (b : Nat) : Prop where
  s0 : 0 ≤ m.t.src.getD b 0
  s1 : m.t.src.getD b 0 < m.t.obj
  t0 : 0 ≤ m.t.tgt.getD b 0
  t1 : m.t.tgt.getD b 0 < m.t.obj
  b1 : x.toNat < (m.bh.getD b []).length
  b2 : (((m.bh.getD b []).getD x.toNat []).length : Int) = (m.sz.getD x.toNat []).getD (m.t.src.getD b 0).toNat 0
  b3 : ∀ e, e < ((m.bh.getD b []).getD x.toNat []).length → 0 ≤ ((m.bh.getD b []).getD x.toNat []).getD e 0 ∧ ((m.bh.getD b []).getD x.toNat []).getD e 0 < (m.sz.getD x.toNat []).getD (m.t.tgt.getD b 0).toNat 0
  k1 : z.toNat < (k.be.getD b []).length
  k2 : (((k.be.getD b []).getD z.toNat []).length : Int) = (k.sz.getD (m.t.tgt.getD b 0).toNat []).getD z.toNat 0
  k3 : ∀ d, d < ((k.be.getD b []).getD z.toNat []).length → 0 ≤ ((k.be.getD b []).getD z.toNat []).getD d 0 ∧ ((k.be.getD b []).getD z.toNat []).getD d 0 < (k.sz.getD (m.t.src.getD b 0).toNat []).getD z.toNat 0
  z1 : 0 ≤ (m.sz.getD x.toNat []).getD (m.t.src.getD b 0).toNat 0 ∧ (m.sz.getD x.toNat []).getD (m.t.src.getD b 0).toNat 0 ≤ 64
  z2 : 0 ≤ (k.sz.getD (m.t.tgt.getD b 0).toNat []).getD z.toNat 0 ∧ (k.sz.getD (m.t.tgt.getD b 0).toNat []).getD z.toNat 0 ≤ 64
structure CcP (m k : Prof) (x z : Int) (b e d : Nat) : Prop where
  mT : ccT m x b e d ∈ ccL m k x z
  mU : ccU m k z b e d ∈ ccL m k x z
  iT : idxLL (ccL m k x z) (ccT m x b e d) = (ccSt m k x z m.t.obj.toNat).getD (m.t.tgt.getD b 0).toNat 0 + ((m.bh.getD b []).getD x.toNat []).getD e 0 * (k.sz.getD (m.t.tgt.getD b 0).toNat []).getD z.toNat 0 + (d : Int)
  iU : idxLL (ccL m k x z) (ccU m k z b e d) = (ccSt m k x z m.t.obj.toNat).getD (m.t.src.getD b 0).toNat 0 + (e : Int) * (k.sz.getD (m.t.src.getD b 0).toNat []).getD z.toNat 0 + ((k.be.getD b []).getD z.toNat []).getD d 0
  lT : idxLL (ccL m k x z) (ccT m x b e d) < (ccL m k x z).length
  lU : idxLL (ccL m k x z) (ccU m k z b e d) < (ccL m k x z).length
  t0 : 0 ≤ (ccSt m k x z m.t.obj.toNat).getD (m.t.tgt.getD b 0).toNat 0
  t1 : 0 ≤ ((m.bh.getD b []).getD x.toNat []).getD e 0 * (k.sz.getD (m.t.tgt.getD b 0).toNat []).getD z.toNat 0
  u0 : 0 ≤ (ccSt m k x z m.t.obj.toNat).getD (m.t.src.getD b 0).toNat 0
  u1 : 0 ≤ (e : Int) * (k.sz.getD (m.t.src.getD b 0).toNat []).getD z.toNat 0
structure CcV (m k : Prof) (x z : Int) (b e d : Nat) : Prop where
  row : ccRow m k x z b e d = [(ccSt m k x z m.t.obj.toNat).getD (m.t.tgt.getD b 0).toNat 0 + ((m.bh.getD b []).getD x.toNat []).getD e 0 * (k.sz.getD (m.t.tgt.getD b 0).toNat []).getD z.toNat 0 + (d : Int), (ccSt m k x z m.t.obj.toNat).getD (m.t.src.getD b 0).toNat 0 + (e : Int) * (k.sz.getD (m.t.src.getD b 0).toNat []).getD z.toNat 0 + ((k.be.getD b []).getD z.toNat []).getD d 0]
  lT : (ccSt m k x z m.t.obj.toNat).getD (m.t.tgt.getD b 0).toNat 0 + ((m.bh.getD b []).getD x.toNat []).getD e 0 * (k.sz.getD (m.t.tgt.getD b 0).toNat []).getD z.toNat 0 + (d : Int) < (ccL m k x z).length
  lU : (ccSt m k x z m.t.obj.toNat).getD (m.t.src.getD b 0).toNat 0 + (e : Int) * (k.sz.getD (m.t.src.getD b 0).toNat []).getD z.toNat 0 + ((k.be.getD b []).getD z.toNat []).getD d 0 < (ccL m k x z).length
end Go.GL
namespace Go.GL
theorem nest3_pre3 {α : Type} {pr : Nat → Nat → Nat → α} {s1 : Nat → Nat} {s2 : Nat → Nat → Nat} {k t u : Nat} : ∀ j, nest3 pr s1 s2 k t u <+: nest3 pr s1 s2 k t (u + j)
  | 0 => List.prefix_refl _
  | j + 1 => by rw [← Nat.add_assoc, nest3_snoc]; exact (nest3_pre3 j).trans (List.prefix_append _ _)
theorem nest3_pre2 {α : Type} {pr : Nat → Nat → Nat → α} {s1 : Nat → Nat} {s2 : Nat → Nat → Nat} {k t : Nat} : ∀ j, nest3 pr s1 s2 k t 0 <+: nest3 pr s1 s2 k (t + j) 0
  | 0 => List.prefix_refl _
  | j + 1 => by
    rw [← Nat.add_assoc, nest3_next2]
    have := nest3_pre3 (pr := pr) (s1 := s1) (s2 := s2) (k := k) (t := t + j) (u := 0) (s2 k (t + j))
    rw [Nat.zero_add] at this
    exact (nest3_pre2 j).trans this
theorem nest3_pre1 {α : Type} {pr : Nat → Nat → Nat → α} {s1 : Nat → Nat} {s2 : Nat → Nat → Nat} {k : Nat} : ∀ j, nest3 pr s1 s2 k 0 0 <+: nest3 pr s1 s2 (k + j) 0 0
  | 0 => List.prefix_refl _
  | j + 1 => by
    rw [← Nat.add_assoc, nest3_next1]
    have := nest3_pre2 (pr := pr) (s1 := s1) (s2 := s2) (k := k + j) (t := 0) (s1 (k + j))
    rw [Nat.zero_add] at this
    exact (nest3_pre1 j).trans this
theorem nest3_preR {α : Type} {pr : Nat → Nat → Nat → α} {s1 : Nat → Nat} {s2 : Nat → Nat → Nat} {n k t : Nat} (hk : k < n) (ht : t ≤ s1 k) : nest3 pr s1 s2 k t 0 <+: nest3 pr s1 s2 n 0 0 := by
  have h2 := nest3_pre2 (pr := pr) (s1 := s1) (s2 := s2) (k := k) (t := t) (s1 k - t)
  rw [show t + (s1 k - t) = s1 k by omega, ← nest3_next1] at h2
  have h3 := nest3_pre1 (pr := pr) (s1 := s1) (s2 := s2) (k := k + 1) (n - (k + 1))
  rw [show k + 1 + (n - (k + 1)) = n by omega] at h3
  exact h2.trans h3
theorem getD_map {α β : Type} {f : α → β} {xs : List α} {i : Nat} {d : α} {e : β} (h : i < xs.length) : (xs.map f).getD i e = f (xs.getD i d) := by
  rw [List.getD_eq_getElem?_getD, List.getElem?_map, List.getElem?_eq_getElem h, List.getD_eq_getElem?_getD, List.getElem?_eq_getElem h]; rfl
structure OwnCat (eI eS : TypeId) (b : Nat) (H : GHeap) (c : Cat) (g1 g2 g3 g4 : Nat) (rr : Nat → Option Addr) : Prop where
  a1 : H.get g1 = some (.row (ints c.src) eI true)
  a2 : H.get g2 = some (.row (ints c.tgt) eI true)
  a3 : H.get g3 = some (.row (ints c.idn) eI true)
  a4 : H.get g4 = some (.row (slsL rr c.comp) eS true)
  b1 : b ≤ g1
  b2 : b ≤ g2
  b3 : b ≤ g3
  b4 : b ≤ g4
  n12 : g1 ≠ g2
  n13 : g1 ≠ g3
  n23 : g2 ≠ g3
  rows : OwnL b H eI rr c.comp
  r1 : ∀ i, i < c.comp.length → rr i ≠ some ⟨g1, 0, none⟩
  r2 : ∀ i, i < c.comp.length → rr i ≠ some ⟨g2, 0, none⟩
  r3 : ∀ i, i < c.comp.length → rr i ≠ some ⟨g3, 0, none⟩
structure Cat.Rect (c : Cat) (N : Nat) : Prop where
  obj : 0 ≤ c.obj ∧ c.obj ≤ N
  n : c.src.length ≤ N
  tl : c.tgt.length = c.src.length
  src : ∀ i, i < c.src.length → 0 ≤ c.src.getD i 0 ∧ c.src.getD i 0 ≤ N
  tgt : ∀ i, i < c.tgt.length → 0 ≤ c.tgt.getD i 0 ∧ c.tgt.getD i 0 ≤ N
  il : (c.idn.length : Int) = c.obj
  idn : ∀ i, i < c.idn.length → 0 ≤ c.idn.getD i 0 ∧ c.idn.getD i 0 ≤ N
  cl : c.comp.length = c.src.length
  row : ∀ f, f < c.comp.length → (c.comp.getD f []).length = c.src.length
  cell : ∀ f, f < c.comp.length → ∀ g, g < c.src.length → -(N : Int) - 1 ≤ (c.comp.getD f []).getD g 0 ∧ (c.comp.getD f []).getD g 0 ≤ N
def sumRow (n : Nat) (row : List Int) : List Int := List.replicate n (-1) ++ row.map fun h => if 0 ≤ h then h + (n : Int) else h
def Cat.sumL (c d : Cat) : List (List Int) := c.comp.map (· ++ List.replicate d.src.length (-1))
def Cat.sum (c d : Cat) : Cat where
  obj := c.obj + d.obj
  src := c.src ++ d.src.map (· + c.obj)
  tgt := c.tgt ++ d.tgt.map (· + c.obj)
  idn := c.idn ++ d.idn.map (· + (c.src.length : Int))
  comp := c.sumL d ++ d.comp.map (sumRow c.src.length)
def extL (xss : List (List Int)) (k f j : Nat) : List (List Int) := (List.range xss.length).map fun i => xss.getD i [] ++ List.replicate (if i < f then k else if i = f then j else 0) (-1)
structure SumSt (eI eS eT : TypeId) (H0 H : GHeap) (c d : Cat) (q : CatP) (gd gR gS gF gT gI gC : Nat) (zs : List Value) (rr : Nat → Option Addr) (f j : Nat) : Prop where
  hle : H0.Le H
  gc : H0.next ≤ gC
  ad : H.get gd = some (.row (d.cells q) eT true)
  aR : H.get gR = some (.row zs eT true)
  aS : H.get gS = some (.row [.int .i64 (c.obj + d.obj), .slice (some ⟨gF, 0, none⟩) c.src.length c.src.length, .slice (some ⟨gT, 0, none⟩) c.tgt.length c.tgt.length, .slice (some ⟨gI, 0, none⟩) (c.idn.length + d.obj.toNat) (c.idn.length + d.obj.toNat), .slice (some ⟨gC, 0, none⟩) c.comp.length c.comp.length] eT true)
  aF : H.get gF = some (.row (ints c.src) eI true)
  aT : H.get gT = some (.row (ints c.tgt) eI true)
  aI : H.get gI = some (.row (ints (c.sum d).idn) eI true)
  aC : H.get gC = some (.row (slsL rr (extL c.comp d.src.length f j)) eS true)
  rows : OwnL H0.next H eI rr (extL c.comp d.src.length f j)
  r1 : ∀ i, i < c.comp.length → rr i ≠ some ⟨gF, 0, none⟩
  r2 : ∀ i, i < c.comp.length → rr i ≠ some ⟨gT, 0, none⟩
  r3 : ∀ i, i < c.comp.length → rr i ≠ some ⟨gI, 0, none⟩
def colPr (x y e : Nat) : List Int := [(x : Int), (y : Int), (e : Int)]
def Prof.colS2 (m : Prof) (x y : Nat) : Nat := ((m.sz.getD x []).getD y 0).toNat
def Prof.colP (m : Prof) (x y e : Nat) : List (List Int) := nest3 colPr (fun _ => m.t.obj.toNat) m.colS2 x y e
def Prof.colL (m : Prof) : List (List Int) := m.colP m.s.obj.toNat 0 0
def Prof.colA (m : Prof) (x y : Nat) : Int := (m.colP x y 0).length
theorem Prof.Sized.at {m : Prof} (z : m.Sized) {x y : Nat} (hx : (x : Int) < m.s.obj) (hy : (y : Int) < m.t.obj) : x < m.sz.length ∧ y < (m.sz.getD x []).length ∧ 0 ≤ (m.sz.getD x []).getD y 0 ∧ (m.sz.getD x []).getD y 0 ≤ 64 := by
  have h1 := z.sl
  have h2 := z.row x (by omega)
  exact ⟨by omega, by omega, z.rng x (by omega) y (by omega)⟩
structure Prof.Cok (m : Prof) : Prop where
  z : m.Sized
  s0 : 0 ≤ m.s.obj
  s8 : m.s.obj ≤ 8
  t0 : 0 ≤ m.t.obj
  t8 : m.t.obj ≤ 8
theorem Prof.Cok.s2 {m : Prof} (h : m.Cok) {x y : Nat} (hx : (x : Int) < m.s.obj) (hy : (y : Int) < m.t.obj) : (m.colS2 x y : Int) = (m.sz.getD x []).getD y 0 ∧ m.colS2 x y ≤ 64 := by
  have := h.z.at hx hy
  unfold Prof.colS2
  omega
theorem Prof.Cok.all {m : Prof} (h : m.Cok) : m.colL.length ≤ 4096 := by
  have h1 := h.s8
  have h2 := h.t8
  have := nest3_all (pr := colPr) (s1 := fun _ => m.t.obj.toNat) (s2 := m.colS2) (c := 64) (d := 8) (n := m.s.obj.toNat) (fun a _ => by show m.t.obj.toNat ≤ 8; omega) (fun a ha b hb => (h.s2 (by omega) (by omega)).2)
  unfold Prof.colL Prof.colP
  omega
theorem Prof.Cok.leY {m : Prof} (h : m.Cok) {x y : Nat} (hx : (x : Int) < m.s.obj) (hy : (y : Int) ≤ m.t.obj) : (m.colP x y 0).length ≤ m.colL.length := by
  obtain ⟨r, hr⟩ := nest3_preR (pr := colPr) (s1 := fun _ => m.t.obj.toNat) (s2 := m.colS2) (n := m.s.obj.toNat) (k := x) (t := y) (by omega) (by omega)
  unfold Prof.colL Prof.colP
  rw [← hr, List.length_append]
  omega
def Prof.colQx (m : Prof) (x y : Nat) : List Int := (List.range y).map (m.colA x)
def Prof.colQ (m : Prof) (k : Nat) : List (List Int) := (List.range k).map fun x => m.colQx x (m.sz.getD x []).length
@[simp] theorem Prof.length_colQx (m : Prof) (x y : Nat) : (m.colQx x y).length = y := by simp [Prof.colQx]
@[simp] theorem Prof.length_colQ (m : Prof) (k : Nat) : (m.colQ k).length = k := by simp [Prof.colQ]
theorem Prof.colQx_get {m : Prof} {x y i : Nat} (h : i < y) : (m.colQx x y).getD i 0 = m.colA x i := by simp [Prof.colQx, List.getD_eq_getElem?_getD, h]
theorem Prof.colQ_get {m : Prof} {k x : Nat} (h : x < k) : (m.colQ k).getD x [] = m.colQx x (m.sz.getD x []).length := by simp [Prof.colQ, List.getD_eq_getElem?_getD, h]
theorem Prof.Cok.colA_bd {m : Prof} (h : m.Cok) {x y : Nat} (hx : (x : Int) < m.s.obj) (hy : (y : Int) ≤ m.t.obj) : 0 ≤ m.colA x y ∧ m.colA x y ≤ 4096 := by
  have h1 := h.leY hx hy
  have h2 := h.all
  unfold Prof.colA
  omega
theorem Prof.Cok.q {m : Prof} (h : m.Cok) {x y : Int} (x0 : 0 ≤ x) (x1 : x < m.s.obj) (y0 : 0 ≤ y) (y1 : y < m.t.obj) : x < (m.colQ m.sz.length).length ∧ (((m.colQ m.sz.length).getD x.toNat []).length : Int) = m.t.obj ∧ ((m.colQ m.sz.length).getD x.toNat []).getD y.toNat 0 = m.colA x.toNat y.toNat ∧ 0 ≤ m.colA x.toNat y.toNat ∧ m.colA x.toNat y.toNat ≤ 4096 := by
  have h1 := h.z.sl
  have h2 := h.z.row x.toNat (by omega)
  have h3 := h.colA_bd (x := x.toNat) (y := y.toNat) (by omega) (by omega)
  rw [Prof.length_colQ, Prof.colQ_get (by omega), Prof.length_colQx, Prof.colQx_get (by omega)]
  exact ⟨by omega, h2, rfl, h3⟩
def Prof.colN (m : Prof) : Nat := m.s.src.length + m.t.src.length
def Prof.colS (m : Prof) : List Int := (m.s.sum m.t).src ++ m.colL.map fun t => t.getD 0 0
def Prof.colT (m : Prof) : List Int := (m.s.sum m.t).tgt ++ m.colL.map fun t => m.s.obj + t.getD 1 0
def Prof.colR (m : Prof) (i : Nat) : List Int := m.colL.getD (i - m.colN) []
def Prof.colB (m : Prof) (f g : Nat) : Int := ((m.be.getD f []).getD ((m.colR g).getD 1 0).toNat []).getD ((m.colR g).getD 2 0).toNat 0
def Prof.colH (m : Prof) (f g : Nat) : Int := ((m.bh.getD (g - m.s.src.length) []).getD ((m.colR f).getD 0 0).toNat []).getD ((m.colR f).getD 2 0).toNat 0
def Prof.colK1 (m : Prof) (f g : Nat) : List Int := [m.colS.getD f 0, (m.colR g).getD 1 0, m.colB f g]
def Prof.colK2 (m : Prof) (f g : Nat) : List Int := [(m.colR f).getD 0 0, m.colT.getD g 0 - m.s.obj, m.colH f g]
structure Prof.ColB (m : Prof) (f g : Nat) : Prop where
  fM : f < m.s.src.length
  sf : m.colS.getD f 0 = m.s.src.getD f 0
  tg : m.colT.getD g 0 = m.s.obj + (m.colR g).getD 1 0
  r3 : (m.colR g).length = 3
  y0 : 0 ≤ (m.colR g).getD 1 0
  y1 : (m.colR g).getD 1 0 < m.t.obj
  e0 : 0 ≤ (m.colR g).getD 2 0
  b0 : f < m.be.length
  b1 : ((m.colR g).getD 1 0).toNat < (m.be.getD f []).length
  b2 : ((m.colR g).getD 2 0).toNat < ((m.be.getD f []).getD ((m.colR g).getD 1 0).toNat []).length
  s0 : 0 ≤ m.s.src.getD f 0
  s1 : m.s.src.getD f 0 < m.s.obj
  t0 : 0 ≤ m.s.tgt.getD f 0
  t1 : m.s.tgt.getD f 0 < m.s.obj
  ae : (g : Int) - m.colN - m.colA (m.s.tgt.getD f 0).toNat ((m.colR g).getD 1 0).toNat = (m.colR g).getD 2 0
  ix : idxLL m.colL (m.colK1 f g) = m.colA (m.s.src.getD f 0).toNat ((m.colR g).getD 1 0).toNat + m.colB f g
  lt : idxLL m.colL (m.colK1 f g) < m.colL.length
  ca : 0 ≤ m.colA (m.s.src.getD f 0).toNat ((m.colR g).getD 1 0).toNat
  bb : 0 ≤ m.colB f g
structure Prof.ColH (m : Prof) (f g : Nat) : Prop where
  gM : m.s.src.length ≤ g
  gN : g < m.colN
  sf : m.colS.getD f 0 = (m.colR f).getD 0 0
  tg : m.colT.getD g 0 - m.s.obj = m.t.tgt.getD (g - m.s.src.length) 0
  r3 : (m.colR f).length = 3
  x0 : 0 ≤ (m.colR f).getD 0 0
  x1 : (m.colR f).getD 0 0 < m.s.obj
  e0 : 0 ≤ (m.colR f).getD 2 0
  b0 : g - m.s.src.length < m.bh.length
  b1 : ((m.colR f).getD 0 0).toNat < (m.bh.getD (g - m.s.src.length) []).length
  b2 : ((m.colR f).getD 2 0).toNat < ((m.bh.getD (g - m.s.src.length) []).getD ((m.colR f).getD 0 0).toNat []).length
  s0 : 0 ≤ m.t.src.getD (g - m.s.src.length) 0
  s1 : m.t.src.getD (g - m.s.src.length) 0 < m.t.obj
  t0 : 0 ≤ m.t.tgt.getD (g - m.s.src.length) 0
  t1 : m.t.tgt.getD (g - m.s.src.length) 0 < m.t.obj
  ae : (f : Int) - m.colN - m.colA ((m.colR f).getD 0 0).toNat (m.t.src.getD (g - m.s.src.length) 0).toNat = (m.colR f).getD 2 0
  ix : idxLL m.colL (m.colK2 f g) = m.colA ((m.colR f).getD 0 0).toNat (m.t.tgt.getD (g - m.s.src.length) 0).toNat + m.colH f g
  lt : idxLL m.colL (m.colK2 f g) < m.colL.length
  ca : 0 ≤ m.colA ((m.colR f).getD 0 0).toNat (m.t.tgt.getD (g - m.s.src.length) 0).toNat
  bb : 0 ≤ m.colH f g
def Prof.colSp (m : Prof) (x y e : Nat) : List Int := (m.s.sum m.t).src ++ (m.colP x y e).map fun t => t.getD 0 0
def Prof.colTp (m : Prof) (x y e : Nat) : List Int := (m.s.sum m.t).tgt ++ (m.colP x y e).map fun t => m.s.obj + t.getD 1 0
structure ColSt (eI eS eT eP : TypeId) (H0 H : GHeap) (m : Prof) (p : ProfP) (g1 g2 g3 g4 g5 gI gC : Nat) (r0 : Nat → Option Addr) (zs : List Value) (x y e : Nat) (r1 : Nat → Option Addr) (gV gF gT : Nat) : Prop where
  hle : H0.Le H
  a1 : H.get g1 = some (.row (m.cells p) eP true)
  a2 : H.get g2 = some (.row zs eT true)
  a3 : H.get g3 = some (.row (m.s.cells p.s) eT true)
  a4 : H.get g4 = some (.row (m.t.cells p.t) eT true)
  a5 : H.get g5 = some (.row [.int .i64 (m.s.obj + m.t.obj), .slice (some ⟨gF, 0, none⟩) (m.colSp x y e).length (m.colSp x y e).length, .slice (some ⟨gT, 0, none⟩) (m.colTp x y e).length (m.colTp x y e).length, .slice (some ⟨gI, 0, none⟩) (m.s.sum m.t).idn.length (m.s.sum m.t).idn.length, .slice (some ⟨gC, 0, none⟩) (m.s.sum m.t).comp.length (m.s.sum m.t).comp.length] eT true)
  aF : H.get gF = some (.row (ints (m.colSp x y e)) eI true)
  aT : H.get gT = some (.row (ints (m.colTp x y e)) eI true)
  aI : H.get gI = some (.row (ints (m.s.sum m.t).idn) eI true)
  aC : H.get gC = some (.row (slsL r0 (m.s.sum m.t).comp) eS true)
  aV : H.get gV = some (.row (slsL r1 (m.colP x y e)) eS true)
  rows0 : OwnL H0.next H eI r0 (m.s.sum m.t).comp
  rows1 : OwnL H0.next H eI r1 (m.colP x y e)
  z1 : ∀ i, i < (m.s.sum m.t).comp.length → r0 i ≠ some ⟨gF, 0, none⟩
  z2 : ∀ i, i < (m.s.sum m.t).comp.length → r0 i ≠ some ⟨gT, 0, none⟩
  z3 : ∀ i, i < (m.s.sum m.t).comp.length → r0 i ≠ some ⟨gI, 0, none⟩
  w1 : ∀ i, i < (m.colP x y e).length → r1 i ≠ some ⟨gF, 0, none⟩
  w2 : ∀ i, i < (m.colP x y e).length → r1 i ≠ some ⟨gT, 0, none⟩
  bF : H0.next ≤ gF
  bT : H0.next ≤ gT
  bI : H0.next ≤ gI
  bC : H0.next ≤ gC
  bV : H0.next ≤ gV
  b5 : H0.next ≤ g5
  n12 : gF ≠ gT
  n13 : gF ≠ gI
  n23 : gT ≠ gI
  nV : gV ≠ gC
  n15 : g1 ≠ g5
  n25 : g2 ≠ g5
  n35 : g3 ≠ g5
  n45 : g4 ≠ g5
end Go.GL
namespace Go.Proofs.Ytiooclghkafokaa
open Go Go.GL Go.RowKit Go.Proofs
theorem l02Fits_c {c : Cat} {p : CatP} {H : GHeap} (hin : c.In H p := by assumption) :
    GCalls Try.prog 137 [.agg (c.cells p).toArray] H (Ret (.bool (B (c.obj ≤ 8 ∧ c.src.length ≤ 40))) H) := by
  refine GCalls.ret rfl ?_
  refine GCalls.body (N := 12) (rs := [.tmp 2]) Try.func137 rfl rfl rfl rfl (fun Qx b hend => ?_)
  refine .fg [0] rfl ?_
  have d := GHeap.Le.refl H
  have a := hin
  refine .seq (fun K1 i => .region ?_)
  refine .R rfl (.boxR rfl sz_27_D rfl) ?_
  rintro _ H1 ⟨g1, rfl, g, ge1, e⟩
  replace d := d.trans g
  replace hin := a.mono d
  have h : Cat.At _ g1 0 c p := ⟨Mem.of_get e, hin⟩
  obtain ⟨c01, c11, -, -, -, -, -, -, -⟩ := h.get
  refine .mv rfl (.nil (i _ _ (.seq (fun K2 f => .region (.q rfl (.fieldAddr fo_27_0_B rfl) ?_)))))
  refine .q rfl (.load on_2_A rfl (by first | assumption | exact Mem.of_get e 0 _ rfl)) ?_
  refine .q rfl (.cmp rfl rfl rfl) (.mv rfl ?_)
  refine .split (fun h6 => ?_) (fun h6 => ?_)
  ·
   try simp only [sps] at h6
   refine .qg rfl (.fieldAddr fo_27_1_B rfl) ?_
   refine .qg rfl (.load on_24_B rfl (by first | assumption | exact Mem.of_get e 1 _ rfl)) ?_
   refine .qg rfl (.len sl_24_A rfl) (.qg rfl (.cmp rfl rfl rfl) (.q rfl (.pickT rfl rfl) (.mv rfl (.nil (f _ _ ?_)))))
   refine .ret ?_
   refine b _ _ ?_
   refine ⟨_, rfl, ?_⟩
   exact ⟨congrArg _ (by unfold B; first | (rw [decide_eq_decide]; omega) | (rw [decide_eq_false_iff_not]; omega)), d⟩
  try simp only [sps] at h6
  refine .z rfl (.z rfl (.z rfl (.z rfl (.q rfl (.pickF rfl rfl) (.mv rfl (.nil (f _ _ ?_)))))))
  refine .ret ?_
  refine b _ _ ?_
  refine ⟨_, rfl, ?_⟩
  exact ⟨congrArg _ (by unfold B; first | (rw [decide_eq_decide]; omega) | (rw [decide_eq_false_iff_not]; omega)), d⟩
end Go.Proofs.Ytiooclghkafokaa
namespace Go.GL
structure GlA (f : SFun) (y : Int) (a : Nat) : Prop where
  s0 : 0 ≤ f.sh.src.getD a 0
  s1 : f.sh.src.getD a 0 < f.sz.length
  t0 : 0 ≤ f.sh.tgt.getD a 0
  t1 : f.sh.tgt.getD a 0 < f.sz.length
  al : ((f.ac.getD a []).length : Int) = f.sz.getD (f.sh.src.getD a 0).toNat 0
  zs : f.sz.getD (f.sh.src.getD a 0).toNat 0 ≤ 16
  ac : ∀ e, e < (f.ac.getD a []).length → 0 ≤ (f.ac.getD a []).getD e 0 ∧ (f.ac.getD a []).getD e 0 < f.sz.getD (f.sh.tgt.getD a 0).toNat 0
  th : ∀ h, h ∈ f.sh.hom (f.sh.tgt.getD a 0) y → (0 ≤ h ∧ h < f.sh.src.length) ∧ f.sh.th (a : Int) h ∈ f.sh.hom (f.sh.src.getD a 0) y
def elP (f : SFun) (x e : Nat) : List (List Int) := nestL (fun x e => [(x : Int), (e : Int)]) (fun x => (f.sz.getD x 0).toNat) x e
def elE (f : SFun) : List (List Int) := elP f f.sz.length 0
structure Two (b : Nat) (H : GHeap) (a : Option Addr) (r : Nat → Option Addr) (xss : List (List Int)) (a2 : Option Addr) (xs : List Int) : Prop where
  v : IntssR b H a xss r
  w : IntsR b H a2 xs
  nd : (lvBlks (rowsL r xss xss.length ++ [(a2, xs.length)])).Nodup
end Go.GL
namespace Go.GL
def Prof.coSz (m : Prof) (a : Nat) : Nat := ((m.sz.getD (m.s.tgt.getD a 0).toNat []).getD (m.s.src.getD a 0).toNat 0).toNat
def Prof.coPr (m : Prof) (a t : Nat) : List Int := [sumN m.diag (m.s.src.getD a 0).toNat + ((m.be.getD a []).getD (m.s.src.getD a 0).toNat []).getD t 0, sumN m.diag (m.s.tgt.getD a 0).toNat + ((m.bh.getD a []).getD (m.s.tgt.getD a 0).toNat []).getD t 0]
def Prof.coP (m : Prof) (k t : Nat) : List (Nat × Nat) := nestL (fun a t => (pA (m.coPr a t), pB (m.coPr a t))) m.coSz k t
def Prof.coend (m : Prof) : List Int := joinL (sumN m.diag m.sz.length).toNat (m.coP m.s.src.length 0)
end Go.GL
namespace Go.GL
end Go.GL
namespace Go.GL
def pick3 {α : Type} (pr : Nat → Nat → Nat → α) (q : Nat → Nat → Nat → Bool) (s1 : Nat → Nat) (s2 : Nat → Nat → Nat) (k t u : Nat) : List α := (nest3 (fun a b c => bif q a b c then [pr a b c] else []) s1 s2 k t u).flatten
section
variable {α : Type} {pr : Nat → Nat → Nat → α} {q : Nat → Nat → Nat → Bool} {s1 : Nat → Nat} {s2 : Nat → Nat → Nat}
end
def colI (A : List (List Int)) (k : Nat) : List Int := A.map fun t => t.getD k 0
@[simp] theorem length_colI (A : List (List Int)) (k : Nat) : (colI A k).length = A.length := by simp [colI]
theorem colI_get {A : List (List Int)} {k i : Nat} (h : i < A.length) : (colI A k).getD i 0 = (A.getD i []).getD k 0 := by unfold colI; rw [getD_map (d := []) h]
theorem colI_take {A : List (List Int)} {k i : Nat} (h : i < A.length) : colI (A.take (i + 1)) k = colI (A.take i) k ++ [(A.getD i []).getD k 0] := take_map_snoc h
abbrev ecO (f : SFun) (i k : Nat) : Int := ((elE f).getD i []).getD k 0
abbrev ecH (f : SFun) (i j : Nat) : List Int := f.sh.hom (ecO f i 0) (ecO f j 0)
def ecP (f : SFun) (i j k : Nat) : List Int := [(i : Int), (j : Int), (ecH f i j).getD k 0]
def ecQ (f : SFun) (i j k : Nat) : Bool := decide ((f.ac.getD ((ecH f i j).getD k 0).toNat []).getD (ecO f i 1).toNat 0 = ecO f j 1)
def ecL (f : SFun) (i j k : Nat) : List (List Int) := pick3 (ecP f) (ecQ f) (fun _ => (elE f).length) (fun i j => (ecH f i j).length) i j k
def ecA (f : SFun) : List (List Int) := ecL f (elE f).length 0 0
structure EcO (f : SFun) (i : Nat) : Prop where
  x0 : 0 ≤ ecO f i 0
  x1 : ecO f i 0 < f.sz.length
  e0 : 0 ≤ ecO f i 1
  e1 : ecO f i 1 < f.sz.getD (ecO f i 0).toNat 0
  i0 : 0 ≤ f.sh.idn.getD (ecO f i 0).toNat 0
  i1 : f.sh.idn.getD (ecO f i 0).toNat 0 < f.sh.src.length
  ix : (ecO f i 0).toNat < f.sh.idn.length
  l2 : ((elE f).getD i []).length = 2
structure EcH (f : SFun) (i j k : Nat) : Prop where
  h0 : 0 ≤ (ecH f i j).getD k 0
  h1 : (ecH f i j).getD k 0 < f.ac.length
  e : (ecO f i 1).toNat < (f.ac.getD ((ecH f i j).getD k 0).toNat []).length
structure EcA (f : SFun) (a : Nat) : Prop where
  s0 : 0 ≤ ((ecA f).getD a []).getD 0 0
  s1 : ((ecA f).getD a []).getD 0 0 < (elE f).length
  t0 : 0 ≤ ((ecA f).getD a []).getD 1 0
  t1 : ((ecA f).getD a []).getD 1 0 < (elE f).length
  h0 : 0 ≤ ((ecA f).getD a []).getD 2 0
  h1 : ((ecA f).getD a []).getD 2 0 < f.sh.src.length
  l3 : ((ecA f).getD a []).length = 3
structure Three (b : Nat) (H : GHeap) (c : Cat) (p : CatP) (a : Option Addr) (r : Nat → Option Addr) (xss : List (List Int)) (a2 : Option Addr) (r2 : Nat → Option Addr) (yss : List (List Int)) : Prop where
  v : CatR b H c p
  w : IntssR b H a xss r
  u : IntssR b H a2 yss r2
  dj12 : ∀ g ∈ lvBlks (c.leaves p), ¬ g ∈ lvBlks (rowsL r xss xss.length)
  dj13 : ∀ g ∈ lvBlks (c.leaves p), ¬ g ∈ lvBlks (rowsL r2 yss yss.length)
  dj23 : ∀ g ∈ lvBlks (rowsL r xss xss.length), ¬ g ∈ lvBlks (rowsL r2 yss yss.length)
section
variable {b b' : Nat} {H H' : GHeap} {c : Cat} {p : CatP} {a a2 : Option Addr} {r r2 : Nat → Option Addr} {xss yss : List (List Int)}
end
end Go.GL
namespace Go.GL
open Go.RowKit Go.WideShapes Go.ChangeShapes Go.Deep

structure Imp1 (P : Program) (t : TypeId) (R : GHeap → Value → Prop) : Prop where
  mono : ∀ {H H' : GHeap} {g : Value}, H.Le H' → R H g → R H' g
  imp : ∀ {T : Type} {enc : TypeId × Value → T} {B : Nat} {w0 : World} {ρ : Place} {H : GHeap} {w : World} {held : Bool} {base fuel : Nat} {v : Value} {x : DataW T × List MemPlace}, Sim P B w0 ρ H w → w.heap.size ≤ B →
    DataW.trod enc P w 0 (fun _ => true) held fuel t v.cells.toList = some x → Value.okWide P w .any base t v → ∃ ρ' H' g, Sim P B w0 ρ' H' w ∧ Ext ρ ρ' ∧ H.Le H' ∧ VRel ρ' g v ∧ R H' g

def structT (P : Program) (t : TypeId) : Bool := match P.underlying t with | some (.struct _) => true | _ => false
theorem imp1_struct {P : Program} {t : TypeId} {α β : Type} {cells : α → β → List Value} {I : GHeap → α → β → Prop} {W : α → Prop} (hm : ∀ {H H' : GHeap} {c : α} {p : β}, I H c p → H.Le H' → I H' c p)
    (hI : Imports P t (fun ρ H cs => ∃ (c : α) (p : β), LRel ρ (cells c p) cs ∧ I H c p ∧ W c)) (hst : structT P t = true) : Imp1 P t (fun H g => ∃ (c : α) (p : β), g = .agg (cells c p).toArray ∧ I H c p ∧ W c) where
  mono h := fun ⟨c, p, h1, h2, h3⟩ => ⟨c, p, h1, hm h2 h, h3⟩
  imp := by
    intro T enc B w0 ρ H w held base fuel v x hs hB h hv
    have hagg : ∃ cs, v = .agg cs := by
      unfold Value.okWide at hv
      unfold structT at hst
      split at hst
      · rename_i fs hu
        rw [hu] at hv
        obtain ⟨cs, h, _⟩ := hv
        exact ⟨cs, h⟩
      · cases hst
    obtain ⟨cs, rfl⟩ := hagg
    obtain ⟨ρ', H', h1, h2, h3, c, p, h4, h5, h6⟩ := hI hs hB h
    exact ⟨ρ', H', _, h1, h2, h3, by have := VRel.agg_of h4; simpa [Value.cells] using this, c, p, rfl, h5, h6⟩
structure ImpAll (P : Program) (ts : List TypeId) (R : GHeap → List Value → Prop) : Prop where
  imp : ∀ {T : Type} {enc : TypeId × Value → T} {B : Nat} {w0 : World} {ρ : Place} {H : GHeap} {w : World} {base : Nat} {vs : List Value} {ds : List (DataW T)} {ps : List MemPlace}, Sim P B w0 ρ H w → w.heap.size ≤ B →
    DataW.TrodAll enc P w 0 (fun _ => true) true ts vs ds ps → (∀ (j : Nat) t v, ts[j]? = some t → vs[j]? = some v → Value.okWide P w .any base t v) → ds.length = ts.length ∧ ∃ ρ' H' gs, Sim P B w0 ρ' H' w ∧ Ext ρ ρ' ∧ H.Le H' ∧ LRel ρ' gs vs ∧ R H' gs
theorem ImpAll.nil {P : Program} : ImpAll P [] (fun _ gs => gs = []) where
  imp := by
    intro T enc B w0 ρ H w base vs ds ps hs hB h hv
    obtain ⟨rfl, rfl, rfl⟩ := trodAll_nil h
    exact ⟨rfl, ρ, H, [], hs, .refl ρ, .refl H, .nil ρ, rfl⟩
theorem ImpAll.cons {P : Program} {t : TypeId} {ts : List TypeId} {R1 : GHeap → Value → Prop} {R : GHeap → List Value → Prop} (h1 : Imp1 P t R1) (h2 : ImpAll P ts R) : ImpAll P (t :: ts) (fun H gs => ∃ g r, gs = g :: r ∧ R1 H g ∧ R H r) where
  imp := by
    intro T enc B w0 ρ H w base vs ds ps hs hB h hv
    obtain ⟨v, vs, d, ds, p, q, rfl, rfl, rfl, ⟨fuel, k1⟩, k2⟩ := trodAll_cons h
    obtain ⟨ρ1, H1, g, s1, e1, l1, v1, r1⟩ := h1.imp hs hB k1 (hv 0 t v rfl rfl)
    obtain ⟨hl, ρ2, H2, gs, s2, e2, l2, v2, r2⟩ := h2.imp s1 hB k2 (fun j t v ht hj => hv (j + 1) t v (by simpa using ht) (by simpa using hj))
    exact ⟨by simp [hl], ρ2, H2, g :: gs, s2, e1.trans e2, l1.trans l2, .cons (v1.mono e2) v2, g, gs, rfl, h1.mono l2 r1, r2⟩

theorem law_calls {P : Program} {f : FuncId} {fn : Func} {ts : List TypeId} {tb : TypeId} {R : GHeap → List Value → Prop} (hI : ImpAll P ts R) (hp : fn.params = ts.toArray)
    (hc : ∀ H gs, R H gs → GCalls P f gs H fun v _ => v = .bool true)
    {T : Type} {enc : TypeId × Value → T} {W : World} {base : Nat} {args : Array Value} {s : ChangeSpec} {apart fresh handsOn again : Bool} {ds gs : List (DataW T)} {before : List MemPlace}
    (hval : ∀ (j : Nat) t v, fn.params[j]? = some t → args[j]? = some v → Value.okWide P W .any base t v)
    (hW : DataW.Whole enc P fn.params.toList s.vars apart W args.toList ds gs before)
    (hl : laidOutB P = true) (hr : readB P fn.params.toList = true) (hv : s.vars = []) (hrt : fn.resultTypes = #[tb]) (htb : P.underlying tb = some .bool)
    (hs : ∀ ds : List (DataW T), ds.length = ts.length → (s.fn T ds).results = [.lit (.bool true)] ∧ (s.fn T ds).args = ds ∧ (s.fn T ds).vars = []) :
    Calls P f args W fun e W' => ∃ v, e = .returned v ∧ s.post enc P fn apart fresh handsOn again W args v W' := by
  have hWW := hW
  obtain ⟨p, q, hA, _⟩ := hW
  rw [hp] at hA
  obtain ⟨hlen, ρ, H, gs', hs', _, _, hrel, hR⟩ := hI.imp (base := base) (Sim.start P W) (Nat.le_refl _) (by simpa using hA) (fun j t v ht hj => hval j t v (by rw [hp]; simpa using ht) (by simpa using hj))
  have := (hc H gs' hR) _ _ ρ args.toList W hs' hrel
  rw [Array.toArray_toList] at this
  refine this.mono fun e W' ⟨v, c, ρ', H', he, hv', _, hsim, hrv⟩ => ?_
  subst hv'
  cases hrv
  exact ⟨_, he, law_post hl hr hv hrt htb hWW (hs ds hlen).1 (hs ds hlen).2.1 (hs ds hlen).2.2 hsim.below⟩
end Go.GL
namespace Go.GL
open Go.RowKit Go.WideShapes Go.ChangeShapes Go.Deep
def Bytes (H : GHeap) (a : Option Addr) (xs : List Int) : Prop := (SlA H a xs.length fun i => .int .u8 (xs.getD i 0)) ∧ ∀ i, 0 ≤ xs.getD i 0 ∧ xs.getD i 0 ≤ 255
section
variable {P : Program} {fr : Slots} {H : GHeap}
end
theorem cell_same {H H' : GHeap} {b i : Nat} {v : Value} (h : H.cell b i = some v) (s : ∀ o, H.get b = some o → H'.get b = some o) : H'.cell b i = some v := by
  unfold GHeap.cell at h ⊢
  cases e : H.get b with
  | none => rw [e] at h; simp at h
  | some o => rw [s o e]; rw [e] at h; exact h
theorem Bytes.st {H H' : GHeap} {a : Option Addr} {xs : List Int} {bs : List Nat} (h : Bytes H a xs) (s : St bs H H') (ho : ∀ b o t, a = some ⟨b, o, t⟩ → out bs b) : Bytes H' a xs := by
  refine ⟨h.1.imp id fun ⟨g, off, ha, hc⟩ => ⟨g, off, ha, fun i hi => cell_same (hc i hi) fun o hg => s.same g o (ho _ _ _ ha) hg⟩, h.2⟩
def DSrc (T : TypeId) (H : GHeap) (g : Nat) : Prop :=
  ∃ (a : Option Addr) (xs : List Int) (p h : Int), H.get g = some (.row [.slice a xs.length xs.length, .int .i64 p, .int .u64 h] T true) ∧ (0 ≤ p ∧ p ≤ 4096) ∧ xs.length ≤ 4096 ∧ Bytes H a xs ∧ ∀ b o t, a = some ⟨b, o, t⟩ → b < g
theorem DSrc.st {T : TypeId} {H H' : GHeap} {g : Nat} {bs : List Nat} (h : DSrc T H g) (s : St bs H H') (f : ∀ k, k < g + 1 → out [] k → out bs k) : DSrc T H' g := by
  obtain ⟨a, xs, p, hh, h1, h2, h3, h4, h5⟩ := h
  exact ⟨a, xs, p, hh, s.same _ _ (f g (by omega) trivial) h1, h2, h3, h4.st s fun b o t ha => f b (by have := h5 b o t ha; omega) trivial, h5⟩
theorem DSrc.sA {T : TypeId} {H H' : GHeap} {g : Nat} {bs : List Nat} (h : DSrc T H g) (s : St bs H H') (f : ∀ k, k < g + 1 → out [] k → out bs k := by intro k hk ho; simp only [out, and_true] at ho ⊢ <;> first | exact ho | exact ho.1 | exact ho.2 | exact ho.2.1 | exact ho.2.2 | exact ho.2.2.1 | exact ho.2.2.2 | omega) : DSrc T H' g := h.st s f
theorem DSrc.sP {T : TypeId} {H H' : GHeap} {g : Nat} {bs : List Nat} (h : DSrc T H g) (s : St bs H H') (f : ∀ k, k < g + 1 → out [] k → out bs k := by intro k hk ho; simp only [out, and_true] at ho ⊢ <;> first | exact ho | exact ho.1 | exact ho.2 | exact ho.2.1 | exact ho.2.2 | exact ho.2.2.1 | exact ho.2.2.2 | exact PL.ne (by assumption) (by first | exact ho | exact ho.1 | exact ho.2 | exact ho.2.1 | exact ho.2.2 | exact ho.2.2.1 | exact ho.2.2.2 | omega) (by omega) | omega) : DSrc T H' g := h.st s f
end Go.GL
namespace Go.GL
def Cat.opRow (c : Cat) (f g : Nat) : List Int := (List.range g).map fun g => (c.comp.getD g []).getD f 0
def Cat.opTab (c : Cat) (k : Nat) : List (List Int) := (List.range k).map fun f => c.opRow f c.src.length
def Cat.op (c : Cat) : Cat := ⟨c.obj, c.tgt, c.src, c.idn, c.opTab c.src.length⟩
end Go.GL
namespace Go.GL
end Go.GL
namespace Go.GL
def kmH (f k : Fun) (a b : Nat) : List Int := f.t.hom (f.ob.getD a 0) (k.ob.getD b 0)
def kmO (f k : Fun) (a b i : Nat) : List (List Int) := nest3 (fun a b i => [(a : Int), (b : Int), (kmH f k a b).getD i 0]) (fun _ => k.ob.length) (fun a b => (kmH f k a b).length) a b i
theorem kmO_next1 {f k : Fun} {a : Nat} : kmO f k (a + 1) 0 0 = kmO f k a k.ob.length 0 := nest3_next1
theorem kmO_next2 {f k : Fun} {a b : Nat} : kmO f k a (b + 1) 0 = kmO f k a b (kmH f k a b).length := nest3_next2
theorem kmO_snoc {f k : Fun} {a b i : Nat} : kmO f k a b (i + 1) = kmO f k a b i ++ [[(a : Int), (b : Int), (kmH f k a b).getD i 0]] := nest3_snoc
def kmOb (f k : Fun) : List (List Int) := kmO f k f.ob.length 0 0
structure KmOk (f k : Fun) : Prop where
  p : f.Is
  q : k.Is
  e : f.t = k.t
structure KmN (f k : Fun) : Prop where
  fo : f.ob.length ≤ 8
  ko : k.ob.length ≤ 8
  ta : f.t.src.length ≤ 40
  fs : f.s.src.length ≤ 40
  ks : k.s.src.length ≤ 40
theorem KmOk.n {f k : Fun} (h : KmOk f k) : KmN f k := by
  have h1 := h.p.1.1.obj
  have h2 := h.q.1.1.obj
  have h3 := h.p.2.2.ol
  have h4 := h.q.2.2.ol
  exact ⟨by omega, by omega, h.p.2.1.1.n40, h.p.1.1.n40, h.q.1.1.n40⟩
theorem kmO_le {f k : Fun} (h : KmN f k) {a b i : Nat} (ha : a < f.ob.length) (hb : b < k.ob.length) (hi : i ≤ (kmH f k a b).length) : (kmO f k a b i).length ≤ 2560 := by
  have h1 := h.fo
  have h2 := h.ko
  have h3 := h.ta
  have := nest3_le (pr := fun a b i => [(a : Int), (b : Int), (kmH f k a b).getD i 0]) (s1 := fun _ => k.ob.length) (s2 := fun a b => (kmH f k a b).length) (c := 40) (d := 8) (k := a) (t := b) (u := i) (n := f.ob.length) (fun _ _ => h2) (fun a _ b _ => Nat.le_trans (Cat.hom_le _ _ _) h3) ha hb hi
  have h4 : f.ob.length * (8 * 40) ≤ 8 * (8 * 40) := Nat.mul_le_mul_right _ h1
  exact Nat.le_trans this h4
theorem kmOb_le {f k : Fun} (h : KmN f k) : (kmOb f k).length ≤ 2560 := by
  have h1 := h.fo
  have h2 := h.ko
  have h3 := h.ta
  have := nest3_all (pr := fun a b i => [(a : Int), (b : Int), (kmH f k a b).getD i 0]) (s1 := fun _ => k.ob.length) (s2 := fun a b => (kmH f k a b).length) (c := 40) (d := 8) (n := f.ob.length) (fun _ _ => h2) (fun a _ b _ => Nat.le_trans (Cat.hom_le _ _ _) h3)
  have h4 : f.ob.length * (8 * 40) ≤ 8 * (8 * 40) := Nat.mul_le_mul_right _ h1
  exact Nat.le_trans this h4
structure KmX (f k : Fun) (x : List Int) : Prop where
  l : x.length = 3
  a : 0 ≤ x.getD 0 0 ∧ x.getD 0 0 < f.s.obj
  b : 0 ≤ x.getD 1 0 ∧ x.getD 1 0 < k.s.obj
  c : 0 ≤ x.getD 2 0 ∧ x.getD 2 0 < f.t.src.length
theorem kmOb_x {f k : Fun} (h : KmOk f k) {i : Nat} (hi : i < (kmOb f k).length) : KmX f k ((kmOb f k).getD i []) := by
  have hm : (kmOb f k).getD i [] ∈ kmOb f k := getD_mem_list (d := []) hi
  obtain ⟨a, b, t, ha, hb, ht, e⟩ := nest3_mem hm
  rw [e]
  obtain ⟨z, z1, _, _, z4⟩ := Cat.hom_get ht
  have h3 := h.p.2.2.ol
  have h4 := h.q.2.2.ol
  refine ⟨rfl, ⟨?_, ?_⟩, ⟨?_, ?_⟩, ⟨?_, ?_⟩⟩
  · show (0 : Int) ≤ a; omega
  · show (a : Int) < _; omega
  · show (0 : Int) ≤ b; omega
  · show (b : Int) < _; omega
  · show (0 : Int) ≤ (kmH f k a b).getD t 0; unfold kmH; omega
  · show (kmH f k a b).getD t 0 < _; unfold kmH; omega
theorem kmOb_row (f k : Fun) (i : Nat) : ((kmOb f k).getD i []).length ≤ 3 := by
  by_cases hi : i < (kmOb f k).length
  · have hm : (kmOb f k).getD i [] ∈ kmOb f k := getD_mem_list (d := []) hi
    obtain ⟨a, b, t, _, _, _, e⟩ := nest3_mem hm
    rw [e]; simp
  · rw [List.getD_eq_getElem?_getD, List.getElem?_eq_none (by omega)]; simp
def kmU (f : Fun) (x y : List Int) : List Int := f.s.hom (x.getD 0 0) (y.getD 0 0)
def kmV (k : Fun) (x y : List Int) : List Int := k.s.hom (x.getD 1 0) (y.getD 1 0)
def kmT (f k : Fun) (x y : List Int) (p : Int × Int) : Bool := decide (f.t.th (f.ar.getD p.1.toNat 0) (y.getD 2 0) = f.t.th (x.getD 2 0) (k.ar.getD p.2.toNat 0))
def kmS (f k : Fun) (x y : List Int) (i j : Nat) : List (Int × Int) := (nestL (fun i j => ((kmU f x y).getD i 0, (kmV k x y).getD j 0)) (fun _ => (kmV k x y).length) i j).filter (kmT f k x y)
theorem kmS_next {f k : Fun} {x y : List Int} {i : Nat} : kmS f k x y (i + 1) 0 = kmS f k x y i (kmV k x y).length := by unfold kmS; rw [nestL_next]
theorem kmS_yes {f k : Fun} {x y : List Int} {i j : Nat} (h : kmT f k x y ((kmU f x y).getD i 0, (kmV k x y).getD j 0) = true) : kmS f k x y i (j + 1) = kmS f k x y i j ++ [((kmU f x y).getD i 0, (kmV k x y).getD j 0)] := by
  unfold kmS
  rw [nestL_snoc, List.filter_append]
  simp only [List.filter_cons, List.filter_nil, h, if_true, Bool.false_eq_true, if_false, List.append_nil]
theorem kmS_no {f k : Fun} {x y : List Int} {i j : Nat} (h : kmT f k x y ((kmU f x y).getD i 0, (kmV k x y).getD j 0) = false) : kmS f k x y i (j + 1) = kmS f k x y i j := by
  unfold kmS
  rw [nestL_snoc, List.filter_append]
  simp only [List.filter_cons, List.filter_nil, h, if_true, Bool.false_eq_true, if_false, List.append_nil]
def kmP (f k : Fun) (x y : List Int) : List (Int × Int) := kmS f k x y (kmU f x y).length 0
theorem kmS_len {f k : Fun} (h : KmN f k) {x y : List Int} {i j : Nat} (hi : i < (kmU f x y).length) (hj : j ≤ (kmV k x y).length) : (kmS f k x y i j).length ≤ 1600 := by
  refine Nat.le_trans (List.length_filter_le _ _) ?_
  have h1 : (kmU f x y).length ≤ 40 := Nat.le_trans (Cat.hom_le _ _ _) h.fs
  have h2 : (kmV k x y).length ≤ 40 := Nat.le_trans (Cat.hom_le _ _ _) h.ks
  have := nestL_le (pr := fun i j => ((kmU f x y).getD i 0, (kmV k x y).getD j 0)) (sz := fun _ => (kmV k x y).length) (c := 40) (k := i) (t := j) (n := (kmU f x y).length) (fun _ _ => h2) hi hj
  have h4 : (kmU f x y).length * 40 ≤ 40 * 40 := Nat.mul_le_mul_right _ h1
  exact Nat.le_trans this h4
theorem kmP_len {f k : Fun} (h : KmN f k) (x y : List Int) : (kmP f k x y).length ≤ 1600 := by
  refine Nat.le_trans (List.length_filter_le _ _) ?_
  have h1 : (kmU f x y).length ≤ 40 := Nat.le_trans (Cat.hom_le _ _ _) h.fs
  have h2 : (kmV k x y).length ≤ 40 := Nat.le_trans (Cat.hom_le _ _ _) h.ks
  have := nestL_length (pr := fun i j => ((kmU f x y).getD i 0, (kmV k x y).getD j 0)) (sz := fun _ => (kmV k x y).length) (c := 40) (k := (kmU f x y).length) (fun _ _ => h2)
  have h4 : (kmU f x y).length * 40 ≤ 40 * 40 := Nat.mul_le_mul_right _ h1
  exact Nat.le_trans this h4
def kmR (s t : Nat) (p : Int × Int) : List Int := [(s : Int), (t : Int), p.1, p.2]
def kmL (f k : Fun) (O : List (List Int)) (s t : Nat) : List (List Int) := (kmP f k (O.getD s []) (O.getD t [])).map (kmR s t)
def kmA (f k : Fun) (O : List (List Int)) (s t : Nat) : List (List Int) := ((List.range s).flatMap fun a => (List.range O.length).flatMap fun b => kmL f k O a b) ++ (List.range t).flatMap fun b => kmL f k O s b
theorem kmA_next1 {f k : Fun} {O : List (List Int)} {s : Nat} : kmA f k O (s + 1) 0 = kmA f k O s O.length := by
  unfold kmA
  simp [List.range_succ]
theorem kmA_next2 {f k : Fun} {O : List (List Int)} {s t : Nat} : kmA f k O s (t + 1) = kmA f k O s t ++ kmL f k O s t := by
  unfold kmA
  simp [List.range_succ]
def kmB (f k : Fun) (O : List (List Int)) (s t i j : Nat) : List (List Int) := kmA f k O s t ++ (kmS f k (O.getD s []) (O.getD t []) i j).map (kmR s t)
theorem kmB_zero {f k : Fun} {O : List (List Int)} {s t : Nat} : kmB f k O s t 0 0 = kmA f k O s t := by simp [kmB, kmS, nestL]
theorem kmB_next3 {f k : Fun} {O : List (List Int)} {s t i : Nat} : kmB f k O s t (i + 1) 0 = kmB f k O s t i (kmV k (O.getD s []) (O.getD t [])).length := by unfold kmB; rw [kmS_next]
theorem kmB_next2 {f k : Fun} {O : List (List Int)} {s t : Nat} : kmB f k O s (t + 1) 0 0 = kmB f k O s t (kmU f (O.getD s []) (O.getD t [])).length 0 := by rw [kmB_zero, kmA_next2]; rfl
theorem kmB_next1 {f k : Fun} {O : List (List Int)} {s : Nat} : kmB f k O (s + 1) 0 0 0 = kmB f k O s O.length 0 0 := by rw [kmB_zero, kmB_zero, kmA_next1]
theorem kmB_yes {f k : Fun} {O : List (List Int)} {s t i j : Nat} (h : kmT f k (O.getD s []) (O.getD t []) ((kmU f (O.getD s []) (O.getD t [])).getD i 0, (kmV k (O.getD s []) (O.getD t [])).getD j 0) = true) :
    kmB f k O s t i (j + 1) = kmB f k O s t i j ++ [[(s : Int), (t : Int), (kmU f (O.getD s []) (O.getD t [])).getD i 0, (kmV k (O.getD s []) (O.getD t [])).getD j 0]] := by
  unfold kmB
  rw [kmS_yes h, List.map_append, List.append_assoc]
  rfl
theorem kmB_no {f k : Fun} {O : List (List Int)} {s t i j : Nat} (h : kmT f k (O.getD s []) (O.getD t []) ((kmU f (O.getD s []) (O.getD t [])).getD i 0, (kmV k (O.getD s []) (O.getD t [])).getD j 0) = false) : kmB f k O s t i (j + 1) = kmB f k O s t i j := by
  unfold kmB
  rw [kmS_no h]
def kmAr (f k : Fun) (O : List (List Int)) : List (List Int) := kmA f k O O.length 0
theorem kmA_two {f k : Fun} {O : List (List Int)} {s : Nat} : ∀ j t, kmA f k O s t <+: kmA f k O s (t + j)
  | 0, _ => List.prefix_refl _
  | j + 1, t => by rw [← Nat.add_assoc, kmA_next2]; exact (kmA_two j t).trans (List.prefix_append _ _)
theorem kmA_one {f k : Fun} {O : List (List Int)} : ∀ j s, kmA f k O s 0 <+: kmA f k O (s + j) 0
  | 0, _ => List.prefix_refl _
  | j + 1, s => by
    rw [← Nat.add_assoc, kmA_next1]
    refine (kmA_one j s).trans ?_
    have := kmA_two (f := f) (k := k) (O := O) (s := s + j) O.length 0
    rwa [Nat.zero_add] at this
theorem kmA_pre {f k : Fun} {O : List (List Int)} {s t : Nat} (hs : s < O.length) (ht : t ≤ O.length) : kmA f k O s t <+: kmAr f k O := by
  have h1 := kmA_two (f := f) (k := k) (O := O) (s := s) (O.length - t) t
  rw [show t + (O.length - t) = O.length by omega, ← kmA_next1] at h1
  have h2 := kmA_one (f := f) (k := k) (O := O) (O.length - (s + 1)) (s + 1)
  rw [show s + 1 + (O.length - (s + 1)) = O.length by omega] at h2
  exact h1.trans h2
theorem kmS_two {f k : Fun} {x y : List Int} {i : Nat} : ∀ n j, kmS f k x y i j <+: kmS f k x y i (j + n)
  | 0, _ => List.prefix_refl _
  | n + 1, j => by
    refine (kmS_two n j).trans ?_
    unfold kmS
    rw [← Nat.add_assoc, nestL_snoc, List.filter_append]
    exact List.prefix_append _ _
theorem kmS_one {f k : Fun} {x y : List Int} : ∀ n i, kmS f k x y i 0 <+: kmS f k x y (i + n) 0
  | 0, _ => List.prefix_refl _
  | n + 1, i => by
    rw [← Nat.add_assoc, kmS_next]
    refine (kmS_one n i).trans ?_
    have := kmS_two (f := f) (k := k) (x := x) (y := y) (i := i + n) (kmV k x y).length 0
    rwa [Nat.zero_add] at this
theorem kmS_pre {f k : Fun} {x y : List Int} {i j : Nat} (hi : i < (kmU f x y).length) (hj : j ≤ (kmV k x y).length) : kmS f k x y i j <+: kmP f k x y := by
  have h1 := kmS_two (f := f) (k := k) (x := x) (y := y) (i := i) ((kmV k x y).length - j) j
  rw [show j + ((kmV k x y).length - j) = (kmV k x y).length by omega, ← kmS_next] at h1
  have h2 := kmS_one (f := f) (k := k) (x := x) (y := y) ((kmU f x y).length - (i + 1)) (i + 1)
  rw [show i + 1 + ((kmU f x y).length - (i + 1)) = (kmU f x y).length by omega] at h2
  exact h1.trans h2
theorem kmA_over {f k : Fun} {O : List (List Int)} {s t i j : Nat} (hs : s < O.length) (ht : t < O.length) (hi : i < (kmU f (O.getD s []) (O.getD t [])).length) (hj : j < (kmV k (O.getD s []) (O.getD t [])).length)
    (h : kmT f k (O.getD s []) (O.getD t []) ((kmU f (O.getD s []) (O.getD t [])).getD i 0, (kmV k (O.getD s []) (O.getD t [])).getD j 0) = true) : (kmA f k O s t ++ (kmS f k (O.getD s []) (O.getD t []) i j).map (kmR s t)).length < (kmAr f k O).length := by
  have h1 := (kmS_pre (f := f) (k := k) (x := O.getD s []) (y := O.getD t []) hi (show j + 1 ≤ _ by omega)).length_le
  rw [kmS_yes h, List.length_append, List.length_singleton] at h1
  have h2 := (kmA_pre (f := f) (k := k) (O := O) hs (show t + 1 ≤ O.length by omega)).length_le
  rw [kmA_next2, List.length_append] at h2
  unfold kmL at h2
  rw [List.length_map] at h2
  rw [List.length_append, List.length_map]
  omega
theorem kmA_len {f k : Fun} {O : List (List Int)} (h : KmN f k) (hO : O.length ≤ 8) : ∀ s t, s < O.length → t ≤ O.length → (kmA f k O s t).length ≤ 102400 := by
  intro s t hs ht
  have q : ∀ a b, (kmL f k O a b).length ≤ 1600 := fun a b => by unfold kmL; rw [List.length_map]; exact kmP_len h _ _
  have f1 : ∀ (m : Nat) (g : Nat → List (List Int)) (c : Nat), (∀ a, (g a).length ≤ c) → ((List.range m).flatMap g).length ≤ m * c := fun m g c hg => by
    induction m with
    | zero => simp
    | succ m ih => rw [List.range_succ, List.flatMap_append, List.length_append, Nat.succ_mul]; simpa using Nat.add_le_add ih (hg m)
  unfold kmA
  rw [List.length_append]
  have h1 := f1 s (fun a => (List.range O.length).flatMap fun b => kmL f k O a b) (O.length * 1600) fun a => f1 _ _ _ fun b => q a b
  have h2 := f1 t (fun b => kmL f k O s b) 1600 fun b => q s b
  have h3 : s * (O.length * 1600) ≤ 7 * (8 * 1600) := Nat.mul_le_mul (by omega) (Nat.mul_le_mul_right _ hO)
  have h4 : t * 1600 ≤ 8 * 1600 := Nat.mul_le_mul_right _ (by omega)
  omega
theorem kmAr_len {f k : Fun} {O : List (List Int)} (h : KmN f k) (hO : O.length ≤ 8) : (kmAr f k O).length ≤ 102400 := by
  unfold kmAr
  by_cases e : O.length = 0
  · rw [e]; simp [kmA]
  · have := kmA_len (O := O) h hO (O.length - 1) O.length (by omega) (Nat.le_refl _)
    rw [show O.length = O.length - 1 + 1 by omega, kmA_next1]
    exact this
theorem kmB_len {f k : Fun} {O : List (List Int)} (h : KmN f k) (hO : O.length ≤ 8) {s t i j : Nat} (hs : s < O.length) (ht : t ≤ O.length) (hi : i < (kmU f (O.getD s []) (O.getD t [])).length) (hj : j ≤ (kmV k (O.getD s []) (O.getD t [])).length) : (kmB f k O s t i j).length ≤ 104000 := by
  unfold kmB
  rw [List.length_append, List.length_map]
  have h1 := kmA_len (O := O) h hO s t hs ht
  have h2 := kmS_len h hi hj
  omega
structure KmY (f k : Fun) (n : Nat) (x : List Int) : Prop where
  l : x.length = 4
  s : 0 ≤ x.getD 0 0 ∧ x.getD 0 0 < n
  t : 0 ≤ x.getD 1 0 ∧ x.getD 1 0 < n
  u : 0 ≤ x.getD 2 0 ∧ x.getD 2 0 < f.s.src.length
  v : 0 ≤ x.getD 3 0 ∧ x.getD 3 0 < k.s.src.length
theorem kmAr_y {f k : Fun} {O : List (List Int)} {i : Nat} (hi : i < (kmAr f k O).length) : KmY f k O.length ((kmAr f k O).getD i []) := by
  have hm : (kmAr f k O).getD i [] ∈ kmAr f k O := getD_mem_list (d := []) hi
  generalize (kmAr f k O).getD i [] = x at hm
  unfold kmAr kmA at hm
  simp only [List.range_zero, List.flatMap_nil, List.append_nil, List.mem_flatMap, List.mem_range] at hm
  obtain ⟨a, ha, b, hb, hx⟩ := hm
  obtain ⟨p, hp, rfl⟩ := List.mem_map.1 hx
  obtain ⟨u, v, hu, hv, rfl⟩ := nestL_mem (List.mem_filter.1 hp).1
  obtain ⟨z, z1, _, _, z4⟩ := Cat.hom_get hu
  obtain ⟨w, w1, _, _, w4⟩ := Cat.hom_get hv
  refine ⟨rfl, ⟨?_, ?_⟩, ⟨?_, ?_⟩, ⟨?_, ?_⟩, ⟨?_, ?_⟩⟩
  · show (0 : Int) ≤ a; omega
  · show (a : Int) < _; omega
  · show (0 : Int) ≤ b; omega
  · show (b : Int) < _; omega
  · show (0 : Int) ≤ (kmU f _ _).getD u 0; unfold kmU; omega
  · show (kmU f _ _).getD u 0 < _; unfold kmU; omega
  · show (0 : Int) ≤ (kmV k _ _).getD v 0; unfold kmV; omega
  · show (kmV k _ _).getD v 0 < _; unfold kmV; omega
theorem kmAr_row (f k : Fun) (O : List (List Int)) (i : Nat) : ((kmAr f k O).getD i []).length ≤ 4 := by
  by_cases hi : i < (kmAr f k O).length
  · exact Nat.le_of_eq (kmAr_y hi).l
  · rw [List.getD_eq_getElem?_getD, List.getElem?_eq_none (by omega)]; simp
def CatK (b : Nat) (H : GHeap) (c : Cat) (p : CatP) : Prop := IntsR b H p.a1 c.src ∧ IntsR b H p.a2 c.tgt ∧ IntsR b H p.a3 c.idn ∧ IntssR b H p.a4 c.comp p.r
theorem CatK.keep {b b' : Nat} {H H' : GHeap} {c : Cat} {p : CatP} (h : CatK b H c p) (k : Keep b' H H') (hb : b' ≤ b) : CatK b' H' c p := ⟨h.1.keep k hb, h.2.1.keep k hb, h.2.2.1.keep k hb, h.2.2.2.keep k hb⟩
theorem CatK.inn {b : Nat} {H : GHeap} {c : Cat} {p : CatP} (h : CatK b H c p) : c.In H p := ⟨h.1.ints, h.2.1.ints, h.2.2.1.ints, h.2.2.2.intss⟩
noncomputable def kmC (f k : Fun) : Int := bif B (f.Is ∧ k.Is) then (bif B (f.t = k.t) then (bif B ((kmOb f k).length ≤ 8) then (bif B ((kmAr f k (kmOb f k)).length ≤ 40) then 0 else 3) else 3) else 5) else 1
noncomputable def kmRO (f k : Fun) : List (List Int) := bif B (kmC f k = 0) then kmOb f k else []
noncomputable def kmRA (f k : Fun) : List (List Int) := bif B (kmC f k = 0) then kmAr f k (kmOb f k) else []
theorem kmC_1 {f k : Fun} (h : ¬ (f.Is ∧ k.Is)) : kmC f k = 1 := by unfold kmC; rw [B_false h]; rfl
theorem kmC_5 {f k : Fun} (h : f.Is ∧ k.Is) (h2 : ¬ f.t = k.t) : kmC f k = 5 := by unfold kmC; rw [B_true h, B_false h2]; rfl
theorem kmC_3 {f k : Fun} (h : f.Is ∧ k.Is) (h2 : f.t = k.t) (h3 : ¬ ((kmOb f k).length ≤ 8 ∧ (kmAr f k (kmOb f k)).length ≤ 40)) : kmC f k = 3 := by
  unfold kmC
  rw [B_true h, B_true h2]
  by_cases e : (kmOb f k).length ≤ 8
  · rw [B_true e, B_false fun e2 => h3 ⟨e, e2⟩]; rfl
  · rw [B_false e]; rfl
theorem kmC_0 {f k : Fun} (h : f.Is ∧ k.Is) (h2 : f.t = k.t) (h3 : (kmOb f k).length ≤ 8) (h4 : (kmAr f k (kmOb f k)).length ≤ 40) : kmC f k = 0 := by unfold kmC; rw [B_true h, B_true h2, B_true h3, B_true h4]; rfl
theorem kmR_not {f k : Fun} (h : ¬ kmC f k = 0) : kmRO f k = [] ∧ kmRA f k = [] := by unfold kmRO kmRA; rw [B_false h]; exact ⟨rfl, rfl⟩
theorem kmR_ok {f k : Fun} (h : kmC f k = 0) : kmRO f k = kmOb f k ∧ kmRA f k = kmAr f k (kmOb f k) := by unfold kmRO kmRA; rw [B_true h]; exact ⟨rfl, rfl⟩
theorem kmC_inv {f k : Fun} (h : kmC f k = 0) : KmOk f k ∧ (kmOb f k).length ≤ 8 ∧ (kmAr f k (kmOb f k)).length ≤ 40 := by
  by_cases h1 : f.Is ∧ k.Is
  · by_cases h2 : f.t = k.t
    · by_cases h3 : (kmOb f k).length ≤ 8 ∧ (kmAr f k (kmOb f k)).length ≤ 40
      · exact ⟨⟨h1.1, h1.2, h2⟩, h3⟩
      · rw [kmC_3 h1 h2 h3] at h; cases h
    · rw [kmC_5 h1 h2] at h; cases h
  · rw [kmC_1 h1] at h; cases h
theorem kmRO_small (f k : Fun) : (kmRO f k).length ≤ 8 ∧ ∀ i, ((kmRO f k).getD i []).length ≤ 3 := by
  by_cases h : kmC f k = 0
  · rw [(kmR_ok h).1]; exact ⟨(kmC_inv h).2.1, kmOb_row f k⟩
  · rw [(kmR_not h).1]; exact ⟨by simp, fun i => by simp⟩
end Go.GL
