/- Spans in memory, lists of them, and what limits there are. No condition. -/
import Derived.Test.YtjdedelneppnlaaZ8
namespace Go.GL
open Go.RowKit
def prs (l : List (Int × Int)) : List Value := l.flatMap fun p => [.int .i64 p.1, .int .i64 p.2]
theorem prs_snoc (l : List (Int × Int)) (a b : Int) : prs (l ++ [(a, b)]) = prs l ++ [.int .i64 a, .int .i64 b] := by simp [prs]
@[simp] theorem length_prs (l : List (Int × Int)) : (prs l).length = l.length * 2 := by
  induction l with
  | nil => rfl
  | cons p l ih =>
    unfold prs at ih ⊢
    simp only [List.flatMap_cons, List.length_append, List.length_cons, List.length_nil, ih]
    omega
theorem prs_get {l : List (Int × Int)} {i j : Nat} (hi : i < l.length) (hj : j < 2) : (prs l)[i * 2 + j]? = [Value.int .i64 (l.getD i (0, 0)).1, .int .i64 (l.getD i (0, 0)).2][j]? := by
  induction l generalizing i with
  | nil => simp at hi
  | cons p l ih =>
    unfold prs
    rw [List.flatMap_cons]
    cases i with
    | zero =>
      rw [List.getElem?_append_left (by simp; omega)]
      simp only [Nat.zero_mul, Nat.zero_add, List.getD_cons_zero]
    | succ i =>
      rw [List.getElem?_append_right (by simp; omega)]
      simp only [List.length_cons, List.length_nil, List.getD_cons_succ]
      have := ih (i := i) (by simpa using hi)
      unfold prs at this
      rw [← this]
      congr 1
      omega
theorem prs_sl {H : GHeap} {g : Nat} {e : TypeId} {own : Bool} {l : List (Int × Int)} (hg : H.get g = some (.row (prs l) e own)) : SlA H (some ⟨g, 0, none⟩) (l.length * 2) (fun i => (prs l).getD i undef) :=
  .inr ⟨g, 0, rfl, fun i hi => by
    rw [GHeap.cell_of hg, Nat.zero_add]
    show _ = some ((prs l).getD i undef)
    rw [List.getD_eq_getElem?_getD, List.getElem?_eq_getElem (by rw [length_prs]; exact hi)]; rfl⟩
theorem prs_mem {H : GHeap} {g : Nat} {e : TypeId} {own : Bool} {l : List (Int × Int)} (hg : H.get g = some (.row (prs l) e own)) {i : Nat} (hi : i < l.length) :
    MemN H g (0 + (i : Int).toNat * 2) 2 [.int .i64 (l.getD i (0, 0)).1, .int .i64 (l.getD i (0, 0)).2] := by
  refine ⟨rfl, fun j v hv => ?_⟩
  rw [GHeap.cell_of hg, Int.toNat_natCast, Nat.zero_add]
  match j, hv with
  | 0, hv => rw [prs_get hi (by omega)]; exact hv
  | 1, hv => rw [prs_get hi (by omega)]; exact hv
  | n + 2, hv => simp at hv
structure PrsAt (b : Nat) (e : TypeId) (H : GHeap) (g : Nat) (l : List (Int × Int)) : Prop where
  lo : b ≤ g
  at' : H.get g = some (.row (prs l) e true)
def Cat.spR (c : Cat) (s : Spn) (w : Int) (a : Int) (j : Nat) : List (Int × Int) := (((c.hom w s.y).take j).filter fun b => s.fits a b).map fun b => (a, b)
def Cat.spP (c : Cat) (s : Spn) (w : Int) (k : Nat) : List (Int × Int) := if s.alone = true then (((c.hom w s.x).take k).filter fun a => s.fits a a).map fun a => (a, a) else ((c.hom w s.x).take k).flatMap fun a => ((c.hom w s.y).filter fun b => s.fits a b).map fun b => (a, b)
theorem Cat.spP_zero (c : Cat) (s : Spn) (w : Int) : c.spP s w 0 = [] := by unfold Cat.spP; split <;> rfl
theorem Cat.spP_all (c : Cat) (s : Spn) (w : Int) : c.spP s w (c.hom w s.x).length = c.spL s w := by unfold Cat.spP Cat.spL; rw [List.take_length]
theorem Cat.spP_aT {c : Cat} {s : Spn} {w : Int} {k : Nat} (ha : s.alone = true) (h : k < (c.hom w s.x).length) (hf : s.fits ((c.hom w s.x).getD k 0) ((c.hom w s.x).getD k 0) = true) : c.spP s w (k + 1) = c.spP s w k ++ [((c.hom w s.x).getD k 0, (c.hom w s.x).getD k 0)] := by
  unfold Cat.spP
  rw [if_pos ha, if_pos ha, take_snoc_getD h, List.filter_append, List.map_append]
  congr 1
  rw [List.filter_cons_of_pos (p := fun a => s.fits a a) hf]; rfl
theorem Cat.spP_aF {c : Cat} {s : Spn} {w : Int} {k : Nat} (ha : s.alone = true) (h : k < (c.hom w s.x).length) (hf : s.fits ((c.hom w s.x).getD k 0) ((c.hom w s.x).getD k 0) = false) : c.spP s w (k + 1) = c.spP s w k := by
  unfold Cat.spP
  rw [if_pos ha, if_pos ha, take_snoc_getD h, List.filter_append, List.map_append, List.filter_cons_of_neg (by rw [hf]; decide)]
  simp
theorem Cat.spR_zero (c : Cat) (s : Spn) (w a : Int) : c.spR s w a 0 = [] := rfl
theorem Cat.spR_T {c : Cat} {s : Spn} {w a : Int} {j : Nat} (h : j < (c.hom w s.y).length) (hf : s.fits a ((c.hom w s.y).getD j 0) = true) : c.spR s w a (j + 1) = c.spR s w a j ++ [(a, (c.hom w s.y).getD j 0)] := by
  unfold Cat.spR
  rw [take_snoc_getD h, List.filter_append, List.map_append, List.filter_cons_of_pos hf]; rfl
theorem Cat.spR_F {c : Cat} {s : Spn} {w a : Int} {j : Nat} (h : j < (c.hom w s.y).length) (hf : s.fits a ((c.hom w s.y).getD j 0) = false) : c.spR s w a (j + 1) = c.spR s w a j := by
  unfold Cat.spR
  rw [take_snoc_getD h, List.filter_append, List.map_append, List.filter_cons_of_neg (by rw [hf]; decide)]
  simp
theorem Cat.spP_next {c : Cat} {s : Spn} {w : Int} {k : Nat} (ha : ¬ s.alone = true) (h : k < (c.hom w s.x).length) : c.spP s w (k + 1) = c.spP s w k ++ c.spR s w ((c.hom w s.x).getD k 0) (c.hom w s.y).length := by
  unfold Cat.spP Cat.spR
  rw [if_neg ha, if_neg ha, take_snoc_getD h, List.flatMap_append, List.take_length]
  simp
theorem Cat.spR_len (c : Cat) (s : Spn) (w a : Int) (j : Nat) : (c.spR s w a j).length ≤ c.src.length := by
  unfold Cat.spR
  rw [List.length_map]
  exact Nat.le_trans (List.length_filter_le _ _) (Nat.le_trans (by rw [List.length_take]; omega) (Cat.hom_le c w s.y))
theorem Cat.spP_len (c : Cat) (s : Spn) (w : Int) : ∀ {k : Nat}, k ≤ (c.hom w s.x).length → (c.spP s w k).length ≤ k * c.src.length + k
  | 0, _ => by rw [Cat.spP_zero]; simp
  | k + 1, h => by
    have ih := Cat.spP_len c s w (k := k) (by omega)
    have e := Nat.add_mul k 1 c.src.length
    by_cases ha : s.alone = true
    · cases hf : s.fits ((c.hom w s.x).getD k 0) ((c.hom w s.x).getD k 0) with
      | true => rw [Cat.spP_aT ha (by omega) hf, List.length_append, List.length_singleton]; omega
      | false => rw [Cat.spP_aF ha (by omega) hf]; omega
    · rw [Cat.spP_next ha (by omega), List.length_append]
      have := Cat.spR_len c s w ((c.hom w s.x).getD k 0) (c.hom w s.y).length
      omega
def LastsN (T0 : TypeId) (H H' : GHeap) : Prop := ∀ e, (e != T0) = true → LastsV e H H'
theorem LastsN.of_le {T0 : TypeId} {H H' : GHeap} (h : H.Le H') : LastsN T0 H H' := fun _ _ => .of_le h
theorem LastsN.trans {T0 : TypeId} {A B C : GHeap} (h : LastsN T0 A B) (h' : LastsN T0 B C) : LastsN T0 A C := fun e he => (h e he).trans (h' e he)
theorem St.lastsN {g : Nat} {H H' : GHeap} {T0 : TypeId} (s : St [g] H H') (h : H.next ≤ g ∨ ∃ cs, H.get g = some (.row cs T0 true)) : LastsN T0 H H' := fun _ he => s.lastsVA h he
structure SpnF (P : Program) (T0 : TypeId) (c : Cat) (gc : Nat) (p : CatP) (fn : Nat) (cap : Array Value) (s : Spn) (H : GHeap) : Prop where
  code : ∀ (xs : Array Value) (w : World), (callFunc fn xs).run P w = .ok (.enter fn xs) w
  run : ∀ H', LastsN T0 H H' → Cat.At H' gc 0 c p → ∀ (w : Nat) (a b : Int), a ∈ c.hom w s.x → (s.alone = true → b = a) → (¬ s.alone = true → b ∈ c.hom w s.y) → GCalls P fn ([.int .i64 a, .int .i64 b] ++ cap.toList) H' (Ret (.bool (s.fits a b)) H')
def SpnAt (P : Program) (TS T0 : TypeId) (c : Cat) (gc : Nat) (p : CatP) (H : GHeap) (g : Nat) (s : Spn) : Prop :=
  ∃ fn cap, H.get g = some (.row [.pointer (some ⟨gc, 0, none⟩), .int .i64 s.x, .int .i64 s.y, .func (.func fn) #[] cap, .bool s.alone] TS true) ∧ SpnF P T0 c gc p fn cap s H
theorem SpnAt.keep {P : Program} {TS T0 : TypeId} {c : Cat} {gc : Nat} {p : CatP} {H H' : GHeap} {g : Nat} {s : Spn} (h : SpnAt P TS T0 c gc p H g s) (hT : (TS != T0) = true) (l : LastsN T0 H H') : SpnAt P TS T0 c gc p H' g s := by
  obtain ⟨fn, cap, h1, h2⟩ := h
  exact ⟨fn, cap, l _ hT _ _ h1, h2.code, fun H'' l' => h2.run H'' (l.trans l')⟩
def ptrs (gs : List Nat) : List Value := gs.map fun g => .pointer (some ⟨g, 0, none⟩)
theorem ptrs_snoc (gs : List Nat) (g : Nat) : ptrs (gs ++ [g]) = ptrs gs ++ [.pointer (some ⟨g, 0, none⟩)] := by simp [ptrs]
@[simp] theorem length_ptrs (gs : List Nat) : (ptrs gs).length = gs.length := by simp [ptrs]
theorem ptrs_cell {H : GHeap} {g : Nat} {gs : List Nat} {e : TypeId} {own : Bool} (h : H.get g = some (.row (ptrs gs) e own)) {i : Nat} (hi : i < gs.length) : H.cell g (0 + i) = some (.pointer (some ⟨gs.getD i 0, 0, none⟩)) := by
  rw [GHeap.cell_of h, Nat.zero_add]
  unfold ptrs
  rw [List.getElem?_map, List.getD_eq_getElem?_getD, List.getElem?_eq_getElem hi]; rfl
def Spn.z : Spn := ⟨0, 0, fun _ _ => true, false⟩
structure SpnsAt (P : Program) (TS T0 : TypeId) (c : Cat) (gc : Nat) (p : CatP) (H : GHeap) (gs : List Nat) (ss : List Spn) : Prop where
  len : gs.length = ss.length
  row : ∀ i, i < ss.length → SpnAt P TS T0 c gc p H (gs.getD i 0) (ss.getD i .z)
theorem SpnsAt.nil (P : Program) (TS T0 : TypeId) (c : Cat) (gc : Nat) (p : CatP) (H : GHeap) : SpnsAt P TS T0 c gc p H [] [] := ⟨rfl, fun i hi => by simp at hi⟩
theorem SpnsAt.keep {P : Program} {TS T0 : TypeId} {c : Cat} {gc : Nat} {p : CatP} {H H' : GHeap} {gs : List Nat} {ss : List Spn} (h : SpnsAt P TS T0 c gc p H gs ss) (hT : (TS != T0) = true) (l : LastsN T0 H H') : SpnsAt P TS T0 c gc p H' gs ss := ⟨h.len, fun i hi => (h.row i hi).keep hT l⟩
theorem SpnsAt.snoc {P : Program} {TS T0 : TypeId} {c : Cat} {gc : Nat} {p : CatP} {H : GHeap} {gs : List Nat} {ss : List Spn} {g : Nat} {s : Spn} (h : SpnsAt P TS T0 c gc p H gs ss) (hs : SpnAt P TS T0 c gc p H g s) : SpnsAt P TS T0 c gc p H (gs ++ [g]) (ss ++ [s]) := by
  refine ⟨by rw [List.length_append, List.length_append, h.len]; rfl, fun i hi => ?_⟩
  have e := h.len
  rw [getD_snoc, getD_snoc]
  by_cases h1 : i < ss.length
  · rw [if_pos (by omega), if_pos h1]; exact h.row i h1
  · rw [List.length_append, List.length_singleton] at hi
    obtain rfl : i = ss.length := by omega
    rw [if_neg (by omega), if_pos e.symm, if_neg (by omega), if_pos rfl]; exact hs
def row3 (z : Nat) (p : Int × Int) : List Int := [(z : Int), p.1, p.2]
def row2 (z : Nat) (p : Int × Int) : List Int := [(z : Int), p.1]
def Cat.sqA (c : Cat) (s : Spn) (f : Nat → Int × Int → List Int) (z : Nat) : List (List Int) := (List.range z).flatMap fun (z : Nat) => (c.spL s z).map (f z)
def Cat.sqP (c : Cat) (s : Spn) (f : Nat → Int × Int → List Int) (z i : Nat) (k : Nat) : List (List Int) := c.sqA s f z ++ (c.spP s z i ++ c.spR s z ((c.hom z s.x).getD i 0) k).map (f z)
theorem Cat.sqA_next (c : Cat) (s : Spn) (f : Nat → Int × Int → List Int) (z : Nat) : c.sqA s f (z + 1) = c.sqA s f z ++ (c.spL s z).map (f z) := by
  unfold Cat.sqA
  rw [List.range_succ, List.flatMap_append]
  simp
theorem Cat.sqP_zero (c : Cat) (s : Spn) (f : Nat → Int × Int → List Int) (z : Nat) : c.sqP s f z 0 0 = c.sqA s f z := by
  unfold Cat.sqP
  rw [Cat.spP_zero, Cat.spR_zero]; simp
theorem Cat.sqP_end (c : Cat) (s : Spn) (f : Nat → Int × Int → List Int) (z : Nat) : c.sqP s f z (c.hom z s.x).length 0 = c.sqA s f (z + 1) := by
  unfold Cat.sqP
  rw [Cat.spR_zero, List.append_nil, Cat.spP_all, Cat.sqA_next]
theorem Cat.sqP_next {c : Cat} {s : Spn} {f : Nat → Int × Int → List Int} {z i : Nat} (ha : ¬ s.alone = true) (h : i < (c.hom z s.x).length) : c.sqP s f z (i + 1) 0 = c.sqP s f z i (c.hom z s.y).length := by
  unfold Cat.sqP
  rw [Cat.spR_zero, List.append_nil, Cat.spP_next ha h]
theorem Cat.sqP_T {c : Cat} {s : Spn} {f : Nat → Int × Int → List Int} {z i k : Nat} (h : k < (c.hom z s.y).length) (hf : s.fits ((c.hom z s.x).getD i 0) ((c.hom z s.y).getD k 0) = true) : c.sqP s f z i (k + 1) = c.sqP s f z i k ++ [f z ((c.hom z s.x).getD i 0, (c.hom z s.y).getD k 0)] := by
  unfold Cat.sqP
  rw [Cat.spR_T h hf, ← List.append_assoc, List.map_append, ← List.append_assoc]; rfl
theorem Cat.sqP_F {c : Cat} {s : Spn} {f : Nat → Int × Int → List Int} {z i k : Nat} (h : k < (c.hom z s.y).length) (hf : s.fits ((c.hom z s.x).getD i 0) ((c.hom z s.y).getD k 0) = false) : c.sqP s f z i (k + 1) = c.sqP s f z i k := by
  unfold Cat.sqP
  rw [Cat.spR_F h hf]
theorem Cat.sqP_aT {c : Cat} {s : Spn} {f : Nat → Int × Int → List Int} {z k : Nat} (ha : s.alone = true) (h : k < (c.hom z s.x).length) (hf : s.fits ((c.hom z s.x).getD k 0) ((c.hom z s.x).getD k 0) = true) : c.sqP s f z (k + 1) 0 = c.sqP s f z k 0 ++ [f z ((c.hom z s.x).getD k 0, (c.hom z s.x).getD k 0)] := by
  unfold Cat.sqP
  rw [Cat.spR_zero, Cat.spR_zero, List.append_nil, List.append_nil, Cat.spP_aT ha h hf, List.map_append, ← List.append_assoc]; rfl
theorem Cat.sqP_aF {c : Cat} {s : Spn} {f : Nat → Int × Int → List Int} {z k : Nat} (ha : s.alone = true) (h : k < (c.hom z s.x).length) (hf : s.fits ((c.hom z s.x).getD k 0) ((c.hom z s.x).getD k 0) = false) : c.sqP s f z (k + 1) 0 = c.sqP s f z k 0 := by
  unfold Cat.sqP
  rw [Cat.spR_zero, Cat.spR_zero, List.append_nil, List.append_nil, Cat.spP_aF ha h hf]
theorem Cat.spP_bound {c : Cat} (hS : c.Shape) (s : Spn) (w : Int) {k : Nat} (hk : k ≤ (c.hom w s.x).length) : (c.spP s w k).length ≤ 1640 := by
  have h1 := c.spP_len s w hk
  have h2 := hS.n40
  have h3 := c.hom_le w s.x
  have h4 : k * c.src.length ≤ 40 * 40 := Nat.mul_le_mul (by omega) h2
  omega
theorem Cat.spL_bound {c : Cat} (hS : c.Shape) (s : Spn) (w : Int) : (c.spL s w).length ≤ 1640 := by rw [← Cat.spP_all]; exact Cat.spP_bound hS s w (Nat.le_refl _)
theorem Cat.sqA_bound {c : Cat} (hS : c.Shape) (s : Spn) (f : Nat → Int × Int → List Int) (z : Nat) : (c.sqA s f z).length ≤ z * 1640 := flatMap_len fun a _ => by rw [List.length_map]; exact Cat.spL_bound hS s a
theorem Cat.sqP_bound {c : Cat} (hS : c.Shape) (s : Spn) (f : Nat → Int × Int → List Int) {z i k : Nat} (hz : z ≤ 8) (hi : i ≤ (c.hom z s.x).length) : (c.sqP s f z i k).length ≤ 20000 := by
  unfold Cat.sqP
  rw [List.length_append, List.length_map, List.length_append]
  have h1 := Cat.sqA_bound hS s f z
  have h2 := Cat.spP_bound hS s z hi
  have h3 := c.spR_len s z ((c.hom z s.x).getD i 0) k
  have h4 := hS.n40
  omega
theorem Cat.sqA_bound8 {c : Cat} (hS : c.Shape) (s : Spn) (f : Nat → Int × Int → List Int) {z : Nat} (hz : z ≤ 8) : (c.sqA s f z).length ≤ 20000 := by
  have := Cat.sqA_bound hS s f z
  omega
theorem Cat.sqL_eq (c : Cat) (s : Spn) : c.sqL s = c.sqA s row3 c.obj.toNat := rfl
theorem Cat.fkL_eq (c : Cat) (s : Spn) : c.fkL s = c.sqA s row2 c.obj.toNat := rfl
theorem find_flatMap {α : Type} {p : α → Bool} {F : Nat → List α} {n z : Nat} (hz : z < n) (h1 : ∀ z', z' < z → ∀ t ∈ F z', p t = false) {i : Nat} {d : α} (hi : i < (F z).length) (h2 : ∀ j, j < i → p ((F z).getD j d) = false) (h3 : p ((F z).getD i d) = true) : ((List.range n).flatMap F).find? p = some ((F z).getD i d) := by
  obtain ⟨m, rfl⟩ : ∃ m, n = z + (m + 1) := ⟨n - z - 1, by omega⟩
  rw [List.range_add, List.flatMap_append, List.find?_append, List.find?_eq_none.2 fun t ht => by
    obtain ⟨a, ha, hb⟩ := List.mem_flatMap.1 ht
    rw [h1 a (List.mem_range.1 ha) t hb]; exact Bool.false_ne_true]
  rw [Option.none_or, List.range_succ_eq_map, List.map_cons, List.flatMap_cons, Nat.add_zero, List.find?_append]
  have hf : (F z).find? p = some ((F z).getD i d) := by
    rw [List.find?_eq_some_iff_getElem]
    refine ⟨h3, i, hi, by rw [List.getD_eq_getElem?_getD, List.getElem?_eq_getElem hi]; rfl, fun j hj => ?_⟩
    have := h2 j hj
    rw [List.getD_eq_getElem?_getD, List.getElem?_eq_getElem (by omega)] at this
    simpa using this
  rw [hf]; rfl
theorem Cat.okL_sq {c : Cat} {s : Spn} (hc : c.SpC s) {z : Nat} {p : Int × Int} (hp : p ∈ c.spL s z) : c.okL (c.sqL s) (row3 z p) = true ↔ c.SpV s z p := by
  rw [Cat.spV_iff hc hp]
  unfold Cat.okL
  rw [B_iff]
  constructor
  · intro h
    refine ⟨fun w hw q hq => ?_⟩
    rw [← Cat.maps3]
    exact h _ (mem_objsL.2 ⟨w, hw, List.mem_map.2 ⟨q, hq, rfl⟩⟩)
  · intro h t ht
    obtain ⟨w, hw, h2⟩ := mem_objsL.1 ht
    obtain ⟨q, hq, rfl⟩ := List.mem_map.1 h2
    show (c.mapsL [(w : Int), q.1, q.2] [(z : Int), p.1, p.2]).length = 1
    rw [Cat.maps3]
    exact h.all w hw q hq
noncomputable def Cat.fstL (c : Cat) (s : Spn) : List Int := c.firstL (c.sqL s)
theorem Cat.fst_hit {c : Cat} {s : Spn} (hc : c.SpC s) {z i : Nat} (hz : (z : Int) < c.obj) (h1 : ∀ z' : Nat, z' < z → ∀ q ∈ c.spL s z', ¬ c.SpV s z' q) (hi : i < (c.spL s z).length) (h2 : ∀ j, j < i → ¬ c.SpV s z ((c.spL s z).getD j (0, 0))) (h3 : c.SpV s z ((c.spL s z).getD i (0, 0))) : c.fstL s = row3 z ((c.spL s z).getD i (0, 0)) := by
  have gm : ∀ {j : Nat}, j < (c.spL s z).length → ((c.spL s z).map (row3 z)).getD j [] = row3 z ((c.spL s z).getD j (0, 0)) := fun {j} hj => by
    rw [List.getD_eq_getElem?_getD, List.getElem?_map, List.getD_eq_getElem?_getD, List.getElem?_eq_getElem hj]; rfl
  have hm : ∀ {j : Nat}, j < (c.spL s z).length → (c.spL s z).getD j (0, 0) ∈ c.spL s z := fun hj => getD_mem_list hj
  have := find_flatMap (p := c.okL (c.sqL s)) (F := fun z => (c.spL s z).map (row3 z)) (n := c.obj.toNat) (z := z) (i := i) (d := []) (by omega) (fun z' hz' t ht => by
    obtain ⟨q, hq, rfl⟩ := List.mem_map.1 ht
    exact Bool.eq_false_iff.2 fun e => h1 z' hz' q hq ((Cat.okL_sq hc hq).1 e)) (by rw [List.length_map]; exact hi) (fun j hj => by
    rw [gm (by omega)]
    exact Bool.eq_false_iff.2 fun e => h2 j hj ((Cat.okL_sq hc (hm (by omega))).1 e)) (by rw [gm hi]; exact (Cat.okL_sq hc (hm hi)).2 h3)
  unfold Cat.fstL Cat.firstL
  rw [show (c.sqL s).find? (c.okL (c.sqL s)) = _ from this, gm hi]; rfl
theorem Cat.fst_none {c : Cat} {s : Spn} (hc : c.SpC s) (h : ∀ z : Nat, (z : Int) < c.obj → ∀ q ∈ c.spL s z, ¬ c.SpV s z q) : c.fstL s = [] := by
  unfold Cat.fstL Cat.firstL
  rw [List.find?_eq_none.2 fun t ht => by
    obtain ⟨z, hz, h2⟩ := mem_objsL.1 ht
    obtain ⟨q, hq, rfl⟩ := List.mem_map.1 h2
    exact fun e => h z hz q hq ((Cat.okL_sq hc hq).1 e)]
  rfl
theorem Cat.fstL_ne {c : Cat} {s : Spn} : (c.fstL s).length = 0 ↔ ¬ c.SpE s := by
  rw [← Cat.sq_first, List.length_eq_zero_iff, Classical.not_not]; rfl
theorem Cat.fkL_ne {c : Cat} {s : Spn} (ha : s.alone = true) : (c.firstL (c.fkL s)).length = 0 ↔ ¬ c.SpE s := by
  rw [← Cat.fk_first ha, List.length_eq_zero_iff, Classical.not_not]
theorem Cat.sqL_ok {c : Cat} {s : Spn} (ha : ¬ s.alone = true) : ∀ k, k < (c.sqL s).length → ((c.sqL s).getD k []).length = 3 ∧ ∀ i, 1 ≤ i → i < 3 → 0 ≤ ((c.sqL s).getD k []).getD i 0 ∧ ((c.sqL s).getD k []).getD i 0 < c.src.length := fun k hk => by
  have hm := getD_mem_list (d := ([] : List Int)) hk
  generalize (c.sqL s).getD k [] = t at hm ⊢
  obtain ⟨z, hz, h⟩ := mem_objsL.1 hm
  obtain ⟨p, hp, rfl⟩ := List.mem_map.1 h
  obtain ⟨h1, _, h3⟩ := Cat.mem_spL.1 hp
  rw [if_neg ha] at h3
  obtain ⟨a, a1, _, _, a4⟩ := Cat.mem_hom.1 h1
  obtain ⟨b, b1, _, _, b4⟩ := Cat.mem_hom.1 h3
  refine ⟨rfl, fun i h1 h2 => ?_⟩
  rcases (by omega : i = 1 ∨ i = 2) with rfl | rfl
  · show 0 ≤ p.1 ∧ p.1 < _
    omega
  · show 0 ≤ p.2 ∧ p.2 < _
    omega
theorem Cat.fkL_ok {c : Cat} {s : Spn} : ∀ k, k < (c.fkL s).length → ((c.fkL s).getD k []).length = 2 ∧ ∀ i, 1 ≤ i → i < 2 → 0 ≤ ((c.fkL s).getD k []).getD i 0 ∧ ((c.fkL s).getD k []).getD i 0 < c.src.length := fun k hk => by
  have hm := getD_mem_list (d := ([] : List Int)) hk
  generalize (c.fkL s).getD k [] = t at hm ⊢
  obtain ⟨z, hz, h⟩ := mem_objsL.1 hm
  obtain ⟨p, hp, rfl⟩ := List.mem_map.1 h
  obtain ⟨h1, _, h3⟩ := Cat.mem_spL.1 hp
  obtain ⟨a, a1, _, _, a4⟩ := Cat.mem_hom.1 h1
  refine ⟨rfl, fun i h1 h2 => ?_⟩
  obtain rfl : i = 1 := by omega
  show 0 ≤ p.1 ∧ p.1 < _
  omega
def bit (b : Bool) : Int := bif b then 1 else 0
structure Bef (n f t : Nat) (Q : Nat → Nat → Prop) : Prop where
  all : ∀ f' g', f' ≤ g' → g' < n → (f' < f ∨ (f' = f ∧ g' < t)) → Q f' g'
theorem Bef.zero (n : Nat) (Q : Nat → Nat → Prop) : Bef n 0 0 Q := ⟨fun _ _ _ _ h => by omega⟩
theorem Bef.next {n f : Nat} {Q : Nat → Nat → Prop} : Bef n (f + 1) (f + 1) Q ↔ Bef n f n Q := ⟨fun h => ⟨fun a b h1 h2 h3 => h.all a b h1 h2 (by omega)⟩, fun h => ⟨fun a b h1 h2 h3 => h.all a b h1 h2 (by omega)⟩⟩
theorem Bef.step {n f t : Nat} {Q : Nat → Nat → Prop} (h1 : f ≤ t) (h2 : t < n) : Bef n f (t + 1) Q ↔ Bef n f t Q ∧ Q f t := by
  constructor
  · intro h
    exact ⟨⟨fun a b k1 k2 k3 => h.all a b k1 k2 (by omega)⟩, h.all f t h1 h2 (by omega)⟩
  · rintro ⟨h, hq⟩
    refine ⟨fun a b k1 k2 k3 => ?_⟩
    by_cases e : a = f ∧ b = t
    · rw [e.1, e.2]; exact hq
    · exact h.all a b k1 k2 (by omega)
theorem Bef.done {n : Nat} {Q : Nat → Nat → Prop} (hs : ∀ f g, f < n → g < n → Q f g → Q g f) : Bef n n n Q ↔ ∀ f g, f < n → g < n → Q f g := by
  constructor
  · intro h f g hf hg
    by_cases e : f ≤ g
    · exact h.all f g e hg (by omega)
    · exact hs g f hg hf (h.all g f (by omega) hf (by omega))
  · intro h
    exact ⟨fun a b k1 k2 _ => h a b (by omega) k2⟩
structure BefA (n f t : Nat) (Q : Nat → Nat → Prop) : Prop where
  all : ∀ f' g', g' < n → (f' < f ∨ (f' = f ∧ g' < t)) → Q f' g'
theorem BefA.zero (n : Nat) (Q : Nat → Nat → Prop) : BefA n 0 0 Q := ⟨fun _ _ _ h => by omega⟩
theorem BefA.next {n f : Nat} {Q : Nat → Nat → Prop} : BefA n (f + 1) 0 Q ↔ BefA n f n Q := ⟨fun h => ⟨fun a b h2 h3 => h.all a b h2 (by omega)⟩, fun h => ⟨fun a b h2 h3 => h.all a b h2 (by omega)⟩⟩
theorem BefA.step {n f t : Nat} {Q : Nat → Nat → Prop} (h2 : t < n) : BefA n f (t + 1) Q ↔ BefA n f t Q ∧ Q f t := by
  constructor
  · intro h
    exact ⟨⟨fun a b k2 k3 => h.all a b k2 (by omega)⟩, h.all f t h2 (by omega)⟩
  · rintro ⟨h, hq⟩
    refine ⟨fun a b k2 k3 => ?_⟩
    by_cases e : a = f ∧ b = t
    · rw [e.1, e.2]; exact hq
    · exact h.all a b k2 (by omega)
theorem BefA.done {n : Nat} {Q : Nat → Nat → Prop} : BefA n n 0 Q ↔ ∀ f g, f < n → g < n → Q f g := ⟨fun h f g hf hg => h.all f g hg (by omega), fun h => ⟨fun a b k2 k3 => h a b (by omega) k2⟩⟩
theorem all_snoc {α : Type} {l : List α} {x : α} {p : α → Prop} : (∀ s ∈ l ++ [x], p s) ↔ (∀ s ∈ l, p s) ∧ p x := by
  constructor
  · intro h
    exact ⟨fun s hs => h s (List.mem_append.2 (.inl hs)), h x (by simp)⟩
  · rintro ⟨h1, h2⟩ s hs
    rcases List.mem_append.1 hs with hs | hs
    · exact h1 s hs
    · rw [List.mem_singleton.1 hs]; exact h2
def Cat.Q1 (c : Cat) (x y : Nat) : Prop := c.SpE (.prod x y)
def Cat.Q2 (c : Cat) (f g : Nat) : Prop := c.src.getD f 0 = c.src.getD g 0 → c.tgt.getD f 0 = c.tgt.getD g 0 → c.SpE (c.fork f g)
def Cat.Q3 (c : Cat) (f g : Nat) : Prop := c.tgt.getD f 0 = c.tgt.getD g 0 → c.SpE (c.pull f g)
noncomputable def Cat.hasL (c : Cat) : List Int := [bit (B (c.term ≠ [])), bit (B (∀ x y, x < c.obj.toNat → y < c.obj.toNat → c.Q1 x y)), bit (B (∀ f g, f < c.src.length → g < c.src.length → c.Q2 f g)), bit (B (∀ f g, f < c.src.length → g < c.src.length → c.Q3 f g))]
theorem Cat.q1_sym {c : Cat} {n : Nat} : ∀ x y, x < n → y < n → c.Q1 x y → c.Q1 y x := fun _ _ _ _ h => Cat.prod_swap.1 h
theorem Cat.q2_sym {c : Cat} {n : Nat} : ∀ f g, f < n → g < n → c.Q2 f g → c.Q2 g f := fun _ _ _ _ h a b => (Cat.fork_swap a.symm).1 (h a.symm b.symm)
theorem Cat.q3_sym {c : Cat} {n : Nat} : ∀ f g, f < n → g < n → c.Q3 f g → c.Q3 g f := fun _ _ _ _ h b => Cat.pull_swap.1 (h b.symm)
theorem iff_keep {e : Bool} {A Q : Prop} (h : e = true ↔ A) (q : Q) : e = true ↔ A ∧ Q := by rw [h]; exact ⟨fun a => ⟨a, q⟩, fun a => a.1⟩
theorem iff_off {A Q : Prop} (q : ¬ Q) : false = true ↔ A ∧ Q := ⟨fun h => (by cases h), fun h => absurd h.2 q⟩
theorem iff_was {e : Bool} {A Q : Prop} (h : e = true ↔ A) (he : e = false) : e = true ↔ A ∧ Q := by
  rw [he] at h ⊢
  exact ⟨fun h => (by cases h), fun q => absurd (h.2 q.1) Bool.false_ne_true⟩
theorem bit_not {e : Bool} : ¬ bit e = 1 ↔ e = false := by cases e <;> decide
theorem bit_B {e : Bool} {A : Prop} (h : e = true ↔ A) : bit e = bit (B A) := by
  congr 1
  cases e with
  | true => exact (B_true (h.1 rfl)).symm
  | false => exact (B_false fun a => by cases h.2 a).symm
theorem CDo.indexA {P : Program} {fr : Slots} {H : GHeap} {o : Oper} {R : Option Value → GHeap → Prop} {t e : TypeId} {x i : Operand} {n sz : Nat} {k : IntKind} {j : Int} {cs : Array Value} (ho : o.op = .index t x i) (ht : P.underlying t = some (.array n e)) (hs : (P.info? e).map (·.size) = some sz) (h1 : aggT P e = some sz)
    (hx : ev fr x = some (.agg cs)) (hi : ev fr i = some (.int k j)) (h0 : 0 ≤ j) (hn : j < n) (h : R (some (.agg (cs.extract (j.toNat * sz) (j.toNat * sz + sz)))) H) : CDo P o fr H R := .mk fun B w0 ρ a w hs' hf next Q hq => by
  rw [ho] at hf
  have hei := (ev_rel hf (x := i) (by simp [Op.operands]) hi).int_inv
  obtain ⟨ds, hd, hr⟩ := (ev_rel hf (x := x) (by simp [Op.operands]) hx).agg_inv
  obtain ⟨inf, hinf, hsz0⟩ := Option.map_eq_some_iff.1 hs
  obtain ⟨ha, hsz⟩ := aggT_run h1 w
  refine upon_value (c := .agg (ds.extract (j.toNat * sz) (j.toNat * sz + sz))) (w' := w) ?_ (hq ρ _ _ _ _ h (.refl ρ) hs' fun y hy => ?_)
  · unfold execOp
    simp only [ho, hd, hei]
    refine v_run ?_
    simp only [Instr.index, asIntOf, Sem.run_bind, Sem.run_pure, run_underlying ht, Result.andThen_ok]
    rw [if_pos ⟨h0, hn⟩]
    simp only [sizeOf, typeInfo, Sem.run_bind, program, Sem.run, hinf, Result.andThen_ok, Sem.run_pure, hsz0, part, ha, hsz, if_true]
  · cases hy
    have hl : cs.size = ds.size := by simpa using hr.1
    refine .agg (by simp [hl]) fun i h₁ h₂ => ?_
    simp only [Array.getElem_extract]
    have h₁' : j.toNat * sz + i < cs.size := by simp at h₁; omega
    have h₂' : j.toNat * sz + i < ds.size := by omega
    exact hr.2 (j.toNat * sz + i) _ _ (by simp [h₁']) (by simp [h₂'])
def Cat.sp2 (c : Cat) (p1 p2 : Int) (u : Int) : List Int := [c.th u p1, c.th u p2]
theorem foldB_two : ∀ {l acc : List (List Int)} {n : Nat}, (∀ e ∈ l, e.length = n) → (∀ e ∈ acc, e.length = n) → ∀ e ∈ l.foldl insB acc, e.length = n
  | [], _, _, _, h2 => h2
  | j :: l, acc, n, h1, h2 => by
    rw [List.foldl_cons]
    exact foldB_two (fun e he => h1 e (List.mem_cons_of_mem _ he)) (insB_len h2 (h1 j (List.mem_cons_self ..)))
theorem sp2_len {c : Cat} {p1 p2 : Int} (l : List Int) : ∀ e ∈ setB (l.map (c.sp2 p1 p2)), e.length = 2 := foldB_two (fun e he => by
  obtain ⟨u, _, rfl⟩ := List.mem_map.1 he
  rfl) fun _ h => by cases h
theorem Cat.sp2_nd {c : Cat} {p1 p2 : Int} {l : List Int} : (l.map (c.sp2 p1 p2)).Nodup ↔ (l.map (c.spM (p1, p2))).Nodup := by
  have e : l.map (c.sp2 p1 p2) = (l.map (c.spM (p1, p2))).map fun q => [q.1, q.2] := by rw [List.map_map]; rfl
  rw [e]
  refine ⟨fun h => List.Pairwise.imp (fun {a b} h e => h (by rw [e])) (List.pairwise_map.1 h), fun h => List.pairwise_map.2 (List.Pairwise.imp (fun {a b} h e => h ?_) h)⟩
  have e1 := List.cons.inj e
  exact Prod.ext e1.1 (List.cons.inj e1.2).1
theorem Cat.sp2_set {c : Cat} {p1 p2 : Int} {l : List Int} : (setB (l.map (c.sp2 p1 p2))).length = l.length ↔ (l.map (c.spM (p1, p2))).Nodup := by
  rw [← Cat.sp2_nd, ← setB_len, List.length_map]
theorem mem_iff_getD' {l : List (Int × Int)} {q : Int × Int} : q ∈ l ↔ ∃ j, j < l.length ∧ l.getD j (0, 0) = q := by
  constructor
  · intro h
    obtain ⟨j, hj, e⟩ := List.mem_iff_getElem.1 h
    exact ⟨j, hj, by rw [List.getD_eq_getElem?_getD, List.getElem?_eq_getElem hj]; exact e⟩
  · rintro ⟨j, hj, rfl⟩
    exact getD_mem_list hj
theorem Cat.spL_rg {c : Cat} {s : Spn} (hS : c.Shape) {z : Nat} {q : Int × Int} (h : q ∈ c.spL s z) : 0 ≤ q.1 ∧ q.1 < c.src.length ∧ 0 ≤ q.2 ∧ q.2 < c.src.length := by
  obtain ⟨h1, _, h3⟩ := Cat.mem_spL.1 h
  obtain ⟨a, a1, _, _, a4⟩ := Cat.mem_hom.1 h1
  by_cases ha : s.alone = true
  · rw [if_pos ha] at h3
    omega
  · rw [if_neg ha] at h3
    obtain ⟨b, b1, _, _, b4⟩ := Cat.mem_hom.1 h3
    omega
structure Spns3 (P : Program) (TS T0 : TypeId) (c : Cat) (gc : Nat) (p : CatP) (H : GHeap) (gs : List Nat) (ss : List Spn) (us : List Nat) (es : List Spn) (ws : List Nat) (ps : List Spn) : Prop where
  a : SpnsAt P TS T0 c gc p H gs ss
  b : SpnsAt P TS T0 c gc p H us es
  d : SpnsAt P TS T0 c gc p H ws ps
  ac : ∀ s ∈ ss, c.SpC s
  bc : ∀ s ∈ es, c.SpC s
  dc : ∀ s ∈ ps, c.SpC s
section
variable {P : Program} {TS T0 : TypeId} {c : Cat} {gc : Nat} {p : CatP} {H H' : GHeap} {gs us ws : List Nat} {ss es ps : List Spn} {g : Nat} {s : Spn}
theorem Spns3.keep (h : Spns3 P TS T0 c gc p H gs ss us es ws ps) (hT : (TS != T0) = true) (l : LastsN T0 H H') : Spns3 P TS T0 c gc p H' gs ss us es ws ps := ⟨h.a.keep hT l, h.b.keep hT l, h.d.keep hT l, h.ac, h.bc, h.dc⟩
theorem spC_snoc (h : ∀ s ∈ ss, c.SpC s) (hs : c.SpC s) : ∀ t ∈ ss ++ [s], c.SpC t := fun t ht => by
  rcases List.mem_append.1 ht with ht | ht
  · exact h t ht
  · rw [List.mem_singleton.1 ht]; exact hs
theorem Spns3.snocA (h : Spns3 P TS T0 c gc p H gs ss us es ws ps) (hs : SpnAt P TS T0 c gc p H g s) (hc : c.SpC s) : Spns3 P TS T0 c gc p H (gs ++ [g]) (ss ++ [s]) us es ws ps := ⟨h.a.snoc hs, h.b, h.d, spC_snoc h.ac hc, h.bc, h.dc⟩
theorem Spns3.snocB (h : Spns3 P TS T0 c gc p H gs ss us es ws ps) (hs : SpnAt P TS T0 c gc p H g s) (hc : c.SpC s) : Spns3 P TS T0 c gc p H gs ss (us ++ [g]) (es ++ [s]) ws ps := ⟨h.a, h.b.snoc hs, h.d, h.ac, spC_snoc h.bc hc, h.dc⟩
theorem Spns3.snocD (h : Spns3 P TS T0 c gc p H gs ss us es ws ps) (hs : SpnAt P TS T0 c gc p H g s) (hc : c.SpC s) : Spns3 P TS T0 c gc p H gs ss us es (ws ++ [g]) (ps ++ [s]) := ⟨h.a, h.b, h.d.snoc hs, h.ac, h.bc, spC_snoc h.dc hc⟩
end
theorem Cat.fst_some {c : Cat} {s : Spn} : (!(c.fstL s).isEmpty) = B (c.SpE s) := by
  by_cases h : c.SpE s
  · rw [B_true h]
    have := mt Cat.fstL_ne.1 (fun q => q h)
    cases e : c.fstL s with
    | nil => rw [e] at this; exact absurd rfl this
    | cons a l => rfl
  · rw [B_false h, List.length_eq_zero_iff.1 (Cat.fstL_ne.2 h)]; rfl
def inter2 (a b : List Int) (k : Nat) : List Int := (List.range k).flatMap fun i => [a.getD i 0, b.getD i 0]
theorem inter2_succ (a b : List Int) (k : Nat) : inter2 a b (k + 1) = inter2 a b k ++ [a.getD k 0, b.getD k 0] := by
  unfold inter2
  rw [List.range_succ, List.flatMap_append]
  simp
@[simp] theorem length_inter2 (a b : List Int) (k : Nat) : (inter2 a b k).length = k * 2 := by
  induction k with
  | zero => rfl
  | succ k ih => rw [inter2_succ, List.length_append, ih, Nat.add_mul]; rfl
noncomputable def Cat.hasB (c : Cat) : List Bool := [B (c.term ≠ []), B (∀ x y, x < c.obj.toNat → y < c.obj.toNat → c.Q1 x y), B (∀ f g, f < c.src.length → g < c.src.length → c.Q2 f g), B (∀ f g, f < c.src.length → g < c.src.length → c.Q3 f g)]
noncomputable def Cat.flB (c : Cat) (i k : Nat) : Bool := (if i = 0 then c.hasB else c.op.hasB).getD k false
noncomputable def Cat.lfL (c : Cat) : List Int := inter2 c.hasL c.op.hasL 4
def outF (fl : Nat → Nat → Bool) (i k : Nat) : List Int := (List.range 8).map fun m => if m % 2 < i ∨ (m % 2 = i ∧ m / 2 < k) then bit (fl (m % 2) (m / 2)) else 0
@[simp] theorem length_outF (fl : Nat → Nat → Bool) (i k : Nat) : (outF fl i k).length = 8 := by simp [outF]
theorem outF_ext {fl fl' : Nat → Nat → Bool} {i k : Nat} {l : List Int} (hl : l.length = 8) (h : ∀ m, m < 8 → l.getD m 0 = if m % 2 < i ∨ (m % 2 = i ∧ m / 2 < k) then bit (fl (m % 2) (m / 2)) else 0) : l = outF fl i k := by
  refine List.ext_getElem (by rw [hl, length_outF]) fun m h1 h2 => ?_
  have := h m (by omega)
  rw [List.getD_eq_getElem?_getD, List.getElem?_eq_getElem h1] at this
  simp only [outF, List.getElem_map, List.getElem_range]
  exact this
theorem outF_get (fl : Nat → Nat → Bool) (i k : Nat) {m : Nat} (h : m < 8) : (outF fl i k).getD m 0 = if m % 2 < i ∨ (m % 2 = i ∧ m / 2 < k) then bit (fl (m % 2) (m / 2)) else 0 := by
  rw [List.getD_eq_getElem?_getD, List.getElem?_eq_getElem (by rw [length_outF]; exact h)]
  simp [outF]
theorem outF_zero (fl : Nat → Nat → Bool) : outF fl 0 0 = List.replicate 8 0 := (outF_ext (fl' := fl) (by simp) fun m hm => by
  rw [if_neg (by omega)]
  rw [List.getD_eq_getElem?_getD, List.getElem?_replicate, if_pos hm]; rfl).symm
theorem outF_next (fl : Nat → Nat → Bool) (i : Nat) : outF fl (i + 1) 0 = outF fl i 4 := outF_ext (fl' := fl) (by simp) fun m hm => by
  rw [outF_get _ _ _ hm]
  by_cases e : m % 2 < i + 1
  · rw [if_pos (.inl e), if_pos (by omega)]
  · rw [if_neg (by omega), if_neg (by omega)]
theorem outF_T {fl : Nat → Nat → Bool} {i k : Nat} (hi : i < 2) (hk : k < 4) (h : fl i k = true) : (outF fl i k).set (2 * k + i) 1 = outF fl i (k + 1) := outF_ext (fl' := fl) (by simp) fun m hm => by
  rw [List.getD_eq_getElem?_getD, List.getElem?_set, length_outF]
  by_cases e : 2 * k + i = m
  · rw [if_pos e, if_pos (by omega), if_pos (by omega), show m % 2 = i by omega, show m / 2 = k by omega, h]; rfl
  · rw [if_neg e, ← List.getD_eq_getElem?_getD, outF_get _ _ _ hm]
    congr 1
    exact propext ⟨fun q => by omega, fun q => by omega⟩
theorem outF_F {fl : Nat → Nat → Bool} {i k : Nat} (hi : i < 2) (hk : k < 4) (h : fl i k = false) : outF fl i (k + 1) = outF fl i k := outF_ext (fl' := fl) (by simp) fun m hm => by
  rw [outF_get _ _ _ hm]
  by_cases e : m % 2 = i ∧ m / 2 = k
  · rw [if_pos (by omega), if_neg (by omega), e.1, e.2, h]; rfl
  · congr 1
    exact propext ⟨fun q => by omega, fun q => by omega⟩
theorem Cat.lfL_eq (c : Cat) : outF c.flB 2 0 = c.lfL := by
  unfold outF Cat.lfL inter2
  rfl
theorem arr4 {b0 b1 b2 b3 : Bool} {k : Nat} (h : k < 4) : (#[Value.bool b0, .bool b1, .bool b2, .bool b3] : Array Value)[((k : Nat) : Int).toNat]? = some (.bool ([b0, b1, b2, b3].getD k false)) := by
  rw [Int.toNat_natCast]
  rcases (by omega : k = 0 ∨ k = 1 ∨ k = 2 ∨ k = 3) with rfl | rfl | rfl | rfl <;> rfl
theorem arr24 {b0 b1 b2 b3 d0 d1 d2 d3 : Bool} {i : Nat} (h : i < 2) : (#[Value.bool b0, .bool b1, .bool b2, .bool b3, .bool d0, .bool d1, .bool d2, .bool d3] : Array Value).extract (((i : Nat) : Int).toNat * 4) (((i : Nat) : Int).toNat * 4 + 4) = #[.bool ((if i = 0 then [b0, b1, b2, b3] else [d0, d1, d2, d3]).getD 0 false), .bool ((if i = 0 then [b0, b1, b2, b3] else [d0, d1, d2, d3]).getD 1 false), .bool ((if i = 0 then [b0, b1, b2, b3] else [d0, d1, d2, d3]).getD 2 false), .bool ((if i = 0 then [b0, b1, b2, b3] else [d0, d1, d2, d3]).getD 3 false)] := by
  rw [Int.toNat_natCast]
  rcases (by omega : i = 0 ∨ i = 1) with rfl | rfl <;> rfl
theorem getD4 (f : Nat → Bool) {k : Nat} (h : k < 4) : [f 0, f 1, f 2, f 3].getD k false = f k := by
  rcases (by omega : k = 0 ∨ k = 1 ∨ k = 2 ∨ k = 3) with rfl | rfl | rfl | rfl <;> rfl
theorem Cat.lfR_len (c : Cat) : (codeL (c.code []) c.lfL).length ≤ 8 := by
  unfold codeL
  split
  · unfold Cat.lfL; rw [length_inter2]; omega
  · simp
end Go.GL
namespace Go.Proofs.Ytjdedelneppnlaa
open Go Go.GL Go.RowKit Go.Proofs
set_option maxHeartbeats 4000000 in
theorem l13Squares_c {c : Cat} {p : CatP} {s : Spn} {f k : Int} {H : GHeap} (hin : c.In H p := by assumption) (hS : c.Shape := by assumption) (ha : ¬ s.alone = true) (hr : 0 ≤ f → f < c.src.length ∧ 0 ≤ k ∧ k < c.src.length) (hf : ∀ (z : Nat) (a b : Int), a ∈ c.hom z s.x → b ∈ c.hom z s.y → s.fits a b = (decide (f < 0) || decide (c.th a f = c.th b k))) :
    GCalls Try.prog 107 [.agg (c.cells p).toArray, .int .i64 s.x, .int .i64 s.y, .int .i64 f, .int .i64 k] H (NewIntssR H (c.sqL s)) := by
  have b1 := hS.n40
  have b5 := hS.obj
  refine GCalls.body (N := 77) (rs := [.tmp 10]) Try.func107 rfl rfl rfl rfl (fun Qx hret hend => ?_)
  refine .fg [0, 1, 2, 3, 4] rfl ?_
  have hle := GHeap.Le.refl H
  have base_hin := hin
  refine .seq (fun K1 hK1 => .region ?_)
  refine .R rfl (.boxR rfl sz_29_D rfl) ?_
  rintro _ H5 ⟨g5, rfl, le5, ge5, at5⟩
  have nx_H5 := le5.1
  replace hle := hle.trans le5
  have lt_at5 := GHeap.ltg at5
  replace hin := base_hin.mono hle
  have hb5 : Cat.At _ g5 0 c p := ⟨Mem.of_get at5, hin⟩
  obtain ⟨c05, c15, c25, c35, c45, i15, i25, i35, i45⟩ := hb5.get
  have hm5 : MemN _ _ _ _ _ := ⟨rfl, hb5.1⟩
  have hi5 := hb5.2
  refine .mv rfl (.nil (hK1 _ _ (.seq (fun K2 hK2 => .region ?_))))
  refine .R rfl (.litA rfl sl_23_B ze_22_E rfl rfl rfl rfl) ?_
  rintro _ H17 ⟨g17, rfl, le17, ge17, at17⟩
  have nx_H17 := le17.1
  replace hle := hle.trans le17
  replace at5 := le17.2 _ _ at5
  have lt_at17 := GHeap.ltg at17
  replace hin := base_hin.mono hle
  clear hb5 c05 c15 c25 c35 c45 i15 i25 i35 i45 hm5 hi5
  have hb5 : Cat.At _ g5 0 c p := ⟨Mem.of_get at5, hin⟩
  obtain ⟨c05, c15, c25, c35, c45, i15, i25, i35, i45⟩ := hb5.get
  have hm5 : MemN _ _ _ _ _ := ⟨rfl, hb5.1⟩
  have hi5 := hb5.2
  refine .mv rfl (.nil (hK2 _ _ (.seq (fun K3 hK3 => .seq (fun K4 hK4 => .region (.mv rfl (.nil (hK4 _ _ ?_))))))))
  refine .block ?_
  refine .loopR (σ := Nat × (Nat → Option Addr) × Nat × Nat) [(1, some _), (2, some _), (3, some _), (4, some _), (5, some _)] (fun (z, rr, gL11, nL11) => [(12, some (.int .i64 (z : Int))), (11, some (.slice (some ⟨gL11, 0, none⟩) nL11 nL11))]) (fun (z, rr, gL11, nL11) H' => St [g17] H17 H' ∧ H'.get gL11 = some (.row ((slsL rr (c.sqA s row3 z))) 22 true) ∧ (gL11 = g17 ∨ H17.next ≤ gL11) ∧ nL11 = (slsL rr (c.sqA s row3 z)).length ∧ z ≤ c.obj.toNat ∧ OwnL H.next H' 2 rr (c.sqA s row3 z)) (fun (z, rr, gL11, nL11) => c.obj.toNat - z) ((0, fun _ => none, _, _)) ⟨rfl, rfl, rfl, rfl, rfl, trivial⟩ ⟨rfl, rfl, trivial⟩ ?_ ?_
  ·
   refine ⟨.refl _ _, by first | assumption | exact at17 | simpa using at17, .inl rfl, by first | rfl | assumption | simp | omega, ?_⟩
   exact ⟨by omega, .nil _ _ _ _⟩
  rintro ⟨z, rr, gL11, nL11⟩ HL1 ⟨lst1, at_L11, pl_L11, ln_L11, hI⟩ KL1 hKL1
  refine .forget (fr' := [(12, some (.int .i64 (z : Int))), (11, some (.slice (some ⟨gL11, 0, none⟩) nL11 nL11)), (1, some _), (2, some _), (3, some _), (4, some _), (5, some _)]) ⟨rfl, rfl, rfl, rfl, rfl, rfl, rfl, trivial⟩ ?_
  have ge_L11 : H.next ≤ gL11 := by omega
  have nx_HL1 := lst1.nx
  replace hle := hle.st lst1 (fun k hk => ⟨by omega, trivial⟩)
  replace at5 := lst1.s at5
  have lt_at_L11 := GHeap.ltg at_L11
  replace hin := base_hin.mono hle
  clear hb5 c05 c15 c25 c35 c45 i15 i25 i35 i45 hm5 hi5
  have hb5 : Cat.At _ g5 0 c p := ⟨Mem.of_get at5, hin⟩
  obtain ⟨c05, c15, c25, c35, c45, i15, i25, i35, i45⟩ := hb5.get
  have hm5 : MemN _ _ _ _ _ := ⟨rfl, hb5.1⟩
  have hi5 := hb5.2
  obtain ⟨hz, hR⟩ := hI
  refine .seq (fun K5 hK5 => .seq (fun K6 hK6 => .region (.mv rfl (.q rfl (.fieldAddr fo_29_0_B rfl) ?_))))
  refine .q rfl (.load on_2_A rfl (by first | assumption | exact Mem.of_get at5 0 _ rfl)) ?_
  refine .q rfl (.cmp rfl rfl rfl) (.nil (hK6 _ _ ?_))
  refine .cond rfl (fun h21 => ?_) (fun h21 => ?_)
  ·
   simp only [sps] at h21
   have q1 := Cat.hom_le c z s.x
   have q2 := Cat.hom_le c z s.y
   refine .skip ?_
   refine hK5 _ _ (.seq (fun K7 hK7 => ?_))
   refine .block ?_
   refine .seq (fun K8 hK8 => ?_)
   refine .regionD mo_B (.q 0 (.q 1 (.q 2 (.q 4 (.q 5 (.q 6 (.c 3 1 (.c 7 0 (.q 8 (.q 9 (.done))))))))))) (by kernel_rfl) ?_
   refine .cut [(1, some _), (2, some _), (3, some _), (4, some _), (5, some _), (11, some _), (12, some _), (18, some _), (19, some _), (20, some _), (21, some _)] ⟨rfl, rfl, rfl, rfl, rfl, rfl, rfl, rfl, rfl, rfl, rfl, trivial⟩ (fun rest fr' H' => ∃ (gP : Nat) (gQ : Nat), Sub ((13, some (.slice (some ⟨gP, 0, none⟩) (c.hom z s.x).length (c.hom z s.x).length)) :: (14, some (.slice (some ⟨gQ, 0, none⟩) (c.hom z s.y).length (c.hom z s.y).length)) :: rest) fr' ∧ HL1.Le H' ∧ H'.get gP = some (.row (ints (c.hom z s.x)) 2 true) ∧ HL1.next ≤ gP ∧ H'.get gQ = some (.row (ints (c.hom z s.y)) 2 true) ∧ HL1.next ≤ gQ ∧ gP ≠ gQ) ?_ ?_
   ·
    have hf0 := St.refl [] HL1
    refine .q rfl (.loadM ag_29_D rfl ⟨rfl, Mem.of_get at5⟩) ?_
    refine .qB rfl (.refl _) (.move rfl) (.qB rfl (.refl _) (.move rfl) ?_)
    refine .q rfl (.loadM ag_29_D rfl ⟨rfl, Mem.of_get at5⟩) ?_
    refine .qB rfl (.refl _) (.move rfl) (.qB rfl (.refl _) (.move rfl) ?_)
    refine .call1 rfl rfl rfl rfl rfl @Try.call127 rfl (l02Hom_c) ?_
    rintro _ H27 ⟨le27, g27, rfl, at27, ge27⟩
    have hbl := le27
    refine ⟨hbl, ?_⟩
    have nx_H27 := le27.1
    replace hle := hle.trans le27
    replace lst1 := lst1.le le27
    replace hf0 := hf0.le le27
    replace at5 := le27.2 _ _ at5
    replace at_L11 := le27.2 _ _ at_L11
    have lt_at27 := GHeap.ltg at27
    replace hin := base_hin.mono hle
    clear hb5 c05 c15 c25 c35 c45 i15 i25 i35 i45 hm5 hi5
    have hb5 : Cat.At _ g5 0 c p := ⟨Mem.of_get at5, hin⟩
    obtain ⟨c05, c15, c25, c35, c45, i15, i25, i35, i45⟩ := hb5.get
    have hm5 : MemN _ _ _ _ _ := ⟨rfl, hb5.1⟩
    have hi5 := hb5.2
    have i27 := Ints.of_get at27
    refine .call0 rfl rfl rfl rfl rfl @Try.call127 rfl (l02Hom_c) ?_
    rintro _ H31 ⟨le31, g31, rfl, at31, ge31⟩
    have nx_H31 := le31.1
    replace hle := hle.trans le31
    replace lst1 := lst1.le le31
    replace hf0 := hf0.le le31
    replace at5 := le31.2 _ _ at5
    replace at_L11 := le31.2 _ _ at_L11
    replace at27 := le31.2 _ _ at27
    have lt_at31 := GHeap.ltg at31
    replace hin := base_hin.mono hle
    clear hb5 c05 c15 c25 c35 c45 i15 i25 i35 i45 hm5 hi5
    have hb5 : Cat.At _ g5 0 c p := ⟨Mem.of_get at5, hin⟩
    obtain ⟨c05, c15, c25, c35, c45, i15, i25, i35, i45⟩ := hb5.get
    have hm5 : MemN _ _ _ _ _ := ⟨rfl, hb5.1⟩
    have hi5 := hb5.2
    clear i27
    have i27 := Ints.of_get at27
    have i31 := Ints.of_get at31
    refine .qB rfl (.refl _) (.assign rfl) (.qB rfl (.refl _) (.assign rfl) ?_)
    refine .done ?_
    exact ⟨_, _, ⟨rfl, rfl, rfl, rfl, rfl, rfl, rfl, rfl, rfl, rfl, rfl, rfl, rfl, trivial⟩, ⟨hf0.nx, fun k o h => hf0.same k o trivial h⟩, by assumption, by omega, by assumption, by omega, by omega⟩
   rintro fr905 H905 ⟨gP1, gQ1, hsub905, le905, atP, geP, atQ, geQ, nePQ⟩
   have nx_H905 := le905.1
   replace hle := hle.trans le905
   replace lst1 := lst1.le le905
   replace at5 := le905.2 _ _ at5
   replace at_L11 := le905.2 _ _ at_L11
   have lt_atP := GHeap.ltg atP
   have lt_atQ := GHeap.ltg atQ
   replace hin := base_hin.mono hle
   clear hb5 c05 c15 c25 c35 c45 i15 i25 i35 i45 hm5 hi5
   have hb5 : Cat.At _ g5 0 c p := ⟨Mem.of_get at5, hin⟩
   obtain ⟨c05, c15, c25, c35, c45, i15, i25, i35, i45⟩ := hb5.get
   have hm5 : MemN _ _ _ _ _ := ⟨rfl, hb5.1⟩
   have hi5 := hb5.2
   refine hK8 _ _ ?_
   refine .forget hsub905 ?_
   refine .seq (fun K9 hK9 => .region (.mv rfl (.nil (hK9 _ _ ?_))))
   refine .block ?_
   have hl0 : nL11 = (slsL rr (c.sqP s row3 z 0 0)).length := by rw [Cat.sqP_zero]; assumption
   refine .loopR (σ := Nat × (Nat → Option Addr) × Nat × Nat) [(1, some _), (2, some _), (3, some _), (4, some _), (5, some _), (12, some _), (13, some _), (14, some _)] (fun (i, r2, gL11v2, nL11v2) => [(15, some (.int .i64 (i : Int))), (11, some (.slice (some ⟨gL11v2, 0, none⟩) nL11v2 nL11v2))]) (fun (i, r2, gL11v2, nL11v2) H' => St [gL11] H905 H' ∧ H'.get gL11v2 = some (.row ((slsL r2 (c.sqP s row3 z i 0))) 22 true) ∧ (gL11v2 = gL11 ∨ H905.next ≤ gL11v2) ∧ nL11v2 = (slsL r2 (c.sqP s row3 z i 0)).length ∧ i ≤ (c.hom z s.x).length ∧ OwnL H.next H' 2 r2 (c.sqP s row3 z i 0)) (fun (i, r2, gL11v2, nL11v2) => (c.hom z s.x).length - i) ((0, rr, _, _)) ⟨rfl, rfl, rfl, rfl, rfl, rfl, rfl, rfl, trivial⟩ ⟨rfl, rfl, trivial⟩ ?_ ?_
   ·
    refine ⟨.refl _ _, by first | assumption | (rw [Cat.sqP_zero]; assumption), .inl rfl, by first | rfl | assumption | simp | omega, ?_⟩
    exact ⟨by omega, by rw [Cat.sqP_zero]; exact hR.keep (.of_le le905)⟩
   rintro ⟨i, r2, gL11v2, nL11v2⟩ HL2 ⟨lst2, at_L11v2, pl_L11v2, ln_L11v2, hI⟩ KL2 hKL2
   refine .forget (fr' := [(15, some (.int .i64 (i : Int))), (11, some (.slice (some ⟨gL11v2, 0, none⟩) nL11v2 nL11v2)), (1, some _), (2, some _), (3, some _), (4, some _), (5, some _), (12, some _), (13, some _), (14, some _)]) ⟨rfl, rfl, rfl, rfl, rfl, rfl, rfl, rfl, rfl, rfl, trivial⟩ ?_
   have ge_L11v2 : H.next ≤ gL11v2 := by omega
   have nx_HL2 := lst2.nx
   replace hle := hle.st lst2 (fun k hk => ⟨by omega, trivial⟩)
   replace lst1 := lst1.sA lst2
   replace at5 := lst2.s at5
   replace atP := lst2.s atP
   replace atQ := lst2.s atQ
   have lt_at_L11v2 := GHeap.ltg at_L11v2
   replace hin := base_hin.mono hle
   clear hb5 c05 c15 c25 c35 c45 i15 i25 i35 i45 hm5 hi5
   have hb5 : Cat.At _ g5 0 c p := ⟨Mem.of_get at5, hin⟩
   obtain ⟨c05, c15, c25, c35, c45, i15, i25, i35, i45⟩ := hb5.get
   have hm5 : MemN _ _ _ _ _ := ⟨rfl, hb5.1⟩
   have hi5 := hb5.2
   obtain ⟨hi, hR⟩ := hI
   refine .seq (fun K10 hK10 => .seq (fun K11 hK11 => .region (.mv rfl (.mv rfl (.q rfl (.len sl_22_A rfl) (.q rfl (.cmp rfl rfl rfl) (.nil (hK11 _ _ ?_))))))))
   refine .cond rfl (fun h35 => ?_) (fun h35 => ?_)
   ·
    simp only [sps] at h35
    obtain ⟨u, u1, u2, u3, u4⟩ := Cat.hom_get (c := c) (x := z) (y := s.x) (i := i) (by omega)
    refine .skip ?_
    refine hK10 _ _ (.seq (fun K12 hK12 => ?_))
    refine .block ?_
    refine .seq (fun K13 hK13 => .region (.mv rfl (.nil (hK13 _ _ ?_))))
    refine .block ?_
    refine .loopR (σ := Nat × (Nat → Option Addr) × Nat × Nat) [(1, some _), (2, some _), (3, some _), (4, some _), (5, some _), (12, some _), (13, some _), (14, some _), (15, some _)] (fun (t, r3, gL11v3, nL11v3) => [(16, some (.int .i64 (t : Int))), (11, some (.slice (some ⟨gL11v3, 0, none⟩) nL11v3 nL11v3))]) (fun (t, r3, gL11v3, nL11v3) H' => St [gL11v2] HL2 H' ∧ H'.get gL11v3 = some (.row ((slsL r3 (c.sqP s row3 z i t))) 22 true) ∧ (gL11v3 = gL11v2 ∨ HL2.next ≤ gL11v3) ∧ nL11v3 = (slsL r3 (c.sqP s row3 z i t)).length ∧ t ≤ (c.hom z s.y).length ∧ OwnL H.next H' 2 r3 (c.sqP s row3 z i t)) (fun (t, r3, gL11v3, nL11v3) => (c.hom z s.y).length - t) ((0, r2, _, _)) ⟨rfl, rfl, rfl, rfl, rfl, rfl, rfl, rfl, rfl, trivial⟩ ⟨rfl, rfl, trivial⟩ ?_ ?_
    ·
     refine ⟨.refl _ _, by first | assumption | exact at_L11v2 | simpa using at_L11v2, .inl rfl, by first | rfl | assumption | simp | omega, ?_⟩
     exact ⟨by omega, hR⟩
    rintro ⟨t, r3, gL11v3, nL11v3⟩ HL3 ⟨lst3, at_L11v3, pl_L11v3, ln_L11v3, hI⟩ KL3 hKL3
    refine .forget (fr' := [(16, some (.int .i64 (t : Int))), (11, some (.slice (some ⟨gL11v3, 0, none⟩) nL11v3 nL11v3)), (1, some _), (2, some _), (3, some _), (4, some _), (5, some _), (12, some _), (13, some _), (14, some _), (15, some _)]) ⟨rfl, rfl, rfl, rfl, rfl, rfl, rfl, rfl, rfl, rfl, rfl, trivial⟩ ?_
    have ge_L11v3 : H.next ≤ gL11v3 := by omega
    have nx_HL3 := lst3.nx
    replace hle := hle.st lst3 (fun k hk => ⟨by omega, trivial⟩)
    replace lst1 := lst1.sA lst3
    replace lst2 := lst2.sA lst3
    replace at5 := lst3.s at5
    replace atP := lst3.s atP
    replace atQ := lst3.s atQ
    have lt_at_L11v3 := GHeap.ltg at_L11v3
    replace hin := base_hin.mono hle
    clear hb5 c05 c15 c25 c35 c45 i15 i25 i35 i45 hm5 hi5
    have hb5 : Cat.At _ g5 0 c p := ⟨Mem.of_get at5, hin⟩
    obtain ⟨c05, c15, c25, c35, c45, i15, i25, i35, i45⟩ := hb5.get
    have hm5 : MemN _ _ _ _ _ := ⟨rfl, hb5.1⟩
    have hi5 := hb5.2
    have rk := St.refl [gL11v3] HL3
    obtain ⟨hk, hR⟩ := hI
    have hat11 := at_L11v3
    have hfl : (slsL r3 (c.sqP s row3 z i t)).length = (c.sqP s row3 z i t).length := length_slsL _ _
    have hln := Cat.sqP_bound hS s row3 (z := z) (i := i) (k := t) (by omega) (by omega)
    refine .seq (fun K14 hK14 => .seq (fun K15 hK15 => .region (.mv rfl (.mv rfl (.q rfl (.len sl_22_A rfl) (.q rfl (.cmp rfl rfl rfl) (.nil (hK15 _ _ ?_))))))))
    refine .cond rfl (fun h41 => ?_) (fun h41 => ?_)
    ·
     simp only [sps] at h41
     obtain ⟨v, v1, v2, v3, v4⟩ := Cat.hom_get (c := c) (x := z) (y := s.y) (i := t) (by omega)
     have hfit := hf z ((c.hom z s.x).getD i 0) ((c.hom z s.y).getD t 0) (getD_mem_list (by omega)) (getD_mem_list (by omega))
     refine .skip ?_
     refine hK14 _ _ (.seq (fun K16 hK16 => ?_))
     refine .block ?_
     refine .seq (fun K17 hK17 => ?_)
     refine .regionD mo_B (.q 0 (.q 1 (.q 2 (.q 3 (.q 4 (.q 5 (.q 6 (.q 7 (.q 8 (.q 10 (.q 11 (.q 12 (.q 13 (.q 14 (.q 15 (.c 9 1 (.c 16 0 (.q 17 (.q 18 (.done)))))))))))))))))))) (by kernel_rfl) ?_
     refine .cut [(1, some _), (2, some _), (3, some _), (4, some _), (5, some _), (11, some _), (12, some _), (13, some _), (14, some _), (15, some _), (16, some _), (38, some _), (39, some _), (40, some _), (41, some _)] ⟨rfl, rfl, rfl, rfl, rfl, rfl, rfl, rfl, rfl, rfl, rfl, rfl, rfl, rfl, rfl, trivial⟩ (fun rest fr' H' => ∃ e : Bool, Sub ((62, some (.bool e)) :: rest) fr' ∧ HL3 = H' ∧ e = s.fits ((c.hom z s.x).getD i 0) ((c.hom z s.y).getD t 0)) ?_ ?_
     ·
      refine .mv rfl rfl (.q rfl (.cmp rfl rfl rfl) (.mv rfl rfl ?_))
      refine .split (fun h46 => ?_) (fun h46 => ?_)
      ·
       simp only [sps] at h46
       refine .z rfl (.z rfl (.z rfl (.z rfl (.z rfl (.z rfl (.z rfl (.z rfl (.z rfl (.z rfl (.z rfl (.z rfl (.sgc rfl rfl rfl rfl rfl rfl (.sgc rfl rfl rfl rfl rfl rfl (.z rfl (.q rfl (.pickT rfl rfl) ?_)))))))))))))))
       refine .done ?_
       refine ⟨_, ⟨rfl, rfl, rfl, rfl, rfl, rfl, rfl, rfl, rfl, rfl, rfl, rfl, rfl, rfl, rfl, rfl, trivial⟩, rfl, ?_⟩
       rw [hfit, decide_eq_true (by simpa only [sps] using h46), Bool.true_or]
      simp only [sps] at h46
      have hr1 := hr (by omega)
      refine .qg rfl (.loadM ag_29_D rfl ⟨rfl, Mem.of_get at5⟩) ?_
      refine .qg rfl (.move rfl) (.qg rfl (.move rfl) ?_)
      refine .qg rfl (.idxN sl_22_A (by first | assumption | exact SlA.of_row atP (by first | rfl | (simp; done) | (simp <;> omega))) rfl rfl (by omega)) ?_
      refine .qg rfl (.loadI on_2_A (by first | assumption | exact Ints.of_get atP) rfl (by omega)) ?_
      refine .qg rfl (.move rfl) ?_
      refine .qg rfl (.loadM ag_29_D rfl ⟨rfl, Mem.of_get at5⟩) ?_
      refine .qg rfl (.move rfl) (.qg rfl (.move rfl) ?_)
      refine .qg rfl (.idxN sl_22_A (by first | assumption | exact SlA.of_row atQ (by first | rfl | (simp; done) | (simp <;> omega))) rfl rfl (by omega)) ?_
      refine .qg rfl (.loadI on_2_A (by first | assumption | exact Ints.of_get atQ) rfl (by omega)) ?_
      refine .qg rfl (.move rfl) ?_
      refine .callQ1g rfl rfl rfl rfl rfl rfl rfl @Try.call129 rfl (l02Then_c) (.refl _) ?_
      refine .callQ0g rfl rfl rfl rfl rfl rfl rfl @Try.call129 rfl (l02Then_c) ?_
      refine .qg rfl (.cmp rfl rfl rfl) (.q rfl (.pickF rfl rfl) ?_)
      refine .done ?_
      refine ⟨_, ⟨rfl, rfl, rfl, rfl, rfl, rfl, rfl, rfl, rfl, rfl, rfl, rfl, rfl, rfl, rfl, rfl, trivial⟩, rfl, ?_⟩
      rw [hfit, decide_eq_false (by simpa only [sps] using h46), Bool.false_or]; rfl
     rintro frJ12 _ ⟨e, hsubJ12, rfl, hJ12⟩
     refine hK17 _ _ ?_
     refine .forget hsubJ12 ?_
     refine .cond rfl (fun h62 => ?_) (fun h62 => ?_)
     ·
      have hT := hJ12.symm.trans h62
      have hTT := Cat.sqP_T (f := row3) (by omega) hT
      refine .regionD mo_B (.q 0 (.q 1 (.q 2 (.q 3 (.q 4 (.q 5 (.q 6 (.q 7 (.q 8 (.q 9 (.c 10 1 (.c 11 1 (.c 12 0 (.c 13 0 (.done))))))))))))))) (by kernel_rfl) ?_
      refine .mv rfl rfl (.mv rfl rfl (.mv rfl rfl (.mv rfl rfl ?_)))
      refine .q rfl (.idxN sl_22_A (by first | assumption | exact SlA.of_row atP (by first | rfl | (simp; done) | (simp <;> omega))) rfl rfl (by omega)) ?_
      refine .q rfl (.loadI on_2_A (by first | assumption | exact Ints.of_get atP) rfl (by omega)) ?_
      refine .mv rfl rfl (.mv rfl rfl ?_)
      refine .q rfl (.idxN sl_22_A (by first | assumption | exact SlA.of_row atQ (by first | rfl | (simp; done) | (simp <;> omega))) rfl rfl (by omega)) ?_
      refine .q rfl (.loadI on_2_A (by first | assumption | exact Ints.of_get atQ) rfl (by omega)) ?_
      refine .c1 rfl rfl rfl rfl (.litA rfl sl_22_A ze_2_E rfl rfl rfl rfl) ?_
      rintro _ H73 ⟨g73, rfl, le73, ge73, at73⟩
      have hbl := le73
      refine ⟨hbl, ?_⟩
      have nx_H73 := le73.1
      replace hle := hle.trans le73
      replace lst1 := lst1.le le73
      replace lst2 := lst2.le le73
      replace lst3 := lst3.le le73
      replace rk := rk.le le73
      replace at5 := le73.2 _ _ at5
      replace atP := le73.2 _ _ atP
      replace atQ := le73.2 _ _ atQ
      replace at_L11v3 := le73.2 _ _ at_L11v3
      have lt_at73 := GHeap.ltg at73
      replace hin := base_hin.mono hle
      clear hb5 c05 c15 c25 c35 c45 i15 i25 i35 i45 hm5 hi5
      have hb5 : Cat.At _ g5 0 c p := ⟨Mem.of_get at5, hin⟩
      obtain ⟨c05, c15, c25, c35, c45, i15, i25, i35, i45⟩ := hb5.get
      have hm5 : MemN _ _ _ _ _ := ⟨rfl, hb5.1⟩
      have hi5 := hb5.2
      refine .c1 rfl rfl rfl rfl (.litA rfl sl_23_B ze_22_E rfl rfl rfl rfl) ?_
      rintro _ H74 ⟨g74, rfl, le74, ge74, at74⟩
      replace hbl := hbl.trans le74
      refine ⟨hbl, ?_⟩
      have nx_H74 := le74.1
      replace hle := hle.trans le74
      replace lst1 := lst1.le le74
      replace lst2 := lst2.le le74
      replace lst3 := lst3.le le74
      replace rk := rk.le le74
      replace at5 := le74.2 _ _ at5
      replace atP := le74.2 _ _ atP
      replace atQ := le74.2 _ _ atQ
      replace at_L11v3 := le74.2 _ _ at_L11v3
      replace at73 := le74.2 _ _ at73
      have lt_at74 := GHeap.ltg at74
      replace hin := base_hin.mono hle
      clear hb5 c05 c15 c25 c35 c45 i15 i25 i35 i45 hm5 hi5
      have hb5 : Cat.At _ g5 0 c p := ⟨Mem.of_get at5, hin⟩
      obtain ⟨c05, c15, c25, c35, c45, i15, i25, i35, i45⟩ := hb5.get
      have hm5 : MemN _ _ _ _ _ := ⟨rfl, hb5.1⟩
      have hi5 := hb5.2
      refine .c0 rfl rfl rfl rfl (.appendV rfl sl_23_B ze_22_E rfl by_22_E sl_23_B rfl rfl (by assumption) (by assumption) (by first | omega | (simp <;> omega)) rfl rfl (by omega) (by omega)) ?_
      rintro _ H75 ⟨g75, rfl, st75, ge75, at75⟩
      have nx_H75 := st75.nx
      replace hle := hle.st st75 (fun k hk => ⟨by omega, trivial⟩)
      replace lst1 := lst1.sA st75
      replace lst2 := lst2.sA st75
      replace lst3 := lst3.sA st75
      replace rk := rk.sA st75
      replace at5 := st75.s at5
      replace atP := st75.s atP
      replace atQ := st75.s atQ
      replace at73 := st75.s at73
      replace at74 := st75.s at74
      have lt_at75 := GHeap.ltg at75
      replace hin := base_hin.mono hle
      clear hb5 c05 c15 c25 c35 c45 i15 i25 i35 i45 hm5 hi5
      have hb5 : Cat.At _ g5 0 c p := ⟨Mem.of_get at5, hin⟩
      obtain ⟨c05, c15, c25, c35, c45, i15, i25, i35, i45⟩ := hb5.get
      have hm5 : MemN _ _ _ _ _ := ⟨rfl, hb5.1⟩
      have hi5 := hb5.2
      obtain ⟨rN, hrN⟩ : ∃ r, r = upd r3 (c.sqP s row3 z i t).length (some ⟨g73, 0, none⟩) := ⟨_, rfl⟩
      have hRN : OwnL H.next H75 2 rN (c.sqP s row3 z i (t + 1)) := by rw [hTT, hrN]; exact hR.snoc (x := row3 z ((c.hom z s.x).getD i 0, (c.hom z s.y).getD t 0)) (rk.lasts1 hat11 rfl) (by assumption) (by omega) (by omega)
      have hsN := slsL_snoc (r := r3) (xss := c.sqP s row3 z i t) (x := row3 z ((c.hom z s.x).getD i 0, (c.hom z s.y).getD t 0)) (a := some ⟨g73, 0, none⟩)
      rw [← hrN, ← hTT] at hsN
      have at75' : GHeap.get H75 g75 = some (.row (slsL rN (c.sqP s row3 z i (t + 1))) 22 true) := by rw [hsN]; exact at75
      have hfN : (slsL rN (c.sqP s row3 z i (t + 1))).length = (slsL r3 (c.sqP s row3 z i t)).length + 1 := by rw [hsN, List.length_append]; rfl
      refine .d0 rfl rfl rfl rfl (.quiet (.assign rfl) CIs.mk) ?_
      refine .done ?_
      refine hK16 _ _ (.region (.mv rfl ?_))
      refine .q rfl (.add rfl rfl rfl (by omega) (by omega)) ?_
      refine .mv rfl (.nil ?_)
      refine hKL3 ((t + 1, rN, _, _)) _ _ ?_ ?_ ⟨rfl, rfl, rfl, rfl, rfl, rfl, rfl, rfl, rfl, rfl, rfl, trivial⟩
      ·
       refine ⟨lst3, by first | assumption | (rw [hsN]; assumption), by omega, by first | omega | (simp only [List.length_append, List.length_cons, List.length_nil] <;> omega) | (rw [hsN] <;> (first | omega | (simp only [List.length_append, List.length_cons, List.length_nil] <;> omega))), ?_⟩
       exact ⟨by omega, hRN⟩
      (dsimp only; omega)
     have hF := hJ12.symm.trans h62
     have hFF := Cat.sqP_F (f := row3) (by omega) hF
     obtain ⟨rN, hrN⟩ : ∃ r, r = r3 := ⟨_, rfl⟩
     have hRN : OwnL H.next HL3 2 rN (c.sqP s row3 z i (t + 1)) := by rw [hrN, hFF]; exact hR
     have hsN : slsL rN (c.sqP s row3 z i (t + 1)) = slsL r3 (c.sqP s row3 z i t) := by rw [hrN, hFF]
     have hfN : (slsL rN (c.sqP s row3 z i (t + 1))).length = (slsL r3 (c.sqP s row3 z i t)).length := by rw [hsN]
     refine .skip ?_
     refine hK16 _ _ (.region (.mv rfl ?_))
     refine .q rfl (.add rfl rfl rfl (by omega) (by omega)) ?_
     refine .mv rfl (.nil ?_)
     refine hKL3 ((t + 1, rN, _, _)) _ _ ?_ ?_ ⟨rfl, rfl, rfl, rfl, rfl, rfl, rfl, rfl, rfl, rfl, rfl, trivial⟩
     ·
      refine ⟨lst3, by first | assumption | (rw [hsN]; assumption), by omega, by first | omega | (simp only [List.length_append, List.length_cons, List.length_nil] <;> omega) | (rw [hsN] <;> (first | omega | (simp only [List.length_append, List.length_cons, List.length_nil] <;> omega))), ?_⟩
      exact ⟨by omega, hRN⟩
     (dsimp only; omega)
    try simp only [sps] at h41
    refine .exit ?_
    refine hK12 _ _ (.region (.mv rfl ?_))
    refine .q rfl (.add rfl rfl rfl (by omega) (by omega)) ?_
    refine .mv rfl (.nil ?_)
    obtain rfl : t = (c.hom z s.y).length := by omega
    refine hKL2 ((i + 1, r3, _, _)) _ _ ?_ ?_ ⟨rfl, rfl, rfl, rfl, rfl, rfl, rfl, rfl, rfl, rfl, trivial⟩
    ·
     refine ⟨lst2, by first | assumption | (rw [Cat.sqP_next ha (by omega)]; assumption), by omega, by first | omega | (simp only [List.length_append, List.length_cons, List.length_nil] <;> omega) | (rw [Cat.sqP_next ha (by omega)] <;> (first | omega | (simp only [List.length_append, List.length_cons, List.length_nil] <;> omega))), ?_⟩
     exact ⟨by omega, by rw [Cat.sqP_next ha (by omega)]; exact hR⟩
    (dsimp only; omega)
   try simp only [sps] at h35
   refine .exit ?_
   refine hK7 _ _ (.region (.mv rfl ?_))
   refine .q rfl (.add rfl rfl rfl (by omega) (by omega)) ?_
   refine .mv rfl (.nil ?_)
   obtain rfl : i = (c.hom z s.x).length := by omega
   refine hKL1 ((z + 1, r2, _, _)) _ _ ?_ ?_ ⟨rfl, rfl, rfl, rfl, rfl, rfl, rfl, trivial⟩
   ·
    refine ⟨lst1, by first | assumption | (rw [← Cat.sqP_end]; assumption), by omega, by first | omega | (simp only [List.length_append, List.length_cons, List.length_nil] <;> omega) | (rw [← Cat.sqP_end] <;> (first | omega | (simp only [List.length_append, List.length_cons, List.length_nil] <;> omega))), ?_⟩
    exact ⟨by omega, by rw [← Cat.sqP_end]; exact hR⟩
   (dsimp only; omega)
  try simp only [sps] at h21
  refine .exit ?_
  refine hK3 _ _ (.seq (fun K18 hK18 => .region (.mv rfl (.mv rfl (.nil (hK18 _ _ ?_))))))
  refine .ret ?_
  refine hret _ _ ?_
  refine ⟨_, rfl, ?_⟩
  obtain rfl : z = c.obj.toNat := by omega
  rw [Cat.sqL_eq]
  exact ⟨hle, _, rr, by rw [ln_L11, length_slsL], hR.done at_L11 (by omega)⟩
set_option maxHeartbeats 4000000 in
theorem l13Forks_c {c : Cat} {p : CatP} {f k : Int} {H : GHeap} (hin : c.In H p := by assumption) (hS : c.Shape := by assumption) (hf : 0 ≤ f ∧ f < c.src.length) (hk : 0 ≤ k ∧ k < c.src.length) :
    GCalls Try.prog 91 [.agg (c.cells p).toArray, .int .i64 f, .int .i64 k] H (NewIntssR H (c.fkL (c.fork f k))) := by
  have b1 := hS.n40
  have b5 := hS.obj
  have ha : (c.fork f k).alone = true := rfl
  have hx : (c.fork f k).x = c.src.getD f.toNat 0 := rfl
  have hft : ∀ a, (c.fork f k).fits a a = decide (c.th a f = c.th a k) := fun _ => rfl
  generalize c.fork f k = s at *
  refine GCalls.body (N := 57) (rs := [.tmp 6]) Try.func91 rfl rfl rfl rfl (fun Qx hret hend => ?_)
  refine .fg [0, 1, 2] rfl ?_
  have hle := GHeap.Le.refl H
  have base_hin := hin
  refine .seq (fun K1 hK1 => .region ?_)
  refine .R rfl (.boxR rfl sz_29_D rfl) ?_
  rintro _ H3 ⟨g3, rfl, le3, ge3, at3⟩
  have nx_H3 := le3.1
  replace hle := hle.trans le3
  have lt_at3 := GHeap.ltg at3
  replace hin := base_hin.mono hle
  have hb3 : Cat.At _ g3 0 c p := ⟨Mem.of_get at3, hin⟩
  obtain ⟨c03, c13, c23, c33, c43, i13, i23, i33, i43⟩ := hb3.get
  have hm3 : MemN _ _ _ _ _ := ⟨rfl, hb3.1⟩
  have hi3 := hb3.2
  refine .mv rfl (.nil (hK1 _ _ (.seq (fun K2 hK2 => .region ?_))))
  refine .R rfl (.litA rfl sl_23_B ze_22_E rfl rfl rfl rfl) ?_
  rintro _ H11 ⟨g11, rfl, le11, ge11, at11⟩
  have nx_H11 := le11.1
  replace hle := hle.trans le11
  replace at3 := le11.2 _ _ at3
  have lt_at11 := GHeap.ltg at11
  replace hin := base_hin.mono hle
  clear hb3 c03 c13 c23 c33 c43 i13 i23 i33 i43 hm3 hi3
  have hb3 : Cat.At _ g3 0 c p := ⟨Mem.of_get at3, hin⟩
  obtain ⟨c03, c13, c23, c33, c43, i13, i23, i33, i43⟩ := hb3.get
  have hm3 : MemN _ _ _ _ _ := ⟨rfl, hb3.1⟩
  have hi3 := hb3.2
  refine .mv rfl (.nil (hK2 _ _ (.seq (fun K3 hK3 => .seq (fun K4 hK4 => .region (.mv rfl (.nil (hK4 _ _ ?_))))))))
  refine .block ?_
  refine .loopR (σ := Nat × (Nat → Option Addr) × Nat × Nat) [(1, some _), (2, some _), (3, some _)] (fun (z, rr, gL7, nL7) => [(8, some (.int .i64 (z : Int))), (7, some (.slice (some ⟨gL7, 0, none⟩) nL7 nL7))]) (fun (z, rr, gL7, nL7) H' => St [g11] H11 H' ∧ H'.get gL7 = some (.row ((slsL rr (c.sqA s row2 z))) 22 true) ∧ (gL7 = g11 ∨ H11.next ≤ gL7) ∧ nL7 = (slsL rr (c.sqA s row2 z)).length ∧ z ≤ c.obj.toNat ∧ OwnL H.next H' 2 rr (c.sqA s row2 z)) (fun (z, rr, gL7, nL7) => c.obj.toNat - z) ((0, fun _ => none, _, _)) ⟨rfl, rfl, rfl, trivial⟩ ⟨rfl, rfl, trivial⟩ ?_ ?_
  ·
   refine ⟨.refl _ _, by first | assumption | exact at11 | simpa using at11, .inl rfl, by first | rfl | assumption | simp | omega, ?_⟩
   exact ⟨by omega, .nil _ _ _ _⟩
  rintro ⟨z, rr, gL7, nL7⟩ HL1 ⟨lst1, at_L7, pl_L7, ln_L7, hI⟩ KL1 hKL1
  refine .forget (fr' := [(8, some (.int .i64 (z : Int))), (7, some (.slice (some ⟨gL7, 0, none⟩) nL7 nL7)), (1, some _), (2, some _), (3, some _)]) ⟨rfl, rfl, rfl, rfl, rfl, trivial⟩ ?_
  have ge_L7 : H.next ≤ gL7 := by omega
  have nx_HL1 := lst1.nx
  replace hle := hle.st lst1 (fun k hk => ⟨by omega, trivial⟩)
  replace at3 := lst1.s at3
  have lt_at_L7 := GHeap.ltg at_L7
  replace hin := base_hin.mono hle
  clear hb3 c03 c13 c23 c33 c43 i13 i23 i33 i43 hm3 hi3
  have hb3 : Cat.At _ g3 0 c p := ⟨Mem.of_get at3, hin⟩
  obtain ⟨c03, c13, c23, c33, c43, i13, i23, i33, i43⟩ := hb3.get
  have hm3 : MemN _ _ _ _ _ := ⟨rfl, hb3.1⟩
  have hi3 := hb3.2
  obtain ⟨hz, hR⟩ := hI
  refine .seq (fun K5 hK5 => .seq (fun K6 hK6 => .region (.mv rfl (.q rfl (.fieldAddr fo_29_0_B rfl) ?_))))
  refine .q rfl (.load on_2_A rfl (by first | assumption | exact Mem.of_get at3 0 _ rfl)) ?_
  refine .q rfl (.cmp rfl rfl rfl) (.nil (hK6 _ _ ?_))
  refine .cond rfl (fun h15 => ?_) (fun h15 => ?_)
  ·
   simp only [sps] at h15
   have q1 := Cat.hom_le c z (c.src.getD f.toNat 0)
   refine .skip ?_
   refine hK5 _ _ (.seq (fun K7 hK7 => ?_))
   refine .block ?_
   refine .seq (fun K8 hK8 => ?_)
   refine .regionD mo_B (.q 0 (.q 1 (.q 2 (.q 3 (.q 4 (.q 5 (.q 6 (.c 7 0 (.q 8 (.done)))))))))) (by kernel_rfl) ?_
   refine .q rfl (.loadM ag_29_D rfl ⟨rfl, Mem.of_get at3⟩) ?_
   refine .mv rfl rfl (.q rfl (.fieldAddr fo_29_1_B rfl) ?_)
   refine .q rfl (.load on_22_B rfl (by first | assumption | exact Mem.of_get at3 1 _ rfl)) ?_
   refine .mv rfl rfl ?_
   refine .q rfl (.idx1 sl_22_A (by assumption) rfl rfl (by omega) (by omega)) ?_
   refine .q rfl (.loadI on_2_A (by assumption) rfl (by omega)) ?_
   refine .call0 rfl rfl rfl rfl rfl @Try.call127 rfl (l02Hom_c) ?_
   rintro _ H25 ⟨le25, g25, rfl, at25, ge25⟩
   have nx_H25 := le25.1
   replace hle := hle.trans le25
   replace lst1 := lst1.le le25
   replace at3 := le25.2 _ _ at3
   replace at_L7 := le25.2 _ _ at_L7
   have lt_at25 := GHeap.ltg at25
   replace hin := base_hin.mono hle
   clear hb3 c03 c13 c23 c33 c43 i13 i23 i33 i43 hm3 hi3
   have hb3 : Cat.At _ g3 0 c p := ⟨Mem.of_get at3, hin⟩
   obtain ⟨c03, c13, c23, c33, c43, i13, i23, i33, i43⟩ := hb3.get
   have hm3 : MemN _ _ _ _ _ := ⟨rfl, hb3.1⟩
   have hi3 := hb3.2
   have i25 := Ints.of_get at25
   refine .mv rfl rfl ?_
   refine .done ?_
   refine hK8 _ _ (.seq (fun K9 hK9 => .region (.mv rfl (.nil (hK9 _ _ ?_)))))
   refine .block ?_
   have hl0 : nL7 = (slsL rr (c.sqP s row2 z 0 0)).length := by rw [Cat.sqP_zero]; assumption
   refine .loopR (σ := Nat × (Nat → Option Addr) × Nat × Nat) [(1, some _), (2, some _), (3, some _), (8, some _), (9, some _)] (fun (i, r2, gL7v2, nL7v2) => [(10, some (.int .i64 (i : Int))), (7, some (.slice (some ⟨gL7v2, 0, none⟩) nL7v2 nL7v2))]) (fun (i, r2, gL7v2, nL7v2) H' => St [gL7] H25 H' ∧ H'.get gL7v2 = some (.row ((slsL r2 (c.sqP s row2 z i 0))) 22 true) ∧ (gL7v2 = gL7 ∨ H25.next ≤ gL7v2) ∧ nL7v2 = (slsL r2 (c.sqP s row2 z i 0)).length ∧ i ≤ (c.hom z (c.src.getD f.toNat 0)).length ∧ OwnL H.next H' 2 r2 (c.sqP s row2 z i 0)) (fun (i, r2, gL7v2, nL7v2) => (c.hom z (c.src.getD f.toNat 0)).length - i) ((0, rr, _, _)) ⟨rfl, rfl, rfl, rfl, rfl, trivial⟩ ⟨rfl, rfl, trivial⟩ ?_ ?_
   ·
    refine ⟨.refl _ _, by first | assumption | (rw [Cat.sqP_zero]; assumption), .inl rfl, by first | rfl | assumption | simp | omega, ?_⟩
    exact ⟨by omega, by rw [Cat.sqP_zero]; exact hR.keep (.of_le le25)⟩
   rintro ⟨i, r2, gL7v2, nL7v2⟩ HL2 ⟨lst2, at_L7v2, pl_L7v2, ln_L7v2, hI⟩ KL2 hKL2
   refine .forget (fr' := [(10, some (.int .i64 (i : Int))), (7, some (.slice (some ⟨gL7v2, 0, none⟩) nL7v2 nL7v2)), (1, some _), (2, some _), (3, some _), (8, some _), (9, some _)]) ⟨rfl, rfl, rfl, rfl, rfl, rfl, rfl, trivial⟩ ?_
   have ge_L7v2 : H.next ≤ gL7v2 := by omega
   have nx_HL2 := lst2.nx
   replace hle := hle.st lst2 (fun k hk => ⟨by omega, trivial⟩)
   replace lst1 := lst1.sA lst2
   replace at3 := lst2.s at3
   replace at25 := lst2.s at25
   have lt_at_L7v2 := GHeap.ltg at_L7v2
   replace hin := base_hin.mono hle
   clear hb3 c03 c13 c23 c33 c43 i13 i23 i33 i43 hm3 hi3
   have hb3 : Cat.At _ g3 0 c p := ⟨Mem.of_get at3, hin⟩
   obtain ⟨c03, c13, c23, c33, c43, i13, i23, i33, i43⟩ := hb3.get
   have hm3 : MemN _ _ _ _ _ := ⟨rfl, hb3.1⟩
   have hi3 := hb3.2
   clear i25
   have i25 := Ints.of_get at25
   have rk := St.refl [gL7v2] HL2
   obtain ⟨hi, hR⟩ := hI
   have hat7 := at_L7v2
   have hfl : (slsL r2 (c.sqP s row2 z i 0)).length = (c.sqP s row2 z i 0).length := length_slsL _ _
   have hln := Cat.sqP_bound hS s row2 (z := z) (i := i) (k := 0) (by omega) (by rw [hx]; exact hi)
   refine .seq (fun K10 hK10 => .seq (fun K11 hK11 => .region (.mv rfl (.mv rfl (.q rfl (.len sl_22_A rfl) (.q rfl (.cmp rfl rfl rfl) (.nil (hK11 _ _ ?_))))))))
   refine .cond rfl (fun h29 => ?_) (fun h29 => ?_)
   ·
    simp only [sps] at h29
    obtain ⟨u, u1, u2, u3, u4⟩ := Cat.hom_get (c := c) (x := z) (y := c.src.getD f.toNat 0) (i := i) (by omega)
    refine .skip ?_
    refine hK10 _ _ (.seq (fun K12 hK12 => ?_))
    refine .block ?_
    refine .seq (fun K13 hK13 => ?_)
    refine .regionD mo_B (.q 0 (.q 1 (.q 2 (.q 3 (.q 4 (.q 5 (.q 7 (.q 8 (.q 9 (.q 10 (.q 11 (.q 12 (.c 6 1 (.c 13 0 (.q 14 (.done)))))))))))))))) (by kernel_rfl) ?_
    refine .q rfl (.loadM ag_29_D rfl ⟨rfl, Mem.of_get at3⟩) ?_
    refine .mv rfl rfl (.mv rfl rfl ?_)
    refine .q rfl (.idxN sl_22_A (by first | assumption | exact SlA.of_row at25 (by first | rfl | (simp; done) | (simp <;> omega))) rfl rfl (by omega)) ?_
    refine .q rfl (.loadI on_2_A (by first | assumption | exact Ints.of_get at25) rfl (by omega)) ?_
    refine .mv rfl rfl ?_
    refine .q rfl (.loadM ag_29_D rfl ⟨rfl, Mem.of_get at3⟩) ?_
    refine .mv rfl rfl (.mv rfl rfl ?_)
    refine .q rfl (.idxN sl_22_A (by first | assumption | exact SlA.of_row at25 (by first | rfl | (simp; done) | (simp <;> omega))) rfl rfl (by omega)) ?_
    refine .q rfl (.loadI on_2_A (by first | assumption | exact Ints.of_get at25) rfl (by omega)) ?_
    refine .mv rfl rfl ?_
    refine .callQ1 rfl rfl rfl rfl rfl @Try.call129 rfl (l02Then_c) (.refl _) ?_
    refine .callQ0 rfl rfl rfl rfl rfl @Try.call129 rfl (l02Then_c) ?_
    refine .q rfl (.cmp rfl rfl rfl) ?_
    refine .done ?_
    refine hK13 _ _ ?_
    refine .cond rfl (fun h46 => ?_) (fun h46 => ?_)
    ·
     simp only [sps] at h46
     have hTT : c.sqP s row2 z (i + 1) 0 = c.sqP s row2 z i 0 ++ [row2 z ((c.hom z (c.src.getD f.toNat 0)).getD i 0, (c.hom z (c.src.getD f.toNat 0)).getD i 0)] := by
       have := Cat.sqP_aT (f := row2) (c := c) (s := s) (z := z) (k := i) ha (by rw [hx]; omega) (by rw [hx, hft]; exact decide_eq_true h46)
       rw [hx] at this; exact this
     refine .region (.mv rfl (.mv rfl (.mv rfl (.mv rfl ?_))))
     refine .q rfl (.idxN sl_22_A (by first | assumption | exact SlA.of_row at25 (by first | rfl | (simp; done) | (simp <;> omega))) rfl rfl (by omega)) ?_
     refine .q rfl (.loadI on_2_A (by first | assumption | exact Ints.of_get at25) rfl (by omega)) ?_
     refine .R rfl (.litA rfl sl_22_A ze_2_E rfl rfl rfl rfl) ?_
     rintro _ H53 ⟨g53, rfl, le53, ge53, at53⟩
     have nx_H53 := le53.1
     replace hle := hle.trans le53
     replace lst1 := lst1.le le53
     replace lst2 := lst2.le le53
     replace rk := rk.le le53
     replace at3 := le53.2 _ _ at3
     replace at25 := le53.2 _ _ at25
     replace at_L7v2 := le53.2 _ _ at_L7v2
     have lt_at53 := GHeap.ltg at53
     replace hin := base_hin.mono hle
     clear hb3 c03 c13 c23 c33 c43 i13 i23 i33 i43 hm3 hi3
     have hb3 : Cat.At _ g3 0 c p := ⟨Mem.of_get at3, hin⟩
     obtain ⟨c03, c13, c23, c33, c43, i13, i23, i33, i43⟩ := hb3.get
     have hm3 : MemN _ _ _ _ _ := ⟨rfl, hb3.1⟩
     have hi3 := hb3.2
     clear i25
     have i25 := Ints.of_get at25
     refine .R rfl (.litA rfl sl_23_B ze_22_E rfl rfl rfl rfl) ?_
     rintro _ H54 ⟨g54, rfl, le54, ge54, at54⟩
     have nx_H54 := le54.1
     replace hle := hle.trans le54
     replace lst1 := lst1.le le54
     replace lst2 := lst2.le le54
     replace rk := rk.le le54
     replace at3 := le54.2 _ _ at3
     replace at25 := le54.2 _ _ at25
     replace at_L7v2 := le54.2 _ _ at_L7v2
     replace at53 := le54.2 _ _ at53
     have lt_at54 := GHeap.ltg at54
     replace hin := base_hin.mono hle
     clear hb3 c03 c13 c23 c33 c43 i13 i23 i33 i43 hm3 hi3
     have hb3 : Cat.At _ g3 0 c p := ⟨Mem.of_get at3, hin⟩
     obtain ⟨c03, c13, c23, c33, c43, i13, i23, i33, i43⟩ := hb3.get
     have hm3 : MemN _ _ _ _ _ := ⟨rfl, hb3.1⟩
     have hi3 := hb3.2
     clear i25
     have i25 := Ints.of_get at25
     refine .R rfl (.appendV rfl sl_23_B ze_22_E rfl by_22_E sl_23_B rfl rfl (by assumption) (by assumption) (by first | omega | (simp <;> omega)) rfl rfl (by omega) (by omega)) ?_
     rintro _ H55 ⟨g55, rfl, st55, ge55, at55⟩
     have nx_H55 := st55.nx
     replace hle := hle.st st55 (fun k hk => ⟨by omega, trivial⟩)
     replace lst1 := lst1.sA st55
     replace lst2 := lst2.sA st55
     replace rk := rk.sA st55
     replace at3 := st55.s at3
     replace at25 := st55.s at25
     replace at53 := st55.s at53
     replace at54 := st55.s at54
     have lt_at55 := GHeap.ltg at55
     replace hin := base_hin.mono hle
     clear hb3 c03 c13 c23 c33 c43 i13 i23 i33 i43 hm3 hi3
     have hb3 : Cat.At _ g3 0 c p := ⟨Mem.of_get at3, hin⟩
     obtain ⟨c03, c13, c23, c33, c43, i13, i23, i33, i43⟩ := hb3.get
     have hm3 : MemN _ _ _ _ _ := ⟨rfl, hb3.1⟩
     have hi3 := hb3.2
     clear i25
     have i25 := Ints.of_get at25
     obtain ⟨rN, hrN⟩ : ∃ r, r = upd r2 (c.sqP s row2 z i 0).length (some ⟨g53, 0, none⟩) := ⟨_, rfl⟩
     have hRN : OwnL H.next H55 2 rN (c.sqP s row2 z (i + 1) 0) := by rw [hTT, hrN]; exact hR.snoc (x := row2 z (_, _)) (rk.lasts1 hat7 rfl) at53 (by omega) (by omega)
     have hsN := slsL_snoc (r := r2) (xss := c.sqP s row2 z i 0) (x := row2 z ((c.hom z (c.src.getD f.toNat 0)).getD i 0, (c.hom z (c.src.getD f.toNat 0)).getD i 0)) (a := some ⟨g53, 0, none⟩)
     rw [← hrN, ← hTT] at hsN
     have at55' : GHeap.get H55 g55 = some (.row (slsL rN (c.sqP s row2 z (i + 1) 0)) 22 true) := by rw [hsN]; exact at55
     have hfN : (slsL rN (c.sqP s row2 z (i + 1) 0)).length = (slsL r2 (c.sqP s row2 z i 0)).length + 1 := by rw [hsN, List.length_append]; rfl
     refine .mv rfl (.nil (hK12 _ _ (.region (.mv rfl ?_))))
     refine .q rfl (.add rfl rfl rfl (by omega) (by omega)) ?_
     refine .mv rfl (.nil ?_)
     refine hKL2 ((i + 1, rN, _, _)) _ _ ?_ ?_ ⟨rfl, rfl, rfl, rfl, rfl, rfl, rfl, trivial⟩
     ·
      refine ⟨lst2, by first | assumption | (rw [hsN]; assumption), by omega, by first | omega | (simp only [List.length_append, List.length_cons, List.length_nil] <;> omega) | (rw [hsN] <;> (first | omega | (simp only [List.length_append, List.length_cons, List.length_nil] <;> omega))), ?_⟩
      exact ⟨by omega, hRN⟩
     (dsimp only; omega)
    simp only [sps] at h46
    have hFF := Cat.sqP_aF (f := row2) (c := c) (s := s) (z := z) (k := i) ha (by rw [hx]; omega) (by rw [hx, hft]; exact decide_eq_false h46)
    obtain ⟨rN, hrN⟩ : ∃ r, r = r2 := ⟨_, rfl⟩
    have hRN : OwnL H.next HL2 2 rN (c.sqP s row2 z (i + 1) 0) := by rw [hrN, hFF]; exact hR
    have hsN : slsL rN (c.sqP s row2 z (i + 1) 0) = slsL r2 (c.sqP s row2 z i 0) := by rw [hrN, hFF]
    have hfN : (slsL rN (c.sqP s row2 z (i + 1) 0)).length = (slsL r2 (c.sqP s row2 z i 0)).length := by rw [hsN]
    refine .skip ?_
    refine hK12 _ _ (.region (.mv rfl ?_))
    refine .q rfl (.add rfl rfl rfl (by omega) (by omega)) ?_
    refine .mv rfl (.nil ?_)
    refine hKL2 ((i + 1, rN, _, _)) _ _ ?_ ?_ ⟨rfl, rfl, rfl, rfl, rfl, rfl, rfl, trivial⟩
    ·
     refine ⟨lst2, by first | assumption | (rw [hsN]; assumption), by omega, by first | omega | (simp only [List.length_append, List.length_cons, List.length_nil] <;> omega) | (rw [hsN] <;> (first | omega | (simp only [List.length_append, List.length_cons, List.length_nil] <;> omega))), ?_⟩
     exact ⟨by omega, hRN⟩
    (dsimp only; omega)
   try simp only [sps] at h29
   refine .exit ?_
   refine hK7 _ _ (.region (.mv rfl ?_))
   refine .q rfl (.add rfl rfl rfl (by omega) (by omega)) ?_
   refine .mv rfl (.nil ?_)
   obtain rfl : i = (c.hom z s.x).length := by rw [hx]; omega
   refine hKL1 ((z + 1, r2, _, _)) _ _ ?_ ?_ ⟨rfl, rfl, rfl, rfl, rfl, trivial⟩
   ·
    refine ⟨lst1, by first | assumption | (rw [← Cat.sqP_end]; assumption), by omega, by first | omega | (simp only [List.length_append, List.length_cons, List.length_nil] <;> omega) | (rw [← Cat.sqP_end] <;> (first | omega | (simp only [List.length_append, List.length_cons, List.length_nil] <;> omega))), ?_⟩
    exact ⟨by omega, by rw [← Cat.sqP_end]; exact hR⟩
   (dsimp only; omega)
  try simp only [sps] at h15
  refine .exit ?_
  refine hK3 _ _ (.seq (fun K14 hK14 => .region (.mv rfl (.mv rfl (.nil (hK14 _ _ ?_))))))
  refine .ret ?_
  refine hret _ _ ?_
  refine ⟨_, rfl, ?_⟩
  obtain rfl : z = c.obj.toNat := by omega
  rw [Cat.fkL_eq]
  exact ⟨hle, _, rr, by rw [ln_L7, length_slsL], hR.done at_L7 (by omega)⟩
theorem l13Product_c {c : Cat} {p : CatP} {x y : Int} {H : GHeap} (hin : c.In H p := by assumption) (hS : c.Shape := by assumption) :
    GCalls Try.prog 59 [.agg (c.cells p).toArray, .int .i64 x, .int .i64 y] H (fun v H' => H.Le H' ∧ ∃ a, v = .slice a (c.fstL (.prod x y)).length (c.fstL (.prod x y)).length ∧ Ints H' a (c.fstL (.prod x y))) := by
  have hob := hS.obj
  refine GCalls.body (N := 13) (rs := [.tmp 6]) Try.func59 rfl rfl rfl rfl (fun Qx hret hend => ?_)
  refine .fg [0, 1, 2] rfl ?_
  have hle := GHeap.Le.refl H
  have base_hin := hin
  refine .seq (fun K1 hK1 => .region ?_)
  refine .R rfl (.boxR rfl sz_29_D rfl) ?_
  rintro _ H3 ⟨g3, rfl, le3, ge3, at3⟩
  have nx_H3 := le3.1
  replace hle := hle.trans le3
  have lt_at3 := GHeap.ltg at3
  replace hin := base_hin.mono hle
  have hb3 : Cat.At _ g3 0 c p := ⟨Mem.of_get at3, hin⟩
  obtain ⟨c03, c13, c23, c33, c43, i13, i23, i33, i43⟩ := hb3.get
  have hm3 : MemN _ _ _ _ _ := ⟨rfl, hb3.1⟩
  have hi3 := hb3.2
  refine .mv rfl (.nil (hK1 _ _ (.seq (fun K2 hK2 => ?_))))
  refine .regionD mo_B (.q 0 (.q 1 (.q 2 (.q 3 (.c 4 1 (.c 5 0 (.q 6 (.done)))))))) (by kernel_rfl) ?_
  refine .q rfl (.loadM ag_29_D rfl ⟨rfl, Mem.of_get at3⟩) ?_
  refine .q rfl (.loadM ag_29_D rfl ⟨rfl, Mem.of_get at3⟩) ?_
  refine .mv rfl rfl (.mv rfl rfl ?_)
  refine .call1 rfl rfl rfl rfl rfl @Try.call107 rfl (l13Squares_c (s := .prod x y) (ha := Bool.false_ne_true) (hr := by omega) (hf := fun _ _ _ _ _ => rfl)) ?_
  rintro _ H11 ⟨le11, a11, r11, rfl, v11⟩
  have hbl := le11
  refine ⟨hbl, ?_⟩
  have nx_H11 := le11.1
  replace hle := hle.trans le11
  replace at3 := le11.2 _ _ at3
  have bs_v11 := v11
  have lv_v11 : Keep H3.next H11 H11 := fun _ _ _ h => h
  replace hin := base_hin.mono hle
  clear hb3 c03 c13 c23 c33 c43 i13 i23 i33 i43 hm3 hi3
  have hb3 : Cat.At _ g3 0 c p := ⟨Mem.of_get at3, hin⟩
  obtain ⟨c03, c13, c23, c33, c43, i13, i23, i33, i43⟩ := hb3.get
  have hm3 : MemN _ _ _ _ _ := ⟨rfl, hb3.1⟩
  have hi3 := hb3.2
  have i11 := v11.intss
  refine .call0 rfl rfl rfl rfl rfl @Try.call90 rfl (l13First_c (hL := i11) (hl := by have := Cat.sqA_bound8 hS (.prod x y) row3 (z := c.obj.toNat) (by omega); rw [Cat.sqL_eq]; omega) (m := 3) (hm := by omega) (hr := Cat.sqL_ok Bool.false_ne_true)) ?_
  rintro _ H12 ⟨le12, a12, rfl, i12⟩
  have nx_H12 := le12.1
  replace hle := hle.trans le12
  replace at3 := le12.2 _ _ at3
  replace lv_v11 := Keep.le lv_v11 le12
  replace v11 := bs_v11.keep lv_v11 (Nat.le_refl _)
  replace hin := base_hin.mono hle
  clear hb3 c03 c13 c23 c33 c43 i13 i23 i33 i43 hm3 hi3
  have hb3 : Cat.At _ g3 0 c p := ⟨Mem.of_get at3, hin⟩
  obtain ⟨c03, c13, c23, c33, c43, i13, i23, i33, i43⟩ := hb3.get
  have hm3 : MemN _ _ _ _ _ := ⟨rfl, hb3.1⟩
  have hi3 := hb3.2
  clear i11
  have i11 := v11.intss
  refine .mv rfl rfl ?_
  refine .done ?_
  refine hK2 _ _ ?_
  refine .ret ?_
  refine hret _ _ ?_
  refine ⟨_, rfl, ?_⟩
  exact ⟨hle, _, rfl, i12⟩
theorem l13Pullback_c {c : Cat} {p : CatP} {f k : Int} {H : GHeap} (hin : c.In H p := by assumption) (hS : c.Shape := by assumption) (hf : 0 ≤ f ∧ f < c.src.length) (hk : 0 ≤ k ∧ k < c.src.length) :
    GCalls Try.prog 68 [.agg (c.cells p).toArray, .int .i64 f, .int .i64 k] H (fun v H' => H.Le H' ∧ ∃ a, v = .slice a (c.fstL (c.pull f k)).length (c.fstL (c.pull f k)).length ∧ Ints H' a (c.fstL (c.pull f k))) := by
  have hob := hS.obj
  refine GCalls.body (N := 23) (rs := [.tmp 6]) Try.func68 rfl rfl rfl rfl (fun Qx hret hend => ?_)
  refine .fg [0, 1, 2] rfl ?_
  have hle := GHeap.Le.refl H
  have base_hin := hin
  refine .seq (fun K1 hK1 => .region ?_)
  refine .R rfl (.boxR rfl sz_29_D rfl) ?_
  rintro _ H3 ⟨g3, rfl, le3, ge3, at3⟩
  have nx_H3 := le3.1
  replace hle := hle.trans le3
  have lt_at3 := GHeap.ltg at3
  replace hin := base_hin.mono hle
  have hb3 : Cat.At _ g3 0 c p := ⟨Mem.of_get at3, hin⟩
  obtain ⟨c03, c13, c23, c33, c43, i13, i23, i33, i43⟩ := hb3.get
  have hm3 : MemN _ _ _ _ _ := ⟨rfl, hb3.1⟩
  have hi3 := hb3.2
  refine .mv rfl (.nil (hK1 _ _ (.seq (fun K2 hK2 => ?_))))
  refine .regionD mo_B (.q 0 (.q 1 (.q 2 (.q 3 (.q 4 (.q 5 (.q 6 (.q 7 (.q 8 (.q 9 (.q 10 (.q 11 (.q 12 (.q 13 (.c 14 1 (.c 15 0 (.q 16 (.done)))))))))))))))))) (by kernel_rfl) ?_
  refine .q rfl (.loadM ag_29_D rfl ⟨rfl, Mem.of_get at3⟩) ?_
  refine .q rfl (.loadM ag_29_D rfl ⟨rfl, Mem.of_get at3⟩) ?_
  refine .q rfl (.fieldAddr fo_29_1_B rfl) ?_
  refine .q rfl (.load on_22_B rfl (by first | assumption | exact Mem.of_get at3 1 _ rfl)) ?_
  refine .mv rfl rfl ?_
  refine .q rfl (.idx1 sl_22_A (by assumption) rfl rfl (by omega) (by omega)) ?_
  refine .q rfl (.loadI on_2_A (by assumption) rfl (by omega)) ?_
  refine .q rfl (.fieldAddr fo_29_1_B rfl) ?_
  refine .q rfl (.load on_22_B rfl (by first | assumption | exact Mem.of_get at3 1 _ rfl)) ?_
  refine .mv rfl rfl ?_
  refine .q rfl (.idx1 sl_22_A (by assumption) rfl rfl (by omega) (by omega)) ?_
  refine .q rfl (.loadI on_2_A (by assumption) rfl (by omega)) ?_
  refine .mv rfl rfl (.mv rfl rfl ?_)
  refine .call1 rfl rfl rfl rfl rfl @Try.call107 rfl (l13Squares_c (s := c.pull f k) (ha := Bool.false_ne_true) (hr := fun _ => by omega) (hf := fun _ a b _ _ => by rw [decide_eq_false (by omega : ¬ f < 0), Bool.false_or]; rfl)) ?_
  rintro _ H21 ⟨le21, a21, r21, rfl, v21⟩
  have hbl := le21
  refine ⟨hbl, ?_⟩
  have nx_H21 := le21.1
  replace hle := hle.trans le21
  replace at3 := le21.2 _ _ at3
  have bs_v21 := v21
  have lv_v21 : Keep H3.next H21 H21 := fun _ _ _ h => h
  replace hin := base_hin.mono hle
  clear hb3 c03 c13 c23 c33 c43 i13 i23 i33 i43 hm3 hi3
  have hb3 : Cat.At _ g3 0 c p := ⟨Mem.of_get at3, hin⟩
  obtain ⟨c03, c13, c23, c33, c43, i13, i23, i33, i43⟩ := hb3.get
  have hm3 : MemN _ _ _ _ _ := ⟨rfl, hb3.1⟩
  have hi3 := hb3.2
  have i21 := v21.intss
  refine .call0 rfl rfl rfl rfl rfl @Try.call90 rfl (l13First_c (hL := i21) (hl := by have := Cat.sqA_bound8 hS (c.pull f k) row3 (z := c.obj.toNat) (by omega); rw [Cat.sqL_eq]; omega) (m := 3) (hm := by omega) (hr := Cat.sqL_ok Bool.false_ne_true)) ?_
  rintro _ H22 ⟨le22, a22, rfl, i22⟩
  have nx_H22 := le22.1
  replace hle := hle.trans le22
  replace at3 := le22.2 _ _ at3
  replace lv_v21 := Keep.le lv_v21 le22
  replace v21 := bs_v21.keep lv_v21 (Nat.le_refl _)
  replace hin := base_hin.mono hle
  clear hb3 c03 c13 c23 c33 c43 i13 i23 i33 i43 hm3 hi3
  have hb3 : Cat.At _ g3 0 c p := ⟨Mem.of_get at3, hin⟩
  obtain ⟨c03, c13, c23, c33, c43, i13, i23, i33, i43⟩ := hb3.get
  have hm3 : MemN _ _ _ _ _ := ⟨rfl, hb3.1⟩
  have hi3 := hb3.2
  clear i21
  have i21 := v21.intss
  refine .mv rfl rfl ?_
  refine .done ?_
  refine hK2 _ _ ?_
  refine .ret ?_
  refine hret _ _ ?_
  refine ⟨_, rfl, ?_⟩
  exact ⟨hle, _, rfl, i22⟩
end Go.Proofs.Ytjdedelneppnlaa
namespace Go.Proofs.Ytjdedelneppnlaa
open Go Go.GL Go.RowKit Go.Proofs
set_option maxHeartbeats 4000000 in
theorem l13Has_c {c : Cat} {p : CatP} {H : GHeap} (hin : c.In H p := by assumption) (hS : c.Shape := by assumption) :
    GCalls Try.prog 42 [.agg (c.cells p).toArray] H (NewInts 2 H c.hasL) := by
  have b1 := hS.n40
  have b2 := hS.tl
  have b5 := hS.obj
  refine GCalls.body (N := 106) (rs := [.tmp 2]) Try.func42 rfl rfl rfl rfl (fun Qx hret hend => ?_)
  refine .fg [0] rfl ?_
  have hle := GHeap.Le.refl H
  have base_hin := hin
  refine .seq (fun K1 hK1 => .region ?_)
  refine .R rfl (.boxR rfl sz_29_D rfl) ?_
  rintro _ H1 ⟨g1, rfl, le1, ge1, at1⟩
  have nx_H1 := le1.1
  replace hle := hle.trans le1
  have lt_at1 := GHeap.ltg at1
  replace hin := base_hin.mono hle
  have hb1 : Cat.At _ g1 0 c p := ⟨Mem.of_get at1, hin⟩
  obtain ⟨c01, c11, c21, c31, c41, i11, i21, i31, i41⟩ := hb1.get
  have hm1 : MemN _ _ _ _ _ := ⟨rfl, hb1.1⟩
  have hi1 := hb1.2
  refine .mv rfl (.nil (hK1 _ _ (.seq (fun K2 hK2 => .region ?_))))
  refine .R rfl (.litA rfl sl_22_A ze_2_E rfl rfl rfl rfl) ?_
  rintro _ H8 ⟨g8, rfl, le8, ge8, at8⟩
  have nx_H8 := le8.1
  replace hle := hle.trans le8
  replace at1 := le8.2 _ _ at1
  have lt_at8 := GHeap.ltg at8
  replace hin := base_hin.mono hle
  clear hb1 c01 c11 c21 c31 c41 i11 i21 i31 i41 hm1 hi1
  have hb1 : Cat.At _ g1 0 c p := ⟨Mem.of_get at1, hin⟩
  obtain ⟨c01, c11, c21, c31, c41, i11, i21, i31, i41⟩ := hb1.get
  have hm1 : MemN _ _ _ _ _ := ⟨rfl, hb1.1⟩
  have hi1 := hb1.2
  replace at8 : GHeap.get H8 g8 = some (.row (ints [0, 1, 1, 1]) 2 true) := at8
  refine .mv rfl (.nil (hK2 _ _ ?_))
  refine .seqM (rest := [(1, some _), (3, some _)]) (M := fun rest fr' H' =>  Sub rest fr' ∧ St [g8] H8 H' ∧ H'.get g8 = some (.row (ints [bit (B (c.term ≠ [])), bit true, 1, 1]) 2 true)) ⟨rfl, rfl, trivial⟩ ?_ ?_
  ·
   rintro fr804 H804 ⟨hsub804, st804, at804⟩
   have nx_H804 := st804.nx
   replace hle := hle.st st804 (fun k hk => ⟨by omega, trivial⟩)
   have ne_g1_g8 : NE g1 g8 := .a
   replace at1 := st804.s at1 ne_g1_g8.ne
   have lt_at804 := GHeap.ltg at804
   replace hin := base_hin.mono hle
   clear hb1 c01 c11 c21 c31 c41 i11 i21 i31 i41 hm1 hi1
   have hb1 : Cat.At _ g1 0 c p := ⟨Mem.of_get at1, hin⟩
   obtain ⟨c01, c11, c21, c31, c41, i11, i21, i31, i41⟩ := hb1.get
   have hm1 : MemN _ _ _ _ _ := ⟨rfl, hb1.1⟩
   have hi1 := hb1.2
   refine .forget hsub804 ?_
   refine .seq (fun K3 hK3 => .seq (fun K4 hK4 => .region (.mv rfl (.nil (hK4 _ _ ?_)))))
   refine .block ?_
   refine .loopR (σ := Nat × Bool) [(1, some _), (3, some _)] (fun (x, e) => [(4, some (.int .i64 (x : Int)))]) (fun (x, e) H' => St [g8] H804 H' ∧ H'.get g8 = some (.row (ints [bit (B (c.term ≠ [])), bit e, 1, 1]) 2 true) ∧ x ≤ c.obj.toNat ∧ (e = true ↔ Bef c.obj.toNat x x c.Q1)) (fun (x, e) => c.obj.toNat - x) ((0, true)) ⟨rfl, rfl, trivial⟩ ⟨rfl, trivial⟩ ?_ ?_
   ·
    refine ⟨.refl _ _, by first | assumption | exact at804 | simpa using at804, ?_⟩
    exact ⟨by omega, fun _ => .zero _ _, fun _ => rfl⟩
   rintro ⟨x, e⟩ HL1 ⟨lst1, at_L3, hI⟩ KL1 hKL1
   refine .forget (fr' := [(4, some (.int .i64 (x : Int))), (1, some _), (3, some _)]) ⟨rfl, rfl, rfl, trivial⟩ ?_
   have nx_HL1 := lst1.nx
   replace hle := hle.st lst1 (fun k hk => ⟨by omega, trivial⟩)
   replace at1 := lst1.s at1 ne_g1_g8.ne
   have lt_at_L3 := GHeap.ltg at_L3
   replace hin := base_hin.mono hle
   clear hb1 c01 c11 c21 c31 c41 i11 i21 i31 i41 hm1 hi1
   have hb1 : Cat.At _ g1 0 c p := ⟨Mem.of_get at1, hin⟩
   obtain ⟨c01, c11, c21, c31, c41, i11, i21, i31, i41⟩ := hb1.get
   have hm1 : MemN _ _ _ _ _ := ⟨rfl, hb1.1⟩
   have hi1 := hb1.2
   obtain ⟨hx, he⟩ := hI
   refine .seq (fun K5 hK5 => .seq (fun K6 hK6 => .region (.mv rfl (.q rfl (.fieldAddr fo_29_0_B rfl) ?_))))
   refine .q rfl (.load on_2_A rfl (by first | assumption | exact Mem.of_get at1 0 _ rfl)) ?_
   refine .q rfl (.cmp rfl rfl rfl) (.nil (hK6 _ _ ?_))
   refine .cond rfl (fun h18 => ?_) (fun h18 => ?_)
   ·
    simp only [sps] at h18
    refine .skip ?_
    refine hK5 _ _ (.seq (fun K7 hK7 => ?_))
    refine .block ?_
    refine .seq (fun K8 hK8 => .region (.mv rfl (.mv rfl (.nil (hK8 _ _ ?_)))))
    refine .block ?_
    refine .loopR (σ := Nat × Bool) [(1, some _), (3, some _), (4, some _)] (fun (y, e') => [(5, some (.int .i64 (y : Int)))]) (fun (y, e') H' => St [g8] HL1 H' ∧ H'.get g8 = some (.row (ints [bit (B (c.term ≠ [])), bit e', 1, 1]) 2 true) ∧ (x ≤ y ∧ y ≤ c.obj.toNat) ∧ (e' = true ↔ Bef c.obj.toNat x y c.Q1)) (fun (y, e') => c.obj.toNat - y) ((x, e)) ⟨rfl, rfl, rfl, trivial⟩ ⟨rfl, trivial⟩ ?_ ?_
    ·
     refine ⟨.refl _ _, by first | assumption | exact at_L3 | simpa using at_L3, ?_⟩
     exact ⟨by omega, he⟩
    rintro ⟨y, e'⟩ HL2 ⟨lst2, at_L3, hI⟩ KL2 hKL2
    refine .forget (fr' := [(5, some (.int .i64 (y : Int))), (1, some _), (3, some _), (4, some _)]) ⟨rfl, rfl, rfl, rfl, trivial⟩ ?_
    have nx_HL2 := lst2.nx
    replace hle := hle.st lst2 (fun k hk => ⟨by omega, trivial⟩)
    replace lst1 := lst1.sA lst2
    replace at1 := lst2.s at1 ne_g1_g8.ne
    have lt_at_L3 := GHeap.ltg at_L3
    replace hin := base_hin.mono hle
    clear hb1 c01 c11 c21 c31 c41 i11 i21 i31 i41 hm1 hi1
    have hb1 : Cat.At _ g1 0 c p := ⟨Mem.of_get at1, hin⟩
    obtain ⟨c01, c11, c21, c31, c41, i11, i21, i31, i41⟩ := hb1.get
    have hm1 : MemN _ _ _ _ _ := ⟨rfl, hb1.1⟩
    have hi1 := hb1.2
    obtain ⟨hy, he'⟩ := hI
    refine .seq (fun K9 hK9 => .seq (fun K10 hK10 => .region (.mv rfl (.q rfl (.fieldAddr fo_29_0_B rfl) ?_))))
    refine .q rfl (.load on_2_A rfl (by first | assumption | exact Mem.of_get at1 0 _ rfl)) ?_
    refine .q rfl (.cmp rfl rfl rfl) (.nil (hK10 _ _ ?_))
    refine .cond rfl (fun h25 => ?_) (fun h25 => ?_)
    ·
     simp only [sps] at h25
     refine .skip ?_
     refine hK9 _ _ (.seq (fun K11 hK11 => ?_))
     refine .block ?_
     refine .seq (fun K12 hK12 => .region ?_)
     refine .q rfl (.loadM ag_29_D rfl ⟨rfl, Mem.of_get at1⟩) ?_
     refine .mv rfl (.mv rfl ?_)
     refine .call rfl rfl rfl rfl @Try.call59 rfl (l13Product_c) ?_
     rintro _ H31 ⟨le31, a31, rfl, i31⟩
     have nx_H31 := le31.1
     replace hle := hle.trans le31
     replace lst1 := lst1.le le31
     replace lst2 := lst2.le le31
     replace at1 := le31.2 _ _ at1
     replace at_L3 := le31.2 _ _ at_L3
     replace hin := base_hin.mono hle
     clear hb1 c01 c11 c21 c31 c41 i11 i21 i31 i41 hm1 hi1
     have hb1 : Cat.At _ g1 0 c p := ⟨Mem.of_get at1, hin⟩
     obtain ⟨c01, c11, c21, c31, c41, i11, i21, i31, i41⟩ := hb1.get
     have hm1 : MemN _ _ _ _ _ := ⟨rfl, hb1.1⟩
     have hi1 := hb1.2
     refine .q rfl (.len sl_22_A rfl) (.q rfl (.cmp rfl rfl rfl) (.nil (hK12 _ _ ?_)))
     refine .cond rfl (fun h33 => ?_) (fun h33 => ?_)
     ·
      simp only [sps] at h33
      have hq : ¬ c.Q1 x y := Cat.fstL_ne.1 (by omega)
      obtain ⟨eN, heq⟩ : ∃ b, b = false := ⟨_, rfl⟩
      have heN : eN = true ↔ Bef c.obj.toNat x y c.Q1 ∧ c.Q1 x y := by rw [heq]; exact iff_off hq
      refine .region (.mv rfl ?_)
      refine .q rfl (.idxN (j := 1) sl_22_A (by first | assumption | exact SlA.of_row at_L3 (by first | rfl | (simp; done) | (simp <;> omega))) rfl rfl (by omega)) ?_
      refine .r0 rfl rfl (.storeI rfl sz_2_E rfl rfl at_L3 (by simp)) ?_
      rintro _ H11002 ⟨rfl, st11002, at11002⟩
      have nx_H11002 := st11002.nx
      replace hle := hle.st st11002 (fun k hk => ⟨by omega, trivial⟩)
      replace lst1 := lst1.sA st11002
      replace lst2 := lst2.sA st11002
      replace at1 := st11002.s at1 ne_g1_g8.ne
      have lt_at11002 := GHeap.ltg at11002
      replace hin := base_hin.mono hle
      clear hb1 c01 c11 c21 c31 c41 i11 i21 i31 i41 hm1 hi1
      have hb1 : Cat.At _ g1 0 c p := ⟨Mem.of_get at1, hin⟩
      obtain ⟨c01, c11, c21, c31, c41, i11, i21, i31, i41⟩ := hb1.get
      have hm1 : MemN _ _ _ _ _ := ⟨rfl, hb1.1⟩
      have hi1 := hb1.2
      replace at11002 : GHeap.get H11002 g8 = some (.row (ints [bit (B (c.term ≠ [])), bit eN, 1, 1]) 2 true) := by rw [heq]; exact at11002
      refine .nil (hK11 _ _ (.region (.mv rfl ?_)))
      refine .q rfl (.add rfl rfl rfl (by omega) (by omega)) ?_
      refine .mv rfl (.nil ?_)
      refine hKL2 ((y + 1, eN)) _ _ ?_ ?_ ⟨rfl, rfl, rfl, rfl, trivial⟩
      ·
       refine ⟨lst2, by first | assumption | (rw [heq]; assumption), ?_⟩
       exact ⟨by omega, heN.trans (Bef.step (by omega) (by omega)).symm⟩
      (dsimp only; omega)
     simp only [sps] at h33
     have hq : c.Q1 x y := Classical.not_not.1 fun q => h33 (by have := Cat.fstL_ne.2 q; omega)
     obtain ⟨eN, heq⟩ : ∃ b, b = e' := ⟨_, rfl⟩
     have heN : eN = true ↔ Bef c.obj.toNat x y c.Q1 ∧ c.Q1 x y := by rw [heq]; exact iff_keep he' hq
     refine .skip ?_
     refine hK11 _ _ (.region (.mv rfl ?_))
     refine .q rfl (.add rfl rfl rfl (by omega) (by omega)) ?_
     refine .mv rfl (.nil ?_)
     refine hKL2 ((y + 1, eN)) _ _ ?_ ?_ ⟨rfl, rfl, rfl, rfl, trivial⟩
     ·
      refine ⟨lst2, by first | assumption | (rw [heq]; assumption), ?_⟩
      exact ⟨by omega, heN.trans (Bef.step (by omega) (by omega)).symm⟩
     (dsimp only; omega)
    try simp only [sps] at h25
    refine .exit ?_
    refine hK7 _ _ (.region (.mv rfl ?_))
    refine .q rfl (.add rfl rfl rfl (by omega) (by omega)) ?_
    refine .mv rfl (.nil ?_)
    obtain rfl : y = c.obj.toNat := by omega
    refine hKL1 ((x + 1, e')) _ _ ?_ ?_ ⟨rfl, rfl, rfl, trivial⟩
    ·
     refine ⟨lst1, by assumption, ?_⟩
     exact ⟨by omega, he'.trans Bef.next.symm⟩
    (dsimp only; omega)
   obtain rfl : x = c.obj.toNat := by simp only [sps] at h18; omega
   refine .exit ?_
   refine hK3 _ _ (.seq (fun K13 hK13 => .seq (fun K14 hK14 => .region (.mv rfl (.nil (hK14 _ _ ?_))))))
   refine .block ?_
   refine .loopR (σ := Nat × Bool × Bool) [(1, some _), (3, some _)] (fun (f, e2, e3) => [(6, some (.int .i64 (f : Int)))]) (fun (f, e2, e3) H' => St [g8] HL1 H' ∧ H'.get g8 = some (.row (ints [bit (B (c.term ≠ [])), bit e, bit e2, bit e3]) 2 true) ∧ f ≤ c.src.length ∧ (e2 = true ↔ Bef c.src.length f f c.Q2) ∧ (e3 = true ↔ Bef c.src.length f f c.Q3)) (fun (f, e2, e3) => c.src.length - f) ((0, true, true)) ⟨rfl, rfl, trivial⟩ ⟨rfl, trivial⟩ ?_ ?_
   ·
    refine ⟨.refl _ _, by first | assumption | exact at_L3 | simpa using at_L3, ?_⟩
    exact ⟨by omega, ⟨fun _ => .zero _ _, fun _ => rfl⟩, ⟨fun _ => .zero _ _, fun _ => rfl⟩⟩
   rintro ⟨f, e2, e3⟩ HL3 ⟨lst3, at_L3, hI⟩ KL3 hKL3
   refine .forget (fr' := [(6, some (.int .i64 (f : Int))), (1, some _), (3, some _)]) ⟨rfl, rfl, rfl, trivial⟩ ?_
   have nx_HL3 := lst3.nx
   replace hle := hle.st lst3 (fun k hk => ⟨by omega, trivial⟩)
   replace lst1 := lst1.sA lst3
   replace at1 := lst3.s at1 ne_g1_g8.ne
   have lt_at_L3 := GHeap.ltg at_L3
   replace hin := base_hin.mono hle
   clear hb1 c01 c11 c21 c31 c41 i11 i21 i31 i41 hm1 hi1
   have hb1 : Cat.At _ g1 0 c p := ⟨Mem.of_get at1, hin⟩
   obtain ⟨c01, c11, c21, c31, c41, i11, i21, i31, i41⟩ := hb1.get
   have hm1 : MemN _ _ _ _ _ := ⟨rfl, hb1.1⟩
   have hi1 := hb1.2
   obtain ⟨hf, he2, he3⟩ := hI
   refine .seq (fun K15 hK15 => .seq (fun K16 hK16 => .region (.mv rfl (.q rfl (.fieldAddr fo_29_1_B rfl) ?_))))
   refine .q rfl (.load on_22_B rfl (by first | assumption | exact Mem.of_get at1 1 _ rfl)) ?_
   refine .q rfl (.len sl_22_A rfl) (.q rfl (.cmp rfl rfl rfl) (.nil (hK16 _ _ ?_)))
   refine .cond rfl (fun h40 => ?_) (fun h40 => ?_)
   ·
    simp only [sps] at h40
    refine .skip ?_
    refine hK15 _ _ (.seq (fun K17 hK17 => ?_))
    refine .block ?_
    refine .seq (fun K18 hK18 => .region (.mv rfl (.mv rfl (.nil (hK18 _ _ ?_)))))
    refine .block ?_
    refine .loopR (σ := Nat × Bool × Bool) [(1, some _), (3, some _), (6, some _)] (fun (g, d2, d3) => [(7, some (.int .i64 (g : Int)))]) (fun (g, d2, d3) H' => St [g8] HL3 H' ∧ H'.get g8 = some (.row (ints [bit (B (c.term ≠ [])), bit e, bit d2, bit d3]) 2 true) ∧ (f ≤ g ∧ g ≤ c.src.length) ∧ (d2 = true ↔ Bef c.src.length f g c.Q2) ∧ (d3 = true ↔ Bef c.src.length f g c.Q3)) (fun (g, d2, d3) => c.src.length - g) ((f, e2, e3)) ⟨rfl, rfl, rfl, trivial⟩ ⟨rfl, trivial⟩ ?_ ?_
    ·
     refine ⟨.refl _ _, by first | assumption | exact at_L3 | simpa using at_L3, ?_⟩
     exact ⟨by omega, he2, he3⟩
    rintro ⟨g, d2, d3⟩ HL4 ⟨lst4, at_L3, hI⟩ KL4 hKL4
    refine .forget (fr' := [(7, some (.int .i64 (g : Int))), (1, some _), (3, some _), (6, some _)]) ⟨rfl, rfl, rfl, rfl, trivial⟩ ?_
    have nx_HL4 := lst4.nx
    replace hle := hle.st lst4 (fun k hk => ⟨by omega, trivial⟩)
    replace lst1 := lst1.sA lst4
    replace lst3 := lst3.sA lst4
    replace at1 := lst4.s at1 ne_g1_g8.ne
    have lt_at_L3 := GHeap.ltg at_L3
    replace hin := base_hin.mono hle
    clear hb1 c01 c11 c21 c31 c41 i11 i21 i31 i41 hm1 hi1
    have hb1 : Cat.At _ g1 0 c p := ⟨Mem.of_get at1, hin⟩
    obtain ⟨c01, c11, c21, c31, c41, i11, i21, i31, i41⟩ := hb1.get
    have hm1 : MemN _ _ _ _ _ := ⟨rfl, hb1.1⟩
    have hi1 := hb1.2
    obtain ⟨hg, hd2, hd3⟩ := hI
    refine .seq (fun K19 hK19 => .seq (fun K20 hK20 => .region (.mv rfl (.q rfl (.fieldAddr fo_29_1_B rfl) ?_))))
    refine .q rfl (.load on_22_B rfl (by first | assumption | exact Mem.of_get at1 1 _ rfl)) ?_
    refine .q rfl (.len sl_22_A rfl) (.q rfl (.cmp rfl rfl rfl) (.nil (hK20 _ _ ?_)))
    refine .cond rfl (fun h48 => ?_) (fun h48 => ?_)
    ·
     simp only [sps] at h48
     refine .skip ?_
     refine hK19 _ _ (.seq (fun K21 hK21 => ?_))
     refine .block ?_
     refine .seq (fun K22 hK22 => .seq (fun K23 hK23 => ?_))
     refine .regionD mo_B (.q 0 (.q 1 (.q 2 (.q 3 (.q 4 (.q 5 (.q 6 (.q 7 (.q 8 (.q 9 (.q 10 (.done)))))))))))) (by kernel_rfl) ?_
     refine .q rfl (.fieldAddr fo_29_2_B rfl) ?_
     refine .q rfl (.load on_22_B rfl (by first | assumption | exact Mem.of_get at1 2 _ rfl)) ?_
     refine .mv rfl rfl ?_
     refine .q rfl (.idxN sl_22_A (by assumption) rfl rfl (by omega)) ?_
     refine .q rfl (.loadI on_2_A (by assumption) rfl (by omega)) ?_
     refine .q rfl (.fieldAddr fo_29_2_B rfl) ?_
     refine .q rfl (.load on_22_B rfl (by first | assumption | exact Mem.of_get at1 2 _ rfl)) ?_
     refine .mv rfl rfl ?_
     refine .q rfl (.idxN sl_22_A (by assumption) rfl rfl (by omega)) ?_
     refine .q rfl (.loadI on_2_A (by assumption) rfl (by omega)) ?_
     refine .q rfl (.cmp rfl rfl rfl) ?_
     refine .done ?_
     refine hK23 _ _ ?_
     refine .cond rfl (fun h61 => ?_) (fun h61 => ?_)
     ·
      simp only [sps] at h61
      obtain ⟨n2, hq2⟩ : ∃ b, b = d2 := ⟨_, rfl⟩
      obtain ⟨n3, hq3⟩ : ∃ b, b = d3 := ⟨_, rfl⟩
      have hn2 : n2 = true ↔ Bef c.src.length f g c.Q2 ∧ c.Q2 f g := by rw [hq2]; exact iff_keep hd2 fun _ h => absurd h h61
      have hn3 : n3 = true ↔ Bef c.src.length f g c.Q3 ∧ c.Q3 f g := by rw [hq3]; exact iff_keep hd3 fun h => absurd h h61
      refine .exit ?_
      refine hK21 _ _ (.region (.mv rfl ?_))
      refine .q rfl (.add rfl rfl rfl (by omega) (by omega)) ?_
      refine .mv rfl (.nil ?_)
      refine hKL4 ((g + 1, n2, n3)) _ _ ?_ ?_ ⟨rfl, rfl, rfl, rfl, trivial⟩
      ·
       refine ⟨lst4, by first | assumption | (rw [hq2, hq3]; assumption) | (rw [hq2]; assumption) | (rw [hq3]; assumption), ?_⟩
       exact ⟨by omega, hn2.trans (Bef.step (by omega) (by omega)).symm, hn3.trans (Bef.step (by omega) (by omega)).symm⟩
      (dsimp only; omega)
     simp only [sps] at h61
     refine .skip ?_
     refine hK22 _ _ (.seq (fun K24 hK24 => .seq (fun K25 hK25 => .region (.mv rfl ?_))))
     refine .q rfl (.idxN (j := 3) sl_22_A (by first | assumption | exact SlA.of_row at_L3 (by first | rfl | (simp; done) | (simp <;> omega))) rfl rfl (by omega)) ?_
     refine .q rfl (.loadI on_2_A (Ints.of_get at_L3) rfl (by simp)) ?_
     refine .q rfl (.cmp rfl rfl rfl) (.mv rfl ?_)
     refine .split (fun h66 => ?_) (fun h66 => ?_)
     ·
      simp only [sps] at h66
      refine .qg rfl (.loadM ag_29_D rfl ⟨rfl, Mem.of_get at1⟩) ?_
      refine .qg rfl (.move rfl) (.qg rfl (.move rfl) ?_)
      refine .callg rfl rfl rfl rfl rfl rfl @Try.call68 rfl (l13Pullback_c (hf := by omega) (hk := by omega)) ?_
      rintro _ H70 ⟨le70, a70, rfl, i70⟩
      have nx_H70 := le70.1
      replace hle := hle.trans le70
      replace lst1 := lst1.le le70
      replace lst3 := lst3.le le70
      replace lst4 := lst4.le le70
      replace at1 := le70.2 _ _ at1
      replace at_L3 := le70.2 _ _ at_L3
      replace hin := base_hin.mono hle
      clear hb1 c01 c11 c21 c31 c41 i11 i21 i31 i41 hm1 hi1
      have hb1 : Cat.At _ g1 0 c p := ⟨Mem.of_get at1, hin⟩
      obtain ⟨c01, c11, c21, c31, c41, i11, i21, i31, i41⟩ := hb1.get
      have hm1 : MemN _ _ _ _ _ := ⟨rfl, hb1.1⟩
      have hi1 := hb1.2
      refine .qg rfl (.len sl_22_A rfl) (.qg rfl (.cmp rfl rfl rfl) (.q rfl (.pickT rfl rfl) (.nil (hK25 _ _ ?_))))
      refine .cond rfl (fun h73 => ?_) (fun h73 => ?_)
      ·
       simp only [sps] at h73
       have hq : ¬ c.Q3 f g := fun q => Cat.fstL_ne.1 (by omega) (q h61)
       obtain ⟨n3, hq3⟩ : ∃ b, b = false := ⟨_, rfl⟩
       have hn3 : n3 = true ↔ Bef c.src.length f g c.Q3 ∧ c.Q3 f g := by rw [hq3]; exact iff_off hq
       refine .region (.mv rfl ?_)
       refine .q rfl (.idxN (j := 3) sl_22_A (by first | assumption | exact SlA.of_row at_L3 (by first | rfl | (simp; done) | (simp <;> omega))) rfl rfl (by omega)) ?_
       refine .r0 rfl rfl (.storeI rfl sz_2_E rfl rfl at_L3 (by simp)) ?_
       rintro _ H20002 ⟨rfl, st20002, at20002⟩
       have nx_H20002 := st20002.nx
       replace hle := hle.st st20002 (fun k hk => ⟨by omega, trivial⟩)
       replace lst1 := lst1.sA st20002
       replace lst3 := lst3.sA st20002
       replace lst4 := lst4.sA st20002
       replace at1 := st20002.s at1 ne_g1_g8.ne
       have lt_at20002 := GHeap.ltg at20002
       replace hin := base_hin.mono hle
       clear hb1 c01 c11 c21 c31 c41 i11 i21 i31 i41 hm1 hi1
       have hb1 : Cat.At _ g1 0 c p := ⟨Mem.of_get at1, hin⟩
       obtain ⟨c01, c11, c21, c31, c41, i11, i21, i31, i41⟩ := hb1.get
       have hm1 : MemN _ _ _ _ _ := ⟨rfl, hb1.1⟩
       have hi1 := hb1.2
       replace at20002 : GHeap.get H20002 g8 = some (.row (ints [bit (B (c.term ≠ [])), bit e, bit d2, bit n3]) 2 true) := by rw [hq3]; exact at20002
       refine .nil (hK24 _ _ (.seq (fun K26 hK26 => ?_)))
       refine .regionD mo_B (.q 0 (.q 1 (.q 2 (.q 3 (.q 4 (.q 5 (.q 6 (.q 7 (.q 8 (.q 9 (.q 10 (.q 11 (.q 12 (.q 13 (.q 14 (.q 15 (.q 16 (.q 17 (.q 18 (.q 19 (.q 20 (.q 21 (.c 22 1 (.c 23 0 (.q 24 (.q 25 (.q 26 (.done)))))))))))))))))))))))))))) (by kernel_rfl) ?_
       refine .mv rfl rfl ?_
       refine .q rfl (.idxN (j := 2) sl_22_A (by first | assumption | exact SlA.of_row at20002 (by first | rfl | (simp; done) | (simp <;> omega))) rfl rfl (by omega)) ?_
       refine .q rfl (.loadI on_2_A (by first | exact Ints.of_get at20002 | exact Ints.of_get at_L3) rfl (by simp)) ?_
       refine .q rfl (.cmp rfl rfl rfl) (.mv rfl rfl ?_)
       refine .split (fun h80 => ?_) (fun h80 => ?_)
       ·
        simp only [sps] at h80
        refine .qg rfl (.fieldAddr fo_29_1_B rfl) ?_
        refine .qg rfl (.load on_22_B rfl (by first | assumption | exact Mem.of_get at1 1 _ rfl)) ?_
        refine .qg rfl (.move rfl) ?_
        refine .qg rfl (.idxN sl_22_A (by assumption) rfl rfl (by omega)) ?_
        refine .qg rfl (.loadI on_2_A (by assumption) rfl (by omega)) ?_
        refine .qg rfl (.fieldAddr fo_29_1_B rfl) ?_
        refine .qg rfl (.load on_22_B rfl (by first | assumption | exact Mem.of_get at1 1 _ rfl)) ?_
        refine .qg rfl (.move rfl) ?_
        refine .qg rfl (.idxN sl_22_A (by assumption) rfl rfl (by omega)) ?_
        refine .qg rfl (.loadI on_2_A (by assumption) rfl (by omega)) ?_
        refine .qg rfl (.cmp rfl rfl rfl) (.q rfl (.pickT rfl rfl) (.mv rfl rfl ?_))
        refine .split (fun h93 => ?_) (fun h93 => ?_)
        ·
         simp only [sps] at h93
         refine .qg rfl (.loadM ag_29_D rfl ⟨rfl, Mem.of_get at1⟩) ?_
         refine .qg rfl (.loadM ag_29_D rfl ⟨rfl, Mem.of_get at1⟩) ?_
         refine .qg rfl (.move rfl) (.qg rfl (.move rfl) ?_)
         refine .call1g rfl rfl rfl rfl rfl rfl rfl @Try.call91 rfl (l13Forks_c (hf := by omega) (hk := by omega)) ?_
         rintro _ H98 ⟨le98, a98, r98, rfl, v98⟩
         have hbl := le98
         refine ⟨hbl, ?_⟩
         have nx_H98 := le98.1
         replace hle := hle.trans le98
         replace lst1 := lst1.le le98
         replace lst3 := lst3.le le98
         replace lst4 := lst4.le le98
         replace at1 := le98.2 _ _ at1
         replace at20002 := le98.2 _ _ at20002
         have bs_v98 := v98
         have lv_v98 : Keep H20002.next H98 H98 := fun _ _ _ h => h
         replace hin := base_hin.mono hle
         clear hb1 c01 c11 c21 c31 c41 i11 i21 i31 i41 hm1 hi1
         have hb1 : Cat.At _ g1 0 c p := ⟨Mem.of_get at1, hin⟩
         obtain ⟨c01, c11, c21, c31, c41, i11, i21, i31, i41⟩ := hb1.get
         have hm1 : MemN _ _ _ _ _ := ⟨rfl, hb1.1⟩
         have hi1 := hb1.2
         have i98 := v98.intss
         refine .call0g rfl rfl rfl rfl rfl rfl rfl @Try.call90 rfl (l13First_c (hL := by assumption) (hl := by have := Cat.sqA_bound8 hS (c.fork f g) row2 (z := c.obj.toNat) (by omega); rw [Cat.fkL_eq]; omega) (m := 2) (hm := by omega) (hr := Cat.fkL_ok)) ?_
         rintro _ H99 ⟨le99, a99, rfl, i99⟩
         have nx_H99 := le99.1
         replace hle := hle.trans le99
         replace lst1 := lst1.le le99
         replace lst3 := lst3.le le99
         replace lst4 := lst4.le le99
         replace at1 := le99.2 _ _ at1
         replace at20002 := le99.2 _ _ at20002
         replace lv_v98 := Keep.le lv_v98 le99
         replace v98 := bs_v98.keep lv_v98 (Nat.le_refl _)
         replace hin := base_hin.mono hle
         clear hb1 c01 c11 c21 c31 c41 i11 i21 i31 i41 hm1 hi1
         have hb1 : Cat.At _ g1 0 c p := ⟨Mem.of_get at1, hin⟩
         obtain ⟨c01, c11, c21, c31, c41, i11, i21, i31, i41⟩ := hb1.get
         have hm1 : MemN _ _ _ _ _ := ⟨rfl, hb1.1⟩
         have hi1 := hb1.2
         clear i98
         have i98 := v98.intss
         refine .qg rfl (.len sl_22_A rfl) (.qg rfl (.cmp rfl rfl rfl) (.q rfl (.pickT rfl rfl) ?_))
         refine .done ?_
         refine hK26 _ _ ?_
         refine .cond rfl (fun h102 => ?_) (fun h102 => ?_)
         ·
          simp only [sps] at h102
          have hq : ¬ c.Q2 f g := fun q => (Cat.fkL_ne (s := c.fork f g) rfl).1 (by omega) (q h93 h61)
          obtain ⟨n2, hq2⟩ : ∃ b, b = false := ⟨_, rfl⟩
          have hn2 : n2 = true ↔ Bef c.src.length f g c.Q2 ∧ c.Q2 f g := by rw [hq2]; exact iff_off hq
          refine .region (.mv rfl ?_)
          refine .q rfl (.idxN (j := 2) sl_22_A (by first | assumption | exact SlA.of_row at20002 (by first | rfl | (simp; done) | (simp <;> omega))) rfl rfl (by omega)) ?_
          refine .r0 rfl rfl (.storeI rfl sz_2_E rfl rfl (by first | exact at20002 | exact at_L3) (by simp)) ?_
          rintro _ H22002 ⟨rfl, st22002, at22002⟩
          have nx_H22002 := st22002.nx
          replace hle := hle.st st22002 (fun k hk => ⟨by omega, trivial⟩)
          replace lst1 := lst1.sA st22002
          replace lst3 := lst3.sA st22002
          replace lst4 := lst4.sA st22002
          replace at1 := st22002.s at1 ne_g1_g8.ne
          replace lv_v98 := Keep.st lv_v98 st22002 (fun k hb hk => ⟨by omega, trivial⟩)
          replace v98 := bs_v98.keep lv_v98 (Nat.le_refl _)
          have lt_at22002 := GHeap.ltg at22002
          replace hin := base_hin.mono hle
          clear hb1 c01 c11 c21 c31 c41 i11 i21 i31 i41 hm1 hi1
          have hb1 : Cat.At _ g1 0 c p := ⟨Mem.of_get at1, hin⟩
          obtain ⟨c01, c11, c21, c31, c41, i11, i21, i31, i41⟩ := hb1.get
          have hm1 : MemN _ _ _ _ _ := ⟨rfl, hb1.1⟩
          have hi1 := hb1.2
          clear i98
          have i98 := v98.intss
          replace at22002 : GHeap.get H22002 g8 = some (.row (ints [bit (B (c.term ≠ [])), bit e, bit n2, bit n3]) 2 true) := by first | (rw [hq2]; exact at22002) | (rw [hq2, hq3]; exact at22002)
          refine .nil (hK21 _ _ (.region (.mv rfl ?_)))
          refine .q rfl (.add rfl rfl rfl (by omega) (by omega)) ?_
          refine .mv rfl (.nil ?_)
          refine hKL4 ((g + 1, n2, n3)) _ _ ?_ ?_ ⟨rfl, rfl, rfl, rfl, trivial⟩
          ·
           refine ⟨lst4, by first | assumption | (rw [hq2, hq3]; assumption) | (rw [hq2]; assumption) | (rw [hq3]; assumption), ?_⟩
           exact ⟨by omega, hn2.trans (Bef.step (by omega) (by omega)).symm, hn3.trans (Bef.step (by omega) (by omega)).symm⟩
          (dsimp only; omega)
         simp only [sps] at h102
         have hq : c.Q2 f g := fun _ _ => Classical.not_not.1 fun q => h102 (by have := (Cat.fkL_ne (s := c.fork f g) rfl).2 q; omega)
         obtain ⟨n2, hq2⟩ : ∃ b, b = d2 := ⟨_, rfl⟩
         have hn2 : n2 = true ↔ Bef c.src.length f g c.Q2 ∧ c.Q2 f g := by rw [hq2]; exact iff_keep hd2 hq
         refine .skip ?_
         refine hK21 _ _ (.region (.mv rfl ?_))
         refine .q rfl (.add rfl rfl rfl (by omega) (by omega)) ?_
         refine .mv rfl (.nil ?_)
         refine hKL4 ((g + 1, n2, n3)) _ _ ?_ ?_ ⟨rfl, rfl, rfl, rfl, trivial⟩
         ·
          refine ⟨lst4, by first | assumption | (rw [hq2, hq3]; assumption) | (rw [hq2]; assumption) | (rw [hq3]; assumption), ?_⟩
          exact ⟨by omega, hn2.trans (Bef.step (by omega) (by omega)).symm, hn3.trans (Bef.step (by omega) (by omega)).symm⟩
         (dsimp only; omega)
        simp only [sps] at h93
        obtain ⟨n2, hq2⟩ : ∃ b, b = d2 := ⟨_, rfl⟩
        have hn2 : n2 = true ↔ Bef c.src.length f g c.Q2 ∧ c.Q2 f g := by rw [hq2]; exact iff_keep hd2 fun h _ => absurd h h93
        refine .z rfl (.z rfl (.z rfl (.z rfl (.sgc rfl rfl rfl rfl rfl rfl (.sgc rfl rfl rfl rfl rfl rfl (.z rfl (.z rfl (.q rfl (.pickF rfl rfl) ?_))))))))
        refine .done ?_
        refine hK26 _ _ ?_
        refine .condF rfl ?_
        refine .skip ?_
        refine hK21 _ _ (.region (.mv rfl ?_))
        refine .q rfl (.add rfl rfl rfl (by omega) (by omega)) ?_
        refine .mv rfl (.nil ?_)
        refine hKL4 ((g + 1, n2, n3)) _ _ ?_ ?_ ⟨rfl, rfl, rfl, rfl, trivial⟩
        ·
         refine ⟨lst4, by first | assumption | (rw [hq2, hq3]; assumption) | (rw [hq2]; assumption) | (rw [hq3]; assumption), ?_⟩
         exact ⟨by omega, hn2.trans (Bef.step (by omega) (by omega)).symm, hn3.trans (Bef.step (by omega) (by omega)).symm⟩
        (dsimp only; omega)
       simp only [sps] at h80
       obtain ⟨n2, hq2⟩ : ∃ b, b = d2 := ⟨_, rfl⟩
       have hn2 : n2 = true ↔ Bef c.src.length f g c.Q2 ∧ c.Q2 f g := by rw [hq2]; exact iff_was hd2 (bit_not.1 h80)
       refine .z rfl (.z rfl (.z rfl (.z rfl (.z rfl (.z rfl (.z rfl (.z rfl (.z rfl (.z rfl (.z rfl (.q rfl (.pickF rfl rfl) (.mv rfl rfl (.z rfl (.z rfl (.z rfl ?_)))))))))))))))
       refine .z rfl (.sgc rfl rfl rfl rfl rfl rfl (.sgc rfl rfl rfl rfl rfl rfl (.z rfl (.z rfl (.q rfl (.pickF rfl rfl) ?_)))))
       refine .done ?_
       refine hK26 _ _ ?_
       refine .condF rfl ?_
       refine .skip ?_
       refine hK21 _ _ (.region (.mv rfl ?_))
       refine .q rfl (.add rfl rfl rfl (by omega) (by omega)) ?_
       refine .mv rfl (.nil ?_)
       refine hKL4 ((g + 1, n2, n3)) _ _ ?_ ?_ ⟨rfl, rfl, rfl, rfl, trivial⟩
       ·
        refine ⟨lst4, by first | assumption | (rw [hq2, hq3]; assumption) | (rw [hq2]; assumption) | (rw [hq3]; assumption), ?_⟩
        exact ⟨by omega, hn2.trans (Bef.step (by omega) (by omega)).symm, hn3.trans (Bef.step (by omega) (by omega)).symm⟩
       (dsimp only; omega)
      simp only [sps] at h73
      have hq : c.Q3 f g := fun _ => Classical.not_not.1 fun q => h73 (by have := Cat.fstL_ne.2 q; omega)
      obtain ⟨n3, hq3⟩ : ∃ b, b = d3 := ⟨_, rfl⟩
      have hn3 : n3 = true ↔ Bef c.src.length f g c.Q3 ∧ c.Q3 f g := by rw [hq3]; exact iff_keep hd3 hq
      refine .skip ?_
      refine hK24 _ _ (.seq (fun K27 hK27 => ?_))
      refine .regionD mo_B (.q 0 (.q 1 (.q 2 (.q 3 (.q 4 (.q 5 (.q 6 (.q 7 (.q 8 (.q 9 (.q 10 (.q 11 (.q 12 (.q 13 (.q 14 (.q 15 (.q 16 (.q 17 (.q 18 (.q 19 (.q 20 (.q 21 (.c 22 1 (.c 23 0 (.q 24 (.q 25 (.q 26 (.done)))))))))))))))))))))))))))) (by kernel_rfl) ?_
      refine .mv rfl rfl ?_
      refine .q rfl (.idxN (j := 2) sl_22_A (by first | assumption | exact SlA.of_row at_L3 (by first | rfl | (simp; done) | (simp <;> omega))) rfl rfl (by omega)) ?_
      refine .q rfl (.loadI on_2_A (by first | exact Ints.of_get at20002 | exact Ints.of_get at_L3) rfl (by simp)) ?_
      refine .q rfl (.cmp rfl rfl rfl) (.mv rfl rfl ?_)
      refine .split (fun h80 => ?_) (fun h80 => ?_)
      ·
       simp only [sps] at h80
       refine .qg rfl (.fieldAddr fo_29_1_B rfl) ?_
       refine .qg rfl (.load on_22_B rfl (by first | assumption | exact Mem.of_get at1 1 _ rfl)) ?_
       refine .qg rfl (.move rfl) ?_
       refine .qg rfl (.idxN sl_22_A (by assumption) rfl rfl (by omega)) ?_
       refine .qg rfl (.loadI on_2_A (by assumption) rfl (by omega)) ?_
       refine .qg rfl (.fieldAddr fo_29_1_B rfl) ?_
       refine .qg rfl (.load on_22_B rfl (by first | assumption | exact Mem.of_get at1 1 _ rfl)) ?_
       refine .qg rfl (.move rfl) ?_
       refine .qg rfl (.idxN sl_22_A (by assumption) rfl rfl (by omega)) ?_
       refine .qg rfl (.loadI on_2_A (by assumption) rfl (by omega)) ?_
       refine .qg rfl (.cmp rfl rfl rfl) (.q rfl (.pickT rfl rfl) (.mv rfl rfl ?_))
       refine .split (fun h93 => ?_) (fun h93 => ?_)
       ·
        simp only [sps] at h93
        refine .qg rfl (.loadM ag_29_D rfl ⟨rfl, Mem.of_get at1⟩) ?_
        refine .qg rfl (.loadM ag_29_D rfl ⟨rfl, Mem.of_get at1⟩) ?_
        refine .qg rfl (.move rfl) (.qg rfl (.move rfl) ?_)
        refine .call1g rfl rfl rfl rfl rfl rfl rfl @Try.call91 rfl (l13Forks_c (hf := by omega) (hk := by omega)) ?_
        rintro _ H98x2 ⟨le98x2, a98x2, r98x2, rfl, v98x2⟩
        have hbl := le98x2
        refine ⟨hbl, ?_⟩
        have nx_H98x2 := le98x2.1
        replace hle := hle.trans le98x2
        replace lst1 := lst1.le le98x2
        replace lst3 := lst3.le le98x2
        replace lst4 := lst4.le le98x2
        replace at1 := le98x2.2 _ _ at1
        replace at_L3 := le98x2.2 _ _ at_L3
        have bs_v98x2 := v98x2
        have lv_v98x2 : Keep H70.next H98x2 H98x2 := fun _ _ _ h => h
        replace hin := base_hin.mono hle
        clear hb1 c01 c11 c21 c31 c41 i11 i21 i31 i41 hm1 hi1
        have hb1 : Cat.At _ g1 0 c p := ⟨Mem.of_get at1, hin⟩
        obtain ⟨c01, c11, c21, c31, c41, i11, i21, i31, i41⟩ := hb1.get
        have hm1 : MemN _ _ _ _ _ := ⟨rfl, hb1.1⟩
        have hi1 := hb1.2
        have i98x2 := v98x2.intss
        refine .call0g rfl rfl rfl rfl rfl rfl rfl @Try.call90 rfl (l13First_c (hL := by assumption) (hl := by have := Cat.sqA_bound8 hS (c.fork f g) row2 (z := c.obj.toNat) (by omega); rw [Cat.fkL_eq]; omega) (m := 2) (hm := by omega) (hr := Cat.fkL_ok)) ?_
        rintro _ H99x2 ⟨le99x2, a99x2, rfl, i99x2⟩
        have nx_H99x2 := le99x2.1
        replace hle := hle.trans le99x2
        replace lst1 := lst1.le le99x2
        replace lst3 := lst3.le le99x2
        replace lst4 := lst4.le le99x2
        replace at1 := le99x2.2 _ _ at1
        replace at_L3 := le99x2.2 _ _ at_L3
        replace lv_v98x2 := Keep.le lv_v98x2 le99x2
        replace v98x2 := bs_v98x2.keep lv_v98x2 (Nat.le_refl _)
        replace hin := base_hin.mono hle
        clear hb1 c01 c11 c21 c31 c41 i11 i21 i31 i41 hm1 hi1
        have hb1 : Cat.At _ g1 0 c p := ⟨Mem.of_get at1, hin⟩
        obtain ⟨c01, c11, c21, c31, c41, i11, i21, i31, i41⟩ := hb1.get
        have hm1 : MemN _ _ _ _ _ := ⟨rfl, hb1.1⟩
        have hi1 := hb1.2
        clear i98x2
        have i98x2 := v98x2.intss
        refine .qg rfl (.len sl_22_A rfl) (.qg rfl (.cmp rfl rfl rfl) (.q rfl (.pickT rfl rfl) ?_))
        refine .done ?_
        refine hK27 _ _ ?_
        refine .cond rfl (fun h102 => ?_) (fun h102 => ?_)
        ·
         simp only [sps] at h102
         have hq : ¬ c.Q2 f g := fun q => (Cat.fkL_ne (s := c.fork f g) rfl).1 (by omega) (q h93 h61)
         obtain ⟨n2, hq2⟩ : ∃ b, b = false := ⟨_, rfl⟩
         have hn2 : n2 = true ↔ Bef c.src.length f g c.Q2 ∧ c.Q2 f g := by rw [hq2]; exact iff_off hq
         refine .region (.mv rfl ?_)
         refine .q rfl (.idxN (j := 2) sl_22_A (by first | assumption | exact SlA.of_row at_L3 (by first | rfl | (simp; done) | (simp <;> omega))) rfl rfl (by omega)) ?_
         refine .r0 rfl rfl (.storeI rfl sz_2_E rfl rfl (by first | exact at20002 | exact at_L3) (by simp)) ?_
         rintro _ H22002x2 ⟨rfl, st22002x2, at22002x2⟩
         have nx_H22002x2 := st22002x2.nx
         replace hle := hle.st st22002x2 (fun k hk => ⟨by omega, trivial⟩)
         replace lst1 := lst1.sA st22002x2
         replace lst3 := lst3.sA st22002x2
         replace lst4 := lst4.sA st22002x2
         replace at1 := st22002x2.s at1 ne_g1_g8.ne
         replace lv_v98x2 := Keep.st lv_v98x2 st22002x2 (fun k hb hk => ⟨by omega, trivial⟩)
         replace v98x2 := bs_v98x2.keep lv_v98x2 (Nat.le_refl _)
         have lt_at22002x2 := GHeap.ltg at22002x2
         replace hin := base_hin.mono hle
         clear hb1 c01 c11 c21 c31 c41 i11 i21 i31 i41 hm1 hi1
         have hb1 : Cat.At _ g1 0 c p := ⟨Mem.of_get at1, hin⟩
         obtain ⟨c01, c11, c21, c31, c41, i11, i21, i31, i41⟩ := hb1.get
         have hm1 : MemN _ _ _ _ _ := ⟨rfl, hb1.1⟩
         have hi1 := hb1.2
         clear i98x2
         have i98x2 := v98x2.intss
         replace at22002x2 : GHeap.get H22002x2 g8 = some (.row (ints [bit (B (c.term ≠ [])), bit e, bit n2, bit n3]) 2 true) := by first | (rw [hq2]; exact at22002x2) | (rw [hq2, hq3]; exact at22002x2)
         refine .nil (hK21 _ _ (.region (.mv rfl ?_)))
         refine .q rfl (.add rfl rfl rfl (by omega) (by omega)) ?_
         refine .mv rfl (.nil ?_)
         refine hKL4 ((g + 1, n2, n3)) _ _ ?_ ?_ ⟨rfl, rfl, rfl, rfl, trivial⟩
         ·
          refine ⟨lst4, by first | assumption | (rw [hq2, hq3]; assumption) | (rw [hq2]; assumption) | (rw [hq3]; assumption), ?_⟩
          exact ⟨by omega, hn2.trans (Bef.step (by omega) (by omega)).symm, hn3.trans (Bef.step (by omega) (by omega)).symm⟩
         (dsimp only; omega)
        simp only [sps] at h102
        have hq : c.Q2 f g := fun _ _ => Classical.not_not.1 fun q => h102 (by have := (Cat.fkL_ne (s := c.fork f g) rfl).2 q; omega)
        obtain ⟨n2, hq2⟩ : ∃ b, b = d2 := ⟨_, rfl⟩
        have hn2 : n2 = true ↔ Bef c.src.length f g c.Q2 ∧ c.Q2 f g := by rw [hq2]; exact iff_keep hd2 hq
        refine .skip ?_
        refine hK21 _ _ (.region (.mv rfl ?_))
        refine .q rfl (.add rfl rfl rfl (by omega) (by omega)) ?_
        refine .mv rfl (.nil ?_)
        refine hKL4 ((g + 1, n2, n3)) _ _ ?_ ?_ ⟨rfl, rfl, rfl, rfl, trivial⟩
        ·
         refine ⟨lst4, by first | assumption | (rw [hq2, hq3]; assumption) | (rw [hq2]; assumption) | (rw [hq3]; assumption), ?_⟩
         exact ⟨by omega, hn2.trans (Bef.step (by omega) (by omega)).symm, hn3.trans (Bef.step (by omega) (by omega)).symm⟩
        (dsimp only; omega)
       simp only [sps] at h93
       obtain ⟨n2, hq2⟩ : ∃ b, b = d2 := ⟨_, rfl⟩
       have hn2 : n2 = true ↔ Bef c.src.length f g c.Q2 ∧ c.Q2 f g := by rw [hq2]; exact iff_keep hd2 fun h _ => absurd h h93
       refine .z rfl (.z rfl (.z rfl (.z rfl (.sgc rfl rfl rfl rfl rfl rfl (.sgc rfl rfl rfl rfl rfl rfl (.z rfl (.z rfl (.q rfl (.pickF rfl rfl) ?_))))))))
       refine .done ?_
       refine hK27 _ _ ?_
       refine .condF rfl ?_
       refine .skip ?_
       refine hK21 _ _ (.region (.mv rfl ?_))
       refine .q rfl (.add rfl rfl rfl (by omega) (by omega)) ?_
       refine .mv rfl (.nil ?_)
       refine hKL4 ((g + 1, n2, n3)) _ _ ?_ ?_ ⟨rfl, rfl, rfl, rfl, trivial⟩
       ·
        refine ⟨lst4, by first | assumption | (rw [hq2, hq3]; assumption) | (rw [hq2]; assumption) | (rw [hq3]; assumption), ?_⟩
        exact ⟨by omega, hn2.trans (Bef.step (by omega) (by omega)).symm, hn3.trans (Bef.step (by omega) (by omega)).symm⟩
       (dsimp only; omega)
      simp only [sps] at h80
      obtain ⟨n2, hq2⟩ : ∃ b, b = d2 := ⟨_, rfl⟩
      have hn2 : n2 = true ↔ Bef c.src.length f g c.Q2 ∧ c.Q2 f g := by rw [hq2]; exact iff_was hd2 (bit_not.1 h80)
      refine .z rfl (.z rfl (.z rfl (.z rfl (.z rfl (.z rfl (.z rfl (.z rfl (.z rfl (.z rfl (.z rfl (.q rfl (.pickF rfl rfl) (.mv rfl rfl (.z rfl (.z rfl (.z rfl ?_)))))))))))))))
      refine .z rfl (.sgc rfl rfl rfl rfl rfl rfl (.sgc rfl rfl rfl rfl rfl rfl (.z rfl (.z rfl (.q rfl (.pickF rfl rfl) ?_)))))
      refine .done ?_
      refine hK27 _ _ ?_
      refine .condF rfl ?_
      refine .skip ?_
      refine hK21 _ _ (.region (.mv rfl ?_))
      refine .q rfl (.add rfl rfl rfl (by omega) (by omega)) ?_
      refine .mv rfl (.nil ?_)
      refine hKL4 ((g + 1, n2, n3)) _ _ ?_ ?_ ⟨rfl, rfl, rfl, rfl, trivial⟩
      ·
       refine ⟨lst4, by first | assumption | (rw [hq2, hq3]; assumption) | (rw [hq2]; assumption) | (rw [hq3]; assumption), ?_⟩
       exact ⟨by omega, hn2.trans (Bef.step (by omega) (by omega)).symm, hn3.trans (Bef.step (by omega) (by omega)).symm⟩
      (dsimp only; omega)
     simp only [sps] at h66
     obtain ⟨n3, hq3⟩ : ∃ b, b = d3 := ⟨_, rfl⟩
     have hn3 : n3 = true ↔ Bef c.src.length f g c.Q3 ∧ c.Q3 f g := by rw [hq3]; exact iff_was hd3 (bit_not.1 h66)
     refine .z rfl (.z rfl (.z rfl (.z rfl (.z rfl (.z rfl (.q rfl (.pickF rfl rfl) (.nil (hK25 _ _ ?_))))))))
     refine .condF rfl ?_
     refine .skip ?_
     refine hK24 _ _ (.seq (fun K28 hK28 => ?_))
     refine .regionD mo_B (.q 0 (.q 1 (.q 2 (.q 3 (.q 4 (.q 5 (.q 6 (.q 7 (.q 8 (.q 9 (.q 10 (.q 11 (.q 12 (.q 13 (.q 14 (.q 15 (.q 16 (.q 17 (.q 18 (.q 19 (.q 20 (.q 21 (.c 22 1 (.c 23 0 (.q 24 (.q 25 (.q 26 (.done)))))))))))))))))))))))))))) (by kernel_rfl) ?_
     refine .mv rfl rfl ?_
     refine .q rfl (.idxN (j := 2) sl_22_A (by first | assumption | exact SlA.of_row at_L3 (by first | rfl | (simp; done) | (simp <;> omega))) rfl rfl (by omega)) ?_
     refine .q rfl (.loadI on_2_A (by first | exact Ints.of_get at20002 | exact Ints.of_get at_L3) rfl (by simp)) ?_
     refine .q rfl (.cmp rfl rfl rfl) (.mv rfl rfl ?_)
     refine .split (fun h80 => ?_) (fun h80 => ?_)
     ·
      simp only [sps] at h80
      refine .qg rfl (.fieldAddr fo_29_1_B rfl) ?_
      refine .qg rfl (.load on_22_B rfl (by first | assumption | exact Mem.of_get at1 1 _ rfl)) ?_
      refine .qg rfl (.move rfl) ?_
      refine .qg rfl (.idxN sl_22_A (by assumption) rfl rfl (by omega)) ?_
      refine .qg rfl (.loadI on_2_A (by assumption) rfl (by omega)) ?_
      refine .qg rfl (.fieldAddr fo_29_1_B rfl) ?_
      refine .qg rfl (.load on_22_B rfl (by first | assumption | exact Mem.of_get at1 1 _ rfl)) ?_
      refine .qg rfl (.move rfl) ?_
      refine .qg rfl (.idxN sl_22_A (by assumption) rfl rfl (by omega)) ?_
      refine .qg rfl (.loadI on_2_A (by assumption) rfl (by omega)) ?_
      refine .qg rfl (.cmp rfl rfl rfl) (.q rfl (.pickT rfl rfl) (.mv rfl rfl ?_))
      refine .split (fun h93 => ?_) (fun h93 => ?_)
      ·
       simp only [sps] at h93
       refine .qg rfl (.loadM ag_29_D rfl ⟨rfl, Mem.of_get at1⟩) ?_
       refine .qg rfl (.loadM ag_29_D rfl ⟨rfl, Mem.of_get at1⟩) ?_
       refine .qg rfl (.move rfl) (.qg rfl (.move rfl) ?_)
       refine .call1g rfl rfl rfl rfl rfl rfl rfl @Try.call91 rfl (l13Forks_c (hf := by omega) (hk := by omega)) ?_
       rintro _ H98x3 ⟨le98x3, a98x3, r98x3, rfl, v98x3⟩
       have hbl := le98x3
       refine ⟨hbl, ?_⟩
       have nx_H98x3 := le98x3.1
       replace hle := hle.trans le98x3
       replace lst1 := lst1.le le98x3
       replace lst3 := lst3.le le98x3
       replace lst4 := lst4.le le98x3
       replace at1 := le98x3.2 _ _ at1
       replace at_L3 := le98x3.2 _ _ at_L3
       have bs_v98x3 := v98x3
       have lv_v98x3 : Keep HL4.next H98x3 H98x3 := fun _ _ _ h => h
       replace hin := base_hin.mono hle
       clear hb1 c01 c11 c21 c31 c41 i11 i21 i31 i41 hm1 hi1
       have hb1 : Cat.At _ g1 0 c p := ⟨Mem.of_get at1, hin⟩
       obtain ⟨c01, c11, c21, c31, c41, i11, i21, i31, i41⟩ := hb1.get
       have hm1 : MemN _ _ _ _ _ := ⟨rfl, hb1.1⟩
       have hi1 := hb1.2
       have i98x3 := v98x3.intss
       refine .call0g rfl rfl rfl rfl rfl rfl rfl @Try.call90 rfl (l13First_c (hL := by assumption) (hl := by have := Cat.sqA_bound8 hS (c.fork f g) row2 (z := c.obj.toNat) (by omega); rw [Cat.fkL_eq]; omega) (m := 2) (hm := by omega) (hr := Cat.fkL_ok)) ?_
       rintro _ H99x3 ⟨le99x3, a99x3, rfl, i99x3⟩
       have nx_H99x3 := le99x3.1
       replace hle := hle.trans le99x3
       replace lst1 := lst1.le le99x3
       replace lst3 := lst3.le le99x3
       replace lst4 := lst4.le le99x3
       replace at1 := le99x3.2 _ _ at1
       replace at_L3 := le99x3.2 _ _ at_L3
       replace lv_v98x3 := Keep.le lv_v98x3 le99x3
       replace v98x3 := bs_v98x3.keep lv_v98x3 (Nat.le_refl _)
       replace hin := base_hin.mono hle
       clear hb1 c01 c11 c21 c31 c41 i11 i21 i31 i41 hm1 hi1
       have hb1 : Cat.At _ g1 0 c p := ⟨Mem.of_get at1, hin⟩
       obtain ⟨c01, c11, c21, c31, c41, i11, i21, i31, i41⟩ := hb1.get
       have hm1 : MemN _ _ _ _ _ := ⟨rfl, hb1.1⟩
       have hi1 := hb1.2
       clear i98x3
       have i98x3 := v98x3.intss
       refine .qg rfl (.len sl_22_A rfl) (.qg rfl (.cmp rfl rfl rfl) (.q rfl (.pickT rfl rfl) ?_))
       refine .done ?_
       refine hK28 _ _ ?_
       refine .cond rfl (fun h102 => ?_) (fun h102 => ?_)
       ·
        simp only [sps] at h102
        have hq : ¬ c.Q2 f g := fun q => (Cat.fkL_ne (s := c.fork f g) rfl).1 (by omega) (q h93 h61)
        obtain ⟨n2, hq2⟩ : ∃ b, b = false := ⟨_, rfl⟩
        have hn2 : n2 = true ↔ Bef c.src.length f g c.Q2 ∧ c.Q2 f g := by rw [hq2]; exact iff_off hq
        refine .region (.mv rfl ?_)
        refine .q rfl (.idxN (j := 2) sl_22_A (by first | assumption | exact SlA.of_row at_L3 (by first | rfl | (simp; done) | (simp <;> omega))) rfl rfl (by omega)) ?_
        refine .r0 rfl rfl (.storeI rfl sz_2_E rfl rfl (by first | exact at20002 | exact at_L3) (by simp)) ?_
        rintro _ H22002x3 ⟨rfl, st22002x3, at22002x3⟩
        have nx_H22002x3 := st22002x3.nx
        replace hle := hle.st st22002x3 (fun k hk => ⟨by omega, trivial⟩)
        replace lst1 := lst1.sA st22002x3
        replace lst3 := lst3.sA st22002x3
        replace lst4 := lst4.sA st22002x3
        replace at1 := st22002x3.s at1 ne_g1_g8.ne
        replace lv_v98x3 := Keep.st lv_v98x3 st22002x3 (fun k hb hk => ⟨by omega, trivial⟩)
        replace v98x3 := bs_v98x3.keep lv_v98x3 (Nat.le_refl _)
        have lt_at22002x3 := GHeap.ltg at22002x3
        replace hin := base_hin.mono hle
        clear hb1 c01 c11 c21 c31 c41 i11 i21 i31 i41 hm1 hi1
        have hb1 : Cat.At _ g1 0 c p := ⟨Mem.of_get at1, hin⟩
        obtain ⟨c01, c11, c21, c31, c41, i11, i21, i31, i41⟩ := hb1.get
        have hm1 : MemN _ _ _ _ _ := ⟨rfl, hb1.1⟩
        have hi1 := hb1.2
        clear i98x3
        have i98x3 := v98x3.intss
        replace at22002x3 : GHeap.get H22002x3 g8 = some (.row (ints [bit (B (c.term ≠ [])), bit e, bit n2, bit n3]) 2 true) := by first | (rw [hq2]; exact at22002x3) | (rw [hq2, hq3]; exact at22002x3)
        refine .nil (hK21 _ _ (.region (.mv rfl ?_)))
        refine .q rfl (.add rfl rfl rfl (by omega) (by omega)) ?_
        refine .mv rfl (.nil ?_)
        refine hKL4 ((g + 1, n2, n3)) _ _ ?_ ?_ ⟨rfl, rfl, rfl, rfl, trivial⟩
        ·
         refine ⟨lst4, by first | assumption | (rw [hq2, hq3]; assumption) | (rw [hq2]; assumption) | (rw [hq3]; assumption), ?_⟩
         exact ⟨by omega, hn2.trans (Bef.step (by omega) (by omega)).symm, hn3.trans (Bef.step (by omega) (by omega)).symm⟩
        (dsimp only; omega)
       simp only [sps] at h102
       have hq : c.Q2 f g := fun _ _ => Classical.not_not.1 fun q => h102 (by have := (Cat.fkL_ne (s := c.fork f g) rfl).2 q; omega)
       obtain ⟨n2, hq2⟩ : ∃ b, b = d2 := ⟨_, rfl⟩
       have hn2 : n2 = true ↔ Bef c.src.length f g c.Q2 ∧ c.Q2 f g := by rw [hq2]; exact iff_keep hd2 hq
       refine .skip ?_
       refine hK21 _ _ (.region (.mv rfl ?_))
       refine .q rfl (.add rfl rfl rfl (by omega) (by omega)) ?_
       refine .mv rfl (.nil ?_)
       refine hKL4 ((g + 1, n2, n3)) _ _ ?_ ?_ ⟨rfl, rfl, rfl, rfl, trivial⟩
       ·
        refine ⟨lst4, by first | assumption | (rw [hq2, hq3]; assumption) | (rw [hq2]; assumption) | (rw [hq3]; assumption), ?_⟩
        exact ⟨by omega, hn2.trans (Bef.step (by omega) (by omega)).symm, hn3.trans (Bef.step (by omega) (by omega)).symm⟩
       (dsimp only; omega)
      simp only [sps] at h93
      obtain ⟨n2, hq2⟩ : ∃ b, b = d2 := ⟨_, rfl⟩
      have hn2 : n2 = true ↔ Bef c.src.length f g c.Q2 ∧ c.Q2 f g := by rw [hq2]; exact iff_keep hd2 fun h _ => absurd h h93
      refine .z rfl (.z rfl (.z rfl (.z rfl (.sgc rfl rfl rfl rfl rfl rfl (.sgc rfl rfl rfl rfl rfl rfl (.z rfl (.z rfl (.q rfl (.pickF rfl rfl) ?_))))))))
      refine .done ?_
      refine hK28 _ _ ?_
      refine .condF rfl ?_
      refine .skip ?_
      refine hK21 _ _ (.region (.mv rfl ?_))
      refine .q rfl (.add rfl rfl rfl (by omega) (by omega)) ?_
      refine .mv rfl (.nil ?_)
      refine hKL4 ((g + 1, n2, n3)) _ _ ?_ ?_ ⟨rfl, rfl, rfl, rfl, trivial⟩
      ·
       refine ⟨lst4, by first | assumption | (rw [hq2, hq3]; assumption) | (rw [hq2]; assumption) | (rw [hq3]; assumption), ?_⟩
       exact ⟨by omega, hn2.trans (Bef.step (by omega) (by omega)).symm, hn3.trans (Bef.step (by omega) (by omega)).symm⟩
      (dsimp only; omega)
     simp only [sps] at h80
     obtain ⟨n2, hq2⟩ : ∃ b, b = d2 := ⟨_, rfl⟩
     have hn2 : n2 = true ↔ Bef c.src.length f g c.Q2 ∧ c.Q2 f g := by rw [hq2]; exact iff_was hd2 (bit_not.1 h80)
     refine .z rfl (.z rfl (.z rfl (.z rfl (.z rfl (.z rfl (.z rfl (.z rfl (.z rfl (.z rfl (.z rfl (.q rfl (.pickF rfl rfl) (.mv rfl rfl (.z rfl (.z rfl (.z rfl ?_)))))))))))))))
     refine .z rfl (.sgc rfl rfl rfl rfl rfl rfl (.sgc rfl rfl rfl rfl rfl rfl (.z rfl (.z rfl (.q rfl (.pickF rfl rfl) ?_)))))
     refine .done ?_
     refine hK28 _ _ ?_
     refine .condF rfl ?_
     refine .skip ?_
     refine hK21 _ _ (.region (.mv rfl ?_))
     refine .q rfl (.add rfl rfl rfl (by omega) (by omega)) ?_
     refine .mv rfl (.nil ?_)
     refine hKL4 ((g + 1, n2, n3)) _ _ ?_ ?_ ⟨rfl, rfl, rfl, rfl, trivial⟩
     ·
      refine ⟨lst4, by first | assumption | (rw [hq2, hq3]; assumption) | (rw [hq2]; assumption) | (rw [hq3]; assumption), ?_⟩
      exact ⟨by omega, hn2.trans (Bef.step (by omega) (by omega)).symm, hn3.trans (Bef.step (by omega) (by omega)).symm⟩
     (dsimp only; omega)
    try simp only [sps] at h48
    refine .exit ?_
    refine hK17 _ _ (.region (.mv rfl ?_))
    refine .q rfl (.add rfl rfl rfl (by omega) (by omega)) ?_
    refine .mv rfl (.nil ?_)
    obtain rfl : g = c.src.length := by omega
    refine hKL3 ((f + 1, d2, d3)) _ _ ?_ ?_ ⟨rfl, rfl, rfl, trivial⟩
    ·
     refine ⟨lst3, by assumption, ?_⟩
     exact ⟨by omega, hd2.trans Bef.next.symm, hd3.trans Bef.next.symm⟩
    (dsimp only; omega)
   try simp only [sps] at h40
   refine .exit ?_
   refine hK13 _ _ (.seq (fun K29 hK29 => .region (.mv rfl (.mv rfl (.nil (hK29 _ _ ?_))))))
   refine .ret ?_
   refine hret _ _ ?_
   refine ⟨_, rfl, ?_⟩
   obtain rfl : f = c.src.length := by omega
   have hL : c.hasL = [bit (B (c.term ≠ [])), bit e, bit e2, bit e3] := by
     unfold Cat.hasL
     rw [bit_B (he.trans (Bef.done Cat.q1_sym)), bit_B (he2.trans (Bef.done Cat.q2_sym)), bit_B (he3.trans (Bef.done Cat.q3_sym))]
   rw [hL]
   exact ⟨hle, g8, rfl, at_L3, by omega⟩
  refine .seq (fun K30 hK30 => .region ?_)
  refine .q rfl (.loadM ag_29_D rfl ⟨rfl, Mem.of_get at1⟩) ?_
  refine .call rfl rfl rfl rfl @Try.call89 rfl (l13Terminal_c) ?_
  rintro _ H10 ⟨le10, g10, rfl, at10, ge10⟩
  have nx_H10 := le10.1
  replace hle := hle.trans le10
  replace at1 := le10.2 _ _ at1
  replace at8 := le10.2 _ _ at8
  have lt_at10 := GHeap.ltg at10
  replace hin := base_hin.mono hle
  clear hb1 c01 c11 c21 c31 c41 i11 i21 i31 i41 hm1 hi1
  have hb1 : Cat.At _ g1 0 c p := ⟨Mem.of_get at1, hin⟩
  obtain ⟨c01, c11, c21, c31, c41, i11, i21, i31, i41⟩ := hb1.get
  have hm1 : MemN _ _ _ _ _ := ⟨rfl, hb1.1⟩
  have hi1 := hb1.2
  have i10 := Ints.of_get at10
  refine .q rfl (.len sl_22_A rfl) (.q rfl (.cmp rfl rfl rfl) (.nil (hK30 _ _ ?_)))
  refine .cond rfl (fun h12 => ?_) (fun h12 => ?_)
  ·
   simp only [sps] at h12
   have ht0 : B (c.term ≠ []) = true := B_true fun e => by rw [e] at h12; simp at h12
   refine .region (.mv rfl ?_)
   refine .q rfl (.idxN (j := 0) sl_22_A (by first | assumption | exact SlA.of_row at8 (by first | rfl | (simp; done) | (simp <;> omega))) rfl rfl (by omega)) ?_
   refine .r0 rfl rfl (.storeI rfl sz_2_E rfl rfl at8 (by simp)) ?_
   rintro _ H3002 ⟨rfl, st3002, at3002⟩
   have nx_H3002 := st3002.nx
   replace hle := hle.st st3002 (fun k hk => ⟨by omega, trivial⟩)
   have ne_g1_g8 : NE g1 g8 := .a
   replace at1 := st3002.s at1 ne_g1_g8.ne
   replace at10 := st3002.s at10
   have lt_at3002 := GHeap.ltg at3002
   replace hin := base_hin.mono hle
   clear hb1 c01 c11 c21 c31 c41 i11 i21 i31 i41 hm1 hi1
   have hb1 : Cat.At _ g1 0 c p := ⟨Mem.of_get at1, hin⟩
   obtain ⟨c01, c11, c21, c31, c41, i11, i21, i31, i41⟩ := hb1.get
   have hm1 : MemN _ _ _ _ _ := ⟨rfl, hb1.1⟩
   have hi1 := hb1.2
   clear i10
   have i10 := Ints.of_get at10
   replace at3002 : GHeap.get H3002 g8 = some (.row (ints [bit (B (c.term ≠ [])), bit true, 1, 1]) 2 true) := by rw [ht0]; exact at3002
   refine .nil ?_
   exact ⟨⟨rfl, rfl, trivial⟩, by first | exact ((St.refl [g8] _).le le10).st st3002 (fun k hk h => h) | exact (St.refl [g8] _).le le10, by first | exact at3002 | exact at8⟩
  simp only [sps] at h12
  have ht0 : B (c.term ≠ []) = false := B_false fun e => by have := List.length_pos_iff.2 e; omega
  replace at8 : GHeap.get H10 g8 = some (.row (ints [bit (B (c.term ≠ [])), bit true, 1, 1]) 2 true) := by rw [ht0]; exact at8
  refine .skip ?_
  exact ⟨⟨rfl, rfl, trivial⟩, by first | exact ((St.refl [g8] _).le le10).st st3002 (fun k hk h => h) | exact (St.refl [g8] _).le le10, by first | exact at3002 | exact at8⟩
end Go.Proofs.Ytjdedelneppnlaa
