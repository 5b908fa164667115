/- Texts of lists of numbers; a library call of which only new memory is told. No condition. -/
import Derived.Test.YtdnjnligclkkgaaDoorZ7
import Derived.Lib.Join
namespace Go.GL
open Go.RowKit
theorem ba_size (b : ByteArray) : b.size = b.data.toList.length := Array.length_toList.symm
theorem ba_iff {a b : ByteArray} : a.toList = b.toList ↔ a = b := ⟨fun h => by
  rw [ByteArray.toList_eq, ByteArray.toList_eq] at h
  exact ba_list h, fun h => by rw [h]⟩
theorem VRel.str {ρ : Place} {s : ByteArray} {c : Value} (h : VRel ρ (.string s) c) : c = .string s := by cases h; rfl
end Go.GL
namespace Go.GL
open Go.RowKit
def rest (s : ByteArray) (k : Nat) : List Int := (s.data.toList.drop k).map fun c => (c.toNat : Int)
theorem rest_nil {s : ByteArray} {k : Nat} (h : s.size ≤ k) : rest s k = [] := by
  unfold rest
  rw [List.drop_eq_nil_of_le (by rw [← ba_size]; exact h)]
  rfl
theorem rest_cons {s : ByteArray} {k : Nat} (h : k < s.size) : ∃ b : UInt8, s[k]? = some b ∧ rest s k = (b.toNat : Int) :: rest s (k + 1) := by
  have hl : k < s.data.toList.length := by rw [← ba_size]; exact h
  refine ⟨s.data.toList[k], ?_, ?_⟩
  · rw [getElem?_pos s k h]; rfl
  · unfold rest
    rw [List.drop_eq_getElem_cons hl]
    rfl
theorem rest_len (s : ByteArray) (k : Nat) : (rest s k).length = s.size - k := by unfold rest; rw [List.length_map, List.length_drop, ← ba_size]
theorem Rd.take_nil {r : Rd} (h : r.u = []) : r.take = (0, ⟨[], r.L, true⟩) := by unfold take; rw [h]
theorem Rd.take_of {r : Rd} {c : Int} {v : List Int} (h : r.u = c :: v) : r.take = (c, ⟨v, r.L, r.bad⟩) := by unfold take; rw [h]
theorem MStep.subU8 {P : Program} {fr : Slots} {H : GHeap} {t u : TypeId} {x y : Operand} {a b : Int} (hx : ev fr x = some (.int .u8 a)) (hy : ev fr y = some (.int .u8 b)) (h0 : 0 ≤ a - b) (h1 : a - b ≤ 255) : MStep P fr H (.binOp .sub t x y u) (.int .u8 (a - b)) := by
  refine .arith hx hy ?_
  simp only [arithI, Option.some.injEq]
  rw [IntKind.wrap_u8]
  omega
theorem Rd.dig_no {r : Rd} (h : r.take.1 < 48 ∨ r.take.1 > 57) : r.dig = (0, ⟨r.take.2.u, r.L, true⟩) := by unfold dig; rw [if_pos h]
theorem Rd.dig_yes {r : Rd} (h : ¬ (r.take.1 < 48 ∨ r.take.1 > 57)) : r.dig = (r.take.1 - 48, r.take.2) := by unfold dig; rw [if_neg h]
theorem Rd.want_yes {r : Rd} {b : Int} (h : r.take.1 = b) : r.want b = r.take.2 := by unfold want; rw [if_pos h]
theorem Rd.want_no {r : Rd} {b : Int} (h : ¬ r.take.1 = b) : r.want b = ⟨r.take.2.u, r.L, true⟩ := by unfold want; rw [if_neg h]
def RdR (T : TypeId) (H : GHeap) (gR : Nat) (s : ByteArray) (sl : Value) (r : Rd) : Prop := ∃ k : Nat, k ≤ s.size ∧ rest s k = r.u ∧ H.get gR = some (.row [.string s, .int .i64 (k : Int), sl, .bool r.bad] T true)
end Go.GL
namespace Go.Proofs.YtdnjnligclkkgaaDoor
open Go Go.GL Go.RowKit Go.Proofs
theorem fo_30_1_Ua : fieldOff Tryd.prog 30 1 = some 1 := by kernel_rfl
theorem on_3_Ua : oneT Tryd.prog 3 = true := by kernel_rfl
theorem fo_30_0_Ua : fieldOff Tryd.prog 30 0 = some 0 := by kernel_rfl
theorem on_9_Ua : oneT Tryd.prog 9 = true := by kernel_rfl
theorem st_9_Ua : isStringT Tryd.prog 9 = true := by kernel_rfl
theorem fo_30_3_Ua : fieldOff Tryd.prog 30 3 = some 3 := by kernel_rfl
theorem sz_4_Ua : (Tryd.prog.info? 4).map (·.size) = some 1 := by kernel_rfl
theorem sz_3_Ua : (Tryd.prog.info? 3).map (·.size) = some 1 := by kernel_rfl
theorem us_5_Ua : (Tryd.prog.underlying 5).isSome = true := by kernel_rfl
theorem it_2_Ua : intT Tryd.prog 2 = some .i64 := by kernel_rfl
def RdQ (gR : Nat) (s : ByteArray) (sl : Value) (r : Rd) (x : Value) (H : GHeap) (v : Value) (H' : GHeap) : Prop := v = x ∧ St [gR] H H' ∧ RdR 30 H' gR s sl r
theorem l29Take_c {gR : Nat} {s : ByteArray} {sl : Value} {r : Rd} {H : GHeap} (hr : RdR 30 H gR s sl r := by assumption) (hs : s.size ≤ 1048576 := by omega) :
    GCalls Tryd.prog 15 [.pointer (some ⟨gR, 0, none⟩)] H (RdQ gR s sl r.take.2 (.int .u8 r.take.1) H) := by
  obtain ⟨k, hk, hu, hg⟩ := hr
  refine GCalls.body (N := 34) (rs := [.tmp 2]) Tryd.func15 rfl rfl rfl rfl (fun Qx h hend => ?_)
  refine .fg [0] rfl ?_
  have _ := GHeap.ltg hg
  have g := St.refl [gR] H
  refine .seq (fun K1 j => .region (.mv rfl (.nil (j _ _ (.seq (fun K2 l => .seq (fun K3 m => ?_)))))))
  refine .regionD mo_E (.qs [0, 1, 2, 3, 4, 5, 6, 7, 8, 9] (.done)) (by kernel_rfl) ?_
  refine .mv rfl rfl (.q rfl (.nilCheck rfl) (.q rfl (.fieldAddr fo_30_1_Ua rfl) ?_))
  refine .q rfl (.load on_3_Ua rfl (by first | assumption | exact Mem.of_get hg 1 _ rfl)) ?_
  refine .mv rfl rfl (.q rfl (.nilCheck rfl) (.q rfl (.fieldAddr fo_30_0_Ua rfl) ?_))
  refine .q rfl (.load on_9_Ua rfl (by first | assumption | exact Mem.of_get hg 0 _ rfl)) ?_
  refine .q rfl (.lenStr st_9_Ua rfl) (.q rfl (.cmp rfl rfl rfl) (.done (m _ _ ?_)))
  refine .cond rfl ?_ ?_ <;> intro i
  ·
   simp only [sps] at i
   have e := Rd.take_nil (r := r) (by rw [← hu, rest_nil (by omega)])
   refine .seq (fun K4 o => .region (.mv rfl (.q rfl (.nilCheck rfl) (.q rfl (.fieldAddr fo_30_3_Ua rfl) ?_))))
   refine .r0 rfl rfl (.storeR rfl sz_4_Ua rfl rfl rfl (by assumption) (by first | exact Nat.le_of_ble_eq_true rfl | (simp; done) | (simp <;> omega))) ?_
   rintro _ _ ⟨rfl, c, d⟩
   have _ := c.nx
   replace g := g.sA c
   have _ := GHeap.ltg d
   try simp only [Nat.zero_add, List.set_cons_succ, List.set_cons_zero] at d
   refine .nil (o _ _ (.seq (fun K5 n => .region (.mv rfl (.nil (n _ _ (.ret (h _ _ (⟨_, rfl, ?_⟩)))))))))
   rw [e]
   exact ⟨rfl, g, k, hk, rest_nil (by omega), by assumption⟩
  simp only [sps] at i
  obtain ⟨b, hb, hc⟩ := rest_cons (s := s) (k := k) (by omega)
  have _ : s[((k : Int) + 1 - 1).toNat]? = some b := by rw [show ((k : Int) + 1 - 1).toNat = k by omega]; exact hb
  have e := Rd.take_of (r := r) (hu.symm.trans hc)
  refine .skip (l _ _ (.seq (fun K6 p => .region (.mv rfl (.mv rfl (.q rfl (.nilCheck rfl) (.q rfl (.fieldAddr fo_30_1_Ua rfl) ?_)))))))
  refine .q rfl (.load on_3_Ua rfl (by first | assumption | exact Mem.of_get hg 1 _ rfl)) ?_
  refine .q rfl (.aD rfl rfl rfl) (.q rfl (.nilCheck rfl) (.q rfl (.fieldAddr fo_30_1_Ua rfl) ?_))
  refine .r0 rfl rfl (.storeR rfl sz_3_Ua rfl rfl rfl (by assumption) (by first | exact Nat.le_of_ble_eq_true rfl | (simp; done) | (simp <;> omega))) ?_
  rintro _ _ ⟨rfl, f, a⟩
  have _ := f.nx
  replace g := g.sA f
  have _ := GHeap.ltg a
  try simp only [Nat.zero_add, List.set_cons_succ, List.set_cons_zero] at a
  refine .nil (p _ _ (.seq (fun K7 t => ?_)))
  refine .regionD mo_E (.qs [0, 1, 2, 3, 4, 5, 6, 7, 8, 9, 10] (.done)) (by kernel_rfl) ?_
  refine .mv rfl rfl (.q rfl (.nilCheck rfl) (.q rfl (.fieldAddr fo_30_0_Ua rfl) ?_))
  refine .q rfl (.load on_9_Ua rfl (by first | assumption | exact Mem.of_get a 0 _ rfl)) ?_
  refine .mv rfl rfl (.q rfl (.nilCheck rfl) (.q rfl (.fieldAddr fo_30_1_Ua rfl) ?_))
  refine .q rfl (.load on_3_Ua rfl (by first | assumption | exact Mem.of_get a 1 _ rfl)) ?_
  refine .q rfl (.sub rfl rfl rfl (by omega) (by omega)) ?_
  refine .q rfl (.indexStr st_9_Ua rfl rfl (by omega) (by assumption)) ?_
  refine .mv rfl rfl (.done (t _ _ (.ret (h _ _ (⟨_, rfl, ?_⟩)))))
  rw [e]
  exact ⟨rfl, g, k + 1, by omega, rfl, by assumption⟩
theorem l29Digit_c {gR : Nat} {s : ByteArray} {sl : Value} {r : Rd} {H : GHeap} (hr : RdR 30 H gR s sl r := by assumption) (hs : s.size ≤ 1048576 := by omega) :
    GCalls Tryd.prog 17 [.pointer (some ⟨gR, 0, none⟩)] H (RdQ gR s sl r.dig.2 (.int .i64 r.dig.1) H) := by
  obtain ⟨k, hk, hu, hg⟩ := hr
  refine GCalls.body (N := 18) (rs := [.tmp 2]) Tryd.func17 rfl rfl rfl rfl (fun Qx f hend => ?_)
  refine .fg [0] rfl ?_
  have _ := GHeap.ltg hg
  have c := St.refl [gR] H
  refine .seq (fun K1 v => .region (.mv rfl (.nil (v _ _ (.seq (fun K2 m => .region (.mv rfl ?_)))))))
  refine .call rfl rfl rfl rfl @Tryd.call15 rfl (l29Take_c ⟨k, hk, hu, hg⟩) ?_
  rintro _ _ ⟨rfl, i, k5, g, h, t⟩
  have _ := i.nx
  replace c := c.sA i
  have _ := GHeap.ltg t
  refine .mv rfl (.nil (m _ _ (.seq (fun K3 w => .seq (fun K4 j => .region (.mv rfl (.q rfl (.cmp rfl rfl rfl) (.mv rfl ?_))))))))
  refine .split (fun h8 => ?_) (fun h8 => ?_)
  ·
   simp only [sps] at h8
   refine .z rfl (.z rfl (.q rfl (.pickT rfl rfl) (.nil (j _ _ ?_))))
   refine .condT rfl ?_
   refine .seq (fun K5 o => .region (.mv rfl (.q rfl (.nilCheck rfl) (.q rfl (.fieldAddr fo_30_3_Ua rfl) ?_))))
   refine .r0 rfl rfl (.storeR rfl sz_4_Ua rfl rfl rfl (by assumption) (by first | exact Nat.le_of_ble_eq_true rfl | (simp; done) | (simp <;> omega))) ?_
   rintro _ _ ⟨rfl, d, e⟩
   have _ := d.nx
   replace c := c.sA d
   have _ := GHeap.ltg e
   try simp only [Nat.zero_add, List.set_cons_succ, List.set_cons_zero] at e
   refine .nil (o _ _ (.seq (fun K6 p => .region (.mv rfl (.nil (p _ _ (.ret (f _ _ (⟨_, rfl, ?_⟩)))))))))
   first
   | exact ⟨by rw [Rd.dig_no (by omega)], c, k5, g, by rw [Rd.dig_no (by omega)]; exact h, by rw [Rd.dig_no (by omega)]; assumption⟩
   | exact ⟨by rw [Rd.dig_yes (by omega)], c, k5, g, by rw [Rd.dig_yes (by omega)]; exact h, by rw [Rd.dig_yes (by omega)]; assumption⟩
  simp only [sps] at h8
  refine .qg rfl (.move rfl) (.qg rfl (.cmp rfl rfl rfl) (.q rfl (.pickF rfl rfl) (.nil (j _ _ ?_))))
  refine .cond rfl ?_ ?_ <;> intro l
  ·
   simp only [sps] at l
   refine .seq (fun K7 x => .region (.mv rfl (.q rfl (.nilCheck rfl) (.q rfl (.fieldAddr fo_30_3_Ua rfl) ?_))))
   refine .r0 rfl rfl (.storeR rfl sz_4_Ua rfl rfl rfl (by assumption) (by first | exact Nat.le_of_ble_eq_true rfl | (simp; done) | (simp <;> omega))) ?_
   rintro _ _ ⟨rfl, b, a⟩
   have _ := b.nx
   replace c := c.sA b
   have _ := GHeap.ltg a
   try simp only [Nat.zero_add, List.set_cons_succ, List.set_cons_zero] at a
   refine .nil (x _ _ (.seq (fun K8 n => .region (.mv rfl (.nil (n _ _ (.ret (f _ _ (⟨_, rfl, ?_⟩)))))))))
   first
   | exact ⟨by rw [Rd.dig_no (by omega)], c, k5, g, by rw [Rd.dig_no (by omega)]; exact h, by rw [Rd.dig_no (by omega)]; assumption⟩
   | exact ⟨by rw [Rd.dig_yes (by omega)], c, k5, g, by rw [Rd.dig_yes (by omega)]; exact h, by rw [Rd.dig_yes (by omega)]; assumption⟩
  simp only [sps] at l
  refine .skip (w _ _ (.seq (fun K9 u => .region (.mv rfl ?_))))
  refine .q rfl (.subU8 rfl rfl (by omega) (by omega)) ?_
  refine .q rfl (.conv64 us_5_Ua it_2_Ua rfl (by omega) (by omega)) ?_
  refine .mv rfl (.nil (u _ _ (.ret (f _ _ (⟨_, rfl, ?_⟩)))))
  first
  | exact ⟨by rw [Rd.dig_no (by omega)], c, k5, g, by rw [Rd.dig_no (by omega)]; exact h, by rw [Rd.dig_no (by omega)]; assumption⟩
  | exact ⟨by rw [Rd.dig_yes (by omega)], c, k5, g, by rw [Rd.dig_yes (by omega)]; exact h, by rw [Rd.dig_yes (by omega)]; assumption⟩
theorem l29Want_c {gR : Nat} {s : ByteArray} {sl : Value} {r : Rd} {b : Int} {H : GHeap} (hr : RdR 30 H gR s sl r := by assumption) (hs : s.size ≤ 1048576 := by omega) :
    GCalls Tryd.prog 18 [.pointer (some ⟨gR, 0, none⟩), .int .u8 b] H (RdQ gR s sl (r.want b) (.tuple #[]) H) := by
  obtain ⟨k, hk, hu, hg⟩ := hr
  refine GCalls.body (N := 11) (rs := []) Tryd.func18 rfl rfl rfl rfl (fun Qx hret e => ?_)
  refine .fg [0, 1] rfl ?_
  have _ := GHeap.ltg hg
  have d := St.refl [gR] H
  refine .seq (fun K1 i => .region (.mv rfl ?_))
  refine .call rfl rfl rfl rfl @Tryd.call15 rfl (l29Take_c ⟨k, hk, hu, hg⟩) ?_
  rintro _ _ ⟨rfl, h, k5, g, f, j⟩
  have _ := h.nx
  replace d := d.sA h
  have _ := GHeap.ltg j
  refine .mv rfl (.q rfl (.cmp rfl rfl rfl) (.nil (i _ _ ?_)))
  refine .cond rfl ?_ ?_ <;> intro h7
  ·
   simp only [sps] at h7
   refine .region (.mv rfl (.q rfl (.nilCheck rfl) (.q rfl (.fieldAddr fo_30_3_Ua rfl) ?_)))
   refine .r0 rfl rfl (.storeR rfl sz_4_Ua rfl rfl rfl (by assumption) (by first | exact Nat.le_of_ble_eq_true rfl | (simp; done) | (simp <;> omega))) ?_
   rintro _ _ ⟨rfl, a, c⟩
   have _ := a.nx
   replace d := d.sA a
   have _ := GHeap.ltg c
   try simp only [Nat.zero_add, List.set_cons_succ, List.set_cons_zero] at c
   refine .nil ?_
   refine e _ _ ?_
   first
   | exact ⟨rfl, d, k5, g, by rw [Rd.want_no (by omega)]; exact f, by rw [Rd.want_no (by omega)]; assumption⟩
   | exact ⟨rfl, d, k5, g, by rw [Rd.want_yes (by omega)]; exact f, by rw [Rd.want_yes (by omega)]; assumption⟩
  simp only [sps] at h7
  refine .skip ?_
  refine e _ _ ?_
  first
  | exact ⟨rfl, d, k5, g, by rw [Rd.want_no (by omega)]; exact f, by rw [Rd.want_no (by omega)]; assumption⟩
  | exact ⟨rfl, d, k5, g, by rw [Rd.want_yes (by omega)]; exact f, by rw [Rd.want_yes (by omega)]; assumption⟩
end Go.Proofs.YtdnjnligclkkgaaDoor
namespace Go.GL
open Go.RowKit
abbrev ndz : Nd := ⟨0, 0, []⟩
def Nd.cells (x : Nd) (a : Option Addr) : List Value := [.int .i64 x.k, .int .i64 x.s, .slice a x.az.length x.az.length]
theorem flatK_len {f : Nat → List Value} {k : Nat} (h : ∀ i, (f i).length = k) : ∀ m, ((List.range m).flatMap f).length = m * k
  | 0 => by simp
  | m + 1 => by
    rw [List.range_succ, List.flatMap_append, List.length_append, flatK_len h m, Nat.succ_mul]
    simp [h]
theorem flatK_get {f : Nat → List Value} {k : Nat} (h : ∀ i, (f i).length = k) : ∀ {n i j : Nat}, i < n → j < k → ((List.range n).flatMap f)[i * k + j]? = (f i)[j]?
  | 0, _, _, hi, _ => by omega
  | n + 1, i, j, hi, hj => by
    rw [List.range_succ, List.flatMap_append]
    by_cases e : i < n
    · have := Nat.mul_le_mul_right k (show i + 1 ≤ n from e)
      rw [Nat.succ_mul] at this
      rw [List.getElem?_append_left (by rw [flatK_len h]; omega)]
      exact flatK_get h e hj
    · obtain rfl : i = n := by omega
      rw [List.getElem?_append_right (by rw [flatK_len h]; omega), flatK_len h, Nat.add_sub_cancel_left]
      simp
def ndV (r : Nat → Option Addr) (L : List Nd) : List Value := (List.range L.length).flatMap fun i => (L.getD i ndz).cells (r i)
theorem length_ndV (r : Nat → Option Addr) (L : List Nd) : (ndV r L).length = L.length * 3 := flatK_len (f := fun i => (L.getD i ndz).cells (r i)) (fun _ => rfl) _
theorem ndV_snoc {r : Nat → Option Addr} {L : List Nd} {x : Nd} {a : Option Addr} : ndV (upd r L.length a) (L ++ [x]) = ndV r L ++ x.cells a := by
  unfold ndV
  rw [List.length_append, List.length_singleton, List.range_succ, List.flatMap_append]
  congr 1
  · refine flatMap_congr' fun i hi => ?_
    have := List.mem_range.1 hi
    rw [show (L ++ [x]).getD i ndz = L.getD i ndz by simp [List.getD_eq_getElem?_getD, List.getElem?_append_left this], upd_ne (by omega)]
  · simp [upd_eq, List.getD_eq_getElem?_getD]
theorem ndV_mem {H : GHeap} {g : Nat} {e : TypeId} {own : Bool} {r : Nat → Option Addr} {L : List Nd} (hg : H.get g = some (.row (ndV r L) e own)) {i : Nat} (hi : i < L.length) : MemN H g (0 + (i : Int).toNat * 3) 3 ((L.getD i ndz).cells (r i)) := by
  refine ⟨rfl, fun j v hv => ?_⟩
  have hj : j < 3 := (List.getElem?_eq_some_iff.1 hv).1
  rw [GHeap.cell_of hg, Int.toNat_natCast, Nat.zero_add]
  unfold ndV
  rw [flatK_get (f := fun i => (L.getD i ndz).cells (r i)) (fun _ => rfl) hi hj]
  exact hv
theorem ndV_slA {H : GHeap} {g : Nat} {e : TypeId} {r : Nat → Option Addr} {L : List Nd} (hg : H.get g = some (.row (ndV r L) e true)) : SlA H (some ⟨g, 0, none⟩) (L.length * 3) (fun i => (ndV r L).getD i (.bool false)) := SlA.of_row hg (length_ndV _ _)
theorem eat_step {L : List Nd} {i o : Nat} (hi : i < L.length) : eat (o + 1) (L.drop i) = (eat (o + prt (L.getD i ndz).k) (L.drop (i + 1))).map (· + 1) := by
  rw [List.drop_eq_getElem_cons hi, show L.getD i ndz = L[i] by simp [List.getD_eq_getElem?_getD, hi]]
  rfl
theorem eat_next {L : List Nd} {i o : Nat} (hi : i < L.length) (h : eat 1 L = (eat (o + 1) (L.drop i)).map (· + i)) : eat 1 L = (eat (o + prt (L.getD i ndz).k) (L.drop (i + 1))).map (· + (i + 1)) := by
  rw [h, eat_step hi, Option.map_map]
  congr 1
  funext n
  show n + 1 + i = n + (i + 1)
  omega
theorem prt_le (k : Int) : prt k ≤ 2 := by unfold prt; split <;> (try split) <;> omega
def endV (L : List Nd) : Int := match eat 1 L with
  | some i => i
  | none => -1
theorem endV_some {L : List Nd} {i : Nat} (h : eat 1 L = (eat 0 (L.drop i)).map (· + i)) : endV L = i := by
  unfold endV
  rw [h]
  cases L.drop i <;> simp [eat]
theorem endV_none {L : List Nd} {i o : Nat} (hi : L.length ≤ i) (h : eat 1 L = (eat (o + 1) (L.drop i)).map (· + i)) : endV L = -1 := by
  unfold endV
  rw [h, List.drop_eq_nil_of_le hi]
  rfl
theorem endV_len {L : List Nd} : endV L = L.length ↔ eat 1 L = some L.length := by
  unfold endV
  cases e : eat 1 L with
  | none => simp
  | some i => simp only [Option.some.injEq]; omega
theorem Nd.ok_as (x : Nd) : allIn x.az 4 = true ↔ ∀ v ∈ x.az, Sm v := by
  rw [allIn_iff]
  constructor
  · intro h v hv
    obtain ⟨i, hi, e⟩ := mem_getD hv
    have := h i hi
    rw [e] at this
    exact this
  · intro h i hi
    have := h _ (getD_mem hi)
    exact this
theorem all_nd {L : List Nd} {p : Nd → Prop} : (∀ x ∈ L, p x) ↔ ∀ i, i < L.length → p (L.getD i ndz) := by
  constructor
  · intro h i hi
    rw [show L.getD i ndz = L[i] by simp [List.getD_eq_getElem?_getD, hi]]
    exact h _ (List.getElem_mem hi)
  · intro h x hx
    obtain ⟨i, hi, rfl⟩ := List.getElem_of_mem hx
    have := h i hi
    rwa [show L.getD i ndz = L[i] by simp [List.getD_eq_getElem?_getD, hi]] at this
theorem IsF.of {L : List Nd} (h0 : 1 ≤ L.length ∧ L.length ≤ 40) (h : ∀ i, i < L.length → (L.getD i ndz).Ok) : IsF L ↔ endV L = L.length := by
  rw [endV_len]
  exact ⟨fun q => q.2.2, fun q => ⟨h0, all_nd.2 h, q⟩⟩
theorem IsF.no {L : List Nd} (h : ¬ (1 ≤ L.length ∧ L.length ≤ 40)) : ¬ IsF L := fun q => h q.1
theorem IsF.nd {L : List Nd} {i : Nat} (hi : i < L.length) (h : ¬ (L.getD i ndz).Ok) : ¬ IsF L := fun q => h (all_nd.1 q.2.1 i hi)
theorem Nd.ok_no {x : Nd} (h : ¬ ∀ v ∈ x.az, Sm v) : ¬ x.Ok := fun q => h q.1
theorem Nd.ok_2 {x : Nd} (h : ∀ v ∈ x.az, Sm v) (e : x.k = 2) : x.Ok ↔ (0 ≤ x.s ∧ x.s ≤ 3) ∧ x.az.length ≤ 2 := by unfold Nd.Ok; rw [if_pos e]; exact ⟨fun q => q.2, fun q => ⟨h, q⟩⟩
theorem Nd.ok_3 {x : Nd} (h : ∀ v ∈ x.az, Sm v) (e : x.k = 3) : x.Ok ↔ x.s = 0 ∧ x.az.length = 2 := by unfold Nd.Ok; rw [if_neg (by omega), if_pos e]; exact ⟨fun q => q.2, fun q => ⟨h, q⟩⟩
theorem Nd.ok_7 {x : Nd} (h : ∀ v ∈ x.az, Sm v) (e : x.k = 7 ∨ x.k = 8) : x.Ok ↔ (0 ≤ x.s ∧ x.s ≤ 2) ∧ x.az.length = 0 := by unfold Nd.Ok; rw [if_neg (by omega), if_neg (by omega), if_pos e]; exact ⟨fun q => q.2, fun q => ⟨h, q⟩⟩
theorem Nd.ok_0 {x : Nd} (h : ∀ v ∈ x.az, Sm v) (e : ¬ (x.k = 2 ∨ x.k = 3 ∨ x.k = 7 ∨ x.k = 8)) : x.Ok ↔ (0 ≤ x.k ∧ x.k ≤ 8) ∧ x.s = 0 ∧ x.az.length = 0 := by unfold Nd.Ok; rw [if_neg (by omega), if_neg (by omega), if_neg (by omega)]; exact ⟨fun q => q.2, fun q => ⟨h, q⟩⟩
theorem B_as {p : Prop} {b : Bool} (h : b = true ↔ p) : B p = b := by
  by_cases q : p
  · rw [B_true q]; exact (h.2 q).symm
  · rw [B_false q]; exact (Bool.eq_false_iff.2 fun e => q (h.1 e)).symm
end Go.GL
namespace Go.GL
open Go.RowKit
def Ag (e : TypeId) (B : Nat) (H : GHeap) (a : Option Addr) (az : List Int) : Prop := (a = none ∧ az = []) ∨ ∃ g, a = some ⟨g, 0, none⟩ ∧ B ≤ g ∧ H.get g = some (.row (ints az) e true)
theorem Ag.le {e : TypeId} {B : Nat} {H H' : GHeap} {a : Option Addr} {az : List Int} (h : Ag e B H a az) (s : H.Le H') : Ag e B H' a az := by
  rcases h with h | ⟨g, h1, h2, h3⟩
  · exact .inl h
  · exact .inr ⟨g, h1, h2, s.2 _ _ h3⟩
theorem Ag.ints {e : TypeId} {B : Nat} {H : GHeap} {a : Option Addr} {az : List Int} (h : Ag e B H a az) : Ints H a az := by
  rcases h with ⟨rfl, rfl⟩ | ⟨g, rfl, _, h3⟩
  · exact .inl rfl
  · exact Ints.of_get h3
def AgN (e : TypeId) (B : Nat) (H : GHeap) (r : Nat → Option Addr) (L : List Nd) : Prop := ∀ i, i < L.length → Ag e B H (r i) (L.getD i ndz).az
theorem AgN.le {e : TypeId} {B : Nat} {H H' : GHeap} {r : Nat → Option Addr} {L : List Nd} (h : AgN e B H r L) (s : H.Le H') : AgN e B H' r L := fun i hi => (h i hi).le s
theorem AgN.snoc {e : TypeId} {B : Nat} {H : GHeap} {r : Nat → Option Addr} {L : List Nd} {x : Nd} {a : Option Addr} (h : AgN e B H r L) (hx : Ag e B H a x.az) : AgN e B H (upd r L.length a) (L ++ [x]) := fun i hi => by
  rw [List.length_append, List.length_singleton] at hi
  by_cases q : i < L.length
  · rw [show (L ++ [x]).getD i ndz = L.getD i ndz by simp [List.getD_eq_getElem?_getD, List.getElem?_append_left q], upd_ne (by omega)]
    exact h i q
  · obtain rfl : i = L.length := by omega
    rw [upd_eq, show (L ++ [x]).getD L.length ndz = x by simp [List.getD_eq_getElem?_getD]]
    exact hx
theorem St.er2 {H H' : GHeap} {g k k' : Nat} (s : St [g, k] H H') (hk : k' = k ∨ H.next ≤ k') : ((H.set g none).set k none).Le ((H'.set g none).set k' none) := ⟨by simp only [GHeap.next_set]; exact s.nx, fun x o hx => by
  obtain ⟨h1, h2⟩ := GHeap.get_erase hx
  obtain ⟨h3, h4⟩ := GHeap.get_erase h2
  have hl := GHeap.ltg h4
  exact GHeap.get_erase_of (GHeap.get_erase_of (s.same x o ⟨h3, h1, trivial⟩ h4) h3) (by rcases hk with rfl | hk <;> omega)⟩
theorem St.er1 {H H' : GHeap} {g k : Nat} (s : St [g] H H') : ((H.set g none).set k none).Le ((H'.set g none).set k none) := ⟨by simp only [GHeap.next_set]; exact s.nx, fun x o hx => by
  obtain ⟨h1, h2⟩ := GHeap.get_erase hx
  obtain ⟨h3, h4⟩ := GHeap.get_erase h2
  exact GHeap.get_erase_of (GHeap.get_erase_of (s.same x o ⟨h3, trivial⟩ h4) h3) h1⟩
structure RdN (TR TN e : TypeId) (B : Nat) (H : GHeap) (gR gL : Nat) (s : ByteArray) (r : Rd) (rr : Nat → Option Addr) : Prop where
  rd : RdR TR H gR s (.slice (nz r.L.length gL) r.L.length r.L.length) r
  no : NO H gL (ndV rr r.L) TN r.L.length
  ne : gL ≠ gR
  ag : AgN e B ((H.set gR none).set gL none) rr r.L
end Go.GL
namespace Go.Proofs.YtdnjnligclkkgaaDoor
open Go Go.GL Go.RowKit Go.Proofs
theorem on_22_Uc : oneT Tryd.prog 22 = true := by kernel_rfl
theorem ag_38_Uc : aggT Tryd.prog 38 = some 3 := by kernel_rfl
theorem sz_38_Uc : (Tryd.prog.info? 38).map (·.size) = some 3 := by kernel_rfl
theorem fo_30_2_Uc : fieldOff Tryd.prog 30 2 = some 2 := by kernel_rfl
theorem sl_22_Uc : sliceT Tryd.prog 22 = some (38, 3) := by kernel_rfl
theorem ze_38_Uc : zeroT Tryd.prog 38 = some ([.int .i64 0, .int .i64 0, .slice none 0 0], 3) := by kernel_rfl
theorem by_38_Uc : (Tryd.prog.info? 38).map (·.bytes) = some 40 := by kernel_rfl
theorem sz_22_Uc : (Tryd.prog.info? 22).map (·.size) = some 1 := by kernel_rfl
def RnQ (B gR gL : Nat) (s : ByteArray) (r : Rd) (x : Value) (H : GHeap) (v : Value) (H' : GHeap) : Prop := v = x ∧ St [gR, gL] H H' ∧ ∃ gL' rr', (gL' = gL ∨ H.next ≤ gL') ∧ RdN 30 38 2 B H' gR gL' s r rr'
theorem l29Put_c {B gR gL : Nat} {s : ByteArray} {r : Rd} {rr : Nat → Option Addr} {x : Nd} {a : Option Addr} {H : GHeap} (hr : RdN 30 38 2 B H gR gL s r rr) (ha : Ag 2 B ((H.set gR none).set gL none) a x.az) (hl : r.L.length ≤ 40) (hx : x.az.length ≤ 1048576) :
    GCalls Tryd.prog 16 [.pointer (some ⟨gR, 0, none⟩), .agg (x.cells a).toArray] H (RnQ B gR gL s (r.put x) (.tuple #[]) H) := by
  obtain ⟨⟨k, hk, hu, hg⟩, h, ne, ag⟩ := hr
  refine GCalls.body (N := 23) (rs := []) Tryd.func16 rfl rfl rfl rfl (fun Qx a4 a3 => ?_)
  refine .fg [0, 1] rfl ?_
  have _ := GHeap.ltg hg
  have l := St.refl [gR, gL] H
  refine .seq (fun K1 a8 => .region ?_)
  refine .R rfl (.boxR rfl sz_38_Uc rfl) ?_
  rintro _ H3 ⟨g3, rfl, a2, _, j⟩
  have _ := a2.1
  replace l := l.le a2
  replace hg := a2.2 _ _ hg
  have _ := GHeap.ltg j
  have z : MemN _ _ _ _ _ := ⟨rfl, Mem.of_get j⟩
  refine .nil (a8 _ _ (.seq (fun K2 a5 => .seq (fun K3 a9 => .region ?_))))
  have _ := length_ndV rr r.L
  have _ := h.lt
  have h := h.le a2
  refine .mv rfl ?_
  have _ := h.lt
  refine .q rfl (.nilCheck rfl) (.q rfl (.fieldAddr fo_30_2_Uc rfl) ?_)
  refine .q rfl (.load on_22_Uc rfl (by first | assumption | exact Mem.of_get hg 2 _ rfl)) ?_
  refine .q rfl (.len sl_22_Uc rfl) (.q rfl (.cmp rfl rfl rfl) (.nil (a9 _ _ ?_)))
  refine .cond rfl ?_ ?_ <;> intro h9
  ·
   simp only [sps] at h9
   refine .seq (fun K4 a7 => .region (.mv rfl (.q rfl (.nilCheck rfl) (.q rfl (.fieldAddr fo_30_3_Ua rfl) ?_))))
   refine .r0 rfl rfl (.storeR rfl sz_4_Ua rfl rfl rfl (by assumption) (by first | exact Nat.le_of_ble_eq_true rfl | (simp; done) | (simp <;> omega))) ?_
   rintro _ _ ⟨rfl, i, y⟩
   have _ := i.nx
   replace l := l.sA i
   have b : NE g3 gR := .a
   replace j := i.s j b.ne
   replace h := h.st i ⟨(by first | assumption | omega), trivial⟩
   have _ := GHeap.ltg y
   clear z
   have z : MemN _ _ _ _ _ := ⟨rfl, Mem.of_get j⟩
   try simp only [Nat.zero_add, List.set_cons_succ, List.set_cons_zero] at y
   refine .nil (a7 _ _ (.ret (a4 _ _ ?_)))
   have e : r.put x = ⟨r.u, r.L, true⟩ := by unfold Rd.put; rw [if_pos (by omega)]
   rw [e]
   exact ⟨rfl, l, gL, rr, .inl rfl, ⟨⟨k, hk, hu, by assumption⟩, h, ne, ag.le (l.er2 (.inl rfl))⟩⟩
  simp only [sps] at h9
  refine .skip (a5 _ _ ?_)
  refine .regionDB mo_E (.qs [0, 1, 2, 3, 4, 5] (.c 6 1 (.c 7 1 (.q 8 (.q 9 (.c 10 0 (.done))))))) (by kernel_rfl) (GHeap.le_erase H3 gL) ?_
  have t := GHeap.le_erase H3 gL
  have aRB := GHeap.get_erase_of (g := gL) hg (Ne.symm ne)
  have a6 := GHeap.get_erase_of (g := gL) j (by omega)
  refine .cut [(0, some _), (1, some _), (3, some _), (4, some _), (5, some _), (6, some _), (7, some _), (8, some _), (9, some _)] (.p rfl) (fun rest fr' H' => ∃ (gV : Nat), Sub rest fr' ∧ St [gR, gL] H3 H' ∧ H3.next ≤ gV ∧ H'.get gV = some (.row (ndV rr r.L ++ x.cells a) 38 true) ∧ H'.get gR = some (.row [.string s, .int .i64 (k : Int), .slice (some ⟨gV, 0, none⟩) (r.L.length + 1) (r.L.length + 1), .bool r.bad] 30 true)) ?_ ?_
  ·
   have a1 := St.refl [gR, gL] H3
   refine .qB rfl t (.move rfl) (.qB rfl t (.move rfl) (.qB rfl t (.nilCheck rfl) (.qB rfl t (.fieldAddr fo_30_2_Uc rfl) (.qB rfl t (.load on_22_Uc rfl (Mem.of_get aRB 2 _ rfl)) ?_))))
   refine .qB rfl t (.loadM ag_38_Uc rfl ⟨rfl, Mem.of_get a6⟩) ?_
   refine .c1 rfl rfl rfl rfl (.litA rfl sl_22_Uc ze_38_Uc rfl rfl rfl rfl) ?_
   rintro _ _ ⟨_, rfl, m, _, v⟩
   replace t := t.trans m
   refine ⟨t, ?_⟩
   have _ := m.1
   replace l := l.le m
   replace a1 := a1.le m
   replace hg := m.2 _ _ hg
   replace j := m.2 _ _ j
   replace h := h.le m
   have _ := GHeap.ltg v
   clear z
   have z : MemN _ _ _ _ _ := ⟨rfl, Mem.of_get j⟩
   refine .c1 rfl rfl rfl rfl (.appendNO rfl sl_22_Uc ze_38_Uc rfl by_38_Uc sl_22_Uc rfl rfl h (by assumption) (by first | omega | (simp <;> omega)) rfl rfl (by omega) (by omega)) ?_
   rintro _ _ ⟨_, rfl, n, _, a0⟩
   replace t := t.erase_st n
   refine ⟨t, ?_⟩
   have _ := n.nx
   replace l := l.sA n
   replace a1 := a1.sA n
   replace hg := n.s hg
   have f : NE g3 gL := .a
   replace j := n.s j f.ne
   replace v := n.s v
   have _ := GHeap.ltg a0
   clear z
   have z : MemN _ _ _ _ _ := ⟨rfl, Mem.of_get j⟩
   refine .qB rfl t (.nilCheck rfl) (.qB rfl t (.fieldAddr fo_30_2_Uc rfl) ?_)
   refine .r0 rfl rfl rfl (.storeR rfl sz_22_Uc rfl rfl rfl (by assumption) (by first | exact Nat.le_of_ble_eq_true rfl | (simp; done) | (simp <;> omega))) ?_
   rintro _ _ ⟨rfl, d, o⟩
   have _ := d.nx
   replace l := l.sA d
   replace a1 := a1.sA d
   have b : NE g3 gR := .a
   replace j := d.s j b.ne
   replace v := d.s v
   replace a0 := d.s a0
   have _ := GHeap.ltg o
   clear z
   have z : MemN _ _ _ _ _ := ⟨rfl, Mem.of_get j⟩
   try simp only [Nat.zero_add, List.set_cons_succ, List.set_cons_zero] at o
   refine .done ?_
   exact ⟨_, (.p rfl), a1, by omega, a0, o⟩
  rintro _ _ ⟨gV, _, w, _, aV, aR⟩
  have _ := w.nx
  replace l := l.sA w
  have b : NE g3 gR := .a
  have f : NE g3 gL := .a
  replace j := w.same _ _ ⟨b.ne, f.ne, trivial⟩ j
  have _ := GHeap.ltg aV
  have _ := GHeap.ltg aR
  clear z
  have z : MemN _ _ _ _ _ := ⟨rfl, Mem.of_get j⟩
  refine a3 _ _ ?_
  have e : r.put x = ⟨r.u, r.L ++ [x], r.bad⟩ := by unfold Rd.put; rw [if_neg (by omega)]
  rw [e]
  exact ⟨rfl, l, gV, upd rr r.L.length a, .inr (by omega), ⟨⟨k, hk, hu, by rw [List.length_append, List.length_singleton]; exact aR⟩, NO.of (by rw [ndV_snoc]; exact aV) (by simp), by omega, (ag.snoc ha).le (l.er2 (.inr (by omega)))⟩⟩
end Go.Proofs.YtdnjnligclkkgaaDoor
namespace Go.GL
open Go.RowKit
theorem ndV_get {r : Nat → Option Addr} {L : List Nd} {q w : Nat} (hq : q < L.length) (hw : w < 3) : (ndV r L)[q * 3 + w]? = ((L.getD q ndz).cells (r q))[w]? := by
  unfold ndV
  exact flatK_get (f := fun i => (L.getD i ndz).cells (r i)) (fun _ => rfl) hq hw
theorem getD_setN {L : List Nd} {i q : Nat} {x : Nd} (hi : i < L.length) : (L.set i x).getD q ndz = if q = i then x else L.getD q ndz := by
  simp only [List.getD_eq_getElem?_getD, List.getElem?_set]
  by_cases e : i = q
  · subst e; simp [hi]
  · rw [if_neg e, if_neg (Ne.symm e)]
theorem ndV_set {r : Nat → Option Addr} {L : List Nd} {i : Nat} {x : Nd} {a : Option Addr} (hi : i < L.length) : setAll (ndV r L) (i * 3) (x.cells a) = ndV (upd r i a) (L.set i x) := by
  refine List.ext_getElem? fun t => ?_
  have hl := length_ndV r L
  have hl2 : (ndV (upd r i a) (L.set i x)).length = L.length * 3 := by rw [length_ndV, List.length_set]
  have h3 : (x.cells a).length = 3 := rfl
  rw [setAll_get _ _ _ _ (by omega), h3]
  by_cases ht : t < L.length * 3
  · have hd : t = t / 3 * 3 + t % 3 := by omega
    have hw : t % 3 < 3 := Nat.mod_lt _ (by decide)
    have hq : t / 3 < L.length := by omega
    generalize t / 3 = q at hd hq
    generalize t % 3 = w at hd hw
    subst hd
    rw [ndV_get (L := L.set i x) (by rw [List.length_set]; exact hq) hw, ndV_get hq hw, getD_setN hi]
    by_cases e : q = i
    · subst e
      rw [if_pos ⟨by omega, by omega⟩, if_pos rfl, upd_eq, show q * 3 + w - q * 3 = w by omega]
    · rw [if_neg (by omega), if_neg e, upd_ne e]
  · rw [if_neg (by omega), List.getElem?_eq_none (by omega), List.getElem?_eq_none (by omega)]
theorem cells_one (x : Nd) (a : Option Addr) : (x.cells a).all (·.oneCell') = true := rfl
theorem ndV_one (r : Nat → Option Addr) (L : List Nd) : ∀ v ∈ ndV r L, v.oneCell' = true := fun v hv => by
  unfold ndV at hv
  obtain ⟨i, _, h⟩ := List.mem_flatMap.1 hv
  exact List.all_eq_true.1 (cells_one (L.getD i ndz) (r i)) v h
theorem AgN.set {e : TypeId} {B : Nat} {H : GHeap} {r : Nat → Option Addr} {L : List Nd} {i : Nat} {x : Nd} {a : Option Addr} (h : AgN e B H r L) (hi : i < L.length) (hx : Ag e B H a x.az) : AgN e B H (upd r i a) (L.set i x) := fun q hq => by
  rw [List.length_set] at hq
  rw [getD_setN hi]
  by_cases e : q = i
  · subst e; rw [if_pos rfl, upd_eq]; exact hx
  · rw [if_neg e, upd_ne e]; exact h q hq
theorem Rd.put_40 {r : Rd} {x : Nd} (h : r.L.length ≤ 40) : (r.put x).L.length ≤ 40 := by
  unfold Rd.put
  split
  · exact h
  · rename_i q; show (r.L ++ [x]).length ≤ 40; rw [List.length_append, List.length_singleton]; omega
theorem Rd.kind_40 {r : Rd} {i : Nat} {k : Int} (h : r.L.length ≤ 40) : (r.kind i k).L.length ≤ 40 := by
  unfold Rd.kind
  split
  · show (r.L.set _ _).length ≤ 40; rw [List.length_set]; exact h
  · exact h
theorem Rd.sign_40 {r : Rd} {i : Nat} (h : r.L.length ≤ 40) : (r.sign i).L.length ≤ 40 := by
  have h1 : r.take.2.L.length ≤ 40 := by rw [Rd.take_L]; exact h
  unfold Rd.sign
  split
  · exact h1
  split
  · exact Rd.kind_40 h1
  split
  · exact Rd.kind_40 h1
  · exact h1
theorem Rd.args_L : ∀ (n : Nat) (r : Rd) (az : List Int), (r.args n az).1.L = r.L
  | 0, _, _ => rfl
  | n + 1, r, az => by
    have e : (r.want 118).dig.2.L = r.L := by rw [Rd.dig_L, Rd.want_L]
    unfold Rd.args
    split
    · split
      · split
        · rw [Rd.args_L n, Rd.want_L, e]
        · rw [Rd.args_L n]; show ((r.want 118).dig.2.want 44).L = _; rw [Rd.want_L, e]
      · exact e
    · rfl
theorem Rd.read_40 : ∀ (n : Nat) (r : Rd), r.L.length ≤ 40 → (r.read n).L.length ≤ 40
  | 0, _, h => h
  | n + 1, r, h => by
    have h1 : r.take.2.L.length ≤ 40 := by rw [Rd.take_L]; exact h
    have q : ∀ k : Int, (r.take.2.quan k).L.length ≤ 40 := fun k => by
      unfold Rd.quan
      rw [Rd.want_L]
      exact Rd.put_40 (by rw [Rd.dig_L]; exact h1)
    unfold Rd.read
    split
    · exact h
    split
    · exact Rd.put_40 h1
    split
    · exact Rd.put_40 h1
    split
    · unfold Rd.rel
      exact Rd.put_40 (by rw [Rd.want_L, Rd.args_L, Rd.want_L, Rd.dig_L]; exact h1)
    split
    · unfold Rd.equ
      exact Rd.put_40 (by rw [Rd.dig_L, Rd.want_L, Rd.want_L, Rd.dig_L]; exact h1)
    split
    · exact Rd.read_40 n _ (q 7)
    split
    · exact Rd.read_40 n _ (q 8)
    split
    · rw [Rd.want_L]
      exact Rd.read_40 n _ (Rd.sign_40 (Rd.read_40 n _ (Rd.put_40 h1)))
    · exact h1
def Rd.at118 (r : Rd) : Prop := r.bad = false ∧ r.u.head? = some 118
def Rd.at44 (r : Rd) : Prop := r.bad = false ∧ r.u.head? = some 44
theorem Rd.want_drop (r : Rd) (b : Int) : (r.want b).u = r.u.drop 1 := by unfold want; split <;> exact r.take_u
theorem Rd.dig_drop (r : Rd) : r.dig.2.u = r.u.drop 1 := by unfold dig; split <;> exact r.take_u
theorem Rd.args_stop {r : Rd} (h : ¬ r.at118) (n : Nat) (az : List Int) : r.args n az = (r, az) := by
  cases n with
  | zero => rfl
  | succ n => unfold Rd.args; exact if_neg h
theorem Rd.args_succ {r : Rd} {n : Nat} (h : r.at118) (hn : r.u.length ≤ n) : ∃ m, n = m + 1 ∧ r.u.length ≤ m + 1 := by
  have hl : 1 ≤ r.u.length := by cases e : r.u with | nil => rw [Rd.at118, e] at h; cases h.2 | cons _ _ => simp
  exact ⟨n - 1, by omega, by omega⟩
theorem Rd.args_end {r : Rd} {n : Nat} (h : r.at118) (hn : r.u.length ≤ n) (h2 : ¬ (r.want 118).dig.2.at44) (az : List Int) : r.args n az = ((r.want 118).dig.2, az ++ [(r.want 118).dig.1]) := by
  obtain ⟨m, rfl, _⟩ := Rd.args_succ h hn
  unfold Rd.args
  exact (if_pos (show r.bad = false ∧ r.u.head? = some 118 from h)).trans (if_neg (show ¬ ((r.want 118).dig.2.bad = false ∧ (r.want 118).dig.2.u.head? = some 44) from h2))
theorem Rd.args_more {r : Rd} {n : Nat} (h : r.at118) (hn : r.u.length ≤ n) (h2 : (r.want 118).dig.2.at44) (az : List Int) : ∃ m, n = m + 1 ∧ (((r.want 118).dig.2.want 44).u.length ≤ m) ∧
    (((r.want 118).dig.2.want 44).u.head? = some 118 → r.args n az = ((r.want 118).dig.2.want 44).args m (az ++ [(r.want 118).dig.1])) ∧ (¬ ((r.want 118).dig.2.want 44).u.head? = some 118 → r.args n az = ((r.want 118).dig.2.want 44).fail.args m (az ++ [(r.want 118).dig.1])) := by
  obtain ⟨m, rfl, hm⟩ := Rd.args_succ h hn
  refine ⟨m, rfl, by rw [Rd.want_drop, Rd.dig_drop, Rd.want_drop, List.length_drop, List.length_drop, List.length_drop]; omega, fun q => ?_, fun q => ?_⟩
  · conv => lhs; unfold Rd.args
    exact (if_pos (show r.bad = false ∧ r.u.head? = some 118 from h)).trans ((if_pos (show (r.want 118).dig.2.bad = false ∧ (r.want 118).dig.2.u.head? = some 44 from h2)).trans (if_pos q))
  · conv => lhs; unfold Rd.args
    exact (if_pos (show r.bad = false ∧ r.u.head? = some 118 from h)).trans ((if_pos (show (r.want 118).dig.2.bad = false ∧ (r.want 118).dig.2.u.head? = some 44 from h2)).trans (if_neg q))
theorem RdN.turn {TR TN e : TypeId} {B : Nat} {H H' : GHeap} {gR gL : Nat} {s : ByteArray} {r r' : Rd} {rr : Nat → Option Addr} (h : RdN TR TN e B H gR gL s r rr) (st : St [gR] H H') (hr : RdR TR H' gR s (.slice (nz r.L.length gL) r.L.length r.L.length) r') (eL : r'.L = r.L) : RdN TR TN e B H' gR gL s r' rr := by
  obtain ⟨u', L', b'⟩ := r'
  obtain rfl : L' = r.L := eL
  exact ⟨hr, h.no.st st ⟨h.ne, trivial⟩, h.ne, h.ag.le st.er1⟩
end Go.GL
namespace Go.Proofs.YtdnjnligclkkgaaDoor
open Go Go.GL Go.RowKit Go.Proofs
theorem bt_38_Ue : buildT Tryd.prog 38 = some ([.int .i64 0, .int .i64 0, .slice none 0 0], [(0, 1), (1, 1), (2, 1)]) := by kernel_rfl
theorem l29Kind_c {B gR gL : Nat} {s : ByteArray} {r : Rd} {rr : Nat → Option Addr} {i : Nat} {y : Int} {H : GHeap} (hr : RdN 30 38 2 B H gR gL s r rr) (hl : r.L.length ≤ 40) :
    GCalls Tryd.prog 20 [.pointer (some ⟨gR, 0, none⟩), .int .i64 (i : Int), .int .i64 y] H (RnQ B gR gL s (r.kind i y) (.tuple #[]) H) := by
  obtain ⟨⟨k, hk, hu, hg⟩, n, ne, ag⟩ := hr
  refine GCalls.body (N := 29) (rs := []) Tryd.func20 rfl rfl rfl rfl (fun Qx hret t => ?_)
  refine .fg [0, 1, 2] rfl ?_
  have _ := GHeap.ltg hg
  have g := St.refl [gR, gL] H
  refine .seq (fun K1 a1 => .region (.mv rfl (.mv rfl (.q rfl (.nilCheck rfl) (.q rfl (.fieldAddr fo_30_2_Uc rfl) ?_)))))
  refine .q rfl (.load on_22_Uc rfl (by first | assumption | exact Mem.of_get hg 2 _ rfl)) ?_
  refine .q rfl (.len sl_22_Uc rfl) (.q rfl (.cmp rfl rfl rfl) (.nil (a1 _ _ ?_)))
  refine .cond rfl ?_ ?_ <;> intro x
  ·
   simp only [sps] at x
   have hgL := n.get (by omega)
   rw [nz_pos (show 0 < r.L.length by omega)] at hg
   refine .seq (fun K2 z => .region ?_)
   refine .R rfl (.litA rfl sl_22_Uc ze_38_Uc rfl rfl rfl rfl) ?_
   rintro _ _ ⟨_, rfl, l, _, o⟩
   have _ := l.1
   replace g := g.le l
   replace hg := l.2 _ _ hg
   have _ := GHeap.ltg o
   refine .mv rfl (.q rfl (.nilCheck rfl) (.q rfl (.fieldAddr fo_30_2_Uc rfl) ?_))
   refine .q rfl (.load on_22_Uc rfl (by first | assumption | exact Mem.of_get hg 2 _ rfl)) ?_
   refine .R rfl (.appendR rfl sl_22_Uc ze_38_Uc rfl by_38_Uc rfl o (by rfl) (.slice sl_22_Uc rfl (length_ndV rr r.L) (fun q v hv => by rw [GHeap.cell_of (l.2 _ _ hgL), Nat.zero_add]; exact hv) (ndV_one _ _)) (by omega) (by omega)) ?_
   rintro _ a0 ⟨w, rfl, m, _, j⟩
   have _ := m.nx
   replace g := g.sA m
   replace hg := m.s hg
   have _ := GHeap.ltg j
   replace j : GHeap.get a0 w = some (.row (ndV rr r.L) 38 true) := j
   have sA := ndV_slA j
   refine .mv rfl (.nil (z _ _ (.seq (fun K3 a2 => .region ?_))))
   simp only [Nat.zero_add]
   refine .mv rfl (.mv rfl (.mv rfl (.q rfl (.build bt_38_Ue rfl rfl rfl) ?_)))
   refine .q rfl (.idx sl_22_Uc (by assumption) (by omega) rfl rfl (by omega) (by omega) rfl) ?_
   refine .r0 rfl rfl (.storeNR rfl sz_38_Uc rfl rfl rfl rfl (by assumption) (by rw [length_ndV]; simp; omega)) ?_
   rintro _ p ⟨rfl, f, b⟩
   have _ := f.nx
   replace g := g.sA f
   have c : NE gR w := .a
   replace hg := f.s hg c.ne
   have _ := GHeap.ltg b
   replace b : GHeap.get p w = some (.row (ndV (upd rr i none) (r.L.set i ⟨y, 0, []⟩)) 38 true) := by
     have hx := b
     simp only [Int.toNat_natCast, Nat.zero_add] at hx
     rw [← ndV_set (by omega)]
     exact hx
   refine .nil (a2 _ _ (.region (.mv rfl (.mv rfl (.q rfl (.nilCheck rfl) (.q rfl (.fieldAddr fo_30_2_Uc rfl) ?_))))))
   refine .r0 rfl rfl (.storeR rfl sz_22_Uc rfl rfl rfl (by assumption) (by first | exact Nat.le_of_ble_eq_true rfl | (simp; done) | (simp <;> omega))) ?_
   rintro _ _ ⟨rfl, d, h⟩
   have _ := d.nx
   replace g := g.sA d
   replace b := d.s b (Ne.symm c.ne)
   have _ := GHeap.ltg h
   try simp only [Nat.zero_add, List.set_cons_succ, List.set_cons_zero] at h
   refine .nil ?_
   refine t _ _ ?_
   have e : r.kind i y = ⟨r.u, r.L.set i ⟨y, 0, []⟩, r.bad⟩ := by unfold Rd.kind; rw [if_pos (by omega)]
   rw [e]
   exact ⟨rfl, g, w, upd rr i none, .inr (by omega), ⟨⟨k, hk, hu, by dsimp only; rw [List.length_set, nz_pos (by omega)]; assumption⟩, NO.of (by assumption) (by dsimp only; rw [List.length_set]; omega), by omega, (ag.set (by omega) (.inl ⟨rfl, rfl⟩)).le (g.er2 (.inr (by omega)))⟩⟩
  simp only [sps] at x
  refine .skip ?_
  refine t _ _ ?_
  have e : r.kind i y = r := by unfold Rd.kind; rw [if_neg (by omega)]
  rw [e]
  exact ⟨rfl, g, gL, rr, .inl rfl, ⟨⟨k, hk, hu, hg⟩, n, ne, ag⟩⟩
end Go.Proofs.YtdnjnligclkkgaaDoor
namespace Go.Proofs.YtdnjnligclkkgaaDoor
open Go Go.GL Go.RowKit Go.Proofs
end Go.Proofs.YtdnjnligclkkgaaDoor
namespace Go.Proofs.YtdnjnligclkkgaaDoor
open Go Go.GL Go.RowKit Go.Proofs
end Go.Proofs.YtdnjnligclkkgaaDoor
namespace Go.Proofs.YtdnjnligclkkgaaDoor
open Go Go.GL Go.RowKit Go.Proofs
end Go.Proofs.YtdnjnligclkkgaaDoor
namespace Go.Proofs.YtdnjnligclkkgaaDoor
open Go Go.GL Go.RowKit Go.Proofs
end Go.Proofs.YtdnjnligclkkgaaDoor
namespace Go.Proofs.YtdnjnligclkkgaaDoor
open Go Go.GL Go.RowKit Go.Proofs
end Go.Proofs.YtdnjnligclkkgaaDoor
namespace Go.Proofs.YtdnjnligclkkgaaDoor
open Go Go.GL Go.RowKit Go.Proofs
theorem ze_2_Pa : zeroT Tryd.prog 2 = some ([.int .i64 0], 1) := by kernel_rfl
theorem by_2_Pa : (Tryd.prog.info? 2).map (·.bytes) = some 8 := by kernel_rfl
theorem l01Own_c {a : Option Addr} {xs : List Int} {H : GHeap} (h : Ints H a xs := by assumption) (hl : xs.length ≤ 1048576 := by omega) :
    GCalls Tryd.prog 19 [.slice a xs.length xs.length] H (NewInts 2 H xs) := by
  refine GCalls.body (N := 6) (rs := [.tmp 2]) Tryd.func19 rfl rfl rfl rfl (fun Qx d hend => ?_)
  refine .fg [0] rfl ?_
  have c := GHeap.Le.refl H
  have b := h
  refine .seq (fun K1 f => .region (.mv rfl (.nil (f _ _ (.seq (fun K2 g => .region ?_))))))
  refine .R rfl (.litA rfl sl_36_A ze_2_Pa rfl rfl rfl rfl) ?_
  rintro _ H3 ⟨g3, rfl, l, _, e⟩
  replace c := c.trans l
  have _ := GHeap.ltg e
  replace h := b.mono c
  replace e : GHeap.get H3 g3 = some (.row (ints []) 2 true) := e
  refine .mv rfl ?_
  refine .R rfl (.appendL rfl sl_36_A ze_2_Pa rfl by_2_Pa sl_36_A rfl rfl (by assumption) (by first | assumption | exact Ints.of_get (by assumption)) (by first | omega | (simp <;> omega)) (by omega) (by omega)) ?_
  rintro _ _ ⟨_, rfl, i, _, j⟩
  replace c := c.st i (fun k hk => ⟨by omega, trivial⟩)
  refine .mv rfl (.nil (g _ _ (.ret (d _ _ (⟨_, rfl, ?_⟩)))))
  exact ⟨c, _, by rw [Nat.zero_add], by simpa using j, by omega⟩
end Go.Proofs.YtdnjnligclkkgaaDoor
namespace Go.GL
section
variable {r : Rd} {n : Nat}
theorem Rd.read_bad (h : r.bad = true) : r.read (n + 1) = r := by unfold Rd.read; rw [if_pos h]
theorem Rd.read_84 (h : ¬ r.bad = true) (e : r.take.1 = 84) : r.read (n + 1) = r.take.2.put ⟨0, 0, []⟩ := by unfold Rd.read; rw [if_neg h, if_pos e]
theorem Rd.read_70 (h : ¬ r.bad = true) (e : r.take.1 = 70) : r.read (n + 1) = r.take.2.put ⟨1, 0, []⟩ := by unfold Rd.read; rw [if_neg h, if_neg (by omega), if_pos e]
theorem Rd.read_82 (h : ¬ r.bad = true) (e : r.take.1 = 82) : r.read (n + 1) = r.take.2.rel := by unfold Rd.read; rw [if_neg h, if_neg (by omega), if_neg (by omega), if_pos e]
theorem Rd.read_118 (h : ¬ r.bad = true) (e : r.take.1 = 118) : r.read (n + 1) = r.take.2.equ := by unfold Rd.read; rw [if_neg h, if_neg (by omega), if_neg (by omega), if_neg (by omega), if_pos e]
theorem Rd.read_69 (h : ¬ r.bad = true) (e : r.take.1 = 69) : r.read (n + 1) = (r.take.2.quan 7).read n := by
  conv => lhs; unfold Rd.read
  rw [if_neg h, if_neg (by omega), if_neg (by omega), if_neg (by omega), if_neg (by omega), if_pos e]
theorem Rd.read_65 (h : ¬ r.bad = true) (e : r.take.1 = 65) : r.read (n + 1) = (r.take.2.quan 8).read n := by
  conv => lhs; unfold Rd.read
  rw [if_neg h, if_neg (by omega), if_neg (by omega), if_neg (by omega), if_neg (by omega), if_neg (by omega), if_pos e]
theorem Rd.read_40c (h : ¬ r.bad = true) (e : r.take.1 = 40) : r.read (n + 1) = ((((r.take.2.put ⟨4, 0, []⟩).read n).sign r.L.length).read n).want 41 := by
  conv => lhs; unfold Rd.read
  rw [if_neg h, if_neg (by omega), if_neg (by omega), if_neg (by omega), if_neg (by omega), if_neg (by omega), if_neg (by omega), if_pos e]
theorem Rd.read_no (h : ¬ r.bad = true) (e : ¬ (r.take.1 = 84 ∨ r.take.1 = 70 ∨ r.take.1 = 82 ∨ r.take.1 = 118 ∨ r.take.1 = 69 ∨ r.take.1 = 65 ∨ r.take.1 = 40)) : r.read (n + 1) = r.take.2.fail := by
  unfold Rd.read; rw [if_neg h, if_neg (by omega), if_neg (by omega), if_neg (by omega), if_neg (by omega), if_neg (by omega), if_neg (by omega), if_neg (by omega)]
end
theorem Rd.take_lt {r : Rd} (h : r.u ≠ []) : r.take.2.u.length < r.u.length := by
  rw [Rd.take_u, List.length_drop]
  cases e : r.u with
  | nil => exact absurd e h
  | cons c v => simp
theorem Rd.take_ne {r : Rd} {c : Int} (h : r.take.1 = c) (hc : c ≠ 0) : r.u ≠ [] := fun q => by rw [Rd.take_nil q] at h; exact hc h.symm
theorem Rd.quan_len (r : Rd) (k : Int) : (r.quan k).u.length ≤ r.u.length := by
  unfold Rd.quan
  have h1 := Rd.want_len (r.dig.2.put ⟨k, r.dig.1, []⟩) 46
  rw [Rd.put_u] at h1
  have h2 := Rd.dig_len r
  omega
theorem Rd.quan_40 {r : Rd} {k : Int} (h : r.L.length ≤ 40) : (r.quan k).L.length ≤ 40 := by
  unfold Rd.quan
  rw [Rd.want_L]
  exact Rd.put_40 (by rw [Rd.dig_L]; exact h)
theorem Rd.args_u : ∀ (n : Nat) (r : Rd) (az : List Int), (r.args n az).1.u.length ≤ r.u.length
  | 0, _, _ => Nat.le_refl _
  | n + 1, r, az => by
    have h1 := Rd.want_len r 118
    have h2 := Rd.dig_len (r.want 118)
    have h3 := Rd.want_len (r.want 118).dig.2 44
    unfold Rd.args
    split
    · split
      · split
        · have := Rd.args_u n ((r.want 118).dig.2.want 44) (az ++ [(r.want 118).dig.1])
          omega
        · have := Rd.args_u n ((r.want 118).dig.2.want 44).fail (az ++ [(r.want 118).dig.1])
          have e : ((r.want 118).dig.2.want 44).fail.u = ((r.want 118).dig.2.want 44).u := rfl
          rw [e] at this
          omega
      · dsimp only; omega
    · exact Nat.le_refl _
theorem Rd.sign_len (r : Rd) (i : Nat) : (r.sign i).u.length ≤ r.u.length := by
  have h := Rd.take_len r
  unfold Rd.sign
  split
  · exact h
  split
  · rw [(Rd.kind_u _ _ _).1]; exact h
  split
  · rw [(Rd.kind_u _ _ _).1]; exact h
  · exact h
theorem Rd.read_len : ∀ (n : Nat) (r : Rd), (r.read n).u.length ≤ r.u.length
  | 0, _ => Nat.le_refl _
  | n + 1, r => by
    have h := Rd.take_len r
    unfold Rd.read
    split
    · exact Nat.le_refl _
    split
    · rw [Rd.put_u]; exact h
    split
    · rw [Rd.put_u]; exact h
    split
    · unfold Rd.rel
      rw [Rd.put_u]
      have h1 := Rd.dig_len r.take.2
      have h2 := Rd.want_len r.take.2.dig.2 40
      have h3 := Rd.args_u (r.take.2.dig.2.want 40).u.length (r.take.2.dig.2.want 40) []
      have h4 := Rd.want_len ((r.take.2.dig.2.want 40).args (r.take.2.dig.2.want 40).u.length []).1 41
      omega
    split
    · unfold Rd.equ
      rw [Rd.put_u]
      have h1 := Rd.dig_len r.take.2
      have h2 := Rd.want_len r.take.2.dig.2 61
      have h3 := Rd.want_len (r.take.2.dig.2.want 61) 118
      have h4 := Rd.dig_len ((r.take.2.dig.2.want 61).want 118)
      omega
    split
    · have h1 := Rd.quan_len r.take.2 7
      have h2 := Rd.read_len n (r.take.2.quan 7)
      omega
    split
    · have h1 := Rd.quan_len r.take.2 8
      have h2 := Rd.read_len n (r.take.2.quan 8)
      omega
    split
    · have h1 := Rd.read_len n (r.take.2.put ⟨4, 0, []⟩)
      rw [Rd.put_u] at h1
      have h2 := Rd.sign_len ((r.take.2.put ⟨4, 0, []⟩).read n) r.L.length
      have h3 := Rd.read_len n (((r.take.2.put ⟨4, 0, []⟩).read n).sign r.L.length)
      have h4 := Rd.want_len ((((r.take.2.put ⟨4, 0, []⟩).read n).sign r.L.length).read n) 41
      omega
    · exact h
structure ArgV (TR TN e : TypeId) (H H' : GHeap) (b gR g3 : Nat) (s : ByteArray) (sl : Value) (r0 : Rd) (d : Int) (kV : Nat) (rV : Rd) (aV : List Int) (gV : Nat) : Prop where
  kv : kV ≤ s.size
  u : rest s kV = rV.u
  eq : r0.args r0.u.length [] = (rV, aV)
  no : NO H' gV (ints aV) e aV.length
  st : St [gR, g3] H H'
  ge : b ≤ gV
  a3 : H'.get g3 = some (.row [.int .i64 2, .int .i64 d, .slice (nz aV.length gV) aV.length aV.length] TN true)
  aR : H'.get gR = some (.row [.string s, .int .i64 (kV : Int), sl, .bool rV.bad] TR true)
  len : aV.length ≤ s.size
theorem NO.er {H : GHeap} {g k n : Nat} {cs : List Value} {e : TypeId} (h : NO H g cs e n) (hk : g ≠ k) : NO (H.set k none) g cs e n := ⟨by rw [GHeap.next_set]; exact h.lt, h.or.imp id fun q => ⟨q.1, GHeap.get_erase_of q.2 hk⟩⟩
theorem NO.ag {H : GHeap} {g B : Nat} {xs : List Int} {e : TypeId} (h : NO H g (ints xs) e xs.length) (hB : B ≤ g) : Ag e B H (nz xs.length g) xs := by
  by_cases h0 : xs.length = 0
  · obtain rfl := List.eq_nil_of_length_eq_zero h0
    exact .inl ⟨rfl, rfl⟩
  · rw [nz_pos (by omega)]
    exact .inr ⟨g, rfl, hB, h.get (by omega)⟩
theorem Rd.rel_of {r rV : Rd} {aV : List Int} (e : (r.dig.2.want 40).args (r.dig.2.want 40).u.length [] = (rV, aV)) : r.rel = (rV.want 41).put ⟨2, r.dig.1, aV⟩ := by unfold Rd.rel; rw [e]
theorem Rd.rel_L {r rV : Rd} {aV : List Int} (e : (r.dig.2.want 40).args (r.dig.2.want 40).u.length [] = (rV, aV)) : rV.L = r.L := by
  have := Rd.args_L (r.dig.2.want 40).u.length (r.dig.2.want 40) []
  rw [e] at this
  rw [show rV.L = _ from this, Rd.want_L, Rd.dig_L]
end Go.GL
namespace Go.Proofs.YtdnjnligclkkgaaDoor
open Go Go.GL Go.RowKit Go.Proofs
def ReadSpec (n : Nat) : Prop := ∀ {B gR gL : Nat} {s : ByteArray} {r : Rd} {rr : Nat → Option Addr} {H : GHeap} (_ : RdN 30 38 2 B H gR gL s r rr) (_ : s.size ≤ 1048576) (_ : r.L.length ≤ 40) (_ : r.u.length < n) (_ : B ≤ H.next),
    GCalls Tryd.prog 9 [.pointer (some ⟨gR, 0, none⟩)] H (RnQ B gR gL s (r.read n) (.tuple #[]) H)
theorem on_4_Uf : oneT Tryd.prog 4 = true := by kernel_rfl
theorem fo_38_2_Uf : fieldOff Tryd.prog 38 2 = some 2 := by kernel_rfl
theorem on_36_Uf : oneT Tryd.prog 36 = true := by kernel_rfl
theorem sz_36_Uf : (Tryd.prog.info? 36).map (·.size) = some 1 := by kernel_rfl
set_option maxHeartbeats 8000000 in
theorem l29Read_step {n : Nat} (ih : ReadSpec n) : ReadSpec (n + 1) := by
  intro B gR gL s r rr H hr hs hl hn hB
  obtain ⟨⟨k, hk, hu, hg⟩, no_0, ne, ag⟩ := id hr
  have hlL := no_0.lt
  refine GCalls.body (N := 207) (rs := []) Tryd.func9 rfl rfl rfl rfl (fun Qx hret hend => ?_)
  refine .fg [0] rfl ?_
  have lt_hg := GHeap.ltg hg
  have hst := St.refl [gR, gL] H
  refine .seq (fun K1 hK1 => .seq (fun K2 hK2 => .region (.mv rfl (.q rfl (.nilCheck rfl) (.q rfl (.fieldAddr fo_30_3_Ua rfl) ?_)))))
  refine .q rfl (.load on_4_Uf rfl (by first | assumption | exact Mem.of_get hg 3 _ rfl)) ?_
  refine .nil (hK2 _ _ ?_)
  refine .cond rfl ?_ ?_ <;> intro h8
  ·
   try simp only [sps] at h8
   refine .ret (hret _ _ ?_)
   first
   | exact ⟨rfl, hst, gL, rr, .inl rfl, by rw [Rd.read_bad h8]; exact hr⟩
   | exact ⟨rfl, hst, gP, rP, by omega, by rw [Rd.read_82 (by simpa using h8) h29, Rd.rel_of mV.eq]; exact hrP⟩
   | exact ⟨rfl, hst, gP, rP, by omega, by rw [Rd.read_118 (by simpa using h8) h136]; exact hrP⟩
   | exact ⟨rfl, hst, gP, rP, by omega, by rw [Rd.read_84 (by simpa using h8) h19]; exact hrP⟩
   | exact ⟨rfl, hst, gP, rP, by omega, by rw [Rd.read_70 (by simpa using h8) h24]; exact hrP⟩
   | exact ⟨rfl, hst, gD, rD, by omega, by rw [Rd.read_69 (by simpa using h8) h157]; exact hrD⟩
   | exact ⟨rfl, hst, gD, rD, by omega, by rw [Rd.read_65 (by simpa using h8) h168]; exact hrD⟩
   | exact ⟨rfl, hst, gG, rG, by omega, by rw [Rd.read_40c (by simpa using h8) h179]; exact hrC⟩
   | exact ⟨rfl, hst, gL, rr, .inl rfl, by rw [Rd.read_no (by simpa using h8) (by omega)]; exact hrA.turn st3003 ⟨kA, hkA, huA, by rw [Rd.take_L]; exact at3003⟩ rfl⟩
  try simp only [sps] at h8
  refine .skip (hK1 _ _ (.seq (fun K3 hK3 => .region ?_)))
  have hlA : r.take.2.L.length ≤ 40 := by rw [Rd.take_L]; exact hl
  refine .mv rfl (.q rfl (.nilCheck rfl) (.q rfl (.fieldAddr fo_30_2_Uc rfl) ?_))
  refine .q rfl (.load on_22_Uc rfl (by first | assumption | exact Mem.of_get hg 2 _ rfl)) ?_
  refine .q rfl (.len sl_22_Uc rfl) (.mv rfl (.nil (hK3 _ _ (.seq (fun K4 hK4 => .region (.mv rfl ?_))))))
  refine .call rfl rfl rfl rfl @Tryd.call15 rfl (l29Take_c hr.rd hs) ?_
  rintro _ H15 ⟨rfl, stA, hRA⟩
  have hrA := hr.turn stA hRA (Rd.take_L _)
  obtain ⟨kA, hkA, huA, atA⟩ := hRA
  have st15 := stA
  have nx_H15 := st15.nx
  replace hst := hst.sA st15
  have lt_atA := GHeap.ltg atA
  refine .nil (hK4 _ _ (.block (.seq (fun K5 hK5 => .region (.q rfl (.cmp rfl rfl rfl) (.mv rfl (.nil (hK5 _ _ ?_))))))))
  refine .cond rfl ?_ ?_ <;> intro h19
  ·
   simp only [sps] at h19
   refine .region (.mv rfl (.q rfl (.build bt_38_Ue rfl rfl rfl) ?_))
   refine .call rfl rfl rfl rfl @Tryd.call16 rfl (l29Put_c (x := ⟨0, 0, []⟩) hrA (.inl ⟨rfl, rfl⟩) hlA (by simp)) ?_
   rintro _ H23 ⟨rfl, stP, gP, rP, orP, hrP⟩
   have st23 := stP
   have nx_H23 := st23.nx
   replace hst := hst.sA st23
   refine .nil ?_
   refine hend _ _ ?_
   first
   | exact ⟨rfl, hst, gL, rr, .inl rfl, by rw [Rd.read_bad h8]; exact hr⟩
   | exact ⟨rfl, hst, gP, rP, by omega, by rw [Rd.read_82 (by simpa using h8) h29, Rd.rel_of mV.eq]; exact hrP⟩
   | exact ⟨rfl, hst, gP, rP, by omega, by rw [Rd.read_118 (by simpa using h8) h136]; exact hrP⟩
   | exact ⟨rfl, hst, gP, rP, by omega, by rw [Rd.read_84 (by simpa using h8) h19]; exact hrP⟩
   | exact ⟨rfl, hst, gP, rP, by omega, by rw [Rd.read_70 (by simpa using h8) h24]; exact hrP⟩
   | exact ⟨rfl, hst, gD, rD, by omega, by rw [Rd.read_69 (by simpa using h8) h157]; exact hrD⟩
   | exact ⟨rfl, hst, gD, rD, by omega, by rw [Rd.read_65 (by simpa using h8) h168]; exact hrD⟩
   | exact ⟨rfl, hst, gG, rG, by omega, by rw [Rd.read_40c (by simpa using h8) h179]; exact hrC⟩
   | exact ⟨rfl, hst, gL, rr, .inl rfl, by rw [Rd.read_no (by simpa using h8) (by omega)]; exact hrA.turn st3003 ⟨kA, hkA, huA, by rw [Rd.take_L]; exact at3003⟩ rfl⟩
  simp only [sps] at h19
  refine .seq (fun K6 hK6 => .region (.q rfl (.cmp rfl rfl rfl) (.mv rfl (.nil (hK6 _ _ ?_)))))
  refine .cond rfl ?_ ?_ <;> intro h24
  ·
   simp only [sps] at h24
   refine .region (.mv rfl (.q rfl (.build bt_38_Ue rfl rfl rfl) ?_))
   refine .call rfl rfl rfl rfl @Tryd.call16 rfl (l29Put_c (x := ⟨1, 0, []⟩) hrA (.inl ⟨rfl, rfl⟩) hlA (by simp)) ?_
   rintro _ H28 ⟨rfl, stP, gP, rP, orP, hrP⟩
   have st28 := stP
   have nx_H28 := st28.nx
   replace hst := hst.sA st28
   refine .nil ?_
   refine hend _ _ ?_
   first
   | exact ⟨rfl, hst, gL, rr, .inl rfl, by rw [Rd.read_bad h8]; exact hr⟩
   | exact ⟨rfl, hst, gP, rP, by omega, by rw [Rd.read_82 (by simpa using h8) h29, Rd.rel_of mV.eq]; exact hrP⟩
   | exact ⟨rfl, hst, gP, rP, by omega, by rw [Rd.read_118 (by simpa using h8) h136]; exact hrP⟩
   | exact ⟨rfl, hst, gP, rP, by omega, by rw [Rd.read_84 (by simpa using h8) h19]; exact hrP⟩
   | exact ⟨rfl, hst, gP, rP, by omega, by rw [Rd.read_70 (by simpa using h8) h24]; exact hrP⟩
   | exact ⟨rfl, hst, gD, rD, by omega, by rw [Rd.read_69 (by simpa using h8) h157]; exact hrD⟩
   | exact ⟨rfl, hst, gD, rD, by omega, by rw [Rd.read_65 (by simpa using h8) h168]; exact hrD⟩
   | exact ⟨rfl, hst, gG, rG, by omega, by rw [Rd.read_40c (by simpa using h8) h179]; exact hrC⟩
   | exact ⟨rfl, hst, gL, rr, .inl rfl, by rw [Rd.read_no (by simpa using h8) (by omega)]; exact hrA.turn st3003 ⟨kA, hkA, huA, by rw [Rd.take_L]; exact at3003⟩ rfl⟩
  simp only [sps] at h24
  refine .seq (fun K7 hK7 => .region (.q rfl (.cmp rfl rfl rfl) (.mv rfl (.nil (hK7 _ _ ?_)))))
  refine .cond rfl ?_ ?_ <;> intro h29
  ·
   simp only [sps] at h29
   refine .seq (fun K8 hK8 => .region (.mv rfl ?_))
   refine .call rfl rfl rfl rfl @Tryd.call17 rfl (l29Digit_c hrA.rd hs) ?_
   rintro _ H32 ⟨rfl, stB, hRB⟩
   have rkA := stB
   obtain ⟨kB, hkB, huB, atB⟩ := hRB
   have st32 := stB
   have nx_H32 := st32.nx
   replace hst := hst.sA st32
   have lt_atB := GHeap.ltg atB
   refine .q rfl (.build bt_38_Ue rfl rfl rfl) ?_
   refine .R rfl (.allocR rfl ze_38_Uc rfl) ?_
   rintro _ H3 ⟨g3, rfl, le3, ge3, at3⟩
   have nx_H3 := le3.1
   replace hst := hst.le le3
   replace rkA := rkA.le le3
   replace atB := le3.2 _ _ atB
   have lt_at3 := GHeap.ltg at3
   refine .r0 rfl rfl (.fillA rfl sz_38_Uc rfl rfl rfl rfl) ?_
   rintro _ H9004 ⟨rfl, st9004, at9004⟩
   have nx_H9004 := st9004.nx
   replace hst := hst.sA st9004
   replace rkA := rkA.sA st9004
   have ne_gR_g3 : NE gR g3 := .a
   replace atB := st9004.s atB ne_gR_g3.ne
   have lt_at9004 := GHeap.ltg at9004
   have mm9004 : MemN _ _ _ _ _ := ⟨rfl, Mem.of_get at9004⟩
   refine .nil (hK8 _ _ (.seq (fun K9 hK9 => .region (.mv rfl ?_))))
   refine .call rfl rfl rfl rfl @Tryd.call18 rfl (l29Want_c (r := r.take.2.dig.2) ⟨kB, hkB, huB, atB⟩ hs) ?_
   rintro _ H35 ⟨rfl, stC, hRC⟩
   obtain ⟨kC, hkC, huC, atC⟩ := hRC
   have rkM := St.refl [gR, g3] H35
   have st35 := stC
   have nx_H35 := st35.nx
   replace hst := hst.sA st35
   replace rkA := rkA.sA st35
   replace at9004 := st35.s at9004 (Ne.symm ne_gR_g3.ne)
   have lt_atC := GHeap.ltg atC
   clear mm9004
   have mm9004 : MemN _ _ _ _ _ := ⟨rfl, Mem.of_get at9004⟩
   refine .nil (hK9 _ _ ?_)
   refine .seqM (rest := [(0, some _), (3, some _)]) (M := fun rest fr' H' => ∃ (kV : Nat) (rV : Rd) (aV : List Int) (gV : Nat), Sub rest fr' ∧ ArgV 30 38 2 H35 H' H15.next gR g3 s (.slice (nz r.take.2.L.length gL) r.take.2.L.length r.take.2.L.length) (r.take.2.dig.2.want 40) r.take.2.dig.1 kV rV aV gV) (.p rfl) ?_ ?_
   ·
    rintro fr818 H818 ⟨kV, rV, aV, gV, hsub818, mV⟩
    have st818 := mV.st
    have aR := mV.aR
    have a3 := mV.a3
    have noV := mV.no
    have nx_H818 := st818.nx
    replace hst := hst.sA st818
    replace rkA := rkA.sA st818
    have lt_aR := GHeap.ltg aR
    have lt_a3 := GHeap.ltg a3
    clear mm9004
    have mm9004 : MemN _ _ _ _ _ := ⟨rfl, Mem.of_get at9004⟩
    refine .forget hsub818 ?_
    refine .seq (fun K10 hK10 => .region (.mv rfl ?_))
    refine .call rfl rfl rfl rfl @Tryd.call18 rfl (l29Want_c (r := rV) ⟨kV, mV.kv, mV.u, aR⟩ hs) ?_
    rintro _ H132 ⟨rfl, stW, hRW⟩
    obtain ⟨kW, hkW, huW, atW⟩ := hRW
    replace noV := noV.st stW ⟨by have := mV.ge; omega, trivial⟩
    have st132 := stW
    have nx_H132 := st132.nx
    replace hst := hst.sA st132
    replace rkA := rkA.sA st132
    replace a3 := st132.s a3 (Ne.symm ne_gR_g3.ne)
    have lt_atW := GHeap.ltg atW
    clear mm9004
    have mm9004 : MemN _ _ _ _ _ := ⟨rfl, Mem.of_get at9004⟩
    refine .nil (hK10 _ _ (.region (.mv rfl ?_)))
    refine .q rfl (.loadM ag_38_Uc rfl ⟨rfl, Mem.of_get a3⟩) ?_
    refine .call rfl rfl rfl rfl @Tryd.call16 rfl (l29Put_c (x := ⟨2, r.take.2.dig.1, aV⟩) (a := nz aV.length gV) (hrA.turn rkA (r' := rV.want 41) ⟨kW, hkW, huW, atW⟩ (by rw [Rd.want_L]; exact Rd.rel_L mV.eq)) (((noV.er (by have := mV.ge; omega)).er (by have := mV.ge; omega)).ag (by have := mV.ge; omega)) (by rw [Rd.want_L, Rd.rel_L mV.eq]; exact hlA) (by have := mV.len; show aV.length ≤ _; omega)) ?_
    rintro _ H135 ⟨rfl, stP, gP, rP, orP, hrP⟩
    have st135 := stP
    have nx_H135 := st135.nx
    replace hst := hst.sA st135
    replace a3 := st135.same _ _ ⟨(Ne.symm ne_gR_g3.ne), (by first | assumption | omega), trivial⟩ a3
    clear mm9004
    have mm9004 : MemN _ _ _ _ _ := ⟨rfl, Mem.of_get at9004⟩
    refine .nil ?_
    refine hend _ _ ?_
    first
    | exact ⟨rfl, hst, gL, rr, .inl rfl, by rw [Rd.read_bad h8]; exact hr⟩
    | exact ⟨rfl, hst, gP, rP, by omega, by rw [Rd.read_82 (by simpa using h8) h29, Rd.rel_of mV.eq]; exact hrP⟩
    | exact ⟨rfl, hst, gP, rP, by omega, by rw [Rd.read_118 (by simpa using h8) h136]; exact hrP⟩
    | exact ⟨rfl, hst, gP, rP, by omega, by rw [Rd.read_84 (by simpa using h8) h19]; exact hrP⟩
    | exact ⟨rfl, hst, gP, rP, by omega, by rw [Rd.read_70 (by simpa using h8) h24]; exact hrP⟩
    | exact ⟨rfl, hst, gD, rD, by omega, by rw [Rd.read_69 (by simpa using h8) h157]; exact hrD⟩
    | exact ⟨rfl, hst, gD, rD, by omega, by rw [Rd.read_65 (by simpa using h8) h168]; exact hrD⟩
    | exact ⟨rfl, hst, gG, rG, by omega, by rw [Rd.read_40c (by simpa using h8) h179]; exact hrC⟩
    | exact ⟨rfl, hst, gL, rr, .inl rfl, by rw [Rd.read_no (by simpa using h8) (by omega)]; exact hrA.turn st3003 ⟨kA, hkA, huA, by rw [Rd.take_L]; exact at3003⟩ rfl⟩
   refine .block ?_
   refine .hold (fun HhO lehO nxhO => ?_)
   obtain ⟨ghO, hghO⟩ : ∃ g, g = GHeap.next H35 := ⟨_, rfl⟩
   have no_hO : NO HhO ghO [] 2 0 := NO.start (by omega) rfl rfl
   have nx_HhO := lehO.1
   replace hst := hst.le lehO
   replace rkA := rkA.le lehO
   replace rkM := rkM.le lehO
   replace at9004 := lehO.2 _ _ at9004
   replace atC := lehO.2 _ _ atC
   have lt_no_hO := no_hO.lt
   clear mm9004
   have mm9004 : MemN _ _ _ _ _ := ⟨rfl, Mem.of_get at9004⟩
   refine .loopR (σ := Nat × Rd × Nat × List Int × Nat) [(0, some _), (3, some _)] (fun (k, rc, n, az, gLO) => []) (fun (k, rc, n, az, gLO) H' => St [ghO, g3, gR] HhO H' ∧ NO H' gLO (ints az) 2 (az.length) ∧ (gLO = ghO ∨ HhO.next ≤ gLO) ∧ H'.get g3 = some (.row ([.int .i64 2, .int .i64 r.take.2.dig.1, .slice (nz az.length gLO) az.length az.length]) 38 true) ∧ H'.get gR = some (.row ([.string s, .int .i64 (k : Int), .slice (nz r.take.2.L.length gL) r.take.2.L.length r.take.2.L.length, .bool rc.bad]) 30 true) ∧ gLO ≠ g3 ∧ gLO ≠ gR ∧ g3 ≠ gR ∧ k ≤ s.size ∧ rest s k = rc.u ∧ rc.args n az = (r.take.2.dig.2.want 40).args (r.take.2.dig.2.want 40).u.length [] ∧ rc.u.length ≤ n ∧ n + az.length ≤ s.size) (fun (k, rc, n, az, gLO) => n) ((kC, r.take.2.dig.2.want 40, (r.take.2.dig.2.want 40).u.length, [], ghO)) (.p rfl) trivial ?_ ?_
   ·
    refine ⟨.refl _ _, by first | assumption | exact NO.start (by omega) (by first | rfl | (simp; done) | omega) (by first | rfl | (simp; done)), .inl rfl, by first | assumption | exact at9004 | simpa using at9004, by first | assumption | exact atC | simpa using atC, by omega, by omega, by omega, ?_⟩
    exact ⟨hkC, huC, rfl, Nat.le_refl _, by rw [← huC, rest_len]; simp⟩
   rintro ⟨k, rc, n, az, gLO⟩ HL1 ⟨lst1, no_LO, pl_LO, at_Lg3, at_LgR, ap1_0, ap1_1, ap1_2, hI⟩ KL1 hKL1
   refine .fg [0, 3] rfl ?_
   have nx_HL1 := lst1.nx
   replace hst := hst.sA lst1
   replace rkA := rkA.sA lst1
   replace rkM := rkM.sA lst1
   have lt_no_LO := no_LO.lt
   have lt_at_Lg3 := GHeap.ltg at_Lg3
   have lt_at_LgR := GHeap.ltg at_LgR
   clear mm9004
   have mm9004 : MemN _ _ _ _ _ := ⟨rfl, Mem.of_get at9004⟩
   obtain ⟨hk1, hu1, hv1, hn1, hl1⟩ := hI
   have hgO : H15.next ≤ gLO := by omega
   refine .seq (fun K11 hK11 => .seq (fun K12 hK12 => ?_))
   refine .regionD mo_E (.qs [0, 1, 2, 3, 4, 5, 6, 7, 8, 9, 10, 11, 12, 13, 14, 15, 16, 17, 18, 19, 20, 21, 22, 23, 24, 25, 26, 27, 28] (.done)) (by kernel_rfl) ?_
   refine .mv rfl rfl (.q rfl (.nilCheck rfl) (.q rfl (.fieldAddr fo_30_3_Ua rfl) ?_))
   refine .q rfl (.load on_4_Uf rfl (by first | assumption | exact Mem.of_get at_LgR 3 _ rfl)) ?_
   refine .q rfl (.not rfl) (.mv rfl rfl ?_)
   refine .split (fun h41 => ?_) (fun h41 => ?_)
   ·
    simp only [sps] at h41
    refine .qg rfl (.move rfl) (.qg rfl (.nilCheck rfl) (.qg rfl (.fieldAddr fo_30_1_Ua rfl) ?_))
    refine .qg rfl (.load on_3_Ua rfl (by first | assumption | exact Mem.of_get at_LgR 1 _ rfl)) ?_
    refine .qg rfl (.move rfl) (.qg rfl (.nilCheck rfl) (.qg rfl (.fieldAddr fo_30_0_Ua rfl) ?_))
    refine .qg rfl (.load on_9_Ua rfl (by first | assumption | exact Mem.of_get at_LgR 0 _ rfl)) ?_
    refine .qg rfl (.lenStr st_9_Ua rfl) (.qg rfl (.cmp rfl rfl rfl) (.q rfl (.pickT rfl rfl) (.mv rfl rfl ?_)))
    refine .split (fun h53 => ?_) (fun h53 => ?_)
    ·
     simp only [sps] at h53
     obtain ⟨b, hb, hc⟩ := rest_cons (s := s) (k := k) (by omega)
     have hb' : s[(k : Int).toNat]? = some b := by rw [Int.toNat_natCast]; exact hb
     have hcu := hu1.symm.trans hc
     refine .qg rfl (.move rfl) (.qg rfl (.nilCheck rfl) (.qg rfl (.fieldAddr fo_30_0_Ua rfl) ?_))
     refine .qg rfl (.load on_9_Ua rfl (by first | assumption | exact Mem.of_get at_LgR 0 _ rfl)) ?_
     refine .qg rfl (.move rfl) (.qg rfl (.nilCheck rfl) (.qg rfl (.fieldAddr fo_30_1_Ua rfl) ?_))
     refine .qg rfl (.load on_3_Ua rfl (by first | assumption | exact Mem.of_get at_LgR 1 _ rfl)) ?_
     refine .qg rfl (.indexStr st_9_Ua rfl rfl (by omega) (by assumption)) ?_
     refine .qg rfl (.cmp rfl rfl rfl) (.q rfl (.pickT rfl rfl) (.done (hK12 _ _ ?_)))
     refine .cond rfl ?_ ?_ <;> intro h64
     ·
      simp only [sps] at h64
      have hmo : rc.at118 := ⟨h41, by rw [hcu, h64]; rfl⟩
      refine .skip (hK11 _ _ (.block (.seq (fun K13 hK13 => .region (.mv rfl ?_)))))
      refine .call rfl rfl rfl rfl @Tryd.call18 rfl (l29Want_c (r := rc) ⟨k, hk1, hu1, at_LgR⟩ hs) ?_
      rintro _ H66 ⟨rfl, stD, hRD⟩
      obtain ⟨kD, hkD, huD, atD⟩ := hRD
      have st66 := stD
      have nx_H66 := st66.nx
      replace hst := hst.sA st66
      replace rkA := rkA.sA st66
      replace rkM := rkM.sA st66
      replace lst1 := lst1.sA st66
      replace no_LO := no_LO.st st66 ⟨ap1_1, trivial⟩
      replace at_Lg3 := st66.same _ _ ⟨ap1_2, trivial⟩ at_Lg3
      have lt_atD := GHeap.ltg atD
      clear mm9004
      have mm9004 : MemN _ _ _ _ _ := ⟨rfl, Mem.of_get at9004⟩
      refine .nil (hK13 _ _ (.seq (fun K14 hK14 => .region (.q rfl (.fieldAddr fo_38_2_Uf rfl) ?_))))
      refine .q rfl (.load on_36_Uf rfl (by first | assumption | exact Mem.of_get at_Lg3 2 _ rfl)) ?_
      refine .call rfl rfl rfl rfl @Tryd.call19 rfl (l01Own_c (xs := az) (no_LO.isV rfl) (by omega)) ?_
      rintro _ H69 ⟨le69, g69, rfl, at69, ge69⟩
      have nx_H69 := le69.1
      replace hst := hst.le le69
      replace rkA := rkA.le le69
      replace rkM := rkM.le le69
      replace lst1 := lst1.le le69
      replace no_LO := no_LO.le le69
      replace at_Lg3 := le69.2 _ _ at_Lg3
      replace atD := le69.2 _ _ atD
      have lt_at69 := GHeap.ltg at69
      clear mm9004
      have mm9004 : MemN _ _ _ _ _ := ⟨rfl, Mem.of_get at9004⟩
      have i69 := Ints.of_get at69
      refine .mv rfl ?_
      refine .call rfl rfl rfl rfl @Tryd.call17 rfl (l29Digit_c (r := rc.want 118) ⟨kD, hkD, huD, atD⟩ hs) ?_
      rintro _ H71 ⟨rfl, stE, hRE⟩
      obtain ⟨kE, hkE, huE, atE⟩ := hRE
      have st71 := stE
      have nx_H71 := st71.nx
      replace hst := hst.sA st71
      replace rkA := rkA.sA st71
      replace rkM := rkM.sA st71
      replace lst1 := lst1.sA st71
      replace no_LO := no_LO.st st71 ⟨ap1_1, trivial⟩
      replace at_Lg3 := st71.same _ _ ⟨ap1_2, trivial⟩ at_Lg3
      have ne_g69_gR : NE g69 gR := .a
      replace at69 := st71.s at69 ne_g69_gR.ne
      have lt_atE := GHeap.ltg atE
      clear mm9004
      have mm9004 : MemN _ _ _ _ _ := ⟨rfl, Mem.of_get at9004⟩
      clear i69
      have i69 := Ints.of_get at69
      refine .R rfl (.litA rfl sl_36_A ze_2_Pa rfl rfl rfl rfl) ?_
      rintro _ H72 ⟨g72, rfl, le72, ge72, at72⟩
      have nx_H72 := le72.1
      replace hst := hst.le le72
      replace rkA := rkA.le le72
      replace rkM := rkM.le le72
      replace lst1 := lst1.le le72
      replace no_LO := no_LO.le le72
      replace at_Lg3 := le72.2 _ _ at_Lg3
      replace at69 := le72.2 _ _ at69
      replace atE := le72.2 _ _ atE
      have lt_at72 := GHeap.ltg at72
      clear mm9004
      have mm9004 : MemN _ _ _ _ _ := ⟨rfl, Mem.of_get at9004⟩
      clear i69
      have i69 := Ints.of_get at69
      refine .R rfl (.apI rfl sl_36_A ze_2_Pa rfl by_2_Pa sl_36_A rfl rfl) ?_
      rintro _ H73 ⟨g73, rfl, st73, ge73, at73⟩
      have nx_H73 := st73.nx
      replace hst := hst.sA st73
      replace rkA := rkA.sA st73
      replace rkM := rkM.sA st73
      replace lst1 := lst1.sA st73
      replace no_LO := no_LO.st st73 ⟨(by first | assumption | omega), trivial⟩
      replace at_Lg3 := st73.s at_Lg3
      replace atE := st73.s atE (Ne.symm ne_g69_gR.ne)
      replace at72 := st73.s at72
      have lt_at73 := GHeap.ltg at73
      clear mm9004
      have mm9004 : MemN _ _ _ _ _ := ⟨rfl, Mem.of_get at9004⟩
      clear i69
      have i69 := Ints.of_get at69
      refine .q rfl (.fieldAddr fo_38_2_Uf rfl) ?_
      refine .r0 rfl rfl (.storeR rfl sz_36_Uf rfl rfl rfl (by assumption) (by first | exact Nat.le_of_ble_eq_true rfl | (simp; done) | (simp <;> omega))) ?_
      rintro _ H13008 ⟨rfl, st13008, at13008⟩
      have nx_H13008 := st13008.nx
      replace hst := hst.sA st13008
      replace rkA := rkA.sA st13008
      replace rkM := rkM.sA st13008
      replace lst1 := lst1.sA st13008
      replace no_LO := no_LO.st st13008 ⟨ap1_0, trivial⟩
      replace atE := st13008.s atE ne_gR_g3.ne
      replace at72 := st13008.s at72
      replace at73 := st13008.s at73
      have lt_at13008 := GHeap.ltg at13008
      clear mm9004
      have mm9004 : MemN _ _ _ _ _ := ⟨rfl, Mem.of_get at9004⟩
      clear i69
      have i69 := Ints.of_get at69
      try simp only [Nat.zero_add, List.set_cons_succ, List.set_cons_zero] at at13008
      refine .nil (hK14 _ _ (.seq (fun K15 hK15 => .seq (fun K16 hK16 => ?_))))
      refine .regionD mo_E (.qs [0, 1, 2, 3, 4, 5, 6, 7, 8, 9, 10, 11, 12, 13, 14, 15, 16, 17, 18, 19, 20, 21, 22, 23, 24, 25, 26, 27, 28] (.done)) (by kernel_rfl) ?_
      have hlN : (az ++ [(rc.want 118).dig.1]).length = az.length + 1 := by simp
      replace at13008 : GHeap.get H13008 g3 = some (.row [.int .i64 2, .int .i64 r.take.2.dig.1, .slice (nz (az ++ [(rc.want 118).dig.1]).length g73) (az ++ [(rc.want 118).dig.1]).length (az ++ [(rc.want 118).dig.1]).length] 38 true) := by rw [hlN, nz_pos (by omega)]; exact at13008
      have mV0 : ¬ (rc.want 118).dig.2.at44 → ArgV 30 38 2 _ _ H15.next gR g3 s (.slice (nz r.take.2.L.length gL) r.take.2.L.length r.take.2.L.length) (r.take.2.dig.2.want 40) _ kE (rc.want 118).dig.2 (az ++ [(rc.want 118).dig.1]) g73 := fun h2 => ⟨hkE, huE, hv1.symm.trans (Rd.args_end hmo hn1 h2 az), NO.of at73 (by omega), rkM, by omega, at13008, atE, by obtain ⟨q, hq, _⟩ := Rd.args_succ hmo hn1; omega⟩
      refine .mv rfl rfl (.q rfl (.nilCheck rfl) (.q rfl (.fieldAddr fo_30_3_Ua rfl) ?_))
      refine .q rfl (.load on_4_Uf rfl (by first | assumption | exact Mem.of_get atE 3 _ rfl)) ?_
      refine .q rfl (.not rfl) (.mv rfl rfl ?_)
      refine .split (fun h80 => ?_) (fun h80 => ?_)
      ·
       simp only [sps] at h80
       refine .qg rfl (.move rfl) (.qg rfl (.nilCheck rfl) (.qg rfl (.fieldAddr fo_30_1_Ua rfl) ?_))
       refine .qg rfl (.load on_3_Ua rfl (by first | assumption | exact Mem.of_get atE 1 _ rfl)) ?_
       refine .qg rfl (.move rfl) (.qg rfl (.nilCheck rfl) (.qg rfl (.fieldAddr fo_30_0_Ua rfl) ?_))
       refine .qg rfl (.load on_9_Ua rfl (by first | assumption | exact Mem.of_get atE 0 _ rfl)) ?_
       refine .qg rfl (.lenStr st_9_Ua rfl) (.qg rfl (.cmp rfl rfl rfl) (.q rfl (.pickT rfl rfl) (.mv rfl rfl ?_)))
       refine .split (fun h92 => ?_) (fun h92 => ?_)
       ·
        simp only [sps] at h92
        obtain ⟨b2, hb2, hc2⟩ := rest_cons (s := s) (k := kE) (by omega)
        have hb2' : s[(kE : Int).toNat]? = some b2 := by rw [Int.toNat_natCast]; exact hb2
        have hcu2 := huE.symm.trans hc2
        refine .qg rfl (.move rfl) (.qg rfl (.nilCheck rfl) (.qg rfl (.fieldAddr fo_30_0_Ua rfl) ?_))
        refine .qg rfl (.load on_9_Ua rfl (by first | assumption | exact Mem.of_get atE 0 _ rfl)) ?_
        refine .qg rfl (.move rfl) (.qg rfl (.nilCheck rfl) (.qg rfl (.fieldAddr fo_30_1_Ua rfl) ?_))
        refine .qg rfl (.load on_3_Ua rfl (by first | assumption | exact Mem.of_get atE 1 _ rfl)) ?_
        refine .qg rfl (.indexStr st_9_Ua rfl rfl (by omega) (by assumption)) ?_
        refine .qg rfl (.cmp rfl rfl rfl) (.q rfl (.pickT rfl rfl) (.done (hK16 _ _ ?_)))
        refine .cond rfl ?_ ?_ <;> intro h103
        ·
         simp only [sps] at h103
         have hmo2 : (rc.want 118).dig.2.at44 := ⟨h80, by rw [hcu2, h103]; rfl⟩
         obtain ⟨m, hm1, hm2, hm3, hm4⟩ := Rd.args_more hmo hn1 hmo2 az
         refine .seq (fun K17 hK17 => .region (.mv rfl ?_))
         refine .call rfl rfl rfl rfl @Tryd.call18 rfl (l29Want_c (r := (rc.want 118).dig.2) ⟨kE, hkE, huE, atE⟩ hs) ?_
         rintro _ H105 ⟨rfl, stG, hRG⟩
         obtain ⟨kG, hkG, huG, atG⟩ := hRG
         have st105 := stG
         have nx_H105 := st105.nx
         replace hst := hst.sA st105
         replace rkA := rkA.sA st105
         replace rkM := rkM.sA st105
         replace lst1 := lst1.sA st105
         replace no_LO := no_LO.st st105 ⟨ap1_1, trivial⟩
         have ne_g72_gR : NE g72 gR := .a
         replace at72 := st105.s at72 ne_g72_gR.ne
         have ne_g73_gR : NE g73 gR := .a
         replace at73 := st105.s at73 ne_g73_gR.ne
         replace at13008 := st105.same _ _ ⟨ap1_2, trivial⟩ at13008
         have lt_atG := GHeap.ltg atG
         clear mm9004
         have mm9004 : MemN _ _ _ _ _ := ⟨rfl, Mem.of_get at9004⟩
         clear i69
         have i69 := Ints.of_get at69
         refine .nil (hK17 _ _ (.seq (fun K18 hK18 => .seq (fun K19 hK19 => ?_))))
         refine .regionD mo_E (.qs [0, 1, 2, 3, 4, 5, 6, 7, 8, 9, 10, 11, 12, 13, 14, 15, 16, 17, 18, 19, 20, 21] (.done)) (by kernel_rfl) ?_
         refine .mv rfl rfl (.q rfl (.nilCheck rfl) (.q rfl (.fieldAddr fo_30_1_Ua rfl) ?_))
         refine .q rfl (.load on_3_Ua rfl (by first | assumption | exact Mem.of_get atG 1 _ rfl)) ?_
         refine .mv rfl rfl (.q rfl (.nilCheck rfl) (.q rfl (.fieldAddr fo_30_0_Ua rfl) ?_))
         refine .q rfl (.load on_9_Ua rfl (by first | assumption | exact Mem.of_get atG 0 _ rfl)) ?_
         refine .q rfl (.lenStr st_9_Ua rfl) (.q rfl (.cmp rfl rfl rfl) (.mv rfl rfl ?_))
         refine .split (fun h116 => ?_) (fun h116 => ?_)
         ·
          simp only [sps] at h116
          have hnv : ¬ ((rc.want 118).dig.2.want 44).u.head? = some 118 := by rw [← huG, rest_nil (by omega)]; simp
          refine .z rfl (.z rfl (.z rfl (.z rfl (.z rfl (.z rfl (.z rfl (.z rfl (.z rfl (.z rfl (.q rfl (.pickT rfl rfl) (.done (hK19 _ _ ?_))))))))))))
          refine .condT rfl ?_
          refine .region (.mv rfl (.q rfl (.nilCheck rfl) (.q rfl (.fieldAddr fo_30_3_Ua rfl) ?_)))
          refine .r0 rfl rfl (.storeR rfl sz_4_Ua rfl rfl rfl (by assumption) (by first | exact Nat.le_of_ble_eq_true rfl | (simp; done) | (simp <;> omega))) ?_
          rintro _ H17003 ⟨rfl, st17003, at17003⟩
          have nx_H17003 := st17003.nx
          replace hst := hst.sA st17003
          replace rkA := rkA.sA st17003
          replace rkM := rkM.sA st17003
          replace lst1 := lst1.sA st17003
          replace no_LO := no_LO.st st17003 ⟨ap1_1, trivial⟩
          replace at72 := st17003.s at72 ne_g72_gR.ne
          replace at73 := st17003.s at73 ne_g73_gR.ne
          replace at13008 := st17003.same _ _ ⟨ap1_2, trivial⟩ at13008
          have lt_at17003 := GHeap.ltg at17003
          clear mm9004
          have mm9004 : MemN _ _ _ _ _ := ⟨rfl, Mem.of_get at9004⟩
          clear i69
          have i69 := Ints.of_get at69
          try simp only [Nat.zero_add, List.set_cons_succ, List.set_cons_zero] at at17003
          obtain ⟨rN, hrN0, hrN1, hrN2⟩ : ∃ rN : Rd, rN.bad = true ∧ rN.u = ((rc.want 118).dig.2.want 44).u ∧ rc.args n az = rN.args m (az ++ [(rc.want 118).dig.1]) := ⟨((rc.want 118).dig.2.want 44).fail, rfl, rfl, hm4 hnv⟩
          have atN : GHeap.get H17003 gR = some (.row [.string s, .int .i64 (kG : Int), .slice (nz r.take.2.L.length gL) r.take.2.L.length r.take.2.L.length, .bool rN.bad] 30 true) := by rw [hrN0]; exact at17003
          refine .nil (hK18 _ _ (.exit ?_))
          refine hKL1 ((kG, rN, m, az ++ [(rc.want 118).dig.1], g73)) _ _ ?_ ?_ (.p rfl)
          ·
           refine ⟨lst1, by first | (assumption) | exact NO.of (by assumption) (by omega), by omega, by assumption, by assumption, by omega, by omega, by omega, ?_⟩
           exact ⟨hkG, by rw [hrN1]; exact huG, by rw [← hrN2]; exact hv1, by rw [hrN1]; exact hm2, by omega⟩
          (dsimp only; omega)
         simp only [sps] at h116
         obtain ⟨b3, hb3, hc3⟩ := rest_cons (s := s) (k := kG) (by omega)
         have hb3' : s[(kG : Int).toNat]? = some b3 := by rw [Int.toNat_natCast]; exact hb3
         refine .qg rfl (.move rfl) (.qg rfl (.nilCheck rfl) (.qg rfl (.fieldAddr fo_30_0_Ua rfl) ?_))
         refine .qg rfl (.load on_9_Ua rfl (by first | assumption | exact Mem.of_get atG 0 _ rfl)) ?_
         refine .qg rfl (.move rfl) (.qg rfl (.nilCheck rfl) (.qg rfl (.fieldAddr fo_30_1_Ua rfl) ?_))
         refine .qg rfl (.load on_3_Ua rfl (by first | assumption | exact Mem.of_get atG 1 _ rfl)) ?_
         refine .qg rfl (.indexStr st_9_Ua rfl rfl (by omega) (by assumption)) ?_
         refine .qg rfl (.cmp rfl rfl rfl) (.q rfl (.pickF rfl rfl) (.done (hK19 _ _ ?_)))
         refine .cond rfl ?_ ?_ <;> intro h127
         ·
          simp only [sps] at h127
          have hnv : ¬ ((rc.want 118).dig.2.want 44).u.head? = some 118 := by rw [← huG, hc3]; simpa using h127
          refine .region (.mv rfl (.q rfl (.nilCheck rfl) (.q rfl (.fieldAddr fo_30_3_Ua rfl) ?_)))
          refine .r0 rfl rfl (.storeR rfl sz_4_Ua rfl rfl rfl (by assumption) (by first | exact Nat.le_of_ble_eq_true rfl | (simp; done) | (simp <;> omega))) ?_
          rintro _ H17003x2 ⟨rfl, st17003x2, at17003x2⟩
          have nx_H17003x2 := st17003x2.nx
          replace hst := hst.sA st17003x2
          replace rkA := rkA.sA st17003x2
          replace rkM := rkM.sA st17003x2
          replace lst1 := lst1.sA st17003x2
          replace no_LO := no_LO.st st17003x2 ⟨ap1_1, trivial⟩
          replace at72 := st17003x2.s at72 ne_g72_gR.ne
          replace at73 := st17003x2.s at73 ne_g73_gR.ne
          replace at13008 := st17003x2.same _ _ ⟨ap1_2, trivial⟩ at13008
          have lt_at17003x2 := GHeap.ltg at17003x2
          clear mm9004
          have mm9004 : MemN _ _ _ _ _ := ⟨rfl, Mem.of_get at9004⟩
          clear i69
          have i69 := Ints.of_get at69
          try simp only [Nat.zero_add, List.set_cons_succ, List.set_cons_zero] at at17003x2
          obtain ⟨rN, hrN0, hrN1, hrN2⟩ : ∃ rN : Rd, rN.bad = true ∧ rN.u = ((rc.want 118).dig.2.want 44).u ∧ rc.args n az = rN.args m (az ++ [(rc.want 118).dig.1]) := ⟨((rc.want 118).dig.2.want 44).fail, rfl, rfl, hm4 hnv⟩
          have atN : GHeap.get H17003x2 gR = some (.row [.string s, .int .i64 (kG : Int), .slice (nz r.take.2.L.length gL) r.take.2.L.length r.take.2.L.length, .bool rN.bad] 30 true) := by rw [hrN0]; exact at17003x2
          refine .nil (hK18 _ _ (.exit ?_))
          refine hKL1 ((kG, rN, m, az ++ [(rc.want 118).dig.1], g73)) _ _ ?_ ?_ (.p rfl)
          ·
           refine ⟨lst1, by first | (assumption) | exact NO.of (by assumption) (by omega), by omega, by assumption, by assumption, by omega, by omega, by omega, ?_⟩
           exact ⟨hkG, by rw [hrN1]; exact huG, by rw [← hrN2]; exact hv1, by rw [hrN1]; exact hm2, by omega⟩
          (dsimp only; omega)
         simp only [sps] at h127
         have hyv : ((rc.want 118).dig.2.want 44).u.head? = some 118 := by rw [← huG, hc3, h127]; rfl
         obtain ⟨rN, hrN0, hrN1, hrN2⟩ : ∃ rN : Rd, rN.bad = ((rc.want 118).dig.2.want 44).bad ∧ rN.u = ((rc.want 118).dig.2.want 44).u ∧ rc.args n az = rN.args m (az ++ [(rc.want 118).dig.1]) := ⟨_, rfl, rfl, hm3 hyv⟩
         rw [← hrN0] at atG
         refine .skip (hK18 _ _ (.exit ?_))
         refine hKL1 ((kG, rN, m, az ++ [(rc.want 118).dig.1], g73)) _ _ ?_ ?_ (.p rfl)
         ·
          refine ⟨lst1, by first | (assumption) | exact NO.of (by assumption) (by omega), by omega, by assumption, by assumption, by omega, by omega, by omega, ?_⟩
          exact ⟨hkG, by rw [hrN1]; exact huG, by rw [← hrN2]; exact hv1, by rw [hrN1]; exact hm2, by omega⟩
         (dsimp only; omega)
        simp only [sps] at h103
        have mV := mV0 (fun q => by have := q.2; rw [hcu2] at this; exact h103 (by simpa using this))
        refine .skip (hK15 _ _ (.exit ?_))
        exact ⟨_, _, _, _, (.p rfl), mV⟩
       simp only [sps] at h92
       have mV := mV0 (fun q => by have := q.2; rw [← huE, rest_nil (by omega)] at this; cases this)
       refine .z rfl (.z rfl (.z rfl (.z rfl (.z rfl (.z rfl (.z rfl (.z rfl (.z rfl (.z rfl (.q rfl (.pickF rfl rfl) (.done (hK16 _ _ ?_))))))))))))
       refine .condF rfl ?_
       refine .skip (hK15 _ _ (.exit ?_))
       exact ⟨_, _, _, _, (.p rfl), mV⟩
      simp only [sps] at h80
      have mV := mV0 (fun q => by rw [q.1] at h80; cases h80)
      refine .z rfl (.z rfl (.z rfl (.z rfl (.z rfl (.z rfl (.z rfl (.z rfl (.z rfl (.z rfl (.q rfl (.pickF rfl rfl) (.mv rfl rfl (.z rfl (.z rfl (.z rfl (.z rfl ?_)))))))))))))))
      refine .z rfl (.z rfl (.z rfl (.z rfl (.z rfl (.z rfl (.q rfl (.pickF rfl rfl) (.done (hK16 _ _ ?_))))))))
      refine .condF rfl ?_
      refine .skip (hK15 _ _ (.exit ?_))
      exact ⟨_, _, _, _, (.p rfl), mV⟩
     simp only [sps] at h64
     have hns : ¬ rc.at118 := fun q => by have := q.2; rw [hcu] at this; exact h64 (by simpa using this)
     have mV : ArgV 30 38 2 _ _ _ gR g3 s _ (r.take.2.dig.2.want 40) _ k rc az gLO := ⟨hk1, hu1, hv1.symm.trans (Rd.args_stop hns _ _), no_LO, rkM, hgO, at_Lg3, at_LgR, by omega⟩
     refine .exit ?_
     exact ⟨_, _, _, _, (.p rfl), mV⟩
    simp only [sps] at h53
    have hns : ¬ rc.at118 := fun q => by have := q.2; rw [← hu1, rest_nil (by omega)] at this; cases this
    have mV : ArgV 30 38 2 _ _ _ gR g3 s _ (r.take.2.dig.2.want 40) _ k rc az gLO := ⟨hk1, hu1, hv1.symm.trans (Rd.args_stop hns _ _), no_LO, rkM, hgO, at_Lg3, at_LgR, by omega⟩
    refine .z rfl (.z rfl (.z rfl (.z rfl (.z rfl (.z rfl (.z rfl (.z rfl (.z rfl (.z rfl (.q rfl (.pickF rfl rfl) (.done (hK12 _ _ ?_))))))))))))
    refine .condF rfl ?_
    refine .exit ?_
    exact ⟨_, _, _, _, (.p rfl), mV⟩
   simp only [sps] at h41
   have hns : ¬ rc.at118 := fun q => by rw [q.1] at h41; cases h41
   have mV : ArgV 30 38 2 _ _ _ gR g3 s _ (r.take.2.dig.2.want 40) _ k rc az gLO := ⟨hk1, hu1, hv1.symm.trans (Rd.args_stop hns _ _), no_LO, rkM, hgO, at_Lg3, at_LgR, by omega⟩
   refine .z rfl (.z rfl (.z rfl (.z rfl (.z rfl (.z rfl (.z rfl (.z rfl (.z rfl (.z rfl (.q rfl (.pickF rfl rfl) (.mv rfl rfl (.z rfl (.z rfl (.z rfl (.z rfl ?_)))))))))))))))
   refine .z rfl (.z rfl (.z rfl (.z rfl (.z rfl (.z rfl (.q rfl (.pickF rfl rfl) (.done (hK12 _ _ ?_))))))))
   refine .condF rfl ?_
   refine .exit ?_
   exact ⟨_, _, _, _, (.p rfl), mV⟩
  simp only [sps] at h29
  refine .seq (fun K20 hK20 => .region (.q rfl (.cmp rfl rfl rfl) (.mv rfl (.nil (hK20 _ _ ?_)))))
  refine .cond rfl ?_ ?_ <;> intro h136
  ·
   simp only [sps] at h136
   refine .seq (fun K21 hK21 => .region (.mv rfl ?_))
   refine .call rfl rfl rfl rfl @Tryd.call17 rfl (l29Digit_c hrA.rd hs) ?_
   rintro _ H139 ⟨rfl, stB, hRB⟩
   have rkA := stB
   obtain ⟨kB, hkB, huB, atB⟩ := hRB
   have st139 := stB
   have nx_H139 := st139.nx
   replace hst := hst.sA st139
   have lt_atB := GHeap.ltg atB
   refine .R rfl (.litA rfl sl_36_A ze_2_Pa rfl rfl rfl rfl) ?_
   rintro _ H140 ⟨g140, rfl, le140, ge140, at140⟩
   have nx_H140 := le140.1
   replace hst := hst.le le140
   replace rkA := rkA.le le140
   replace atB := le140.2 _ _ atB
   have lt_at140 := GHeap.ltg at140
   refine .q rfl (.build bt_38_Ue rfl rfl rfl) ?_
   refine .R rfl (.allocR rfl ze_38_Uc rfl) ?_
   rintro _ H4 ⟨g4, rfl, le4, ge4, at4⟩
   have nx_H4 := le4.1
   replace hst := hst.le le4
   replace rkA := rkA.le le4
   replace atB := le4.2 _ _ atB
   replace at140 := le4.2 _ _ at140
   have lt_at4 := GHeap.ltg at4
   refine .r0 rfl rfl (.fillA rfl sz_38_Uc rfl rfl rfl rfl) ?_
   rintro _ H21005 ⟨rfl, st21005, at21005⟩
   have nx_H21005 := st21005.nx
   replace hst := hst.sA st21005
   replace rkA := rkA.sA st21005
   have ne_gR_g4 : NE gR g4 := .a
   replace atB := st21005.s atB ne_gR_g4.ne
   have ne_g140_g4 : NE g140 g4 := .a
   replace at140 := st21005.s at140 ne_g140_g4.ne
   have lt_at21005 := GHeap.ltg at21005
   have mm21005 : MemN _ _ _ _ _ := ⟨rfl, Mem.of_get at21005⟩
   refine .nil (hK21 _ _ (.seq (fun K22 hK22 => .region (.mv rfl ?_))))
   refine .call rfl rfl rfl rfl @Tryd.call18 rfl (l29Want_c (r := r.take.2.dig.2) ⟨kB, hkB, huB, atB⟩ hs) ?_
   rintro _ H143 ⟨rfl, stC, hRC⟩
   obtain ⟨kC, hkC, huC, atC⟩ := hRC
   have st143 := stC
   have nx_H143 := st143.nx
   replace hst := hst.sA st143
   replace rkA := rkA.sA st143
   have ne_g140_gR : NE g140 gR := .a
   replace at140 := st143.s at140 ne_g140_gR.ne
   replace at21005 := st143.s at21005 (Ne.symm ne_gR_g4.ne)
   have lt_atC := GHeap.ltg atC
   clear mm21005
   have mm21005 : MemN _ _ _ _ _ := ⟨rfl, Mem.of_get at21005⟩
   refine .nil (hK22 _ _ (.seq (fun K23 hK23 => .region (.mv rfl ?_))))
   refine .call rfl rfl rfl rfl @Tryd.call18 rfl (l29Want_c (r := r.take.2.dig.2.want 61) ⟨kC, hkC, huC, atC⟩ hs) ?_
   rintro _ H145 ⟨rfl, stD, hRD⟩
   obtain ⟨kD, hkD, huD, atD⟩ := hRD
   have st145 := stD
   have nx_H145 := st145.nx
   replace hst := hst.sA st145
   replace rkA := rkA.sA st145
   replace at140 := st145.s at140 ne_g140_gR.ne
   replace at21005 := st145.s at21005 (Ne.symm ne_gR_g4.ne)
   have lt_atD := GHeap.ltg atD
   clear mm21005
   have mm21005 : MemN _ _ _ _ _ := ⟨rfl, Mem.of_get at21005⟩
   refine .nil (hK23 _ _ (.seq (fun K24 hK24 => .region (.q rfl (.fieldAddr fo_38_2_Uf rfl) ?_))))
   refine .q rfl (.load on_36_Uf rfl (by first | assumption | exact Mem.of_get at21005 2 _ rfl)) ?_
   refine .call rfl rfl rfl rfl @Tryd.call19 rfl (l01Own_c (xs := [r.take.2.dig.1]) (Ints.of_get (xs := [r.take.2.dig.1]) at140) (by simp)) ?_
   rintro _ H148 ⟨le148, g148, rfl, at148, ge148⟩
   have nx_H148 := le148.1
   replace hst := hst.le le148
   replace rkA := rkA.le le148
   replace at140 := le148.2 _ _ at140
   replace at21005 := le148.2 _ _ at21005
   replace atD := le148.2 _ _ atD
   have lt_at148 := GHeap.ltg at148
   clear mm21005
   have mm21005 : MemN _ _ _ _ _ := ⟨rfl, Mem.of_get at21005⟩
   have i148 := Ints.of_get at148
   refine .mv rfl ?_
   refine .call rfl rfl rfl rfl @Tryd.call17 rfl (l29Digit_c (r := (r.take.2.dig.2.want 61).want 118) ⟨kD, hkD, huD, atD⟩ hs) ?_
   rintro _ H150 ⟨rfl, stE, hRE⟩
   obtain ⟨kE, hkE, huE, atE⟩ := hRE
   have st150 := stE
   have nx_H150 := st150.nx
   replace hst := hst.sA st150
   replace rkA := rkA.sA st150
   replace at140 := st150.s at140 ne_g140_gR.ne
   replace at21005 := st150.s at21005 (Ne.symm ne_gR_g4.ne)
   have ne_g148_gR : NE g148 gR := .a
   replace at148 := st150.s at148 ne_g148_gR.ne
   have lt_atE := GHeap.ltg atE
   clear mm21005
   have mm21005 : MemN _ _ _ _ _ := ⟨rfl, Mem.of_get at21005⟩
   clear i148
   have i148 := Ints.of_get at148
   refine .R rfl (.litA rfl sl_36_A ze_2_Pa rfl rfl rfl rfl) ?_
   rintro _ H151 ⟨g151, rfl, le151, ge151, at151⟩
   have nx_H151 := le151.1
   replace hst := hst.le le151
   replace rkA := rkA.le le151
   replace at140 := le151.2 _ _ at140
   replace at21005 := le151.2 _ _ at21005
   replace at148 := le151.2 _ _ at148
   replace atE := le151.2 _ _ atE
   have lt_at151 := GHeap.ltg at151
   clear mm21005
   have mm21005 : MemN _ _ _ _ _ := ⟨rfl, Mem.of_get at21005⟩
   clear i148
   have i148 := Ints.of_get at148
   have hl1 : ([r.take.2.dig.1] : List Int).length = 1 := rfl
   refine .R rfl (.apI rfl sl_36_A ze_2_Pa rfl by_2_Pa sl_36_A rfl rfl) ?_
   rintro _ H152 ⟨g152, rfl, st152, ge152, at152⟩
   have nx_H152 := st152.nx
   replace hst := hst.sA st152
   replace rkA := rkA.sA st152
   replace at140 := st152.s at140
   replace at21005 := st152.s at21005
   replace atE := st152.s atE (Ne.symm ne_g148_gR.ne)
   replace at151 := st152.s at151
   have lt_at152 := GHeap.ltg at152
   clear mm21005
   have mm21005 : MemN _ _ _ _ _ := ⟨rfl, Mem.of_get at21005⟩
   clear i148
   have i148 := Ints.of_get at148
   refine .q rfl (.fieldAddr fo_38_2_Uf rfl) ?_
   refine .r0 rfl rfl (.storeR rfl sz_36_Uf rfl rfl rfl (by assumption) (by first | exact Nat.le_of_ble_eq_true rfl | (simp; done) | (simp <;> omega))) ?_
   rintro _ H24008 ⟨rfl, st24008, at24008⟩
   have nx_H24008 := st24008.nx
   replace hst := hst.sA st24008
   replace rkA := rkA.sA st24008
   replace at140 := st24008.s at140 ne_g140_g4.ne
   replace atE := st24008.s atE ne_gR_g4.ne
   replace at151 := st24008.s at151
   replace at152 := st24008.s at152
   have lt_at24008 := GHeap.ltg at24008
   clear mm21005
   have mm21005 : MemN _ _ _ _ _ := ⟨rfl, Mem.of_get at21005⟩
   clear i148
   have i148 := Ints.of_get at148
   try simp only [Nat.zero_add, List.set_cons_succ, List.set_cons_zero] at at24008
   refine .nil (hK24 _ _ (.region (.mv rfl ?_)))
   refine .q rfl (.loadM ag_38_Uc rfl ⟨rfl, Mem.of_get at24008⟩) ?_
   refine .call rfl rfl rfl rfl @Tryd.call16 rfl (l29Put_c (x := ⟨3, 0, [r.take.2.dig.1, ((r.take.2.dig.2.want 61).want 118).dig.1]⟩) (a := some ⟨g152, 0, none⟩) (hrA.turn rkA (r' := ((r.take.2.dig.2.want 61).want 118).dig.2) ⟨kE, hkE, huE, atE⟩ (by rw [Rd.dig_L, Rd.want_L, Rd.want_L, Rd.dig_L])) (.inr ⟨g152, rfl, by omega, GHeap.get_erase_of (GHeap.get_erase_of at152 (by omega)) (by omega)⟩) (by rw [Rd.dig_L, Rd.want_L, Rd.want_L, Rd.dig_L]; exact hlA) (by simp)) ?_
   rintro _ H156 ⟨rfl, stP, gP, rP, orP, hrP⟩
   have st156 := stP
   have nx_H156 := st156.nx
   replace hst := hst.sA st156
   replace at140 := st156.same _ _ ⟨ne_g140_gR.ne, (by first | assumption | omega), trivial⟩ at140
   replace at151 := st156.same _ _ ⟨(by first | assumption | omega), (by first | assumption | omega), trivial⟩ at151
   replace at152 := st156.same _ _ ⟨(by first | assumption | omega), (by first | assumption | omega), trivial⟩ at152
   replace at24008 := st156.same _ _ ⟨(Ne.symm ne_gR_g4.ne), (by first | assumption | omega), trivial⟩ at24008
   clear mm21005
   have mm21005 : MemN _ _ _ _ _ := ⟨rfl, Mem.of_get at21005⟩
   clear i148
   have i148 := Ints.of_get at148
   refine .nil ?_
   refine hend _ _ ?_
   first
   | exact ⟨rfl, hst, gL, rr, .inl rfl, by rw [Rd.read_bad h8]; exact hr⟩
   | exact ⟨rfl, hst, gP, rP, by omega, by rw [Rd.read_82 (by simpa using h8) h29, Rd.rel_of mV.eq]; exact hrP⟩
   | exact ⟨rfl, hst, gP, rP, by omega, by rw [Rd.read_118 (by simpa using h8) h136]; exact hrP⟩
   | exact ⟨rfl, hst, gP, rP, by omega, by rw [Rd.read_84 (by simpa using h8) h19]; exact hrP⟩
   | exact ⟨rfl, hst, gP, rP, by omega, by rw [Rd.read_70 (by simpa using h8) h24]; exact hrP⟩
   | exact ⟨rfl, hst, gD, rD, by omega, by rw [Rd.read_69 (by simpa using h8) h157]; exact hrD⟩
   | exact ⟨rfl, hst, gD, rD, by omega, by rw [Rd.read_65 (by simpa using h8) h168]; exact hrD⟩
   | exact ⟨rfl, hst, gG, rG, by omega, by rw [Rd.read_40c (by simpa using h8) h179]; exact hrC⟩
   | exact ⟨rfl, hst, gL, rr, .inl rfl, by rw [Rd.read_no (by simpa using h8) (by omega)]; exact hrA.turn st3003 ⟨kA, hkA, huA, by rw [Rd.take_L]; exact at3003⟩ rfl⟩
  simp only [sps] at h136
  refine .seq (fun K25 hK25 => .region (.q rfl (.cmp rfl rfl rfl) (.mv rfl (.nil (hK25 _ _ ?_)))))
  refine .cond rfl ?_ ?_ <;> intro h157
  ·
   simp only [sps] at h157
   refine .seq (fun K26 hK26 => .region (.mv rfl (.mv rfl ?_)))
   refine .call rfl rfl rfl rfl @Tryd.call17 rfl (l29Digit_c hrA.rd hs) ?_
   rintro _ H161 ⟨rfl, stB, hRB⟩
   have hrB := hrA.turn stB hRB (Rd.dig_L _)
   obtain ⟨kB, hkB, huB, atB⟩ := hRB
   have st161 := stB
   have nx_H161 := st161.nx
   replace hst := hst.sA st161
   have lt_atB := GHeap.ltg atB
   refine .q rfl (.build bt_38_Ue rfl rfl rfl) ?_
   refine .call rfl rfl rfl rfl @Tryd.call16 rfl (l29Put_c (x := ⟨7, r.take.2.dig.1, []⟩) hrB (.inl ⟨rfl, rfl⟩) (by rw [Rd.dig_L]; exact hlA) (by simp)) ?_
   rintro _ H163 ⟨rfl, stP, gP, rP, orP, hrP⟩
   have st163 := stP
   have nx_H163 := st163.nx
   replace hst := hst.sA st163
   refine .nil (hK26 _ _ (.seq (fun K27 hK27 => .region (.mv rfl ?_))))
   refine .call rfl rfl rfl rfl @Tryd.call18 rfl (l29Want_c hrP.rd hs) ?_
   rintro _ H165 ⟨rfl, stC, hRC⟩
   have hrC := hrP.turn stC hRC (Rd.want_L _ _)
   have st165 := stC
   have nx_H165 := st165.nx
   replace hst := hst.sA st165
   refine .nil (hK27 _ _ (.region (.mv rfl ?_)))
   refine .call rfl rfl rfl rfl @Tryd.call9 rfl (ih hrC hs (Rd.quan_40 (k := 7) hlA) (by have := Rd.take_lt (Rd.take_ne h157 (by decide)); have := Rd.quan_len r.take.2 7; exact Nat.lt_of_le_of_lt this (by omega)) (by omega)) ?_
   rintro _ H167 ⟨rfl, stD, gD, rD, orD, hrD⟩
   have st167 := stD
   have nx_H167 := st167.nx
   replace hst := hst.sA st167
   refine .nil ?_
   refine hend _ _ ?_
   first
   | exact ⟨rfl, hst, gL, rr, .inl rfl, by rw [Rd.read_bad h8]; exact hr⟩
   | exact ⟨rfl, hst, gP, rP, by omega, by rw [Rd.read_82 (by simpa using h8) h29, Rd.rel_of mV.eq]; exact hrP⟩
   | exact ⟨rfl, hst, gP, rP, by omega, by rw [Rd.read_118 (by simpa using h8) h136]; exact hrP⟩
   | exact ⟨rfl, hst, gP, rP, by omega, by rw [Rd.read_84 (by simpa using h8) h19]; exact hrP⟩
   | exact ⟨rfl, hst, gP, rP, by omega, by rw [Rd.read_70 (by simpa using h8) h24]; exact hrP⟩
   | exact ⟨rfl, hst, gD, rD, by omega, by rw [Rd.read_69 (by simpa using h8) h157]; exact hrD⟩
   | exact ⟨rfl, hst, gD, rD, by omega, by rw [Rd.read_65 (by simpa using h8) h168]; exact hrD⟩
   | exact ⟨rfl, hst, gG, rG, by omega, by rw [Rd.read_40c (by simpa using h8) h179]; exact hrC⟩
   | exact ⟨rfl, hst, gL, rr, .inl rfl, by rw [Rd.read_no (by simpa using h8) (by omega)]; exact hrA.turn st3003 ⟨kA, hkA, huA, by rw [Rd.take_L]; exact at3003⟩ rfl⟩
  simp only [sps] at h157
  refine .seq (fun K28 hK28 => .region (.q rfl (.cmp rfl rfl rfl) (.mv rfl (.nil (hK28 _ _ ?_)))))
  refine .cond rfl ?_ ?_ <;> intro h168
  ·
   simp only [sps] at h168
   refine .seq (fun K29 hK29 => .region (.mv rfl (.mv rfl ?_)))
   refine .call rfl rfl rfl rfl @Tryd.call17 rfl (l29Digit_c hrA.rd hs) ?_
   rintro _ H172 ⟨rfl, stB, hRB⟩
   have hrB := hrA.turn stB hRB (Rd.dig_L _)
   obtain ⟨kB, hkB, huB, atB⟩ := hRB
   have st172 := stB
   have nx_H172 := st172.nx
   replace hst := hst.sA st172
   have lt_atB := GHeap.ltg atB
   refine .q rfl (.build bt_38_Ue rfl rfl rfl) ?_
   refine .call rfl rfl rfl rfl @Tryd.call16 rfl (l29Put_c (x := ⟨8, r.take.2.dig.1, []⟩) hrB (.inl ⟨rfl, rfl⟩) (by rw [Rd.dig_L]; exact hlA) (by simp)) ?_
   rintro _ H174 ⟨rfl, stP, gP, rP, orP, hrP⟩
   have st174 := stP
   have nx_H174 := st174.nx
   replace hst := hst.sA st174
   refine .nil (hK29 _ _ (.seq (fun K30 hK30 => .region (.mv rfl ?_))))
   refine .call rfl rfl rfl rfl @Tryd.call18 rfl (l29Want_c hrP.rd hs) ?_
   rintro _ H176 ⟨rfl, stC, hRC⟩
   have hrC := hrP.turn stC hRC (Rd.want_L _ _)
   have st176 := stC
   have nx_H176 := st176.nx
   replace hst := hst.sA st176
   refine .nil (hK30 _ _ (.region (.mv rfl ?_)))
   refine .call rfl rfl rfl rfl @Tryd.call9 rfl (ih hrC hs (Rd.quan_40 (k := 8) hlA) (by have := Rd.take_lt (Rd.take_ne h168 (by decide)); have := Rd.quan_len r.take.2 8; exact Nat.lt_of_le_of_lt this (by omega)) (by omega)) ?_
   rintro _ H178 ⟨rfl, stD, gD, rD, orD, hrD⟩
   have st178 := stD
   have nx_H178 := st178.nx
   replace hst := hst.sA st178
   refine .nil ?_
   refine hend _ _ ?_
   first
   | exact ⟨rfl, hst, gL, rr, .inl rfl, by rw [Rd.read_bad h8]; exact hr⟩
   | exact ⟨rfl, hst, gP, rP, by omega, by rw [Rd.read_82 (by simpa using h8) h29, Rd.rel_of mV.eq]; exact hrP⟩
   | exact ⟨rfl, hst, gP, rP, by omega, by rw [Rd.read_118 (by simpa using h8) h136]; exact hrP⟩
   | exact ⟨rfl, hst, gP, rP, by omega, by rw [Rd.read_84 (by simpa using h8) h19]; exact hrP⟩
   | exact ⟨rfl, hst, gP, rP, by omega, by rw [Rd.read_70 (by simpa using h8) h24]; exact hrP⟩
   | exact ⟨rfl, hst, gD, rD, by omega, by rw [Rd.read_69 (by simpa using h8) h157]; exact hrD⟩
   | exact ⟨rfl, hst, gD, rD, by omega, by rw [Rd.read_65 (by simpa using h8) h168]; exact hrD⟩
   | exact ⟨rfl, hst, gG, rG, by omega, by rw [Rd.read_40c (by simpa using h8) h179]; exact hrC⟩
   | exact ⟨rfl, hst, gL, rr, .inl rfl, by rw [Rd.read_no (by simpa using h8) (by omega)]; exact hrA.turn st3003 ⟨kA, hkA, huA, by rw [Rd.take_L]; exact at3003⟩ rfl⟩
  simp only [sps] at h168
  refine .seq (fun K31 hK31 => .region (.q rfl (.cmp rfl rfl rfl) (.mv rfl (.nil (hK31 _ _ ?_)))))
  refine .cond rfl ?_ ?_ <;> intro h179
  ·
   simp only [sps] at h179
   refine .seq (fun K32 hK32 => .region (.mv rfl (.q rfl (.build bt_38_Ue rfl rfl rfl) ?_)))
   refine .call rfl rfl rfl rfl @Tryd.call16 rfl (l29Put_c (x := ⟨4, 0, []⟩) hrA (.inl ⟨rfl, rfl⟩) hlA (by simp)) ?_
   rintro _ H183 ⟨rfl, stP, gP, rP, orP, hrP⟩
   have st183 := stP
   have nx_H183 := st183.nx
   replace hst := hst.sA st183
   refine .nil (hK32 _ _ (.seq (fun K33 hK33 => .region (.mv rfl ?_))))
   refine .call rfl rfl rfl rfl @Tryd.call9 rfl (ih hrP hs (Rd.put_40 hlA) (by have := Rd.take_lt (Rd.take_ne h179 (by decide)); rw [Rd.put_u]; omega) (by omega)) ?_
   rintro _ H185 ⟨rfl, stD, gD, rD, orD, hrD⟩
   have hlD : ((r.take.2.put ⟨4, 0, []⟩).read n).take.2.L.length ≤ 40 := by rw [Rd.take_L]; exact Rd.read_40 n _ (Rd.put_40 hlA)
   have st185 := stD
   have nx_H185 := st185.nx
   replace hst := hst.sA st185
   refine .nil (hK33 _ _ (.seq (fun K34 hK34 => .seq (fun K35 hK35 => .region (.mv rfl ?_)))))
   refine .call rfl rfl rfl rfl @Tryd.call15 rfl (l29Take_c hrD.rd hs) ?_
   rintro _ H187 ⟨rfl, stE, hRE⟩
   have hrE := hrD.turn stE hRE (Rd.take_L _)
   obtain ⟨kE, hkE, huE, atE⟩ := hRE
   have st187 := stE
   have nx_H187 := st187.nx
   replace hst := hst.sA st187
   have lt_atE := GHeap.ltg atE
   refine .nil (hK35 _ _ (.block (.seq (fun K36 hK36 => .region (.q rfl (.cmp rfl rfl rfl) (.mv rfl (.nil (hK36 _ _ ?_))))))))
   refine .cond rfl ?_ ?_ <;> intro h191
   ·
    simp only [sps] at h191
    obtain ⟨gS, rS, orS, hrS⟩ : ∃ gS rS, (gS = gL ∨ H.next ≤ gS) ∧ RdN 30 38 2 B H187 gR gS s (((r.take.2.put ⟨4, 0, []⟩).read n).sign r.L.length) rS := ⟨gD, rD, by omega, by unfold Rd.sign; rw [if_pos (by omega)]; exact hrE⟩
    refine .skip (hK34 _ _ (.seq (fun K37 hK37 => .region (.mv rfl ?_))))
    refine .call rfl rfl rfl rfl @Tryd.call9 rfl (ih hrS hs (Rd.sign_40 (Rd.read_40 n _ (Rd.put_40 hlA))) (by have q1 := Rd.take_lt (Rd.take_ne h179 (by decide)); have q2 := Rd.read_len n (r.take.2.put ⟨4, 0, []⟩); have q3 := Rd.sign_len ((r.take.2.put ⟨4, 0, []⟩).read n) r.L.length; rw [Rd.put_u] at q2; omega) (by omega)) ?_
    rintro _ H204 ⟨rfl, stG, gG, rG, orG, hrG⟩
    have st204 := stG
    have nx_H204 := st204.nx
    replace hst := hst.sA st204
    refine .nil (hK37 _ _ (.region (.mv rfl ?_)))
    refine .call rfl rfl rfl rfl @Tryd.call18 rfl (l29Want_c hrG.rd hs) ?_
    rintro _ H206 ⟨rfl, stC, hRC⟩
    have hrC := hrG.turn stC hRC (Rd.want_L _ _)
    have st206 := stC
    have nx_H206 := st206.nx
    replace hst := hst.sA st206
    refine .nil ?_
    refine hend _ _ ?_
    first
    | exact ⟨rfl, hst, gL, rr, .inl rfl, by rw [Rd.read_bad h8]; exact hr⟩
    | exact ⟨rfl, hst, gP, rP, by omega, by rw [Rd.read_82 (by simpa using h8) h29, Rd.rel_of mV.eq]; exact hrP⟩
    | exact ⟨rfl, hst, gP, rP, by omega, by rw [Rd.read_118 (by simpa using h8) h136]; exact hrP⟩
    | exact ⟨rfl, hst, gP, rP, by omega, by rw [Rd.read_84 (by simpa using h8) h19]; exact hrP⟩
    | exact ⟨rfl, hst, gP, rP, by omega, by rw [Rd.read_70 (by simpa using h8) h24]; exact hrP⟩
    | exact ⟨rfl, hst, gD, rD, by omega, by rw [Rd.read_69 (by simpa using h8) h157]; exact hrD⟩
    | exact ⟨rfl, hst, gD, rD, by omega, by rw [Rd.read_65 (by simpa using h8) h168]; exact hrD⟩
    | exact ⟨rfl, hst, gG, rG, by omega, by rw [Rd.read_40c (by simpa using h8) h179]; exact hrC⟩
    | exact ⟨rfl, hst, gL, rr, .inl rfl, by rw [Rd.read_no (by simpa using h8) (by omega)]; exact hrA.turn st3003 ⟨kA, hkA, huA, by rw [Rd.take_L]; exact at3003⟩ rfl⟩
   simp only [sps] at h191
   refine .seq (fun K38 hK38 => .region (.q rfl (.cmp rfl rfl rfl) (.mv rfl (.nil (hK38 _ _ ?_)))))
   refine .cond rfl ?_ ?_ <;> intro h193
   ·
    simp only [sps] at h193
    refine .region (.mv rfl (.mv rfl ?_))
    refine .call rfl rfl rfl rfl @Tryd.call20 rfl (l29Kind_c (i := r.L.length) hrE hlD) ?_
    rintro _ H197 ⟨rfl, stF, gS, rS, orS, hrF⟩
    have hrS : RdN 30 38 2 B H197 gR gS s (((r.take.2.put ⟨4, 0, []⟩).read n).sign r.L.length) rS := by unfold Rd.sign; rw [if_neg (by omega), if_pos (by omega)]; exact hrF
    have st197 := stF
    have nx_H197 := st197.nx
    replace hst := hst.sA st197
    refine .nil (hK34 _ _ (.seq (fun K39 hK39 => .region (.mv rfl ?_))))
    refine .call rfl rfl rfl rfl @Tryd.call9 rfl (ih hrS hs (Rd.sign_40 (Rd.read_40 n _ (Rd.put_40 hlA))) (by have q1 := Rd.take_lt (Rd.take_ne h179 (by decide)); have q2 := Rd.read_len n (r.take.2.put ⟨4, 0, []⟩); have q3 := Rd.sign_len ((r.take.2.put ⟨4, 0, []⟩).read n) r.L.length; rw [Rd.put_u] at q2; omega) (by omega)) ?_
    rintro _ H204x2 ⟨rfl, stG, gG, rG, orG, hrG⟩
    have st204x2 := stG
    have nx_H204x2 := st204x2.nx
    replace hst := hst.sA st204x2
    refine .nil (hK39 _ _ (.region (.mv rfl ?_)))
    refine .call rfl rfl rfl rfl @Tryd.call18 rfl (l29Want_c hrG.rd hs) ?_
    rintro _ H206x2 ⟨rfl, stC, hRC⟩
    have hrC := hrG.turn stC hRC (Rd.want_L _ _)
    have st206x2 := stC
    have nx_H206x2 := st206x2.nx
    replace hst := hst.sA st206x2
    refine .nil ?_
    refine hend _ _ ?_
    first
    | exact ⟨rfl, hst, gL, rr, .inl rfl, by rw [Rd.read_bad h8]; exact hr⟩
    | exact ⟨rfl, hst, gP, rP, by omega, by rw [Rd.read_82 (by simpa using h8) h29, Rd.rel_of mV.eq]; exact hrP⟩
    | exact ⟨rfl, hst, gP, rP, by omega, by rw [Rd.read_118 (by simpa using h8) h136]; exact hrP⟩
    | exact ⟨rfl, hst, gP, rP, by omega, by rw [Rd.read_84 (by simpa using h8) h19]; exact hrP⟩
    | exact ⟨rfl, hst, gP, rP, by omega, by rw [Rd.read_70 (by simpa using h8) h24]; exact hrP⟩
    | exact ⟨rfl, hst, gD, rD, by omega, by rw [Rd.read_69 (by simpa using h8) h157]; exact hrD⟩
    | exact ⟨rfl, hst, gD, rD, by omega, by rw [Rd.read_65 (by simpa using h8) h168]; exact hrD⟩
    | exact ⟨rfl, hst, gG, rG, by omega, by rw [Rd.read_40c (by simpa using h8) h179]; exact hrC⟩
    | exact ⟨rfl, hst, gL, rr, .inl rfl, by rw [Rd.read_no (by simpa using h8) (by omega)]; exact hrA.turn st3003 ⟨kA, hkA, huA, by rw [Rd.take_L]; exact at3003⟩ rfl⟩
   simp only [sps] at h193
   refine .seq (fun K40 hK40 => .region (.q rfl (.cmp rfl rfl rfl) (.mv rfl (.nil (hK40 _ _ ?_)))))
   refine .cond rfl ?_ ?_ <;> intro h198
   ·
    simp only [sps] at h198
    refine .region (.mv rfl (.mv rfl ?_))
    refine .call rfl rfl rfl rfl @Tryd.call20 rfl (l29Kind_c (i := r.L.length) hrE hlD) ?_
    rintro _ H202 ⟨rfl, stF, gS, rS, orS, hrF⟩
    have hrS : RdN 30 38 2 B H202 gR gS s (((r.take.2.put ⟨4, 0, []⟩).read n).sign r.L.length) rS := by unfold Rd.sign; rw [if_neg (by omega), if_neg (by omega), if_pos (by omega)]; exact hrF
    have st202 := stF
    have nx_H202 := st202.nx
    replace hst := hst.sA st202
    refine .nil (hK34 _ _ (.seq (fun K41 hK41 => .region (.mv rfl ?_))))
    refine .call rfl rfl rfl rfl @Tryd.call9 rfl (ih hrS hs (Rd.sign_40 (Rd.read_40 n _ (Rd.put_40 hlA))) (by have q1 := Rd.take_lt (Rd.take_ne h179 (by decide)); have q2 := Rd.read_len n (r.take.2.put ⟨4, 0, []⟩); have q3 := Rd.sign_len ((r.take.2.put ⟨4, 0, []⟩).read n) r.L.length; rw [Rd.put_u] at q2; omega) (by omega)) ?_
    rintro _ H204x3 ⟨rfl, stG, gG, rG, orG, hrG⟩
    have st204x3 := stG
    have nx_H204x3 := st204x3.nx
    replace hst := hst.sA st204x3
    refine .nil (hK41 _ _ (.region (.mv rfl ?_)))
    refine .call rfl rfl rfl rfl @Tryd.call18 rfl (l29Want_c hrG.rd hs) ?_
    rintro _ H206x3 ⟨rfl, stC, hRC⟩
    have hrC := hrG.turn stC hRC (Rd.want_L _ _)
    have st206x3 := stC
    have nx_H206x3 := st206x3.nx
    replace hst := hst.sA st206x3
    refine .nil ?_
    refine hend _ _ ?_
    first
    | exact ⟨rfl, hst, gL, rr, .inl rfl, by rw [Rd.read_bad h8]; exact hr⟩
    | exact ⟨rfl, hst, gP, rP, by omega, by rw [Rd.read_82 (by simpa using h8) h29, Rd.rel_of mV.eq]; exact hrP⟩
    | exact ⟨rfl, hst, gP, rP, by omega, by rw [Rd.read_118 (by simpa using h8) h136]; exact hrP⟩
    | exact ⟨rfl, hst, gP, rP, by omega, by rw [Rd.read_84 (by simpa using h8) h19]; exact hrP⟩
    | exact ⟨rfl, hst, gP, rP, by omega, by rw [Rd.read_70 (by simpa using h8) h24]; exact hrP⟩
    | exact ⟨rfl, hst, gD, rD, by omega, by rw [Rd.read_69 (by simpa using h8) h157]; exact hrD⟩
    | exact ⟨rfl, hst, gD, rD, by omega, by rw [Rd.read_65 (by simpa using h8) h168]; exact hrD⟩
    | exact ⟨rfl, hst, gG, rG, by omega, by rw [Rd.read_40c (by simpa using h8) h179]; exact hrC⟩
    | exact ⟨rfl, hst, gL, rr, .inl rfl, by rw [Rd.read_no (by simpa using h8) (by omega)]; exact hrA.turn st3003 ⟨kA, hkA, huA, by rw [Rd.take_L]; exact at3003⟩ rfl⟩
   simp only [sps] at h198
   refine .region (.mv rfl (.q rfl (.nilCheck rfl) (.q rfl (.fieldAddr fo_30_3_Ua rfl) ?_)))
   refine .r0 rfl rfl (.storeR rfl sz_4_Ua rfl rfl rfl (by assumption) (by first | exact Nat.le_of_ble_eq_true rfl | (simp; done) | (simp <;> omega))) ?_
   rintro _ H38003 ⟨rfl, st38003, at38003⟩
   have nx_H38003 := st38003.nx
   replace hst := hst.sA st38003
   have lt_at38003 := GHeap.ltg at38003
   try simp only [Nat.zero_add, List.set_cons_succ, List.set_cons_zero] at at38003
   obtain ⟨gS, rS, orS, hrS⟩ : ∃ gS rS, (gS = gL ∨ H.next ≤ gS) ∧ RdN 30 38 2 B H38003 gR gS s (((r.take.2.put ⟨4, 0, []⟩).read n).sign r.L.length) rS := ⟨gD, rD, by omega, by unfold Rd.sign; rw [if_neg (by omega), if_neg (by omega), if_neg (by omega)]; exact hrE.turn st38003 ⟨kE, hkE, huE, by rw [Rd.take_L]; exact at38003⟩ rfl⟩
   refine .nil (hK34 _ _ (.seq (fun K42 hK42 => .region (.mv rfl ?_))))
   refine .call rfl rfl rfl rfl @Tryd.call9 rfl (ih hrS hs (Rd.sign_40 (Rd.read_40 n _ (Rd.put_40 hlA))) (by have q1 := Rd.take_lt (Rd.take_ne h179 (by decide)); have q2 := Rd.read_len n (r.take.2.put ⟨4, 0, []⟩); have q3 := Rd.sign_len ((r.take.2.put ⟨4, 0, []⟩).read n) r.L.length; rw [Rd.put_u] at q2; omega) (by omega)) ?_
   rintro _ H204x4 ⟨rfl, stG, gG, rG, orG, hrG⟩
   have st204x4 := stG
   have nx_H204x4 := st204x4.nx
   replace hst := hst.sA st204x4
   refine .nil (hK42 _ _ (.region (.mv rfl ?_)))
   refine .call rfl rfl rfl rfl @Tryd.call18 rfl (l29Want_c hrG.rd hs) ?_
   rintro _ H206x4 ⟨rfl, stC, hRC⟩
   have hrC := hrG.turn stC hRC (Rd.want_L _ _)
   have st206x4 := stC
   have nx_H206x4 := st206x4.nx
   replace hst := hst.sA st206x4
   refine .nil ?_
   refine hend _ _ ?_
   first
   | exact ⟨rfl, hst, gL, rr, .inl rfl, by rw [Rd.read_bad h8]; exact hr⟩
   | exact ⟨rfl, hst, gP, rP, by omega, by rw [Rd.read_82 (by simpa using h8) h29, Rd.rel_of mV.eq]; exact hrP⟩
   | exact ⟨rfl, hst, gP, rP, by omega, by rw [Rd.read_118 (by simpa using h8) h136]; exact hrP⟩
   | exact ⟨rfl, hst, gP, rP, by omega, by rw [Rd.read_84 (by simpa using h8) h19]; exact hrP⟩
   | exact ⟨rfl, hst, gP, rP, by omega, by rw [Rd.read_70 (by simpa using h8) h24]; exact hrP⟩
   | exact ⟨rfl, hst, gD, rD, by omega, by rw [Rd.read_69 (by simpa using h8) h157]; exact hrD⟩
   | exact ⟨rfl, hst, gD, rD, by omega, by rw [Rd.read_65 (by simpa using h8) h168]; exact hrD⟩
   | exact ⟨rfl, hst, gG, rG, by omega, by rw [Rd.read_40c (by simpa using h8) h179]; exact hrC⟩
   | exact ⟨rfl, hst, gL, rr, .inl rfl, by rw [Rd.read_no (by simpa using h8) (by omega)]; exact hrA.turn st3003 ⟨kA, hkA, huA, by rw [Rd.take_L]; exact at3003⟩ rfl⟩
  simp only [sps] at h179
  refine .region (.mv rfl (.q rfl (.nilCheck rfl) (.q rfl (.fieldAddr fo_30_3_Ua rfl) ?_)))
  refine .r0 rfl rfl (.storeR rfl sz_4_Ua rfl rfl rfl (by assumption) (by first | exact Nat.le_of_ble_eq_true rfl | (simp; done) | (simp <;> omega))) ?_
  rintro _ H3003 ⟨rfl, st3003, at3003⟩
  have nx_H3003 := st3003.nx
  replace hst := hst.sA st3003
  have lt_at3003 := GHeap.ltg at3003
  try simp only [Nat.zero_add, List.set_cons_succ, List.set_cons_zero] at at3003
  refine .nil ?_
  refine hend _ _ ?_
  first
  | exact ⟨rfl, hst, gL, rr, .inl rfl, by rw [Rd.read_bad h8]; exact hr⟩
  | exact ⟨rfl, hst, gP, rP, by omega, by rw [Rd.read_82 (by simpa using h8) h29, Rd.rel_of mV.eq]; exact hrP⟩
  | exact ⟨rfl, hst, gP, rP, by omega, by rw [Rd.read_118 (by simpa using h8) h136]; exact hrP⟩
  | exact ⟨rfl, hst, gP, rP, by omega, by rw [Rd.read_84 (by simpa using h8) h19]; exact hrP⟩
  | exact ⟨rfl, hst, gP, rP, by omega, by rw [Rd.read_70 (by simpa using h8) h24]; exact hrP⟩
  | exact ⟨rfl, hst, gD, rD, by omega, by rw [Rd.read_69 (by simpa using h8) h157]; exact hrD⟩
  | exact ⟨rfl, hst, gD, rD, by omega, by rw [Rd.read_65 (by simpa using h8) h168]; exact hrD⟩
  | exact ⟨rfl, hst, gG, rG, by omega, by rw [Rd.read_40c (by simpa using h8) h179]; exact hrC⟩
  | exact ⟨rfl, hst, gL, rr, .inl rfl, by rw [Rd.read_no (by simpa using h8) (by omega)]; exact hrA.turn st3003 ⟨kA, hkA, huA, by rw [Rd.take_L]; exact at3003⟩ rfl⟩
end Go.Proofs.YtdnjnligclkkgaaDoor
namespace Go.GL
open Go.RowKit
def runes (W : List Int) : List Value := W.map fun c => .int .i32 c
theorem runes_get {W : List Int} {k : Nat} {c : Int} {v : List Int} (h : W.drop k = c :: v) : (runes W)[k]? = some (.int .i32 c) := by
  have h1 : (W.drop k)[0]? = some c := by rw [h]; rfl
  rw [List.getElem?_drop, Nat.add_zero] at h1
  unfold runes
  rw [List.getElem?_map, h1]
  rfl
theorem drop_next {W : List Int} {k : Nat} {c : Int} {v : List Int} (h : W.drop k = c :: v) : W.drop (k + 1) = v ∧ k < W.length := by
  constructor
  · rw [← List.drop_drop, h]; rfl
  · have := congrArg List.length h
    rw [List.length_drop, List.length_cons] at this
    omega
theorem drop_done {W : List Int} {k : Nat} (h : W.length - k = 0) : W.drop k = [] := List.drop_eq_nil_of_le (by omega)
theorem drop_more {W : List Int} {k : Nat} (h : ¬ W.length - k = 0) : ∃ c v, W.drop k = c :: v := by
  cases e : W.drop k with
  | nil => have := congrArg List.length e; rw [List.length_drop] at this; exact absurd this h
  | cons c v => exact ⟨c, v, rfl⟩
theorem runes_slA {H : GHeap} {g k : Nat} {W : List Int} {e : TypeId} (hw : H.get g = some (.row (runes W) e true)) : SlA H (some ⟨g, k, none⟩) (W.length - k) (fun i => (runes W).getD (k + i) (.bool false)) := .inr ⟨g, k, rfl, fun i hi => by
  have hl : k + i < (runes W).length := by unfold runes; rw [List.length_map]; omega
  rw [GHeap.cell_of hw]
  dsimp only
  rw [List.getD_eq_getElem?_getD, List.getElem?_eq_getElem hl]
  rfl⟩
theorem MStep.subI32 {P : Program} {fr : Slots} {H : GHeap} {t u : TypeId} {x y : Operand} {a b : Int} (hx : ev fr x = some (.int .i32 a)) (hy : ev fr y = some (.int .i32 b)) (h0 : -2147483648 ≤ a - b) (h1 : a - b ≤ 2147483647) : MStep P fr H (.binOp .sub t x y u) (.int .i32 (a - b)) := by
  refine .arith hx hy ?_
  simp only [arithI, Option.some.injEq]
  rw [IntKind.wrap_i32]
  omega
theorem Rd.dg_no {r : Rd} {n : Int} (h : r.take.1 - 48 < 0 ∨ n ≤ r.take.1 - 48) : r.dg n = (0, ⟨r.take.2.u, r.L, true⟩) := by unfold dg fail; rw [if_pos h, Rd.take_L]
theorem Rd.dg_yes {r : Rd} {n : Int} (h : ¬ (r.take.1 - 48 < 0 ∨ n ≤ r.take.1 - 48)) : r.dg n = (r.take.1 - 48, r.take.2) := by unfold dg; rw [if_neg h]
theorem Rd.conn_4 {r : Rd} (h : r.take.1 = 38) : r.conn = (4, r.take.2) := by unfold conn; rw [if_pos h]
theorem Rd.conn_5 {r : Rd} (h : r.take.1 = 124) : r.conn = (5, r.take.2) := by unfold conn; rw [if_neg (by omega), if_pos h]
theorem Rd.conn_6 {r : Rd} (h : r.take.1 = 62) : r.conn = (6, r.take.2) := by unfold conn; rw [if_neg (by omega), if_neg (by omega), if_pos h]
theorem Rd.conn_0 {r : Rd} (h : ¬ (r.take.1 = 38 ∨ r.take.1 = 124 ∨ r.take.1 = 62)) : r.conn = (4, ⟨r.take.2.u, r.L, true⟩) := by unfold conn fail; rw [if_neg (by omega), if_neg (by omega), if_neg (by omega), Rd.take_L]
theorem Rd.want_u (r : Rd) (b : Int) : (r.want b).u = r.u.drop 1 := by unfold want; split <;> exact r.take_u
theorem Rd.dg_u (r : Rd) (n : Int) : (r.dg n).2.u = r.u.drop 1 := by unfold dg fail; split <;> exact r.take_u
theorem Rd.var_len (r : Rd) : r.var.2.u.length ≤ r.u.length - 1 := by unfold var; rw [Rd.dg_u, Rd.want_u, List.length_drop, List.length_drop]; omega
def Rd.more (r : Rd) : Prop := r.bad = false ∧ ∃ c, r.u.head? = some c ∧ c ≠ 41
theorem Rd.vars_stop {r : Rd} (h : ¬ r.more) (n : Nat) (az : List Int) : r.vars n az = (r, az) := by
  cases n with
  | zero => rfl
  | succ n => unfold Rd.vars; exact if_neg h
theorem Rd.vars_go {r : Rd} {n : Nat} (h : r.more) (hn : r.u.length ≤ n) (az : List Int) : ∃ m, n = m + 1 ∧ r.vars n az = Rd.vars m (if az.length > 0 then r.want 44 else r).var.2 (az ++ [(if az.length > 0 then r.want 44 else r).var.1]) ∧ (if az.length > 0 then r.want 44 else r).var.2.u.length ≤ m := by
  obtain ⟨_, c, h1, _⟩ := id h
  have hl : 1 ≤ r.u.length := by cases e : r.u with | nil => rw [e] at h1; cases h1 | cons _ _ => simp
  obtain ⟨m, rfl⟩ : ∃ m, n = m + 1 := ⟨n - 1, by omega⟩
  refine ⟨m, rfl, ?_, ?_⟩
  · rw [show r.vars (m + 1) az = _ from by unfold Rd.vars; exact if_pos h]
  · have h2 := Rd.var_len (if az.length > 0 then r.want 44 else r)
    have h3 : (if az.length > 0 then r.want 44 else r).u.length ≤ r.u.length := by
      split
      · exact Rd.want_len _ _
      · exact Nat.le_refl _
    omega
def RdI (T TW : TypeId) (H : GHeap) (gR gT : Nat) (W : List Int) (sl : Value) (r : Rd) : Prop := ∃ k : Nat, k ≤ W.length ∧ W.drop k = r.u ∧ H.get gR = some (.row [.slice (some ⟨gT, k, none⟩) (W.length - k) (W.length - k), sl, .bool r.bad] T true) ∧ H.get gT = some (.row (runes W) TW true)
def Run (W : List Int) : Prop := ∀ c ∈ W, 0 ≤ c ∧ c ≤ 1114111
theorem Rd.take_run {r : Rd} {W : List Int} {k : Nat} (h : W.drop k = r.u) (hW : Run W) : 0 ≤ r.take.1 ∧ r.take.1 ≤ 1114111 := by
  unfold take
  split
  · exact ⟨Int.le_refl 0, (by decide : (0 : Int) ≤ 1114111)⟩
  · rename_i c v e
    exact hW c (List.mem_of_mem_drop (i := k) (by rw [h, e]; simp))
end Go.GL
namespace Go.Proofs.YtdnjnligclkkgaaDoor
open Go Go.GL Go.RowKit Go.Proofs
theorem on_21_Ud : oneT Tryd.prog 21 = true := by kernel_rfl
theorem sl_50_Ud : sliceT Tryd.prog 50 = some (21, 1) := by kernel_rfl
theorem fo_52_0_Ud : fieldOff Tryd.prog 52 0 = some 0 := by kernel_rfl
theorem on_50_Ud : oneT Tryd.prog 50 = true := by kernel_rfl
theorem fo_52_2_Ud : fieldOff Tryd.prog 52 2 = some 2 := by kernel_rfl
theorem sz_4_Ud : (Tryd.prog.info? 4).map (·.size) = some 1 := by kernel_rfl
theorem sz_50_Ud : (Tryd.prog.info? 50).map (·.size) = some 1 := by kernel_rfl
theorem us_21_Ud : (Tryd.prog.underlying 21).isSome = true := by kernel_rfl
theorem it_2_Ud : intT Tryd.prog 2 = some .i64 := by kernel_rfl
theorem ze_2_Ud : zeroT Tryd.prog 2 = some ([.int .i64 0], 1) := by kernel_rfl
theorem on_4_Ud : oneT Tryd.prog 4 = true := by kernel_rfl
theorem by_2_Ud : (Tryd.prog.info? 2).map (·.bytes) = some 8 := by kernel_rfl
def RiQ (gR gT : Nat) (W : List Int) (sl : Value) (r : Rd) (x : Value) (H : GHeap) (v : Value) (H' : GHeap) : Prop := v = x ∧ St [gR] H H' ∧ RdI 52 21 H' gR gT W sl r
theorem next_c {gR gT : Nat} {W : List Int} {sl : Value} {r : Rd} {H : GHeap} (hr : RdI 52 21 H gR gT W sl r := by assumption) (hne : gT ≠ gR := by assumption) (hs : W.length ≤ 1048576 := by omega) :
    GCalls Tryd.prog 30 [.pointer (some ⟨gR, 0, none⟩)] H (RiQ gR gT W sl r.take.2 (.int .i32 r.take.1) H) := by
  obtain ⟨k, hk, hu, hg, hw⟩ := hr
  refine GCalls.body (N := 28) (rs := [.tmp 2]) Tryd.func30 rfl rfl rfl rfl (fun Qx i hend => ?_)
  refine .fg [0] rfl ?_
  have _ := GHeap.ltg hg
  have g := St.refl [gR] H
  refine .seq (fun K1 m => .region (.mv rfl (.nil (m _ _ (.seq (fun K2 n => .seq (fun K3 p => .region (.mv rfl (.q rfl (.nilCheck rfl) (.q rfl (.fieldAddr fo_52_0_Ud rfl) ?_))))))))))
  refine .q rfl (.load on_50_Ud rfl (by first | assumption | exact Mem.of_get hg 0 _ rfl)) ?_
  refine .q rfl (.len sl_50_Ud rfl) (.q rfl (.cmp rfl rfl rfl) (.nil (p _ _ ?_)))
  refine .cond rfl ?_ ?_ <;> intro h9
  ·
   simp only [sps] at h9
   have e := Rd.take_nil (r := r) (by rw [← hu]; exact drop_done (by omega))
   refine .seq (fun K4 t => .region (.mv rfl (.q rfl (.nilCheck rfl) (.q rfl (.fieldAddr fo_52_2_Ud rfl) ?_))))
   refine .r0 rfl rfl (.storeR rfl sz_4_Ud rfl rfl rfl (by assumption) (by first | exact Nat.le_of_ble_eq_true rfl | (simp; done) | (simp <;> omega))) ?_
   rintro _ _ ⟨rfl, a, b⟩
   have _ := a.nx
   replace g := g.sA a
   have _ := GHeap.ltg b
   try simp only [Nat.zero_add, List.set_cons_succ, List.set_cons_zero] at b
   refine .nil (t _ _ (.seq (fun K5 s => .region (.mv rfl (.nil (s _ _ (.ret (i _ _ (⟨_, rfl, ?_⟩)))))))))
   rw [e]
   exact ⟨rfl, g, k, hk, drop_done (by omega), by assumption, g.same _ _ ⟨hne, trivial⟩ hw⟩
  simp only [sps] at h9
  obtain ⟨c, v, hc⟩ := drop_more (W := W) (k := k) (by omega)
  have e := Rd.take_of (r := r) (hu.symm.trans hc)
  obtain ⟨hd, _⟩ := drop_next hc
  have sA := runes_slA (k := k) hw
  refine .skip (n _ _ (.seq (fun K6 u => .region (.mv rfl (.q rfl (.nilCheck rfl) (.q rfl (.fieldAddr fo_52_0_Ud rfl) ?_))))))
  refine .q rfl (.load on_50_Ud rfl (by first | assumption | exact Mem.of_get hg 0 _ rfl)) ?_
  refine .q rfl (.idxN (j := 0) sl_50_Ud (by assumption) rfl rfl (by omega)) ?_
  refine .q rfl (.load on_21_Ud rfl (by rw [GHeap.cell_of hw]; exact runes_get hc)) ?_
  refine .mv rfl (.nil (u _ _ (.seq (fun K7 w => .region (.mv rfl (.mv rfl (.q rfl (.nilCheck rfl) (.q rfl (.fieldAddr fo_52_0_Ud rfl) ?_))))))))
  refine .q rfl (.load on_50_Ud rfl (by first | assumption | exact Mem.of_get hg 0 _ rfl)) ?_
  refine .q rfl (.slice (l := 1) (h := W.length - k) sl_50_Ud rfl hw ⟨_, rfl⟩ rfl (by omega) (by omega)) ?_
  refine .q rfl (.nilCheck rfl) (.q rfl (.fieldAddr fo_52_0_Ud rfl) ?_)
  refine .r0 rfl rfl (.storeR rfl sz_50_Ud rfl rfl rfl (by assumption) (by first | exact Nat.le_of_ble_eq_true rfl | (simp; done) | (simp <;> omega))) ?_
  rintro _ _ ⟨rfl, d, f⟩
  have _ := d.nx
  replace g := g.sA d
  have _ := GHeap.ltg f
  try simp only [Nat.zero_add, List.set_cons_succ, List.set_cons_zero] at f
  refine .nil (w _ _ (.seq (fun K8 o => .region (.mv rfl (.mv rfl (.nil (o _ _ (.ret (i _ _ (⟨_, rfl, ?_⟩))))))))))
  rw [e]
  exact ⟨rfl, g, k + 1, by omega, hd, by assumption, g.same _ _ ⟨hne, trivial⟩ hw⟩
theorem need_c {gR gT : Nat} {W : List Int} {sl : Value} {r : Rd} {b : Int} {H : GHeap} (hr : RdI 52 21 H gR gT W sl r := by assumption) (hne : gT ≠ gR := by assumption) (hW : Run W := by assumption) (hs : W.length ≤ 1048576 := by omega) :
    GCalls Tryd.prog 33 [.pointer (some ⟨gR, 0, none⟩), .int .i32 b] H (RiQ gR gT W sl (r.want b) (.tuple #[]) H) := by
  obtain ⟨k, hk, hu, hg, hw⟩ := hr
  refine GCalls.body (N := 11) (rs := []) Tryd.func33 rfl rfl rfl rfl (fun Qx hret e => ?_)
  refine .fg [0, 1] rfl ?_
  have _ := GHeap.ltg hg
  have a := St.refl [gR] H
  refine .seq (fun K1 i => .region (.mv rfl ?_))
  refine .call rfl rfl rfl rfl @Tryd.call30 rfl (next_c ⟨k, hk, hu, hg, hw⟩) ?_
  rintro _ _ ⟨rfl, h, k5, g, f, j, _⟩
  have _ := h.nx
  replace a := a.sA h
  have _ := GHeap.ltg j
  refine .mv rfl (.q rfl (.cmp rfl rfl rfl) (.nil (i _ _ ?_)))
  refine .cond rfl ?_ ?_ <;> intro h7
  ·
   simp only [sps] at h7
   refine .region (.mv rfl (.q rfl (.nilCheck rfl) (.q rfl (.fieldAddr fo_52_2_Ud rfl) ?_)))
   refine .r0 rfl rfl (.storeR rfl sz_4_Ud rfl rfl rfl (by assumption) (by first | exact Nat.le_of_ble_eq_true rfl | (simp; done) | (simp <;> omega))) ?_
   rintro _ _ ⟨rfl, c, d⟩
   have _ := c.nx
   replace a := a.sA c
   have _ := GHeap.ltg d
   try simp only [Nat.zero_add, List.set_cons_succ, List.set_cons_zero] at d
   refine .nil ?_
   refine e _ _ ?_
   first
   | exact ⟨rfl, a, k5, g, by rw [Rd.want_no (by omega)]; exact f, by rw [Rd.want_no (by omega)]; assumption, a.same _ _ ⟨hne, trivial⟩ hw⟩
   | exact ⟨rfl, a, k5, g, by rw [Rd.want_yes (by omega)]; exact f, by rw [Rd.want_yes (by omega)]; assumption, a.same _ _ ⟨hne, trivial⟩ hw⟩
  simp only [sps] at h7
  refine .skip ?_
  refine e _ _ ?_
  first
  | exact ⟨rfl, a, k5, g, by rw [Rd.want_no (by omega)]; exact f, by rw [Rd.want_no (by omega)]; assumption, a.same _ _ ⟨hne, trivial⟩ hw⟩
  | exact ⟨rfl, a, k5, g, by rw [Rd.want_yes (by omega)]; exact f, by rw [Rd.want_yes (by omega)]; assumption, a.same _ _ ⟨hne, trivial⟩ hw⟩
theorem digitI_c {gR gT : Nat} {W : List Int} {sl : Value} {r : Rd} {n : Int} {H : GHeap} (hr : RdI 52 21 H gR gT W sl r := by assumption) (hne : gT ≠ gR := by assumption) (hW : Run W := by assumption) (hs : W.length ≤ 1048576 := by omega) :
    GCalls Tryd.prog 31 [.pointer (some ⟨gR, 0, none⟩), .int .i32 n] H (RiQ gR gT W sl (r.dg n).2 (.int .i64 (r.dg n).1) H) := by
  obtain ⟨k, hk, hu, hg, hw⟩ := hr
  have _ := Rd.take_run hu hW
  refine GCalls.body (N := 21) (rs := [.tmp 4]) Tryd.func31 rfl rfl rfl rfl (fun Qx f hend => ?_)
  refine .fg [0, 1] rfl ?_
  have _ := GHeap.ltg hg
  have a := St.refl [gR] H
  refine .seq (fun K1 v => .region (.mv rfl (.nil (v _ _ (.seq (fun K2 o => .region (.mv rfl ?_)))))))
  refine .call rfl rfl rfl rfl @Tryd.call30 rfl (next_c ⟨k, hk, hu, hg, hw⟩) ?_
  rintro _ _ ⟨rfl, l, k7, g, h, x, _⟩
  have _ := l.nx
  replace a := a.sA l
  have _ := GHeap.ltg x
  refine .q rfl (.subI32 rfl rfl (by omega) (by omega)) ?_
  refine .mv rfl (.nil (o _ _ (.seq (fun K3 w => .seq (fun K4 j => .region (.mv rfl (.q rfl (.cmp rfl rfl rfl) (.mv rfl ?_))))))))
  refine .split (fun i => ?_) (fun i => ?_)
  ·
   simp only [sps] at i
   refine .z rfl (.z rfl (.z rfl (.q rfl (.pickT rfl rfl) (.nil (j _ _ ?_)))))
   refine .condT rfl ?_
   refine .seq (fun K5 s => .region (.mv rfl (.q rfl (.nilCheck rfl) (.q rfl (.fieldAddr fo_52_2_Ud rfl) ?_))))
   refine .r0 rfl rfl (.storeR rfl sz_4_Ud rfl rfl rfl (by assumption) (by first | exact Nat.le_of_ble_eq_true rfl | (simp; done) | (simp <;> omega))) ?_
   rintro _ _ ⟨rfl, d, e⟩
   have _ := d.nx
   replace a := a.sA d
   have _ := GHeap.ltg e
   try simp only [Nat.zero_add, List.set_cons_succ, List.set_cons_zero] at e
   refine .nil (s _ _ (.seq (fun K6 t => .region (.mv rfl (.nil (t _ _ (.ret (f _ _ (⟨_, rfl, ?_⟩)))))))))
   first
   | exact ⟨by rw [Rd.dg_no (by omega)], a, k7, g, by rw [Rd.dg_no (by omega)]; exact h, by rw [Rd.dg_no (by omega)]; assumption, a.same _ _ ⟨hne, trivial⟩ hw⟩
   | exact ⟨by rw [Rd.dg_yes (by omega)], a, k7, g, by rw [Rd.dg_yes (by omega)]; exact h, by rw [Rd.dg_yes (by omega)]; assumption, a.same _ _ ⟨hne, trivial⟩ hw⟩
  simp only [sps] at i
  refine .qg rfl (.move rfl) (.qg rfl (.move rfl) (.qg rfl (.cmp rfl rfl rfl) (.q rfl (.pickF rfl rfl) (.nil (j _ _ ?_)))))
  refine .cond rfl ?_ ?_ <;> intro m
  ·
   simp only [sps] at m
   refine .seq (fun K7 y => .region (.mv rfl (.q rfl (.nilCheck rfl) (.q rfl (.fieldAddr fo_52_2_Ud rfl) ?_))))
   refine .r0 rfl rfl (.storeR rfl sz_4_Ud rfl rfl rfl (by assumption) (by first | exact Nat.le_of_ble_eq_true rfl | (simp; done) | (simp <;> omega))) ?_
   rintro _ _ ⟨rfl, c, b⟩
   have _ := c.nx
   replace a := a.sA c
   have _ := GHeap.ltg b
   try simp only [Nat.zero_add, List.set_cons_succ, List.set_cons_zero] at b
   refine .nil (y _ _ (.seq (fun K8 p => .region (.mv rfl (.nil (p _ _ (.ret (f _ _ (⟨_, rfl, ?_⟩)))))))))
   first
   | exact ⟨by rw [Rd.dg_no (by omega)], a, k7, g, by rw [Rd.dg_no (by omega)]; exact h, by rw [Rd.dg_no (by omega)]; assumption, a.same _ _ ⟨hne, trivial⟩ hw⟩
   | exact ⟨by rw [Rd.dg_yes (by omega)], a, k7, g, by rw [Rd.dg_yes (by omega)]; exact h, by rw [Rd.dg_yes (by omega)]; assumption, a.same _ _ ⟨hne, trivial⟩ hw⟩
  simp only [sps] at m
  refine .skip (w _ _ (.seq (fun K9 u => .region (.mv rfl ?_))))
  refine .q rfl (.conv64 us_21_Ud it_2_Ud rfl (by omega) (by omega)) ?_
  refine .mv rfl (.nil (u _ _ (.ret (f _ _ (⟨_, rfl, ?_⟩)))))
  first
  | exact ⟨by rw [Rd.dg_no (by omega)], a, k7, g, by rw [Rd.dg_no (by omega)]; exact h, by rw [Rd.dg_no (by omega)]; assumption, a.same _ _ ⟨hne, trivial⟩ hw⟩
  | exact ⟨by rw [Rd.dg_yes (by omega)], a, k7, g, by rw [Rd.dg_yes (by omega)]; exact h, by rw [Rd.dg_yes (by omega)]; assumption, a.same _ _ ⟨hne, trivial⟩ hw⟩
theorem variableI_c {gR gT : Nat} {W : List Int} {sl : Value} {r : Rd} {H : GHeap} (hr : RdI 52 21 H gR gT W sl r := by assumption) (hne : gT ≠ gR := by assumption) (hW : Run W := by assumption) (hs : W.length ≤ 1048576 := by omega) :
    GCalls Tryd.prog 34 [.pointer (some ⟨gR, 0, none⟩)] H (RiQ gR gT W sl r.var.2 (.int .i64 r.var.1) H) := by
  obtain ⟨k, hk, hu, hg, hw⟩ := hr
  refine GCalls.body (N := 7) (rs := [.tmp 2]) Tryd.func34 rfl rfl rfl rfl (fun Qx b hend => ?_)
  refine .fg [0] rfl ?_
  have _ := GHeap.ltg hg
  have a := St.refl [gR] H
  refine .seq (fun K1 h => .region (.mv rfl (.nil (h _ _ (.seq (fun K2 g => .region (.mv rfl ?_)))))))
  refine .call rfl rfl rfl rfl @Tryd.call33 rfl (need_c ⟨k, hk, hu, hg, hw⟩) ?_
  rintro _ _ ⟨rfl, d, k4, p, i, e, f⟩
  have _ := d.nx
  replace a := a.sA d
  have _ := GHeap.ltg e
  refine .nil (g _ _ (.seq (fun K3 l => .region (.mv rfl ?_))))
  refine .call rfl rfl rfl rfl @Tryd.call31 rfl (digitI_c ⟨k4, p, i, e, f⟩) ?_
  rintro _ _ ⟨rfl, c, k6, j, m, o, n⟩
  have _ := c.nx
  replace a := a.sA c
  have _ := GHeap.ltg o
  refine .mv rfl (.nil (l _ _ (.ret (b _ _ (⟨_, rfl, ?_⟩)))))
  exact ⟨rfl, a, k6, j, m, by assumption, n⟩
theorem connective_c {gR gT : Nat} {W : List Int} {sl : Value} {r : Rd} {H : GHeap} (hr : RdI 52 21 H gR gT W sl r := by assumption) (hne : gT ≠ gR := by assumption) (hW : Run W := by assumption) (hs : W.length ≤ 1048576 := by omega) :
    GCalls Tryd.prog 35 [.pointer (some ⟨gR, 0, none⟩)] H (RiQ gR gT W sl r.conn.2 (.int .i64 r.conn.1) H) := by
  obtain ⟨k, hk, hu, hg, hw⟩ := hr
  refine GCalls.body (N := 14) (rs := [.tmp 2]) Tryd.func35 rfl rfl rfl rfl (fun Qx f hend => ?_)
  refine .fg [0] rfl ?_
  have _ := GHeap.ltg hg
  have a := St.refl [gR] H
  refine .seq (fun K1 s => .region (.mv rfl (.nil (s _ _ (.seq (fun K2 j => .seq (fun K3 t => .region (.mv rfl ?_))))))))
  refine .call rfl rfl rfl rfl @Tryd.call30 rfl (next_c ⟨k, hk, hu, hg, hw⟩) ?_
  rintro _ _ ⟨rfl, i, k4, c, b, u, _⟩
  have _ := i.nx
  replace a := a.sA i
  have _ := GHeap.ltg u
  refine .nil (t _ _ (.block (.seq (fun K4 n => .region (.q rfl (.cmp rfl rfl rfl) (.mv rfl (.nil (n _ _ ?_))))))))
  refine .cond rfl ?_ ?_ <;> intro h5
  ·
   try simp only [sps] at h5
   refine .seq (fun K5 m => .region (.mv rfl (.nil (m _ _ (.ret (f _ _ (⟨_, rfl, ?_⟩)))))))
   first
   | exact ⟨by rw [Rd.conn_4 (by omega)], a, k4, c, by rw [Rd.conn_4 (by omega)]; exact b, by rw [Rd.conn_4 (by omega)]; assumption, a.same _ _ ⟨hne, trivial⟩ hw⟩
   | exact ⟨by rw [Rd.conn_5 (by omega)], a, k4, c, by rw [Rd.conn_5 (by omega)]; exact b, by rw [Rd.conn_5 (by omega)]; assumption, a.same _ _ ⟨hne, trivial⟩ hw⟩
   | exact ⟨by rw [Rd.conn_6 (by omega)], a, k4, c, by rw [Rd.conn_6 (by omega)]; exact b, by rw [Rd.conn_6 (by omega)]; assumption, a.same _ _ ⟨hne, trivial⟩ hw⟩
   | exact ⟨by rw [Rd.conn_0 (by omega)], a, k4, c, by rw [Rd.conn_0 (by omega)]; exact b, by rw [Rd.conn_0 (by omega)]; assumption, a.same _ _ ⟨hne, trivial⟩ hw⟩
  try simp only [sps] at h5
  refine .seq (fun K6 o => .region (.q rfl (.cmp rfl rfl rfl) (.mv rfl (.nil (o _ _ ?_)))))
  refine .cond rfl ?_ ?_ <;> intro h7
  ·
   try simp only [sps] at h7
   refine .seq (fun K7 v => .region (.mv rfl (.nil (v _ _ (.ret (f _ _ (⟨_, rfl, ?_⟩)))))))
   first
   | exact ⟨by rw [Rd.conn_4 (by omega)], a, k4, c, by rw [Rd.conn_4 (by omega)]; exact b, by rw [Rd.conn_4 (by omega)]; assumption, a.same _ _ ⟨hne, trivial⟩ hw⟩
   | exact ⟨by rw [Rd.conn_5 (by omega)], a, k4, c, by rw [Rd.conn_5 (by omega)]; exact b, by rw [Rd.conn_5 (by omega)]; assumption, a.same _ _ ⟨hne, trivial⟩ hw⟩
   | exact ⟨by rw [Rd.conn_6 (by omega)], a, k4, c, by rw [Rd.conn_6 (by omega)]; exact b, by rw [Rd.conn_6 (by omega)]; assumption, a.same _ _ ⟨hne, trivial⟩ hw⟩
   | exact ⟨by rw [Rd.conn_0 (by omega)], a, k4, c, by rw [Rd.conn_0 (by omega)]; exact b, by rw [Rd.conn_0 (by omega)]; assumption, a.same _ _ ⟨hne, trivial⟩ hw⟩
  try simp only [sps] at h7
  refine .seq (fun K8 l => .region (.q rfl (.cmp rfl rfl rfl) (.mv rfl (.nil (l _ _ ?_)))))
  refine .cond rfl ?_ ?_ <;> intro h9
  ·
   try simp only [sps] at h9
   refine .seq (fun K9 p => .region (.mv rfl (.nil (p _ _ (.ret (f _ _ (⟨_, rfl, ?_⟩)))))))
   first
   | exact ⟨by rw [Rd.conn_4 (by omega)], a, k4, c, by rw [Rd.conn_4 (by omega)]; exact b, by rw [Rd.conn_4 (by omega)]; assumption, a.same _ _ ⟨hne, trivial⟩ hw⟩
   | exact ⟨by rw [Rd.conn_5 (by omega)], a, k4, c, by rw [Rd.conn_5 (by omega)]; exact b, by rw [Rd.conn_5 (by omega)]; assumption, a.same _ _ ⟨hne, trivial⟩ hw⟩
   | exact ⟨by rw [Rd.conn_6 (by omega)], a, k4, c, by rw [Rd.conn_6 (by omega)]; exact b, by rw [Rd.conn_6 (by omega)]; assumption, a.same _ _ ⟨hne, trivial⟩ hw⟩
   | exact ⟨by rw [Rd.conn_0 (by omega)], a, k4, c, by rw [Rd.conn_0 (by omega)]; exact b, by rw [Rd.conn_0 (by omega)]; assumption, a.same _ _ ⟨hne, trivial⟩ hw⟩
  try simp only [sps] at h9
  refine .skip (j _ _ (.seq (fun K10 g => .region (.mv rfl (.q rfl (.nilCheck rfl) (.q rfl (.fieldAddr fo_52_2_Ud rfl) ?_))))))
  refine .r0 rfl rfl (.storeR rfl sz_4_Ud rfl rfl rfl (by assumption) (by first | exact Nat.le_of_ble_eq_true rfl | (simp; done) | (simp <;> omega))) ?_
  rintro _ _ ⟨rfl, e, d⟩
  have _ := e.nx
  replace a := a.sA e
  have _ := GHeap.ltg d
  try simp only [Nat.zero_add, List.set_cons_succ, List.set_cons_zero] at d
  refine .nil (g _ _ (.seq (fun K11 h => .region (.mv rfl (.nil (h _ _ (.ret (f _ _ (⟨_, rfl, ?_⟩)))))))))
  first
  | exact ⟨by rw [Rd.conn_4 (by omega)], a, k4, c, by rw [Rd.conn_4 (by omega)]; exact b, by rw [Rd.conn_4 (by omega)]; assumption, a.same _ _ ⟨hne, trivial⟩ hw⟩
  | exact ⟨by rw [Rd.conn_5 (by omega)], a, k4, c, by rw [Rd.conn_5 (by omega)]; exact b, by rw [Rd.conn_5 (by omega)]; assumption, a.same _ _ ⟨hne, trivial⟩ hw⟩
  | exact ⟨by rw [Rd.conn_6 (by omega)], a, k4, c, by rw [Rd.conn_6 (by omega)]; exact b, by rw [Rd.conn_6 (by omega)]; assumption, a.same _ _ ⟨hne, trivial⟩ hw⟩
  | exact ⟨by rw [Rd.conn_0 (by omega)], a, k4, c, by rw [Rd.conn_0 (by omega)]; exact b, by rw [Rd.conn_0 (by omega)]; assumption, a.same _ _ ⟨hne, trivial⟩ hw⟩
set_option maxHeartbeats 4000000 in
theorem arguments_c {gR gT : Nat} {W : List Int} {sl : Value} {r : Rd} {H : GHeap} (hr : RdI 52 21 H gR gT W sl r := by assumption) (hne : gT ≠ gR := by assumption) (hW : Run W := by assumption) (hs : W.length ≤ 1048576 := by omega) :
    GCalls Tryd.prog 32 [.pointer (some ⟨gR, 0, none⟩)] H (fun v H' => ∃ g, v = .slice (some ⟨g, 0, none⟩) r.argu.2.length r.argu.2.length ∧ H.next ≤ g ∧ H'.get g = some (.row (ints r.argu.2) 2 true) ∧ St [gR] H H' ∧ RdI 52 21 H' gR gT W sl r.argu.1) := by
  obtain ⟨k, hk, hu, hg, hw⟩ := hr
  refine GCalls.body (N := 42) (rs := [.tmp 2]) Tryd.func32 rfl rfl rfl rfl (fun Qx b1 hend => ?_)
  refine .fg [0] rfl ?_
  have _ := GHeap.ltg hg
  have f := St.refl [gR] H
  refine .seq (fun K1 e7 => .region (.mv rfl (.nil (e7 _ _ (.seq (fun K2 e1 => .region (.mv rfl ?_)))))))
  refine .call rfl rfl rfl rfl @Tryd.call33 rfl (need_c ⟨k, hk, hu, hg, hw⟩) ?_
  rintro _ _ ⟨rfl, d5, k5, e5, d9, c0, _⟩
  have _ := d5.nx
  replace f := f.sA d5
  have _ := GHeap.ltg c0
  refine .nil (e1 _ _ (.seq (fun K3 e8 => .region ?_)))
  refine .R rfl (.litA rfl sl_36_A ze_2_Ud rfl rfl rfl rfl) ?_
  rintro _ H6 ⟨g6, rfl, c8, _, b6⟩
  have _ := c8.1
  replace f := f.le c8
  replace c0 := c8.2 _ _ c0
  have _ := GHeap.ltg b6
  replace b6 : GHeap.get H6 g6 = some (.row (ints []) 2 true) := b6
  refine .mv rfl (.nil (e8 _ _ (.seq (fun K4 d0 => .block ?_))))
  refine .loopF (σ := Nat × Rd × Nat × List Int × Nat × Nat) [0] (fun (k, rc, n, az, a7, b3) => [(3, some (.slice (some ⟨a7, 0, none⟩) b3 b3))]) (fun (k, rc, n, az, a7, b3) H' => St [g6, gR] H6 H' ∧ H'.get a7 = some (.row (ints az) 2 true) ∧ (a7 = g6 ∨ H6.next ≤ a7) ∧ b3 = az.length ∧ H'.get gR = some (.row ([.slice (some ⟨gT, k, none⟩) (W.length - k) (W.length - k), sl, .bool rc.bad]) 52 true) ∧ a7 ≠ gR ∧ k ≤ W.length ∧ W.drop k = rc.u ∧ rc.vars n az = (r.want 40).vars (r.want 40).u.length [] ∧ rc.u.length ≤ n ∧ n + az.length ≤ W.length) (fun (k, rc, n, az, a7, b3) => n) ((k5, r.want 40, (r.want 40).u.length, [], _, _)) rfl (.p rfl) ?_ ?_
  ·
   refine ⟨.refl _ _, by first | assumption | exact b6 | simpa using b6, .inl rfl, by first | rfl | assumption | simp | omega, by first | assumption | exact c0 | simpa using c0, by omega, ?_⟩
   exact ⟨e5, d9, rfl, Nat.le_refl _, by rw [← d9, List.length_drop]; simp⟩
  rintro ⟨k, rc, n, az, a7, b3⟩ _ ⟨b, a, _, a1, d, h, hI⟩ _ c1
  dsimp only [cA, nA]
  have _ := b.nx
  replace f := f.sA b
  have _ := GHeap.ltg a
  have _ := GHeap.ltg d
  obtain ⟨b5, a6, b8, e4, _⟩ := hI
  have d7 := f.same _ _ ⟨hne, trivial⟩ hw
  refine .seq (fun K5 e3 => .seq (fun K6 d1 => .region (.mv rfl (.q rfl (.nilCheck rfl) (.q rfl (.fieldAddr fo_52_2_Ud rfl) ?_)))))
  refine .q rfl (.load on_4_Ud rfl (by first | assumption | exact Mem.of_get d 2 _ rfl)) ?_
  refine .q rfl (.not rfl) (.mv rfl ?_)
  refine .split (fun b4 => ?_) (fun b4 => ?_)
  ·
   simp only [sps] at b4
   refine .qg rfl (.move rfl) (.qg rfl (.nilCheck rfl) (.qg rfl (.fieldAddr fo_52_0_Ud rfl) ?_))
   refine .qg rfl (.load on_50_Ud rfl (by first | assumption | exact Mem.of_get d 0 _ rfl)) ?_
   refine .qg rfl (.len sl_50_Ud rfl) (.qg rfl (.cmp rfl rfl rfl) (.q rfl (.pickT rfl rfl) (.mv rfl ?_)))
   refine .split (fun c6 => ?_) (fun c6 => ?_)
   ·
    simp only [sps] at c6
    obtain ⟨c, v, hc⟩ := drop_more (W := W) (k := k) (by omega)
    have hcu := a6.symm.trans hc
    have sA := runes_slA (k := k) d7
    refine .qg rfl (.move rfl) (.qg rfl (.nilCheck rfl) (.qg rfl (.fieldAddr fo_52_0_Ud rfl) ?_))
    refine .qg rfl (.load on_50_Ud rfl (by first | assumption | exact Mem.of_get d 0 _ rfl)) ?_
    refine .qg rfl (.idxN (j := 0) sl_50_Ud (by assumption) rfl rfl (by omega)) ?_
    refine .qg rfl (.load on_21_Ud rfl (by rw [GHeap.cell_of d7]; exact runes_get hc)) ?_
    refine .qg rfl (.cmp rfl rfl rfl) (.q rfl (.pickT rfl rfl) (.nil (d1 _ _ ?_)))
    refine .cond rfl ?_ ?_ <;> intro c2
    ·
     simp only [sps] at c2
     have hmo : rc.more := ⟨b4, c, by rw [hcu]; rfl, c2⟩
     obtain ⟨m, _, d8, d6⟩ := Rd.vars_go hmo e4 az
     refine .skip (e3 _ _ (.block (.seq (fun K7 e0 => .seq (fun K8 e2 => .region (.mv rfl (.q rfl (.len sl_36_A rfl) (.q rfl (.cmp rfl rfl rfl) (.nil (e2 _ _ ?_))))))))))
     refine .cond rfl ?_ ?_ <;> intro d3
     ·
      simp only [sps] at d3
      have hif : (if az.length > 0 then rc.want 44 else rc) = rc.want 44 := if_pos (by omega)
      refine .region (.mv rfl ?_)
      refine .call rfl rfl rfl rfl @Tryd.call33 rfl (need_c ⟨k, b5, a6, d, f.same _ _ ⟨hne, trivial⟩ hw⟩) ?_
      rintro _ _ ⟨rfl, a4, d4, b7, b9, b2, _⟩
      have _ := a4.nx
      replace f := f.sA a4
      replace b := b.sA a4
      replace a := a4.same _ _ ⟨h, trivial⟩ a
      have _ := GHeap.ltg b2
      refine .nil (e0 _ _ (.region (.mv rfl (.mv rfl ?_))))
      refine .call rfl rfl rfl rfl @Tryd.call34 rfl (variableI_c (r := (if az.length > 0 then rc.want 44 else rc)) (by rw [hif]; first | exact ⟨d4, b7, b9, b2, f.same _ _ ⟨hne, trivial⟩ hw⟩ | exact ⟨k, b5, a6, d, f.same _ _ ⟨hne, trivial⟩ hw⟩)) ?_
      rintro _ _ ⟨rfl, a5, kV, hkV, huV, atV, awV⟩
      have _ := a5.nx
      replace f := f.sA a5
      replace b := b.sA a5
      replace a := a5.same _ _ ⟨h, trivial⟩ a
      have a8 := GHeap.ltg atV
      refine .R rfl (.litA rfl sl_36_A ze_2_Ud rfl rfl rfl rfl) ?_
      rintro _ _ ⟨_, rfl, a0, _, b0⟩
      have _ := a0.1
      replace f := f.le a0
      replace b := b.le a0
      replace a := a0.2 _ _ a
      replace atV := a0.2 _ _ atV
      have _ := GHeap.ltg b0
      refine .R rfl (.apI rfl sl_36_A ze_2_Ud rfl by_2_Ud sl_36_A rfl rfl) ?_
      rintro _ _ ⟨_, rfl, y, _, c7⟩
      have _ := y.nx
      replace f := f.sA y
      replace b := b.sA y
      replace atV := y.same _ _ ⟨(Ne.symm h), trivial⟩ atV
      replace b0 := y.s b0
      have _ := GHeap.ltg c7
      refine .mv rfl (.nil ?_)
      refine c1 ((kV, (if az.length > 0 then rc.want 44 else rc).var.2, m, az ++ [(if az.length > 0 then rc.want 44 else rc).var.1], _, _)) _ _ ?_ ?_ (.p rfl)
      ·
       refine ⟨b, by assumption, by omega, by first | omega | (simp only [List.length_append, List.length_cons, List.length_nil] <;> omega), by assumption, by omega, ?_⟩
       exact ⟨hkV, huV, by rw [← d8]; exact b8, d6, by simp; omega⟩
      (dsimp only; omega)
     simp only [sps] at d3
     have hif : (if az.length > 0 then rc.want 44 else rc) = rc := if_neg (by omega)
     refine .skip (e0 _ _ (.region (.mv rfl (.mv rfl ?_))))
     refine .call rfl rfl rfl rfl @Tryd.call34 rfl (variableI_c (r := (if az.length > 0 then rc.want 44 else rc)) (by rw [hif]; first | exact ⟨d4, b7, b9, b2, f.same _ _ ⟨hne, trivial⟩ hw⟩ | exact ⟨k, b5, a6, d, f.same _ _ ⟨hne, trivial⟩ hw⟩)) ?_
     rintro _ _ ⟨rfl, w, kV, hkV, huV, atV, awV⟩
     have _ := w.nx
     replace f := f.sA w
     replace b := b.sA w
     replace a := w.same _ _ ⟨h, trivial⟩ a
     have a8 := GHeap.ltg atV
     refine .R rfl (.litA rfl sl_36_A ze_2_Ud rfl rfl rfl rfl) ?_
     rintro _ _ ⟨_, rfl, l, _, x⟩
     have _ := l.1
     replace f := f.le l
     replace b := b.le l
     replace a := l.2 _ _ a
     replace atV := l.2 _ _ atV
     have _ := GHeap.ltg x
     refine .R rfl (.apI rfl sl_36_A ze_2_Ud rfl by_2_Ud sl_36_A rfl rfl) ?_
     rintro _ _ ⟨_, rfl, i, _, a9⟩
     have _ := i.nx
     replace f := f.sA i
     replace b := b.sA i
     replace atV := i.same _ _ ⟨(Ne.symm h), trivial⟩ atV
     replace x := i.s x
     have _ := GHeap.ltg a9
     refine .mv rfl (.nil ?_)
     refine c1 ((kV, (if az.length > 0 then rc.want 44 else rc).var.2, m, az ++ [(if az.length > 0 then rc.want 44 else rc).var.1], _, _)) _ _ ?_ ?_ (.p rfl)
     ·
      refine ⟨b, by assumption, by omega, by first | omega | (simp only [List.length_append, List.length_cons, List.length_nil] <;> omega), by assumption, by omega, ?_⟩
      exact ⟨hkV, huV, by rw [← d8]; exact b8, d6, by simp; omega⟩
     (dsimp only; omega)
    simp only [sps] at c2
    have hns : ¬ rc.more := fun q => by
      obtain ⟨_, _, h1, h2⟩ := q
      rw [hcu] at h1
      cases h1
      exact h2 c2
    refine .exit (d0 _ _ (.seq (fun K9 e6 => .region (.mv rfl ?_))))
    refine .call rfl rfl rfl rfl @Tryd.call33 rfl (need_c ⟨k, b5, a6, d, f.same _ _ ⟨hne, trivial⟩ hw⟩) ?_
    rintro _ _ ⟨rfl, a3, kN, hkN, huN, atN, awN⟩
    have _ := a3.nx
    replace f := f.sA a3
    replace b := b.sA a3
    replace a := a3.same _ _ ⟨h, trivial⟩ a
    have a2 := GHeap.ltg atN
    refine .nil (e6 _ _ (.seq (fun K10 c4 => .region (.mv rfl (.mv rfl (.nil (c4 _ _ (.ret (b1 _ _ (⟨_, rfl, ?_⟩))))))))))
    have e : r.argu = (rc.want 41, az) := by unfold Rd.argu; rw [← b8, Rd.vars_stop hns]
    rw [e]
    exact ⟨_, by rw [a1], by omega, by assumption, f, kN, hkN, huN, atN, f.same _ _ ⟨hne, trivial⟩ hw⟩
   simp only [sps] at c6
   have hns : ¬ rc.more := fun q => by
     obtain ⟨_, c, h1, _⟩ := q
     rw [← a6, drop_done (by omega)] at h1
     cases h1
   refine .z rfl (.z rfl (.z rfl (.z rfl (.z rfl (.z rfl (.z rfl (.q rfl (.pickF rfl rfl) (.nil (d1 _ _ ?_)))))))))
   refine .condF rfl ?_
   refine .exit (d0 _ _ (.seq (fun K11 d2 => .region (.mv rfl ?_))))
   refine .call rfl rfl rfl rfl @Tryd.call33 rfl (need_c ⟨k, b5, a6, d, f.same _ _ ⟨hne, trivial⟩ hw⟩) ?_
   rintro _ _ ⟨rfl, o, kN, hkN, huN, atN, awN⟩
   have _ := o.nx
   replace f := f.sA o
   replace b := b.sA o
   replace a := o.same _ _ ⟨h, trivial⟩ a
   have a2 := GHeap.ltg atN
   refine .nil (d2 _ _ (.seq (fun K12 c5 => .region (.mv rfl (.mv rfl (.nil (c5 _ _ (.ret (b1 _ _ (⟨_, rfl, ?_⟩))))))))))
   have e : r.argu = (rc.want 41, az) := by unfold Rd.argu; rw [← b8, Rd.vars_stop hns]
   rw [e]
   exact ⟨_, by rw [a1], by omega, by assumption, f, kN, hkN, huN, atN, f.same _ _ ⟨hne, trivial⟩ hw⟩
  simp only [sps] at b4
  have hns : ¬ rc.more := fun q => by rw [q.1] at b4; cases b4
  refine .z rfl (.z rfl (.z rfl (.z rfl (.z rfl (.z rfl (.q rfl (.pickF rfl rfl) (.mv rfl (.z rfl (.z rfl (.z rfl (.z rfl (.z rfl (.z rfl (.z rfl (.q rfl (.pickF rfl rfl) ?_)))))))))))))))
  refine .nil (d1 _ _ ?_)
  refine .condF rfl ?_
  refine .exit (d0 _ _ (.seq (fun K13 c9 => .region (.mv rfl ?_))))
  refine .call rfl rfl rfl rfl @Tryd.call33 rfl (need_c ⟨k, b5, a6, d, f.same _ _ ⟨hne, trivial⟩ hw⟩) ?_
  rintro _ _ ⟨rfl, t, kN, hkN, huN, atN, awN⟩
  have _ := t.nx
  replace f := f.sA t
  replace b := b.sA t
  replace a := t.same _ _ ⟨h, trivial⟩ a
  have a2 := GHeap.ltg atN
  refine .nil (c9 _ _ (.seq (fun K14 c3 => .region (.mv rfl (.mv rfl (.nil (c3 _ _ (.ret (b1 _ _ (⟨_, rfl, ?_⟩))))))))))
  have e : r.argu = (rc.want 41, az) := by unfold Rd.argu; rw [← b8, Rd.vars_stop hns]
  rw [e]
  exact ⟨_, by rw [a1], by omega, by assumption, f, kN, hkN, huN, atN, f.same _ _ ⟨hne, trivial⟩ hw⟩
end Go.Proofs.YtdnjnligclkkgaaDoor
namespace Go.GL
open Go.RowKit
structure RdP (TR TW TN e : TypeId) (B : Nat) (H : GHeap) (gR gT gL : Nat) (W : List Int) (r : Rd) (rr : Nat → Option Addr) : Prop where
  rd : RdI TR TW H gR gT W (.slice (nz r.L.length gL) r.L.length r.L.length) r
  no : NO H gL (ndV rr r.L) TN r.L.length
  ne : gL ≠ gR
  nt : gL ≠ gT
  tr : gT ≠ gR
  ag : AgN e B ((H.set gR none).set gL none) rr r.L
  inj : ∀ i j, i < r.L.length → j < r.L.length → rr i = rr j → rr i ≠ none → i = j
theorem RdP.turn {TR TW TN e : TypeId} {B : Nat} {H H' : GHeap} {gR gT gL : Nat} {W : List Int} {r r' : Rd} {rr : Nat → Option Addr} (h : RdP TR TW TN e B H gR gT gL W r rr) (st : St [gR] H H') (hr : RdI TR TW H' gR gT W (.slice (nz r.L.length gL) r.L.length r.L.length) r') (eL : r'.L = r.L) : RdP TR TW TN e B H' gR gT gL W r' rr := by
  obtain ⟨u', L', b'⟩ := r'
  obtain rfl : L' = r.L := eL
  exact ⟨hr, h.no.st st ⟨h.ne, trivial⟩, h.ne, h.nt, h.tr, h.ag.le st.er1, h.inj⟩
theorem RdP.turn3 {TR TW TN e : TypeId} {B : Nat} {H H' : GHeap} {gR gT gL g3 : Nat} {W : List Int} {r r' : Rd} {rr : Nat → Option Addr} {cs : List Value} (h : RdP TR TW TN e B H gR gT gL W r rr) (st : St [gR, g3] H H') (h3 : H.get g3 = some (.row cs TN true)) (hT : (TN != e) = true) (hg : gL ≠ g3) (hr : RdI TR TW H' gR gT W (.slice (nz r.L.length gL) r.L.length r.L.length) r') (eL : r'.L = r.L) : RdP TR TW TN e B H' gR gT gL W r' rr := by
  obtain ⟨u', L', b'⟩ := r'
  obtain rfl : L' = r.L := eL
  refine ⟨hr, h.no.st st ⟨h.ne, hg, trivial⟩, h.ne, h.nt, h.tr, fun i hi => ?_, h.inj⟩
  rcases h.ag i hi with q | ⟨g, q1, q2, q3⟩
  · exact .inl q
  · obtain ⟨q4, q5⟩ := GHeap.get_erase q3
    obtain ⟨q6, q7⟩ := GHeap.get_erase q5
    have hne : g ≠ g3 := fun e1 => by
      subst e1
      rw [h3] at q7
      cases q7
      simp at hT
    exact .inr ⟨g, q1, q2, GHeap.get_erase_of (GHeap.get_erase_of (st.same g _ ⟨q6, hne, trivial⟩ q7) q6) q4⟩
theorem inj_snoc {rr : Nat → Option Addr} {n : Nat} (h : ∀ i j, i < n → j < n → rr i = rr j → rr i ≠ none → i = j) : ∀ i j, i < n + 1 → j < n + 1 → upd rr n none i = upd rr n none j → upd rr n none i ≠ none → i = j := fun i j hi hj e1 e2 => by
  by_cases ei : i = n
  · subst ei; rw [upd_eq] at e2; exact absurd rfl e2
  by_cases ej : j = n
  · subst ej; rw [e1, upd_eq] at e2; exact absurd rfl e2
  rw [upd_ne ei, upd_ne ej] at e1
  rw [upd_ne ei] at e2
  exact h i j (by omega) (by omega) e1 e2
theorem AgN.far {e : TypeId} {B g : Nat} {H : GHeap} {r : Nat → Option Addr} {L : List Nd} (h : AgN e B H r L) (hg : H.next ≤ g) : ∀ j, j < L.length → r j ≠ some ⟨g, 0, none⟩ := fun j hj q => by
  rcases h j hj with ⟨h1, _⟩ | ⟨x, h1, _, h3⟩
  · rw [h1] at q; cases q
  · rw [h1] at q
    cases q
    have := GHeap.ltg h3
    omega
structure FormV (TR TW TN e : TypeId) (B : Nat) (H H' : GHeap) (gR gT gL0 g3 : Nat) (W : List Int) (i : Nat) (r' r2 : Rd) (gL : Nat) (rr : Nat → Option Addr) (x : Nd) (a : Option Addr) : Prop where
  rp : RdP TR TW TN e B H' gR gT gL W r2 rr
  st : St [gR, gL0, g3] H H'
  or : gL = gL0 ∨ H.next ≤ gL
  a3 : H'.get g3 = some (.row (x.cells a) TN true)
  ag : Ag e B ((H'.set gR none).set gL none) a x.az
  far : a ≠ none → ∀ j, j < r2.L.length → rr j ≠ a
  eq : r' = r2.fin i x
  lt : i < r2.L.length
theorem RdP.fin {TR TW TN e : TypeId} {B : Nat} {H H' : GHeap} {gR gT gL : Nat} {W : List Int} {r : Rd} {rr : Nat → Option Addr} {i : Nat} {x : Nd} {a : Option Addr} (h : RdP TR TW TN e B H gR gT gL W r rr) (st : St [gL] H H') (hi : i < r.L.length) (hx : Ag e B ((H.set gR none).set gL none) a x.az) (hf : a ≠ none → ∀ j, j < r.L.length → rr j ≠ a)
    (hg : H'.get gL = some (.row (ndV (upd rr i a) (r.L.set i x)) TN true)) : RdP TR TW TN e B H' gR gT gL W (r.fin i x) (upd rr i a) := by
  obtain ⟨⟨k, hk, hu, hR, hT⟩, no, ne, nt, tr, ag, inj⟩ := h
  have hs : ((H.set gR none).set gL none).Le ((H'.set gR none).set gL none) := ⟨by simp only [GHeap.next_set]; exact st.nx, fun y o hy => by
    obtain ⟨h1, h2⟩ := GHeap.get_erase hy
    obtain ⟨h3, h4⟩ := GHeap.get_erase h2
    exact GHeap.get_erase_of (GHeap.get_erase_of (st.same y o ⟨h1, trivial⟩ h4) h3) h1⟩
  have hl : (r.fin i x).L.length = r.L.length := by show (r.L.set i x).length = _; rw [List.length_set]
  refine ⟨⟨k, hk, hu, ?_, st.same _ _ ⟨Ne.symm nt, trivial⟩ hT⟩, ?_, ne, nt, tr, (ag.set hi hx).le hs, ?_⟩
  · rw [hl]; exact st.same _ _ ⟨Ne.symm ne, trivial⟩ hR
  · rw [hl]; exact NO.of hg (by omega)
  · intro p q hp hq e1 e2
    rw [hl] at hp hq
    by_cases ep : p = i
    · by_cases eq : q = i
      · rw [ep, eq]
      · rw [ep, upd_eq, upd_ne eq] at e1
        rw [ep, upd_eq] at e2
        exact absurd e1.symm (hf e2 q hq)
    · by_cases eq : q = i
      · rw [eq, upd_eq, upd_ne ep] at e1
        rw [upd_ne ep] at e2
        exact absurd e1 (hf (e1 ▸ e2) p hp)
      · rw [upd_ne ep, upd_ne eq] at e1
        rw [upd_ne ep] at e2
        exact inj p q hp hq e1 e2
section
variable {r r0 : Rd} {n : Nat}
theorem Rd.form_fail (h : r.bad = true ∨ r.L.length = 40) : r.form (n + 1) = r.fail := by unfold Rd.form; rw [if_pos h]
theorem Rd.form_84 (h : ¬ (r.bad = true ∨ r.L.length = 40)) (e0 : r0 = ⟨r.u, r.L ++ [⟨0, 0, []⟩], r.bad⟩) (e : r0.take.1 = 84) : r.form (n + 1) = r0.take.2.fin r.L.length ⟨0, 0, []⟩ := by
  subst e0; unfold Rd.form; rw [if_neg h]; exact if_pos e
theorem Rd.form_70 (h : ¬ (r.bad = true ∨ r.L.length = 40)) (e0 : r0 = ⟨r.u, r.L ++ [⟨0, 0, []⟩], r.bad⟩) (e : r0.take.1 = 70) : r.form (n + 1) = r0.take.2.fin r.L.length ⟨1, 0, []⟩ := by
  subst e0; unfold Rd.form; rw [if_neg h]; exact (if_neg (by omega)).trans (if_pos e)
theorem Rd.form_82 (h : ¬ (r.bad = true ∨ r.L.length = 40)) (e0 : r0 = ⟨r.u, r.L ++ [⟨0, 0, []⟩], r.bad⟩) (e : r0.take.1 = 82) : r.form (n + 1) = (r0.take.2.dg 4).2.argu.1.fin r.L.length ⟨2, (r0.take.2.dg 4).1, (r0.take.2.dg 4).2.argu.2⟩ := by
  subst e0; unfold Rd.form; rw [if_neg h]; exact (if_neg (by omega)).trans ((if_neg (by omega)).trans (if_pos e))
theorem Rd.form_118 (h : ¬ (r.bad = true ∨ r.L.length = 40)) (e0 : r0 = ⟨r.u, r.L ++ [⟨0, 0, []⟩], r.bad⟩) (e : r0.take.1 = 118) : r.form (n + 1) = ((r0.take.2.dg 4).2.want 61).var.2.fin r.L.length ⟨3, 0, [(r0.take.2.dg 4).1, ((r0.take.2.dg 4).2.want 61).var.1]⟩ := by
  subst e0; unfold Rd.form; rw [if_neg h]; exact (if_neg (by omega)).trans ((if_neg (by omega)).trans ((if_neg (by omega)).trans (if_pos e)))
theorem Rd.form_69 (h : ¬ (r.bad = true ∨ r.L.length = 40)) (e0 : r0 = ⟨r.u, r.L ++ [⟨0, 0, []⟩], r.bad⟩) (e : r0.take.1 = 69) : r.form (n + 1) = (Rd.form n ((r0.take.2.dg 3).2.want 46)).fin r.L.length ⟨7, (r0.take.2.dg 3).1, []⟩ := by
  subst e0
  conv => lhs; unfold Rd.form
  rw [if_neg h]; exact (if_neg (by omega)).trans ((if_neg (by omega)).trans ((if_neg (by omega)).trans ((if_neg (by omega)).trans (if_pos e))))
theorem Rd.form_65 (h : ¬ (r.bad = true ∨ r.L.length = 40)) (e0 : r0 = ⟨r.u, r.L ++ [⟨0, 0, []⟩], r.bad⟩) (e : r0.take.1 = 65) : r.form (n + 1) = (Rd.form n ((r0.take.2.dg 3).2.want 46)).fin r.L.length ⟨8, (r0.take.2.dg 3).1, []⟩ := by
  subst e0
  conv => lhs; unfold Rd.form
  rw [if_neg h]; exact (if_neg (by omega)).trans ((if_neg (by omega)).trans ((if_neg (by omega)).trans ((if_neg (by omega)).trans ((if_neg (by omega)).trans (if_pos e)))))
theorem Rd.form_40c (h : ¬ (r.bad = true ∨ r.L.length = 40)) (e0 : r0 = ⟨r.u, r.L ++ [⟨0, 0, []⟩], r.bad⟩) (e : r0.take.1 = 40) : r.form (n + 1) = ((Rd.form n (Rd.form n r0.take.2).conn.2).want 41).fin r.L.length ⟨(Rd.form n r0.take.2).conn.1, 0, []⟩ := by
  subst e0
  conv => lhs; unfold Rd.form
  rw [if_neg h]; exact (if_neg (by omega)).trans ((if_neg (by omega)).trans ((if_neg (by omega)).trans ((if_neg (by omega)).trans ((if_neg (by omega)).trans ((if_neg (by omega)).trans (if_pos e))))))
theorem Rd.form_no (h : ¬ (r.bad = true ∨ r.L.length = 40)) (e0 : r0 = ⟨r.u, r.L ++ [⟨0, 0, []⟩], r.bad⟩) (e : ¬ (r0.take.1 = 84 ∨ r0.take.1 = 70 ∨ r0.take.1 = 82 ∨ r0.take.1 = 118 ∨ r0.take.1 = 69 ∨ r0.take.1 = 65 ∨ r0.take.1 = 40)) : r.form (n + 1) = r0.take.2.fail.fin r.L.length ⟨0, 0, []⟩ := by
  subst e0; unfold Rd.form; rw [if_neg h]; exact (if_neg (by omega)).trans ((if_neg (by omega)).trans ((if_neg (by omega)).trans ((if_neg (by omega)).trans ((if_neg (by omega)).trans ((if_neg (by omega)).trans (if_neg (by omega)))))))
end
theorem Rd.dg_L (r : Rd) (n : Int) : (r.dg n).2.L = r.L := by unfold dg fail; split <;> exact r.take_L
theorem Rd.var_L (r : Rd) : r.var.2.L = r.L := by unfold var; rw [Rd.dg_L, Rd.want_L]
theorem Rd.vars_L : ∀ (n : Nat) (r : Rd) (az : List Int), (r.vars n az).1.L = r.L
  | 0, _, _ => rfl
  | n + 1, r, az => by
    unfold Rd.vars
    split
    · rw [Rd.vars_L n, Rd.var_L]
      split
      · exact Rd.want_L _ _
      · rfl
    · rfl
theorem Rd.argu_L (r : Rd) : r.argu.1.L = r.L := by unfold argu; dsimp only; rw [Rd.want_L, Rd.vars_L, Rd.want_L]
theorem Rd.conn_L (r : Rd) : r.conn.2.L = r.L := by
  have h := r.take_L
  unfold conn fail
  split
  · exact h
  split
  · exact h
  split <;> exact h
theorem Rd.fin_len (r : Rd) (i : Nat) (x : Nd) : (r.fin i x).L.length = r.L.length := by show (r.L.set i x).length = _; rw [List.length_set]
theorem Rd.form_40 : ∀ (n : Nat) (r : Rd), r.L.length ≤ 40 → r.L.length ≤ (r.form n).L.length ∧ (r.form n).L.length ≤ 40
  | 0, _, h => ⟨Nat.le_refl _, h⟩
  | n + 1, r, h => by
    by_cases q : r.bad = true ∨ r.L.length = 40
    · rw [Rd.form_fail q]; exact ⟨Nat.le_refl _, h⟩
    have hl : r.L.length + 1 ≤ 40 := by omega
    have e1 : (Rd.mk r.u (r.L ++ [⟨0, 0, []⟩]) r.bad).take.2.L.length = r.L.length + 1 := by rw [Rd.take_L]; show (r.L ++ [_]).length = _; rw [List.length_append, List.length_singleton]
    generalize e0 : Rd.mk r.u (r.L ++ [⟨0, 0, []⟩]) r.bad = r0 at e1
    replace e0 := e0.symm
    by_cases c1 : r0.take.1 = 84
    · rw [Rd.form_84 q e0 c1, Rd.fin_len]; omega
    by_cases c2 : r0.take.1 = 70
    · rw [Rd.form_70 q e0 c2, Rd.fin_len]; omega
    by_cases c3 : r0.take.1 = 82
    · rw [Rd.form_82 q e0 c3, Rd.fin_len, Rd.argu_L, Rd.dg_L]; omega
    by_cases c4 : r0.take.1 = 118
    · rw [Rd.form_118 q e0 c4, Rd.fin_len, Rd.var_L, Rd.want_L, Rd.dg_L]; omega
    have h2 := Rd.form_40 n ((r0.take.2.dg 3).2.want 46) (by rw [Rd.want_L, Rd.dg_L]; omega)
    rw [Rd.want_L, Rd.dg_L] at h2
    by_cases c5 : r0.take.1 = 69
    · rw [Rd.form_69 q e0 c5, Rd.fin_len]; omega
    by_cases c6 : r0.take.1 = 65
    · rw [Rd.form_65 q e0 c6, Rd.fin_len]; omega
    by_cases c7 : r0.take.1 = 40
    · have h3 := Rd.form_40 n r0.take.2 (by omega)
      have h4 := Rd.form_40 n (Rd.form n r0.take.2).conn.2 (by rw [Rd.conn_L]; omega)
      rw [Rd.conn_L] at h4
      rw [Rd.form_40c q e0 c7, Rd.fin_len, Rd.want_L]; omega
    · rw [Rd.form_no q e0 (by omega), Rd.fin_len]; show r.L.length ≤ r0.take.2.L.length ∧ r0.take.2.L.length ≤ 40; omega
theorem Rd.vars_u : ∀ (n : Nat) (r : Rd) (az : List Int), (r.vars n az).1.u.length ≤ r.u.length
  | 0, _, _ => Nat.le_refl _
  | n + 1, r, az => by
    unfold Rd.vars
    split
    · have h1 := Rd.vars_u n (if az.length > 0 then r.want 44 else r).var.2 (az ++ [(if az.length > 0 then r.want 44 else r).var.1])
      have h2 := Rd.var_len (if az.length > 0 then r.want 44 else r)
      have h3 : (if az.length > 0 then r.want 44 else r).u.length ≤ r.u.length := by
        split
        · exact Rd.want_len _ _
        · exact Nat.le_refl _
      omega
    · exact Nat.le_refl _
theorem Rd.conn_len (r : Rd) : r.conn.2.u.length ≤ r.u.length := by
  have h := r.take_len
  unfold conn fail
  split
  · exact h
  split
  · exact h
  split <;> exact h
theorem Rd.dg_len (r : Rd) (n : Int) : (r.dg n).2.u.length ≤ r.u.length := by rw [Rd.dg_u, List.length_drop]; omega
theorem Rd.form_len : ∀ (n : Nat) (r : Rd), (r.form n).u.length ≤ r.u.length
  | 0, _ => Nat.le_refl _
  | n + 1, r => by
    by_cases q : r.bad = true ∨ r.L.length = 40
    · rw [Rd.form_fail q]; exact Nat.le_refl _
    have e1 := Rd.take_len (Rd.mk r.u (r.L ++ [⟨0, 0, []⟩]) r.bad)
    replace e1 : (Rd.mk r.u (r.L ++ [⟨0, 0, []⟩]) r.bad).take.2.u.length ≤ r.u.length := e1
    generalize e0 : Rd.mk r.u (r.L ++ [⟨0, 0, []⟩]) r.bad = r0 at e1
    replace e0 := e0.symm
    have fu : ∀ (r : Rd) (i : Nat) (x : Nd), (r.fin i x).u = r.u := fun _ _ _ => rfl
    by_cases c1 : r0.take.1 = 84
    · rw [Rd.form_84 q e0 c1, fu]; exact e1
    by_cases c2 : r0.take.1 = 70
    · rw [Rd.form_70 q e0 c2, fu]; exact e1
    have d4 := Rd.dg_len r0.take.2 4
    by_cases c3 : r0.take.1 = 82
    · rw [Rd.form_82 q e0 c3, fu]
      unfold Rd.argu
      dsimp only
      have w1 := Rd.want_len (r0.take.2.dg 4).2 40
      have w2 := Rd.vars_u ((r0.take.2.dg 4).2.want 40).u.length ((r0.take.2.dg 4).2.want 40) []
      have w3 := Rd.want_len (((r0.take.2.dg 4).2.want 40).vars ((r0.take.2.dg 4).2.want 40).u.length []).1 41
      omega
    by_cases c4 : r0.take.1 = 118
    · rw [Rd.form_118 q e0 c4, fu]
      have w1 := Rd.want_len (r0.take.2.dg 4).2 61
      have w2 := Rd.var_len ((r0.take.2.dg 4).2.want 61)
      omega
    have d3 := Rd.dg_len r0.take.2 3
    have w3 := Rd.want_len (r0.take.2.dg 3).2 46
    have h2 := Rd.form_len n ((r0.take.2.dg 3).2.want 46)
    by_cases c5 : r0.take.1 = 69
    · rw [Rd.form_69 q e0 c5, fu]; omega
    by_cases c6 : r0.take.1 = 65
    · rw [Rd.form_65 q e0 c6, fu]; omega
    by_cases c7 : r0.take.1 = 40
    · have h3 := Rd.form_len n r0.take.2
      have h4 := Rd.conn_len (Rd.form n r0.take.2)
      have h5 := Rd.form_len n (Rd.form n r0.take.2).conn.2
      have h6 := Rd.want_len (Rd.form n (Rd.form n r0.take.2).conn.2) 41
      rw [Rd.form_40c q e0 c7, fu]; omega
    · rw [Rd.form_no q e0 (by omega), fu]; exact e1
end Go.GL
