/- The functor that takes everything to one object. No condition but those of each statement. -/
import Derived.Test.YtpmjlhbglcaokaaZ10
namespace Go.Proofs.Ytpmjlhbglcaokaa
open Go Go.GL Go.RowKit Go.Proofs
theorem bt_32_Hj : buildT Try.prog 32 = some ([.int .i64 0, .slice none 0 0, .slice none 0 0, .slice none 0 0, .slice none 0 0], [(0, 1), (1, 1), (2, 1), (3, 1), (4, 1)]) := by kernel_rfl
theorem bt_34_Hj : buildT Try.prog 34 = some ([.int .i64 0, .slice none 0 0, .slice none 0 0, .slice none 0 0, .slice none 0 0, .int .i64 0, .slice none 0 0, .slice none 0 0, .slice none 0 0, .slice none 0 0, .slice none 0 0, .slice none 0 0], [(0, 5), (5, 5), (10, 1), (11, 1)]) := by kernel_rfl
set_option maxHeartbeats 4000000 in
theorem l01Own2Z_c {a : Option Addr} {pss : List (List Int)} {r : Nat → Option Addr} {H : GHeap} (h : Intss H a pss r := by assumption) (hl : pss.length ≤ 1048576 := by omega) (hl2 : ∀ i, (pss.getD i []).length ≤ 1048576) :
    GCalls Try.prog 113 [.slice a pss.length pss.length] H (NewIntss H pss) := by
  refine GCalls.body (N := 21) (rs := [.tmp 2]) Try.func113 rfl rfl rfl rfl (fun Qx hret hend => ?_)
  refine .forget (fr' := [(0, some _)]) ⟨rfl, trivial⟩ ?_
  have hle := GHeap.Le.refl H
  have base_h := h
  refine .seq (fun K1 hK1 => ?_)
  refine .region (.m rfl rfl rfl (.assign rfl) (.nil ?_))
  refine hK1 _ _ ?_
  refine .seq (fun K2 hK2 => ?_)
  refine .region ?_
  refine .r rfl rfl rfl (.litR rfl sl_23_B ze_22_E rfl rfl (by omega) (by omega) rfl rfl) ?_
  rintro _ H5 ⟨g5, rfl, le5, ge5, at5⟩
  have nx_H5 := le5.1
  replace hle := hle.trans le5
  have lt_at5 := GHeap.lt_of_get at5
  replace h := base_h.mono hle
  refine .m rfl rfl rfl (.assign rfl) (.nil ?_)
  refine hK2 _ _ ?_
  refine .seq (fun K3 hK3 => ?_)
  refine .seq (fun K4 hK4 => ?_)
  refine .region (.m rfl rfl rfl (.assign rfl) (.nil ?_))
  refine hK4 _ _ ?_
  refine .block ?_
  refine .loopR (σ := Nat × (Nat → Option Addr) × Nat × Nat) [(0, some _)] (fun (i, rr, gL3, nL3) => [(4, some (.int .i64 (i : Int))), (3, some (.slice (some ⟨gL3, 0, none⟩) nL3 nL3))]) (fun (i, rr, gL3, nL3) H' => St [g5] H5 H' ∧ H'.get gL3 = some (.row ((slsL rr (pss.take i))) 22 true) ∧ (gL3 = g5 ∨ H5.next ≤ gL3) ∧ nL3 = (slsL rr (pss.take i)).length ∧ i ≤ pss.length ∧ OwnL H.next H' 2 rr (pss.take i)) (fun (i, rr, gL3, nL3) => pss.length - i) ((0, fun _ => none, _, _)) ⟨rfl, trivial⟩ ⟨rfl, rfl, trivial⟩ ?_ ?_
  ·
   refine ⟨.refl _ _, by first | assumption | exact at5 | simpa using at5, .inl rfl, by first | rfl | assumption | simp | omega, ?_⟩
   exact ⟨by omega, .nil _ _ _ _⟩
  rintro ⟨i, rr, gL3, nL3⟩ HL1 ⟨lst1, at_L3, pl_L3, ln_L3, hI⟩ KL1 hKL1
  refine .forget (fr' := [(4, some (.int .i64 (i : Int))), (3, some (.slice (some ⟨gL3, 0, none⟩) nL3 nL3)), (0, some _)]) ⟨rfl, rfl, rfl, trivial⟩ ?_
  have ge_L3 : H.next ≤ gL3 := by omega
  have nx_HL1 := lst1.nx
  replace hle := hle.st lst1 (fun k hk => ⟨by omega, trivial⟩)
  have lt_at_L3 := GHeap.lt_of_get at_L3
  replace h := base_h.mono hle
  have rk := St.refl [gL3] HL1
  obtain ⟨hi, hR⟩ := hI
  have hat3 := at_L3
  have htk : (pss.take i).length = i := by rw [List.length_take]; omega
  have hfl : (slsL rr (pss.take i)).length = (pss.take i).length := length_slsL _ _
  have hli := hl2 i
  refine .seq (fun K5 hK5 => ?_)
  refine .seq (fun K6 hK6 => ?_)
  refine .region (.m rfl rfl rfl (.move rfl) (.m rfl rfl rfl (.move rfl) (.m rfl rfl rfl (.len sl_23_B rfl) ?_)))
  refine .m rfl rfl rfl (.cmp rfl rfl rfl) (.nil ?_)
  refine hK6 _ _ ?_
  refine .cond rfl (fun h9 => ?_) (fun h9 => ?_)
  ·
   simp only [sps] at h9
   have u1 := h.2 i (by omega)
   refine .skip ?_
   refine hK5 _ _ ?_
   refine .seq (fun K7 hK7 => ?_)
   refine .block ?_
   refine .region (.m rfl rfl rfl (.move rfl) (.m rfl rfl rfl (.move rfl) (.m rfl rfl rfl (.move rfl) ?_)))
   refine .m rfl rfl rfl (.idxN sl_23_B (Intss.sl (by assumption)) rfl rfl (by omega)) ?_
   refine .m rfl rfl rfl (.loadR on_22_B (by assumption) rfl (by omega)) ?_
   refine .call rfl rfl rfl rfl @Try.call108 rfl (l01Own_c) ?_
   rintro _ H17 ⟨le17, g17, rfl, at17, ge17⟩
   have nx_H17 := le17.1
   replace hle := hle.trans le17
   replace lst1 := lst1.le le17
   replace rk := rk.le le17
   replace at_L3 := le17.2 _ _ at_L3
   have lt_at17 := GHeap.lt_of_get at17
   replace h := base_h.mono hle
   clear u1
   have u1 := h.2 i (by omega)
   have i17 := Ints.of_get at17
   refine .r rfl rfl rfl (.litR rfl sl_23_B ze_22_E rfl rfl (by omega) (by omega) rfl rfl) ?_
   rintro _ H18 ⟨g18, rfl, le18, ge18, at18⟩
   have nx_H18 := le18.1
   replace hle := hle.trans le18
   replace lst1 := lst1.le le18
   replace rk := rk.le le18
   replace at_L3 := le18.2 _ _ at_L3
   replace at17 := le18.2 _ _ at17
   have lt_at18 := GHeap.lt_of_get at18
   replace h := base_h.mono hle
   clear u1
   have u1 := h.2 i (by omega)
   clear i17
   have i17 := Ints.of_get at17
   refine .r rfl rfl rfl (.appendV rfl sl_23_B ze_22_E rfl by_22_E sl_23_B rfl rfl (by assumption) (by assumption) (by first | omega | (simp <;> omega)) rfl rfl (by omega) (by omega)) ?_
   rintro _ H19 ⟨g19, rfl, st19, ge19, at19⟩
   have nx_H19 := st19.nx
   replace hle := hle.st st19 (fun k hk => ⟨by omega, trivial⟩)
   replace lst1 := lst1.st st19 (fun k hk ho => by simp only [out, and_true] at ho ⊢ <;> omega)
   replace rk := rk.st st19 (fun k hk ho => by simp only [out, and_true] at ho ⊢ <;> omega)
   replace at17 := st19.same _ _ ⟨by omega, trivial⟩ at17
   replace at18 := st19.same _ _ ⟨by omega, trivial⟩ at18
   have lt_at19 := GHeap.lt_of_get at19
   replace h := base_h.mono hle
   clear u1
   have u1 := h.2 i (by omega)
   clear i17
   have i17 := Ints.of_get at17
   refine .m rfl rfl rfl (.assign rfl) (.nil ?_)
   refine hK7 _ _ ?_
   refine .region (.m rfl rfl rfl (.move rfl) ?_)
   refine .m rfl rfl rfl (.add rfl rfl rfl (by omega) (by omega)) ?_
   refine .m rfl rfl rfl (.assign rfl) (.nil ?_)
   refine hKL1 ((i + 1, upd rr (pss.take i).length (some ⟨g17, 0, none⟩), _, _)) _ _ ?_ ?_ ⟨rfl, rfl, rfl, trivial⟩
   ·
    refine ⟨lst1, by first | assumption | (rw [take_snocZ (by omega), slsL_snoc]; assumption), by omega, by first | omega | (simp only [List.length_append, List.length_cons, List.length_nil] <;> omega) | (rw [take_snocZ (by omega), slsL_snoc] <;> (first | omega | (simp only [List.length_append, List.length_cons, List.length_nil] <;> omega))), ?_⟩
    exact ⟨by omega, by rw [take_snocZ (by omega)]; exact hR.snoc (x := pss.getD i []) (rk.lasts1 hat3 rfl) (by assumption) (by omega) (by omega)⟩
   (dsimp only; omega)
  try simp only [sps] at h9
  refine .exit ?_
  refine hK3 _ _ ?_
  refine .seq (fun K8 hK8 => ?_)
  refine .region (.m rfl rfl rfl (.move rfl) (.m rfl rfl rfl (.assign rfl) (.nil ?_)))
  refine hK8 _ _ ?_
  refine .ret ?_
  refine hret _ _ ?_
  refine ⟨_, rfl, ?_⟩
  obtain rfl : i = pss.length := by omega
  rw [List.take_length] at hR at_L3 ln_L3
  exact ⟨hle, _, rr, by rw [ln_L3, length_slsL], (hR.done at_L3 (by omega)).1.resolve_left (fun h => by cases h.2)⟩
set_option maxHeartbeats 4000000 in
theorem l02Own_c {c : Cat} {p : CatP} {H : GHeap} (hin : c.In H p := by assumption) (hs : c.Small := by assumption) :
    GCalls Try.prog 109 [.agg (c.cells p).toArray] H (NewCat H c) := by
  obtain ⟨n1, n2, n3, n4, n5, n6⟩ := hs
  refine GCalls.body (N := 18) (rs := [.cell 2 32]) Try.func109 rfl rfl rfl rfl (fun Qx hret hend => ?_)
  refine .forget (fr' := [(0, some _)]) ⟨rfl, trivial⟩ ?_
  have hle := GHeap.Le.refl H
  have base_hin := hin
  refine .seq (fun K1 hK1 => ?_)
  refine .region ?_
  refine .r rfl rfl rfl (.boxR rfl sz_32_D rfl) ?_
  rintro _ H1 ⟨g1, rfl, le1, ge1, at1⟩
  have nx_H1 := le1.1
  replace hle := hle.trans le1
  have lt_at1 := GHeap.lt_of_get at1
  replace hin := base_hin.mono hle
  have hb1 : Cat.At _ g1 0 c p := ⟨Mem.of_get at1, hin⟩
  obtain ⟨c01, c11, c21, c31, c41, i11, i21, i31, i41⟩ := hb1.get
  have hm1 : MemN _ _ _ _ _ := ⟨rfl, hb1.1⟩
  have hi1 := hb1.2
  refine .r rfl rfl rfl (.allocR rfl ze_32_E rfl) ?_
  rintro _ H2 ⟨g2, rfl, le2, ge2, at2⟩
  have nx_H2 := le2.1
  replace hle := hle.trans le2
  replace at1 := le2.2 _ _ at1
  have lt_at2 := GHeap.lt_of_get at2
  replace hin := base_hin.mono hle
  clear hb1 c01 c11 c21 c31 c41 i11 i21 i31 i41 hm1 hi1
  have hb1 : Cat.At _ g1 0 c p := ⟨Mem.of_get at1, hin⟩
  obtain ⟨c01, c11, c21, c31, c41, i11, i21, i31, i41⟩ := hb1.get
  have hm1 : MemN _ _ _ _ _ := ⟨rfl, hb1.1⟩
  have hi1 := hb1.2
  refine .nil ?_
  refine hK1 _ _ ?_
  refine .seq (fun K2 hK2 => ?_)
  refine .regionD mixed_orders_B (.q 0 (.q 1 (.q 2 (.q 3 (.q 5 (.q 6 (.q 8 (.q 9 (.q 11 (.q 12 (.c 4 1 (.c 7 1 (.c 10 1 (.c 13 1 (.q 14 (.c 15 0 (.done))))))))))))))))) (by kernel_rfl) ?_
  refine .m rfl rfl rfl rfl (.refl _) (.fieldAddr fo_32_0_B rfl) ?_
  refine .m rfl rfl rfl rfl (.refl _) (.load on_2_A rfl (by first | assumption | exact Mem.of_get at1 0 _ rfl)) ?_
  refine .m rfl rfl rfl rfl (.refl _) (.fieldAddr fo_32_1_B rfl) ?_
  refine .m rfl rfl rfl rfl (.refl _) (.load on_22_B rfl (by first | assumption | exact Mem.of_get at1 1 _ rfl)) ?_
  refine .m rfl rfl rfl rfl (.refl _) (.fieldAddr fo_32_2_B rfl) ?_
  refine .m rfl rfl rfl rfl (.refl _) (.load on_22_B rfl (by first | assumption | exact Mem.of_get at1 2 _ rfl)) ?_
  refine .m rfl rfl rfl rfl (.refl _) (.fieldAddr fo_32_3_B rfl) ?_
  refine .m rfl rfl rfl rfl (.refl _) (.load on_22_B rfl (by first | assumption | exact Mem.of_get at1 3 _ rfl)) ?_
  refine .m rfl rfl rfl rfl (.refl _) (.fieldAddr fo_32_4_B rfl) ?_
  refine .m rfl rfl rfl rfl (.refl _) (.load on_23_B rfl (by first | assumption | exact Mem.of_get at1 4 _ rfl)) ?_
  refine .call1 rfl rfl rfl rfl rfl @Try.call108 rfl (l01Own_c) ?_
  rintro _ H7 ⟨le7, g7, rfl, at7, ge7⟩
  have hbl := le7
  refine ⟨hbl, ?_⟩
  have nx_H7 := le7.1
  replace hle := hle.trans le7
  replace at1 := le7.2 _ _ at1
  replace at2 := le7.2 _ _ at2
  have lt_at7 := GHeap.lt_of_get at7
  replace hin := base_hin.mono hle
  clear hb1 c01 c11 c21 c31 c41 i11 i21 i31 i41 hm1 hi1
  have hb1 : Cat.At _ g1 0 c p := ⟨Mem.of_get at1, hin⟩
  obtain ⟨c01, c11, c21, c31, c41, i11, i21, i31, i41⟩ := hb1.get
  have hm1 : MemN _ _ _ _ _ := ⟨rfl, hb1.1⟩
  have hi1 := hb1.2
  have i7 := Ints.of_get at7
  refine .call1 rfl rfl rfl rfl rfl @Try.call108 rfl (l01Own_c) ?_
  rintro _ H10 ⟨le10, g10, rfl, at10, ge10⟩
  replace hbl := hbl.trans le10
  refine ⟨hbl, ?_⟩
  have nx_H10 := le10.1
  replace hle := hle.trans le10
  replace at1 := le10.2 _ _ at1
  replace at2 := le10.2 _ _ at2
  replace at7 := le10.2 _ _ at7
  have lt_at10 := GHeap.lt_of_get at10
  replace hin := base_hin.mono hle
  clear hb1 c01 c11 c21 c31 c41 i11 i21 i31 i41 hm1 hi1
  have hb1 : Cat.At _ g1 0 c p := ⟨Mem.of_get at1, hin⟩
  obtain ⟨c01, c11, c21, c31, c41, i11, i21, i31, i41⟩ := hb1.get
  have hm1 : MemN _ _ _ _ _ := ⟨rfl, hb1.1⟩
  have hi1 := hb1.2
  clear i7
  have i7 := Ints.of_get at7
  have i10 := Ints.of_get at10
  refine .call1 rfl rfl rfl rfl rfl @Try.call108 rfl (l01Own_c) ?_
  rintro _ H13 ⟨le13, g13, rfl, at13, ge13⟩
  replace hbl := hbl.trans le13
  refine ⟨hbl, ?_⟩
  have nx_H13 := le13.1
  replace hle := hle.trans le13
  replace at1 := le13.2 _ _ at1
  replace at2 := le13.2 _ _ at2
  replace at7 := le13.2 _ _ at7
  replace at10 := le13.2 _ _ at10
  have lt_at13 := GHeap.lt_of_get at13
  replace hin := base_hin.mono hle
  clear hb1 c01 c11 c21 c31 c41 i11 i21 i31 i41 hm1 hi1
  have hb1 : Cat.At _ g1 0 c p := ⟨Mem.of_get at1, hin⟩
  obtain ⟨c01, c11, c21, c31, c41, i11, i21, i31, i41⟩ := hb1.get
  have hm1 : MemN _ _ _ _ _ := ⟨rfl, hb1.1⟩
  have hi1 := hb1.2
  clear i7
  have i7 := Ints.of_get at7
  clear i10
  have i10 := Ints.of_get at10
  have i13 := Ints.of_get at13
  refine .call1 rfl rfl rfl rfl rfl @Try.call113 rfl (l01Own2Z_c (hl2 := n5)) ?_
  rintro _ H16 ⟨le16, a16, r16, rfl, v16⟩
  replace hbl := hbl.trans le16
  refine ⟨hbl, ?_⟩
  have nx_H16 := le16.1
  replace hle := hle.trans le16
  replace at1 := le16.2 _ _ at1
  replace at2 := le16.2 _ _ at2
  replace at7 := le16.2 _ _ at7
  replace at10 := le16.2 _ _ at10
  replace at13 := le16.2 _ _ at13
  have bs_v16 := v16
  have lv_v16 : Keep H13.next H16 H16 := fun _ _ _ h => h
  replace hin := base_hin.mono hle
  clear hb1 c01 c11 c21 c31 c41 i11 i21 i31 i41 hm1 hi1
  have hb1 : Cat.At _ g1 0 c p := ⟨Mem.of_get at1, hin⟩
  obtain ⟨c01, c11, c21, c31, c41, i11, i21, i31, i41⟩ := hb1.get
  have hm1 : MemN _ _ _ _ _ := ⟨rfl, hb1.1⟩
  have hi1 := hb1.2
  clear i7
  have i7 := Ints.of_get at7
  clear i10
  have i10 := Ints.of_get at10
  clear i13
  have i13 := Ints.of_get at13
  have i16 := v16.intss
  refine .m rfl rfl rfl rfl hbl (.build bt_32_Hj rfl rfl rfl) ?_
  refine .r0 rfl rfl rfl (.fillR rfl sz_32_D rfl rfl rfl rfl (by assumption) (by first | rfl | exact Nat.le_of_ble_eq_true rfl | simp)) ?_
  rintro _ H1015 ⟨rfl, st1015, at1015⟩
  have nx_H1015 := st1015.nx
  replace hle := hle.st st1015 (fun k hk => ⟨by omega, trivial⟩)
  replace at1 := st1015.same _ _ ⟨by omega, trivial⟩ at1
  replace at7 := st1015.same _ _ ⟨by omega, trivial⟩ at7
  replace at10 := st1015.same _ _ ⟨by omega, trivial⟩ at10
  replace at13 := st1015.same _ _ ⟨by omega, trivial⟩ at13
  replace lv_v16 := Keep.st lv_v16 st1015 (fun k hb hk => ⟨by omega, trivial⟩)
  replace v16 := bs_v16.keep lv_v16 (Nat.le_refl _)
  have lt_at1015 := GHeap.lt_of_get at1015
  replace hin := base_hin.mono hle
  clear hb1 c01 c11 c21 c31 c41 i11 i21 i31 i41 hm1 hi1
  have hb1 : Cat.At _ g1 0 c p := ⟨Mem.of_get at1, hin⟩
  obtain ⟨c01, c11, c21, c31, c41, i11, i21, i31, i41⟩ := hb1.get
  have hm1 : MemN _ _ _ _ _ := ⟨rfl, hb1.1⟩
  have hi1 := hb1.2
  clear i7
  have i7 := Ints.of_get at7
  clear i10
  have i10 := Ints.of_get at10
  clear i13
  have i13 := Ints.of_get at13
  clear i16
  have i16 := v16.intss
  have mm1015 : MemN _ _ _ _ _ := ⟨rfl, Mem.of_get at1015⟩
  refine .done ?_
  refine hK2 _ _ ?_
  refine .ret ?_
  refine hret _ _ ?_
  refine ⟨_, _, _, _, rfl, ag_32_D, (by rfl), (Mem.of_get at1015), ?_⟩
  exact ⟨hle, ⟨some ⟨g7, 0, none⟩, some ⟨g10, 0, none⟩, some ⟨g13, 0, none⟩, a16, r16⟩, rfl, ⟨g7, _, rfl, by omega, at7⟩, ⟨g10, _, rfl, by omega, at10⟩, ⟨g13, _, rfl, by omega, at13⟩, v16.keep (.of_le (.refl _)) (by omega)⟩
theorem fu_build {c d : Cat} {p q : CatP} {a b : Option Addr} {n m : Nat} : fillL ([(0, 5), (5, 5), (10, 1), (11, 1)][·]?) [.int .i64 0, .slice none 0 0, .slice none 0 0, .slice none 0 0, .slice none 0 0, .int .i64 0, .slice none 0 0, .slice none 0 0, .slice none 0 0, .slice none 0 0, .slice none 0 0, .slice none 0 0] [(0, .agg (c.cells p).toArray), (1, .agg (d.cells q).toArray), (2, .slice a n n), (3, .slice b m m)] = some (c.cells p ++ (d.cells q ++ [.slice a n n, .slice b m m])) := by kernel_rfl
set_option maxHeartbeats 4000000 in
theorem l06Make_c {c d : Cat} {p q : CatP} {a b : Option Addr} {xs ys : List Int} {H : GHeap} (hin : c.In H p) (hin1 : d.In H q) (hx : Ints H a xs) (hy : Ints H b ys) (hs : c.Small) (hs1 : d.Small) (hl : xs.length ≤ 1048576) (hl2 : ys.length ≤ 1048576) :
    GCalls Try.prog 100 [.agg (c.cells p).toArray, .agg (d.cells q).toArray, .slice a xs.length xs.length, .slice b ys.length ys.length] H (NewFun H ⟨c, d, xs, ys⟩) := by
  refine GCalls.body (N := 18) (rs := [.cell 8 34]) Try.func100 rfl rfl rfl rfl (fun Qx hret hend => ?_)
  refine .forget (fr' := [(0, some _), (1, some _), (2, some _), (3, some _)]) ⟨rfl, rfl, rfl, rfl, trivial⟩ ?_
  have hle := GHeap.Le.refl H
  have base_hin := hin
  have base_hin1 := hin1
  have base_hx := hx
  have base_hy := hy
  refine .seq (fun K1 hK1 => ?_)
  refine .region ?_
  refine .r rfl rfl rfl (.boxR rfl sz_32_D rfl) ?_
  rintro _ H4 ⟨g4, rfl, le4, ge4, at4⟩
  have nx_H4 := le4.1
  replace hle := hle.trans le4
  have lt_at4 := GHeap.lt_of_get at4
  replace hin := base_hin.mono hle
  replace hin1 := base_hin1.mono hle
  replace hx := base_hx.mono hle
  replace hy := base_hy.mono hle
  have hb4 : Cat.At _ g4 0 c p := ⟨Mem.of_get at4, hin⟩
  obtain ⟨c04, c14, c24, c34, c44, i14, i24, i34, i44⟩ := hb4.get
  have hm4 : MemN _ _ _ _ _ := ⟨rfl, hb4.1⟩
  have hi4 := hb4.2
  refine .r rfl rfl rfl (.boxR rfl sz_32_D rfl) ?_
  rintro _ H5 ⟨g5, rfl, le5, ge5, at5⟩
  have nx_H5 := le5.1
  replace hle := hle.trans le5
  replace at4 := le5.2 _ _ at4
  have lt_at5 := GHeap.lt_of_get at5
  replace hin := base_hin.mono hle
  replace hin1 := base_hin1.mono hle
  replace hx := base_hx.mono hle
  replace hy := base_hy.mono hle
  clear hb4 c04 c14 c24 c34 c44 i14 i24 i34 i44 hm4 hi4
  have hb4 : Cat.At _ g4 0 c p := ⟨Mem.of_get at4, hin⟩
  obtain ⟨c04, c14, c24, c34, c44, i14, i24, i34, i44⟩ := hb4.get
  have hm4 : MemN _ _ _ _ _ := ⟨rfl, hb4.1⟩
  have hi4 := hb4.2
  have hb5 : Cat.At _ g5 0 d q := ⟨Mem.of_get at5, hin1⟩
  obtain ⟨c05, c15, c25, c35, c45, i15, i25, i35, i45⟩ := hb5.get
  have hm5 : MemN _ _ _ _ _ := ⟨rfl, hb5.1⟩
  have hi5 := hb5.2
  refine .r rfl rfl rfl (.allocR rfl ze_34_E rfl) ?_
  rintro _ H8 ⟨g8, rfl, le8, ge8, at8⟩
  have nx_H8 := le8.1
  replace hle := hle.trans le8
  replace at4 := le8.2 _ _ at4
  replace at5 := le8.2 _ _ at5
  have lt_at8 := GHeap.lt_of_get at8
  replace hin := base_hin.mono hle
  replace hin1 := base_hin1.mono hle
  replace hx := base_hx.mono hle
  replace hy := base_hy.mono hle
  clear hb4 c04 c14 c24 c34 c44 i14 i24 i34 i44 hm4 hi4
  have hb4 : Cat.At _ g4 0 c p := ⟨Mem.of_get at4, hin⟩
  obtain ⟨c04, c14, c24, c34, c44, i14, i24, i34, i44⟩ := hb4.get
  have hm4 : MemN _ _ _ _ _ := ⟨rfl, hb4.1⟩
  have hi4 := hb4.2
  clear hb5 c05 c15 c25 c35 c45 i15 i25 i35 i45 hm5 hi5
  have hb5 : Cat.At _ g5 0 d q := ⟨Mem.of_get at5, hin1⟩
  obtain ⟨c05, c15, c25, c35, c45, i15, i25, i35, i45⟩ := hb5.get
  have hm5 : MemN _ _ _ _ _ := ⟨rfl, hb5.1⟩
  have hi5 := hb5.2
  refine .nil ?_
  refine hK1 _ _ ?_
  refine .seq (fun K2 hK2 => ?_)
  refine .regionD mixed_orders_B (.q 0 (.q 2 (.q 4 (.q 6 (.c 1 1 (.c 3 1 (.c 5 1 (.c 7 0 (.q 8 (.c 9 0 (.done))))))))))) (by kernel_rfl) ?_
  refine .m rfl rfl rfl rfl (.refl _) (.loadM ag_32_D rfl ⟨rfl, Mem.of_get at4⟩) ?_
  refine .m rfl rfl rfl rfl (.refl _) (.loadM ag_32_D rfl ⟨rfl, Mem.of_get at5⟩) ?_
  refine .m rfl rfl rfl rfl (.refl _) (.move rfl) (.m rfl rfl rfl rfl (.refl _) (.move rfl) ?_)
  refine .call1 rfl rfl rfl rfl rfl @Try.call109 rfl (l02Own_c (c := c)) ?_
  rintro _ H10 ⟨le10, p10, rfl, v10⟩
  have hbl := le10
  refine ⟨hbl, ?_⟩
  have nx_H10 := le10.1
  replace hle := hle.trans le10
  replace at4 := le10.2 _ _ at4
  replace at5 := le10.2 _ _ at5
  replace at8 := le10.2 _ _ at8
  have bs_v10 := v10
  have lv_v10 : Keep H8.next H10 H10 := fun _ _ _ h => h
  replace hin := base_hin.mono hle
  replace hin1 := base_hin1.mono hle
  replace hx := base_hx.mono hle
  replace hy := base_hy.mono hle
  clear hb4 c04 c14 c24 c34 c44 i14 i24 i34 i44 hm4 hi4
  have hb4 : Cat.At _ g4 0 c p := ⟨Mem.of_get at4, hin⟩
  obtain ⟨c04, c14, c24, c34, c44, i14, i24, i34, i44⟩ := hb4.get
  have hm4 : MemN _ _ _ _ _ := ⟨rfl, hb4.1⟩
  have hi4 := hb4.2
  clear hb5 c05 c15 c25 c35 c45 i15 i25 i35 i45 hm5 hi5
  have hb5 : Cat.At _ g5 0 d q := ⟨Mem.of_get at5, hin1⟩
  obtain ⟨c05, c15, c25, c35, c45, i15, i25, i35, i45⟩ := hb5.get
  have hm5 : MemN _ _ _ _ _ := ⟨rfl, hb5.1⟩
  have hi5 := hb5.2
  have i10 := v10.inn
  refine .call1 rfl rfl rfl rfl rfl @Try.call109 rfl (l02Own_c (c := d)) ?_
  rintro _ H12 ⟨le12, p12, rfl, v12⟩
  replace hbl := hbl.trans le12
  refine ⟨hbl, ?_⟩
  have nx_H12 := le12.1
  replace hle := hle.trans le12
  replace at4 := le12.2 _ _ at4
  replace at5 := le12.2 _ _ at5
  replace at8 := le12.2 _ _ at8
  replace lv_v10 := Keep.le lv_v10 le12
  replace v10 := bs_v10.keep lv_v10 (Nat.le_refl _)
  have bs_v12 := v12
  have lv_v12 : Keep H10.next H12 H12 := fun _ _ _ h => h
  replace hin := base_hin.mono hle
  replace hin1 := base_hin1.mono hle
  replace hx := base_hx.mono hle
  replace hy := base_hy.mono hle
  clear hb4 c04 c14 c24 c34 c44 i14 i24 i34 i44 hm4 hi4
  have hb4 : Cat.At _ g4 0 c p := ⟨Mem.of_get at4, hin⟩
  obtain ⟨c04, c14, c24, c34, c44, i14, i24, i34, i44⟩ := hb4.get
  have hm4 : MemN _ _ _ _ _ := ⟨rfl, hb4.1⟩
  have hi4 := hb4.2
  clear hb5 c05 c15 c25 c35 c45 i15 i25 i35 i45 hm5 hi5
  have hb5 : Cat.At _ g5 0 d q := ⟨Mem.of_get at5, hin1⟩
  obtain ⟨c05, c15, c25, c35, c45, i15, i25, i35, i45⟩ := hb5.get
  have hm5 : MemN _ _ _ _ _ := ⟨rfl, hb5.1⟩
  have hi5 := hb5.2
  clear i10
  have i10 := v10.inn
  have i12 := v12.inn
  refine .call1 rfl rfl rfl rfl rfl @Try.call108 rfl (l01Own_c hx) ?_
  rintro _ H14 ⟨le14, g14, rfl, at14, ge14⟩
  replace hbl := hbl.trans le14
  refine ⟨hbl, ?_⟩
  have nx_H14 := le14.1
  replace hle := hle.trans le14
  replace at4 := le14.2 _ _ at4
  replace at5 := le14.2 _ _ at5
  replace at8 := le14.2 _ _ at8
  replace lv_v10 := Keep.le lv_v10 le14
  replace v10 := bs_v10.keep lv_v10 (Nat.le_refl _)
  replace lv_v12 := Keep.le lv_v12 le14
  replace v12 := bs_v12.keep lv_v12 (Nat.le_refl _)
  have lt_at14 := GHeap.lt_of_get at14
  replace hin := base_hin.mono hle
  replace hin1 := base_hin1.mono hle
  replace hx := base_hx.mono hle
  replace hy := base_hy.mono hle
  clear hb4 c04 c14 c24 c34 c44 i14 i24 i34 i44 hm4 hi4
  have hb4 : Cat.At _ g4 0 c p := ⟨Mem.of_get at4, hin⟩
  obtain ⟨c04, c14, c24, c34, c44, i14, i24, i34, i44⟩ := hb4.get
  have hm4 : MemN _ _ _ _ _ := ⟨rfl, hb4.1⟩
  have hi4 := hb4.2
  clear hb5 c05 c15 c25 c35 c45 i15 i25 i35 i45 hm5 hi5
  have hb5 : Cat.At _ g5 0 d q := ⟨Mem.of_get at5, hin1⟩
  obtain ⟨c05, c15, c25, c35, c45, i15, i25, i35, i45⟩ := hb5.get
  have hm5 : MemN _ _ _ _ _ := ⟨rfl, hb5.1⟩
  have hi5 := hb5.2
  clear i10
  have i10 := v10.inn
  clear i12
  have i12 := v12.inn
  have i14 := Ints.of_get at14
  refine .call0 rfl rfl rfl rfl rfl @Try.call108 rfl (l01Own_c hy) ?_
  rintro _ H16 ⟨le16, g16, rfl, at16, ge16⟩
  have nx_H16 := le16.1
  replace hle := hle.trans le16
  replace at4 := le16.2 _ _ at4
  replace at5 := le16.2 _ _ at5
  replace at8 := le16.2 _ _ at8
  replace at14 := le16.2 _ _ at14
  replace lv_v10 := Keep.le lv_v10 le16
  replace v10 := bs_v10.keep lv_v10 (Nat.le_refl _)
  replace lv_v12 := Keep.le lv_v12 le16
  replace v12 := bs_v12.keep lv_v12 (Nat.le_refl _)
  have lt_at16 := GHeap.lt_of_get at16
  replace hin := base_hin.mono hle
  replace hin1 := base_hin1.mono hle
  replace hx := base_hx.mono hle
  replace hy := base_hy.mono hle
  clear hb4 c04 c14 c24 c34 c44 i14 i24 i34 i44 hm4 hi4
  have hb4 : Cat.At _ g4 0 c p := ⟨Mem.of_get at4, hin⟩
  obtain ⟨c04, c14, c24, c34, c44, i14, i24, i34, i44⟩ := hb4.get
  have hm4 : MemN _ _ _ _ _ := ⟨rfl, hb4.1⟩
  have hi4 := hb4.2
  clear hb5 c05 c15 c25 c35 c45 i15 i25 i35 i45 hm5 hi5
  have hb5 : Cat.At _ g5 0 d q := ⟨Mem.of_get at5, hin1⟩
  obtain ⟨c05, c15, c25, c35, c45, i15, i25, i35, i45⟩ := hb5.get
  have hm5 : MemN _ _ _ _ _ := ⟨rfl, hb5.1⟩
  have hi5 := hb5.2
  clear i10
  have i10 := v10.inn
  clear i12
  have i12 := v12.inn
  clear i14
  have i14 := Ints.of_get at14
  have i16 := Ints.of_get at16
  refine .m rfl rfl rfl rfl (.refl _) (.build bt_34_Hj rfl rfl fu_build) ?_
  refine .r0 rfl rfl rfl (.fillR rfl sz_34_E rfl rfl rfl rfl (by assumption) (by first | rfl | exact Nat.le_of_ble_eq_true rfl | simp)) ?_
  rintro _ H1009 ⟨rfl, st1009, at1009⟩
  have nx_H1009 := st1009.nx
  replace hle := hle.st st1009 (fun k hk => ⟨by omega, trivial⟩)
  replace at4 := st1009.same _ _ ⟨by omega, trivial⟩ at4
  replace at5 := st1009.same _ _ ⟨by omega, trivial⟩ at5
  replace at14 := st1009.same _ _ ⟨by omega, trivial⟩ at14
  replace at16 := st1009.same _ _ ⟨by omega, trivial⟩ at16
  replace lv_v10 := Keep.st lv_v10 st1009 (fun k hb hk => ⟨by omega, trivial⟩)
  replace v10 := bs_v10.keep lv_v10 (Nat.le_refl _)
  replace lv_v12 := Keep.st lv_v12 st1009 (fun k hb hk => ⟨by omega, trivial⟩)
  replace v12 := bs_v12.keep lv_v12 (Nat.le_refl _)
  have lt_at1009 := GHeap.lt_of_get at1009
  replace hin := base_hin.mono hle
  replace hin1 := base_hin1.mono hle
  replace hx := base_hx.mono hle
  replace hy := base_hy.mono hle
  clear hb4 c04 c14 c24 c34 c44 i14 i24 i34 i44 hm4 hi4
  have hb4 : Cat.At _ g4 0 c p := ⟨Mem.of_get at4, hin⟩
  obtain ⟨c04, c14, c24, c34, c44, i14, i24, i34, i44⟩ := hb4.get
  have hm4 : MemN _ _ _ _ _ := ⟨rfl, hb4.1⟩
  have hi4 := hb4.2
  clear hb5 c05 c15 c25 c35 c45 i15 i25 i35 i45 hm5 hi5
  have hb5 : Cat.At _ g5 0 d q := ⟨Mem.of_get at5, hin1⟩
  obtain ⟨c05, c15, c25, c35, c45, i15, i25, i35, i45⟩ := hb5.get
  have hm5 : MemN _ _ _ _ _ := ⟨rfl, hb5.1⟩
  have hi5 := hb5.2
  clear i10
  have i10 := v10.inn
  clear i12
  have i12 := v12.inn
  clear i14
  have i14 := Ints.of_get at14
  clear i16
  have i16 := Ints.of_get at16
  have mm1009 : MemN _ _ _ _ _ := ⟨rfl, Mem.of_get at1009⟩
  refine .done ?_
  refine hK2 _ _ ?_
  refine .ret ?_
  refine hret _ _ ?_
  refine ⟨_, _, _, _, rfl, ag_34_E, (by rfl), (Mem.of_get at1009), ?_⟩
  exact ⟨hle, ⟨p10, p12, some ⟨g14, 0, none⟩, some ⟨g16, 0, none⟩⟩, rfl, v10.keep (.of_le (.refl _)) (by omega), v12.keep (.of_le (.refl _)) (by omega), ⟨g14, _, rfl, by omega, at14⟩, ⟨g16, _, rfl, by omega, at16⟩⟩
set_option maxHeartbeats 4000000 in
theorem l06Constant_c {d : Fun} {p : FunP} {y : Nat} {H : GHeap} (hin : d.In H p) (hs : d.Small) (hI : d.Is) (hy : (y : Int) < d.t.obj) :
    GCalls Try.prog 90 [.agg (d.s.cells p.s).toArray, .agg (d.t.cells p.t).toArray, .int .i64 (y : Int)] H (NewFun H (d.con y)) := by
  have h1 := hI.1.1.obj
  have h2 := hI.1.1.n40
  have h3 := hI.2.1.1.il
  have i1 := hin.1
  have i2 := hin.2.1
  have s1 := hs.1
  have s2 := hs.2.1
  refine GCalls.body (N := 43) (rs := [.cell 6 34]) Try.func90 rfl rfl rfl rfl (fun Qx hret hend => ?_)
  refine .forget (fr' := [(0, some _), (1, some _), (2, some _)]) ⟨rfl, rfl, rfl, trivial⟩ ?_
  have hle := GHeap.Le.refl H
  have base_i1 := i1
  have base_i2 := i2
  refine .seq (fun K1 hK1 => ?_)
  refine .region ?_
  refine .r rfl rfl rfl (.boxR rfl sz_32_D rfl) ?_
  rintro _ H3 ⟨g3, rfl, le3, ge3, at3⟩
  have nx_H3 := le3.1
  replace hle := hle.trans le3
  have lt_at3 := GHeap.lt_of_get at3
  replace i1 := base_i1.mono hle
  replace i2 := base_i2.mono hle
  have hb3 : Cat.At _ g3 0 d.s p.s := ⟨Mem.of_get at3, i1⟩
  obtain ⟨c03, c13, c23, c33, c43, i13, i23, i33, i43⟩ := hb3.get
  have hm3 : MemN _ _ _ _ _ := ⟨rfl, hb3.1⟩
  have hi3 := hb3.2
  refine .r rfl rfl rfl (.boxR rfl sz_32_D rfl) ?_
  rintro _ H4 ⟨g4, rfl, le4, ge4, at4⟩
  have nx_H4 := le4.1
  replace hle := hle.trans le4
  replace at3 := le4.2 _ _ at3
  have lt_at4 := GHeap.lt_of_get at4
  replace i1 := base_i1.mono hle
  replace i2 := base_i2.mono hle
  clear hb3 c03 c13 c23 c33 c43 i13 i23 i33 i43 hm3 hi3
  have hb3 : Cat.At _ g3 0 d.s p.s := ⟨Mem.of_get at3, i1⟩
  obtain ⟨c03, c13, c23, c33, c43, i13, i23, i33, i43⟩ := hb3.get
  have hm3 : MemN _ _ _ _ _ := ⟨rfl, hb3.1⟩
  have hi3 := hb3.2
  have hb4 : Cat.At _ g4 0 d.t p.t := ⟨Mem.of_get at4, i2⟩
  obtain ⟨c04, c14, c24, c34, c44, i14, i24, i34, i44⟩ := hb4.get
  have hm4 : MemN _ _ _ _ _ := ⟨rfl, hb4.1⟩
  have hi4 := hb4.2
  refine .r rfl rfl rfl (.allocR rfl ze_34_E rfl) ?_
  rintro _ H6 ⟨g6, rfl, le6, ge6, at6⟩
  have nx_H6 := le6.1
  replace hle := hle.trans le6
  replace at3 := le6.2 _ _ at3
  replace at4 := le6.2 _ _ at4
  have lt_at6 := GHeap.lt_of_get at6
  replace i1 := base_i1.mono hle
  replace i2 := base_i2.mono hle
  clear hb3 c03 c13 c23 c33 c43 i13 i23 i33 i43 hm3 hi3
  have hb3 : Cat.At _ g3 0 d.s p.s := ⟨Mem.of_get at3, i1⟩
  obtain ⟨c03, c13, c23, c33, c43, i13, i23, i33, i43⟩ := hb3.get
  have hm3 : MemN _ _ _ _ _ := ⟨rfl, hb3.1⟩
  have hi3 := hb3.2
  clear hb4 c04 c14 c24 c34 c44 i14 i24 i34 i44 hm4 hi4
  have hb4 : Cat.At _ g4 0 d.t p.t := ⟨Mem.of_get at4, i2⟩
  obtain ⟨c04, c14, c24, c34, c44, i14, i24, i34, i44⟩ := hb4.get
  have hm4 : MemN _ _ _ _ _ := ⟨rfl, hb4.1⟩
  have hi4 := hb4.2
  refine .nil ?_
  refine hK1 _ _ ?_
  refine .seq (fun K2 hK2 => ?_)
  refine .region ?_
  refine .r rfl rfl rfl (.litR rfl sl_22_A ze_2_E rfl rfl (by omega) (by omega) rfl rfl) ?_
  rintro _ H11 ⟨g11, rfl, le11, ge11, at11⟩
  have nx_H11 := le11.1
  replace hle := hle.trans le11
  replace at3 := le11.2 _ _ at3
  replace at4 := le11.2 _ _ at4
  replace at6 := le11.2 _ _ at6
  have lt_at11 := GHeap.lt_of_get at11
  replace i1 := base_i1.mono hle
  replace i2 := base_i2.mono hle
  clear hb3 c03 c13 c23 c33 c43 i13 i23 i33 i43 hm3 hi3
  have hb3 : Cat.At _ g3 0 d.s p.s := ⟨Mem.of_get at3, i1⟩
  obtain ⟨c03, c13, c23, c33, c43, i13, i23, i33, i43⟩ := hb3.get
  have hm3 : MemN _ _ _ _ _ := ⟨rfl, hb3.1⟩
  have hi3 := hb3.2
  clear hb4 c04 c14 c24 c34 c44 i14 i24 i34 i44 hm4 hi4
  have hb4 : Cat.At _ g4 0 d.t p.t := ⟨Mem.of_get at4, i2⟩
  obtain ⟨c04, c14, c24, c34, c44, i14, i24, i34, i44⟩ := hb4.get
  have hm4 : MemN _ _ _ _ _ := ⟨rfl, hb4.1⟩
  have hi4 := hb4.2
  replace at11 : GHeap.get H11 g11 = some (.row (ints []) 2 true) := at11
  refine .r rfl rfl rfl (.litR rfl sl_22_A ze_2_E rfl rfl (by omega) (by omega) rfl rfl) ?_
  rintro _ H12 ⟨g12, rfl, le12, ge12, at12⟩
  have nx_H12 := le12.1
  replace hle := hle.trans le12
  replace at3 := le12.2 _ _ at3
  replace at4 := le12.2 _ _ at4
  replace at6 := le12.2 _ _ at6
  replace at11 := le12.2 _ _ at11
  have lt_at12 := GHeap.lt_of_get at12
  replace i1 := base_i1.mono hle
  replace i2 := base_i2.mono hle
  clear hb3 c03 c13 c23 c33 c43 i13 i23 i33 i43 hm3 hi3
  have hb3 : Cat.At _ g3 0 d.s p.s := ⟨Mem.of_get at3, i1⟩
  obtain ⟨c03, c13, c23, c33, c43, i13, i23, i33, i43⟩ := hb3.get
  have hm3 : MemN _ _ _ _ _ := ⟨rfl, hb3.1⟩
  have hi3 := hb3.2
  clear hb4 c04 c14 c24 c34 c44 i14 i24 i34 i44 hm4 hi4
  have hb4 : Cat.At _ g4 0 d.t p.t := ⟨Mem.of_get at4, i2⟩
  obtain ⟨c04, c14, c24, c34, c44, i14, i24, i34, i44⟩ := hb4.get
  have hm4 : MemN _ _ _ _ _ := ⟨rfl, hb4.1⟩
  have hi4 := hb4.2
  replace at12 : GHeap.get H12 g12 = some (.row (ints []) 2 true) := at12
  refine .m rfl rfl rfl (.assign rfl) (.m rfl rfl rfl (.assign rfl) (.nil ?_))
  refine hK2 _ _ ?_
  refine .seq (fun K3 hK3 => ?_)
  refine .seq (fun K4 hK4 => ?_)
  refine .region (.m rfl rfl rfl (.assign rfl) (.nil ?_))
  refine hK4 _ _ ?_
  refine .block ?_
  refine .loopR (σ := Nat × Nat × Nat) [(2, some _), (3, some _), (4, some _), (6, some _), (8, some _)] (fun (x, gL7, nL7) => [(9, some (.int .i64 (x : Int))), (7, some (.slice (some ⟨gL7, 0, none⟩) nL7 nL7))]) (fun (x, gL7, nL7) H' => St [g11] H12 H' ∧ H'.get gL7 = some (.row (ints (List.replicate x (y : Int))) 2 true) ∧ (gL7 = g11 ∨ H12.next ≤ gL7) ∧ nL7 = (List.replicate x (y : Int)).length ∧ x ≤ d.s.obj.toNat) (fun (x, gL7, nL7) => d.s.obj.toNat - x) ((0, _, _)) ⟨rfl, rfl, rfl, rfl, rfl, trivial⟩ ⟨rfl, rfl, trivial⟩ ?_ ?_
  ·
   refine ⟨.refl _ _, by first | assumption | exact at11 | simpa using at11, .inl rfl, by first | rfl | assumption | simp | omega, ?_⟩
   omega
  rintro ⟨x, gL7, nL7⟩ HL1 ⟨lst1, at_L7, pl_L7, ln_L7, hI⟩ KL1 hKL1
  refine .forget (fr' := [(9, some (.int .i64 (x : Int))), (7, some (.slice (some ⟨gL7, 0, none⟩) nL7 nL7)), (2, some _), (3, some _), (4, some _), (6, some _), (8, some _)]) ⟨rfl, rfl, rfl, rfl, rfl, rfl, rfl, trivial⟩ ?_
  have ge_L7 : H.next ≤ gL7 := by omega
  have nx_HL1 := lst1.nx
  replace hle := hle.st lst1 (fun k hk => ⟨by omega, trivial⟩)
  replace at3 := lst1.same _ _ ⟨by omega, trivial⟩ at3
  replace at4 := lst1.same _ _ ⟨by omega, trivial⟩ at4
  replace at6 := lst1.same _ _ ⟨by omega, trivial⟩ at6
  replace at12 := lst1.same _ _ ⟨by omega, trivial⟩ at12
  have lt_at_L7 := GHeap.lt_of_get at_L7
  replace i1 := base_i1.mono hle
  replace i2 := base_i2.mono hle
  clear hb3 c03 c13 c23 c33 c43 i13 i23 i33 i43 hm3 hi3
  have hb3 : Cat.At _ g3 0 d.s p.s := ⟨Mem.of_get at3, i1⟩
  obtain ⟨c03, c13, c23, c33, c43, i13, i23, i33, i43⟩ := hb3.get
  have hm3 : MemN _ _ _ _ _ := ⟨rfl, hb3.1⟩
  have hi3 := hb3.2
  clear hb4 c04 c14 c24 c34 c44 i14 i24 i34 i44 hm4 hi4
  have hb4 : Cat.At _ g4 0 d.t p.t := ⟨Mem.of_get at4, i2⟩
  obtain ⟨c04, c14, c24, c34, c44, i14, i24, i34, i44⟩ := hb4.get
  have hm4 : MemN _ _ _ _ _ := ⟨rfl, hb4.1⟩
  have hi4 := hb4.2
  have hrl : (List.replicate x (y : Int)).length = x := List.length_replicate
  refine .seq (fun K5 hK5 => ?_)
  refine .seq (fun K6 hK6 => ?_)
  refine .region (.m rfl rfl rfl (.move rfl) (.m rfl rfl rfl (.fieldAddr fo_32_0_B rfl) ?_))
  refine .m rfl rfl rfl (.load on_2_A rfl (by first | assumption | exact Mem.of_get at3 0 _ rfl)) ?_
  refine .m rfl rfl rfl (.cmp rfl rfl rfl) (.nil ?_)
  refine hK6 _ _ ?_
  refine .cond rfl (fun h16 => ?_) (fun h16 => ?_)
  ·
   simp only [sps] at h16
   refine .skip ?_
   refine hK5 _ _ ?_
   refine .seq (fun K7 hK7 => ?_)
   refine .block ?_
   refine .region (.m rfl rfl rfl (.move rfl) (.m rfl rfl rfl (.move rfl) ?_))
   refine .r rfl rfl rfl (.litR rfl sl_22_A ze_2_E rfl rfl (by omega) (by omega) rfl rfl) ?_
   rintro _ H21 ⟨g21, rfl, le21, ge21, at21⟩
   have nx_H21 := le21.1
   replace hle := hle.trans le21
   replace lst1 := lst1.le le21
   replace at3 := le21.2 _ _ at3
   replace at4 := le21.2 _ _ at4
   replace at6 := le21.2 _ _ at6
   replace at12 := le21.2 _ _ at12
   replace at_L7 := le21.2 _ _ at_L7
   have lt_at21 := GHeap.lt_of_get at21
   replace i1 := base_i1.mono hle
   replace i2 := base_i2.mono hle
   clear hb3 c03 c13 c23 c33 c43 i13 i23 i33 i43 hm3 hi3
   have hb3 : Cat.At _ g3 0 d.s p.s := ⟨Mem.of_get at3, i1⟩
   obtain ⟨c03, c13, c23, c33, c43, i13, i23, i33, i43⟩ := hb3.get
   have hm3 : MemN _ _ _ _ _ := ⟨rfl, hb3.1⟩
   have hi3 := hb3.2
   clear hb4 c04 c14 c24 c34 c44 i14 i24 i34 i44 hm4 hi4
   have hb4 : Cat.At _ g4 0 d.t p.t := ⟨Mem.of_get at4, i2⟩
   obtain ⟨c04, c14, c24, c34, c44, i14, i24, i34, i44⟩ := hb4.get
   have hm4 : MemN _ _ _ _ _ := ⟨rfl, hb4.1⟩
   have hi4 := hb4.2
   refine .r rfl rfl rfl (.appendI rfl sl_22_A ze_2_E rfl by_2_E sl_22_A rfl rfl (by assumption) (by assumption) (by first | omega | (simp <;> omega)) (by omega) (by omega)) ?_
   rintro _ H22 ⟨g22, rfl, st22, ge22, at22⟩
   have nx_H22 := st22.nx
   replace hle := hle.st st22 (fun k hk => ⟨by omega, trivial⟩)
   replace lst1 := lst1.st st22 (fun k hk ho => by simp only [out, and_true] at ho ⊢ <;> omega)
   replace at3 := st22.same _ _ ⟨by omega, trivial⟩ at3
   replace at4 := st22.same _ _ ⟨by omega, trivial⟩ at4
   replace at6 := st22.same _ _ ⟨by omega, trivial⟩ at6
   replace at12 := st22.same _ _ ⟨by omega, trivial⟩ at12
   replace at21 := st22.same _ _ ⟨by omega, trivial⟩ at21
   have lt_at22 := GHeap.lt_of_get at22
   replace i1 := base_i1.mono hle
   replace i2 := base_i2.mono hle
   clear hb3 c03 c13 c23 c33 c43 i13 i23 i33 i43 hm3 hi3
   have hb3 : Cat.At _ g3 0 d.s p.s := ⟨Mem.of_get at3, i1⟩
   obtain ⟨c03, c13, c23, c33, c43, i13, i23, i33, i43⟩ := hb3.get
   have hm3 : MemN _ _ _ _ _ := ⟨rfl, hb3.1⟩
   have hi3 := hb3.2
   clear hb4 c04 c14 c24 c34 c44 i14 i24 i34 i44 hm4 hi4
   have hb4 : Cat.At _ g4 0 d.t p.t := ⟨Mem.of_get at4, i2⟩
   obtain ⟨c04, c14, c24, c34, c44, i14, i24, i34, i44⟩ := hb4.get
   have hm4 : MemN _ _ _ _ _ := ⟨rfl, hb4.1⟩
   have hi4 := hb4.2
   refine .m rfl rfl rfl (.assign rfl) (.nil ?_)
   refine hK7 _ _ ?_
   refine .region (.m rfl rfl rfl (.move rfl) ?_)
   refine .m rfl rfl rfl (.add rfl rfl rfl (by omega) (by omega)) ?_
   refine .m rfl rfl rfl (.assign rfl) (.nil ?_)
   refine hKL1 ((x + 1, _, _)) _ _ ?_ ?_ ⟨rfl, rfl, rfl, rfl, rfl, rfl, rfl, trivial⟩
   ·
    refine ⟨lst1, by first | assumption | (rw [List.replicate_succ']; assumption), by omega, by first | omega | (simp only [List.length_append, List.length_cons, List.length_nil] <;> omega) | (rw [List.replicate_succ'] <;> (first | omega | (simp only [List.length_append, List.length_cons, List.length_nil] <;> omega))), ?_⟩
    omega
   (dsimp only; omega)
  simp only [sps] at h16
  refine .exit ?_
  refine hK3 _ _ ?_
  refine .seq (fun K8 hK8 => ?_)
  refine .seq (fun K9 hK9 => ?_)
  refine .region (.m rfl rfl rfl (.assign rfl) (.nil ?_))
  refine hK9 _ _ ?_
  refine .block ?_
  refine .loopR (σ := Nat × Nat × Nat) [(2, some _), (3, some _), (4, some _), (6, some _), (7, some _)] (fun (a, gL8, nL8) => [(10, some (.int .i64 (a : Int))), (8, some (.slice (some ⟨gL8, 0, none⟩) nL8 nL8))]) (fun (a, gL8, nL8) H' => St [g12] HL1 H' ∧ H'.get gL8 = some (.row (ints (List.replicate a (d.t.idn.getD y 0))) 2 true) ∧ (gL8 = g12 ∨ HL1.next ≤ gL8) ∧ nL8 = (List.replicate a (d.t.idn.getD y 0)).length ∧ a ≤ d.s.src.length) (fun (a, gL8, nL8) => d.s.src.length - a) ((0, _, _)) ⟨rfl, rfl, rfl, rfl, rfl, trivial⟩ ⟨rfl, rfl, trivial⟩ ?_ ?_
  ·
   refine ⟨.refl _ _, by first | assumption | exact at12 | simpa using at12, .inl rfl, by first | rfl | assumption | simp | omega, ?_⟩
   omega
  rintro ⟨a, gL8, nL8⟩ HL2 ⟨lst2, at_L8, pl_L8, ln_L8, hI⟩ KL2 hKL2
  refine .forget (fr' := [(10, some (.int .i64 (a : Int))), (8, some (.slice (some ⟨gL8, 0, none⟩) nL8 nL8)), (2, some _), (3, some _), (4, some _), (6, some _), (7, some _)]) ⟨rfl, rfl, rfl, rfl, rfl, rfl, rfl, trivial⟩ ?_
  have ge_L8 : H.next ≤ gL8 := by omega
  have nx_HL2 := lst2.nx
  replace hle := hle.st lst2 (fun k hk => ⟨by omega, trivial⟩)
  replace at3 := lst2.same _ _ ⟨by omega, trivial⟩ at3
  replace at4 := lst2.same _ _ ⟨by omega, trivial⟩ at4
  replace at6 := lst2.same _ _ ⟨by omega, trivial⟩ at6
  replace at_L7 := lst2.same _ _ ⟨by omega, trivial⟩ at_L7
  have lt_at_L8 := GHeap.lt_of_get at_L8
  replace i1 := base_i1.mono hle
  replace i2 := base_i2.mono hle
  clear hb3 c03 c13 c23 c33 c43 i13 i23 i33 i43 hm3 hi3
  have hb3 : Cat.At _ g3 0 d.s p.s := ⟨Mem.of_get at3, i1⟩
  obtain ⟨c03, c13, c23, c33, c43, i13, i23, i33, i43⟩ := hb3.get
  have hm3 : MemN _ _ _ _ _ := ⟨rfl, hb3.1⟩
  have hi3 := hb3.2
  clear hb4 c04 c14 c24 c34 c44 i14 i24 i34 i44 hm4 hi4
  have hb4 : Cat.At _ g4 0 d.t p.t := ⟨Mem.of_get at4, i2⟩
  obtain ⟨c04, c14, c24, c34, c44, i14, i24, i34, i44⟩ := hb4.get
  have hm4 : MemN _ _ _ _ _ := ⟨rfl, hb4.1⟩
  have hi4 := hb4.2
  have hrl2 : (List.replicate a (d.t.idn.getD y 0)).length = a := List.length_replicate
  refine .seq (fun K10 hK10 => ?_)
  refine .seq (fun K11 hK11 => ?_)
  refine .region (.m rfl rfl rfl (.move rfl) (.m rfl rfl rfl (.fieldAddr fo_32_1_B rfl) ?_))
  refine .m rfl rfl rfl (.load on_22_B rfl (by first | assumption | exact Mem.of_get at3 1 _ rfl)) ?_
  refine .m rfl rfl rfl (.len sl_22_A rfl) (.m rfl rfl rfl (.cmp rfl rfl rfl) (.nil ?_))
  refine hK11 _ _ ?_
  refine .cond rfl (fun h27 => ?_) (fun h27 => ?_)
  ·
   simp only [sps] at h27
   refine .skip ?_
   refine hK10 _ _ ?_
   refine .seq (fun K12 hK12 => ?_)
   refine .block ?_
   refine .region (.m rfl rfl rfl (.move rfl) (.m rfl rfl rfl (.fieldAddr fo_32_3_B rfl) ?_))
   refine .m rfl rfl rfl (.load on_22_B rfl (by first | assumption | exact Mem.of_get at4 3 _ rfl)) ?_
   refine .m rfl rfl rfl (.move rfl) ?_
   refine .m rfl rfl rfl (.idxN sl_22_A (by assumption) rfl rfl (by omega)) ?_
   refine .m rfl rfl rfl (.loadI on_2_A (by assumption) rfl (by omega)) ?_
   refine .r rfl rfl rfl (.litR rfl sl_22_A ze_2_E rfl rfl (by omega) (by omega) rfl rfl) ?_
   rintro _ H36 ⟨g36, rfl, le36, ge36, at36⟩
   have nx_H36 := le36.1
   replace hle := hle.trans le36
   replace lst2 := lst2.le le36
   replace at3 := le36.2 _ _ at3
   replace at4 := le36.2 _ _ at4
   replace at6 := le36.2 _ _ at6
   replace at_L7 := le36.2 _ _ at_L7
   replace at_L8 := le36.2 _ _ at_L8
   have lt_at36 := GHeap.lt_of_get at36
   replace i1 := base_i1.mono hle
   replace i2 := base_i2.mono hle
   clear hb3 c03 c13 c23 c33 c43 i13 i23 i33 i43 hm3 hi3
   have hb3 : Cat.At _ g3 0 d.s p.s := ⟨Mem.of_get at3, i1⟩
   obtain ⟨c03, c13, c23, c33, c43, i13, i23, i33, i43⟩ := hb3.get
   have hm3 : MemN _ _ _ _ _ := ⟨rfl, hb3.1⟩
   have hi3 := hb3.2
   clear hb4 c04 c14 c24 c34 c44 i14 i24 i34 i44 hm4 hi4
   have hb4 : Cat.At _ g4 0 d.t p.t := ⟨Mem.of_get at4, i2⟩
   obtain ⟨c04, c14, c24, c34, c44, i14, i24, i34, i44⟩ := hb4.get
   have hm4 : MemN _ _ _ _ _ := ⟨rfl, hb4.1⟩
   have hi4 := hb4.2
   refine .r rfl rfl rfl (.appendI rfl sl_22_A ze_2_E rfl by_2_E sl_22_A rfl rfl (by assumption) (by assumption) (by first | omega | (simp <;> omega)) (by omega) (by omega)) ?_
   rintro _ H37 ⟨g37, rfl, st37, ge37, at37⟩
   have nx_H37 := st37.nx
   replace hle := hle.st st37 (fun k hk => ⟨by omega, trivial⟩)
   replace lst2 := lst2.st st37 (fun k hk ho => by simp only [out, and_true] at ho ⊢ <;> omega)
   replace at3 := st37.same _ _ ⟨by omega, trivial⟩ at3
   replace at4 := st37.same _ _ ⟨by omega, trivial⟩ at4
   replace at6 := st37.same _ _ ⟨by omega, trivial⟩ at6
   replace at_L7 := st37.same _ _ ⟨by omega, trivial⟩ at_L7
   replace at36 := st37.same _ _ ⟨by omega, trivial⟩ at36
   have lt_at37 := GHeap.lt_of_get at37
   replace i1 := base_i1.mono hle
   replace i2 := base_i2.mono hle
   clear hb3 c03 c13 c23 c33 c43 i13 i23 i33 i43 hm3 hi3
   have hb3 : Cat.At _ g3 0 d.s p.s := ⟨Mem.of_get at3, i1⟩
   obtain ⟨c03, c13, c23, c33, c43, i13, i23, i33, i43⟩ := hb3.get
   have hm3 : MemN _ _ _ _ _ := ⟨rfl, hb3.1⟩
   have hi3 := hb3.2
   clear hb4 c04 c14 c24 c34 c44 i14 i24 i34 i44 hm4 hi4
   have hb4 : Cat.At _ g4 0 d.t p.t := ⟨Mem.of_get at4, i2⟩
   obtain ⟨c04, c14, c24, c34, c44, i14, i24, i34, i44⟩ := hb4.get
   have hm4 : MemN _ _ _ _ _ := ⟨rfl, hb4.1⟩
   have hi4 := hb4.2
   refine .m rfl rfl rfl (.assign rfl) (.nil ?_)
   refine hK12 _ _ ?_
   refine .region (.m rfl rfl rfl (.move rfl) ?_)
   refine .m rfl rfl rfl (.add rfl rfl rfl (by omega) (by omega)) ?_
   refine .m rfl rfl rfl (.assign rfl) (.nil ?_)
   refine hKL2 ((a + 1, _, _)) _ _ ?_ ?_ ⟨rfl, rfl, rfl, rfl, rfl, rfl, rfl, trivial⟩
   ·
    refine ⟨lst2, by first | assumption | (rw [List.replicate_succ']; assumption), by omega, by first | omega | (simp only [List.length_append, List.length_cons, List.length_nil] <;> omega) | (rw [List.replicate_succ'] <;> (first | omega | (simp only [List.length_append, List.length_cons, List.length_nil] <;> omega))), ?_⟩
    omega
   (dsimp only; omega)
  simp only [sps] at h27
  refine .exit ?_
  refine hK8 _ _ ?_
  refine .seq (fun K13 hK13 => ?_)
  refine .region ?_
  obtain rfl : x = d.s.obj.toNat := by omega
  obtain rfl : a = d.s.src.length := by omega
  obtain rfl := ln_L7
  obtain rfl := ln_L8
  refine .m rfl rfl rfl (.loadM ag_32_D rfl ⟨rfl, Mem.of_get at3⟩) ?_
  refine .m rfl rfl rfl (.loadM ag_32_D rfl ⟨rfl, Mem.of_get at4⟩) ?_
  refine .m rfl rfl rfl (.move rfl) (.m rfl rfl rfl (.move rfl) ?_)
  refine .call rfl rfl rfl rfl @Try.call100 rfl (l06Make_c i1 i2 (Ints.of_get at_L7) (Ints.of_get at_L8) s1 s2 (by simp; omega) (by simp; omega)) ?_
  rintro _ H42 ⟨le42, p42, rfl, v42⟩
  have nx_H42 := le42.1
  replace hle := hle.trans le42
  replace at3 := le42.2 _ _ at3
  replace at4 := le42.2 _ _ at4
  replace at6 := le42.2 _ _ at6
  replace at_L7 := le42.2 _ _ at_L7
  replace at_L8 := le42.2 _ _ at_L8
  have bs_v42 := v42
  have lv_v42 : Keep HL2.next H42 H42 := fun _ _ _ h => h
  replace i1 := base_i1.mono hle
  replace i2 := base_i2.mono hle
  clear hb3 c03 c13 c23 c33 c43 i13 i23 i33 i43 hm3 hi3
  have hb3 : Cat.At _ g3 0 d.s p.s := ⟨Mem.of_get at3, i1⟩
  obtain ⟨c03, c13, c23, c33, c43, i13, i23, i33, i43⟩ := hb3.get
  have hm3 : MemN _ _ _ _ _ := ⟨rfl, hb3.1⟩
  have hi3 := hb3.2
  clear hb4 c04 c14 c24 c34 c44 i14 i24 i34 i44 hm4 hi4
  have hb4 : Cat.At _ g4 0 d.t p.t := ⟨Mem.of_get at4, i2⟩
  obtain ⟨c04, c14, c24, c34, c44, i14, i24, i34, i44⟩ := hb4.get
  have hm4 : MemN _ _ _ _ _ := ⟨rfl, hb4.1⟩
  have hi4 := hb4.2
  have i42 := v42.inn
  refine .r0 rfl rfl (.fillR rfl sz_34_E rfl rfl rfl rfl (by assumption) (by first | rfl | exact Nat.le_of_ble_eq_true rfl | simp)) ?_
  rintro _ H10005 ⟨rfl, st10005, at10005⟩
  have nx_H10005 := st10005.nx
  replace hle := hle.st st10005 (fun k hk => ⟨by omega, trivial⟩)
  replace at3 := st10005.same _ _ ⟨by omega, trivial⟩ at3
  replace at4 := st10005.same _ _ ⟨by omega, trivial⟩ at4
  replace at_L7 := st10005.same _ _ ⟨by omega, trivial⟩ at_L7
  replace at_L8 := st10005.same _ _ ⟨by omega, trivial⟩ at_L8
  replace lv_v42 := Keep.st lv_v42 st10005 (fun k hb hk => ⟨by omega, trivial⟩)
  replace v42 := bs_v42.keep lv_v42 (Nat.le_refl _)
  have lt_at10005 := GHeap.lt_of_get at10005
  replace i1 := base_i1.mono hle
  replace i2 := base_i2.mono hle
  clear hb3 c03 c13 c23 c33 c43 i13 i23 i33 i43 hm3 hi3
  have hb3 : Cat.At _ g3 0 d.s p.s := ⟨Mem.of_get at3, i1⟩
  obtain ⟨c03, c13, c23, c33, c43, i13, i23, i33, i43⟩ := hb3.get
  have hm3 : MemN _ _ _ _ _ := ⟨rfl, hb3.1⟩
  have hi3 := hb3.2
  clear hb4 c04 c14 c24 c34 c44 i14 i24 i34 i44 hm4 hi4
  have hb4 : Cat.At _ g4 0 d.t p.t := ⟨Mem.of_get at4, i2⟩
  obtain ⟨c04, c14, c24, c34, c44, i14, i24, i34, i44⟩ := hb4.get
  have hm4 : MemN _ _ _ _ _ := ⟨rfl, hb4.1⟩
  have hi4 := hb4.2
  clear i42
  have i42 := v42.inn
  have mm10005 : MemN _ _ _ _ _ := ⟨rfl, Mem.of_get at10005⟩
  refine .nil ?_
  refine hK13 _ _ ?_
  refine .ret ?_
  refine hret _ _ ?_
  refine ⟨_, _, _, _, rfl, ag_34_E, (by rfl), (Mem.of_get at10005), ?_⟩
  exact ⟨hle, p42, rfl, v42.keep (.of_le (.refl _)) (by omega)⟩
end Go.Proofs.Ytpmjlhbglcaokaa
/- Cones are transformations from constant functors. No condition. -/
namespace Go.GL
theorem Fun.con_is {d : Fun} {y : Nat} (h : d.Is) (hy : (y : Int) < d.t.obj) : (d.con y).Is := by
  have hs := h.1.1
  have ht := h.2.1.1
  have b1 := hs.obj
  have b2 := ht.il
  have b3 := hs.il
  have hid := ht.idn y (by omega)
  have hids := ht.ids y (by omega)
  have hlaw := (h.2.1.2.ids (d.t.idn.getD y 0).toNat (by omega)).1
  have e0 : ((d.t.idn.getD y 0).toNat : Int) = d.t.idn.getD y 0 := by omega
  rw [hids.1, e0, Int.toNat_natCast] at hlaw
  have hob : ∀ i, i < d.s.obj.toNat → (d.con y).ob.getD i 0 = (y : Int) := fun i hi => repl_getD hi
  have har : ∀ i, i < d.s.src.length → (d.con y).ar.getD i 0 = d.t.idn.getD y 0 := fun i hi => by
    show (List.replicate d.s.src.length (d.t.idn.getD ((y : Int)).toNat 0)).getD i 0 = _
    rw [repl_getD hi, Int.toNat_natCast]
  refine ⟨h.1, h.2.1, ?_, ?_, ?_, ?_, ?_, ?_, ?_⟩
  · show ((List.replicate d.s.obj.toNat (y : Int)).length : Int) = d.s.obj
    rw [List.length_replicate]; omega
  · exact List.length_replicate
  · intro i hi
    have hi' : i < d.s.obj.toNat := by have : i < (List.replicate d.s.obj.toNat (y : Int)).length := hi; rwa [List.length_replicate] at this
    rw [hob i hi']
    exact ⟨by omega, hy⟩
  · intro i hi
    have hi' : i < d.s.src.length := by have : i < (List.replicate d.s.src.length (d.t.idn.getD ((y : Int)).toNat 0)).length := hi; rwa [List.length_replicate] at this
    rw [har i hi']
    exact ⟨hid.1, hid.2⟩
  · intro a ha
    have ha' : a < d.s.src.length := by have : a < (List.replicate d.s.src.length (d.t.idn.getD ((y : Int)).toNat 0)).length := ha; rwa [List.length_replicate] at this
    have q1 := hs.src a ha'
    have q2 := hs.tgt a (by have := hs.tl; omega)
    rw [har a ha']
    refine ⟨?_, ?_⟩
    · rw [show (d.con y).ob.getD ((d.con y).s.src.getD a 0).toNat 0 = (y : Int) from hob _ (by show (d.s.src.getD a 0).toNat < _; omega)]
      exact hids.1
    · rw [show (d.con y).ob.getD ((d.con y).s.tgt.getD a 0).toNat 0 = (y : Int) from hob _ (by show (d.s.tgt.getD a 0).toNat < _; omega)]
      exact hids.2
  · intro x hx
    have hx' : x < d.s.idn.length := hx
    have q1 := hs.idn x hx'
    rw [har _ (by show (d.s.idn.getD x 0).toNat < _; omega), hob x (by omega), Int.toNat_natCast]
    rfl
  · intro a ha b hb hab
    have ha' : a < d.s.src.length := ha
    have hb' : b < d.s.src.length := hb
    have q1 := (hs.th_ge ha' hb').2 hab
    have q2 := (hs.th_lt ha' hb').1
    show (d.con y).ar.getD (d.s.th a b).toNat 0 = d.t.th ((d.con y).ar.getD a 0) ((d.con y).ar.getD b 0)
    rw [har _ (by omega), har a ha', har b hb', hlaw]
theorem Fun.con_par {d : Fun} {y : Nat} (h : d.Is) (hy : (y : Int) < d.t.obj) : (d.con y).Par d := ⟨Fun.con_is h hy, h, rfl, rfl⟩
theorem searchL_congrN {c c' : Nat → List Int} {k k' : Nat → List Int → Bool} {N : Nat} (hc : ∀ j, j < N → c j = c' j) : ∀ {r : Nat} {p : List Int}, p.length + r = N → (∀ i, i < p.length → p.getD i 0 ∈ c i) → (∀ p h, p.length < N → (∀ i, i < p.length → p.getD i 0 ∈ c i) → h ∈ c p.length → k p.length (p ++ [h]) = k' p.length (p ++ [h])) → searchL c k r p = searchL c' k' r p
  | 0, _, _, _, _ => rfl
  | r + 1, p, hN, hp, hk => by
    unfold searchL
    rw [← hc p.length (by omega)]
    refine flatMap_congr' fun h hh => ?_
    rw [hk p h (by omega) hp hh]
    congr 1
    refine searchL_congrN hc (r := r) (by rw [List.length_append, List.length_singleton]; omega) (fun i hi => ?_) hk
    rw [List.length_append, List.length_singleton] at hi
    rw [getD_snoc]
    by_cases e : i < p.length
    · rw [if_pos e]; exact hp i e
    · obtain rfl : i = p.length := by omega
      rw [if_neg e, if_pos rfl]; exact hh
theorem Fun.con_cand {d : Fun} {y j : Nat} (h : d.Is) (hj : j < d.ob.length) : ((d.con y).net d false).cand j = (d.cnet y).cand j := by
  have b1 := h.2.2.ol
  show List.filter _ (d.t.hom ((List.replicate d.s.obj.toNat (y : Int)).getD j 0) (d.ob.getD j 0)) = d.t.hom y (d.ob.getD j 0)
  rw [repl_getD (by omega)]
  exact List.filter_eq_self.2 fun _ _ => rfl
theorem Fun.con_sols {d : Fun} {y : Nat} (h : d.Is) (hy : (y : Int) < d.t.obj) : ((d.con y).net d false).sols (d.con y).ob.length = (d.cnet y).sols d.ob.length := by
  have b1 := h.2.2.ol
  have b2 := h.2.2.al
  have hs := h.1.1
  have ht := h.2.1.1
  have b3 := hs.obj
  have b4 := ht.il
  have hid := ht.idn y (by omega)
  have hids := ht.ids y (by omega)
  have hl : (d.con y).ob.length = d.ob.length := by
    show (List.replicate d.s.obj.toNat (y : Int)).length = _
    rw [List.length_replicate]; omega
  rw [hl]
  unfold Net.sols
  refine searchL_congrN (N := d.ob.length) (fun j hj => Fun.con_cand h hj) (by simp) (fun i hi => by simp at hi) fun p v hpN hp hv => ?_
  have hq : ∀ i, i ≤ p.length → (p ++ [v]).getD i 0 ∈ ((d.con y).net d false).cand i := fun i hi => by
    rw [getD_snoc]
    by_cases e : i < p.length
    · rw [if_pos e]; exact hp i e
    · obtain rfl : i = p.length := by omega
      rw [if_neg e, if_pos rfl]; exact hv
  have hA : (d.con y).ar.length = d.ar.length := by
    show (List.replicate d.s.src.length (d.t.idn.getD ((y : Int)).toNat 0)).length = _
    rw [List.length_replicate]; omega
  rw [Bool.eq_iff_iff, Net.ok_iff, Net.ok_iff]
  have key : ∀ a, a < d.ar.length → max (d.s.src.getD a 0).toNat (d.s.tgt.getD a 0).toNat = p.length → (((d.con y).net d false).sq a ((p ++ [v]).getD (d.s.src.getD a 0).toNat 0) ((p ++ [v]).getD (d.s.tgt.getD a 0).toNat 0) = true ↔ (d.cnet y).sq a ((p ++ [v]).getD (d.s.src.getD a 0).toNat 0) ((p ++ [v]).getD (d.s.tgt.getD a 0).toNat 0) = true) := by
    intro a ha hm
    have hv1 := hq (d.s.tgt.getD a 0).toNat (by omega)
    have q2 := hs.tgt a (by have := hs.tl; omega)
    rw [Fun.con_cand h (by omega)] at hv1
    obtain ⟨z, z1, z2, z3, z4⟩ := Cat.mem_hom.1 hv1
    have hlaw := (h.2.1.2.ids z z1).1
    rw [z2, Int.toNat_natCast] at hlaw
    show decide (d.t.th ((List.replicate d.s.src.length (d.t.idn.getD ((y : Int)).toNat 0)).getD a 0) _ = d.t.th _ (d.ar.getD a 0)) = true ↔ decide (d.t.th _ (d.ar.getD a 0) = _) = true
    rw [repl_getD (by omega), Int.toNat_natCast, z4, hlaw, decide_eq_true_eq, decide_eq_true_eq]
    exact eq_comm
  refine ⟨fun hh a ha hm => ?_, fun hh a ha hm => ?_⟩
  · have ha' : a < d.ar.length := ha
    exact (key a ha' hm).1 (hh a (by show a < (d.con y).ar.length; omega) hm)
  · have ha' : a < d.ar.length := by have : a < (d.con y).ar.length := ha; omega
    exact (key a ha' hm).2 (hh a ha' hm)
def Fun.coneF (d : Fun) (x n : Nat) : List (List Int) := ((d.cnet (x : Int)).sols d.ob.length).take (401 - n)
def Fun.coneI (d : Fun) (x n i : Nat) : List Con := d.coneL x ++ ((d.coneF x n).take i).map fun l => (⟨(x : Int), l⟩ : Con)
theorem Fun.coneI_zero (d : Fun) (x n : Nat) : d.coneI x n 0 = d.coneL x := by simp [coneI]
theorem Fun.coneI_succ {d : Fun} {x n i : Nat} (h : i < (d.coneF x n).length) : d.coneI x n (i + 1) = d.coneI x n i ++ [⟨(x : Int), (d.coneF x n).getD i []⟩] := by
  unfold coneI
  rw [take_map_snoc (d := []) h, List.append_assoc]
theorem Fun.coneI_all {d : Fun} {x n : Nat} (hn : (d.coneL x).length = n) (h : n ≤ 400) : d.coneI x n (d.coneF x n).length = (d.coneL (x + 1)).take 401 := by
  unfold coneI coneF
  rw [List.take_length, Fun.coneL_succ, List.take_append, List.take_of_length_le (l := d.coneL x) (by omega), hn, List.map_take]
theorem Fun.coneI_len {d : Fun} {x n i : Nat} (hn : (d.coneL x).length = n) (h : n ≤ 400) : (d.coneI x n i).length ≤ 401 := by
  unfold coneI coneF
  rw [List.length_append, List.length_map, List.length_take, List.length_take]
  omega
/-- Rows of their own, none of them in block gL. -/
structure RowsN (b : Nat) (H : GHeap) (r : Nat → Option Addr) (cs : List Con) (gL : Nat) : Prop where
  row : ∀ i, i < cs.length → ∃ g e, r i = some ⟨g, 0, none⟩ ∧ b ≤ g ∧ g ≠ gL ∧ H.get g = some (.row (ints (cs.getD i .z).lg) e true)
theorem RowsN.nil (b : Nat) (H : GHeap) (r : Nat → Option Addr) (gL : Nat) : RowsN b H r [] gL := ⟨fun i hi => by simp at hi⟩
theorem RowsN.mono {b gL : Nat} {H H' : GHeap} {r : Nat → Option Addr} {cs : List Con} (h : RowsN b H r cs gL) (s : H.Le H') : RowsN b H' r cs gL := ⟨fun i hi => by
  obtain ⟨g, e, h1, h2, h3, h4⟩ := h.row i hi
  exact ⟨g, e, h1, h2, h3, s.2 _ _ h4⟩⟩
theorem RowsN.turn {b gL gN : Nat} {H H' : GHeap} {r : Nat → Option Addr} {cs : List Con} (h : RowsN b H r cs gL) (s : St [gL] H H') (hn : H.next ≤ gN) : RowsN b H' r cs gN := ⟨fun i hi => by
  obtain ⟨g, e, h1, h2, h3, h4⟩ := h.row i hi
  exact ⟨g, e, h1, h2, by have := GHeap.lt_of_get h4; omega, s.same _ _ ⟨h3, trivial⟩ h4⟩⟩
theorem RowsN.snoc {b gL : Nat} {H : GHeap} {r : Nat → Option Addr} {cs : List Con} {c : Con} {a : Option Addr} (h : RowsN b H r cs gL) (ha : ∃ g e, a = some ⟨g, 0, none⟩ ∧ b ≤ g ∧ g ≠ gL ∧ H.get g = some (.row (ints c.lg) e true)) : RowsN b H (upd r cs.length a) (cs ++ [c]) gL := ⟨fun i hi => by
  rw [List.length_append, List.length_singleton] at hi
  rw [getD_snoc]
  by_cases e : i < cs.length
  · rw [if_pos e, upd_ne (by omega)]; exact h.row i e
  · obtain rfl : i = cs.length := by omega
    rw [if_neg e, if_pos rfl, upd_eq]; exact ha⟩
theorem IntssR.rowAt {b : Nat} {H : GHeap} {a : Option Addr} {xss : List (List Int)} {r : Nat → Option Addr} (h : IntssR b H a xss r) {i : Nat} (hi : i < xss.length) : ∃ g e, r i = some ⟨g, 0, none⟩ ∧ b ≤ g ∧ H.get g = some (.row (ints (xss.getD i [])) e true) := by
  rcases h.1 with ⟨rfl, _⟩ | ⟨g, e, cs, _, _, _, _, _, h6⟩
  · simp at hi
  · exact h6 i hi
/-- A list of cones that lies in rows from b on. -/
def ConsIn (T : TypeId) (b : Nat) (H : GHeap) (g : Nat) (r : Nat → Option Addr) (cs : List Con) : Prop := b ≤ g ∧ H.get g = some (.row (conV r cs) T true) ∧ ∀ i, i < cs.length → IntsAt b H (r i) (cs.getD i .z).lg
theorem ConsIn.keep {T : TypeId} {b b' g : Nat} {H H' : GHeap} {r : Nat → Option Addr} {cs : List Con} (h : ConsIn T b H g r cs) (k : Keep b' H H') (hb : b' ≤ b) : ConsIn T b' H' g r cs := ⟨by have := h.1; omega, k g _ (by have := h.1; omega) h.2.1, fun i hi => (h.2.2 i hi).keep k hb⟩
theorem Fun.coneL_more {d : Fun} {x : Nat} : ∀ {n}, x ≤ n → ∃ t, d.coneL n = d.coneL x ++ t := by
  intro n h
  obtain ⟨k, rfl⟩ := Nat.le.dest h
  clear h
  induction k with
  | zero => exact ⟨[], by simp⟩
  | succ k ih =>
    obtain ⟨t, ht⟩ := ih
    exact ⟨t ++ _, by rw [← Nat.add_assoc, Fun.coneL_succ, ht, List.append_assoc]⟩
theorem Fun.coneL_cut {d : Fun} {x n : Nat} (h : x ≤ n) (hb : 400 < ((d.coneL x).take 401).length) : (d.coneL n).take 401 = (d.coneL x).take 401 := by
  obtain ⟨t, ht⟩ := Fun.coneL_more (d := d) h
  rw [List.length_take] at hb
  rw [ht, List.take_append_of_le_length (by omega)]
theorem RowsN.cons {T : TypeId} {b gL : Nat} {H : GHeap} {r : Nat → Option Addr} {cs : List Con} (h : RowsN b H r cs gL) (hg : H.get gL = some (.row (conV r cs) T true)) (hb : b ≤ gL) : ConsIn T b H gL r cs := ⟨hb, hg, fun i hi => by
  obtain ⟨g, e, h1, h2, _, h4⟩ := h.row i hi
  exact ⟨g, e, h1, h2, h4⟩⟩
theorem flat2_get {f : Nat → List Value} (h2 : ∀ i, (f i).length = 2) : ∀ {n i j : Nat}, i < n → j < 2 → ((List.range n).flatMap f)[i * 2 + j]? = (f i)[j]?
  | 0, _, _, h, _ => by omega
  | n + 1, i, j, h, hj => by
    have hl : ∀ m, ((List.range m).flatMap f).length = m * 2 := fun m => by
      induction m with
      | zero => rfl
      | succ m ih => rw [List.range_succ, List.flatMap_append, List.length_append, ih]; simp [h2]; omega
    rw [List.range_succ, List.flatMap_append]
    by_cases e : i < n
    · rw [List.getElem?_append_left (by rw [hl]; omega)]
      exact flat2_get h2 e hj
    · obtain rfl : i = n := by omega
      rw [List.getElem?_append_right (by rw [hl]; omega), hl]
      simp
theorem conV_mem {H : GHeap} {g : Nat} {e : TypeId} {own : Bool} {r : Nat → Option Addr} {cs : List Con} (hg : H.get g = some (.row (conV r cs) e own)) {i : Nat} (hi : i < cs.length) : MemN H g (0 + (i : Int).toNat * 2) 2 ((cs.getD i .z).cells ⟨r i⟩) := by
  refine ⟨rfl, fun j v hv => ?_⟩
  have hj : j < 2 := (List.getElem?_eq_some_iff.1 hv).1
  rw [GHeap.cell_of hg, Int.toNat_natCast, Nat.zero_add]
  unfold conV
  rw [flat2_get (f := fun i => (cs.getD i .z).cells ⟨r i⟩) (fun _ => rfl) hi hj]
  exact hv
theorem Fun.cone_of_sol {d : Fun} {x : Nat} {l : List Int} (h : d.Is) (hx : (x : Int) < d.t.obj) (hl : l ∈ (d.cnet (x : Int)).sols d.ob.length) : d.Cone ⟨(x : Int), l⟩ := by
  have hg : (d.cnet (x : Int)).Good d.ob.length := by
    refine ⟨fun y v hv => ?_, fun a ha => ?_, fun a ha => ?_⟩
    · obtain ⟨_, _, _, _, rfl⟩ := Cat.mem_hom.1 hv; omega
    · have := h.arr (a := a) ha
      show (d.s.src.getD a 0).toNat < _; omega
    · have := h.arr (a := a) ha
      show (d.s.tgt.getD a 0).toNat < _; omega
  obtain ⟨h1, h2, h3⟩ := (Net.mem_sols hg).1 hl
  have hh : ∀ j, j < l.length → ∃ z : Nat, z < d.t.src.length ∧ d.t.src.getD z 0 = (x : Int) ∧ d.t.tgt.getD z 0 = d.ob.getD j 0 ∧ l.getD j 0 = z := fun j hj => Cat.mem_hom.1 (h2 j (by omega))
  refine ⟨⟨by show (0 : Int) ≤ x; omega, hx⟩, h1, fun j hj => ?_, fun j hj => ?_, fun a ha => ?_⟩
  · obtain ⟨z, z1, _, _, z4⟩ := hh j hj
    show 0 ≤ l.getD j 0 ∧ l.getD j 0 < _
    rw [z4]; omega
  · obtain ⟨z, z1, z2, z3, z4⟩ := hh j hj
    show d.t.src.getD (l.getD j 0).toNat 0 = (x : Int) ∧ d.t.tgt.getD (l.getD j 0).toNat 0 = _
    rw [z4, Int.toNat_natCast]; exact ⟨z2, z3⟩
  · exact of_decide_eq_true (h3 a ha)
theorem Fun.coneL_cone {d : Fun} (h : d.Is) : ∀ {n : Nat}, (n : Int) ≤ d.t.obj → ∀ c ∈ d.coneL n, d.Cone c
  | 0, _, c, hc => by simp [coneL] at hc
  | n + 1, hn, c, hc => by
    rw [Fun.coneL_succ, List.mem_append, List.mem_map] at hc
    rcases hc with hc | ⟨l, hl, rfl⟩
    · exact Fun.coneL_cone h (by omega) c hc
    · exact Fun.cone_of_sol h (by omega) hl
noncomputable def Fun.univ (d : Fun) (m : Con) : Bool := B (∀ i, i < (d.coneL d.t.obj.toNat).length → (d.coneMaps ((d.coneL d.t.obj.toNat).getD i .z) m).length = 1)
noncomputable def Fun.ilR (d : Fun) (m : Con) : Bool := bif B d.Is then (bif B (d.Cone m) then (bif decide ((d.coneL d.t.obj.toNat).length ≤ 400) then d.univ m else false) else false) else false
noncomputable def Fun.ilC (d : Fun) (m : Con) : Int := bif B d.Is then (bif B (d.Cone m) then (bif decide ((d.coneL d.t.obj.toNat).length ≤ 400) then 0 else 3) else 5) else 1
theorem Fun.il_2 {d : Fun} {m : Con} (h : d.Is) (h' : ¬ d.Cone m) : d.ilR m = false ∧ d.ilC m = 5 := by unfold ilR ilC; rw [B_true h, B_false h']; exact ⟨rfl, rfl⟩
theorem Fun.il_3 {d : Fun} {m : Con} (h : d.Is) (h' : d.Cone m) (hb : ¬ (d.coneL d.t.obj.toNat).length ≤ 400) : d.ilR m = false ∧ d.ilC m = 3 := by unfold ilR ilC; rw [B_true h, B_true h', decide_eq_false hb]; exact ⟨rfl, rfl⟩
theorem Fun.il_4 {d : Fun} {m : Con} (h : d.Is) (h' : d.Cone m) (hb : (d.coneL d.t.obj.toNat).length ≤ 400) : d.ilR m = d.univ m ∧ d.ilC m = 0 := by unfold ilR ilC; rw [B_true h, B_true h', decide_eq_true hb]; exact ⟨rfl, rfl⟩
theorem ConsIn.sl {T : TypeId} {b g : Nat} {H : GHeap} {r : Nat → Option Addr} {cs : List Con} (h : ConsIn T b H g r cs) : SlA H (some ⟨g, 0, none⟩) (cs.length * 2) (fun i => (conV r cs).getD i (.bool false)) := SlA.of_row h.2.1 (length_conV _ _)
theorem ConsIn.mem {T : TypeId} {b g : Nat} {H : GHeap} {r : Nat → Option Addr} {cs : List Con} (h : ConsIn T b H g r cs) : ∀ i, i < cs.length → MemN H g (0 + (i : Int).toNat * 2) 2 ((cs.getD i .z).cells ⟨r i⟩) := fun _ hi => conV_mem h.2.1 hi
theorem ConsIn.inn {T : TypeId} {b g : Nat} {H : GHeap} {r : Nat → Option Addr} {cs : List Con} (h : ConsIn T b H g r cs) : ∀ i, i < cs.length → (cs.getD i .z).In H ⟨r i⟩ := fun i hi => (h.2.2 i hi).ints
theorem ConsAt.cin {T e : TypeId} {b g : Nat} {H : GHeap} {r : Nat → Option Addr} {cs : List Con} (h : ConsAt T e b H g r cs) (hb : b ≤ g) : ConsIn T b H g r cs := ⟨hb, h.hd, fun i hi => by
  obtain ⟨x, h1, h2, h3⟩ := h.rows.row i (by rw [List.length_map]; exact hi)
  have ee : (cs.map Con.lg).getD i [] = (cs.getD i .z).lg := by
    rw [List.getD_eq_getElem?_getD, List.getD_eq_getElem?_getD, List.getElem?_map, List.getElem?_eq_getElem hi]; rfl
  exact ⟨x, e, h1, h2, by rw [← ee]; exact h3⟩⟩
end Go.GL
/- All cones: the reference's. No condition but those of each statement. -/
namespace Go.Proofs.Ytpmjlhbglcaokaa
open Go Go.GL Go.RowKit Go.Proofs
theorem sl_29_Hk : sliceT Try.prog 29 = some (42, 2) := by kernel_rfl
theorem ze_42_Hk : zeroT Try.prog 42 = some ([.int .i64 0, .slice none 0 0], 2) := by kernel_rfl
theorem bt_42_Hk : buildT Try.prog 42 = some ([.int .i64 0, .slice none 0 0], [(0, 1), (1, 1)]) := by kernel_rfl
theorem by_42_Hk : (Try.prog.info? 42).map (·.bytes) = some 32 := by kernel_rfl
set_option maxHeartbeats 4000000 in
theorem l12Cones_c {d : Fun} {p : FunP} {H : GHeap} (hin : d.In H p := by assumption) (hs : d.Small := by assumption) (hI : d.Is := by assumption) :
    GCalls Try.prog 69 [.agg (d.cells p).toArray] H (fun v H' => H.Le H' ∧ ∃ g r, v = .slice (some ⟨g, 0, none⟩) ((d.coneL d.t.obj.toNat).take 401).length ((d.coneL d.t.obj.toNat).take 401).length ∧ ConsIn 42 H.next H' g r ((d.coneL d.t.obj.toNat).take 401)) := by
  have hob := hI.2.1.1.obj
  refine GCalls.body (N := 47) (rs := [.tmp 2]) Try.func69 rfl rfl rfl rfl (fun Qx hret hend => ?_)
  refine .forget (fr' := [(0, some _)]) ⟨rfl, trivial⟩ ?_
  have hle := GHeap.Le.refl H
  have base_hin := hin
  refine .seq (fun K1 hK1 => ?_)
  refine .region ?_
  refine .r rfl rfl rfl (.boxR rfl sz_34_E rfl) ?_
  rintro _ H1 ⟨g1, rfl, le1, ge1, at1⟩
  have nx_H1 := le1.1
  replace hle := hle.trans le1
  have lt_at1 := GHeap.lt_of_get at1
  replace hin := base_hin.mono hle
  have hb1 : Fun.At _ g1 0 d p := ⟨Mem.of_get at1, hin⟩
  obtain ⟨fs1, ft1, c101, c111, j11, j21⟩ := hb1.get
  have hm1 : MemN _ _ _ _ _ := ⟨rfl, hb1.1⟩
  have hi1 := hb1.2
  have hms1 : MemN _ _ _ _ _ := ⟨rfl, fs1.1⟩
  have his1 := fs1.2
  have hmt1 : MemN _ _ _ _ _ := ⟨rfl, ft1.1⟩
  have hit1 := ft1.2
  refine .m rfl rfl rfl (.assign rfl) (.nil ?_)
  refine hK1 _ _ ?_
  refine .seq (fun K2 hK2 => ?_)
  refine .region ?_
  refine .r rfl rfl rfl (.litR rfl sl_29_Hk ze_42_Hk rfl rfl (by omega) (by omega) rfl rfl) ?_
  rintro _ H7 ⟨g7, rfl, le7, ge7, at7⟩
  have nx_H7 := le7.1
  replace hle := hle.trans le7
  replace at1 := le7.2 _ _ at1
  have lt_at7 := GHeap.lt_of_get at7
  replace hin := base_hin.mono hle
  clear hb1 fs1 ft1 c101 c111 j11 j21 hm1 hi1 hms1 his1 hmt1 hit1
  have hb1 : Fun.At _ g1 0 d p := ⟨Mem.of_get at1, hin⟩
  obtain ⟨fs1, ft1, c101, c111, j11, j21⟩ := hb1.get
  have hm1 : MemN _ _ _ _ _ := ⟨rfl, hb1.1⟩
  have hi1 := hb1.2
  have hms1 : MemN _ _ _ _ _ := ⟨rfl, fs1.1⟩
  have his1 := fs1.2
  have hmt1 : MemN _ _ _ _ _ := ⟨rfl, ft1.1⟩
  have hit1 := ft1.2
  refine .m rfl rfl rfl (.assign rfl) (.nil ?_)
  refine hK2 _ _ ?_
  refine .seq (fun K3 hK3 => ?_)
  refine .seq (fun K4 hK4 => ?_)
  refine .region (.m rfl rfl rfl (.assign rfl) (.nil ?_))
  refine hK4 _ _ ?_
  refine .block ?_
  refine .loopR (σ := Nat × (Nat → Option Addr) × Nat × Nat) [(1, some _)] (fun (x, rr, gL3, nL3) => [(4, some (.int .i64 (x : Int))), (3, some (.slice (some ⟨gL3, 0, none⟩) nL3 nL3))]) (fun (x, rr, gL3, nL3) H' => St [g7] H7 H' ∧ H'.get gL3 = some (.row (conV rr ((d.coneL x).take 401)) 42 true) ∧ (gL3 = g7 ∨ H7.next ≤ gL3) ∧ nL3 = ((d.coneL x).take 401).length ∧ x ≤ d.t.obj.toNat ∧ RowsN H.next H' rr ((d.coneL x).take 401) gL3) (fun (x, rr, gL3, nL3) => d.t.obj.toNat - x) ((0, fun _ => none, _, _)) ⟨rfl, trivial⟩ ⟨rfl, rfl, trivial⟩ ?_ ?_
  ·
   refine ⟨.refl _ _, by first | assumption | exact at7 | simpa using at7, .inl rfl, by first | rfl | assumption | simp | omega, ?_⟩
   exact ⟨by omega, .nil _ _ _ _⟩
  rintro ⟨x, rr, gL3, nL3⟩ HL1 ⟨lst1, at_L3, pl_L3, ln_L3, hI⟩ KL1 hKL1
  refine .forget (fr' := [(4, some (.int .i64 (x : Int))), (3, some (.slice (some ⟨gL3, 0, none⟩) nL3 nL3)), (1, some _)]) ⟨rfl, rfl, rfl, trivial⟩ ?_
  have ge_L3 : H.next ≤ gL3 := by omega
  have nx_HL1 := lst1.nx
  replace hle := hle.st lst1 (fun k hk => ⟨by omega, trivial⟩)
  replace at1 := lst1.same _ _ ⟨by omega, trivial⟩ at1
  have lt_at_L3 := GHeap.lt_of_get at_L3
  replace hin := base_hin.mono hle
  clear hb1 fs1 ft1 c101 c111 j11 j21 hm1 hi1 hms1 his1 hmt1 hit1
  have hb1 : Fun.At _ g1 0 d p := ⟨Mem.of_get at1, hin⟩
  obtain ⟨fs1, ft1, c101, c111, j11, j21⟩ := hb1.get
  have hm1 : MemN _ _ _ _ _ := ⟨rfl, hb1.1⟩
  have hi1 := hb1.2
  have hms1 : MemN _ _ _ _ _ := ⟨rfl, fs1.1⟩
  have his1 := fs1.2
  have hmt1 : MemN _ _ _ _ _ := ⟨rfl, ft1.1⟩
  have hit1 := ft1.2
  obtain ⟨hx, hR⟩ := hI
  refine .seq (fun K5 hK5 => ?_)
  refine .seq (fun K6 hK6 => ?_)
  refine .region (.m rfl rfl rfl (.move rfl) (.m rfl rfl rfl (.fieldAddr fo_34_1_E rfl) (.m rfl rfl rfl (.fieldAddr fo_32_0_B rfl) ?_)))
  refine .m rfl rfl rfl (.load on_2_A rfl (by first | assumption | exact Mem.of_get at1 5 _ rfl)) ?_
  refine .m rfl rfl rfl (.cmp rfl rfl rfl) (.m rfl rfl rfl (.move rfl) ?_)
  refine .split (fun h13 => ?_) (fun h13 => ?_)
  ·
   simp only [sps] at h13
   refine .mg rfl rfl rfl rfl rfl (.move rfl) (.mg rfl rfl rfl rfl rfl (.len sl_29_Hk rfl) (.mg rfl rfl rfl rfl rfl (.cmp rfl rfl rfl) (.m rfl rfl rfl (.pickT rfl rfl) ?_)))
   refine .nil ?_
   refine hK6 _ _ ?_
   refine .cond rfl (fun h17 => ?_) (fun h17 => ?_)
   ·
    simp only [sps] at h17
    have htk : (d.coneL x).take 401 = d.coneL x := List.take_of_length_le (by have q := ln_L3; rw [List.length_take] at q; omega)
    have hcn : (d.coneL x).length ≤ 400 := by have q := ln_L3; rw [htk] at q; omega
    have hxo : (x : Int) < d.t.obj := by omega
    have hfit := Fun.con_par hI hxo
    refine .skip ?_
    refine hK5 _ _ ?_
    refine .seq (fun K7 hK7 => ?_)
    refine .block ?_
    refine .seq (fun K8 hK8 => ?_)
    refine .regionD mixed_orders_B (.q 0 (.q 1 (.q 2 (.q 3 (.q 4 (.q 6 (.q 7 (.q 8 (.q 9 (.c 5 1 (.c 10 0 (.q 11 (.done))))))))))))) (by kernel_rfl) ?_
    refine .m rfl rfl rfl rfl (.refl _) (.fieldAddr fo_34_0_E rfl) ?_
    refine .m rfl rfl rfl rfl (.refl _) (.loadM ag_32_D rfl (by assumption)) ?_
    refine .m rfl rfl rfl rfl (.refl _) (.fieldAddr fo_34_1_E rfl) ?_
    refine .m rfl rfl rfl rfl (.refl _) (.loadM ag_32_D rfl (by assumption)) ?_
    refine .m rfl rfl rfl rfl (.refl _) (.move rfl) ?_
    refine .m rfl rfl rfl rfl (.refl _) (.loadM ag_34_E rfl ⟨rfl, Mem.of_get at1⟩) ?_
    refine .m rfl rfl rfl rfl (.refl _) (.move rfl) (.m rfl rfl rfl rfl (.refl _) (.len sl_29_Hk rfl) ?_)
    refine .m rfl rfl rfl rfl (.refl _) (.sub (r := ((401 - (d.coneL x).length : Nat) : Int)) rfl rfl (by rw [ln_L3, htk]; omega) (by omega) (by omega)) ?_
    refine .call1 rfl rfl rfl rfl rfl @Try.call90 rfl (l06Constant_c (d := d) (y := x) hin hs hI hxo) ?_
    rintro _ H25 ⟨le25, p25, rfl, v25⟩
    have hbl := le25
    refine ⟨hbl, ?_⟩
    have nx_H25 := le25.1
    replace hle := hle.trans le25
    replace lst1 := lst1.le le25
    replace at1 := le25.2 _ _ at1
    replace at_L3 := le25.2 _ _ at_L3
    have bs_v25 := v25
    have lv_v25 : Keep HL1.next H25 H25 := fun _ _ _ h => h
    replace hin := base_hin.mono hle
    clear hb1 fs1 ft1 c101 c111 j11 j21 hm1 hi1 hms1 his1 hmt1 hit1
    have hb1 : Fun.At _ g1 0 d p := ⟨Mem.of_get at1, hin⟩
    obtain ⟨fs1, ft1, c101, c111, j11, j21⟩ := hb1.get
    have hm1 : MemN _ _ _ _ _ := ⟨rfl, hb1.1⟩
    have hi1 := hb1.2
    have hms1 : MemN _ _ _ _ _ := ⟨rfl, fs1.1⟩
    have his1 := fs1.2
    have hmt1 : MemN _ _ _ _ _ := ⟨rfl, ft1.1⟩
    have hit1 := ft1.2
    have i25 := v25.inn
    refine .call0 rfl rfl rfl rfl rfl @Try.call89 rfl (l07Find_c (iso := false) (M := 401 - (d.coneL x).length) (f := d.con x) (k := d) i25 hin hfit (by omega) (by omega)) ?_
    rintro _ H30 ⟨le30, a30, r30, rfl, v30⟩
    have nx_H30 := le30.1
    replace hle := hle.trans le30
    replace lst1 := lst1.le le30
    replace at1 := le30.2 _ _ at1
    replace at_L3 := le30.2 _ _ at_L3
    replace lv_v25 := Keep.le lv_v25 le30
    replace v25 := bs_v25.keep lv_v25 (Nat.le_refl _)
    have bs_v30 := v30
    have lv_v30 : Keep H25.next H30 H30 := fun _ _ _ h => h
    replace hin := base_hin.mono hle
    clear hb1 fs1 ft1 c101 c111 j11 j21 hm1 hi1 hms1 his1 hmt1 hit1
    have hb1 : Fun.At _ g1 0 d p := ⟨Mem.of_get at1, hin⟩
    obtain ⟨fs1, ft1, c101, c111, j11, j21⟩ := hb1.get
    have hm1 : MemN _ _ _ _ _ := ⟨rfl, hb1.1⟩
    have hi1 := hb1.2
    have hms1 : MemN _ _ _ _ _ := ⟨rfl, fs1.1⟩
    have his1 := fs1.2
    have hmt1 : MemN _ _ _ _ _ := ⟨rfl, ft1.1⟩
    have hit1 := ft1.2
    clear i25
    have i25 := v25.inn
    have i30 := v30.intss
    refine .m rfl rfl rfl rfl (.refl _) (.assign rfl) ?_
    refine .done ?_
    refine hK8 _ _ ?_
    refine .seq (fun K9 hK9 => ?_)
    refine .region ?_
    have hso := Fun.con_sols hI hxo
    have hFl : ((((d.con x).net d false).sols (d.con x).ob.length).take (401 - (d.coneL x).length)) = d.coneF x (d.coneL x).length := by rw [hso]; rfl
    have hFlen : ((((d.con x).net d false).sols (d.con x).ob.length).take (401 - (d.coneL x).length)).length = (d.coneF x (d.coneL x).length).length := by rw [hFl]
    have hFn : (d.coneF x (d.coneL x).length).length ≤ 401 := by unfold Fun.coneF; rw [List.length_take]; omega
    rw [htk, ← Fun.coneI_zero d x (d.coneL x).length] at at_L3 hR ln_L3
    refine .m rfl rfl rfl (.assign rfl) (.nil ?_)
    refine hK9 _ _ ?_
    refine .block ?_
    refine .loopR (σ := Nat × (Nat → Option Addr) × Nat × Nat) [(1, some _), (4, some _), (5, some _), (14, some _), (15, some _), (16, some _)] (fun (i, r2, gL3v2, nL3v2) => [(6, some (.int .i64 (i : Int))), (3, some (.slice (some ⟨gL3v2, 0, none⟩) nL3v2 nL3v2))]) (fun (i, r2, gL3v2, nL3v2) H' => St [gL3] H30 H' ∧ H'.get gL3v2 = some (.row (conV r2 (d.coneI x (d.coneL x).length i)) 42 true) ∧ (gL3v2 = gL3 ∨ H30.next ≤ gL3v2) ∧ nL3v2 = (d.coneI x (d.coneL x).length i).length ∧ i ≤ (d.coneF x (d.coneL x).length).length ∧ RowsN H.next H' r2 (d.coneI x (d.coneL x).length i) gL3v2) (fun (i, r2, gL3v2, nL3v2) => (d.coneF x (d.coneL x).length).length - i) ((0, rr, _, _)) ⟨rfl, rfl, rfl, rfl, rfl, rfl, trivial⟩ ⟨rfl, rfl, trivial⟩ ?_ ?_
    ·
     refine ⟨.refl _ _, by first | assumption | exact at_L3 | simpa using at_L3, .inl rfl, by first | rfl | assumption | simp | omega, ?_⟩
     exact ⟨by omega, hR.mono (le25.trans le30)⟩
    rintro ⟨i, r2, gL3v2, nL3v2⟩ HL2 ⟨lst2, at_L3v2, pl_L3v2, ln_L3v2, hI⟩ KL2 hKL2
    refine .forget (fr' := [(6, some (.int .i64 (i : Int))), (3, some (.slice (some ⟨gL3v2, 0, none⟩) nL3v2 nL3v2)), (1, some _), (4, some _), (5, some _), (14, some _), (15, some _), (16, some _)]) ⟨rfl, rfl, rfl, rfl, rfl, rfl, rfl, rfl, trivial⟩ ?_
    have ge_L3v2 : H.next ≤ gL3v2 := by omega
    have nx_HL2 := lst2.nx
    replace hle := hle.st lst2 (fun k hk => ⟨by omega, trivial⟩)
    replace lst1 := lst1.st lst2 (fun k hk ho => by simp only [out, and_true] at ho ⊢ <;> omega)
    replace at1 := lst2.same _ _ ⟨by omega, trivial⟩ at1
    replace lv_v25 := Keep.st lv_v25 lst2 (fun k hb hk => ⟨by omega, trivial⟩)
    replace v25 := bs_v25.keep lv_v25 (Nat.le_refl _)
    replace lv_v30 := Keep.st lv_v30 lst2 (fun k hb hk => ⟨by omega, trivial⟩)
    replace v30 := bs_v30.keep lv_v30 (Nat.le_refl _)
    have lt_at_L3v2 := GHeap.lt_of_get at_L3v2
    replace hin := base_hin.mono hle
    clear hb1 fs1 ft1 c101 c111 j11 j21 hm1 hi1 hms1 his1 hmt1 hit1
    have hb1 : Fun.At _ g1 0 d p := ⟨Mem.of_get at1, hin⟩
    obtain ⟨fs1, ft1, c101, c111, j11, j21⟩ := hb1.get
    have hm1 : MemN _ _ _ _ _ := ⟨rfl, hb1.1⟩
    have hi1 := hb1.2
    have hms1 : MemN _ _ _ _ _ := ⟨rfl, fs1.1⟩
    have his1 := fs1.2
    have hmt1 : MemN _ _ _ _ _ := ⟨rfl, ft1.1⟩
    have hit1 := ft1.2
    clear i25
    have i25 := v25.inn
    clear i30
    have i30 := v30.intss
    obtain ⟨hi, hR2⟩ := hI
    have hlen := Fun.coneI_len (d := d) (x := x) (i := i) rfl hcn
    have hcl2 := length_conV r2 (d.coneI x (d.coneL x).length i)
    refine .seq (fun K10 hK10 => ?_)
    refine .seq (fun K11 hK11 => ?_)
    refine .region (.m rfl rfl rfl (.move rfl) (.m rfl rfl rfl (.move rfl) (.m rfl rfl rfl (.len sl_23_B rfl) ?_)))
    refine .m rfl rfl rfl (.cmp rfl rfl rfl) (.nil ?_)
    refine hK11 _ _ ?_
    refine .cond rfl (fun h34 => ?_) (fun h34 => ?_)
    ·
     simp only [sps] at h34
     have hE2 : d.coneI x (d.coneL x).length (i + 1) = d.coneI x (d.coneL x).length i ++ [⟨(x : Int), ((((d.con x).net d false).sols (d.con x).ob.length).take (401 - (d.coneL x).length)).getD i []⟩] := by rw [hFl]; exact Fun.coneI_succ (by omega)
     refine .skip ?_
     refine hK10 _ _ ?_
     refine .seq (fun K12 hK12 => ?_)
     refine .block ?_
     refine .region (.m rfl rfl rfl (.move rfl) (.m rfl rfl rfl (.move rfl) (.m rfl rfl rfl (.move rfl) ?_)))
     refine .m rfl rfl rfl (.move rfl) ?_
     refine .m rfl rfl rfl (.idxN sl_23_B (Intss.sl (by assumption)) rfl rfl (by omega)) ?_
     refine .m rfl rfl rfl (.loadR on_22_B (by assumption) rfl (by omega)) ?_
     refine .m rfl rfl rfl (.build bt_42_Hk rfl rfl rfl) ?_
     refine .r rfl rfl rfl (.litR rfl sl_29_Hk ze_42_Hk rfl rfl (by omega) (by omega) rfl rfl) ?_
     rintro _ H44 ⟨g44, rfl, le44, ge44, at44⟩
     have nx_H44 := le44.1
     replace hle := hle.trans le44
     replace lst1 := lst1.le le44
     replace lst2 := lst2.le le44
     replace at1 := le44.2 _ _ at1
     replace at_L3v2 := le44.2 _ _ at_L3v2
     replace lv_v25 := Keep.le lv_v25 le44
     replace v25 := bs_v25.keep lv_v25 (Nat.le_refl _)
     replace lv_v30 := Keep.le lv_v30 le44
     replace v30 := bs_v30.keep lv_v30 (Nat.le_refl _)
     have lt_at44 := GHeap.lt_of_get at44
     replace hin := base_hin.mono hle
     clear hb1 fs1 ft1 c101 c111 j11 j21 hm1 hi1 hms1 his1 hmt1 hit1
     have hb1 : Fun.At _ g1 0 d p := ⟨Mem.of_get at1, hin⟩
     obtain ⟨fs1, ft1, c101, c111, j11, j21⟩ := hb1.get
     have hm1 : MemN _ _ _ _ _ := ⟨rfl, hb1.1⟩
     have hi1 := hb1.2
     have hms1 : MemN _ _ _ _ _ := ⟨rfl, fs1.1⟩
     have his1 := fs1.2
     have hmt1 : MemN _ _ _ _ _ := ⟨rfl, ft1.1⟩
     have hit1 := ft1.2
     clear i25
     have i25 := v25.inn
     clear i30
     have i30 := v30.intss
     refine .r rfl rfl rfl (.appendV rfl sl_29_Hk ze_42_Hk rfl by_42_Hk sl_29_Hk rfl rfl (by assumption) (by assumption) (by first | omega | (simp <;> omega)) rfl rfl (by omega) (by omega)) ?_
     rintro _ H45 ⟨g45, rfl, st45, ge45, at45⟩
     have nx_H45 := st45.nx
     replace hle := hle.st st45 (fun k hk => ⟨by omega, trivial⟩)
     replace lst1 := lst1.st st45 (fun k hk ho => by simp only [out, and_true] at ho ⊢ <;> omega)
     replace lst2 := lst2.st st45 (fun k hk ho => by simp only [out, and_true] at ho ⊢ <;> omega)
     replace at1 := st45.same _ _ ⟨by omega, trivial⟩ at1
     replace at44 := st45.same _ _ ⟨by omega, trivial⟩ at44
     replace lv_v25 := Keep.st lv_v25 st45 (fun k hb hk => ⟨by omega, trivial⟩)
     replace v25 := bs_v25.keep lv_v25 (Nat.le_refl _)
     replace lv_v30 := Keep.st lv_v30 st45 (fun k hb hk => ⟨by omega, trivial⟩)
     replace v30 := bs_v30.keep lv_v30 (Nat.le_refl _)
     have lt_at45 := GHeap.lt_of_get at45
     replace hin := base_hin.mono hle
     clear hb1 fs1 ft1 c101 c111 j11 j21 hm1 hi1 hms1 his1 hmt1 hit1
     have hb1 : Fun.At _ g1 0 d p := ⟨Mem.of_get at1, hin⟩
     obtain ⟨fs1, ft1, c101, c111, j11, j21⟩ := hb1.get
     have hm1 : MemN _ _ _ _ _ := ⟨rfl, hb1.1⟩
     have hi1 := hb1.2
     have hms1 : MemN _ _ _ _ _ := ⟨rfl, fs1.1⟩
     have his1 := fs1.2
     have hmt1 : MemN _ _ _ _ _ := ⟨rfl, ft1.1⟩
     have hit1 := ft1.2
     clear i25
     have i25 := v25.inn
     clear i30
     have i30 := v30.intss
     refine .m rfl rfl rfl (.assign rfl) (.nil ?_)
     refine hK12 _ _ ?_
     refine .region (.m rfl rfl rfl (.move rfl) ?_)
     refine .m rfl rfl rfl (.add rfl rfl rfl (by omega) (by omega)) ?_
     refine .m rfl rfl rfl (.assign rfl) (.nil ?_)
     refine hKL2 ((i + 1, upd r2 (d.coneI x (d.coneL x).length i).length (r30 i), _, _)) _ _ ?_ ?_ ⟨rfl, rfl, rfl, rfl, rfl, rfl, rfl, rfl, trivial⟩
     ·
      refine ⟨lst2, by first | assumption | (rw [hE2, conV_snoc]; assumption) | (rw [hE2]; assumption), by omega, by first | omega | (simp only [List.length_append, List.length_cons, List.length_nil] <;> omega) | (rw [hE2, conV_snoc] <;> (first | omega | (simp only [List.length_append, List.length_cons, List.length_nil] <;> omega))) | (rw [hE2] <;> (first | omega | (simp only [List.length_append, List.length_cons, List.length_nil] <;> omega))), ?_⟩
      obtain ⟨w1, y1, k1, k2, k3⟩ := bs_v30.rowAt (i := i) (by omega)
      obtain ⟨w2, y2, m1, m2, m3⟩ := v30.rowAt (i := i) (by omega)
      have hw : w1 = w2 := by rw [k1] at m1; cases m1; rfl
      subst hw
      have hwl := GHeap.lt_of_get k3
      rw [hE2]
      exact ⟨by omega, ((hR2.mono le44).turn st45 (by omega)).snoc ⟨w1, y2, m1, by omega, by omega, m3⟩⟩
     (dsimp only; omega)
    simp only [sps] at h34
    refine .exit ?_
    refine hK7 _ _ ?_
    refine .region (.m rfl rfl rfl (.move rfl) ?_)
    refine .m rfl rfl rfl (.add rfl rfl rfl (by omega) (by omega)) ?_
    refine .m rfl rfl rfl (.assign rfl) (.nil ?_)
    obtain rfl : i = (d.coneF x (d.coneL x).length).length := by omega
    have hE := Fun.coneI_all (d := d) (x := x) rfl hcn
    refine hKL1 ((x + 1, r2, _, _)) _ _ ?_ ?_ ⟨rfl, rfl, rfl, trivial⟩
    ·
     refine ⟨lst1, by first | assumption | (rw [← hE]; assumption), by omega, by first | omega | (simp only [List.length_append, List.length_cons, List.length_nil] <;> omega) | (rw [← hE] <;> (first | omega | (simp only [List.length_append, List.length_cons, List.length_nil] <;> omega))), ?_⟩
     exact ⟨by omega, by rw [← hE]; exact hR2⟩
    (dsimp only; omega)
   simp only [sps] at h17
   refine .exit ?_
   refine hK3 _ _ ?_
   refine .seq (fun K13 hK13 => ?_)
   refine .region (.m rfl rfl rfl (.move rfl) (.m rfl rfl rfl (.assign rfl) (.nil ?_)))
   refine hK13 _ _ ?_
   refine .ret ?_
   refine hret _ _ ?_
   refine ⟨_, rfl, ?_⟩
   have hcut := Fun.coneL_cut (d := d) (x := x) (n := d.t.obj.toNat) (by omega) (by omega)
   rw [hcut]
   exact ⟨hle, gL3, rr, by rw [ln_L3], hR.cons at_L3 (by omega)⟩
  simp only [sps] at h13
  refine .sg rfl rfl rfl rfl rfl (.sg rfl rfl rfl rfl rfl (.sg rfl rfl rfl rfl rfl (.m rfl rfl rfl (.pickF rfl rfl) ?_)))
  refine .nil ?_
  refine hK6 _ _ ?_
  refine .condF rfl ?_
  refine .exit ?_
  refine hK3 _ _ ?_
  refine .seq (fun K14 hK14 => ?_)
  refine .region (.m rfl rfl rfl (.move rfl) (.m rfl rfl rfl (.assign rfl) (.nil ?_)))
  refine hK14 _ _ ?_
  refine .ret ?_
  refine hret _ _ ?_
  refine ⟨_, rfl, ?_⟩
  have hxe : x = d.t.obj.toNat := by omega
  subst hxe
  exact ⟨hle, gL3, rr, by rw [ln_L3], hR.cons at_L3 (by omega)⟩
end Go.Proofs.Ytpmjlhbglcaokaa
/- The legs of cones: the program's search. No condition but those of each statement. -/
namespace Go.Proofs.Ytpmjlhbglcaokaa
open Go Go.GL Go.RowKit Go.Proofs
theorem on_105_Hh : oneT Try.prog 105 = true := by kernel_rfl
theorem on_67_Hh : oneT Try.prog 67 = true := by kernel_rfl
theorem on_81_Hh : oneT Try.prog 81 = true := by kernel_rfl
theorem sz_67_Hh : (Try.prog.info? 67).map (·.size) = some 1 := by kernel_rfl
theorem sz_105_Hh : (Try.prog.info? 105).map (·.size) = some 1 := by kernel_rfl
theorem sz_92_Hh : (Try.prog.info? 92).map (·.size) = some 1 := by kernel_rfl
theorem ze_81_Hh : zeroT Try.prog 81 = some ([.nilFunc], 1) := by kernel_rfl
theorem sz_81_Hh : (Try.prog.info? 81).map (·.size) = some 1 := by kernel_rfl
/-- The variables that the search's function holds. -/
structure LgBox (gf of gc N fn fc : Nat) (w : Int) (cap : Array Value) (b1 b2 b3 b4 b5 b6 b7 : Nat) (H : GHeap) : Prop where
  k1 : H.get b1 = some (.row [.pointer (some ⟨gf, of + 0, none⟩)] 92 true)
  k2 : H.get b2 = some (.row [.func (.func fn) #[] cap] 105 true)
  k3 : H.get b3 = some (.row [.slice (some ⟨gc, 0, none⟩) N N] 22 true)
  k4 : H.get b4 = some (.row [.pointer (some ⟨gf, of + 5, none⟩)] 92 true)
  k5 : H.get b5 = some (.row [.int .i64 w] 2 true)
  k6 : H.get b6 = some (.row [.pointer (some ⟨gf, of, none⟩)] 67 true)
  k7 : H.get b7 = some (.row [.func (.func fc) #[] #[.pointer (some ⟨b1, 0, none⟩), .pointer (some ⟨b2, 0, none⟩), .pointer (some ⟨b3, 0, none⟩), .pointer (some ⟨b4, 0, none⟩), .pointer (some ⟨b5, 0, none⟩), .pointer (some ⟨b6, 0, none⟩), .pointer (some ⟨b7, 0, none⟩)]] 81 true)
def lgCap (b1 b2 b3 b4 b5 b6 b7 : Nat) : List Value := [.pointer (some ⟨b1, 0, none⟩), .pointer (some ⟨b2, 0, none⟩), .pointer (some ⟨b3, 0, none⟩), .pointer (some ⟨b4, 0, none⟩), .pointer (some ⟨b5, 0, none⟩), .pointer (some ⟨b6, 0, none⟩), .pointer (some ⟨b7, 0, none⟩)]
def LgSpec (f : Fun) (w : Int) (A : Nat → List (List Int) → Nat → GHeap → Prop) (most e0 g1 b gf of gc fn : Nat) (cap : Array Value) (b1 b2 b3 b4 b5 b6 b7 : Nat) (H0 : GHeap) (r : Nat) : Prop :=
  ∀ (x gF : Nat) (co : List Int) (fs : List (List Int)) (H : GHeap), x + r = f.ob.length → H0.Le H → LgBox gf of gc f.ob.length fn 95 w cap b1 b2 b3 b4 b5 b6 b7 H → H.get gc = some (.row (ints co) 2 true) → co.length = f.ob.length →
    (∀ i, i < x → 0 ≤ co.getD i 0 ∧ co.getD i 0 < f.t.src.length) → A b fs gF H → fs.length ≤ most → gF < H.next → H0.next ≤ gF → (gF < e0 ∨ b ≤ gF) → b ≤ H.next →
    GCalls Try.prog 95 (.int .i64 (x : Int) :: lgCap b1 b2 b3 b4 b5 b6 b7) H (fun v H' => ∃ gF' co', v = .bool (decide (fs.length + (searchL (f.cnet w).cand (f.cnet w).ok r (co.take x)).length ≤ most)) ∧ (gF' = gF ∨ H.next ≤ gF') ∧ gF' < H'.next ∧ St [gc, g1, gF] H H' ∧
      H'.get gc = some (.row (ints co') 2 true) ∧ co'.length = f.ob.length ∧ co'.take x = co.take x ∧ A b ((fs ++ searchL (f.cnet w).cand (f.cnet w).ok r (co.take x)).take (most + 1)) gF' H')
set_option maxHeartbeats 4000000 in
theorem legs0_c {f : Fun} {p : FunP} {w : Int} {A : Nat → List (List Int) → Nat → GHeap → Prop} {most e0 g1 b gf of gc fn : Nat} {cap : Array Value} {b1 b2 b3 b4 b5 b6 b7 : Nat} {H0 : GHeap} (hf : Fun.At H0 gf of f p) (hP : f.Is)
    (hH : Hears Try.prog fn cap e0 g1 most 2 A)
    (he0 : H0.next ≤ e0) (hg1 : H0.next ≤ g1) (hg2 : g1 < e0) (c0 : e0 ≤ gc ∧ gc < b) (c1 : e0 ≤ b1 ∧ b1 < b ∧ b1 ≠ gc) (c2 : e0 ≤ b2 ∧ b2 < b ∧ b2 ≠ gc) (c3 : e0 ≤ b3 ∧ b3 < b ∧ b3 ≠ gc) (c4 : e0 ≤ b4 ∧ b4 < b ∧ b4 ≠ gc) (c5 : e0 ≤ b5 ∧ b5 < b ∧ b5 ≠ gc) (c6 : e0 ≤ b6 ∧ b6 < b ∧ b6 ≠ gc) (c7 : e0 ≤ b7 ∧ b7 < b ∧ b7 ≠ gc) :
    LgSpec f w A most e0 g1 b gf of gc fn cap b1 b2 b3 b4 b5 b6 b7 H0 0 := by
  have hs := hP.1.1
  have n40 := hs.n40
  have hol := hP.2.2.ol
  have hob := hs.obj
  have htl := hs.tl
  have hal2 := hP.2.2.al
  have ht40 := hP.2.1.1.n40
  have hTS := hP.2.1.1
  have hcl0 := hTS.cl
  intro x gF co fs H hx hle0 hB hgc hl hr hA hfs hF hF0 hF1 hb
  obtain ⟨k1, k2, k3, k4, k5, k6, k7⟩ := hB
  refine GCalls.body (N := 94) (rs := [.tmp 9]) Try.func95 rfl rfl rfl rfl (fun Qx hret hend => ?_)
  refine .forget (fr' := [(0, some _), (1, some _), (2, some _), (3, some _), (4, some _), (5, some _), (6, some _), (7, some _)]) ⟨rfl, rfl, rfl, rfl, rfl, rfl, rfl, rfl, trivial⟩ ?_
  have lt_k1 := GHeap.lt_of_get k1
  have lt_k2 := GHeap.lt_of_get k2
  have lt_k3 := GHeap.lt_of_get k3
  have lt_k4 := GHeap.lt_of_get k4
  have lt_k5 := GHeap.lt_of_get k5
  have lt_k6 := GHeap.lt_of_get k6
  have lt_k7 := GHeap.lt_of_get k7
  have lt_hgc := GHeap.lt_of_get hgc
  have hfo := St.refl [gc, g1, gF] H
  have hz := hle0.st hfo (fun k hk => ⟨by omega, by omega, by omega, trivial⟩)
  have hF2 := hf.mono hz
  obtain ⟨fsf, ftf, c10f, c11f, j1f, j2f⟩ := hF2.get
  have hmf : MemN _ _ _ _ _ := ⟨rfl, hF2.1⟩
  have hif := hF2.2
  have hmsf : MemN _ _ _ _ _ := ⟨rfl, fsf.1⟩
  have hisf := fsf.2
  have hmtf : MemN _ _ _ _ _ := ⟨rfl, ftf.1⟩
  have hitf := ftf.2
  obtain ⟨s0, s1, s2, s3, s4, u1, u2, u3, u4⟩ := fsf.get
  refine .seq (fun K1 hK1 => ?_)
  refine .region (.m rfl rfl rfl (.assign rfl) (.nil ?_))
  refine hK1 _ _ ?_
  refine .scope ?_
  refine .seq (fun K2 hK2 => ?_)
  refine .seq (fun K3 hK3 => ?_)
  refine .region (.m rfl rfl rfl (.move rfl) ?_)
  refine .m rfl rfl rfl (.load on_92_F rfl (by first | assumption | exact Mem.of_get k1 0 _ rfl)) ?_
  refine .m rfl rfl rfl (.nilCheck rfl) (.m rfl rfl rfl (.fieldAddr fo_32_0_B rfl) ?_)
  refine .m rfl rfl rfl (.load on_2_A rfl (by assumption)) ?_
  refine .m rfl rfl rfl (.cmp rfl rfl rfl) (.nil ?_)
  refine hK3 _ _ ?_
  refine .cond rfl (fun h21 => ?_) (fun h21 => ?_)
  ·
   try simp only [sps] at h21
   refine .seq (fun K4 hK4 => ?_)
   refine .region ?_
   refine .m rfl rfl rfl (.load on_105_Hh rfl (by first | assumption | exact Mem.of_get k2 0 _ rfl)) ?_
   refine .m rfl rfl rfl (.load on_22_B rfl (by first | assumption | exact Mem.of_get k3 0 _ rfl)) ?_
   refine .callV rfl rfl rfl rfl rfl hH.code rfl ((show GCalls _ fn ([.slice (some ⟨gc, 0, none⟩) f.ob.length f.ob.length] ++ cap.toList) _ _ from hl ▸ hH.run hA c0.1 c0.2 (by omega) hb hgc hfs (by omega) hF)) ?_
   rintro _ H24 ⟨rfl, gF24, hg24, hl24, st24, hA24⟩
   have nx_H24 := st24.nx
   replace hfo := hfo.st st24 (fun k hk ho => by simp only [out, and_true] at ho ⊢ <;> omega)
   replace k1 := st24.same _ _ ⟨by omega, by omega, trivial⟩ k1
   replace k2 := st24.same _ _ ⟨by omega, by omega, trivial⟩ k2
   replace k3 := st24.same _ _ ⟨by omega, by omega, trivial⟩ k3
   replace k4 := st24.same _ _ ⟨by omega, by omega, trivial⟩ k4
   replace k5 := st24.same _ _ ⟨by omega, by omega, trivial⟩ k5
   replace k6 := st24.same _ _ ⟨by omega, by omega, trivial⟩ k6
   replace k7 := st24.same _ _ ⟨by omega, by omega, trivial⟩ k7
   replace hgc := st24.same _ _ ⟨by omega, by omega, trivial⟩ hgc
   clear hz hF2 fsf ftf c10f c11f j1f j2f hmf hif hmsf hisf hmtf hitf s0 s1 s2 s3 s4 u1 u2 u3 u4
   have hz := hle0.st hfo (fun k hk => ⟨by omega, by omega, by omega, trivial⟩)
   have hF2 := hf.mono hz
   obtain ⟨fsf, ftf, c10f, c11f, j1f, j2f⟩ := hF2.get
   have hmf : MemN _ _ _ _ _ := ⟨rfl, hF2.1⟩
   have hif := hF2.2
   have hmsf : MemN _ _ _ _ _ := ⟨rfl, fsf.1⟩
   have hisf := fsf.2
   have hmtf : MemN _ _ _ _ _ := ⟨rfl, ftf.1⟩
   have hitf := ftf.2
   obtain ⟨s0, s1, s2, s3, s4, u1, u2, u3, u4⟩ := fsf.get
   refine .m rfl rfl rfl (.assign rfl) (.nil ?_)
   refine hK4 _ _ ?_
   refine .ret ?_
   refine hret _ _ ?_
   refine ⟨_, rfl, ?_⟩
   have hx0 : co.take x = co := List.take_of_length_le (by omega)
   refine ⟨gF24, co, ?_, hg24, hl24, hfo, hgc, hl, rfl, ?_⟩
   · rw [hx0]; rfl
   · rw [hx0, show searchL (f.cnet w).cand (f.cnet w).ok 0 co = [co] from rfl, List.take_of_length_le (by simp; omega)]
     exact hA24
  simp only [sps] at h21; omega
set_option maxHeartbeats 4000000 in
theorem legsS_c {f : Fun} {p : FunP} {w : Int} {A : Nat → List (List Int) → Nat → GHeap → Prop} {most e0 g1 b gf of gc fn : Nat} {cap : Array Value} {b1 b2 b3 b4 b5 b6 b7 : Nat} {H0 : GHeap} (hf : Fun.At H0 gf of f p) (hP : f.Is)
    (hH : Hears Try.prog fn cap e0 g1 most 2 A)
    (he0 : H0.next ≤ e0) (hg1 : H0.next ≤ g1) (hg2 : g1 < e0) (c0 : e0 ≤ gc ∧ gc < b) (c1 : e0 ≤ b1 ∧ b1 < b ∧ b1 ≠ gc) (c2 : e0 ≤ b2 ∧ b2 < b ∧ b2 ≠ gc) (c3 : e0 ≤ b3 ∧ b3 < b ∧ b3 ≠ gc) (c4 : e0 ≤ b4 ∧ b4 < b ∧ b4 ≠ gc) (c5 : e0 ≤ b5 ∧ b5 < b ∧ b5 ≠ gc) (c6 : e0 ≤ b6 ∧ b6 < b ∧ b6 ≠ gc) (c7 : e0 ≤ b7 ∧ b7 < b ∧ b7 ≠ gc) {r : Nat} (ih : LgSpec f w A most e0 g1 b gf of gc fn cap b1 b2 b3 b4 b5 b6 b7 H0 r) :
    LgSpec f w A most e0 g1 b gf of gc fn cap b1 b2 b3 b4 b5 b6 b7 H0 (r + 1) := by
  have hs := hP.1.1
  have n40 := hs.n40
  have hol := hP.2.2.ol
  have hob := hs.obj
  have htl := hs.tl
  have hal2 := hP.2.2.al
  have ht40 := hP.2.1.1.n40
  have hTS := hP.2.1.1
  have hcl0 := hTS.cl
  intro x gF co fs H hx hle0 hB hgc hl hr hA hfs hF hF0 hF1 hb
  obtain ⟨k1, k2, k3, k4, k5, k6, k7⟩ := hB
  refine GCalls.body (N := 94) (rs := [.tmp 9]) Try.func95 rfl rfl rfl rfl (fun Qx hret hend => ?_)
  refine .forget (fr' := [(0, some _), (1, some _), (2, some _), (3, some _), (4, some _), (5, some _), (6, some _), (7, some _)]) ⟨rfl, rfl, rfl, rfl, rfl, rfl, rfl, rfl, trivial⟩ ?_
  have lt_k1 := GHeap.lt_of_get k1
  have lt_k2 := GHeap.lt_of_get k2
  have lt_k3 := GHeap.lt_of_get k3
  have lt_k4 := GHeap.lt_of_get k4
  have lt_k5 := GHeap.lt_of_get k5
  have lt_k6 := GHeap.lt_of_get k6
  have lt_k7 := GHeap.lt_of_get k7
  have lt_hgc := GHeap.lt_of_get hgc
  have hfo := St.refl [gc, g1, gF] H
  have hz := hle0.st hfo (fun k hk => ⟨by omega, by omega, by omega, trivial⟩)
  have hF2 := hf.mono hz
  obtain ⟨fsf, ftf, c10f, c11f, j1f, j2f⟩ := hF2.get
  have hmf : MemN _ _ _ _ _ := ⟨rfl, hF2.1⟩
  have hif := hF2.2
  have hmsf : MemN _ _ _ _ _ := ⟨rfl, fsf.1⟩
  have hisf := fsf.2
  have hmtf : MemN _ _ _ _ _ := ⟨rfl, ftf.1⟩
  have hitf := ftf.2
  obtain ⟨s0, s1, s2, s3, s4, u1, u2, u3, u4⟩ := fsf.get
  refine .seq (fun K1 hK1 => ?_)
  refine .region (.m rfl rfl rfl (.assign rfl) (.nil ?_))
  refine hK1 _ _ ?_
  refine .scope ?_
  refine .seq (fun K2 hK2 => ?_)
  refine .seq (fun K3 hK3 => ?_)
  refine .region (.m rfl rfl rfl (.move rfl) ?_)
  refine .m rfl rfl rfl (.load on_92_F rfl (by first | assumption | exact Mem.of_get k1 0 _ rfl)) ?_
  refine .m rfl rfl rfl (.nilCheck rfl) (.m rfl rfl rfl (.fieldAddr fo_32_0_B rfl) ?_)
  refine .m rfl rfl rfl (.load on_2_A rfl (by assumption)) ?_
  refine .m rfl rfl rfl (.cmp rfl rfl rfl) (.nil ?_)
  refine hK3 _ _ ?_
  refine .cond rfl (fun h21 => ?_) (fun h21 => ?_)
  ·
   simp only [sps] at h21; omega
  try simp only [sps] at h21
  refine .skip ?_
  refine hK2 _ _ ?_
  refine .seq (fun K4 hK4 => ?_)
  refine .label ?_
  refine hK4 _ _ ?_
  refine .seq (fun K5 hK5 => ?_)
  refine .seq (fun K6 hK6 => ?_)
  refine .regionD mixed_orders_B (.q 0 (.q 1 (.q 2 (.q 3 (.q 4 (.q 5 (.q 6 (.q 7 (.q 8 (.q 11 (.c 9 1 (.q 10 (.done))))))))))))) (by kernel_rfl) ?_
  refine .m rfl rfl rfl rfl (.refl _) (.load on_92_F rfl (by first | assumption | exact Mem.of_get k4 0 _ rfl)) ?_
  refine .m rfl rfl rfl rfl (.refl _) (.load on_2_A rfl (by first | assumption | exact Mem.of_get k5 0 _ rfl)) ?_
  refine .m rfl rfl rfl rfl (.refl _) (.load on_67_Hh rfl (by first | assumption | exact Mem.of_get k6 0 _ rfl)) ?_
  refine .m rfl rfl rfl rfl (.refl _) (.nilCheck rfl) (.m rfl rfl rfl rfl (.refl _) (.fieldAddr fo_34_2_E rfl) ?_)
  refine .m rfl rfl rfl rfl (.refl _) (.load on_22_B rfl (by assumption)) ?_
  refine .m rfl rfl rfl rfl (.refl _) (.move rfl) ?_
  refine .m rfl rfl rfl rfl (.refl _) (.idxN sl_22_A (by assumption) rfl rfl (by omega)) ?_
  refine .m rfl rfl rfl rfl (.refl _) (.loadI on_2_A (by assumption) rfl (by omega)) ?_
  refine .m rfl rfl rfl rfl (.refl _) (.move rfl) ?_
  refine .call1 rfl rfl rfl rfl rfl @Try.call84 rfl (hom_c (c := f.t)) ?_
  rintro _ H34 ⟨le34, g34, rfl, at34, ge34⟩
  have hbl := le34
  refine ⟨hbl, ?_⟩
  have nx_H34 := le34.1
  replace hfo := hfo.le le34
  replace k1 := le34.2 _ _ k1
  replace k2 := le34.2 _ _ k2
  replace k3 := le34.2 _ _ k3
  replace k4 := le34.2 _ _ k4
  replace k5 := le34.2 _ _ k5
  replace k6 := le34.2 _ _ k6
  replace k7 := le34.2 _ _ k7
  replace hgc := le34.2 _ _ hgc
  have lt_at34 := GHeap.lt_of_get at34
  clear hz hF2 fsf ftf c10f c11f j1f j2f hmf hif hmsf hisf hmtf hitf s0 s1 s2 s3 s4 u1 u2 u3 u4
  have hz := hle0.st hfo (fun k hk => ⟨by omega, by omega, by omega, trivial⟩)
  have hF2 := hf.mono hz
  obtain ⟨fsf, ftf, c10f, c11f, j1f, j2f⟩ := hF2.get
  have hmf : MemN _ _ _ _ _ := ⟨rfl, hF2.1⟩
  have hif := hF2.2
  have hmsf : MemN _ _ _ _ _ := ⟨rfl, fsf.1⟩
  have hisf := fsf.2
  have hmtf : MemN _ _ _ _ _ := ⟨rfl, ftf.1⟩
  have hitf := ftf.2
  obtain ⟨s0, s1, s2, s3, s4, u1, u2, u3, u4⟩ := fsf.get
  have i34 := Ints.of_get at34
  have hhl := Cat.hom_le f.t w (f.ob.getD x 0)
  refine .m rfl rfl rfl rfl hbl (.len sl_22_A rfl) ?_
  refine .done ?_
  refine hK6 _ _ ?_
  refine .block ?_
  refine .loopR (σ := Nat × Nat × List Int) [(0, some _), (1, some _), (3, some _), (4, some _), (6, some _), (7, some _), (34, some _), (35, some _)] (fun (j, gV, co') => [(36, some (.int .i64 (j : Int)))]) (fun (j, gV, co') H' => St [gc, g1, gF] H34 H' ∧ H'.get gc = some (.row (ints co') 2 true) ∧ j ≤ (f.t.hom w (f.ob.getD x 0)).length ∧ co'.length = f.ob.length ∧ co'.take x = co.take x ∧ (gV = gF ∨ H34.next ≤ gV) ∧ gV < H'.next ∧ A b (fs ++ chP (f.cnet w) (fun _ => true) r (co.take x) (f.t.hom w (f.ob.getD x 0)) j) gV H' ∧ (fs ++ chP (f.cnet w) (fun _ => true) r (co.take x) (f.t.hom w (f.ob.getD x 0)) j).length ≤ most) (fun (j, gV, co') => (f.t.hom w (f.ob.getD x 0)).length - j) ((0, gF, co)) ⟨rfl, rfl, rfl, rfl, rfl, rfl, rfl, rfl, trivial⟩ ⟨rfl, trivial⟩ ?_ ?_
  ·
   refine ⟨.refl _ _, by first | assumption | exact hgc | simpa using hgc, ?_⟩
   rw [chP_zero, List.append_nil]
   exact ⟨by omega, hl, rfl, .inl rfl, by omega, hH.le hA le34, hfs⟩
  rintro ⟨j, gV, co'⟩ HL1 ⟨lst1, at_Lgc, hI⟩ KL1 hKL1
  refine .forget (fr' := [(36, some (.int .i64 (j : Int))), (0, some _), (1, some _), (3, some _), (4, some _), (6, some _), (7, some _), (34, some _), (35, some _)]) ⟨rfl, rfl, rfl, rfl, rfl, rfl, rfl, rfl, rfl, trivial⟩ ?_
  have nx_HL1 := lst1.nx
  replace hfo := hfo.st lst1 (fun k hk ho => by simp only [out, and_true] at ho ⊢ <;> omega)
  replace k1 := lst1.same _ _ ⟨by omega, by omega, by omega, trivial⟩ k1
  replace k2 := lst1.same _ _ ⟨by omega, by omega, by omega, trivial⟩ k2
  replace k3 := lst1.same _ _ ⟨by omega, by omega, by omega, trivial⟩ k3
  replace k4 := lst1.same _ _ ⟨by omega, by omega, by omega, trivial⟩ k4
  replace k5 := lst1.same _ _ ⟨by omega, by omega, by omega, trivial⟩ k5
  replace k6 := lst1.same _ _ ⟨by omega, by omega, by omega, trivial⟩ k6
  replace k7 := lst1.same _ _ ⟨by omega, by omega, by omega, trivial⟩ k7
  replace at34 := lst1.same _ _ ⟨by omega, by omega, by omega, trivial⟩ at34
  have lt_at_Lgc := GHeap.lt_of_get at_Lgc
  clear hz hF2 fsf ftf c10f c11f j1f j2f hmf hif hmsf hisf hmtf hitf s0 s1 s2 s3 s4 u1 u2 u3 u4
  have hz := hle0.st hfo (fun k hk => ⟨by omega, by omega, by omega, trivial⟩)
  have hF2 := hf.mono hz
  obtain ⟨fsf, ftf, c10f, c11f, j1f, j2f⟩ := hF2.get
  have hmf : MemN _ _ _ _ _ := ⟨rfl, hF2.1⟩
  have hif := hF2.2
  have hmsf : MemN _ _ _ _ _ := ⟨rfl, fsf.1⟩
  have hisf := fsf.2
  have hmtf : MemN _ _ _ _ _ := ⟨rfl, ftf.1⟩
  have hitf := ftf.2
  obtain ⟨s0, s1, s2, s3, s4, u1, u2, u3, u4⟩ := fsf.get
  clear i34
  have i34 := Ints.of_get at34
  obtain ⟨hj, hcl, hct, hgV, hgl, hAL, hfl⟩ := hI
  refine .seq (fun K7 hK7 => ?_)
  refine .region (.m rfl rfl rfl (.cmp rfl rfl rfl) (.nil ?_))
  refine hK7 _ _ ?_
  refine .seq (fun K8 hK8 => ?_)
  refine .cond rfl (fun h37 => ?_) (fun h37 => ?_)
  ·
   simp only [sps] at h37
   obtain ⟨v, v1, v2, v3, v4⟩ := Cat.hom_get (c := f.t) (x := w) (y := f.ob.getD x 0) (i := j) (by omega)
   refine .skip ?_
   refine hK8 _ _ ?_
   refine .seq (fun K9 hK9 => ?_)
   refine .block ?_
   refine .seq (fun K10 hK10 => ?_)
   refine .region ?_
   refine .m rfl rfl rfl (.idxN sl_22_A (by first | assumption | exact SlA.of_row at34 (by first | rfl | (simp; done) | (simp <;> omega))) rfl rfl (by omega)) ?_
   refine .m rfl rfl rfl (.loadI on_2_A (by first | assumption | exact Ints.of_get at34) rfl (by omega)) ?_
   refine .m rfl rfl rfl (.assign rfl) (.nil ?_)
   refine hK10 _ _ ?_
   refine .seq (fun K11 hK11 => ?_)
   refine .region ?_
   refine .m rfl rfl rfl (.load on_22_B rfl (by first | assumption | exact Mem.of_get k3 0 _ rfl)) ?_
   refine .m rfl rfl rfl (.move rfl) (.m rfl rfl rfl (.move rfl) ?_)
   refine .m rfl rfl rfl (.idxN sl_22_A (by first | assumption | exact SlA.of_row at_Lgc (by first | rfl | (simp; done) | (simp <;> omega))) rfl rfl (by omega)) ?_
   refine .r0 rfl rfl (.storeI rfl sz_2_E rfl rfl (by assumption) (by first | omega | (simp <;> omega))) ?_
   rintro _ H6004 ⟨rfl, st6004, at6004⟩
   have nx_H6004 := st6004.nx
   replace hfo := hfo.st st6004 (fun k hk ho => by simp only [out, and_true] at ho ⊢ <;> omega)
   replace lst1 := lst1.st st6004 (fun k hk ho => by simp only [out, and_true] at ho ⊢ <;> omega)
   replace k1 := st6004.same _ _ ⟨by omega, trivial⟩ k1
   replace k2 := st6004.same _ _ ⟨by omega, trivial⟩ k2
   replace k3 := st6004.same _ _ ⟨by omega, trivial⟩ k3
   replace k4 := st6004.same _ _ ⟨by omega, trivial⟩ k4
   replace k5 := st6004.same _ _ ⟨by omega, trivial⟩ k5
   replace k6 := st6004.same _ _ ⟨by omega, trivial⟩ k6
   replace k7 := st6004.same _ _ ⟨by omega, trivial⟩ k7
   replace at34 := st6004.same _ _ ⟨by omega, trivial⟩ at34
   have lt_at6004 := GHeap.lt_of_get at6004
   clear hz hF2 fsf ftf c10f c11f j1f j2f hmf hif hmsf hisf hmtf hitf s0 s1 s2 s3 s4 u1 u2 u3 u4
   have hz := hle0.st hfo (fun k hk => ⟨by omega, by omega, by omega, trivial⟩)
   have hF2 := hf.mono hz
   obtain ⟨fsf, ftf, c10f, c11f, j1f, j2f⟩ := hF2.get
   have hmf : MemN _ _ _ _ _ := ⟨rfl, hF2.1⟩
   have hif := hF2.2
   have hmsf : MemN _ _ _ _ _ := ⟨rfl, fsf.1⟩
   have hisf := fsf.2
   have hmtf : MemN _ _ _ _ _ := ⟨rfl, ftf.1⟩
   have hitf := ftf.2
   obtain ⟨s0, s1, s2, s3, s4, u1, u2, u3, u4⟩ := fsf.get
   clear i34
   have i34 := Ints.of_get at34
   rw [Nat.zero_add] at at6004
   refine .nil ?_
   refine hK11 _ _ ?_
   refine .seq (fun K12 hK12 => ?_)
   refine .seq (fun K13 hK13 => ?_)
   refine .region ?_
   have hv : ∀ i, i ≤ x → 0 ≤ (co'.set x ((f.t.hom w (f.ob.getD x 0)).getD j 0)).getD i 0 ∧ (co'.set x ((f.t.hom w (f.ob.getD x 0)).getD j 0)).getD i 0 < f.t.src.length ∧ (co'.set x ((f.t.hom w (f.ob.getD x 0)).getD j 0)).getD i 0 = (co.take x ++ [(f.t.hom w (f.ob.getD x 0)).getD j 0]).getD i 0 := fun i hi => by
     refine ⟨?_, ?_, by rw [take_set_getD (by omega) hi, hct]⟩
     · rw [getD_set (by omega)]
       split
       · omega
       · rw [takeD hct (by omega)]; exact (hr i (by omega)).1
     · rw [getD_set (by omega)]
       split
       · omega
       · rw [takeD hct (by omega)]; exact (hr i (by omega)).2
   have hpl : (co.take x).length = x := by rw [List.length_take]; omega
   have hsl : (co'.set x ((f.t.hom w (f.ob.getD x 0)).getD j 0)).length = f.ob.length := by rw [List.length_set]; exact hcl
   refine .m rfl rfl rfl (.load on_67_Hh rfl (by first | assumption | exact Mem.of_get k6 0 _ rfl)) ?_
   refine .m rfl rfl rfl (.nilCheck rfl) (.m rfl rfl rfl (.fieldAddr fo_34_3_E rfl) ?_)
   refine .m rfl rfl rfl (.load on_22_B rfl (by assumption)) ?_
   refine .m rfl rfl rfl (.len sl_22_A rfl) (.m rfl rfl rfl (.move rfl) (.nil ?_))
   refine hK13 _ _ ?_
   refine .block ?_
   refine .loopR (σ := Nat) [(0, some _), (1, some _), (3, some _), (4, some _), (6, some _), (7, some _), (34, some _), (35, some _), (36, some _), (47, some _), (48, some _)] (fun a => [(49, some (.int .i64 (a : Int)))]) (fun a H' => H6004 = H' ∧ a ≤ f.ar.length ∧ allN a ((f.cnet w).okAt (co.take x ++ [(f.t.hom w (f.ob.getD x 0)).getD j 0]) x) = true) (fun a => f.ar.length - a) (0) ⟨rfl, rfl, rfl, rfl, rfl, rfl, rfl, rfl, rfl, rfl, rfl, trivial⟩ ⟨rfl, trivial⟩ ?_ ?_
   ·
    refine ⟨rfl, ?_⟩
    exact ⟨by omega, rfl⟩
   rintro a _ ⟨rfl, hI⟩ KL2 hKL2
   refine .forget (fr' := [(49, some (.int .i64 (a : Int))), (0, some _), (1, some _), (3, some _), (4, some _), (6, some _), (7, some _), (34, some _), (35, some _), (36, some _), (47, some _), (48, some _)]) ⟨rfl, rfl, rfl, rfl, rfl, rfl, rfl, rfl, rfl, rfl, rfl, rfl, trivial⟩ ?_
   obtain ⟨ha, hb1⟩ := hI
   refine .seq (fun K14 hK14 => ?_)
   refine .region (.m rfl rfl rfl (.cmp rfl rfl rfl) (.nil ?_))
   refine hK14 _ _ ?_
   refine .seq (fun K15 hK15 => ?_)
   refine .cond rfl (fun h50 => ?_) (fun h50 => ?_)
   ·
    simp only [sps] at h50
    have a1 := hs.src a (by omega)
    have a2 := hs.tgt a (by omega)
    have a3 := hP.2.2.ar a (by omega)
    refine .skip ?_
    refine hK15 _ _ ?_
    refine .seq (fun K16 hK16 => ?_)
    refine .block ?_
    refine .seq (fun K17 hK17 => ?_)
    refine .region (.m rfl rfl rfl (.move rfl) ?_)
    refine .m rfl rfl rfl (.idxN sl_22_A (by assumption) rfl rfl (by omega)) ?_
    refine .m rfl rfl rfl (.loadI on_2_A (by assumption) rfl (by omega)) ?_
    refine .m rfl rfl rfl (.assign rfl) (.m rfl rfl rfl (.assign rfl) (.nil ?_))
    refine hK17 _ _ ?_
    refine .seq (fun K18 hK18 => ?_)
    refine .regionD mixed_orders_B (.q 0 (.q 1 (.q 2 (.q 3 (.q 4 (.q 5 (.q 6 (.q 7 (.q 8 (.q 9 (.q 10 (.q 11 (.q 12 (.q 13 (.q 14 (.q 15 (.done))))))))))))))))) (by kernel_rfl) ?_
    refine .m rfl rfl rfl rfl (.refl _) (.load on_92_F rfl (by first | assumption | exact Mem.of_get k1 0 _ rfl)) ?_
    refine .m rfl rfl rfl rfl (.refl _) (.nilCheck rfl) (.m rfl rfl rfl rfl (.refl _) (.fieldAddr fo_32_1_B rfl) ?_)
    refine .m rfl rfl rfl rfl (.refl _) (.load on_22_B rfl (by assumption)) ?_
    refine .m rfl rfl rfl rfl (.refl _) (.move rfl) ?_
    refine .m rfl rfl rfl rfl (.refl _) (.idxN sl_22_A (by assumption) rfl rfl (by omega)) ?_
    refine .m rfl rfl rfl rfl (.refl _) (.loadI on_2_A (by assumption) rfl (by omega)) ?_
    refine .m rfl rfl rfl rfl (.refl _) (.load on_92_F rfl (by first | assumption | exact Mem.of_get k1 0 _ rfl)) ?_
    refine .m rfl rfl rfl rfl (.refl _) (.nilCheck rfl) (.m rfl rfl rfl rfl (.refl _) (.fieldAddr fo_32_2_B rfl) ?_)
    refine .m rfl rfl rfl rfl (.refl _) (.load on_22_B rfl (by assumption)) ?_
    refine .m rfl rfl rfl rfl (.refl _) (.move rfl) ?_
    refine .m rfl rfl rfl rfl (.refl _) (.idxN sl_22_A (by assumption) rfl rfl (by omega)) ?_
    refine .m rfl rfl rfl rfl (.refl _) (.loadI on_2_A (by assumption) rfl (by omega)) ?_
    refine .m rfl rfl rfl rfl (.refl _) (.assign rfl) (.m rfl rfl rfl rfl (.refl _) (.assign rfl) ?_)
    refine .done ?_
    refine hK18 _ _ ?_
    refine .seq (fun K19 hK19 => ?_)
    refine .regionD mixed_orders_B (.q 0 (.q 1 (.q 2 (.q 3 (.q 4 (.q 5 (.q 6 (.q 7 (.q 8 (.q 9 (.q 10 (.q 11 (.q 13 (.q 14 (.q 15 (.q 16 (.c 12 1 (.q 17 (.q 18 (.done)))))))))))))))))))) (by kernel_rfl) ?_
    refine .cut [(0, some _), (1, some _), (3, some _), (4, some _), (6, some _), (7, some _), (12, some _), (13, some _), (14, some _), (15, some _), (34, some _), (35, some _), (36, some _), (47, some _), (48, some _), (49, some _), (50, some _), (51, some _), (52, some _), (53, some _), (54, some _), (55, some _), (56, some _), (57, some _), (58, some _), (59, some _), (60, some _), (61, some _), (62, some _), (63, some _), (64, some _), (65, some _), (66, some _), (67, some _)] ⟨rfl, rfl, rfl, rfl, rfl, rfl, rfl, rfl, rfl, rfl, rfl, rfl, rfl, rfl, rfl, rfl, rfl, rfl, rfl, rfl, rfl, rfl, rfl, rfl, rfl, rfl, rfl, rfl, rfl, rfl, rfl, rfl, rfl, rfl, trivial⟩ (fun rest fr' H' => ∃ b' : Bool, Sub ((86, some (.bool b')) :: rest) fr' ∧ H6004 = H' ∧ b' = !((f.cnet w).okAt (co.take x ++ [(f.t.hom w (f.ob.getD x 0)).getD j 0]) x a)) ?_ ?_
    ·
     refine .m rfl rfl rfl rfl (.refl _) (.move rfl) (.m rfl rfl rfl rfl (.refl _) (.move rfl) (.m rfl rfl rfl rfl (.refl _) (.max2 rfl rfl) (.m rfl rfl rfl rfl (.refl _) (.move rfl) ?_)))
     refine .m rfl rfl rfl rfl (.refl _) (.cmp rfl rfl rfl) (.m rfl rfl rfl rfl (.refl _) (.move rfl) ?_)
     refine .split (fun h73 => ?_) (fun h73 => ?_)
     ·
      simp only [sps] at h73
      refine .mg rfl rfl rfl rfl rfl rfl (.refl _) (.load on_92_F rfl (by first | assumption | exact Mem.of_get k4 0 _ rfl)) ?_
      refine .mg rfl rfl rfl rfl rfl rfl (.refl _) (.load on_22_B rfl (by first | assumption | exact Mem.of_get k3 0 _ rfl)) ?_
      refine .mg rfl rfl rfl rfl rfl rfl (.refl _) (.move rfl) ?_
      refine .mg rfl rfl rfl rfl rfl rfl (.refl _) (.idx1 sl_22_A (by first | assumption | exact SlA.of_row at6004 (by first | rfl | (simp; done) | (simp <;> omega))) rfl rfl (by omega) (by omega)) ?_
      refine .mg rfl rfl rfl rfl rfl rfl (.refl _) (.loadI on_2_A (by first | assumption | exact Ints.of_get at6004) rfl (by omega)) ?_
      refine .mg rfl rfl rfl rfl rfl rfl (.refl _) (.move rfl) ?_
      refine .mg rfl rfl rfl rfl rfl rfl (.refl _) (.load on_22_B rfl (by first | assumption | exact Mem.of_get k3 0 _ rfl)) ?_
      refine .mg rfl rfl rfl rfl rfl rfl (.refl _) (.move rfl) ?_
      refine .mg rfl rfl rfl rfl rfl rfl (.refl _) (.idx1 sl_22_A (by first | assumption | exact SlA.of_row at6004 (by first | rfl | (simp; done) | (simp <;> omega))) rfl rfl (by omega) (by omega)) ?_
      refine .mg rfl rfl rfl rfl rfl rfl (.refl _) (.loadI on_2_A (by first | assumption | exact Ints.of_get at6004) rfl (by omega)) ?_
      have w1 := hv (f.s.src.getD a 0).toNat (by omega)
      have w2 := hv (f.s.tgt.getD a 0).toNat (by omega)
      have w3 := hTS.row ((co'.set x ((f.t.hom w (f.ob.getD x 0)).getD j 0)).getD (f.s.src.getD a 0).toNat 0).toNat (by omega)
      have hcc := then_c (c := f.t) (f := (co'.set x ((f.t.hom w (f.ob.getD x 0)).getD j 0)).getD (f.s.src.getD a 0).toNat 0) (k := f.ar.getD a 0) ftf w1.1 (by omega) a3.1 (by omega)
      refine .callQ1g rfl rfl rfl rfl rfl rfl rfl @Try.call62 rfl (hcc) (.refl _) ?_
      refine .mg rfl rfl rfl rfl rfl rfl (.refl _) (.cmp rfl rfl rfl) (.m rfl rfl rfl rfl (.refl _) (.pickT rfl rfl) ?_)
      refine .done ?_
      refine ⟨_, ⟨rfl, rfl, rfl, rfl, rfl, rfl, rfl, rfl, rfl, rfl, rfl, rfl, rfl, rfl, rfl, rfl, rfl, rfl, rfl, rfl, rfl, rfl, rfl, rfl, rfl, rfl, rfl, rfl, rfl, rfl, rfl, rfl, rfl, rfl, rfl, trivial⟩, rfl, ?_⟩
      rw [Net.okAt_2 (show max (f.s.src.getD a 0).toNat (f.s.tgt.getD a 0).toNat = x by omega)]; exact cnet_ne (hv (f.s.src.getD a 0).toNat (by omega)).2.2 (hv (f.s.tgt.getD a 0).toNat (by omega)).2.2
     simp only [sps] at h73
     refine .sg rfl rfl rfl rfl rfl rfl (.sg rfl rfl rfl rfl rfl rfl (.sg rfl rfl rfl rfl rfl rfl (.sg rfl rfl rfl rfl rfl rfl ?_)))
     refine .sg rfl rfl rfl rfl rfl rfl (.sg rfl rfl rfl rfl rfl rfl (.sg rfl rfl rfl rfl rfl rfl (.sg rfl rfl rfl rfl rfl rfl ?_)))
     refine .sg rfl rfl rfl rfl rfl rfl (.sg rfl rfl rfl rfl rfl rfl (.sgc rfl rfl rfl rfl rfl rfl (.sg rfl rfl rfl rfl rfl rfl ?_)))
     refine .m rfl rfl rfl rfl (.refl _) (.pickF rfl rfl) ?_
     refine .done ?_
     refine ⟨_, ⟨rfl, rfl, rfl, rfl, rfl, rfl, rfl, rfl, rfl, rfl, rfl, rfl, rfl, rfl, rfl, rfl, rfl, rfl, rfl, rfl, rfl, rfl, rfl, rfl, rfl, rfl, rfl, rfl, rfl, rfl, rfl, rfl, rfl, rfl, rfl, trivial⟩, rfl, ?_⟩
     rw [Net.okAt_1 (show ¬ max (f.s.src.getD a 0).toNat (f.s.tgt.getD a 0).toNat = x by omega)]; rfl
    rintro frJ11 _ ⟨b', hsubJ11, rfl, hJ11⟩
    refine hK19 _ _ ?_
    refine .forget hsubJ11 ?_
    refine .cond rfl (fun h86 => ?_) (fun h86 => ?_)
    ·
     have hG0 : chG (f.cnet w) (fun _ => true) r (co.take x) ((f.t.hom w (f.ob.getD x 0)).getD j 0) = [] := chG_bad (by rw [hpl, Net.ok_eq]; exact allN_early (k := a + 1) (by rw [allN_succ, hb1, bnot_T (hJ11.symm.trans h86)]; rfl) (show a + 1 ≤ f.ar.length by omega))
     obtain ⟨coX, hcX⟩ : ∃ z, z = co'.set x ((f.t.hom w (f.ob.getD x 0)).getD j 0) := ⟨_, rfl⟩
     obtain ⟨gX, hgX⟩ : ∃ z, z = gV := ⟨_, rfl⟩
     refine .exit ?_
     refine hK9 _ _ ?_
     refine .region ?_
     refine .m rfl rfl rfl (.add rfl rfl rfl (by omega) (by omega)) ?_
     refine .m rfl rfl rfl (.move rfl) (.nil ?_)
     refine hKL1 ((j + 1, gX, coX)) _ _ ?_ ?_ ⟨rfl, rfl, rfl, rfl, rfl, rfl, rfl, rfl, rfl, trivial⟩
     ·
      refine ⟨lst1, by first | assumption | (rw [hcX]; assumption), ?_⟩
      subst hcX
      subst hgX
      first
      | exact ⟨by omega, by rw [List.length_set]; exact hcl, by rw [take_set_lt]; exact hct, hgV, by omega, by rw [chP_no (by omega) hG0]; exact hH.st hAL c0.1 c0.2 (by omega) st6004, by rw [chP_no (by omega) hG0]; exact hfl⟩
      | exact ⟨by omega, hlc91, htk2, by omega, hl91, hA92, hfl2⟩
     (dsimp only; omega)
    have hok := bnot_f (hJ11.symm.trans h86)
    refine .skip ?_
    refine hK16 _ _ ?_
    refine .region ?_
    refine .m rfl rfl rfl (.add rfl rfl rfl (by omega) (by omega)) ?_
    refine .m rfl rfl rfl (.move rfl) (.nil ?_)
    refine hKL2 (a + 1) _ _ ?_ ?_ ⟨rfl, rfl, rfl, rfl, rfl, rfl, rfl, rfl, rfl, rfl, rfl, rfl, trivial⟩
    ·
     refine ⟨rfl, ?_⟩
     exact ⟨by omega, by rw [allN_succ, hb1, hok]; rfl⟩
    omega
   try simp only [sps] at h50
   refine .exit ?_
   refine hK12 _ _ ?_
   refine .seq (fun K20 hK20 => ?_)
   refine .region ?_
   refine .m rfl rfl rfl (.load on_81_Hh rfl (by first | assumption | exact Mem.of_get k7 0 _ rfl)) ?_
   refine .m rfl rfl rfl (.move rfl) ?_
   refine .m rfl rfl rfl (.add rfl rfl rfl (by omega) (by omega)) ?_
   obtain rfl : a = f.ar.length := by omega
   have hok1 : (f.cnet w).ok (co.take x).length (co.take x ++ [(f.t.hom w (f.ob.getD x 0)).getD j 0]) = true := by rw [hpl, Net.ok_eq]; exact hb1
   have hts : (co'.set x ((f.t.hom w (f.ob.getD x 0)).getD j 0)).take (x + 1) = co.take x ++ [(f.t.hom w (f.ob.getD x 0)).getD j 0] := by rw [take_set_succ (by omega), hct]
   have hG1 : chG (f.cnet w) (fun _ => true) r (co.take x) ((f.t.hom w (f.ob.getD x 0)).getD j 0) = searchL (f.cnet w).cand (f.cnet w).ok r ((co'.set x ((f.t.hom w (f.ob.getD x 0)).getD j 0)).take (x + 1)) := by rw [hts]; exact chG_yes rfl hok1
   have hrr : ∀ i, i < x + 1 → 0 ≤ (co'.set x ((f.t.hom w (f.ob.getD x 0)).getD j 0)).getD i 0 ∧ (co'.set x ((f.t.hom w (f.ob.getD x 0)).getD j 0)).getD i 0 < f.t.src.length := fun i hi => ⟨(hv i (by omega)).1, (hv i (by omega)).2.1⟩
   have hA7 := hH.st hAL c0.1 c0.2 (by omega) st6004
   refine .callV rfl rfl rfl rfl rfl @Try.call95 rfl ((ih (x + 1) gV (co'.set x ((f.t.hom w (f.ob.getD x 0)).getD j 0)) (fs ++ chP (f.cnet w) (fun _ => true) r (co.take x) (f.t.hom w (f.ob.getD x 0)) j) _ (by omega) hz ⟨k1, k2, k3, k4, k5, k6, k7⟩ at6004 hsl hrr hA7 hfl (by omega) (by omega) (by omega) (by omega))) ?_
   rintro _ H91 ⟨gF91, co91, rfl, hg91, hl91, st91, at91, hlc91, htk91, hA91⟩
   have nx_H91 := st91.nx
   replace hfo := hfo.st st91 (fun k hk ho => by simp only [out, and_true] at ho ⊢ <;> omega)
   replace lst1 := lst1.st st91 (fun k hk ho => by simp only [out, and_true] at ho ⊢ <;> omega)
   replace k1 := st91.same _ _ ⟨by omega, by omega, by omega, trivial⟩ k1
   replace k2 := st91.same _ _ ⟨by omega, by omega, by omega, trivial⟩ k2
   replace k3 := st91.same _ _ ⟨by omega, by omega, by omega, trivial⟩ k3
   replace k4 := st91.same _ _ ⟨by omega, by omega, by omega, trivial⟩ k4
   replace k5 := st91.same _ _ ⟨by omega, by omega, by omega, trivial⟩ k5
   replace k6 := st91.same _ _ ⟨by omega, by omega, by omega, trivial⟩ k6
   replace k7 := st91.same _ _ ⟨by omega, by omega, by omega, trivial⟩ k7
   replace at34 := st91.same _ _ ⟨by omega, by omega, by omega, trivial⟩ at34
   have lt_at91 := GHeap.lt_of_get at91
   clear hz hF2 fsf ftf c10f c11f j1f j2f hmf hif hmsf hisf hmtf hitf s0 s1 s2 s3 s4 u1 u2 u3 u4
   have hz := hle0.st hfo (fun k hk => ⟨by omega, by omega, by omega, trivial⟩)
   have hF2 := hf.mono hz
   obtain ⟨fsf, ftf, c10f, c11f, j1f, j2f⟩ := hF2.get
   have hmf : MemN _ _ _ _ _ := ⟨rfl, hF2.1⟩
   have hif := hF2.2
   have hmsf : MemN _ _ _ _ _ := ⟨rfl, fsf.1⟩
   have hisf := fsf.2
   have hmtf : MemN _ _ _ _ _ := ⟨rfl, ftf.1⟩
   have hitf := ftf.2
   obtain ⟨s0, s1, s2, s3, s4, u1, u2, u3, u4⟩ := fsf.get
   clear i34
   have i34 := Ints.of_get at34
   refine .m rfl rfl rfl (.not rfl) (.nil ?_)
   refine hK20 _ _ ?_
   refine .cond rfl (fun h92 => ?_) (fun h92 => ?_)
   ·
    have hbig := of_decide_eq_false (bnot_T h92)
    refine .seq (fun K21 hK21 => ?_)
    refine .region (.m rfl rfl rfl (.assign rfl) (.nil ?_))
    refine hK21 _ _ ?_
    refine .ret ?_
    refine hret _ _ ?_
    refine ⟨_, rfl, ?_⟩
    have hcd : (f.cnet w).cand (co.take x).length = (f.t.hom w (f.ob.getD x 0)).filter (fun _ => true) := by rw [hpl]; exact (List.filter_eq_self.2 (fun _ _ => rfl)).symm
    have hcs := chP_succ (n := f.cnet w) (al := fun _ => true) (r := r) (p := co.take x) (hs := (f.t.hom w (f.ob.getD x 0))) (j := j) (by omega)
    rw [← hG1] at hbig hA91
    have hbl : most + 1 ≤ (fs ++ chP (f.cnet w) (fun _ => true) r (co.take x) (f.t.hom w (f.ob.getD x 0)) (j + 1)).length := by rw [hcs, ← List.append_assoc, List.length_append]; omega
    obtain ⟨f1, f2⟩ := chP_full (M := most + 1) hcd (by omega) hbl
    refine ⟨gF91, co91, ?_, by omega, hl91, hfo, at91, hlc91, by rw [take_le_eq htk91 (by omega), take_set_lt]; exact hct, ?_⟩
    · rw [decide_eq_false (by omega)]
    · rw [f1, hcs, ← List.append_assoc]
      exact hA91
   have hsm := of_decide_eq_true (bnot_f h92)
   obtain ⟨coX, hcX⟩ : ∃ z, z = co91 := ⟨_, rfl⟩
   obtain ⟨gX, hgX⟩ : ∃ z, z = gF91 := ⟨_, rfl⟩
   have hcs := chP_succ (n := f.cnet w) (al := fun _ => true) (r := r) (p := co.take x) (hs := (f.t.hom w (f.ob.getD x 0))) (j := j) (by omega)
   have htk2 : co91.take x = co.take x := by rw [take_le_eq htk91 (by omega), take_set_lt]; exact hct
   rw [← hG1] at hsm hA91
   have hfl2 : (fs ++ chP (f.cnet w) (fun _ => true) r (co.take x) (f.t.hom w (f.ob.getD x 0)) (j + 1)).length ≤ most := by rw [hcs, ← List.append_assoc, List.length_append]; exact hsm
   have hA92 := hA91
   rw [List.append_assoc, ← hcs, List.take_of_length_le (by omega)] at hA92
   refine .skip ?_
   refine hK9 _ _ ?_
   refine .region ?_
   refine .m rfl rfl rfl (.add rfl rfl rfl (by omega) (by omega)) ?_
   refine .m rfl rfl rfl (.move rfl) (.nil ?_)
   refine hKL1 ((j + 1, gX, coX)) _ _ ?_ ?_ ⟨rfl, rfl, rfl, rfl, rfl, rfl, rfl, rfl, rfl, trivial⟩
   ·
    refine ⟨lst1, by first | assumption | (rw [hcX]; assumption), ?_⟩
    subst hcX
    subst hgX
    first
    | exact ⟨by omega, by rw [List.length_set]; exact hcl, by rw [take_set_lt]; exact hct, hgV, by omega, by rw [chP_no (by omega) hG0]; exact hH.st hAL c0.1 c0.2 (by omega) st6004, by rw [chP_no (by omega) hG0]; exact hfl⟩
    | exact ⟨by omega, hlc91, htk2, by omega, hl91, hA92, hfl2⟩
   (dsimp only; omega)
  try simp only [sps] at h37
  refine .exit ?_
  refine hK5 _ _ ?_
  refine .seq (fun K22 hK22 => ?_)
  refine .region (.m rfl rfl rfl (.assign rfl) (.nil ?_))
  refine hK22 _ _ ?_
  refine .ret ?_
  refine hret _ _ ?_
  refine ⟨_, rfl, ?_⟩
  have hpl : (co.take x).length = x := by rw [List.length_take]; omega
  have hcd : (f.cnet w).cand (co.take x).length = (f.t.hom w (f.ob.getD x 0)).filter (fun _ => true) := by rw [hpl]; exact (List.filter_eq_self.2 (fun _ _ => rfl)).symm
  have hj2 : j = (f.t.hom w (f.ob.getD x 0)).length := by omega
  have e9 := chP_all (r := r) hcd
  rw [← hj2] at e9
  refine ⟨gV, co', ?_, by omega, hgl, hfo, at_Lgc, hcl, hct, ?_⟩
  · rw [e9, decide_eq_true (by rw [← List.length_append]; exact hfl)]
  · rw [e9, List.take_of_length_le (by omega)]
    exact hAL
theorem legsC_c {f : Fun} {p : FunP} {w : Int} {A : Nat → List (List Int) → Nat → GHeap → Prop} {most e0 g1 b gf of gc fn : Nat} {cap : Array Value} {b1 b2 b3 b4 b5 b6 b7 : Nat} {H0 : GHeap} (hf : Fun.At H0 gf of f p) (hP : f.Is)
    (hH : Hears Try.prog fn cap e0 g1 most 2 A)
    (he0 : H0.next ≤ e0) (hg1 : H0.next ≤ g1) (hg2 : g1 < e0) (c0 : e0 ≤ gc ∧ gc < b) (c1 : e0 ≤ b1 ∧ b1 < b ∧ b1 ≠ gc) (c2 : e0 ≤ b2 ∧ b2 < b ∧ b2 ≠ gc) (c3 : e0 ≤ b3 ∧ b3 < b ∧ b3 ≠ gc) (c4 : e0 ≤ b4 ∧ b4 < b ∧ b4 ≠ gc) (c5 : e0 ≤ b5 ∧ b5 < b ∧ b5 ≠ gc) (c6 : e0 ≤ b6 ∧ b6 < b ∧ b6 ≠ gc) (c7 : e0 ≤ b7 ∧ b7 < b ∧ b7 ≠ gc) (r : Nat) : LgSpec f w A most e0 g1 b gf of gc fn cap b1 b2 b3 b4 b5 b6 b7 H0 r := by
  induction r with
  | zero => exact legs0_c hf hP hH he0 hg1 hg2 c0 c1 c2 c3 c4 c5 c6 c7
  | succ r ih => exact legsS_c hf hP hH he0 hg1 hg2 c0 c1 c2 c3 c4 c5 c6 c7 ih
set_option maxHeartbeats 4000000 in
theorem legs_c {f : Fun} {p : FunP} {w : Int} {A : Nat → List (List Int) → Nat → GHeap → Prop} {most g1 gF gf of fn : Nat} {cap : Array Value} {H0 H : GHeap} (hf0 : Fun.At H0 gf of f p) (hP : f.Is)
    (hH : Hears Try.prog fn cap H.next g1 most 2 A)
    (hle0 : H0.Le H) (hg1 : H0.next ≤ g1) (hg2 : g1 < H.next) (hF0 : H0.next ≤ gF) (hF : gF < H.next) {fs : List (List Int)} (hfs : fs.length ≤ most) (hA : ∀ b, A b fs gF H) :
    GCalls Try.prog 81 [.pointer (some ⟨gf, of, none⟩), .int .i64 w, .func (.func fn) #[] cap] H (fun v H' => ∃ gF' b, v = .bool (decide (fs.length + ((f.cnet w).sols f.ob.length).length ≤ most)) ∧ H.next ≤ b ∧ b ≤ H'.next ∧ (gF' = gF ∨ H.next ≤ gF') ∧ gF' < H'.next ∧ St [g1, gF] H H' ∧ A b ((fs ++ (f.cnet w).sols f.ob.length).take (most + 1)) gF' H') := by
  have hol := hP.2.2.ol
  have hob := hP.1.1.obj
  have hf := hf0.mono hle0
  refine GCalls.body (N := 26) (rs := [.tmp 6]) Try.func81 rfl rfl rfl rfl (fun Qx hret hend => ?_)
  refine .forget (fr' := [(0, some _), (1, some _), (2, some _)]) ⟨rfl, rfl, rfl, trivial⟩ ?_
  have hle := GHeap.Le.refl H
  have base_hf := hf
  obtain ⟨fsf, ftf, c10f, c11f, j1f, j2f⟩ := hf.get
  have hmf : MemN _ _ _ _ _ := ⟨rfl, hf.1⟩
  have hif := hf.2
  have hmsf : MemN _ _ _ _ _ := ⟨rfl, fsf.1⟩
  have hisf := fsf.2
  have hmtf : MemN _ _ _ _ _ := ⟨rfl, ftf.1⟩
  have hitf := ftf.2
  refine .seq (fun K1 hK1 => ?_)
  refine .region ?_
  refine .r rfl rfl rfl (.boxR rfl sz_67_Hh rfl) ?_
  rintro _ H3 ⟨g3, rfl, le3, ge3, at3⟩
  have nx_H3 := le3.1
  replace hle := hle.trans le3
  have lt_at3 := GHeap.lt_of_get at3
  replace hf := base_hf.mono hle
  clear fsf ftf c10f c11f j1f j2f hmf hif hmsf hisf hmtf hitf
  obtain ⟨fsf, ftf, c10f, c11f, j1f, j2f⟩ := hf.get
  have hmf : MemN _ _ _ _ _ := ⟨rfl, hf.1⟩
  have hif := hf.2
  have hmsf : MemN _ _ _ _ _ := ⟨rfl, fsf.1⟩
  have hisf := fsf.2
  have hmtf : MemN _ _ _ _ _ := ⟨rfl, ftf.1⟩
  have hitf := ftf.2
  refine .r rfl rfl rfl (.boxR rfl sz_2_E rfl) ?_
  rintro _ H4 ⟨g4, rfl, le4, ge4, at4⟩
  have nx_H4 := le4.1
  replace hle := hle.trans le4
  replace at3 := le4.2 _ _ at3
  have lt_at4 := GHeap.lt_of_get at4
  replace hf := base_hf.mono hle
  clear fsf ftf c10f c11f j1f j2f hmf hif hmsf hisf hmtf hitf
  obtain ⟨fsf, ftf, c10f, c11f, j1f, j2f⟩ := hf.get
  have hmf : MemN _ _ _ _ _ := ⟨rfl, hf.1⟩
  have hif := hf.2
  have hmsf : MemN _ _ _ _ _ := ⟨rfl, fsf.1⟩
  have hisf := fsf.2
  have hmtf : MemN _ _ _ _ _ := ⟨rfl, ftf.1⟩
  have hitf := ftf.2
  refine .r rfl rfl rfl (.boxR rfl sz_105_Hh rfl) ?_
  rintro _ H5 ⟨g5, rfl, le5, ge5, at5⟩
  have nx_H5 := le5.1
  replace hle := hle.trans le5
  replace at3 := le5.2 _ _ at3
  replace at4 := le5.2 _ _ at4
  have lt_at5 := GHeap.lt_of_get at5
  replace hf := base_hf.mono hle
  clear fsf ftf c10f c11f j1f j2f hmf hif hmsf hisf hmtf hitf
  obtain ⟨fsf, ftf, c10f, c11f, j1f, j2f⟩ := hf.get
  have hmf : MemN _ _ _ _ _ := ⟨rfl, hf.1⟩
  have hif := hf.2
  have hmsf : MemN _ _ _ _ _ := ⟨rfl, fsf.1⟩
  have hisf := fsf.2
  have hmtf : MemN _ _ _ _ _ := ⟨rfl, ftf.1⟩
  have hitf := ftf.2
  refine .m rfl rfl rfl (.assign rfl) (.nil ?_)
  refine hK1 _ _ ?_
  refine .seq (fun K2 hK2 => ?_)
  refine .regionD mixed_orders_B (.q 0 (.q 1 (.q 2 (.q 3 (.q 4 (.q 5 (.or (.c 6 1 (.c 7 1 (.c 8 1 (.c 9 1 (.done))))) (.c 7 1 (.c 6 1 (.c 8 1 (.c 9 1 (.done)))))))))))) (by kernel_rfl) ?_
  refine .cut [(0, some _), (1, some _), (2, some _), (3, some _), (4, some _), (5, some _), (6, some _)] ⟨rfl, rfl, rfl, rfl, rfl, rfl, rfl, trivial⟩ (fun rest fr' H' => ∃ g7 g8, Sub ((7, some (.pointer (some ⟨g7, 0, none⟩))) :: (8, some (.pointer (some ⟨g8, 0, none⟩))) :: rest) fr' ∧ H5.Le H' ∧ H5.next ≤ g7 ∧ H5.next ≤ g8 ∧ H'.get g7 = some (.row ([.pointer (some ⟨gf, of + 5, none⟩)]) 92 true) ∧ H'.get g8 = some (.row ([.pointer (some ⟨gf, of + 0, none⟩)]) 92 true) ∧ g7 ≠ g8) ?_ ?_
  ·
   have hf0 := GHeap.Le.refl H5
   refine .m rfl rfl rfl rfl (.refl _) (.load on_67_Hh rfl (by first | assumption | exact Mem.of_get at3 0 _ rfl)) ?_
   refine .m rfl rfl rfl rfl (.refl _) (.nilCheck rfl) (.m rfl rfl rfl rfl (.refl _) (.fieldAddr fo_34_1_E rfl) ?_)
   refine .m rfl rfl rfl rfl (.refl _) (.load on_67_Hh rfl (by first | assumption | exact Mem.of_get at3 0 _ rfl)) ?_
   refine .m rfl rfl rfl rfl (.refl _) (.nilCheck rfl) (.m rfl rfl rfl rfl (.refl _) (.fieldAddr fo_34_0_E rfl) ?_)
   refine .orI ?_ ?_
   ·
    refine .c1 rfl rfl rfl rfl (.allocR rfl ze_92_G rfl) ?_
    rintro _ H7x2 ⟨g7x2, rfl, le7x2, ge7x2, at7x2⟩
    have hbl := le7x2
    refine ⟨hbl, ?_⟩
    have nx_H7x2 := le7x2.1
    replace hle := hle.trans le7x2
    replace at3 := le7x2.2 _ _ at3
    replace at4 := le7x2.2 _ _ at4
    replace at5 := le7x2.2 _ _ at5
    have lt_at7x2 := GHeap.lt_of_get at7x2
    replace hf := base_hf.mono hle
    clear fsf ftf c10f c11f j1f j2f hmf hif hmsf hisf hmtf hitf
    obtain ⟨fsf, ftf, c10f, c11f, j1f, j2f⟩ := hf.get
    have hmf : MemN _ _ _ _ _ := ⟨rfl, hf.1⟩
    have hif := hf.2
    have hmsf : MemN _ _ _ _ _ := ⟨rfl, fsf.1⟩
    have hisf := fsf.2
    have hmtf : MemN _ _ _ _ _ := ⟨rfl, ftf.1⟩
    have hitf := ftf.2
    replace hf0 := hf0.trans le7x2
    refine .c1 rfl rfl rfl rfl (.allocR rfl ze_92_G rfl) ?_
    rintro _ H8x2 ⟨g8x2, rfl, le8x2, ge8x2, at8x2⟩
    replace hbl := hbl.trans le8x2
    refine ⟨hbl, ?_⟩
    have nx_H8x2 := le8x2.1
    replace hle := hle.trans le8x2
    replace at3 := le8x2.2 _ _ at3
    replace at4 := le8x2.2 _ _ at4
    replace at5 := le8x2.2 _ _ at5
    replace at7x2 := le8x2.2 _ _ at7x2
    have lt_at8x2 := GHeap.lt_of_get at8x2
    replace hf := base_hf.mono hle
    clear fsf ftf c10f c11f j1f j2f hmf hif hmsf hisf hmtf hitf
    obtain ⟨fsf, ftf, c10f, c11f, j1f, j2f⟩ := hf.get
    have hmf : MemN _ _ _ _ _ := ⟨rfl, hf.1⟩
    have hif := hf.2
    have hmsf : MemN _ _ _ _ _ := ⟨rfl, fsf.1⟩
    have hisf := fsf.2
    have hmtf : MemN _ _ _ _ _ := ⟨rfl, ftf.1⟩
    have hitf := ftf.2
    replace hf0 := hf0.trans le8x2
    refine .r1 rfl rfl rfl (.storeR rfl sz_92_Hh rfl rfl rfl (by assumption) (by first | exact Nat.le_of_ble_eq_true rfl | (simp; done) | (simp <;> omega))) ?_
    rintro _ H1008 ⟨rfl, st1008, at1008⟩
    replace hbl := hbl.st st1008 (fun k hk => ⟨by omega, trivial⟩)
    refine ⟨hbl, ?_⟩
    have nx_H1008 := st1008.nx
    replace hle := hle.st st1008 (fun k hk => ⟨by omega, trivial⟩)
    replace at3 := st1008.same _ _ ⟨by omega, trivial⟩ at3
    replace at4 := st1008.same _ _ ⟨by omega, trivial⟩ at4
    replace at5 := st1008.same _ _ ⟨by omega, trivial⟩ at5
    replace at8x2 := st1008.same _ _ ⟨by omega, trivial⟩ at8x2
    have lt_at1008 := GHeap.lt_of_get at1008
    replace hf := base_hf.mono hle
    clear fsf ftf c10f c11f j1f j2f hmf hif hmsf hisf hmtf hitf
    obtain ⟨fsf, ftf, c10f, c11f, j1f, j2f⟩ := hf.get
    have hmf : MemN _ _ _ _ _ := ⟨rfl, hf.1⟩
    have hif := hf.2
    have hmsf : MemN _ _ _ _ _ := ⟨rfl, fsf.1⟩
    have hisf := fsf.2
    have hmtf : MemN _ _ _ _ _ := ⟨rfl, ftf.1⟩
    have hitf := ftf.2
    try simp only [Nat.zero_add, List.set_cons_succ, List.set_cons_zero] at at1008
    replace hf0 := hf0.st st1008 (fun k hk => ⟨by omega, trivial⟩)
    refine .r1 rfl rfl rfl (.storeR rfl sz_92_Hh rfl rfl rfl (by assumption) (by first | exact Nat.le_of_ble_eq_true rfl | (simp; done) | (simp <;> omega))) ?_
    rintro _ H1009 ⟨rfl, st1009, at1009⟩
    replace hbl := hbl.st st1009 (fun k hk => ⟨by omega, trivial⟩)
    refine ⟨hbl, ?_⟩
    have nx_H1009 := st1009.nx
    replace hle := hle.st st1009 (fun k hk => ⟨by omega, trivial⟩)
    replace at3 := st1009.same _ _ ⟨by omega, trivial⟩ at3
    replace at4 := st1009.same _ _ ⟨by omega, trivial⟩ at4
    replace at5 := st1009.same _ _ ⟨by omega, trivial⟩ at5
    replace at1008 := st1009.same _ _ ⟨by omega, trivial⟩ at1008
    have lt_at1009 := GHeap.lt_of_get at1009
    replace hf := base_hf.mono hle
    clear fsf ftf c10f c11f j1f j2f hmf hif hmsf hisf hmtf hitf
    obtain ⟨fsf, ftf, c10f, c11f, j1f, j2f⟩ := hf.get
    have hmf : MemN _ _ _ _ _ := ⟨rfl, hf.1⟩
    have hif := hf.2
    have hmsf : MemN _ _ _ _ _ := ⟨rfl, fsf.1⟩
    have hisf := fsf.2
    have hmtf : MemN _ _ _ _ _ := ⟨rfl, ftf.1⟩
    have hitf := ftf.2
    try simp only [Nat.zero_add, List.set_cons_succ, List.set_cons_zero] at at1009
    replace hf0 := hf0.st st1009 (fun k hk => ⟨by omega, trivial⟩)
    refine .done ?_
    exact ⟨g7x2, g8x2, ⟨rfl, rfl, rfl, rfl, rfl, rfl, rfl, rfl, rfl, trivial⟩, hf0, by omega, by omega, by first | assumption | simpa using at1008, by first | assumption | simpa using at1009, by omega⟩
   refine .c1 rfl rfl rfl rfl (.allocR rfl ze_92_G rfl) ?_
   rintro _ H8x3 ⟨g8x3, rfl, le8x3, ge8x3, at8x3⟩
   have hbl := le8x3
   refine ⟨hbl, ?_⟩
   have nx_H8x3 := le8x3.1
   replace hle := hle.trans le8x3
   replace at3 := le8x3.2 _ _ at3
   replace at4 := le8x3.2 _ _ at4
   replace at5 := le8x3.2 _ _ at5
   have lt_at8x3 := GHeap.lt_of_get at8x3
   replace hf := base_hf.mono hle
   clear fsf ftf c10f c11f j1f j2f hmf hif hmsf hisf hmtf hitf
   obtain ⟨fsf, ftf, c10f, c11f, j1f, j2f⟩ := hf.get
   have hmf : MemN _ _ _ _ _ := ⟨rfl, hf.1⟩
   have hif := hf.2
   have hmsf : MemN _ _ _ _ _ := ⟨rfl, fsf.1⟩
   have hisf := fsf.2
   have hmtf : MemN _ _ _ _ _ := ⟨rfl, ftf.1⟩
   have hitf := ftf.2
   replace hf0 := hf0.trans le8x3
   refine .c1 rfl rfl rfl rfl (.allocR rfl ze_92_G rfl) ?_
   rintro _ H7x3 ⟨g7x3, rfl, le7x3, ge7x3, at7x3⟩
   replace hbl := hbl.trans le7x3
   refine ⟨hbl, ?_⟩
   have nx_H7x3 := le7x3.1
   replace hle := hle.trans le7x3
   replace at3 := le7x3.2 _ _ at3
   replace at4 := le7x3.2 _ _ at4
   replace at5 := le7x3.2 _ _ at5
   replace at8x3 := le7x3.2 _ _ at8x3
   have lt_at7x3 := GHeap.lt_of_get at7x3
   replace hf := base_hf.mono hle
   clear fsf ftf c10f c11f j1f j2f hmf hif hmsf hisf hmtf hitf
   obtain ⟨fsf, ftf, c10f, c11f, j1f, j2f⟩ := hf.get
   have hmf : MemN _ _ _ _ _ := ⟨rfl, hf.1⟩
   have hif := hf.2
   have hmsf : MemN _ _ _ _ _ := ⟨rfl, fsf.1⟩
   have hisf := fsf.2
   have hmtf : MemN _ _ _ _ _ := ⟨rfl, ftf.1⟩
   have hitf := ftf.2
   replace hf0 := hf0.trans le7x3
   refine .r1 rfl rfl rfl (.storeR rfl sz_92_Hh rfl rfl rfl (by assumption) (by first | exact Nat.le_of_ble_eq_true rfl | (simp; done) | (simp <;> omega))) ?_
   rintro _ H1008x2 ⟨rfl, st1008x2, at1008x2⟩
   replace hbl := hbl.st st1008x2 (fun k hk => ⟨by omega, trivial⟩)
   refine ⟨hbl, ?_⟩
   have nx_H1008x2 := st1008x2.nx
   replace hle := hle.st st1008x2 (fun k hk => ⟨by omega, trivial⟩)
   replace at3 := st1008x2.same _ _ ⟨by omega, trivial⟩ at3
   replace at4 := st1008x2.same _ _ ⟨by omega, trivial⟩ at4
   replace at5 := st1008x2.same _ _ ⟨by omega, trivial⟩ at5
   replace at8x3 := st1008x2.same _ _ ⟨by omega, trivial⟩ at8x3
   have lt_at1008x2 := GHeap.lt_of_get at1008x2
   replace hf := base_hf.mono hle
   clear fsf ftf c10f c11f j1f j2f hmf hif hmsf hisf hmtf hitf
   obtain ⟨fsf, ftf, c10f, c11f, j1f, j2f⟩ := hf.get
   have hmf : MemN _ _ _ _ _ := ⟨rfl, hf.1⟩
   have hif := hf.2
   have hmsf : MemN _ _ _ _ _ := ⟨rfl, fsf.1⟩
   have hisf := fsf.2
   have hmtf : MemN _ _ _ _ _ := ⟨rfl, ftf.1⟩
   have hitf := ftf.2
   try simp only [Nat.zero_add, List.set_cons_succ, List.set_cons_zero] at at1008x2
   replace hf0 := hf0.st st1008x2 (fun k hk => ⟨by omega, trivial⟩)
   refine .r1 rfl rfl rfl (.storeR rfl sz_92_Hh rfl rfl rfl (by assumption) (by first | exact Nat.le_of_ble_eq_true rfl | (simp; done) | (simp <;> omega))) ?_
   rintro _ H1009x2 ⟨rfl, st1009x2, at1009x2⟩
   replace hbl := hbl.st st1009x2 (fun k hk => ⟨by omega, trivial⟩)
   refine ⟨hbl, ?_⟩
   have nx_H1009x2 := st1009x2.nx
   replace hle := hle.st st1009x2 (fun k hk => ⟨by omega, trivial⟩)
   replace at3 := st1009x2.same _ _ ⟨by omega, trivial⟩ at3
   replace at4 := st1009x2.same _ _ ⟨by omega, trivial⟩ at4
   replace at5 := st1009x2.same _ _ ⟨by omega, trivial⟩ at5
   replace at1008x2 := st1009x2.same _ _ ⟨by omega, trivial⟩ at1008x2
   have lt_at1009x2 := GHeap.lt_of_get at1009x2
   replace hf := base_hf.mono hle
   clear fsf ftf c10f c11f j1f j2f hmf hif hmsf hisf hmtf hitf
   obtain ⟨fsf, ftf, c10f, c11f, j1f, j2f⟩ := hf.get
   have hmf : MemN _ _ _ _ _ := ⟨rfl, hf.1⟩
   have hif := hf.2
   have hmsf : MemN _ _ _ _ _ := ⟨rfl, fsf.1⟩
   have hisf := fsf.2
   have hmtf : MemN _ _ _ _ _ := ⟨rfl, ftf.1⟩
   have hitf := ftf.2
   try simp only [Nat.zero_add, List.set_cons_succ, List.set_cons_zero] at at1009x2
   replace hf0 := hf0.st st1009x2 (fun k hk => ⟨by omega, trivial⟩)
   refine .done ?_
   exact ⟨g7x3, g8x3, ⟨rfl, rfl, rfl, rfl, rfl, rfl, rfl, rfl, rfl, trivial⟩, hf0, by omega, by omega, by first | assumption | simpa using at1008x2, by first | assumption | simpa using at1009x2, by omega⟩
  rintro fr8 H8 ⟨g7, g8, hsub8, le8, ge7, ge8, at7, at8, ne8_0⟩
  have nx_H8 := le8.1
  replace hle := hle.trans le8
  replace at3 := le8.2 _ _ at3
  replace at4 := le8.2 _ _ at4
  replace at5 := le8.2 _ _ at5
  have lt_at7 := GHeap.lt_of_get at7
  have lt_at8 := GHeap.lt_of_get at8
  replace hf := base_hf.mono hle
  clear fsf ftf c10f c11f j1f j2f hmf hif hmsf hisf hmtf hitf
  obtain ⟨fsf, ftf, c10f, c11f, j1f, j2f⟩ := hf.get
  have hmf : MemN _ _ _ _ _ := ⟨rfl, hf.1⟩
  have hif := hf.2
  have hmsf : MemN _ _ _ _ _ := ⟨rfl, fsf.1⟩
  have hisf := fsf.2
  have hmtf : MemN _ _ _ _ _ := ⟨rfl, ftf.1⟩
  have hitf := ftf.2
  refine hK2 _ _ ?_
  refine .forget hsub8 ?_
  refine .seq (fun K3 hK3 => ?_)
  refine .region ?_
  refine .m rfl rfl rfl (.load on_67_Hh rfl (by first | assumption | exact Mem.of_get at3 0 _ rfl)) ?_
  refine .m rfl rfl rfl (.nilCheck rfl) (.m rfl rfl rfl (.fieldAddr fo_34_2_E rfl) ?_)
  refine .m rfl rfl rfl (.load on_22_B rfl (by assumption)) ?_
  refine .m rfl rfl rfl (.len sl_22_A rfl) ?_
  refine .r rfl rfl rfl (.makeIN rfl sl_22_A ze_2_E by_2_E rfl rfl (by omega) (by omega) (by omega)) ?_
  rintro _ H22 ⟨g22, rfl, le22, ge22, at22⟩
  have nx_H22 := le22.1
  replace hle := hle.trans le22
  replace at3 := le22.2 _ _ at3
  replace at4 := le22.2 _ _ at4
  replace at5 := le22.2 _ _ at5
  replace at7 := le22.2 _ _ at7
  replace at8 := le22.2 _ _ at8
  have lt_at22 := GHeap.lt_of_get at22
  replace hf := base_hf.mono hle
  clear fsf ftf c10f c11f j1f j2f hmf hif hmsf hisf hmtf hitf
  obtain ⟨fsf, ftf, c10f, c11f, j1f, j2f⟩ := hf.get
  have hmf : MemN _ _ _ _ _ := ⟨rfl, hf.1⟩
  have hif := hf.2
  have hmsf : MemN _ _ _ _ _ := ⟨rfl, fsf.1⟩
  have hisf := fsf.2
  have hmtf : MemN _ _ _ _ _ := ⟨rfl, ftf.1⟩
  have hitf := ftf.2
  refine .r rfl rfl rfl (.allocR rfl ze_22_E rfl) ?_
  rintro _ H9 ⟨g9, rfl, le9, ge9, at9⟩
  have nx_H9 := le9.1
  replace hle := hle.trans le9
  replace at3 := le9.2 _ _ at3
  replace at4 := le9.2 _ _ at4
  replace at5 := le9.2 _ _ at5
  replace at7 := le9.2 _ _ at7
  replace at8 := le9.2 _ _ at8
  replace at22 := le9.2 _ _ at22
  have lt_at9 := GHeap.lt_of_get at9
  replace hf := base_hf.mono hle
  clear fsf ftf c10f c11f j1f j2f hmf hif hmsf hisf hmtf hitf
  obtain ⟨fsf, ftf, c10f, c11f, j1f, j2f⟩ := hf.get
  have hmf : MemN _ _ _ _ _ := ⟨rfl, hf.1⟩
  have hif := hf.2
  have hmsf : MemN _ _ _ _ _ := ⟨rfl, fsf.1⟩
  have hisf := fsf.2
  have hmtf : MemN _ _ _ _ _ := ⟨rfl, ftf.1⟩
  have hitf := ftf.2
  refine .r0 rfl rfl (.storeR rfl sz_22_E rfl rfl rfl (by assumption) (by first | exact Nat.le_of_ble_eq_true rfl | (simp; done) | (simp <;> omega))) ?_
  rintro _ H2007 ⟨rfl, st2007, at2007⟩
  have nx_H2007 := st2007.nx
  replace hle := hle.st st2007 (fun k hk => ⟨by omega, trivial⟩)
  replace at3 := st2007.same _ _ ⟨by omega, trivial⟩ at3
  replace at4 := st2007.same _ _ ⟨by omega, trivial⟩ at4
  replace at5 := st2007.same _ _ ⟨by omega, trivial⟩ at5
  replace at7 := st2007.same _ _ ⟨by omega, trivial⟩ at7
  replace at8 := st2007.same _ _ ⟨by omega, trivial⟩ at8
  replace at22 := st2007.same _ _ ⟨by omega, trivial⟩ at22
  have lt_at2007 := GHeap.lt_of_get at2007
  replace hf := base_hf.mono hle
  clear fsf ftf c10f c11f j1f j2f hmf hif hmsf hisf hmtf hitf
  obtain ⟨fsf, ftf, c10f, c11f, j1f, j2f⟩ := hf.get
  have hmf : MemN _ _ _ _ _ := ⟨rfl, hf.1⟩
  have hif := hf.2
  have hmsf : MemN _ _ _ _ _ := ⟨rfl, fsf.1⟩
  have hisf := fsf.2
  have hmtf : MemN _ _ _ _ _ := ⟨rfl, ftf.1⟩
  have hitf := ftf.2
  try simp only [Nat.zero_add, List.set_cons_succ, List.set_cons_zero] at at2007
  refine .nil ?_
  refine hK3 _ _ ?_
  refine .seq (fun K4 hK4 => ?_)
  refine .region ?_
  refine .r rfl rfl rfl (.allocR rfl ze_81_Hh rfl) ?_
  rintro _ H10 ⟨g10, rfl, le10, ge10, at10⟩
  have nx_H10 := le10.1
  replace hle := hle.trans le10
  replace at3 := le10.2 _ _ at3
  replace at4 := le10.2 _ _ at4
  replace at5 := le10.2 _ _ at5
  replace at7 := le10.2 _ _ at7
  replace at8 := le10.2 _ _ at8
  replace at22 := le10.2 _ _ at22
  replace at2007 := le10.2 _ _ at2007
  have lt_at10 := GHeap.lt_of_get at10
  replace hf := base_hf.mono hle
  clear fsf ftf c10f c11f j1f j2f hmf hif hmsf hisf hmtf hitf
  obtain ⟨fsf, ftf, c10f, c11f, j1f, j2f⟩ := hf.get
  have hmf : MemN _ _ _ _ _ := ⟨rfl, hf.1⟩
  have hif := hf.2
  have hmsf : MemN _ _ _ _ _ := ⟨rfl, fsf.1⟩
  have hisf := fsf.2
  have hmtf : MemN _ _ _ _ _ := ⟨rfl, ftf.1⟩
  have hitf := ftf.2
  refine .nil ?_
  refine hK4 _ _ ?_
  refine .seq (fun K5 hK5 => ?_)
  refine .region (.m rfl rfl rfl (.makeFunc rfl) ?_)
  refine .r0 rfl rfl (.storeR rfl sz_81_Hh rfl rfl rfl (by assumption) (by first | exact Nat.le_of_ble_eq_true rfl | (simp; done) | (simp <;> omega))) ?_
  rintro _ H4001 ⟨rfl, st4001, at4001⟩
  have nx_H4001 := st4001.nx
  replace hle := hle.st st4001 (fun k hk => ⟨by omega, trivial⟩)
  replace at3 := st4001.same _ _ ⟨by omega, trivial⟩ at3
  replace at4 := st4001.same _ _ ⟨by omega, trivial⟩ at4
  replace at5 := st4001.same _ _ ⟨by omega, trivial⟩ at5
  replace at7 := st4001.same _ _ ⟨by omega, trivial⟩ at7
  replace at8 := st4001.same _ _ ⟨by omega, trivial⟩ at8
  replace at22 := st4001.same _ _ ⟨by omega, trivial⟩ at22
  replace at2007 := st4001.same _ _ ⟨by omega, trivial⟩ at2007
  have lt_at4001 := GHeap.lt_of_get at4001
  replace hf := base_hf.mono hle
  clear fsf ftf c10f c11f j1f j2f hmf hif hmsf hisf hmtf hitf
  obtain ⟨fsf, ftf, c10f, c11f, j1f, j2f⟩ := hf.get
  have hmf : MemN _ _ _ _ _ := ⟨rfl, hf.1⟩
  have hif := hf.2
  have hmsf : MemN _ _ _ _ _ := ⟨rfl, fsf.1⟩
  have hisf := fsf.2
  have hmtf : MemN _ _ _ _ _ := ⟨rfl, ftf.1⟩
  have hitf := ftf.2
  try simp only [Nat.zero_add, List.set_cons_succ, List.set_cons_zero] at at4001
  refine .nil ?_
  refine hK5 _ _ ?_
  refine .seq (fun K6 hK6 => ?_)
  refine .region ?_
  refine .m rfl rfl rfl (.load on_81_Hh rfl (by first | assumption | exact Mem.of_get at4001 0 _ rfl)) ?_
  refine .callV rfl rfl rfl rfl rfl @Try.call95 rfl ((legsC_c (b := H4001.next) (gc := g22) (b1 := g8) (b2 := g5) (b3 := g9) (b4 := g7) (b5 := g4) (b6 := g3) (b7 := g10) (e0 := H.next) hf0 hP hH hle0.1 hg1 hg2 (by omega) (by omega) (by omega) (by omega) (by omega) (by omega) (by omega) (by omega) f.ob.length 0 gF (List.replicate f.ob.length 0) fs H4001 (by omega) (hle0.trans hle) ⟨at8, at5, at2007, at7, at4, at3, at4001⟩ at22 (by simp) (fun i hi => by omega) (hH.le (hA _) hle) hfs (by omega) hF0 (.inl hF) (Nat.le_refl _))) ?_
  rintro _ H25 ⟨gF25, co25, rfl, hg25, hl25, st25, at25, hlc25, htk25, hA25⟩
  refine .m rfl rfl rfl (.assign rfl) (.nil ?_)
  refine hK6 _ _ ?_
  refine .ret ?_
  refine hret _ _ ?_
  refine ⟨_, rfl, ?_⟩
  exact ⟨gF25, H4001.next, rfl, by omega, st25.nx, by omega, hl25, (St.of_le (bs := [g1, gF]) hle).st st25 (fun k hk ho => ⟨by omega, ho.1, ho.2.1, trivial⟩), hA25⟩
end Go.Proofs.Ytpmjlhbglcaokaa
/- All cones: the program's. No condition but those of each statement. -/
namespace Go.Proofs.Ytpmjlhbglcaokaa
open Go Go.GL Go.RowKit Go.Proofs
theorem on_29_Hi : oneT Try.prog 29 = true := by kernel_rfl
theorem bt_42_Hi : buildT Try.prog 42 = some ([.int .i64 0, .slice none 0 0], [(0, 1), (1, 1)]) := by kernel_rfl
theorem sl_29_Hi : sliceT Try.prog 29 = some (42, 2) := by kernel_rfl
theorem ze_42_Hi : zeroT Try.prog 42 = some ([.int .i64 0, .slice none 0 0], 2) := by kernel_rfl
theorem by_42_Hi : (Try.prog.info? 42).map (·.bytes) = some 32 := by kernel_rfl
theorem sz_29_Hi : (Try.prog.info? 29).map (·.size) = some 1 := by kernel_rfl
theorem ze_29_Hi : zeroT Try.prog 29 = some ([.slice none 0 0], 1) := by kernel_rfl
/-- What the closure of all cones gathers. -/
theorem allCones1_c {go gx gF gc b0 e0 b : Nat} {x : Int} {pre : List Con} {q : List Int} {fs : List (List Int)} {H : GHeap} (hA : GathC 29 42 2 2 go gx b0 e0 x pre b fs gF H) (hgc : H.get gc = some (.row (ints q) 2 true)) (n1 : gc ≠ go) (n2 : gc ≠ gF) (n6 : go ≠ gx) (hb : b ≤ H.next) (hb0 : b0 ≤ b) (hfs : pre.length + fs.length ≤ 400) (hq : q.length ≤ 8) :
    GCalls Try.prog 82 [.slice (some ⟨gc, 0, none⟩) q.length q.length, .pointer (some ⟨go, 0, none⟩), .pointer (some ⟨gx, 0, none⟩)] H (fun v H' => v = .bool (decide (fs.length + 1 ≤ 400 - pre.length)) ∧ ∃ gF', (gF' = gF ∨ H.next ≤ gF') ∧ gF' < H'.next ∧ St [go, gF] H H' ∧ GathC 29 42 2 2 go gx b0 e0 x pre b (fs ++ [q]) gF' H') := by
  obtain ⟨hd, hmo, r, hgF, hR, hside⟩ := hA
  have hd0 := hd
  have hgF0 := hgF
  have n3 := row_ne hd hgF rfl
  have n4 := row_ne hmo hgF rfl
  have hln : (pre ++ fs.map fun l => (⟨x, l⟩ : Con)).length = pre.length + fs.length := by simp
  have hfl := length_conV r (pre ++ fs.map fun l => (⟨x, l⟩ : Con))
  refine GCalls.body (N := 15) (rs := [.tmp 4]) Try.func82 rfl rfl rfl rfl (fun Qx hret hend => ?_)
  refine .forget (fr' := [(0, some _), (1, some _), (2, some _)]) ⟨rfl, rfl, rfl, trivial⟩ ?_
  have lt_hgc := GHeap.lt_of_get hgc
  have lt_hd := GHeap.lt_of_get hd
  have lt_hmo := GHeap.lt_of_get hmo
  have lt_hgF := GHeap.lt_of_get hgF
  have hfo := St.refl [go, gF] H
  refine .seq (fun K1 hK1 => ?_)
  refine .region (.m rfl rfl rfl (.assign rfl) (.nil ?_))
  refine hK1 _ _ ?_
  refine .seq (fun K2 hK2 => ?_)
  refine .regionD mixed_orders_B (.q 0 (.q 1 (.q 2 (.c 3 1 (.q 4 (.c 5 1 (.c 6 0 (.c 7 0 (.done))))))))) (by kernel_rfl) ?_
  refine .m rfl rfl rfl rfl (.refl _) (.load on_29_Hi rfl (by first | assumption | exact Mem.of_get hd 0 _ rfl)) ?_
  refine .m rfl rfl rfl rfl (.refl _) (.load on_2_A rfl (by first | assumption | exact Mem.of_get hmo 0 _ rfl)) ?_
  refine .m rfl rfl rfl rfl (.refl _) (.move rfl) ?_
  refine .call1 rfl rfl rfl rfl rfl @Try.call83 rfl (clone_c (Ints.of_get hgc)) ?_
  rintro _ H8 ⟨le8, g8, rfl, at8, ge8⟩
  have hbl := le8
  refine ⟨hbl, ?_⟩
  have nx_H8 := le8.1
  replace hfo := hfo.le le8
  replace hgc := le8.2 _ _ hgc
  replace hd := le8.2 _ _ hd
  replace hmo := le8.2 _ _ hmo
  replace hgF := le8.2 _ _ hgF
  have lt_at8 := GHeap.lt_of_get at8
  have i8 := Ints.of_get at8
  refine .m rfl rfl rfl rfl hbl (.build bt_42_Hi rfl rfl rfl) ?_
  refine .c1 rfl rfl rfl rfl (.litR rfl sl_29_Hi ze_42_Hi rfl rfl (by omega) (by omega) rfl rfl) ?_
  rintro _ H10 ⟨g10, rfl, le10, ge10, at10⟩
  have hbl := le10
  refine ⟨hbl, ?_⟩
  have nx_H10 := le10.1
  replace hfo := hfo.le le10
  replace hgc := le10.2 _ _ hgc
  replace hd := le10.2 _ _ hd
  replace hmo := le10.2 _ _ hmo
  replace hgF := le10.2 _ _ hgF
  replace at8 := le10.2 _ _ at8
  have lt_at10 := GHeap.lt_of_get at10
  clear i8
  have i8 := Ints.of_get at8
  refine .c0 rfl rfl rfl rfl (.appendV rfl sl_29_Hi ze_42_Hi rfl by_42_Hi sl_29_Hi rfl rfl (by assumption) (by assumption) (by first | omega | (simp <;> omega)) rfl rfl (by omega) (by omega)) ?_
  rintro _ H11 ⟨g11, rfl, st11, ge11, at11⟩
  have nx_H11 := st11.nx
  replace hfo := hfo.st st11 (fun k hk ho => by simp only [out, and_true] at ho ⊢ <;> omega)
  replace hgc := st11.same _ _ ⟨by omega, trivial⟩ hgc
  replace hd := st11.same _ _ ⟨by omega, trivial⟩ hd
  replace hmo := st11.same _ _ ⟨by omega, trivial⟩ hmo
  replace at8 := st11.same _ _ ⟨by omega, trivial⟩ at8
  replace at10 := st11.same _ _ ⟨by omega, trivial⟩ at10
  have lt_at11 := GHeap.lt_of_get at11
  clear i8
  have i8 := Ints.of_get at8
  refine .r0 rfl rfl rfl (.storeR rfl sz_29_Hi rfl rfl rfl (by assumption) (by first | exact Nat.le_of_ble_eq_true rfl | (simp; done) | (simp <;> omega))) ?_
  rintro _ H1007 ⟨rfl, st1007, at1007⟩
  have nx_H1007 := st1007.nx
  replace hfo := hfo.st st1007 (fun k hk ho => by simp only [out, and_true] at ho ⊢ <;> omega)
  replace hgc := st1007.same _ _ ⟨by omega, trivial⟩ hgc
  replace hmo := st1007.same _ _ ⟨by omega, trivial⟩ hmo
  replace at8 := st1007.same _ _ ⟨by omega, trivial⟩ at8
  replace at10 := st1007.same _ _ ⟨by omega, trivial⟩ at10
  replace at11 := st1007.same _ _ ⟨by omega, trivial⟩ at11
  have lt_at1007 := GHeap.lt_of_get at1007
  clear i8
  have i8 := Ints.of_get at8
  try simp only [Nat.zero_add, List.set_cons_succ, List.set_cons_zero] at at1007
  refine .done ?_
  refine hK2 _ _ ?_
  refine .seq (fun K3 hK3 => ?_)
  refine .region ?_
  refine .m rfl rfl rfl (.load on_29_Hi rfl (by first | assumption | exact Mem.of_get at1007 0 _ rfl)) ?_
  refine .m rfl rfl rfl (.len sl_29_Hi rfl) (.m rfl rfl rfl (.cmp rfl rfl rfl) (.m rfl rfl rfl (.assign rfl) (.nil ?_)))
  refine hK3 _ _ ?_
  refine .ret ?_
  refine hret _ _ ?_
  refine ⟨_, rfl, ?_⟩
  have hsn : pre ++ (fs ++ [q]).map (fun l => (⟨x, l⟩ : Con)) = (pre ++ fs.map fun l => (⟨x, l⟩ : Con)) ++ [⟨x, q⟩] := by simp
  have hw0 := hR.st hfo (.cons (hR.neT hd0 rfl) (.cons (hR.neT hgF0 rfl) (.nil _ _)))
  have hw := hw0.snoc2 (x := q) at8 (hR.ne (by omega)) (by omega)
  rw [List.length_map] at hw
  refine ⟨congrArg _ (decide_eq_decide.2 (by omega)), g11, .inr (by omega), by omega, hfo, ?_, hmo, ⟨upd r (pre ++ fs.map fun l => (⟨x, l⟩ : Con)).length (some ⟨g8, 0, none⟩), ?_, ?_, fun i hi g hg => ?_⟩⟩
  · rw [hsn, List.length_append]; exact at1007
  · rw [hsn, conV_snoc]; exact at11
  · rw [hsn, List.map_append]; exact hw
  · by_cases e : i = (pre ++ fs.map fun l => (⟨x, l⟩ : Con)).length
    · subst e
      rw [upd_eq] at hg
      cases hg
      right; omega
    · rw [upd_ne e] at hg
      rw [hsn, List.length_append, List.length_singleton] at hi
      exact hside i (by omega) g hg
set_option maxHeartbeats 4000000 in
theorem allCones_c {g o : Nat} {d : Fun} {p : FunP} {H : GHeap} (h : Fun.At H g o d p := by assumption) (hP : d.Is) :
    GCalls Try.prog 56 [.pointer (some ⟨g, o, none⟩)] H (fun v H' => H.Le H' ∧ ((400 < (d.coneL d.t.obj.toNat).length ∧ v = .tuple #[.slice none 0 0, .bool false]) ∨ ((d.coneL d.t.obj.toNat).length ≤ 400 ∧ ∃ gL r, v = .tuple #[.slice (some ⟨gL, 0, none⟩) (d.coneL d.t.obj.toNat).length (d.coneL d.t.obj.toNat).length, .bool true] ∧ H.next ≤ gL ∧ ConsAt 42 2 H.next H' gL r (d.coneL d.t.obj.toNat)))) := by
  have hob := hP.2.1.1.obj
  refine GCalls.body (N := 25) (rs := [.tmp 2, .tmp 3]) Try.func56 rfl rfl rfl rfl (fun Qx hret hend => ?_)
  refine .forget (fr' := [(0, some _)]) ⟨rfl, trivial⟩ ?_
  have hle := GHeap.Le.refl H
  have base_h := h
  obtain ⟨fs, ft, c10, c11, j1, j2⟩ := h.get
  have hm : MemN _ _ _ _ _ := ⟨rfl, h.1⟩
  have hi := h.2
  have hms : MemN _ _ _ _ _ := ⟨rfl, fs.1⟩
  have his := fs.2
  have hmt : MemN _ _ _ _ _ := ⟨rfl, ft.1⟩
  have hit := ft.2
  obtain ⟨s0, s1, s2, s3, s4, u1, u2, u3, u4⟩ := ft.get
  refine .seq (fun K1 hK1 => ?_)
  refine .region (.m rfl rfl rfl (.assign rfl) (.m rfl rfl rfl (.assign rfl) (.nil ?_)))
  refine hK1 _ _ ?_
  refine .seq (fun K2 hK2 => ?_)
  refine .region ?_
  refine .r rfl rfl rfl (.litR rfl sl_29_Hi ze_42_Hi rfl rfl (by omega) (by omega) rfl rfl) ?_
  rintro _ H7 ⟨g7, rfl, le7, ge7, at7⟩
  have nx_H7 := le7.1
  replace hle := hle.trans le7
  have lt_at7 := GHeap.lt_of_get at7
  replace h := base_h.mono hle
  clear fs ft c10 c11 j1 j2 hm hi hms his hmt hit s0 s1 s2 s3 s4 u1 u2 u3 u4
  obtain ⟨fs, ft, c10, c11, j1, j2⟩ := h.get
  have hm : MemN _ _ _ _ _ := ⟨rfl, h.1⟩
  have hi := h.2
  have hms : MemN _ _ _ _ _ := ⟨rfl, fs.1⟩
  have his := fs.2
  have hmt : MemN _ _ _ _ _ := ⟨rfl, ft.1⟩
  have hit := ft.2
  obtain ⟨s0, s1, s2, s3, s4, u1, u2, u3, u4⟩ := ft.get
  refine .r rfl rfl rfl (.allocR rfl ze_29_Hi rfl) ?_
  rintro _ H4 ⟨g4, rfl, le4, ge4, at4⟩
  have nx_H4 := le4.1
  replace hle := hle.trans le4
  replace at7 := le4.2 _ _ at7
  have lt_at4 := GHeap.lt_of_get at4
  replace h := base_h.mono hle
  clear fs ft c10 c11 j1 j2 hm hi hms his hmt hit s0 s1 s2 s3 s4 u1 u2 u3 u4
  obtain ⟨fs, ft, c10, c11, j1, j2⟩ := h.get
  have hm : MemN _ _ _ _ _ := ⟨rfl, h.1⟩
  have hi := h.2
  have hms : MemN _ _ _ _ _ := ⟨rfl, fs.1⟩
  have his := fs.2
  have hmt : MemN _ _ _ _ _ := ⟨rfl, ft.1⟩
  have hit := ft.2
  obtain ⟨s0, s1, s2, s3, s4, u1, u2, u3, u4⟩ := ft.get
  refine .r0 rfl rfl (.storeR rfl sz_29_Hi rfl rfl rfl (by assumption) (by first | exact Nat.le_of_ble_eq_true rfl | (simp; done) | (simp <;> omega))) ?_
  rintro _ H1002 ⟨rfl, st1002, at1002⟩
  have nx_H1002 := st1002.nx
  replace hle := hle.st st1002 (fun k hk => ⟨by omega, trivial⟩)
  replace at7 := st1002.same _ _ ⟨by omega, trivial⟩ at7
  have lt_at1002 := GHeap.lt_of_get at1002
  replace h := base_h.mono hle
  clear fs ft c10 c11 j1 j2 hm hi hms his hmt hit s0 s1 s2 s3 s4 u1 u2 u3 u4
  obtain ⟨fs, ft, c10, c11, j1, j2⟩ := h.get
  have hm : MemN _ _ _ _ _ := ⟨rfl, h.1⟩
  have hi := h.2
  have hms : MemN _ _ _ _ _ := ⟨rfl, fs.1⟩
  have his := fs.2
  have hmt : MemN _ _ _ _ _ := ⟨rfl, ft.1⟩
  have hit := ft.2
  obtain ⟨s0, s1, s2, s3, s4, u1, u2, u3, u4⟩ := ft.get
  try simp only [Nat.zero_add, List.set_cons_succ, List.set_cons_zero] at at1002
  refine .nil ?_
  refine hK2 _ _ ?_
  refine .seq (fun K3 hK3 => ?_)
  refine .seq (fun K4 hK4 => ?_)
  refine .region ?_
  refine .r rfl rfl rfl (.allocR rfl ze_2_E rfl) ?_
  rintro _ H5 ⟨g5, rfl, le5, ge5, at5⟩
  have nx_H5 := le5.1
  replace hle := hle.trans le5
  replace at7 := le5.2 _ _ at7
  replace at1002 := le5.2 _ _ at1002
  have lt_at5 := GHeap.lt_of_get at5
  replace h := base_h.mono hle
  clear fs ft c10 c11 j1 j2 hm hi hms his hmt hit s0 s1 s2 s3 s4 u1 u2 u3 u4
  obtain ⟨fs, ft, c10, c11, j1, j2⟩ := h.get
  have hm : MemN _ _ _ _ _ := ⟨rfl, h.1⟩
  have hi := h.2
  have hms : MemN _ _ _ _ _ := ⟨rfl, fs.1⟩
  have his := fs.2
  have hmt : MemN _ _ _ _ _ := ⟨rfl, ft.1⟩
  have hit := ft.2
  obtain ⟨s0, s1, s2, s3, s4, u1, u2, u3, u4⟩ := ft.get
  refine .r0 rfl rfl (.storeR rfl sz_2_E rfl rfl rfl (by assumption) (by first | exact Nat.le_of_ble_eq_true rfl | (simp; done) | (simp <;> omega))) ?_
  rintro _ H2001 ⟨rfl, st2001, at2001⟩
  have nx_H2001 := st2001.nx
  replace hle := hle.st st2001 (fun k hk => ⟨by omega, trivial⟩)
  replace at7 := st2001.same _ _ ⟨by omega, trivial⟩ at7
  replace at1002 := st2001.same _ _ ⟨by omega, trivial⟩ at1002
  have lt_at2001 := GHeap.lt_of_get at2001
  replace h := base_h.mono hle
  clear fs ft c10 c11 j1 j2 hm hi hms his hmt hit s0 s1 s2 s3 s4 u1 u2 u3 u4
  obtain ⟨fs, ft, c10, c11, j1, j2⟩ := h.get
  have hm : MemN _ _ _ _ _ := ⟨rfl, h.1⟩
  have hi := h.2
  have hms : MemN _ _ _ _ _ := ⟨rfl, fs.1⟩
  have his := fs.2
  have hmt : MemN _ _ _ _ _ := ⟨rfl, ft.1⟩
  have hit := ft.2
  obtain ⟨s0, s1, s2, s3, s4, u1, u2, u3, u4⟩ := ft.get
  try simp only [Nat.zero_add, List.set_cons_succ, List.set_cons_zero] at at2001
  refine .nil ?_
  refine hK4 _ _ ?_
  refine .block ?_
  refine .loopR (σ := Nat × Nat × Nat) [(0, some _), (4, some _)] (fun (x, gx, gV) => [(5, some (.pointer (some ⟨gx, 0, none⟩)))]) (fun (x, gx, gV) H' => St [g4, g7] H2001 H' ∧ x ≤ d.t.obj.toNat ∧ (d.coneL x).length ≤ 400 ∧ (gx = g5 ∨ H2001.next ≤ gx) ∧ gx < H'.next ∧ (gV = g7 ∨ H2001.next ≤ gV) ∧ gV < H'.next ∧ gx ≠ gV ∧ H'.get gx = some (.row [.int .i64 (x : Int)] 2 true) ∧ H'.get g4 = some (.row [.slice (some ⟨gV, 0, none⟩) (d.coneL x).length (d.coneL x).length] 29 true) ∧ ∃ r, H'.get gV = some (.row (conV r (d.coneL x)) 42 true) ∧ OwnL H.next H' 2 r ((d.coneL x).map Con.lg)) (fun (x, gx, gV) => d.t.obj.toNat - x) ((0, g5, g7)) ⟨rfl, rfl, trivial⟩ ⟨rfl, trivial⟩ ?_ ?_
  ·
   refine ⟨.refl _ _, ?_⟩
   exact ⟨by omega, by simp [Fun.coneL], .inl rfl, by omega, .inl rfl, by omega, by omega, at2001, at1002, fun _ => none, at7, .nil _ _ _ _⟩
  rintro ⟨x, gx, gV⟩ HL1 ⟨lst1, hI⟩ KL1 hKL1
  refine .forget (fr' := [(5, some (.pointer (some ⟨gx, 0, none⟩))), (0, some _), (4, some _)]) ⟨rfl, rfl, rfl, trivial⟩ ?_
  have nx_HL1 := lst1.nx
  replace hle := hle.st lst1 (fun k hk => ⟨by omega, by omega, trivial⟩)
  replace at2001 := lst1.same _ _ ⟨by omega, by omega, trivial⟩ at2001
  replace h := base_h.mono hle
  clear fs ft c10 c11 j1 j2 hm hi hms his hmt hit s0 s1 s2 s3 s4 u1 u2 u3 u4
  obtain ⟨fs, ft, c10, c11, j1, j2⟩ := h.get
  have hm : MemN _ _ _ _ _ := ⟨rfl, h.1⟩
  have hi := h.2
  have hms : MemN _ _ _ _ _ := ⟨rfl, fs.1⟩
  have his := fs.2
  have hmt : MemN _ _ _ _ _ := ⟨rfl, ft.1⟩
  have hit := ft.2
  obtain ⟨s0, s1, s2, s3, s4, u1, u2, u3, u4⟩ := ft.get
  obtain ⟨hx, hcl, hgx, hgxl, hgV, hgVl, hxv, hix, hd, r, hgc, hR⟩ := hI
  have c5 := Mem.of_get hix 0 _ rfl
  refine .seq (fun K5 hK5 => ?_)
  refine .seq (fun K6 hK6 => ?_)
  refine .regionD mixed_orders_B (.q 0 (.q 1 (.q 2 (.q 3 (.q 4 (.q 5 (.q 6 (.done)))))))) (by kernel_rfl) ?_
  refine .m rfl rfl rfl rfl (.refl _) (.load on_2_A rfl (by assumption)) ?_
  refine .m rfl rfl rfl rfl (.refl _) (.move rfl) (.m rfl rfl rfl rfl (.refl _) (.nilCheck rfl) (.m rfl rfl rfl rfl (.refl _) (.fieldAddr fo_34_1_E rfl) (.m rfl rfl rfl rfl (.refl _) (.fieldAddr fo_32_0_B rfl) ?_)))
  refine .m rfl rfl rfl rfl (.refl _) (.load on_2_A rfl (by assumption)) ?_
  refine .m rfl rfl rfl rfl (.refl _) (.cmp rfl rfl rfl) ?_
  refine .done ?_
  refine hK6 _ _ ?_
  refine .cond rfl (fun h14 => ?_) (fun h14 => ?_)
  ·
   simp only [sps] at h14
   refine .skip ?_
   refine hK5 _ _ ?_
   refine .seq (fun K7 hK7 => ?_)
   refine .block ?_
   refine .seq (fun K8 hK8 => ?_)
   refine .region (.m rfl rfl rfl (.move rfl) ?_)
   refine .m rfl rfl rfl (.load on_2_A rfl (by assumption)) ?_
   refine .m rfl rfl rfl (.makeFunc rfl) ?_
   have hears : Hears Try.prog 82 #[.pointer (some ⟨g4, 0, none⟩), .pointer (some ⟨gx, 0, none⟩)] HL1.next g4 (400 - (d.coneL x).length) 2 (fun b fs gF H' => GathC 29 42 2 2 g4 gx H.next HL1.next (x : Int) (d.coneL x) b fs gF H') := ⟨@Try.call82, fun h s => h.le s, fun h h1 h2 h3 s => h.st s (by omega) (by omega) h3 h1 h2, fun hA h1 h2 h3 h4 h5 h6 h7 _ => allCones1_c hA h5 (by omega) h3 (by omega) h4 (by omega) (by omega) h7⟩
   refine .call rfl rfl rfl rfl @Try.call81 rfl ((legs_c (H0 := H) (w := (x : Int)) (gF := gV) (g1 := g4) (fs := []) base_h hP hears hle (by omega) (by omega) (by omega) (by omega) (by simp) (fun b => ⟨by simpa using hd, hix, r, by simpa using hgc, by simpa using hR, fun i hi g hg => .inl (hR.side i (by simpa using hi) g hg)⟩))) ?_
   rintro _ H20 ⟨gF20, b20, rfl, hb20, hbb20, hg20, hl20, st20, hA20⟩
   obtain ⟨hd20, hix20, r20, hgF20, hR20, hsd20⟩ := hA20
   have rk20 := St.refl [] H20
   have nx_H20 := st20.nx
   replace hle := hle.st st20 (fun k hk => ⟨by omega, by omega, trivial⟩)
   replace lst1 := lst1.st st20 (fun k hk ho => by simp only [out, and_true] at ho ⊢ <;> omega)
   replace at2001 := st20.same _ _ ⟨by omega, by omega, trivial⟩ at2001
   have lt_hd20 := GHeap.lt_of_get hd20
   have lt_hgF20 := GHeap.lt_of_get hgF20
   replace h := base_h.mono hle
   clear fs ft c10 c11 j1 j2 hm hi hms his hmt hit s0 s1 s2 s3 s4 u1 u2 u3 u4
   obtain ⟨fs, ft, c10, c11, j1, j2⟩ := h.get
   have hm : MemN _ _ _ _ _ := ⟨rfl, h.1⟩
   have hi := h.2
   have hms : MemN _ _ _ _ _ := ⟨rfl, fs.1⟩
   have his := fs.2
   have hmt : MemN _ _ _ _ _ := ⟨rfl, ft.1⟩
   have hit := ft.2
   obtain ⟨s0, s1, s2, s3, s4, u1, u2, u3, u4⟩ := ft.get
   refine .m rfl rfl rfl (.assign rfl) (.nil ?_)
   refine hK8 _ _ ?_
   refine .seq (fun K9 hK9 => ?_)
   refine .region (.m rfl rfl rfl (.move rfl) (.m rfl rfl rfl (.not rfl) (.nil ?_)))
   refine hK9 _ _ ?_
   refine .cond rfl (fun h22 => ?_) (fun h22 => ?_)
   ·
    have hbig := Fun.coneL_big (d := d) (x := x) (n := d.t.obj.toNat) (by omega) (by have := of_decide_eq_false (bnot_T h22); rw [List.length_nil, Nat.zero_add] at this; exact this) hcl
    refine .seq (fun K10 hK10 => ?_)
    refine .region (.m rfl rfl rfl (.assign rfl) (.m rfl rfl rfl (.assign rfl) (.nil ?_)))
    refine hK10 _ _ ?_
    refine .ret ?_
    refine hret _ _ ?_
    refine ⟨_, _, rfl, rfl, ?_⟩
    exact ⟨hle, .inl ⟨hbig, rfl⟩⟩
   have hsm := of_decide_eq_true (bnot_f h22)
   rw [List.length_nil, Nat.zero_add] at hsm
   have hE := Fun.coneL_next hsm
   have hlen : (d.coneL (x + 1)).length ≤ 400 := by rw [Fun.coneL_succ, List.length_append, List.length_map]; omega
   rw [hE] at hd20 hgF20 hR20
   refine .skip ?_
   refine hK7 _ _ ?_
   refine .seq (fun K11 hK11 => ?_)
   refine .seq (fun K12 hK12 => ?_)
   refine .region ?_
   have c5b := Mem.of_get hix20 0 _ rfl
   refine .m rfl rfl rfl (.load on_2_A rfl (by assumption)) ?_
   refine .nil ?_
   refine hK12 _ _ ?_
   refine .region ?_
   refine .r rfl rfl rfl (.allocR rfl ze_2_E rfl) ?_
   rintro _ H5x2 ⟨g5x2, rfl, le5x2, ge5x2, at5x2⟩
   have nx_H5x2 := le5x2.1
   replace hle := hle.trans le5x2
   replace lst1 := lst1.le le5x2
   replace rk20 := rk20.le le5x2
   replace at2001 := le5x2.2 _ _ at2001
   replace hd20 := le5x2.2 _ _ hd20
   replace hgF20 := le5x2.2 _ _ hgF20
   have lt_at5x2 := GHeap.lt_of_get at5x2
   replace h := base_h.mono hle
   clear fs ft c10 c11 j1 j2 hm hi hms his hmt hit s0 s1 s2 s3 s4 u1 u2 u3 u4
   obtain ⟨fs, ft, c10, c11, j1, j2⟩ := h.get
   have hm : MemN _ _ _ _ _ := ⟨rfl, h.1⟩
   have hi := h.2
   have hms : MemN _ _ _ _ _ := ⟨rfl, fs.1⟩
   have his := fs.2
   have hmt : MemN _ _ _ _ _ := ⟨rfl, ft.1⟩
   have hit := ft.2
   obtain ⟨s0, s1, s2, s3, s4, u1, u2, u3, u4⟩ := ft.get
   refine .r0 rfl rfl (.storeR rfl sz_2_E rfl rfl rfl (by assumption) (by first | exact Nat.le_of_ble_eq_true rfl | (simp; done) | (simp <;> omega))) ?_
   rintro _ H9001 ⟨rfl, st9001, at9001⟩
   have nx_H9001 := st9001.nx
   replace hle := hle.st st9001 (fun k hk => ⟨by omega, trivial⟩)
   replace lst1 := lst1.st st9001 (fun k hk ho => by simp only [out, and_true] at ho ⊢ <;> omega)
   replace rk20 := rk20.st st9001 (fun k hk ho => by simp only [out, and_true] at ho ⊢ <;> omega)
   replace at2001 := st9001.same _ _ ⟨by omega, trivial⟩ at2001
   replace hd20 := st9001.same _ _ ⟨by omega, trivial⟩ hd20
   replace hgF20 := st9001.same _ _ ⟨by omega, trivial⟩ hgF20
   have lt_at9001 := GHeap.lt_of_get at9001
   replace h := base_h.mono hle
   clear fs ft c10 c11 j1 j2 hm hi hms his hmt hit s0 s1 s2 s3 s4 u1 u2 u3 u4
   obtain ⟨fs, ft, c10, c11, j1, j2⟩ := h.get
   have hm : MemN _ _ _ _ _ := ⟨rfl, h.1⟩
   have hi := h.2
   have hms : MemN _ _ _ _ _ := ⟨rfl, fs.1⟩
   have his := fs.2
   have hmt : MemN _ _ _ _ _ := ⟨rfl, ft.1⟩
   have hit := ft.2
   obtain ⟨s0, s1, s2, s3, s4, u1, u2, u3, u4⟩ := ft.get
   try simp only [Nat.zero_add, List.set_cons_succ, List.set_cons_zero] at at9001
   refine .nil ?_
   refine hK11 _ _ ?_
   refine .region ?_
   refine .m rfl rfl rfl (.load on_2_A rfl (by first | assumption | exact Mem.of_get at9001 0 _ rfl)) ?_
   refine .m rfl rfl rfl (.add rfl rfl rfl (by omega) (by omega)) ?_
   refine .r0 rfl rfl (.storeR rfl sz_2_E rfl rfl rfl (by assumption) (by first | exact Nat.le_of_ble_eq_true rfl | (simp; done) | (simp <;> omega))) ?_
   rintro _ H4002 ⟨rfl, st4002, at4002⟩
   have nx_H4002 := st4002.nx
   replace hle := hle.st st4002 (fun k hk => ⟨by omega, trivial⟩)
   replace lst1 := lst1.st st4002 (fun k hk ho => by simp only [out, and_true] at ho ⊢ <;> omega)
   replace rk20 := rk20.st st4002 (fun k hk ho => by simp only [out, and_true] at ho ⊢ <;> omega)
   replace at2001 := st4002.same _ _ ⟨by omega, trivial⟩ at2001
   replace hd20 := st4002.same _ _ ⟨by omega, trivial⟩ hd20
   replace hgF20 := st4002.same _ _ ⟨by omega, trivial⟩ hgF20
   have lt_at4002 := GHeap.lt_of_get at4002
   replace h := base_h.mono hle
   clear fs ft c10 c11 j1 j2 hm hi hms his hmt hit s0 s1 s2 s3 s4 u1 u2 u3 u4
   obtain ⟨fs, ft, c10, c11, j1, j2⟩ := h.get
   have hm : MemN _ _ _ _ _ := ⟨rfl, h.1⟩
   have hi := h.2
   have hms : MemN _ _ _ _ _ := ⟨rfl, fs.1⟩
   have his := fs.2
   have hmt : MemN _ _ _ _ _ := ⟨rfl, ft.1⟩
   have hit := ft.2
   obtain ⟨s0, s1, s2, s3, s4, u1, u2, u3, u4⟩ := ft.get
   try simp only [Nat.zero_add, List.set_cons_succ, List.set_cons_zero] at at4002
   refine .nil ?_
   refine hKL1 ((x + 1, g5x2, gF20)) _ _ ?_ ?_ ⟨rfl, rfl, rfl, trivial⟩
   ·
    refine ⟨lst1, ?_⟩
    exact ⟨by omega, hlen, .inr (by omega), by omega, by omega, by omega, by omega, at4002, hd20, r20, hgF20, hR20.mono (rk20.le_of_nil)⟩
   (dsimp only; omega)
  simp only [sps] at h14
  refine .exit ?_
  refine hK3 _ _ ?_
  refine .seq (fun K13 hK13 => ?_)
  refine .region ?_
  have c44 := Mem.of_get hd 0 _ rfl
  refine .m rfl rfl rfl (.load on_29_Hi rfl (by assumption)) ?_
  refine .m rfl rfl rfl (.assign rfl) (.m rfl rfl rfl (.assign rfl) (.nil ?_))
  refine hK13 _ _ ?_
  refine .ret ?_
  refine hret _ _ ?_
  refine ⟨_, _, rfl, rfl, ?_⟩
  obtain rfl : x = d.t.obj.toNat := by omega
  exact ⟨hle, .inr ⟨hcl, gV, r, rfl, by omega, hgc, hR⟩⟩
end Go.Proofs.Ytpmjlhbglcaokaa
/- Universal cones. No condition but those of each statement. -/
namespace Go.Proofs.Ytpmjlhbglcaokaa
open Go Go.GL Go.RowKit Go.Proofs
set_option maxHeartbeats 4000000 in
theorem l12Universal_c {k n : Nat} {d : Fun} {p : FunP} {m : Con} {q : ConP} {C : Nat → Con} {P : Nat → ConP} {f : Nat → Value} {H : GHeap} (hin : d.In H p) (hI : d.Is) (hm : m.In H q) (hcm : d.Cone m) (hn : n ≤ 1000) (hsl : SlA H (some ⟨k, 0, none⟩) (n * 2) f)
    (hmem : ∀ i, i < n → MemN H k (0 + (i : Int).toNat * 2) 2 ((C i).cells (P i))) (hins : ∀ i, i < n → (C i).In H (P i)) (hcs : ∀ i, i < n → d.Cone (C i)) :
    GCalls Try.prog 73 [.agg (d.cells p).toArray, .slice (some ⟨k, 0, none⟩) n n, .agg (m.cells q).toArray] H (Ret (.bool (B (∀ i, i < n → (d.coneMaps (C i) m).length = 1))) H) := by
  refine GCalls.ret rfl ?_
  have hI0 := hI
  refine GCalls.body (N := 23) (rs := [.tmp 6]) Try.func73 rfl rfl rfl rfl (fun Qx hret hend => ?_)
  refine .forget (fr' := [(0, some _), (1, some _), (2, some _)]) ⟨rfl, rfl, rfl, trivial⟩ ?_
  have hle := GHeap.Le.refl H
  have base_hin := hin
  have base_hm := hm
  have base_hsl := hsl
  refine .seq (fun K1 hK1 => ?_)
  refine .region ?_
  refine .r rfl rfl rfl (.boxR rfl sz_34_E rfl) ?_
  rintro _ H3 ⟨g3, rfl, le3, ge3, at3⟩
  have nx_H3 := le3.1
  replace hle := hle.trans le3
  have lt_at3 := GHeap.lt_of_get at3
  replace hin := base_hin.mono hle
  replace hm := base_hm.mono hle
  replace hsl := base_hsl.mono hle
  have hb3 : Fun.At _ g3 0 d p := ⟨Mem.of_get at3, hin⟩
  obtain ⟨fs3, ft3, c103, c113, j13, j23⟩ := hb3.get
  have hm3 : MemN _ _ _ _ _ := ⟨rfl, hb3.1⟩
  have hi3 := hb3.2
  have hms3 : MemN _ _ _ _ _ := ⟨rfl, fs3.1⟩
  have his3 := fs3.2
  have hmt3 : MemN _ _ _ _ _ := ⟨rfl, ft3.1⟩
  have hit3 := ft3.2
  refine .r rfl rfl rfl (.boxR rfl sz_42_VCon rfl) ?_
  rintro _ H5 ⟨g5, rfl, le5, ge5, at5⟩
  have nx_H5 := le5.1
  replace hle := hle.trans le5
  replace at3 := le5.2 _ _ at3
  have lt_at5 := GHeap.lt_of_get at5
  replace hin := base_hin.mono hle
  replace hm := base_hm.mono hle
  replace hsl := base_hsl.mono hle
  clear hb3 fs3 ft3 c103 c113 j13 j23 hm3 hi3 hms3 his3 hmt3 hit3
  have hb3 : Fun.At _ g3 0 d p := ⟨Mem.of_get at3, hin⟩
  obtain ⟨fs3, ft3, c103, c113, j13, j23⟩ := hb3.get
  have hm3 : MemN _ _ _ _ _ := ⟨rfl, hb3.1⟩
  have hi3 := hb3.2
  have hms3 : MemN _ _ _ _ _ := ⟨rfl, fs3.1⟩
  have his3 := fs3.2
  have hmt3 : MemN _ _ _ _ _ := ⟨rfl, ft3.1⟩
  have hit3 := ft3.2
  have hb5 : Con.At _ g5 0 m q := ⟨Mem.of_get at5, hm⟩
  obtain ⟨c05, c15, i15⟩ := hb5.get
  have hm5 : MemN _ _ _ _ _ := ⟨rfl, hb5.1⟩
  have hi5 := hb5.2
  refine .m rfl rfl rfl (.assign rfl) (.nil ?_)
  refine hK1 _ _ ?_
  refine .seq (fun K2 hK2 => ?_)
  refine .seq (fun K3 hK3 => ?_)
  refine .region (.m rfl rfl rfl (.assign rfl) (.nil ?_))
  refine hK3 _ _ ?_
  refine .block ?_
  refine .loopR (σ := Nat) [(1, some _), (3, some _), (5, some _)] (fun i => [(7, some (.int .i64 (i : Int)))]) (fun i H' => St [] H5 H' ∧ i ≤ n ∧ ∀ j, j < i → (d.coneMaps (C j) m).length = 1) (fun i => n - i) (0) ⟨rfl, rfl, rfl, trivial⟩ ⟨rfl, trivial⟩ ?_ ?_
  ·
   refine ⟨.refl _ _, ?_⟩
   exact ⟨by omega, fun j hj => by omega⟩
  rintro i HL1 ⟨lst1, hI⟩ KL1 hKL1
  refine .forget (fr' := [(7, some (.int .i64 (i : Int))), (1, some _), (3, some _), (5, some _)]) ⟨rfl, rfl, rfl, rfl, trivial⟩ ?_
  have nx_HL1 := lst1.nx
  replace hle := hle.st lst1 (fun k hk => trivial)
  replace at3 := lst1.same _ _ trivial at3
  replace at5 := lst1.same _ _ trivial at5
  replace hin := base_hin.mono hle
  replace hm := base_hm.mono hle
  replace hsl := base_hsl.mono hle
  clear hb3 fs3 ft3 c103 c113 j13 j23 hm3 hi3 hms3 his3 hmt3 hit3
  have hb3 : Fun.At _ g3 0 d p := ⟨Mem.of_get at3, hin⟩
  obtain ⟨fs3, ft3, c103, c113, j13, j23⟩ := hb3.get
  have hm3 : MemN _ _ _ _ _ := ⟨rfl, hb3.1⟩
  have hi3 := hb3.2
  have hms3 : MemN _ _ _ _ _ := ⟨rfl, fs3.1⟩
  have his3 := fs3.2
  have hmt3 : MemN _ _ _ _ _ := ⟨rfl, ft3.1⟩
  have hit3 := ft3.2
  clear hb5 c05 c15 i15 hm5 hi5
  have hb5 : Con.At _ g5 0 m q := ⟨Mem.of_get at5, hm⟩
  obtain ⟨c05, c15, i15⟩ := hb5.get
  have hm5 : MemN _ _ _ _ _ := ⟨rfl, hb5.1⟩
  have hi5 := hb5.2
  obtain ⟨hi, ha⟩ := hI
  refine .seq (fun K4 hK4 => ?_)
  refine .seq (fun K5 hK5 => ?_)
  refine .region (.m rfl rfl rfl (.move rfl) (.m rfl rfl rfl (.move rfl) (.m rfl rfl rfl (.len sl_29_Cm rfl) ?_)))
  refine .m rfl rfl rfl (.cmp rfl rfl rfl) (.nil ?_)
  refine hK5 _ _ ?_
  refine .cond rfl (fun h11 => ?_) (fun h11 => ?_)
  ·
   simp only [sps] at h11
   have hm1 : MemN _ _ _ _ _ := ⟨(hmem i (by omega)).1, (hmem i (by omega)).2.mono hle⟩
   have hin1 := (hins i (by omega)).mono hle
   refine .skip ?_
   refine hK4 _ _ ?_
   refine .seq (fun K6 hK6 => ?_)
   refine .block ?_
   refine .seq (fun K7 hK7 => ?_)
   refine .regionD mixed_orders_B (.q 0 (.q 1 (.q 2 (.q 3 (.q 4 (.q 5 (.c 6 0 (.q 7 (.q 8 (.done)))))))))) (by kernel_rfl) ?_
   refine .m rfl rfl rfl rfl (.refl _) (.loadM ag_34_E rfl ⟨rfl, Mem.of_get at3⟩) ?_
   refine .m rfl rfl rfl rfl (.refl _) (.move rfl) (.m rfl rfl rfl rfl (.refl _) (.move rfl) ?_)
   refine .m rfl rfl rfl rfl (.refl _) (.idx sl_29_Cm (by assumption) (by omega) rfl rfl (by omega) (by omega) rfl) ?_
   refine .m rfl rfl rfl rfl (.refl _) (.loadM ag_42_VCon rfl (by assumption)) ?_
   refine .m rfl rfl rfl rfl (.refl _) (.loadM ag_42_VCon rfl ⟨rfl, Mem.of_get at5⟩) ?_
   refine .call0 rfl rfl rfl rfl rfl @Try.call51 rfl (l12Maps_c (m := C i) (m' := m) hin hin1 hm hI0 (hcs i (by omega)) hcm) ?_
   rintro _ H20 ⟨le20, g20, rfl, at20, ge20⟩
   have nx_H20 := le20.1
   replace hle := hle.trans le20
   replace lst1 := lst1.le le20
   replace at3 := le20.2 _ _ at3
   replace at5 := le20.2 _ _ at5
   have lt_at20 := GHeap.lt_of_get at20
   replace hin := base_hin.mono hle
   replace hm := base_hm.mono hle
   replace hsl := base_hsl.mono hle
   clear hb3 fs3 ft3 c103 c113 j13 j23 hm3 hi3 hms3 his3 hmt3 hit3
   have hb3 : Fun.At _ g3 0 d p := ⟨Mem.of_get at3, hin⟩
   obtain ⟨fs3, ft3, c103, c113, j13, j23⟩ := hb3.get
   have hm3 : MemN _ _ _ _ _ := ⟨rfl, hb3.1⟩
   have hi3 := hb3.2
   have hms3 : MemN _ _ _ _ _ := ⟨rfl, fs3.1⟩
   have his3 := fs3.2
   have hmt3 : MemN _ _ _ _ _ := ⟨rfl, ft3.1⟩
   have hit3 := ft3.2
   clear hb5 c05 c15 i15 hm5 hi5
   have hb5 : Con.At _ g5 0 m q := ⟨Mem.of_get at5, hm⟩
   obtain ⟨c05, c15, i15⟩ := hb5.get
   have hm5 : MemN _ _ _ _ _ := ⟨rfl, hb5.1⟩
   have hi5 := hb5.2
   clear hm1 hin1
   have hm1 : MemN _ _ _ _ _ := ⟨(hmem i (by omega)).1, (hmem i (by omega)).2.mono hle⟩
   have hin1 := (hins i (by omega)).mono hle
   have i20 := Ints.of_get at20
   refine .m rfl rfl rfl rfl (.refl _) (.len sl_22_A rfl) (.m rfl rfl rfl rfl (.refl _) (.cmp rfl rfl rfl) ?_)
   refine .done ?_
   refine hK7 _ _ ?_
   refine .cond rfl (fun h22 => ?_) (fun h22 => ?_)
   ·
    simp only [sps] at h22
    refine .seq (fun K8 hK8 => ?_)
    refine .region (.m rfl rfl rfl (.assign rfl) (.nil ?_))
    refine hK8 _ _ ?_
    refine .ret ?_
    refine hret _ _ ?_
    refine ⟨_, rfl, ?_⟩
    exact ⟨by rw [B_false fun hh => h22 (by have := hh i (by omega); omega)], hle⟩
   simp only [sps] at h22
   refine .skip ?_
   refine hK6 _ _ ?_
   refine .region (.m rfl rfl rfl (.move rfl) ?_)
   refine .m rfl rfl rfl (.add rfl rfl rfl (by omega) (by omega)) ?_
   refine .m rfl rfl rfl (.assign rfl) (.nil ?_)
   refine hKL1 (i + 1) _ _ ?_ ?_ ⟨rfl, rfl, rfl, rfl, trivial⟩
   ·
    refine ⟨lst1, ?_⟩
    refine ⟨by omega, fun j hj => ?_⟩
    by_cases e : j < i
    · exact ha j e
    · obtain rfl : j = i := by omega
      omega
   omega
  try simp only [sps] at h11
  refine .exit ?_
  refine hK2 _ _ ?_
  refine .seq (fun K9 hK9 => ?_)
  refine .region (.m rfl rfl rfl (.assign rfl) (.nil ?_))
  refine hK9 _ _ ?_
  refine .ret ?_
  refine hret _ _ ?_
  refine ⟨_, rfl, ?_⟩
  exact ⟨by rw [B_true fun j hj => ha j (by omega)], hle⟩
theorem l12Universal0_c {d : Fun} {p : FunP} {m : Con} {q : ConP} {H : GHeap} (hin : d.In H p) (hm : m.In H q) :
    GCalls Try.prog 73 [.agg (d.cells p).toArray, .slice none 0 0, .agg (m.cells q).toArray] H (Ret (.bool true) H) := by
  refine GCalls.ret rfl ?_
  refine GCalls.body (N := 23) (rs := [.tmp 6]) Try.func73 rfl rfl rfl rfl (fun Qx hret hend => ?_)
  refine .forget (fr' := [(0, some _), (1, some _), (2, some _)]) ⟨rfl, rfl, rfl, trivial⟩ ?_
  have hle := GHeap.Le.refl H
  have base_hin := hin
  have base_hm := hm
  refine .seq (fun K1 hK1 => ?_)
  refine .region ?_
  refine .r rfl rfl rfl (.boxR rfl sz_34_E rfl) ?_
  rintro _ H3 ⟨g3, rfl, le3, ge3, at3⟩
  have nx_H3 := le3.1
  replace hle := hle.trans le3
  have lt_at3 := GHeap.lt_of_get at3
  replace hin := base_hin.mono hle
  replace hm := base_hm.mono hle
  have hb3 : Fun.At _ g3 0 d p := ⟨Mem.of_get at3, hin⟩
  obtain ⟨fs3, ft3, c103, c113, j13, j23⟩ := hb3.get
  have hm3 : MemN _ _ _ _ _ := ⟨rfl, hb3.1⟩
  have hi3 := hb3.2
  have hms3 : MemN _ _ _ _ _ := ⟨rfl, fs3.1⟩
  have his3 := fs3.2
  have hmt3 : MemN _ _ _ _ _ := ⟨rfl, ft3.1⟩
  have hit3 := ft3.2
  refine .r rfl rfl rfl (.boxR rfl sz_42_VCon rfl) ?_
  rintro _ H5 ⟨g5, rfl, le5, ge5, at5⟩
  have nx_H5 := le5.1
  replace hle := hle.trans le5
  replace at3 := le5.2 _ _ at3
  have lt_at5 := GHeap.lt_of_get at5
  replace hin := base_hin.mono hle
  replace hm := base_hm.mono hle
  clear hb3 fs3 ft3 c103 c113 j13 j23 hm3 hi3 hms3 his3 hmt3 hit3
  have hb3 : Fun.At _ g3 0 d p := ⟨Mem.of_get at3, hin⟩
  obtain ⟨fs3, ft3, c103, c113, j13, j23⟩ := hb3.get
  have hm3 : MemN _ _ _ _ _ := ⟨rfl, hb3.1⟩
  have hi3 := hb3.2
  have hms3 : MemN _ _ _ _ _ := ⟨rfl, fs3.1⟩
  have his3 := fs3.2
  have hmt3 : MemN _ _ _ _ _ := ⟨rfl, ft3.1⟩
  have hit3 := ft3.2
  have hb5 : Con.At _ g5 0 m q := ⟨Mem.of_get at5, hm⟩
  obtain ⟨c05, c15, i15⟩ := hb5.get
  have hm5 : MemN _ _ _ _ _ := ⟨rfl, hb5.1⟩
  have hi5 := hb5.2
  refine .m rfl rfl rfl (.assign rfl) (.nil ?_)
  refine hK1 _ _ ?_
  refine .seq (fun K2 hK2 => ?_)
  refine .seq (fun K3 hK3 => ?_)
  refine .region (.m rfl rfl rfl (.assign rfl) (.nil ?_))
  refine hK3 _ _ ?_
  refine .block ?_
  refine .loopR (σ := Nat) [(1, some _), (3, some _), (5, some _)] (fun i => [(7, some (.int .i64 (i : Int)))]) (fun i H' => St [] H5 H' ∧ i = 0) (fun i => i) (0) ⟨rfl, rfl, rfl, trivial⟩ ⟨rfl, trivial⟩ ?_ ?_
  ·
   refine ⟨.refl _ _, ?_⟩
   rfl
  rintro i HL1 ⟨lst1, hI⟩ KL1 hKL1
  refine .forget (fr' := [(7, some (.int .i64 (i : Int))), (1, some _), (3, some _), (5, some _)]) ⟨rfl, rfl, rfl, rfl, trivial⟩ ?_
  have nx_HL1 := lst1.nx
  replace hle := hle.st lst1 (fun k hk => trivial)
  replace at3 := lst1.same _ _ trivial at3
  replace at5 := lst1.same _ _ trivial at5
  replace hin := base_hin.mono hle
  replace hm := base_hm.mono hle
  clear hb3 fs3 ft3 c103 c113 j13 j23 hm3 hi3 hms3 his3 hmt3 hit3
  have hb3 : Fun.At _ g3 0 d p := ⟨Mem.of_get at3, hin⟩
  obtain ⟨fs3, ft3, c103, c113, j13, j23⟩ := hb3.get
  have hm3 : MemN _ _ _ _ _ := ⟨rfl, hb3.1⟩
  have hi3 := hb3.2
  have hms3 : MemN _ _ _ _ _ := ⟨rfl, fs3.1⟩
  have his3 := fs3.2
  have hmt3 : MemN _ _ _ _ _ := ⟨rfl, ft3.1⟩
  have hit3 := ft3.2
  clear hb5 c05 c15 i15 hm5 hi5
  have hb5 : Con.At _ g5 0 m q := ⟨Mem.of_get at5, hm⟩
  obtain ⟨c05, c15, i15⟩ := hb5.get
  have hm5 : MemN _ _ _ _ _ := ⟨rfl, hb5.1⟩
  have hi5 := hb5.2
  refine .seq (fun K4 hK4 => ?_)
  refine .seq (fun K5 hK5 => ?_)
  refine .region (.m rfl rfl rfl (.move rfl) (.m rfl rfl rfl (.move rfl) (.m rfl rfl rfl (.len sl_29_Cm rfl) ?_)))
  refine .m rfl rfl rfl (.cmp rfl rfl rfl) (.nil ?_)
  refine hK5 _ _ ?_
  refine .cond rfl (fun h11 => ?_) (fun h11 => ?_)
  ·
   simp only [sps] at h11; omega
  try simp only [sps] at h11
  refine .exit ?_
  refine hK2 _ _ ?_
  refine .seq (fun K6 hK6 => ?_)
  refine .region (.m rfl rfl rfl (.assign rfl) (.nil ?_))
  refine hK6 _ _ ?_
  refine .ret ?_
  refine hret _ _ ?_
  refine ⟨_, rfl, ?_⟩
  exact ⟨rfl, hle⟩
set_option maxHeartbeats 4000000 in
theorem isUniversal_c {g o k n : Nat} {d : Fun} {p : FunP} {m : Con} {q : ConP} {C : Nat → Con} {P : Nat → ConP} {f : Nat → Value} {H : GHeap} (h : Fun.At H g o d p) (hI : d.Is) (hm : m.In H q) (hcm : d.Cone m) (hn : n ≤ 1000) (hsl : SlA H (some ⟨k, 0, none⟩) (n * 2) f)
    (hmem : ∀ i, i < n → MemN H k (0 + (i : Int).toNat * 2) 2 ((C i).cells (P i))) (hins : ∀ i, i < n → (C i).In H (P i)) (hcs : ∀ i, i < n → d.Cone (C i)) :
    GCalls Try.prog 74 [.pointer (some ⟨g, o, none⟩), .slice (some ⟨k, 0, none⟩) n n, .agg (m.cells q).toArray] H (Ret (.bool (B (∀ i, i < n → (d.coneMaps (C i) m).length = 1))) H) := by
  refine GCalls.ret rfl ?_
  have hI0 := hI
  refine GCalls.body (N := 22) (rs := [.tmp 6]) Try.func74 rfl rfl rfl rfl (fun Qx hret hend => ?_)
  refine .forget (fr' := [(0, some _), (1, some _), (2, some _)]) ⟨rfl, rfl, rfl, trivial⟩ ?_
  have hle := GHeap.Le.refl H
  have base_h := h
  have base_hm := hm
  have base_hsl := hsl
  refine .seq (fun K1 hK1 => ?_)
  refine .region ?_
  refine .r rfl rfl rfl (.boxR rfl sz_42_VCon rfl) ?_
  rintro _ H5 ⟨g5, rfl, le5, ge5, at5⟩
  have nx_H5 := le5.1
  replace hle := hle.trans le5
  have lt_at5 := GHeap.lt_of_get at5
  replace h := base_h.mono hle
  replace hm := base_hm.mono hle
  replace hsl := base_hsl.mono hle
  have hb5 : Con.At _ g5 0 m q := ⟨Mem.of_get at5, hm⟩
  obtain ⟨c05, c15, i15⟩ := hb5.get
  have hm5 : MemN _ _ _ _ _ := ⟨rfl, hb5.1⟩
  have hi5 := hb5.2
  refine .m rfl rfl rfl (.assign rfl) (.nil ?_)
  refine hK1 _ _ ?_
  refine .seq (fun K2 hK2 => ?_)
  refine .seq (fun K3 hK3 => ?_)
  refine .region (.m rfl rfl rfl (.move rfl) (.m rfl rfl rfl (.len sl_29_Cm rfl) (.m rfl rfl rfl (.move rfl) ?_)))
  refine .nil ?_
  refine hK3 _ _ ?_
  refine .block ?_
  refine .loopR (σ := Nat) [(0, some _), (5, some _), (9, some _), (10, some _)] (fun i => [(11, some (.int .i64 (i : Int)))]) (fun i H' => St [] H5 H' ∧ i ≤ n ∧ ∀ j, j < i → (d.coneMaps (C j) m).length = 1) (fun i => n - i) (0) ⟨rfl, rfl, rfl, rfl, trivial⟩ ⟨rfl, trivial⟩ ?_ ?_
  ·
   refine ⟨.refl _ _, ?_⟩
   exact ⟨by omega, fun j hj => by omega⟩
  rintro i HL1 ⟨lst1, hI⟩ KL1 hKL1
  refine .forget (fr' := [(11, some (.int .i64 (i : Int))), (0, some _), (5, some _), (9, some _), (10, some _)]) ⟨rfl, rfl, rfl, rfl, rfl, trivial⟩ ?_
  have nx_HL1 := lst1.nx
  replace hle := hle.st lst1 (fun k hk => trivial)
  replace at5 := lst1.same _ _ trivial at5
  replace h := base_h.mono hle
  replace hm := base_hm.mono hle
  replace hsl := base_hsl.mono hle
  clear hb5 c05 c15 i15 hm5 hi5
  have hb5 : Con.At _ g5 0 m q := ⟨Mem.of_get at5, hm⟩
  obtain ⟨c05, c15, i15⟩ := hb5.get
  have hm5 : MemN _ _ _ _ _ := ⟨rfl, hb5.1⟩
  have hi5 := hb5.2
  obtain ⟨hi, ha⟩ := hI
  refine .seq (fun K4 hK4 => ?_)
  refine .region (.m rfl rfl rfl (.cmp rfl rfl rfl) (.nil ?_))
  refine hK4 _ _ ?_
  refine .seq (fun K5 hK5 => ?_)
  refine .cond rfl (fun h12 => ?_) (fun h12 => ?_)
  ·
   simp only [sps] at h12
   have hm1 : MemN _ _ _ _ _ := ⟨(hmem i (by omega)).1, (hmem i (by omega)).2.mono hle⟩
   have hin1 := (hins i (by omega)).mono hle
   refine .skip ?_
   refine hK5 _ _ ?_
   refine .seq (fun K6 hK6 => ?_)
   refine .block ?_
   refine .seq (fun K7 hK7 => ?_)
   refine .region ?_
   refine .m rfl rfl rfl (.idx sl_29_Cm (by assumption) (by omega) rfl rfl (by omega) (by omega) rfl) ?_
   refine .m rfl rfl rfl (.loadM ag_42_VCon rfl (by assumption)) ?_
   refine .r rfl rfl rfl (.allocR rfl ze_42_VCon rfl) ?_
   rintro _ H8 ⟨g8, rfl, le8, ge8, at8⟩
   have nx_H8 := le8.1
   replace hle := hle.trans le8
   replace lst1 := lst1.le le8
   replace at5 := le8.2 _ _ at5
   have lt_at8 := GHeap.lt_of_get at8
   replace h := base_h.mono hle
   replace hm := base_hm.mono hle
   replace hsl := base_hsl.mono hle
   clear hb5 c05 c15 i15 hm5 hi5
   have hb5 : Con.At _ g5 0 m q := ⟨Mem.of_get at5, hm⟩
   obtain ⟨c05, c15, i15⟩ := hb5.get
   have hm5 : MemN _ _ _ _ _ := ⟨rfl, hb5.1⟩
   have hi5 := hb5.2
   clear hm1 hin1
   have hm1 : MemN _ _ _ _ _ := ⟨(hmem i (by omega)).1, (hmem i (by omega)).2.mono hle⟩
   have hin1 := (hins i (by omega)).mono hle
   refine .r0 rfl rfl (.fillR rfl sz_42_VCon rfl rfl rfl rfl (by assumption) (by first | rfl | exact Nat.le_of_ble_eq_true rfl | simp)) ?_
   rintro _ H3003 ⟨rfl, st3003, at3003⟩
   have nx_H3003 := st3003.nx
   replace hle := hle.st st3003 (fun k hk => ⟨by omega, trivial⟩)
   replace lst1 := lst1.st st3003 (fun k hk ho => by simp only [out, and_true] at ho ⊢ <;> omega)
   replace at5 := st3003.same _ _ ⟨by omega, trivial⟩ at5
   have lt_at3003 := GHeap.lt_of_get at3003
   replace h := base_h.mono hle
   replace hm := base_hm.mono hle
   replace hsl := base_hsl.mono hle
   clear hb5 c05 c15 i15 hm5 hi5
   have hb5 : Con.At _ g5 0 m q := ⟨Mem.of_get at5, hm⟩
   obtain ⟨c05, c15, i15⟩ := hb5.get
   have hm5 : MemN _ _ _ _ _ := ⟨rfl, hb5.1⟩
   have hi5 := hb5.2
   clear hm1 hin1
   have hm1 : MemN _ _ _ _ _ := ⟨(hmem i (by omega)).1, (hmem i (by omega)).2.mono hle⟩
   have hin1 := (hins i (by omega)).mono hle
   have mm3003 : MemN _ _ _ _ _ := ⟨rfl, Mem.of_get at3003⟩
   have hb8 : Con.At _ g8 0 (C i) (P i) := ⟨Mem.of_get at3003, hin1⟩
   obtain ⟨c08, c18, i18⟩ := hb8.get
   have hm8 : MemN _ _ _ _ _ := ⟨rfl, hb8.1⟩
   have hi8 := hb8.2
   refine .nil ?_
   refine hK7 _ _ ?_
   refine .seq (fun K8 hK8 => ?_)
   refine .region (.m rfl rfl rfl (.move rfl) ?_)
   refine .m rfl rfl rfl (.loadM ag_42_VCon rfl ⟨rfl, Mem.of_get at3003⟩) ?_
   refine .m rfl rfl rfl (.loadM ag_42_VCon rfl ⟨rfl, Mem.of_get at5⟩) ?_
   refine .call rfl rfl rfl rfl @Try.call57 rfl (coneMaps_c (m := C i) (m' := m) h hin1 hm hI0 (hcs i (by omega)) hcm) ?_
   rintro _ H18 ⟨le18, g18, rfl, at18, ge18⟩
   have nx_H18 := le18.1
   replace hle := hle.trans le18
   replace lst1 := lst1.le le18
   replace at5 := le18.2 _ _ at5
   replace at3003 := le18.2 _ _ at3003
   have lt_at18 := GHeap.lt_of_get at18
   replace h := base_h.mono hle
   replace hm := base_hm.mono hle
   replace hsl := base_hsl.mono hle
   clear hb5 c05 c15 i15 hm5 hi5
   have hb5 : Con.At _ g5 0 m q := ⟨Mem.of_get at5, hm⟩
   obtain ⟨c05, c15, i15⟩ := hb5.get
   have hm5 : MemN _ _ _ _ _ := ⟨rfl, hb5.1⟩
   have hi5 := hb5.2
   clear hm1 hin1
   have hm1 : MemN _ _ _ _ _ := ⟨(hmem i (by omega)).1, (hmem i (by omega)).2.mono hle⟩
   have hin1 := (hins i (by omega)).mono hle
   clear mm3003
   have mm3003 : MemN _ _ _ _ _ := ⟨rfl, Mem.of_get at3003⟩
   clear hb8 c08 c18 i18 hm8 hi8
   have hb8 : Con.At _ g8 0 (C i) (P i) := ⟨Mem.of_get at3003, hin1⟩
   obtain ⟨c08, c18, i18⟩ := hb8.get
   have hm8 : MemN _ _ _ _ _ := ⟨rfl, hb8.1⟩
   have hi8 := hb8.2
   have i18 := Ints.of_get at18
   refine .m rfl rfl rfl (.len sl_22_A rfl) (.m rfl rfl rfl (.cmp rfl rfl rfl) (.nil ?_))
   refine hK8 _ _ ?_
   refine .cond rfl (fun h20 => ?_) (fun h20 => ?_)
   ·
    simp only [sps] at h20
    refine .seq (fun K9 hK9 => ?_)
    refine .region (.m rfl rfl rfl (.assign rfl) (.nil ?_))
    refine hK9 _ _ ?_
    refine .ret ?_
    refine hret _ _ ?_
    refine ⟨_, rfl, ?_⟩
    exact ⟨by rw [B_false fun hh => h20 (by have := hh i (by omega); omega)], hle⟩
   simp only [sps] at h20
   refine .skip ?_
   refine hK6 _ _ ?_
   refine .region ?_
   refine .m rfl rfl rfl (.add rfl rfl rfl (by omega) (by omega)) ?_
   refine .m rfl rfl rfl (.move rfl) (.nil ?_)
   refine hKL1 (i + 1) _ _ ?_ ?_ ⟨rfl, rfl, rfl, rfl, rfl, trivial⟩
   ·
    refine ⟨lst1, ?_⟩
    refine ⟨by omega, fun j hj => ?_⟩
    by_cases e : j < i
    · exact ha j e
    · obtain rfl : j = i := by omega
      omega
   omega
  try simp only [sps] at h12
  refine .exit ?_
  refine hK2 _ _ ?_
  refine .seq (fun K10 hK10 => ?_)
  refine .region (.m rfl rfl rfl (.assign rfl) (.nil ?_))
  refine hK10 _ _ ?_
  refine .ret ?_
  refine hret _ _ ?_
  refine ⟨_, rfl, ?_⟩
  exact ⟨by rw [B_true fun j hj => ha j (by omega)], hle⟩
end Go.Proofs.Ytpmjlhbglcaokaa
/- Limits. No condition but those of each statement. -/
namespace Go.Proofs.Ytpmjlhbglcaokaa
open Go Go.GL Go.RowKit Go.Proofs
set_option maxHeartbeats 4000000 in
theorem l12List0_c {d : Fun} {p : FunP} {H : GHeap} (hin : d.In H p) (hs : d.Small) (hI : d.Is) (hb : (d.coneL d.t.obj.toNat).length ≤ 400) :
    GCalls Try.prog 36 [.agg (d.cells p).toArray] H (fun v H' => H.Le H' ∧ ∃ g r, v = .tuple #[.slice (some ⟨g, 0, none⟩) (d.coneL d.t.obj.toNat).length (d.coneL d.t.obj.toNat).length, .int .i64 0] ∧ ConsIn 42 H.next H' g r (d.coneL d.t.obj.toNat)) := by
  have htk : (d.coneL d.t.obj.toNat).take 401 = d.coneL d.t.obj.toNat := List.take_of_length_le (by omega)
  have hlt : ((d.coneL d.t.obj.toNat).take 401).length = (d.coneL d.t.obj.toNat).length := by rw [htk]
  refine GCalls.body (N := 11) (rs := [.tmp 2, .tmp 3]) Try.func36 rfl rfl rfl rfl (fun Qx hret hend => ?_)
  refine .forget (fr' := [(0, some _)]) ⟨rfl, trivial⟩ ?_
  have hle := GHeap.Le.refl H
  have base_hin := hin
  refine .seq (fun K1 hK1 => ?_)
  refine .region ?_
  refine .r rfl rfl rfl (.boxR rfl sz_34_E rfl) ?_
  rintro _ H1 ⟨g1, rfl, le1, ge1, at1⟩
  have nx_H1 := le1.1
  replace hle := hle.trans le1
  have lt_at1 := GHeap.lt_of_get at1
  replace hin := base_hin.mono hle
  have hb1 : Fun.At _ g1 0 d p := ⟨Mem.of_get at1, hin⟩
  obtain ⟨fs1, ft1, c101, c111, j11, j21⟩ := hb1.get
  have hm1 : MemN _ _ _ _ _ := ⟨rfl, hb1.1⟩
  have hi1 := hb1.2
  have hms1 : MemN _ _ _ _ _ := ⟨rfl, fs1.1⟩
  have his1 := fs1.2
  have hmt1 : MemN _ _ _ _ _ := ⟨rfl, ft1.1⟩
  have hit1 := ft1.2
  refine .m rfl rfl rfl (.assign rfl) (.m rfl rfl rfl (.assign rfl) (.nil ?_))
  refine hK1 _ _ ?_
  refine .seq (fun K2 hK2 => ?_)
  refine .region ?_
  refine .m rfl rfl rfl (.loadM ag_34_E rfl ⟨rfl, Mem.of_get at1⟩) ?_
  refine .call rfl rfl rfl rfl @Try.call69 rfl (l12Cones_c hin hs hI) ?_
  rintro _ H6 ⟨le6, g6, r6, rfl, v6⟩
  have nx_H6 := le6.1
  replace hle := hle.trans le6
  replace at1 := le6.2 _ _ at1
  have bs_v6 := v6
  have lv_v6 : Keep H1.next H6 H6 := fun _ _ _ h => h
  replace hin := base_hin.mono hle
  clear hb1 fs1 ft1 c101 c111 j11 j21 hm1 hi1 hms1 his1 hmt1 hit1
  have hb1 : Fun.At _ g1 0 d p := ⟨Mem.of_get at1, hin⟩
  obtain ⟨fs1, ft1, c101, c111, j11, j21⟩ := hb1.get
  have hm1 : MemN _ _ _ _ _ := ⟨rfl, hb1.1⟩
  have hi1 := hb1.2
  have hms1 : MemN _ _ _ _ _ := ⟨rfl, fs1.1⟩
  have his1 := fs1.2
  have hmt1 : MemN _ _ _ _ _ := ⟨rfl, ft1.1⟩
  have hit1 := ft1.2
  refine .m rfl rfl rfl (.assign rfl) (.nil ?_)
  refine hK2 _ _ ?_
  refine .seq (fun K3 hK3 => ?_)
  refine .seq (fun K4 hK4 => ?_)
  refine .region (.m rfl rfl rfl (.move rfl) (.m rfl rfl rfl (.len sl_29_Cm rfl) (.m rfl rfl rfl (.cmp rfl rfl rfl) ?_)))
  refine .nil ?_
  refine hK4 _ _ ?_
  refine .cond rfl (fun h9 => ?_) (fun h9 => ?_)
  ·
   simp only [sps] at h9; omega
  try simp only [sps] at h9
  refine .skip ?_
  refine hK3 _ _ ?_
  refine .seq (fun K5 hK5 => ?_)
  refine .region (.m rfl rfl rfl (.move rfl) (.m rfl rfl rfl (.assign rfl) (.m rfl rfl rfl (.assign rfl) ?_)))
  refine .nil ?_
  refine hK5 _ _ ?_
  refine .ret ?_
  refine hret _ _ ?_
  refine ⟨_, _, rfl, rfl, ?_⟩
  rw [htk] at v6
  exact ⟨hle, g6, r6, by rw [htk], v6.keep (.of_le (.refl _)) (by omega)⟩
set_option maxHeartbeats 4000000 in
theorem l12List1_c {d : Fun} {p : FunP} {H : GHeap} (hin : d.In H p) (hs : d.Small) (hI : d.Is) (hb : ¬ (d.coneL d.t.obj.toNat).length ≤ 400) :
    GCalls Try.prog 36 [.agg (d.cells p).toArray] H (Ret (.tuple #[.slice none 0 0, .int .i64 3]) H) := by
  refine GCalls.ret rfl ?_
  have hlt : 400 < ((d.coneL d.t.obj.toNat).take 401).length := by rw [List.length_take]; omega
  refine GCalls.body (N := 11) (rs := [.tmp 2, .tmp 3]) Try.func36 rfl rfl rfl rfl (fun Qx hret hend => ?_)
  refine .forget (fr' := [(0, some _)]) ⟨rfl, trivial⟩ ?_
  have hle := GHeap.Le.refl H
  have base_hin := hin
  refine .seq (fun K1 hK1 => ?_)
  refine .region ?_
  refine .r rfl rfl rfl (.boxR rfl sz_34_E rfl) ?_
  rintro _ H1 ⟨g1, rfl, le1, ge1, at1⟩
  have nx_H1 := le1.1
  replace hle := hle.trans le1
  have lt_at1 := GHeap.lt_of_get at1
  replace hin := base_hin.mono hle
  have hb1 : Fun.At _ g1 0 d p := ⟨Mem.of_get at1, hin⟩
  obtain ⟨fs1, ft1, c101, c111, j11, j21⟩ := hb1.get
  have hm1 : MemN _ _ _ _ _ := ⟨rfl, hb1.1⟩
  have hi1 := hb1.2
  have hms1 : MemN _ _ _ _ _ := ⟨rfl, fs1.1⟩
  have his1 := fs1.2
  have hmt1 : MemN _ _ _ _ _ := ⟨rfl, ft1.1⟩
  have hit1 := ft1.2
  refine .m rfl rfl rfl (.assign rfl) (.m rfl rfl rfl (.assign rfl) (.nil ?_))
  refine hK1 _ _ ?_
  refine .seq (fun K2 hK2 => ?_)
  refine .region ?_
  refine .m rfl rfl rfl (.loadM ag_34_E rfl ⟨rfl, Mem.of_get at1⟩) ?_
  refine .call rfl rfl rfl rfl @Try.call69 rfl (l12Cones_c hin hs hI) ?_
  rintro _ H6 ⟨le6, g6, r6, rfl, v6⟩
  have nx_H6 := le6.1
  replace hle := hle.trans le6
  replace at1 := le6.2 _ _ at1
  have bs_v6 := v6
  have lv_v6 : Keep H1.next H6 H6 := fun _ _ _ h => h
  replace hin := base_hin.mono hle
  clear hb1 fs1 ft1 c101 c111 j11 j21 hm1 hi1 hms1 his1 hmt1 hit1
  have hb1 : Fun.At _ g1 0 d p := ⟨Mem.of_get at1, hin⟩
  obtain ⟨fs1, ft1, c101, c111, j11, j21⟩ := hb1.get
  have hm1 : MemN _ _ _ _ _ := ⟨rfl, hb1.1⟩
  have hi1 := hb1.2
  have hms1 : MemN _ _ _ _ _ := ⟨rfl, fs1.1⟩
  have his1 := fs1.2
  have hmt1 : MemN _ _ _ _ _ := ⟨rfl, ft1.1⟩
  have hit1 := ft1.2
  refine .m rfl rfl rfl (.assign rfl) (.nil ?_)
  refine hK2 _ _ ?_
  refine .seq (fun K3 hK3 => ?_)
  refine .seq (fun K4 hK4 => ?_)
  refine .region (.m rfl rfl rfl (.move rfl) (.m rfl rfl rfl (.len sl_29_Cm rfl) (.m rfl rfl rfl (.cmp rfl rfl rfl) ?_)))
  refine .nil ?_
  refine hK4 _ _ ?_
  refine .cond rfl (fun h9 => ?_) (fun h9 => ?_)
  ·
   try simp only [sps] at h9
   refine .seq (fun K5 hK5 => ?_)
   refine .region (.m rfl rfl rfl (.assign rfl) (.m rfl rfl rfl (.assign rfl) (.nil ?_)))
   refine hK5 _ _ ?_
   refine .ret ?_
   refine hret _ _ ?_
   refine ⟨_, _, rfl, rfl, ?_⟩
   exact ⟨rfl, hle⟩
  simp only [sps] at h9; omega
set_option maxHeartbeats 4000000 in
theorem l12Is0_c {d : Fun} {p : FunP} {m : Con} {q : ConP} {H : GHeap} (hin : d.In H p) (hin1 : m.In H q) (hs : d.Small) (hs1 : m.Small) (hI : d.Is) (hb : (d.coneL d.t.obj.toNat).length ≤ 400) :
    GCalls Try.prog 76 [.agg (d.cells p).toArray, .agg (m.cells q).toArray] H (Ret (.tuple #[.bool (d.ilR m), .int .i64 (d.ilC m)]) H) := by
  refine GCalls.ret rfl ?_
  have hI0 := hI
  have hob := hI.2.1.1.obj
  refine GCalls.body (N := 26) (rs := [.tmp 4, .tmp 5]) Try.func76 rfl rfl rfl rfl (fun Qx hret hend => ?_)
  refine .forget (fr' := [(0, some _), (1, some _)]) ⟨rfl, rfl, trivial⟩ ?_
  have hle := GHeap.Le.refl H
  have base_hin := hin
  have base_hin1 := hin1
  refine .seq (fun K1 hK1 => ?_)
  refine .region ?_
  refine .r rfl rfl rfl (.boxR rfl sz_34_E rfl) ?_
  rintro _ H2 ⟨g2, rfl, le2, ge2, at2⟩
  have nx_H2 := le2.1
  replace hle := hle.trans le2
  have lt_at2 := GHeap.lt_of_get at2
  replace hin := base_hin.mono hle
  replace hin1 := base_hin1.mono hle
  have hb2 : Fun.At _ g2 0 d p := ⟨Mem.of_get at2, hin⟩
  obtain ⟨fs2, ft2, c102, c112, j12, j22⟩ := hb2.get
  have hm2 : MemN _ _ _ _ _ := ⟨rfl, hb2.1⟩
  have hi2 := hb2.2
  have hms2 : MemN _ _ _ _ _ := ⟨rfl, fs2.1⟩
  have his2 := fs2.2
  have hmt2 : MemN _ _ _ _ _ := ⟨rfl, ft2.1⟩
  have hit2 := ft2.2
  refine .r rfl rfl rfl (.boxR rfl sz_42_VCon rfl) ?_
  rintro _ H3 ⟨g3, rfl, le3, ge3, at3⟩
  have nx_H3 := le3.1
  replace hle := hle.trans le3
  replace at2 := le3.2 _ _ at2
  have lt_at3 := GHeap.lt_of_get at3
  replace hin := base_hin.mono hle
  replace hin1 := base_hin1.mono hle
  clear hb2 fs2 ft2 c102 c112 j12 j22 hm2 hi2 hms2 his2 hmt2 hit2
  have hb2 : Fun.At _ g2 0 d p := ⟨Mem.of_get at2, hin⟩
  obtain ⟨fs2, ft2, c102, c112, j12, j22⟩ := hb2.get
  have hm2 : MemN _ _ _ _ _ := ⟨rfl, hb2.1⟩
  have hi2 := hb2.2
  have hms2 : MemN _ _ _ _ _ := ⟨rfl, fs2.1⟩
  have his2 := fs2.2
  have hmt2 : MemN _ _ _ _ _ := ⟨rfl, ft2.1⟩
  have hit2 := ft2.2
  have hb3 : Con.At _ g3 0 m q := ⟨Mem.of_get at3, hin1⟩
  obtain ⟨c03, c13, i13⟩ := hb3.get
  have hm3 : MemN _ _ _ _ _ := ⟨rfl, hb3.1⟩
  have hi3 := hb3.2
  refine .m rfl rfl rfl (.assign rfl) (.m rfl rfl rfl (.assign rfl) (.nil ?_))
  refine hK1 _ _ ?_
  refine .seq (fun K2 hK2 => ?_)
  refine .seq (fun K3 hK3 => ?_)
  refine .region ?_
  refine .m rfl rfl rfl (.loadM ag_34_E rfl ⟨rfl, Mem.of_get at2⟩) ?_
  refine .m rfl rfl rfl (.loadM ag_42_VCon rfl ⟨rfl, Mem.of_get at3⟩) ?_
  refine .callQ rfl rfl rfl rfl @Try.call93 rfl (l12Cone_c) ?_
  refine .m rfl rfl rfl (.not rfl) (.nil ?_)
  refine hK3 _ _ ?_
  refine .cond rfl (fun h11 => ?_) (fun h11 => ?_)
  ·
   simp only [sps] at h11
   refine .seq (fun K4 hK4 => ?_)
   refine .region (.m rfl rfl rfl (.assign rfl) (.m rfl rfl rfl (.assign rfl) (.nil ?_)))
   refine hK4 _ _ ?_
   refine .ret ?_
   refine hret _ _ ?_
   refine ⟨_, _, rfl, rfl, ?_⟩
   obtain ⟨e1, e2⟩ := Fun.il_2 hI0 h11
   rw [e1, e2]
   exact ⟨rfl, hle⟩
  simp only [sps] at h11
  refine .skip ?_
  refine hK2 _ _ ?_
  refine .seq (fun K5 hK5 => ?_)
  refine .region ?_
  refine .m rfl rfl rfl (.loadM ag_34_E rfl ⟨rfl, Mem.of_get at2⟩) ?_
  refine .call rfl rfl rfl rfl @Try.call36 rfl (l12List0_c hin hs hI0 hb) ?_
  rintro _ H14 ⟨le14, g14, r14, rfl, v14⟩
  have nx_H14 := le14.1
  replace hle := hle.trans le14
  replace at2 := le14.2 _ _ at2
  replace at3 := le14.2 _ _ at3
  have bs_v14 := v14
  have lv_v14 : Keep H3.next H14 H14 := fun _ _ _ h => h
  replace hin := base_hin.mono hle
  replace hin1 := base_hin1.mono hle
  clear hb2 fs2 ft2 c102 c112 j12 j22 hm2 hi2 hms2 his2 hmt2 hit2
  have hb2 : Fun.At _ g2 0 d p := ⟨Mem.of_get at2, hin⟩
  obtain ⟨fs2, ft2, c102, c112, j12, j22⟩ := hb2.get
  have hm2 : MemN _ _ _ _ _ := ⟨rfl, hb2.1⟩
  have hi2 := hb2.2
  have hms2 : MemN _ _ _ _ _ := ⟨rfl, fs2.1⟩
  have his2 := fs2.2
  have hmt2 : MemN _ _ _ _ _ := ⟨rfl, ft2.1⟩
  have hit2 := ft2.2
  clear hb3 c03 c13 i13 hm3 hi3
  have hb3 : Con.At _ g3 0 m q := ⟨Mem.of_get at3, hin1⟩
  obtain ⟨c03, c13, i13⟩ := hb3.get
  have hm3 : MemN _ _ _ _ _ := ⟨rfl, hb3.1⟩
  have hi3 := hb3.2
  refine .m rfl rfl rfl (.move rfl) (.m rfl rfl rfl (.extract rfl rfl) (.m rfl rfl rfl (.extract rfl rfl) (.m rfl rfl rfl (.assign rfl) ?_)))
  refine .m rfl rfl rfl (.assign rfl) (.nil ?_)
  refine hK5 _ _ ?_
  refine .seq (fun K6 hK6 => ?_)
  refine .region ?_
  refine .m rfl rfl rfl (.loadM ag_34_E rfl ⟨rfl, Mem.of_get at2⟩) ?_
  refine .m rfl rfl rfl (.move rfl) ?_
  refine .m rfl rfl rfl (.loadM ag_42_VCon rfl ⟨rfl, Mem.of_get at3⟩) ?_
  refine .callQ rfl rfl rfl rfl @Try.call73 rfl (l12Universal_c (C := fun i => (d.coneL d.t.obj.toNat).getD i .z) (P := fun i => ⟨r14 i⟩) hin hI0 hin1 h11 (by omega) v14.sl v14.mem v14.inn (fun i hi => Fun.coneL_cone hI0 (by omega) _ (getD_mem_list hi))) ?_
  refine .m rfl rfl rfl (.move rfl) ?_
  refine .split (fun h21 => ?_) (fun h21 => ?_)
  ·
   refine .mg rfl rfl rfl rfl rfl (.move rfl) (.mg rfl rfl rfl rfl rfl (.cmp rfl rfl rfl) (.m rfl rfl rfl (.pickT rfl rfl) (.m rfl rfl rfl (.move rfl) ?_)))
   refine .m rfl rfl rfl (.assign rfl) (.m rfl rfl rfl (.assign rfl) (.nil ?_))
   refine hK6 _ _ ?_
   refine .ret ?_
   refine hret _ _ ?_
   refine ⟨_, _, rfl, rfl, ?_⟩
   obtain ⟨e1, e2⟩ := Fun.il_4 hI0 h11 hb
   rw [e1, e2, show d.univ m = true from h21]
   exact ⟨rfl, hle⟩
  refine .sg rfl rfl rfl rfl rfl (.sg rfl rfl rfl rfl rfl (.m rfl rfl rfl (.pickF rfl rfl) (.m rfl rfl rfl (.move rfl) ?_)))
  refine .m rfl rfl rfl (.assign rfl) (.m rfl rfl rfl (.assign rfl) (.nil ?_))
  refine hK6 _ _ ?_
  refine .ret ?_
  refine hret _ _ ?_
  refine ⟨_, _, rfl, rfl, ?_⟩
  obtain ⟨e1, e2⟩ := Fun.il_4 hI0 h11 hb
  rw [e1, e2, show d.univ m = false from h21]
  exact ⟨rfl, hle⟩
set_option maxHeartbeats 4000000 in
theorem l12Is1_c {d : Fun} {p : FunP} {m : Con} {q : ConP} {H : GHeap} (hin : d.In H p) (hin1 : m.In H q) (hs : d.Small) (hs1 : m.Small) (hI : d.Is) (hb : ¬ (d.coneL d.t.obj.toNat).length ≤ 400) :
    GCalls Try.prog 76 [.agg (d.cells p).toArray, .agg (m.cells q).toArray] H (Ret (.tuple #[.bool (d.ilR m), .int .i64 (d.ilC m)]) H) := by
  refine GCalls.ret rfl ?_
  have hI0 := hI
  refine GCalls.body (N := 26) (rs := [.tmp 4, .tmp 5]) Try.func76 rfl rfl rfl rfl (fun Qx hret hend => ?_)
  refine .forget (fr' := [(0, some _), (1, some _)]) ⟨rfl, rfl, trivial⟩ ?_
  have hle := GHeap.Le.refl H
  have base_hin := hin
  have base_hin1 := hin1
  refine .seq (fun K1 hK1 => ?_)
  refine .region ?_
  refine .r rfl rfl rfl (.boxR rfl sz_34_E rfl) ?_
  rintro _ H2 ⟨g2, rfl, le2, ge2, at2⟩
  have nx_H2 := le2.1
  replace hle := hle.trans le2
  have lt_at2 := GHeap.lt_of_get at2
  replace hin := base_hin.mono hle
  replace hin1 := base_hin1.mono hle
  have hb2 : Fun.At _ g2 0 d p := ⟨Mem.of_get at2, hin⟩
  obtain ⟨fs2, ft2, c102, c112, j12, j22⟩ := hb2.get
  have hm2 : MemN _ _ _ _ _ := ⟨rfl, hb2.1⟩
  have hi2 := hb2.2
  have hms2 : MemN _ _ _ _ _ := ⟨rfl, fs2.1⟩
  have his2 := fs2.2
  have hmt2 : MemN _ _ _ _ _ := ⟨rfl, ft2.1⟩
  have hit2 := ft2.2
  refine .r rfl rfl rfl (.boxR rfl sz_42_VCon rfl) ?_
  rintro _ H3 ⟨g3, rfl, le3, ge3, at3⟩
  have nx_H3 := le3.1
  replace hle := hle.trans le3
  replace at2 := le3.2 _ _ at2
  have lt_at3 := GHeap.lt_of_get at3
  replace hin := base_hin.mono hle
  replace hin1 := base_hin1.mono hle
  clear hb2 fs2 ft2 c102 c112 j12 j22 hm2 hi2 hms2 his2 hmt2 hit2
  have hb2 : Fun.At _ g2 0 d p := ⟨Mem.of_get at2, hin⟩
  obtain ⟨fs2, ft2, c102, c112, j12, j22⟩ := hb2.get
  have hm2 : MemN _ _ _ _ _ := ⟨rfl, hb2.1⟩
  have hi2 := hb2.2
  have hms2 : MemN _ _ _ _ _ := ⟨rfl, fs2.1⟩
  have his2 := fs2.2
  have hmt2 : MemN _ _ _ _ _ := ⟨rfl, ft2.1⟩
  have hit2 := ft2.2
  have hb3 : Con.At _ g3 0 m q := ⟨Mem.of_get at3, hin1⟩
  obtain ⟨c03, c13, i13⟩ := hb3.get
  have hm3 : MemN _ _ _ _ _ := ⟨rfl, hb3.1⟩
  have hi3 := hb3.2
  refine .m rfl rfl rfl (.assign rfl) (.m rfl rfl rfl (.assign rfl) (.nil ?_))
  refine hK1 _ _ ?_
  refine .seq (fun K2 hK2 => ?_)
  refine .seq (fun K3 hK3 => ?_)
  refine .region ?_
  refine .m rfl rfl rfl (.loadM ag_34_E rfl ⟨rfl, Mem.of_get at2⟩) ?_
  refine .m rfl rfl rfl (.loadM ag_42_VCon rfl ⟨rfl, Mem.of_get at3⟩) ?_
  refine .callQ rfl rfl rfl rfl @Try.call93 rfl (l12Cone_c) ?_
  refine .m rfl rfl rfl (.not rfl) (.nil ?_)
  refine hK3 _ _ ?_
  refine .cond rfl (fun h11 => ?_) (fun h11 => ?_)
  ·
   simp only [sps] at h11
   refine .seq (fun K4 hK4 => ?_)
   refine .region (.m rfl rfl rfl (.assign rfl) (.m rfl rfl rfl (.assign rfl) (.nil ?_)))
   refine hK4 _ _ ?_
   refine .ret ?_
   refine hret _ _ ?_
   refine ⟨_, _, rfl, rfl, ?_⟩
   first
   | (obtain ⟨e1, e2⟩ := Fun.il_2 hI0 h11
      rw [e1, e2]
      exact ⟨rfl, hle⟩)
   | (obtain ⟨e1, e2⟩ := Fun.il_3 hI0 h11 hb
      rw [e1, e2]
      exact ⟨rfl, hle⟩)
  simp only [sps] at h11
  refine .skip ?_
  refine hK2 _ _ ?_
  refine .seq (fun K5 hK5 => ?_)
  refine .region ?_
  refine .m rfl rfl rfl (.loadM ag_34_E rfl ⟨rfl, Mem.of_get at2⟩) ?_
  refine .callQ rfl rfl rfl rfl @Try.call36 rfl (l12List1_c hin hs hI0 hb) ?_
  refine .m rfl rfl rfl (.move rfl) (.m rfl rfl rfl (.extract rfl rfl) (.m rfl rfl rfl (.extract rfl rfl) (.m rfl rfl rfl (.assign rfl) ?_)))
  refine .m rfl rfl rfl (.assign rfl) (.nil ?_)
  refine hK5 _ _ ?_
  refine .seq (fun K6 hK6 => ?_)
  refine .region ?_
  refine .m rfl rfl rfl (.loadM ag_34_E rfl ⟨rfl, Mem.of_get at2⟩) ?_
  refine .m rfl rfl rfl (.move rfl) ?_
  refine .m rfl rfl rfl (.loadM ag_42_VCon rfl ⟨rfl, Mem.of_get at3⟩) ?_
  refine .callQ rfl rfl rfl rfl @Try.call73 rfl (l12Universal0_c hin hin1) ?_
  refine .m rfl rfl rfl (.move rfl) ?_
  refine .split (fun h21 => ?_) (fun h21 => ?_)
  ·
   try simp only [sps] at h21
   refine .mg rfl rfl rfl rfl rfl (.move rfl) (.mg rfl rfl rfl rfl rfl (.cmp rfl rfl rfl) (.m rfl rfl rfl (.pickT rfl rfl) (.m rfl rfl rfl (.move rfl) ?_)))
   refine .m rfl rfl rfl (.assign rfl) (.m rfl rfl rfl (.assign rfl) (.nil ?_))
   refine hK6 _ _ ?_
   refine .ret ?_
   refine hret _ _ ?_
   refine ⟨_, _, rfl, rfl, ?_⟩
   first
   | (obtain ⟨e1, e2⟩ := Fun.il_2 hI0 h11
      rw [e1, e2]
      exact ⟨rfl, hle⟩)
   | (obtain ⟨e1, e2⟩ := Fun.il_3 hI0 h11 hb
      rw [e1, e2]
      exact ⟨rfl, hle⟩)
  try simp only [sps] at h21
  refine .sg rfl rfl rfl rfl rfl (.sg rfl rfl rfl rfl rfl (.m rfl rfl rfl (.pickF rfl rfl) (.m rfl rfl rfl (.move rfl) ?_)))
  refine .m rfl rfl rfl (.assign rfl) (.m rfl rfl rfl (.assign rfl) (.nil ?_))
  refine hK6 _ _ ?_
  refine .ret ?_
  refine hret _ _ ?_
  refine ⟨_, _, rfl, rfl, ?_⟩
  first
  | (obtain ⟨e1, e2⟩ := Fun.il_2 hI0 h11
     rw [e1, e2]
     exact ⟨rfl, hle⟩)
  | (obtain ⟨e1, e2⟩ := Fun.il_3 hI0 h11 hb
     rw [e1, e2]
     exact ⟨rfl, hle⟩)
theorem l12Is_c {d : Fun} {p : FunP} {m : Con} {q : ConP} {H : GHeap} (hin : d.In H p) (hin1 : m.In H q) (hs : d.Small) (hs1 : m.Small) (hI : d.Is) :
    GCalls Try.prog 76 [.agg (d.cells p).toArray, .agg (m.cells q).toArray] H (Ret (.tuple #[.bool (d.ilR m), .int .i64 (d.ilC m)]) H) := by
  by_cases hb : (d.coneL d.t.obj.toNat).length ≤ 400
  · exact l12Is0_c hin hin1 hs hs1 hI hb
  · exact l12Is1_c hin hin1 hs hs1 hI hb
theorem coneCode1_c {g o k : Nat} {e : TypeId} {d : Fun} {p : FunP} {m : Con} {q : ConP} {H : GHeap} (h : Fun.At H g o d p) (hr : H.get k = some (.row (m.cells q) e true)) (hin : m.In H q) (hI : d.Is) (hs1 : m.Small) :
    GCalls Try.prog 77 [.iface 95 (.agg #[.pointer (some ⟨g, o, none⟩)]), .slice (some ⟨k, 0, none⟩) 1 1] H (Ret (.int .i64 (bif B (d.Cone m) then 0 else 5)) H) := by
  have := coneCode_c (n := 1) (C := fun _ => m) (P := fun _ => q) h hI (by omega) (SlA.of_row hr rfl) (fun i hi => by obtain rfl : i = 0 := (by omega); exact ⟨rfl, Mem.of_get hr⟩) (fun _ _ => hin) (fun _ _ => hs1)
  rw [B_congr (q := d.Cone m)] at this
  · exact this
  · exact ⟨fun h => h 0 (by omega), fun h _ _ => h⟩
theorem allCones0_c {g o : Nat} {d : Fun} {p : FunP} {H : GHeap} (h : Fun.At H g o d p) (hP : d.Is) (hb : (d.coneL d.t.obj.toNat).length ≤ 400) :
    GCalls Try.prog 56 [.pointer (some ⟨g, o, none⟩)] H (fun v H' => H.Le H' ∧ ∃ gL r, v = .tuple #[.slice (some ⟨gL, 0, none⟩) (d.coneL d.t.obj.toNat).length (d.coneL d.t.obj.toNat).length, .bool true] ∧ ConsIn 42 H.next H' gL r (d.coneL d.t.obj.toNat)) :=
  (allCones_c h hP).mono fun v H' ⟨h1, h2⟩ => by
    rcases h2 with ⟨h3, _⟩ | ⟨_, gL, r, h4, h5, h6⟩
    · omega
    · exact ⟨h1, gL, r, h4, h6.cin h5⟩
theorem allCones1b_c {g o : Nat} {d : Fun} {p : FunP} {H : GHeap} (h : Fun.At H g o d p) (hP : d.Is) (hb : ¬ (d.coneL d.t.obj.toNat).length ≤ 400) :
    GCalls Try.prog 56 [.pointer (some ⟨g, o, none⟩)] H (fun v H' => H.Le H' ∧ v = .tuple #[.slice none 0 0, .bool false]) :=
  (allCones_c h hP).mono fun v H' ⟨h1, h2⟩ => by
    rcases h2 with ⟨_, h4⟩ | ⟨h3, _⟩
    · exact ⟨h1, h4⟩
    · omega
set_option maxHeartbeats 4000000 in
theorem universal0_c {g o : Nat} {d : Fun} {p : FunP} {m : Con} {q : ConP} {H : GHeap} (h : Fun.At H g o d p) (hin1 : m.In H q) (hs1 : m.Small) (hI : d.Is) (hb : (d.coneL d.t.obj.toNat).length ≤ 400) :
    GCalls Try.prog 78 [.iface 95 (.agg #[.pointer (some ⟨g, o, none⟩)]), .agg (m.cells q).toArray] H (Ret (.tuple #[.bool (d.ilR m), .int .i64 (d.ilC m)]) H) := by
  refine GCalls.ret rfl ?_
  have hI0 := hI
  have hob := hI.2.1.1.obj
  refine GCalls.body (N := 29) (rs := [.tmp 4, .tmp 5]) Try.func78 rfl rfl rfl rfl (fun Qx hret hend => ?_)
  refine .forget (fr' := [(0, some _), (1, some _)]) ⟨rfl, rfl, trivial⟩ ?_
  have hle := GHeap.Le.refl H
  have base_h := h
  have base_hin1 := hin1
  refine .seq (fun K1 hK1 => ?_)
  refine .region ?_
  refine .r rfl rfl rfl (.boxR rfl sz_42_VCon rfl) ?_
  rintro _ H3 ⟨g3, rfl, le3, ge3, at3⟩
  have nx_H3 := le3.1
  replace hle := hle.trans le3
  have lt_at3 := GHeap.lt_of_get at3
  replace h := base_h.mono hle
  replace hin1 := base_hin1.mono hle
  have hb3 : Con.At _ g3 0 m q := ⟨Mem.of_get at3, hin1⟩
  obtain ⟨c03, c13, i13⟩ := hb3.get
  have hm3 : MemN _ _ _ _ _ := ⟨rfl, hb3.1⟩
  have hi3 := hb3.2
  refine .m rfl rfl rfl (.assign rfl) (.m rfl rfl rfl (.assign rfl) (.nil ?_))
  refine hK1 _ _ ?_
  refine .seq (fun K2 hK2 => ?_)
  refine .seq (fun K3 hK3 => ?_)
  refine .region (.m rfl rfl rfl (.move rfl) ?_)
  refine .m rfl rfl rfl (.loadM ag_42_VCon rfl ⟨rfl, Mem.of_get at3⟩) ?_
  refine .r rfl rfl rfl (.litR rfl sl_29_Cm ze_42_VCon rfl rfl (by omega) (by omega) rfl rfl) ?_
  rintro _ H11 ⟨g11, rfl, le11, ge11, at11⟩
  have nx_H11 := le11.1
  replace hle := hle.trans le11
  replace at3 := le11.2 _ _ at3
  have lt_at11 := GHeap.lt_of_get at11
  replace h := base_h.mono hle
  replace hin1 := base_hin1.mono hle
  clear hb3 c03 c13 i13 hm3 hi3
  have hb3 : Con.At _ g3 0 m q := ⟨Mem.of_get at3, hin1⟩
  obtain ⟨c03, c13, i13⟩ := hb3.get
  have hm3 : MemN _ _ _ _ _ := ⟨rfl, hb3.1⟩
  have hi3 := hb3.2
  refine .callQ rfl rfl rfl rfl @Try.call77 rfl (coneCode1_c h at11 hin1 hI0 hs1) ?_
  refine .m rfl rfl rfl (.assign rfl) (.nil ?_)
  refine hK3 _ _ ?_
  refine .seq (fun K4 hK4 => ?_)
  refine .region (.m rfl rfl rfl (.move rfl) (.m rfl rfl rfl (.cmp rfl rfl rfl) (.nil ?_)))
  refine hK4 _ _ ?_
  refine .cond rfl (fun h14 => ?_) (fun h14 => ?_)
  ·
   have hcc : ¬ d.Cone m := fun hh => by rw [B_true hh] at h14; simp at h14
   refine .seq (fun K5 hK5 => ?_)
   refine .region (.m rfl rfl rfl (.move rfl) (.m rfl rfl rfl (.assign rfl) (.m rfl rfl rfl (.assign rfl) ?_)))
   refine .nil ?_
   refine hK5 _ _ ?_
   refine .ret ?_
   refine hret _ _ ?_
   refine ⟨_, _, rfl, rfl, ?_⟩
   obtain ⟨e1, e2⟩ := Fun.il_2 hI0 hcc
   rw [e1, e2, B_false hcc]
   exact ⟨rfl, hle⟩
  have hcc : d.Cone m := Classical.byContradiction fun hh => by rw [B_false hh] at h14; simp at h14
  refine .skip ?_
  refine hK2 _ _ ?_
  refine .seq (fun K6 hK6 => ?_)
  refine .region (.m rfl rfl rfl (.move rfl) ?_)
  refine .callM rfl rfl rfl rfl rfl (by kernel_rfl) @Try.call132 rfl (diagram_c) ?_
  rintro _ H18 ⟨rfl, le18⟩
  have nx_H18 := le18.1
  replace hle := hle.trans le18
  replace at3 := le18.2 _ _ at3
  replace at11 := le18.2 _ _ at11
  replace h := base_h.mono hle
  replace hin1 := base_hin1.mono hle
  clear hb3 c03 c13 i13 hm3 hi3
  have hb3 : Con.At _ g3 0 m q := ⟨Mem.of_get at3, hin1⟩
  obtain ⟨c03, c13, i13⟩ := hb3.get
  have hm3 : MemN _ _ _ _ _ := ⟨rfl, hb3.1⟩
  have hi3 := hb3.2
  refine .call rfl rfl rfl rfl @Try.call56 rfl (allCones0_c h hI0 hb) ?_
  rintro _ H19 ⟨le19, g19, r19, rfl, v19⟩
  have nx_H19 := le19.1
  replace hle := hle.trans le19
  replace at3 := le19.2 _ _ at3
  replace at11 := le19.2 _ _ at11
  have bs_v19 := v19
  have lv_v19 : Keep H18.next H19 H19 := fun _ _ _ h => h
  replace h := base_h.mono hle
  replace hin1 := base_hin1.mono hle
  clear hb3 c03 c13 i13 hm3 hi3
  have hb3 : Con.At _ g3 0 m q := ⟨Mem.of_get at3, hin1⟩
  obtain ⟨c03, c13, i13⟩ := hb3.get
  have hm3 : MemN _ _ _ _ _ := ⟨rfl, hb3.1⟩
  have hi3 := hb3.2
  refine .m rfl rfl rfl (.move rfl) (.m rfl rfl rfl (.extract rfl rfl) (.m rfl rfl rfl (.extract rfl rfl) (.m rfl rfl rfl (.assign rfl) ?_)))
  refine .m rfl rfl rfl (.assign rfl) (.nil ?_)
  refine hK6 _ _ ?_
  refine .seq (fun K7 hK7 => ?_)
  refine .seq (fun K8 hK8 => ?_)
  refine .region (.m rfl rfl rfl (.move rfl) (.m rfl rfl rfl (.not rfl) (.nil ?_)))
  refine hK8 _ _ ?_
  refine .cond rfl (fun h23 => ?_) (fun h23 => ?_)
  ·
   simp at h23
  try simp only [sps] at h23
  refine .skip ?_
  refine hK7 _ _ ?_
  refine .seq (fun K9 hK9 => ?_)
  refine .regionD mixed_orders_B (.q 0 (.q 2 (.q 3 (.c 1 1 (.c 4 0 (.q 5 (.q 6 (.done)))))))) (by kernel_rfl) ?_
  refine .m rfl rfl rfl rfl (.refl _) (.move rfl) (.m rfl rfl rfl rfl (.refl _) (.move rfl) ?_)
  refine .m rfl rfl rfl rfl (.refl _) (.loadM ag_42_VCon rfl ⟨rfl, Mem.of_get at3⟩) ?_
  refine .callM1 rfl rfl rfl rfl rfl rfl (by kernel_rfl) @Try.call132 rfl (diagram_c) ?_
  rintro _ H25 ⟨rfl, le25⟩
  have hbl := le25
  refine ⟨hbl, ?_⟩
  have nx_H25 := le25.1
  replace hle := hle.trans le25
  replace at3 := le25.2 _ _ at3
  replace at11 := le25.2 _ _ at11
  replace lv_v19 := Keep.le lv_v19 le25
  replace v19 := bs_v19.keep lv_v19 (Nat.le_refl _)
  replace h := base_h.mono hle
  replace hin1 := base_hin1.mono hle
  clear hb3 c03 c13 i13 hm3 hi3
  have hb3 : Con.At _ g3 0 m q := ⟨Mem.of_get at3, hin1⟩
  obtain ⟨c03, c13, i13⟩ := hb3.get
  have hm3 : MemN _ _ _ _ _ := ⟨rfl, hb3.1⟩
  have hi3 := hb3.2
  refine .callQ0 rfl rfl rfl rfl rfl @Try.call74 rfl (isUniversal_c (C := fun i => (d.coneL d.t.obj.toNat).getD i .z) (P := fun i => ⟨r19 i⟩) h hI0 hin1 hcc (by omega) v19.sl v19.mem v19.inn (fun i hi => Fun.coneL_cone hI0 (by omega) _ (getD_mem_list hi))) ?_
  refine .m rfl rfl rfl rfl (.refl _) (.assign rfl) (.m rfl rfl rfl rfl (.refl _) (.assign rfl) ?_)
  refine .done ?_
  refine hK9 _ _ ?_
  refine .ret ?_
  refine hret _ _ ?_
  refine ⟨_, _, rfl, rfl, ?_⟩
  obtain ⟨e1, e2⟩ := Fun.il_4 hI0 hcc hb
  rw [e1, e2]
  exact ⟨rfl, hle⟩
set_option maxHeartbeats 4000000 in
theorem universal1_c {g o : Nat} {d : Fun} {p : FunP} {m : Con} {q : ConP} {H : GHeap} (h : Fun.At H g o d p) (hin1 : m.In H q) (hs1 : m.Small) (hI : d.Is) (hb : ¬ (d.coneL d.t.obj.toNat).length ≤ 400) :
    GCalls Try.prog 78 [.iface 95 (.agg #[.pointer (some ⟨g, o, none⟩)]), .agg (m.cells q).toArray] H (Ret (.tuple #[.bool (d.ilR m), .int .i64 (d.ilC m)]) H) := by
  refine GCalls.ret rfl ?_
  have hI0 := hI
  refine GCalls.body (N := 29) (rs := [.tmp 4, .tmp 5]) Try.func78 rfl rfl rfl rfl (fun Qx hret hend => ?_)
  refine .forget (fr' := [(0, some _), (1, some _)]) ⟨rfl, rfl, trivial⟩ ?_
  have hle := GHeap.Le.refl H
  have base_h := h
  have base_hin1 := hin1
  refine .seq (fun K1 hK1 => ?_)
  refine .region ?_
  refine .r rfl rfl rfl (.boxR rfl sz_42_VCon rfl) ?_
  rintro _ H3 ⟨g3, rfl, le3, ge3, at3⟩
  have nx_H3 := le3.1
  replace hle := hle.trans le3
  have lt_at3 := GHeap.lt_of_get at3
  replace h := base_h.mono hle
  replace hin1 := base_hin1.mono hle
  have hb3 : Con.At _ g3 0 m q := ⟨Mem.of_get at3, hin1⟩
  obtain ⟨c03, c13, i13⟩ := hb3.get
  have hm3 : MemN _ _ _ _ _ := ⟨rfl, hb3.1⟩
  have hi3 := hb3.2
  refine .m rfl rfl rfl (.assign rfl) (.m rfl rfl rfl (.assign rfl) (.nil ?_))
  refine hK1 _ _ ?_
  refine .seq (fun K2 hK2 => ?_)
  refine .seq (fun K3 hK3 => ?_)
  refine .region (.m rfl rfl rfl (.move rfl) ?_)
  refine .m rfl rfl rfl (.loadM ag_42_VCon rfl ⟨rfl, Mem.of_get at3⟩) ?_
  refine .r rfl rfl rfl (.litR rfl sl_29_Cm ze_42_VCon rfl rfl (by omega) (by omega) rfl rfl) ?_
  rintro _ H11 ⟨g11, rfl, le11, ge11, at11⟩
  have nx_H11 := le11.1
  replace hle := hle.trans le11
  replace at3 := le11.2 _ _ at3
  have lt_at11 := GHeap.lt_of_get at11
  replace h := base_h.mono hle
  replace hin1 := base_hin1.mono hle
  clear hb3 c03 c13 i13 hm3 hi3
  have hb3 : Con.At _ g3 0 m q := ⟨Mem.of_get at3, hin1⟩
  obtain ⟨c03, c13, i13⟩ := hb3.get
  have hm3 : MemN _ _ _ _ _ := ⟨rfl, hb3.1⟩
  have hi3 := hb3.2
  refine .callQ rfl rfl rfl rfl @Try.call77 rfl (coneCode1_c h at11 hin1 hI0 hs1) ?_
  refine .m rfl rfl rfl (.assign rfl) (.nil ?_)
  refine hK3 _ _ ?_
  refine .seq (fun K4 hK4 => ?_)
  refine .region (.m rfl rfl rfl (.move rfl) (.m rfl rfl rfl (.cmp rfl rfl rfl) (.nil ?_)))
  refine hK4 _ _ ?_
  refine .cond rfl (fun h14 => ?_) (fun h14 => ?_)
  ·
   have hcc : ¬ d.Cone m := fun hh => by rw [B_true hh] at h14; simp at h14
   refine .seq (fun K5 hK5 => ?_)
   refine .region (.m rfl rfl rfl (.move rfl) (.m rfl rfl rfl (.assign rfl) (.m rfl rfl rfl (.assign rfl) ?_)))
   refine .nil ?_
   refine hK5 _ _ ?_
   refine .ret ?_
   refine hret _ _ ?_
   refine ⟨_, _, rfl, rfl, ?_⟩
   obtain ⟨e1, e2⟩ := Fun.il_2 hI0 hcc
   rw [e1, e2, B_false hcc]
   exact ⟨rfl, hle⟩
  have hcc : d.Cone m := Classical.byContradiction fun hh => by rw [B_false hh] at h14; simp at h14
  refine .skip ?_
  refine hK2 _ _ ?_
  refine .seq (fun K6 hK6 => ?_)
  refine .region (.m rfl rfl rfl (.move rfl) ?_)
  refine .callM rfl rfl rfl rfl rfl (by kernel_rfl) @Try.call132 rfl (diagram_c) ?_
  rintro _ H18 ⟨rfl, le18⟩
  have nx_H18 := le18.1
  replace hle := hle.trans le18
  replace at3 := le18.2 _ _ at3
  replace at11 := le18.2 _ _ at11
  replace h := base_h.mono hle
  replace hin1 := base_hin1.mono hle
  clear hb3 c03 c13 i13 hm3 hi3
  have hb3 : Con.At _ g3 0 m q := ⟨Mem.of_get at3, hin1⟩
  obtain ⟨c03, c13, i13⟩ := hb3.get
  have hm3 : MemN _ _ _ _ _ := ⟨rfl, hb3.1⟩
  have hi3 := hb3.2
  refine .call rfl rfl rfl rfl @Try.call56 rfl (allCones1b_c h hI0 hb) ?_
  rintro _ H19 ⟨le19, rfl⟩
  have nx_H19 := le19.1
  replace hle := hle.trans le19
  replace at3 := le19.2 _ _ at3
  replace at11 := le19.2 _ _ at11
  replace h := base_h.mono hle
  replace hin1 := base_hin1.mono hle
  clear hb3 c03 c13 i13 hm3 hi3
  have hb3 : Con.At _ g3 0 m q := ⟨Mem.of_get at3, hin1⟩
  obtain ⟨c03, c13, i13⟩ := hb3.get
  have hm3 : MemN _ _ _ _ _ := ⟨rfl, hb3.1⟩
  have hi3 := hb3.2
  refine .m rfl rfl rfl (.move rfl) (.m rfl rfl rfl (.extract rfl rfl) (.m rfl rfl rfl (.extract rfl rfl) (.m rfl rfl rfl (.assign rfl) ?_)))
  refine .m rfl rfl rfl (.assign rfl) (.nil ?_)
  refine hK6 _ _ ?_
  refine .seq (fun K7 hK7 => ?_)
  refine .seq (fun K8 hK8 => ?_)
  refine .region (.m rfl rfl rfl (.move rfl) (.m rfl rfl rfl (.not rfl) (.nil ?_)))
  refine hK8 _ _ ?_
  refine .cond rfl (fun h23 => ?_) (fun h23 => ?_)
  ·
   try simp only [sps] at h23
   refine .seq (fun K9 hK9 => ?_)
   refine .region (.m rfl rfl rfl (.assign rfl) (.m rfl rfl rfl (.assign rfl) (.nil ?_)))
   refine hK9 _ _ ?_
   refine .ret ?_
   refine hret _ _ ?_
   refine ⟨_, _, rfl, rfl, ?_⟩
   obtain ⟨e1, e2⟩ := Fun.il_3 hI0 hcc hb
   rw [e1, e2]
   exact ⟨rfl, hle⟩
  simp at h23
theorem universal_c {g o : Nat} {d : Fun} {p : FunP} {m : Con} {q : ConP} {H : GHeap} (h : Fun.At H g o d p) (hin1 : m.In H q) (hs1 : m.Small) (hI : d.Is) :
    GCalls Try.prog 78 [.iface 95 (.agg #[.pointer (some ⟨g, o, none⟩)]), .agg (m.cells q).toArray] H (Ret (.tuple #[.bool (d.ilR m), .int .i64 (d.ilC m)]) H) := by
  by_cases hb : (d.coneL d.t.obj.toNat).length ≤ 400
  · exact universal0_c h hin1 hs1 hI hb
  · exact universal1_c h hin1 hs1 hI hb
end Go.Proofs.Ytpmjlhbglcaokaa
/- Universal cones and the arrows to them. No condition. -/
namespace Go.GL
theorem Fun.cnet_good {d : Fun} (h : d.Is) (x : Int) : (d.cnet x).Good d.ob.length := by
  refine ⟨fun y v hv => ?_, fun a ha => ?_, fun a ha => ?_⟩
  · obtain ⟨_, _, _, _, rfl⟩ := Cat.mem_hom.1 hv; omega
  · have := h.arr (a := a) ha
    show (d.s.src.getD a 0).toNat < _; omega
  · have := h.arr (a := a) ha
    show (d.s.tgt.getD a 0).toNat < _; omega
theorem Fun.cone_mem {d : Fun} {q : Con} (h : d.Is) (hc : d.Cone q) : q ∈ d.coneL d.t.obj.toNat := by
  obtain ⟨⟨a1, a2⟩, hl, hg, he, ht⟩ := hc
  have e : ((q.ap.toNat : Nat) : Int) = q.ap := by omega
  refine List.mem_flatMap.2 ⟨q.ap.toNat, List.mem_range.2 (by omega), List.mem_map.2 ⟨q.lg, (Net.mem_sols (Fun.cnet_good h _)).2 ⟨hl, fun y hy => ?_, fun a ha => ?_⟩, ?_⟩⟩
  · have h1 := hg y (by omega)
    have h2 := he y (by omega)
    exact Cat.mem_hom.2 ⟨(q.lg.getD y 0).toNat, by omega, by rw [h2.1, e], h2.2, by omega⟩
  · exact decide_eq_true (ht a ha)
  · rw [e]
theorem Fun.univ_iff {d : Fun} {m : Con} : d.univ m = true ↔ ∀ c ∈ d.coneL d.t.obj.toNat, (d.coneMaps c m).length = 1 := by
  unfold Fun.univ
  rw [B_iff]
  refine ⟨fun h c hc => ?_, fun h i hi => h _ (getD_mem_list hi)⟩
  obtain ⟨i, hi, e⟩ := List.getElem_of_mem hc
  have := h i hi
  rwa [show (d.coneL d.t.obj.toNat).getD i .z = c by rw [List.getD_eq_getElem?_getD, List.getElem?_eq_getElem hi, e]; rfl] at this
theorem Fun.univ_one {d : Fun} {m q : Con} (h : d.Is) (hu : d.univ m = true) (hc : d.Cone q) : (d.coneMaps q m).length = 1 := Fun.univ_iff.1 hu q (Fun.cone_mem h hc)
noncomputable def Fun.meR (d : Fun) (m q : Con) : Int := bif B (d.Is ∧ (d.Cone m ∧ d.Cone q) ∧ (d.coneL d.t.obj.toNat).length ≤ 400 ∧ d.univ m = true) then (d.coneMaps q m).getD 0 0 else 0
noncomputable def Fun.meC (d : Fun) (m q : Con) : Int := bif B d.Is then (bif B (d.Cone m ∧ d.Cone q) then (bif decide ((d.coneL d.t.obj.toNat).length ≤ 400) then (bif d.univ m then 0 else 5) else 3) else 5) else 1
theorem Fun.me_1 {d : Fun} {m q : Con} (h : ¬ d.Is) : d.meR m q = 0 ∧ d.meC m q = 1 := by unfold meR meC; rw [B_false h, B_false fun hh => h hh.1]; exact ⟨rfl, rfl⟩
theorem Fun.me_2 {d : Fun} {m q : Con} (h : d.Is) (h' : ¬ (d.Cone m ∧ d.Cone q)) : d.meR m q = 0 ∧ d.meC m q = 5 := by unfold meR meC; rw [B_true h, B_false h', B_false fun hh => h' hh.2.1]; exact ⟨rfl, rfl⟩
theorem Fun.me_3 {d : Fun} {m q : Con} (h : d.Is) (h' : d.Cone m ∧ d.Cone q) (hb : ¬ (d.coneL d.t.obj.toNat).length ≤ 400) : d.meR m q = 0 ∧ d.meC m q = 3 := by unfold meR meC; rw [B_true h, B_true h', decide_eq_false hb, B_false fun hh => hb hh.2.2.1]; exact ⟨rfl, rfl⟩
theorem Fun.me_4 {d : Fun} {m q : Con} (h : d.Is) (h' : d.Cone m ∧ d.Cone q) (hb : (d.coneL d.t.obj.toNat).length ≤ 400) (hu : d.univ m = false) : d.meR m q = 0 ∧ d.meC m q = 5 := by unfold meR meC; rw [B_true h, B_true h', decide_eq_true hb, hu, B_false fun hh => by simp at hh]; exact ⟨rfl, rfl⟩
theorem Fun.me_5 {d : Fun} {m q : Con} (h : d.Is) (h' : d.Cone m ∧ d.Cone q) (hb : (d.coneL d.t.obj.toNat).length ≤ 400) (hu : d.univ m = true) : d.meR m q = (d.coneMaps q m).getD 0 0 ∧ d.meC m q = 0 := by unfold meR meC; rw [B_true h, B_true h', decide_eq_true hb, hu, B_true ⟨h, h', hb, rfl⟩]; exact ⟨rfl, rfl⟩
end Go.GL
