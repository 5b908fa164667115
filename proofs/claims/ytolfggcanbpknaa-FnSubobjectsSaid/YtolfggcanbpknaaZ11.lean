/- Categories of the families. No condition but those of each statement. -/
import Derived.Test.YtolfggcanbpknaaZ10
namespace Go.Proofs.Ytolfggcanbpknaa
open Go Go.GL Go.RowKit Go.Proofs
set_option maxHeartbeats 8000000 in
theorem l02Family_c {gS : Nat} {H : GHeap} (hs : DSrc 90 H gS := by assumption) :
    GCalls Try.prog 106 [.pointer (some ⟨gS, 0, none⟩)] H (DrawnCat 90 128 gS H) := by
  have hlS := hs.lt
  refine GCalls.body (N := 141) (rs := [.cell 2 27]) Try.func106 rfl rfl rfl rfl (fun Qx hret hend => ?_)
  refine .fg [0] rfl ?_
  have hst := St.refl [gS] H
  refine .seq (fun K1 hK1 => .region ?_)
  refine .R rfl (.allocR rfl ze_27_Hj rfl) ?_
  rintro _ H2 ⟨g2, rfl, le2, ge2, at2⟩
  replace hst := hst.le le2
  have lt_at2 := GHeap.ltg at2
  refine .nil (hK1 _ _ (.seq (fun K2 hK2 => .seq (fun K3 hK3 => .region (.mv rfl ?_)))))
  refine .call rfl rfl rfl rfl @Try.call48 rfl (l01Next_c (hs.le le2)) ?_
  rintro _ H14 ⟨k14, rfl, ka14, kb14, kc14, st14, hs⟩
  have nx_H14 := st14.nx
  replace hst := hst.sA st14
  have ne_g2_gS : NE g2 gS := .a
  replace at2 := st14.s at2 ne_g2_gS.ne
  refine .nil (hK3 _ _ ?_)
  refine .block ?_
  refine .seq (fun K4 hK4 => .region (.q rfl (.cmp rfl rfl rfl) (.mv rfl (.nil (hK4 _ _ ?_)))))
  refine .cond rfl (fun h15 => ?_) (fun h15 => ?_)
  ·
   try simp only [sps] at h15
   refine .seq (fun K5 hK5 => .region (.mv rfl (.mv rfl ?_)))
   refine .call rfl rfl rfl rfl @Try.call48 rfl (l01Next_c) ?_
   rintro _ H19 ⟨k19, rfl, ka19, kb19, kc19, st19, hs⟩
   have nx_H19 := st19.nx
   replace hst := hst.sA st19
   replace at2 := st19.s at2 ne_g2_gS.ne
   obtain ⟨n, rfl⟩ : ∃ n : Nat, k19 = (n : Int) := ⟨k19.toNat, by omega⟩
   have hn5 : n < 5 := by omega
   refine .call rfl rfl rfl rfl @Try.call119 rfl (l02Relation_c (n := n) (hn := by omega)) ?_
   rintro _ H20 ⟨a20, T20, r20, rfl, v20, nT20, tb20, st20, hs⟩
   have nx_H20 := st20.nx
   replace hst := hst.sA st20
   replace at2 := st20.s at2 ne_g2_gS.ne
   refine .call rfl rfl rfl rfl @Try.call110 rfl (l03Poset_c (hin := v20.intss) (hn := by omega) (hr := tb20)) ?_
   rintro _ H21 ⟨c21, rc21, le21, ga21, gb21, gc21, gd21, rr21, rfl, o21⟩
   have v21 := o21.catR
   replace hst := hst.le le21
   replace hs := hs.le le21
   replace at2 := le21.2 _ _ at2
   have bs_v21 := v21
   have lv_v21 : Keep H20.next H21 H21 := fun _ _ _ h => h
   refine .r0 rfl rfl (.fillA rfl sz_27_D rfl rfl rfl rfl) ?_
   rintro _ H3005 ⟨rfl, st3005, at3005⟩
   replace hst := hst.sA st3005
   replace hs := hs.sA st3005
   replace lv_v21 := Keep.st lv_v21 st3005 (fun k hb hk => ⟨(by omega), trivial⟩)
   replace v21 := bs_v21.keep lv_v21 (Nat.le_refl _)
   refine .nil (hK5 _ _ ?_)
   refine .ret ?_
   refine hret _ _ ?_
   refine ⟨_, _, _, _, rfl, ag_27_D, (by rfl), (Mem.of_get at3005), ?_⟩
   exact ⟨c21, _, rfl, rc21.mono (by omega), v21.keep (.of_le (.refl _)) (by omega), hst, hs⟩
  try simp only [sps] at h15
  refine .seq (fun K6 hK6 => .region (.q rfl (.cmp rfl rfl rfl) (.mv rfl (.nil (hK6 _ _ ?_)))))
  refine .cond rfl (fun h22 => ?_) (fun h22 => ?_)
  ·
   try simp only [sps] at h22
   refine .seq (fun K7 hK7 => .region ?_)
   refine .R rfl (.litA rfl sl_24_A ze_2_L rfl rfl rfl rfl) ?_
   rintro _ H24 ⟨g24, rfl, le24, ge24, at24⟩
   replace hst := hst.le le24
   replace hs := hs.le le24
   replace at2 := le24.2 _ _ at2
   have lt_at24 := GHeap.ltg at24
   refine .R rfl (.litA rfl sl_24_A ze_2_L rfl rfl rfl rfl) ?_
   rintro _ H25 ⟨g25, rfl, le25, ge25, at25⟩
   replace hst := hst.le le25
   replace hs := hs.le le25
   replace at2 := le25.2 _ _ at2
   replace at24 := le25.2 _ _ at24
   have lt_at25 := GHeap.ltg at25
   refine .R rfl (.litA rfl sl_25_B ze_24_Hj rfl rfl rfl rfl) ?_
   rintro _ H26 ⟨g26, rfl, le26, ge26, at26⟩
   replace hst := hst.le le26
   replace hs := hs.le le26
   replace at2 := le26.2 _ _ at2
   replace at24 := le26.2 _ _ at24
   replace at25 := le26.2 _ _ at25
   have lt_at26 := GHeap.ltg at26
   refine .call rfl rfl rfl rfl @Try.call110 rfl ((by have hh := l03Poset_c (rel := [[1, 1], [0, 1]]) (hin := ((lit_own (gs := [g24, g25]) (by simp only [LitAt]; exact ⟨⟨Nat.zero_le _, at24⟩, ⟨Nat.zero_le _, at25⟩, trivial⟩) (by simp <;> omega)).done (by exact at26) (Nat.zero_le _)).intss) (hn := by decide) (hr := by decide); exact hh)) ?_
   rintro _ H27 ⟨c27, rc27, le27, ga27, gb27, gc27, gd27, rr27, rfl, o27⟩
   have v27 := o27.catR
   replace hst := hst.le le27
   replace hs := hs.le le27
   replace at2 := le27.2 _ _ at2
   have bs_v27 := v27
   have lv_v27 : Keep H26.next H27 H27 := fun _ _ _ h => h
   refine .r0 rfl rfl (.fillA rfl sz_27_D rfl rfl rfl rfl) ?_
   rintro _ H5004 ⟨rfl, st5004, at5004⟩
   replace hst := hst.sA st5004
   replace hs := hs.sA st5004
   replace lv_v27 := Keep.st lv_v27 st5004 (fun k hb hk => ⟨(by omega), trivial⟩)
   replace v27 := bs_v27.keep lv_v27 (Nat.le_refl _)
   refine .nil (hK7 _ _ ?_)
   refine .ret ?_
   refine hret _ _ ?_
   refine ⟨_, _, _, _, rfl, ag_27_D, (by rfl), (Mem.of_get at5004), ?_⟩
   exact ⟨c27, _, rfl, rc27.mono (by decide), v27.keep (.of_le (.refl _)) (by omega), hst, hs⟩
  try simp only [sps] at h22
  refine .seq (fun K8 hK8 => .region (.q rfl (.cmp rfl rfl rfl) (.mv rfl (.nil (hK8 _ _ ?_)))))
  refine .cond rfl (fun h28 => ?_) (fun h28 => ?_)
  ·
   try simp only [sps] at h28
   refine .seq (fun K9 hK9 => .region ?_)
   refine .R rfl (.litA rfl sl_24_A ze_2_L rfl rfl rfl rfl) ?_
   rintro _ H30 ⟨g30, rfl, le30, ge30, at30⟩
   replace hst := hst.le le30
   replace hs := hs.le le30
   replace at2 := le30.2 _ _ at2
   have lt_at30 := GHeap.ltg at30
   refine .R rfl (.litA rfl sl_24_A ze_2_L rfl rfl rfl rfl) ?_
   rintro _ H31 ⟨g31, rfl, le31, ge31, at31⟩
   replace hst := hst.le le31
   replace hs := hs.le le31
   replace at2 := le31.2 _ _ at2
   replace at30 := le31.2 _ _ at30
   have lt_at31 := GHeap.ltg at31
   refine .R rfl (.litA rfl sl_24_A ze_2_L rfl rfl rfl rfl) ?_
   rintro _ H32 ⟨g32, rfl, le32, ge32, at32⟩
   replace hst := hst.le le32
   replace hs := hs.le le32
   replace at2 := le32.2 _ _ at2
   replace at30 := le32.2 _ _ at30
   replace at31 := le32.2 _ _ at31
   have lt_at32 := GHeap.ltg at32
   refine .R rfl (.litA rfl sl_25_B ze_24_Hj rfl rfl rfl rfl) ?_
   rintro _ H33 ⟨g33, rfl, le33, ge33, at33⟩
   replace hst := hst.le le33
   replace hs := hs.le le33
   replace at2 := le33.2 _ _ at2
   replace at30 := le33.2 _ _ at30
   replace at31 := le33.2 _ _ at31
   replace at32 := le33.2 _ _ at32
   have lt_at33 := GHeap.ltg at33
   refine .call rfl rfl rfl rfl @Try.call110 rfl ((by have hh := l03Poset_c (rel := [[1, 1, 1], [0, 1, 0], [0, 0, 1]]) (hin := ((lit_own (gs := [g30, g31, g32]) (by simp only [LitAt]; exact ⟨⟨Nat.zero_le _, at30⟩, ⟨Nat.zero_le _, at31⟩, ⟨Nat.zero_le _, at32⟩, trivial⟩) (by simp <;> omega)).done (by exact at33) (Nat.zero_le _)).intss) (hn := by decide) (hr := by decide); exact hh)) ?_
   rintro _ H34 ⟨c34, rc34, le34, ga34, gb34, gc34, gd34, rr34, rfl, o34⟩
   have v34 := o34.catR
   replace hst := hst.le le34
   replace hs := hs.le le34
   replace at2 := le34.2 _ _ at2
   have bs_v34 := v34
   have lv_v34 : Keep H33.next H34 H34 := fun _ _ _ h => h
   refine .r0 rfl rfl (.fillA rfl sz_27_D rfl rfl rfl rfl) ?_
   rintro _ H7005 ⟨rfl, st7005, at7005⟩
   replace hst := hst.sA st7005
   replace hs := hs.sA st7005
   replace lv_v34 := Keep.st lv_v34 st7005 (fun k hb hk => ⟨(by omega), trivial⟩)
   replace v34 := bs_v34.keep lv_v34 (Nat.le_refl _)
   refine .nil (hK9 _ _ ?_)
   refine .ret ?_
   refine hret _ _ ?_
   refine ⟨_, _, _, _, rfl, ag_27_D, (by rfl), (Mem.of_get at7005), ?_⟩
   exact ⟨c34, _, rfl, rc34.mono (by decide), v34.keep (.of_le (.refl _)) (by omega), hst, hs⟩
  try simp only [sps] at h28
  refine .seq (fun K10 hK10 => .region (.q rfl (.cmp rfl rfl rfl) (.mv rfl (.nil (hK10 _ _ ?_)))))
  refine .cond rfl (fun h35 => ?_) (fun h35 => ?_)
  ·
   try simp only [sps] at h35
   refine .seq (fun K11 hK11 => .region ?_)
   refine .R rfl (.litA rfl sl_24_A ze_2_L rfl rfl rfl rfl) ?_
   rintro _ H37 ⟨g37, rfl, le37, ge37, at37⟩
   replace hst := hst.le le37
   replace hs := hs.le le37
   replace at2 := le37.2 _ _ at2
   have lt_at37 := GHeap.ltg at37
   refine .R rfl (.litA rfl sl_24_A ze_2_L rfl rfl rfl rfl) ?_
   rintro _ H38 ⟨g38, rfl, le38, ge38, at38⟩
   replace hst := hst.le le38
   replace hs := hs.le le38
   replace at2 := le38.2 _ _ at2
   replace at37 := le38.2 _ _ at37
   have lt_at38 := GHeap.ltg at38
   refine .call rfl rfl rfl rfl @Try.call120 rfl ((by have hh := l03Paths_c (n := 2) (xs := [0, 0]) (ys := [1, 1]) (ha := Ints.of_get at37) (hb := Ints.of_get at38) (hl := rfl) (hx := by decide) (hn := by decide) (hy := by unfold Bd; decide) (hup := by decide); exact hh)) ?_
   rintro _ H39 ⟨c39, rc39, le39, ga39, gb39, gc39, gd39, rr39, rfl, o39⟩
   have v39 := o39.catR
   replace hst := hst.le le39
   replace hs := hs.le le39
   replace at2 := le39.2 _ _ at2
   have bs_v39 := v39
   have lv_v39 : Keep H38.next H39 H39 := fun _ _ _ h => h
   refine .r0 rfl rfl (.fillA rfl sz_27_D rfl rfl rfl rfl) ?_
   rintro _ H9003 ⟨rfl, st9003, at9003⟩
   replace hst := hst.sA st9003
   replace hs := hs.sA st9003
   replace lv_v39 := Keep.st lv_v39 st9003 (fun k hb hk => ⟨(by omega), trivial⟩)
   replace v39 := bs_v39.keep lv_v39 (Nat.le_refl _)
   refine .nil (hK11 _ _ ?_)
   refine .ret ?_
   refine hret _ _ ?_
   refine ⟨_, _, _, _, rfl, ag_27_D, (by rfl), (Mem.of_get at9003), ?_⟩
   exact ⟨c39, _, rfl, rc39.mono (by omega), v39.keep (.of_le (.refl _)) (by omega), hst, hs⟩
  try simp only [sps] at h35
  refine .seq (fun K12 hK12 => .region (.q rfl (.cmp rfl rfl rfl) (.mv rfl (.nil (hK12 _ _ ?_)))))
  refine .cond rfl (fun h40 => ?_) (fun h40 => ?_)
  ·
   try simp only [sps] at h40
   refine .seq (fun K13 hK13 => .region (.mv rfl ?_))
   refine .call rfl rfl rfl rfl @Try.call122 rfl (l02Monoid_c) ?_
   rintro _ H43 ⟨a43, T43, r43, rfl, v43, nT43, tb43, st43, hs⟩
   have nx_H43 := st43.nx
   replace hst := hst.sA st43
   replace at2 := st43.s at2 ne_g2_gS.ne
   refine .call rfl rfl rfl rfl @Try.call121 rfl (l03Monoid_c (hin := v43.intss) (hn := nT43) (ht := tb43)) ?_
   rintro _ H44 ⟨c44, rc44, le44, ga44, gb44, gc44, gd44, rr44, rfl, o44⟩
   have v44 := o44.catR
   replace hst := hst.le le44
   replace hs := hs.le le44
   replace at2 := le44.2 _ _ at2
   have bs_v44 := v44
   have lv_v44 : Keep H43.next H44 H44 := fun _ _ _ h => h
   refine .r0 rfl rfl (.fillA rfl sz_27_D rfl rfl rfl rfl) ?_
   rintro _ H11003 ⟨rfl, st11003, at11003⟩
   replace hst := hst.sA st11003
   replace hs := hs.sA st11003
   replace lv_v44 := Keep.st lv_v44 st11003 (fun k hb hk => ⟨(by omega), trivial⟩)
   replace v44 := bs_v44.keep lv_v44 (Nat.le_refl _)
   refine .nil (hK13 _ _ ?_)
   refine .ret ?_
   refine hret _ _ ?_
   refine ⟨_, _, _, _, rfl, ag_27_D, (by rfl), (Mem.of_get at11003), ?_⟩
   exact ⟨c44, _, rfl, rc44.mono (by omega), v44.keep (.of_le (.refl _)) (by omega), hst, hs⟩
  try simp only [sps] at h40
  refine .seq (fun K14 hK14 => .region (.q rfl (.cmp rfl rfl rfl) (.mv rfl (.nil (hK14 _ _ ?_)))))
  refine .cond rfl (fun h45 => ?_) (fun h45 => ?_)
  ·
   try simp only [sps] at h45
   refine .seq (fun K15 hK15 => .region (.mv rfl ?_))
   refine .call rfl rfl rfl rfl @Try.call48 rfl (l01Next_c) ?_
   rintro _ H48 ⟨k48, rfl, ka48, kb48, kc48, st48, hs⟩
   have nx_H48 := st48.nx
   replace hst := hst.sA st48
   replace at2 := st48.s at2 ne_g2_gS.ne
   obtain ⟨n, hn⟩ : ∃ n : Nat, (n : Int) = 1 + k48 := ⟨(1 + k48).toNat, by omega⟩
   refine .q rfl (.add (r := (n : Int)) rfl rfl (by omega) (by omega) (by omega)) ?_
   refine .mv rfl (.nil (hK15 _ _ (.seq (fun K16 hK16 => .region ?_))))
   refine .R rfl (.litA rfl sl_25_B ze_24_Hj rfl rfl rfl rfl) ?_
   rintro _ H50 ⟨g50, rfl, le50, ge50, at50⟩
   replace hst := hst.le le50
   replace hs := hs.le le50
   replace at2 := le50.2 _ _ at2
   have lt_at50 := GHeap.ltg at50
   refine .mv rfl (.nil (hK16 _ _ (.seq (fun K17 hK17 => .seq (fun K18 hK18 => .region (.mv rfl (.nil (hK18 _ _ ?_))))))))
   refine .block ?_
   refine .loopR (σ := Nat × (Nat → Option Addr) × List (List Int) × Nat × Nat) [(2, some _), (3, some _)] (fun (i, rr, T, gL4, nL4) => [(5, some (.int .i64 (i : Int))), (4, some (.slice (some ⟨gL4, 0, none⟩) nL4 nL4))]) (fun (i, rr, T, gL4, nL4) H' => St [g50] H50 H' ∧ H'.get gL4 = some (.row ((slsL rr T)) 24 true) ∧ PL gL4 g50 H50.next ∧ nL4 = (slsL rr T).length ∧ (i ≤ n ∧ T.length = i) ∧ Tb 0 1 n T ∧ OwnL H.next H' 2 rr T) (fun (i, rr, T, gL4, nL4) => n - i) ((0, fun _ => none, [], _, _)) ⟨rfl, rfl, trivial⟩ ⟨rfl, rfl, trivial⟩ ?_ ?_
   ·
    refine ⟨.refl _ _, by assumption, ⟨.inl rfl⟩, by rfl, ?_⟩
    exact ⟨⟨by omega, rfl⟩, .nil _ _ _, .nil _ _ _ _⟩
   rintro ⟨i, rr, T, gL4, nL4⟩ HL1 ⟨lst1, at_L4, pl_L4, ln_L4, hI⟩ KL1 hKL1
   refine .forget (fr' := [(5, some (.int .i64 (i : Int))), (4, some (.slice (some ⟨gL4, 0, none⟩) nL4 nL4)), (2, some _), (3, some _)]) ⟨rfl, rfl, rfl, rfl, trivial⟩ ?_
   have nx_HL1 := lst1.nx
   replace hst := hst.sA lst1
   replace hs := hs.sA lst1
   replace at2 := lst1.s at2
   have lt_at_L4 := GHeap.ltg at_L4
   have rk := St.refl [gL4] HL1
   obtain ⟨⟨hi, hTl⟩, hT, hR⟩ := hI
   have hat4 := at_L4
   have hfl : (slsL rr T).length = T.length := length_slsL _ _
   refine .seq (fun K19 hK19 => .seq (fun K20 hK20 => .region (.mv rfl (.mv rfl (.q rfl (.cmp rfl rfl rfl) (.nil (hK20 _ _ ?_)))))))
   refine .cond rfl (fun h53 => ?_) (fun h53 => ?_)
   ·
    simp only [sps] at h53
    refine .skip ?_
    refine hK19 _ _ (.seq (fun K21 hK21 => ?_))
    refine .block ?_
    refine .seq (fun K22 hK22 => .region ?_)
    refine .R rfl (.litA rfl sl_24_A ze_2_L rfl rfl rfl rfl) ?_
    rintro _ H56 ⟨g56, rfl, le56, ge56, at56⟩
    have nx_H56 := le56.1
    replace lst1 := lst1.le le56
    replace rk := rk.le le56
    replace at_L4 := le56.2 _ _ at_L4
    have lt_at56 := GHeap.ltg at56
    replace at56 : GHeap.get H56 g56 = some (.row (ints []) 2 true) := at56
    refine .mv rfl (.nil (hK22 _ _ (.seq (fun K23 hK23 => .seq (fun K24 hK24 => .region (.mv rfl (.nil (hK24 _ _ ?_))))))))
    refine .block ?_
    refine .loopR (σ := Nat × List Int × Nat × Nat) [(2, some _), (3, some _), (4, some _), (5, some _)] (fun (j, row, gL6, nL6) => [(7, some (.int .i64 (j : Int))), (6, some (.slice (some ⟨gL6, 0, none⟩) nL6 nL6))]) (fun (j, row, gL6, nL6) H' => St [g56] H56 H' ∧ H'.get gL6 = some (.row (ints row) 2 true) ∧ PL gL6 g56 H56.next ∧ nL6 = row.length ∧ (j ≤ n ∧ row.length = j) ∧ Bd 0 1 row) (fun (j, row, gL6, nL6) => n - j) ((0, [], _, _)) ⟨rfl, rfl, rfl, rfl, trivial⟩ ⟨rfl, rfl, trivial⟩ ?_ ?_
    ·
     refine ⟨.refl _ _, by assumption, ⟨.inl rfl⟩, by rfl, ?_⟩
     exact ⟨⟨by omega, rfl⟩, .nil _ _⟩
    rintro ⟨j, row, gL6, nL6⟩ HL2 ⟨lst2, at_L6, pl_L6, ln_L6, hI⟩ KL2 hKL2
    refine .forget (fr' := [(7, some (.int .i64 (j : Int))), (6, some (.slice (some ⟨gL6, 0, none⟩) nL6 nL6)), (2, some _), (3, some _), (4, some _), (5, some _)]) ⟨rfl, rfl, rfl, rfl, rfl, rfl, trivial⟩ ?_
    have nx_HL2 := lst2.nx
    replace lst1 := lst1.sA lst2
    replace rk := rk.sA lst2
    have ne_gL4_g56 : NE gL4 g56 := .a
    replace at_L4 := lst2.s at_L4 ne_gL4_g56.ne
    obtain ⟨⟨hj, hrl⟩, hW⟩ := hI
    refine .seq (fun K25 hK25 => .seq (fun K26 hK26 => .region (.mv rfl (.mv rfl (.q rfl (.cmp rfl rfl rfl) (.nil (hK26 _ _ ?_)))))))
    refine .cond rfl (fun h59 => ?_) (fun h59 => ?_)
    ·
     simp only [sps] at h59
     refine .skip ?_
     refine hK25 _ _ (.seq (fun K27 hK27 => ?_))
     refine .block ?_
     refine .region (.mv rfl ?_)
     refine .R rfl (.litA rfl sl_24_A ze_2_L rfl rfl rfl rfl) ?_
     rintro _ H63 ⟨g63, rfl, le63, ge63, at63⟩
     replace lst2 := lst2.le le63
     replace at_L6 := le63.2 _ _ at_L6
     have lt_at63 := GHeap.ltg at63
     refine .R rfl (.appendI rfl sl_24_A ze_2_L rfl by_2_L sl_24_A rfl rfl (by assumption) (by assumption) (by first | omega | (simp <;> omega)) (by omega) (by omega)) ?_
     rintro _ H64 ⟨g64, rfl, st64, ge64, at64⟩
     replace lst2 := lst2.sP st64
     refine .mv rfl (.nil (hK27 _ _ (.region (.mv rfl ?_))))
     refine .q rfl (.add rfl rfl rfl (by omega) (by omega)) ?_
     refine .mv rfl (.nil ?_)
     refine hKL2 ((j + 1, row ++ [1], _, _)) _ _ ?_ ?_ ⟨rfl, rfl, rfl, rfl, rfl, rfl, trivial⟩
     ·
      refine ⟨lst2, by assumption, by exact ⟨.inr (by omega)⟩, by (simp only [List.length_append, List.length_cons, List.length_nil] <;> omega), ?_⟩
      exact ⟨⟨by omega, by simp; omega⟩, hW.snoc (by omega) (by omega)⟩
     (dsimp only; omega)
    try simp only [sps] at h59
    refine .exit ?_
    refine hK23 _ _ (.region ?_)
    obtain rfl : j = n := by omega
    obtain rfl := ln_L6
    refine .mv rfl (.mv rfl ?_)
    refine .R rfl (.litA rfl sl_25_B ze_24_Hj rfl rfl rfl rfl) ?_
    rintro _ H67 ⟨g67, rfl, le67, ge67, at67⟩
    replace lst1 := lst1.le le67
    replace rk := rk.le le67
    replace at_L4 := le67.2 _ _ at_L4
    replace at_L6 := le67.2 _ _ at_L6
    have lt_at67 := GHeap.ltg at67
    refine .R rfl (.appendV rfl sl_25_B ze_24_Hj rfl by_24_Hj sl_25_B rfl rfl (by assumption) (by assumption) (by first | omega | (simp <;> omega)) rfl rfl (by omega) (by omega)) ?_
    rintro _ H68 ⟨g68, rfl, st68, ge68, at68⟩
    replace lst1 := lst1.sP st68
    replace rk := rk.sP st68
    replace at_L6 := st68.same _ _ ⟨(Ne.symm (pl_L6.ne ne_gL4_g56.ne (by omega))), trivial⟩ at_L6
    refine .mv rfl (.nil (hK21 _ _ (.region (.mv rfl ?_))))
    refine .q rfl (.add rfl rfl rfl (by omega) (by omega)) ?_
    refine .mv rfl (.nil ?_)
    refine hKL1 ((i + 1, upd rr T.length (some ⟨gL6, 0, none⟩), T ++ [row], _, _)) _ _ ?_ ?_ ⟨rfl, rfl, rfl, rfl, trivial⟩
    ·
     refine ⟨lst1, by (rw [slsL_snoc]; assumption), by exact ⟨.inr (by omega)⟩, by (rw [slsL_snoc] <;> (first | omega | (simp only [List.length_append, List.length_cons, List.length_nil] <;> omega))), ?_⟩
     have hR' := hR.st rk (.cons (hR.neT hat4 rfl) (.nil _ _))
     exact ⟨⟨by omega, by simp; omega⟩, hT.snoc (by omega) hW, hR'.snoc2 (by assumption) (hR.ne (pl_L6.ge (by omega) (by omega))) (pl_L6.ge (by omega) (by omega))⟩
    (dsimp only; omega)
   try simp only [sps] at h53
   refine .exit ?_
   refine hK17 _ _ (.seq (fun K28 hK28 => .region ?_))
   obtain rfl : nL4 = T.length := by omega
   refine .mv rfl ?_
   refine .call rfl rfl rfl rfl @Try.call110 rfl (l03Poset_c (hin := (hR.done at_L4 (pl_L4.ge (by omega) (by omega))).intss) (hn := by omega) (hr := fun i hi => by rw [(hT i hi).1]; omega)) ?_
   rintro _ H70 ⟨c70, rc70, le70, ga70, gb70, gc70, gd70, rr70, rfl, o70⟩
   have v70 := o70.catR
   replace hst := hst.le le70
   replace hs := hs.le le70
   replace at2 := le70.2 _ _ at2
   have bs_v70 := v70
   have lv_v70 : Keep HL1.next H70 H70 := fun _ _ _ h => h
   refine .r0 rfl rfl (.fillA rfl sz_27_D rfl rfl rfl rfl) ?_
   rintro _ H24002 ⟨rfl, st24002, at24002⟩
   replace hst := hst.sA st24002
   replace hs := hs.sA st24002
   replace lv_v70 := Keep.st lv_v70 st24002 (fun k hb hk => ⟨(by omega), trivial⟩)
   replace v70 := bs_v70.keep lv_v70 (Nat.le_refl _)
   refine .nil (hK28 _ _ ?_)
   refine .ret ?_
   refine hret _ _ ?_
   refine ⟨_, _, _, _, rfl, ag_27_D, (by rfl), (Mem.of_get at24002), ?_⟩
   exact ⟨c70, _, rfl, rc70.mono (by omega), v70.keep (.of_le (.refl _)) (by omega), hst, hs⟩
  try simp only [sps] at h45
  refine .seq (fun K29 hK29 => .region (.q rfl (.cmp rfl rfl rfl) (.mv rfl (.nil (hK29 _ _ ?_)))))
  refine .cond rfl (fun h71 => ?_) (fun h71 => ?_)
  ·
   try simp only [sps] at h71
   refine .seq (fun K30 hK30 => .region ?_)
   refine .R rfl (.litA rfl sl_24_A ze_2_L rfl rfl rfl rfl) ?_
   rintro _ H73 ⟨g73, rfl, le73, ge73, at73⟩
   replace hst := hst.le le73
   replace hs := hs.le le73
   replace at2 := le73.2 _ _ at2
   have lt_at73 := GHeap.ltg at73
   refine .R rfl (.litA rfl sl_24_A ze_2_L rfl rfl rfl rfl) ?_
   rintro _ H74 ⟨g74, rfl, le74, ge74, at74⟩
   replace hst := hst.le le74
   replace hs := hs.le le74
   replace at2 := le74.2 _ _ at2
   replace at73 := le74.2 _ _ at73
   have lt_at74 := GHeap.ltg at74
   refine .call rfl rfl rfl rfl @Try.call120 rfl ((by have hh := l03Paths_c (n := 3) (xs := [0, 1, 0]) (ys := [1, 2, 2]) (ha := Ints.of_get at73) (hb := Ints.of_get at74) (hl := rfl) (hx := by decide) (hn := by decide) (hy := by unfold Bd; decide) (hup := by decide); exact hh)) ?_
   rintro _ H75 ⟨c75, rc75, le75, ga75, gb75, gc75, gd75, rr75, rfl, o75⟩
   have v75 := o75.catR
   replace hst := hst.le le75
   replace hs := hs.le le75
   replace at2 := le75.2 _ _ at2
   have bs_v75 := v75
   have lv_v75 : Keep H74.next H75 H75 := fun _ _ _ h => h
   refine .r0 rfl rfl (.fillA rfl sz_27_D rfl rfl rfl rfl) ?_
   rintro _ H26003 ⟨rfl, st26003, at26003⟩
   replace hst := hst.sA st26003
   replace hs := hs.sA st26003
   replace lv_v75 := Keep.st lv_v75 st26003 (fun k hb hk => ⟨(by omega), trivial⟩)
   replace v75 := bs_v75.keep lv_v75 (Nat.le_refl _)
   refine .nil (hK30 _ _ ?_)
   refine .ret ?_
   refine hret _ _ ?_
   refine ⟨_, _, _, _, rfl, ag_27_D, (by rfl), (Mem.of_get at26003), ?_⟩
   exact ⟨c75, _, rfl, rc75.mono (by omega), v75.keep (.of_le (.refl _)) (by omega), hst, hs⟩
  try simp only [sps] at h71
  refine .seq (fun K31 hK31 => .region (.q rfl (.cmp rfl rfl rfl) (.mv rfl (.nil (hK31 _ _ ?_)))))
  refine .cond rfl (fun h76 => ?_) (fun h76 => ?_)
  ·
   try simp only [sps] at h76
   refine .seq (fun K32 hK32 => .region ?_)
   refine .call rfl rfl rfl rfl @Try.call123 rfl (l02Split_c) ?_
   rintro _ H78 ⟨c78, rc78, le78, ga78, gb78, gc78, gd78, rr78, rfl, o78⟩
   have v78 := o78.catR
   replace hst := hst.le le78
   replace hs := hs.le le78
   replace at2 := le78.2 _ _ at2
   have bs_v78 := v78
   have lv_v78 : Keep H14.next H78 H78 := fun _ _ _ h => h
   refine .r0 rfl rfl (.fillA rfl sz_27_D rfl rfl rfl rfl) ?_
   rintro _ H28001 ⟨rfl, st28001, at28001⟩
   replace hst := hst.sA st28001
   replace hs := hs.sA st28001
   replace lv_v78 := Keep.st lv_v78 st28001 (fun k hb hk => ⟨(by omega), trivial⟩)
   replace v78 := bs_v78.keep lv_v78 (Nat.le_refl _)
   refine .nil (hK32 _ _ ?_)
   refine .ret ?_
   refine hret _ _ ?_
   refine ⟨_, _, _, _, rfl, ag_27_D, (by rfl), (Mem.of_get at28001), ?_⟩
   exact ⟨c78, _, rfl, rc78.mono (by omega), v78.keep (.of_le (.refl _)) (by omega), hst, hs⟩
  try simp only [sps] at h76
  refine .seq (fun K33 hK33 => .region (.q rfl (.cmp rfl rfl rfl) (.mv rfl (.nil (hK33 _ _ ?_)))))
  refine .cond rfl (fun h79 => ?_) (fun h79 => ?_)
  ·
   try simp only [sps] at h79
   refine .seq (fun K34 hK34 => .region (.mv rfl ?_))
   refine .call rfl rfl rfl rfl @Try.call122 rfl (l02Monoid_c) ?_
   rintro _ H82 ⟨a82, T82, r82, rfl, v82, nT82, tb82, st82, hs⟩
   have nx_H82 := st82.nx
   replace hst := hst.sA st82
   replace at2 := st82.s at2 ne_g2_gS.ne
   refine .call rfl rfl rfl rfl @Try.call121 rfl (l03Monoid_c (hin := v82.intss) (hn := nT82) (ht := tb82)) ?_
   rintro _ H83 ⟨c83, rc83, le83, ga83, gb83, gc83, gd83, rr83, rfl, o83⟩
   have v83 := o83.catR
   have nx_H83 := le83.1
   replace hst := hst.le le83
   replace hs := hs.le le83
   replace at2 := le83.2 _ _ at2
   have bs_v83 := v83
   have lv_v83 : Keep H82.next H83 H83 := fun _ _ _ h => h
   refine .R rfl (.litA rfl sl_24_A ze_2_L rfl rfl rfl rfl) ?_
   rintro _ H84 ⟨g84, rfl, le84, ge84, at84⟩
   replace hst := hst.le le84
   replace hs := hs.le le84
   replace at2 := le84.2 _ _ at2
   replace lv_v83 := Keep.le lv_v83 le84
   have lt_at84 := GHeap.ltg at84
   refine .R rfl (.litA rfl sl_25_B ze_24_Hj rfl rfl rfl rfl) ?_
   rintro _ H85 ⟨g85, rfl, le85, ge85, at85⟩
   replace hst := hst.le le85
   replace hs := hs.le le85
   replace at2 := le85.2 _ _ at2
   replace at84 := le85.2 _ _ at84
   replace lv_v83 := Keep.le lv_v83 le85
   have lt_at85 := GHeap.ltg at85
   refine .call rfl rfl rfl rfl @Try.call110 rfl ((by have hh := l03Poset_c (rel := [[1]]) (hin := ((lit_own (gs := [g84]) (by simp only [LitAt]; exact ⟨⟨Nat.zero_le _, at84⟩, trivial⟩) (by simp <;> omega)).done (by exact at85) (Nat.zero_le _)).intss) (hn := by decide) (hr := by decide); exact hh)) ?_
   rintro _ H86 ⟨c86, rc86, le86, ga86, gb86, gc86, gd86, rr86, rfl, o86⟩
   have v86 := o86.catR
   have nx_H86 := le86.1
   replace hst := hst.le le86
   replace hs := hs.le le86
   replace at2 := le86.2 _ _ at2
   replace lv_v83 := Keep.le lv_v83 le86
   replace v83 := bs_v83.keep lv_v83 (Nat.le_refl _)
   have i83 := v83.inn
   have i86 := v86.inn
   refine .call rfl rfl rfl rfl @Try.call124 rfl (l03Join_c (hin := i83) (hin1 := i86) (hc := rc83) (hd := rc86)) ?_
   rintro _ H87 ⟨c87, rc87, le87, ga87, gb87, gc87, gd87, rr87, rfl, o87⟩
   have v87 := o87.catR
   have nx_H87 := le87.1
   replace hst := hst.le le87
   replace hs := hs.le le87
   replace at2 := le87.2 _ _ at2
   clear i83
   clear i86
   have i87 := v87.inn
   refine .call rfl rfl rfl rfl @Try.call65 rfl (l03Op_c (hin := i87) (hr := rc87) (hN := by omega)) ?_
   rintro _ H88 ⟨le88, ga88, gb88, gc88, gd88, rr88, rfl, o88⟩
   have v88 := o88.catR
   replace hst := hst.le le88
   replace hs := hs.le le88
   replace at2 := le88.2 _ _ at2
   have bs_v88 := v88
   have lv_v88 : Keep H87.next H88 H88 := fun _ _ _ h => h
   clear i87
   refine .r0 rfl rfl (.fillA rfl sz_27_D rfl rfl rfl rfl) ?_
   rintro _ H30008 ⟨rfl, st30008, at30008⟩
   replace hst := hst.sA st30008
   replace hs := hs.sA st30008
   replace lv_v88 := Keep.st lv_v88 st30008 (fun k hb hk => ⟨(by omega), trivial⟩)
   replace v88 := bs_v88.keep lv_v88 (Nat.le_refl _)
   refine .nil (hK34 _ _ ?_)
   refine .ret ?_
   refine hret _ _ ?_
   refine ⟨_, _, _, _, rfl, ag_27_D, (by rfl), (Mem.of_get at30008), ?_⟩
   exact ⟨c87.op, _, rfl, rc87.op, v88.keep (.of_le (.refl _)) (by omega), hst, hs⟩
  try simp only [sps] at h79
  refine .seq (fun K35 hK35 => .region (.q rfl (.cmp rfl rfl rfl) (.mv rfl (.nil (hK35 _ _ ?_)))))
  refine .cond rfl (fun h89 => ?_) (fun h89 => ?_)
  ·
   try simp only [sps] at h89
   refine .seq (fun K36 hK36 => .region (.mv rfl ?_))
   refine .call rfl rfl rfl rfl @Try.call122 rfl (l02Monoid_c) ?_
   rintro _ H92 ⟨a92, T92, r92, rfl, v92, nT92, tb92, st92, hs⟩
   have nx_H92 := st92.nx
   replace hst := hst.sA st92
   replace at2 := st92.s at2 ne_g2_gS.ne
   refine .call rfl rfl rfl rfl @Try.call121 rfl (l03Monoid_c (hin := v92.intss) (hn := nT92) (ht := tb92)) ?_
   rintro _ H93 ⟨c93, rc93, le93, ga93, gb93, gc93, gd93, rr93, rfl, o93⟩
   have v93 := o93.catR
   have nx_H93 := le93.1
   replace hst := hst.le le93
   replace hs := hs.le le93
   replace at2 := le93.2 _ _ at2
   have bs_v93 := v93
   have lv_v93 : Keep H92.next H93 H93 := fun _ _ _ h => h
   refine .R rfl (.litA rfl sl_24_A ze_2_L rfl rfl rfl rfl) ?_
   rintro _ H94 ⟨g94, rfl, le94, ge94, at94⟩
   replace hst := hst.le le94
   replace hs := hs.le le94
   replace at2 := le94.2 _ _ at2
   replace lv_v93 := Keep.le lv_v93 le94
   have lt_at94 := GHeap.ltg at94
   refine .R rfl (.litA rfl sl_25_B ze_24_Hj rfl rfl rfl rfl) ?_
   rintro _ H95 ⟨g95, rfl, le95, ge95, at95⟩
   replace hst := hst.le le95
   replace hs := hs.le le95
   replace at2 := le95.2 _ _ at2
   replace at94 := le95.2 _ _ at94
   replace lv_v93 := Keep.le lv_v93 le95
   have lt_at95 := GHeap.ltg at95
   refine .call rfl rfl rfl rfl @Try.call110 rfl ((by have hh := l03Poset_c (rel := [[1]]) (hin := ((lit_own (gs := [g94]) (by simp only [LitAt]; exact ⟨⟨Nat.zero_le _, at94⟩, trivial⟩) (by simp <;> omega)).done (by exact at95) (Nat.zero_le _)).intss) (hn := by decide) (hr := by decide); exact hh)) ?_
   rintro _ H96 ⟨c96, rc96, le96, ga96, gb96, gc96, gd96, rr96, rfl, o96⟩
   have v96 := o96.catR
   have nx_H96 := le96.1
   replace hst := hst.le le96
   replace hs := hs.le le96
   replace at2 := le96.2 _ _ at2
   replace lv_v93 := Keep.le lv_v93 le96
   replace v93 := bs_v93.keep lv_v93 (Nat.le_refl _)
   have i93 := v93.inn
   have i96 := v96.inn
   refine .call rfl rfl rfl rfl @Try.call124 rfl (l03Join_c (hin := i93) (hin1 := i96) (hc := rc93) (hd := rc96)) ?_
   rintro _ H97 ⟨c97, rc97, le97, ga97, gb97, gc97, gd97, rr97, rfl, o97⟩
   have v97 := o97.catR
   replace hst := hst.le le97
   replace hs := hs.le le97
   replace at2 := le97.2 _ _ at2
   have bs_v97 := v97
   have lv_v97 : Keep H96.next H97 H97 := fun _ _ _ h => h
   clear i93
   clear i96
   refine .r0 rfl rfl (.fillA rfl sz_27_D rfl rfl rfl rfl) ?_
   rintro _ H32007 ⟨rfl, st32007, at32007⟩
   replace hst := hst.sA st32007
   replace hs := hs.sA st32007
   replace lv_v97 := Keep.st lv_v97 st32007 (fun k hb hk => ⟨(by omega), trivial⟩)
   replace v97 := bs_v97.keep lv_v97 (Nat.le_refl _)
   refine .nil (hK36 _ _ ?_)
   refine .ret ?_
   refine hret _ _ ?_
   refine ⟨_, _, _, _, rfl, ag_27_D, (by rfl), (Mem.of_get at32007), ?_⟩
   exact ⟨c97, _, rfl, rc97, v97.keep (.of_le (.refl _)) (by omega), hst, hs⟩
  try simp only [sps] at h89
  refine .seq (fun K37 hK37 => .region (.q rfl (.cmp rfl rfl rfl) (.mv rfl (.nil (hK37 _ _ ?_)))))
  refine .cond rfl (fun h98 => ?_) (fun h98 => ?_)
  ·
   try simp only [sps] at h98
   refine .seq (fun K38 hK38 => .region (.mv rfl (.mv rfl ?_)))
   refine .call rfl rfl rfl rfl @Try.call48 rfl (l01Next_c) ?_
   rintro _ H102 ⟨k102, rfl, ka102, kb102, kc102, st102, hs⟩
   have nx_H102 := st102.nx
   replace hst := hst.sA st102
   replace at2 := st102.s at2 ne_g2_gS.ne
   obtain ⟨n, hn⟩ : ∃ n : Nat, (n : Int) = 2 + k102 := ⟨(2 + k102).toNat, by omega⟩
   refine .q rfl (.add (r := (n : Int)) rfl rfl (by omega) (by omega) (by omega)) ?_
   refine .call rfl rfl rfl rfl @Try.call119 rfl (l02Relation_c (n := n) (hn := by omega)) ?_
   rintro _ H104 ⟨a104, T104, r104, rfl, v104, nT104, tb104, st104, hs⟩
   have nx_H104 := st104.nx
   replace hst := hst.sA st104
   replace at2 := st104.s at2 ne_g2_gS.ne
   refine .call rfl rfl rfl rfl @Try.call110 rfl (l03Poset_c (hin := v104.intss) (hn := by omega) (hr := tb104)) ?_
   rintro _ H105 ⟨c105, rc105, le105, ga105, gb105, gc105, gd105, rr105, rfl, o105⟩
   have v105 := o105.catR
   replace hst := hst.le le105
   replace hs := hs.le le105
   replace at2 := le105.2 _ _ at2
   have bs_v105 := v105
   have lv_v105 : Keep H104.next H105 H105 := fun _ _ _ h => h
   refine .r0 rfl rfl (.fillA rfl sz_27_D rfl rfl rfl rfl) ?_
   rintro _ H34006 ⟨rfl, st34006, at34006⟩
   replace hst := hst.sA st34006
   replace hs := hs.sA st34006
   replace lv_v105 := Keep.st lv_v105 st34006 (fun k hb hk => ⟨(by omega), trivial⟩)
   replace v105 := bs_v105.keep lv_v105 (Nat.le_refl _)
   refine .nil (hK38 _ _ ?_)
   refine .ret ?_
   refine hret _ _ ?_
   refine ⟨_, _, _, _, rfl, ag_27_D, (by rfl), (Mem.of_get at34006), ?_⟩
   exact ⟨c105, _, rfl, rc105.mono (by omega), v105.keep (.of_le (.refl _)) (by omega), hst, hs⟩
  try simp only [sps] at h98
  refine .skip ?_
  refine hK2 _ _ (.seq (fun K39 hK39 => .region (.mv rfl ?_)))
  refine .call rfl rfl rfl rfl @Try.call48 rfl (l01Next_c) ?_
  rintro _ H107 ⟨k107, rfl, ka107, kb107, kc107, st107, hs⟩
  have nx_H107 := st107.nx
  replace hst := hst.sA st107
  replace at2 := st107.s at2 ne_g2_gS.ne
  obtain ⟨n, hn⟩ : ∃ n : Nat, (n : Int) = 2 + k107 := ⟨(2 + k107).toNat, by omega⟩
  refine .q rfl (.add (r := (n : Int)) rfl rfl (by omega) (by omega) (by omega)) ?_
  refine .mv rfl (.nil (hK39 _ _ (.seq (fun K40 hK40 => .region ?_))))
  refine .R rfl (.litA rfl sl_24_A ze_2_L rfl rfl rfl rfl) ?_
  rintro _ H109 ⟨g109, rfl, le109, ge109, at109⟩
  replace hst := hst.le le109
  replace hs := hs.le le109
  replace at2 := le109.2 _ _ at2
  have lt_at109 := GHeap.ltg at109
  replace at109 : GHeap.get H109 g109 = some (.row (ints []) 2 true) := at109
  refine .R rfl (.litA rfl sl_24_A ze_2_L rfl rfl rfl rfl) ?_
  rintro _ H110 ⟨g110, rfl, le110, ge110, at110⟩
  replace hst := hst.le le110
  replace hs := hs.le le110
  replace at2 := le110.2 _ _ at2
  replace at109 := le110.2 _ _ at109
  have lt_at110 := GHeap.ltg at110
  replace at110 : GHeap.get H110 g110 = some (.row (ints []) 2 true) := at110
  refine .mv rfl (.mv rfl (.nil (hK40 _ _ (.seq (fun K41 hK41 => .seq (fun K42 hK42 => .region (.mv rfl ?_)))))))
  refine .call rfl rfl rfl rfl @Try.call48 rfl (l01Next_c) ?_
  rintro _ H112 ⟨k112, rfl, ka112, kb112, kc112, st112, hs⟩
  have nx_H112 := st112.nx
  replace hst := hst.sA st112
  replace at2 := st112.s at2 ne_g2_gS.ne
  replace at109 := st112.s at109
  replace at110 := st112.s at110
  obtain ⟨m, rfl⟩ : ∃ m : Nat, k112 = (m : Int) := ⟨k112.toNat, by omega⟩
  refine .mv rfl (.nil (hK42 _ _ ?_))
  refine .block ?_
  refine .loopR (σ := Nat × List Int × List Int × Nat × Nat × Nat × Nat) [(0, some _), (2, some _), (8, some _)] (fun (k, xs, ys, gL9, nL9, gL10, nL10) => [(11, some (.int .i64 (k : Int))), (9, some (.slice (some ⟨gL9, 0, none⟩) nL9 nL9)), (10, some (.slice (some ⟨gL10, 0, none⟩) nL10 nL10))]) (fun (k, xs, ys, gL9, nL9, gL10, nL10) H' => St [g109, g110, gS] H112 H' ∧ H'.get gL9 = some (.row (ints xs) 2 true) ∧ PL gL9 g109 H112.next ∧ nL9 = xs.length ∧ H'.get gL10 = some (.row (ints ys) 2 true) ∧ PL gL10 g110 H112.next ∧ nL10 = ys.length ∧ gL9 ≠ gL10 ∧ (k + xs.length ≤ 3 ∧ ys.length = xs.length) ∧ Bd 0 ((n : Int) - 1) ys ∧ (∀ e, e < xs.length → xs.getD e 0 < ys.getD e 0) ∧ DSrc 90 H' gS) (fun (k, xs, ys, gL9, nL9, gL10, nL10) => k) ((m, [], [], _, _, _, _)) ⟨rfl, rfl, rfl, trivial⟩ ⟨rfl, rfl, rfl, trivial⟩ ?_ ?_
  ·
   refine ⟨.refl _ _, by assumption, ⟨.inl rfl⟩, by rfl, by assumption, ⟨.inl rfl⟩, by rfl, by omega, ?_⟩
   exact ⟨⟨by simp; omega, rfl⟩, .nil _ _, fun _ h => by simp at h, hs⟩
  rintro ⟨k, xs, ys, gL9, nL9, gL10, nL10⟩ HL3 ⟨lst3, at_L9, pl_L9, ln_L9, at_L10, pl_L10, ln_L10, ap3_0, hI⟩ KL3 hKL3
  refine .forget (fr' := [(11, some (.int .i64 (k : Int))), (9, some (.slice (some ⟨gL9, 0, none⟩) nL9 nL9)), (10, some (.slice (some ⟨gL10, 0, none⟩) nL10 nL10)), (0, some _), (2, some _), (8, some _)]) ⟨rfl, rfl, rfl, rfl, rfl, rfl, trivial⟩ ?_
  have nx_HL3 := lst3.nx
  replace hst := hst.st lst3 (fun k hk ho => by simp only [out, and_true] at ho ⊢ <;> exact ⟨by first | exact ho | exact ho.1 | exact ho.2 | exact ho.2.1 | exact ho.2.2 | exact ho.2.2.1 | exact ho.2.2.2 | omega, by first | exact ho | exact ho.1 | exact ho.2 | exact ho.2.1 | exact ho.2.2 | exact ho.2.2.1 | exact ho.2.2.2 | omega, by first | exact ho | exact ho.1 | exact ho.2 | exact ho.2.1 | exact ho.2.2 | exact ho.2.2.1 | exact ho.2.2.2 | omega⟩)
  replace at2 := lst3.same _ _ ⟨(by first | assumption | omega), (by first | assumption | omega), ne_g2_gS.ne, trivial⟩ at2
  have lt_at_L10 := GHeap.ltg at_L10
  obtain ⟨⟨hk3, hyl⟩, hY, hU, hs⟩ := hI
  have ge9 : H.next ≤ gL9 := pl_L9.ge (by omega) (by omega)
  have ge10 : H.next ≤ gL10 := pl_L10.ge (by omega) (by omega)
  refine .seq (fun K43 hK43 => .seq (fun K44 hK44 => .region (.mv rfl (.q rfl (.cmp rfl rfl rfl) (.nil (hK44 _ _ ?_))))))
  refine .cond rfl (fun h114 => ?_) (fun h114 => ?_)
  ·
   simp only [sps] at h114
   obtain ⟨k1, rfl⟩ : ∃ k1, k = k1 + 1 := ⟨k - 1, by omega⟩
   refine .skip ?_
   refine hK43 _ _ (.seq (fun K45 hK45 => ?_))
   refine .block ?_
   refine .seq (fun K46 hK46 => .region (.mv rfl (.mv rfl ?_)))
   refine .q rfl (.sub rfl rfl rfl (by omega) (by omega)) ?_
   refine .call rfl rfl rfl rfl @Try.call48 rfl (l01Next_c) ?_
   rintro _ H120 ⟨k120, rfl, ka120, kb120, kc120, st120, hs⟩
   have nx_H120 := st120.nx
   replace lst3 := lst3.sA st120
   replace at_L9 := st120.s at_L9
   have ne_gL10_gS : NE gL10 gS := .a
   replace at_L10 := st120.s at_L10 ne_gL10_gS.ne
   refine .mv rfl (.nil (hK46 _ _ (.seq (fun K47 hK47 => .region (.mv rfl (.mv rfl ?_))))))
   refine .R rfl (.litA rfl sl_24_A ze_2_L rfl rfl rfl rfl) ?_
   rintro _ H123 ⟨g123, rfl, le123, ge123, at123⟩
   replace lst3 := lst3.le le123
   replace hs := hs.le le123
   replace at_L9 := le123.2 _ _ at_L9
   replace at_L10 := le123.2 _ _ at_L10
   have lt_at123 := GHeap.ltg at123
   refine .R rfl (.appendI rfl sl_24_A ze_2_L rfl by_2_L sl_24_A rfl rfl (by assumption) (by assumption) (by first | omega | (simp <;> omega)) (by omega) (by omega)) ?_
   rintro _ H124 ⟨g124, rfl, st124, ge124, at124⟩
   replace lst3 := lst3.sP st124
   replace hs := hs.sP st124
   replace at_L10 := st124.same _ _ ⟨(Ne.symm ap3_0), trivial⟩ at_L10
   have lt_at124 := GHeap.ltg at124
   refine .mv rfl (.nil (hK47 _ _ (.region (.mv rfl (.mv rfl ?_)))))
   refine .q rfl (.add rfl rfl rfl (by omega) (by omega)) ?_
   refine .mv rfl (.mv rfl ?_)
   refine .q rfl (.sub rfl rfl rfl (by omega) (by omega)) ?_
   refine .mv rfl ?_
   refine .q rfl (.sub rfl rfl rfl (by omega) (by omega)) ?_
   refine .call rfl rfl rfl rfl @Try.call48 rfl (l01Next_c) ?_
   rintro _ H133 ⟨k133, rfl, ka133, kb133, kc133, st133, hs⟩
   have nx_H133 := st133.nx
   replace lst3 := lst3.sA st133
   replace at_L10 := st133.s at_L10 ne_gL10_gS.ne
   replace at124 := st133.s at124
   refine .q rfl (.add rfl rfl rfl (by omega) (by omega)) ?_
   refine .R rfl (.litA rfl sl_24_A ze_2_L rfl rfl rfl rfl) ?_
   rintro _ H135 ⟨g135, rfl, le135, ge135, at135⟩
   replace lst3 := lst3.le le135
   replace hs := hs.le le135
   replace at_L10 := le135.2 _ _ at_L10
   replace at124 := le135.2 _ _ at124
   have lt_at135 := GHeap.ltg at135
   refine .R rfl (.appendI rfl sl_24_A ze_2_L rfl by_2_L sl_24_A rfl rfl (by assumption) (by assumption) (by first | omega | (simp <;> omega)) (by omega) (by omega)) ?_
   rintro _ H136 ⟨g136, rfl, st136, ge136, at136⟩
   replace lst3 := lst3.sP st136
   replace hs := hs.sP st136
   replace at124 := st136.s at124
   refine .mv rfl (.nil (hK45 _ _ (.region (.mv rfl ?_))))
   refine .q rfl (.sub (r := (k1 : Int)) rfl rfl (by omega) (by omega) (by omega)) ?_
   refine .mv rfl (.nil ?_)
   refine hKL3 ((k1, xs ++ [k120], ys ++ [k120 + 1 + k133], _, _, _, _)) _ _ ?_ ?_ ⟨rfl, rfl, rfl, rfl, rfl, rfl, trivial⟩
   ·
    refine ⟨lst3, by assumption, by exact ⟨.inr (by omega)⟩, by (simp only [List.length_append, List.length_cons, List.length_nil] <;> omega), by assumption, by exact ⟨.inr (by omega)⟩, by (simp only [List.length_append, List.length_cons, List.length_nil] <;> omega), by omega, ?_⟩
    exact ⟨⟨by simp; omega, by simp; omega⟩, hY.snoc (by omega) (by omega), up_snoc hyl hU (by omega), hs⟩
   (dsimp only; omega)
  try simp only [sps] at h114
  refine .exit ?_
  refine hK41 _ _ (.seq (fun K48 hK48 => .region ?_))
  obtain rfl := ln_L9
  have e10 : nL10 = ys.length := by omega
  subst e10
  refine .mv rfl (.mv rfl (.mv rfl ?_))
  refine .call rfl rfl rfl rfl @Try.call120 rfl (l03Paths_c (ha := Ints.of_get at_L9) (hb := Ints.of_get at_L10) (hl := hyl) (hx := by omega) (hn := by omega) (hy := hY) (hup := hU)) ?_
  rintro _ H140 ⟨c140, rc140, le140, ga140, gb140, gc140, gd140, rr140, rfl, o140⟩
  have v140 := o140.catR
  replace hst := hst.le le140
  replace at2 := le140.2 _ _ at2
  have bs_v140 := v140
  have lv_v140 : Keep HL3.next H140 H140 := fun _ _ _ h => h
  refine .r0 rfl rfl (.fillA rfl sz_27_D rfl rfl rfl rfl) ?_
  rintro _ H43004 ⟨rfl, st43004, at43004⟩
  replace hst := hst.sA st43004
  replace lv_v140 := Keep.st lv_v140 st43004 (fun k hb hk => ⟨(by omega), trivial⟩)
  replace v140 := bs_v140.keep lv_v140 (Nat.le_refl _)
  refine .nil (hK48 _ _ ?_)
  refine .ret ?_
  refine hret _ _ ?_
  refine ⟨_, _, _, _, rfl, ag_27_D, (by rfl), (Mem.of_get at43004), ?_⟩
  exact ⟨c140, _, rfl, rc140.mono (by omega), v140.keep (.of_le (.refl _)) (by omega), hst, (hs.le le140).st st43004 (fun k hk ho => ⟨by omega, trivial⟩)⟩
end Go.Proofs.Ytolfggcanbpknaa
namespace Go.Proofs.Ytolfggcanbpknaa
open Go Go.GL Go.RowKit Go.Proofs
set_option maxHeartbeats 8000000 in
theorem l03Product_c {c d : Cat} {p q : CatP} {H : GHeap} (hin : c.In H p := by assumption) (hin1 : d.In H q := by assumption) (hc : c.Rect 256) (hd : d.Rect 128) :
    GCalls Try.prog 108 [.agg (c.cells p).toArray, .agg (d.cells q).toArray] H (NewRc 2 24 33000 H) := by
  obtain ⟨a1, a2, a3, a4, a5, a6, a7, a8, a9, a10⟩ := id hc
  obtain ⟨b1, b2, b3, b4, b5, b6, b7, b8, b9, b10⟩ := id hd
  have m0 := mul_bd a1 b1
  refine GCalls.body (N := 174) (rs := [.cell 4 27]) Try.func108 rfl rfl rfl rfl (fun Qx hret hend => ?_)
  refine .fg [0, 1] rfl ?_
  have hle := GHeap.Le.refl H
  have base_hin := hin
  have base_hin1 := hin1
  refine .seq (fun K1 hK1 => .region ?_)
  refine .R rfl (.boxR rfl sz_27_D rfl) ?_
  rintro _ H2 ⟨g2, rfl, le2, ge2, at2⟩
  replace hle := hle.trans le2
  have lt_at2 := GHeap.ltg at2
  replace hin := base_hin.mono hle
  have hb2 : Cat.At _ g2 0 c p := ⟨Mem.of_get at2, hin⟩
  refine .R rfl (.boxR rfl sz_27_D rfl) ?_
  rintro _ H3 ⟨g3, rfl, le3, ge3, at3⟩
  replace hle := hle.trans le3
  replace at2 := le3.2 _ _ at2
  have lt_at3 := GHeap.ltg at3
  replace hin := base_hin.mono hle
  replace hin1 := base_hin1.mono hle
  clear hb2
  have hb2 : Cat.At _ g2 0 c p := ⟨Mem.of_get at2, hin⟩
  have hb3 : Cat.At _ g3 0 d q := ⟨Mem.of_get at3, hin1⟩
  refine .R rfl (.allocR rfl ze_27_Hj rfl) ?_
  rintro _ H4 ⟨g4, rfl, le4, ge4, at4⟩
  replace hle := hle.trans le4
  replace at2 := le4.2 _ _ at2
  replace at3 := le4.2 _ _ at3
  have lt_at4 := GHeap.ltg at4
  replace hin := base_hin.mono hle
  replace hin1 := base_hin1.mono hle
  clear hb2
  have hb2 : Cat.At _ g2 0 c p := ⟨Mem.of_get at2, hin⟩
  obtain ⟨c02, -, -, -, -, -, -, -, -⟩ := hb2.get
  clear hb3
  have hb3 : Cat.At _ g3 0 d q := ⟨Mem.of_get at3, hin1⟩
  obtain ⟨c03, c13, -, -, -, -, -, -, -⟩ := hb3.get
  refine .nil (hK1 _ _ (.seq (fun K2 hK2 => ?_)))
  refine .regionD mo_B (.q 0 (.q 1 (.q 2 (.q 3 (.q 4 (.q 5 (.q 6 (.done)))))))) (by kernel_rfl) ?_
  refine .q rfl (.fieldAddr fo_27_0_B rfl) ?_
  refine .q rfl (.load on_2_A rfl (by first | assumption | exact Mem.of_get at3 0 _ rfl)) ?_
  refine .q rfl (.fieldAddr fo_27_1_B rfl) ?_
  refine .q rfl (.load on_24_B rfl (by first | assumption | exact Mem.of_get at3 1 _ rfl)) ?_
  refine .q rfl (.len sl_24_A rfl) (.mv rfl rfl (.mv rfl rfl ?_))
  refine .done ?_
  refine hK2 _ _ (.seq (fun K3 hK3 => .region (.q rfl (.fieldAddr fo_27_0_B rfl) ?_)))
  refine .q rfl (.load on_2_A rfl (by first | assumption | exact Mem.of_get at2 0 _ rfl)) ?_
  refine .mv rfl ?_
  refine .q rfl (.mul rfl rfl rfl (by omega) (by omega)) ?_
  refine .R rfl (.litA rfl sl_24_A ze_2_L rfl rfl rfl rfl) ?_
  rintro _ H25 ⟨g25, rfl, le25, ge25, at25⟩
  replace hle := hle.trans le25
  replace at2 := le25.2 _ _ at2
  replace at3 := le25.2 _ _ at3
  replace at4 := le25.2 _ _ at4
  have lt_at25 := GHeap.ltg at25
  replace hin := base_hin.mono hle
  replace hin1 := base_hin1.mono hle
  clear hb2 c02
  have hb2 : Cat.At _ g2 0 c p := ⟨Mem.of_get at2, hin⟩
  clear hb3 c03 c13
  have hb3 : Cat.At _ g3 0 d q := ⟨Mem.of_get at3, hin1⟩
  replace at25 : GHeap.get H25 g25 = some (.row (ints []) 2 true) := at25
  refine .R rfl (.litA rfl sl_24_A ze_2_L rfl rfl rfl rfl) ?_
  rintro _ H26 ⟨g26, rfl, le26, ge26, at26⟩
  replace hle := hle.trans le26
  replace at2 := le26.2 _ _ at2
  replace at3 := le26.2 _ _ at3
  replace at4 := le26.2 _ _ at4
  replace at25 := le26.2 _ _ at25
  have lt_at26 := GHeap.ltg at26
  replace hin := base_hin.mono hle
  replace hin1 := base_hin1.mono hle
  clear hb2
  have hb2 : Cat.At _ g2 0 c p := ⟨Mem.of_get at2, hin⟩
  clear hb3
  have hb3 : Cat.At _ g3 0 d q := ⟨Mem.of_get at3, hin1⟩
  replace at26 : GHeap.get H26 g26 = some (.row (ints []) 2 true) := at26
  refine .R rfl (.litA rfl sl_24_A ze_2_L rfl rfl rfl rfl) ?_
  rintro _ H27 ⟨g27, rfl, le27, ge27, at27⟩
  replace hle := hle.trans le27
  replace at2 := le27.2 _ _ at2
  replace at3 := le27.2 _ _ at3
  replace at4 := le27.2 _ _ at4
  replace at25 := le27.2 _ _ at25
  replace at26 := le27.2 _ _ at26
  have lt_at27 := GHeap.ltg at27
  replace hin := base_hin.mono hle
  replace hin1 := base_hin1.mono hle
  clear hb2
  have hb2 : Cat.At _ g2 0 c p := ⟨Mem.of_get at2, hin⟩
  clear hb3
  have hb3 : Cat.At _ g3 0 d q := ⟨Mem.of_get at3, hin1⟩
  replace at27 : GHeap.get H27 g27 = some (.row (ints []) 2 true) := at27
  refine .R rfl (.litA rfl sl_25_B ze_24_Hj rfl rfl rfl rfl) ?_
  rintro _ H28 ⟨g28, rfl, le28, ge28, at28⟩
  replace hle := hle.trans le28
  replace at2 := le28.2 _ _ at2
  replace at3 := le28.2 _ _ at3
  replace at4 := le28.2 _ _ at4
  replace at25 := le28.2 _ _ at25
  replace at26 := le28.2 _ _ at26
  replace at27 := le28.2 _ _ at27
  have lt_at28 := GHeap.ltg at28
  replace hin := base_hin.mono hle
  replace hin1 := base_hin1.mono hle
  clear hb2
  have hb2 : Cat.At _ g2 0 c p := ⟨Mem.of_get at2, hin⟩
  clear hb3
  have hb3 : Cat.At _ g3 0 d q := ⟨Mem.of_get at3, hin1⟩
  refine .q rfl (.build bt_27_Hj rfl rfl rfl) ?_
  refine .R rfl (.allocR rfl ze_27_Hj rfl) ?_
  rintro _ H7 ⟨g7, rfl, le7, ge7, at7⟩
  have nx_H7 := le7.1
  replace hle := hle.trans le7
  replace at2 := le7.2 _ _ at2
  replace at3 := le7.2 _ _ at3
  replace at4 := le7.2 _ _ at4
  replace at25 := le7.2 _ _ at25
  replace at26 := le7.2 _ _ at26
  replace at27 := le7.2 _ _ at27
  replace at28 := le7.2 _ _ at28
  replace hin := base_hin.mono hle
  replace hin1 := base_hin1.mono hle
  clear hb2
  have hb2 : Cat.At _ g2 0 c p := ⟨Mem.of_get at2, hin⟩
  clear hb3
  have hb3 : Cat.At _ g3 0 d q := ⟨Mem.of_get at3, hin1⟩
  refine .r0 rfl rfl (.fillA rfl sz_27_D rfl rfl rfl rfl) ?_
  rintro _ H2010 ⟨rfl, st2010, at2010⟩
  have nx_H2010 := st2010.nx
  replace hle := hle.st st2010 (fun k hk => ⟨by omega, trivial⟩)
  have ne_g2_g7 : NE g2 g7 := .a
  replace at2 := st2010.s at2 ne_g2_g7.ne
  have ne_g3_g7 : NE g3 g7 := .a
  replace at3 := st2010.s at3 ne_g3_g7.ne
  have ne_g4_g7 : NE g4 g7 := .a
  replace at4 := st2010.s at4 ne_g4_g7.ne
  have ne_g25_g7 : NE g25 g7 := .a
  replace at25 := st2010.s at25 ne_g25_g7.ne
  have ne_g26_g7 : NE g26 g7 := .a
  replace at26 := st2010.s at26 ne_g26_g7.ne
  replace at27 := st2010.s at27
  have ne_g28_g7 : NE g28 g7 := .a
  replace at28 := st2010.s at28 ne_g28_g7.ne
  replace hin := base_hin.mono hle
  replace hin1 := base_hin1.mono hle
  clear hb2
  have hb2 : Cat.At _ g2 0 c p := ⟨Mem.of_get at2, hin⟩
  clear hb3
  have hb3 : Cat.At _ g3 0 d q := ⟨Mem.of_get at3, hin1⟩
  refine .nil (hK3 _ _ (.seq (fun K4 hK4 => .seq (fun K5 hK5 => .region (.mv rfl (.nil (hK5 _ _ ?_)))))))
  refine .block ?_
  refine .loopR (σ := Nat × List Int × Nat) [(2, some _), (3, some _), (4, some _), (5, some _), (6, some _), (7, some _)] (fun (x, is, gLI) => [(8, some (.int .i64 (x : Int)))]) (fun (x, is, gLI) H' => St [g27, g7] H2010 H' ∧ H'.get gLI = some (.row (ints is) 2 true) ∧ PL gLI g27 H2010.next ∧ H'.get g7 = some (.row ([.int .i64 (c.obj * d.obj), .slice (some ⟨g25, 0, none⟩) 0 0, .slice (some ⟨g26, 0, none⟩) 0 0, .slice (some ⟨gLI, 0, none⟩) is.length is.length, .slice (some ⟨g28, 0, none⟩) 0 0]) 27 true) ∧ gLI ≠ g7 ∧ ((x : Int) ≤ c.obj ∧ (is.length : Int) = (x : Int) * d.obj) ∧ Bd 0 33000 is) (fun (x, is, gLI) => (c.obj - x : Int).toNat) ((0, [], g27)) ⟨rfl, rfl, rfl, rfl, rfl, rfl, trivial⟩ ⟨rfl, trivial⟩ ?_ ?_
  ·
   refine ⟨.refl _ _, by assumption, ⟨.inl rfl⟩, by assumption, by omega, ?_⟩
   exact ⟨⟨by omega, by simp⟩, .nil _ _⟩
  rintro ⟨x, is, gLI⟩ HL1 ⟨lst1, at_LI, pl_LI, at_Lg7, ap1_0, hI⟩ KL1 hKL1
  refine .forget (fr' := [(8, some (.int .i64 (x : Int))), (2, some _), (3, some _), (4, some _), (5, some _), (6, some _), (7, some _)]) ⟨rfl, rfl, rfl, rfl, rfl, rfl, rfl, trivial⟩ ?_
  have ge_LI : H.next ≤ gLI := pl_LI.ge (by omega) (by omega)
  have nx_HL1 := lst1.nx
  replace hle := hle.st lst1 (fun k hk => ⟨by omega, by omega, trivial⟩)
  have ne_g2_g27 : NE g2 g27 := .a
  replace at2 := lst1.same _ _ ⟨ne_g2_g27.ne, ne_g2_g7.ne, trivial⟩ at2
  have ne_g3_g27 : NE g3 g27 := .a
  replace at3 := lst1.same _ _ ⟨ne_g3_g27.ne, ne_g3_g7.ne, trivial⟩ at3
  have ne_g4_g27 : NE g4 g27 := .a
  replace at4 := lst1.same _ _ ⟨ne_g4_g27.ne, ne_g4_g7.ne, trivial⟩ at4
  have ne_g25_g27 : NE g25 g27 := .a
  replace at25 := lst1.same _ _ ⟨ne_g25_g27.ne, ne_g25_g7.ne, trivial⟩ at25
  have ne_g26_g27 : NE g26 g27 := .a
  replace at26 := lst1.same _ _ ⟨ne_g26_g27.ne, ne_g26_g7.ne, trivial⟩ at26
  have ne_g28_g27 : NE g28 g27 := .a
  replace at28 := lst1.same _ _ ⟨ne_g28_g27.ne, ne_g28_g7.ne, trivial⟩ at28
  have lt_at_LI := GHeap.ltg at_LI
  replace hin := base_hin.mono hle
  replace hin1 := base_hin1.mono hle
  clear hb2
  have hb2 : Cat.At _ g2 0 c p := ⟨Mem.of_get at2, hin⟩
  obtain ⟨c02, -, -, -, -, -, -, -, -⟩ := hb2.get
  clear hb3
  have hb3 : Cat.At _ g3 0 d q := ⟨Mem.of_get at3, hin1⟩
  obtain ⟨⟨hx, hl⟩, hB⟩ := hI
  have mx := mul_bd (a := (x : Int)) (by omega) b1
  refine .seq (fun K6 hK6 => .seq (fun K7 hK7 => .region (.mv rfl (.q rfl (.fieldAddr fo_27_0_B rfl) ?_))))
  refine .q rfl (.load on_2_A rfl (by first | assumption | exact Mem.of_get at2 0 _ rfl)) ?_
  refine .q rfl (.cmp rfl rfl rfl) (.nil (hK7 _ _ ?_))
  refine .cond rfl (fun h33 => ?_) (fun h33 => ?_)
  ·
   simp only [sps] at h33
   have r1 := a7 x (by omega)
   refine .skip ?_
   refine hK6 _ _ (.seq (fun K8 hK8 => ?_))
   refine .block ?_
   refine .seq (fun K9 hK9 => .region (.mv rfl (.nil (hK9 _ _ ?_))))
   refine .block ?_
   refine .loopR (σ := Nat × List Int × Nat) [(2, some _), (3, some _), (4, some _), (5, some _), (6, some _), (7, some _), (8, some _)] (fun (y, i2, gLI2) => [(9, some (.int .i64 (y : Int)))]) (fun (y, i2, gLI2) H' => St [gLI, g7] HL1 H' ∧ H'.get gLI2 = some (.row (ints i2) 2 true) ∧ PL gLI2 gLI HL1.next ∧ H'.get g7 = some (.row ([.int .i64 (c.obj * d.obj), .slice (some ⟨g25, 0, none⟩) 0 0, .slice (some ⟨g26, 0, none⟩) 0 0, .slice (some ⟨gLI2, 0, none⟩) i2.length i2.length, .slice (some ⟨g28, 0, none⟩) 0 0]) 27 true) ∧ gLI2 ≠ g7 ∧ ((y : Int) ≤ d.obj ∧ (i2.length : Int) = (x : Int) * d.obj + y) ∧ Bd 0 33000 i2) (fun (y, i2, gLI2) => (d.obj - y : Int).toNat) ((0, is, gLI)) ⟨rfl, rfl, rfl, rfl, rfl, rfl, rfl, trivial⟩ ⟨rfl, trivial⟩ ?_ ?_
   ·
    refine ⟨.refl _ _, by assumption, ⟨.inl rfl⟩, by assumption, by omega, ?_⟩
    exact ⟨⟨by omega, by omega⟩, hB⟩
   rintro ⟨y, i2, gLI2⟩ HL2 ⟨lst2, at_LI2, pl_LI2, at_Lg7, ap2_0, hI⟩ KL2 hKL2
   refine .forget (fr' := [(9, some (.int .i64 (y : Int))), (2, some _), (3, some _), (4, some _), (5, some _), (6, some _), (7, some _), (8, some _)]) ⟨rfl, rfl, rfl, rfl, rfl, rfl, rfl, rfl, trivial⟩ ?_
   have ge_LI2 : H.next ≤ gLI2 := pl_LI2.ge (by omega) (by omega)
   have nx_HL2 := lst2.nx
   replace hle := hle.st lst2 (fun k hk => ⟨by omega, by omega, trivial⟩)
   replace lst1 := lst1.st lst2 (fun k hk ho => by simp only [out, and_true] at ho ⊢ <;> exact ⟨by first | exact ho | exact ho.1 | exact ho.2 | exact ho.2.1 | exact ho.2.2 | exact ho.2.2.1 | exact ho.2.2.2 | exact pl_LI.ne (by first | exact ho | exact ho.1 | exact ho.2 | exact ho.2.1 | exact ho.2.2 | exact ho.2.2.1 | exact ho.2.2.2 | omega) (by omega) | omega, by first | exact ho | exact ho.1 | exact ho.2 | exact ho.2.1 | exact ho.2.2 | exact ho.2.2.1 | exact ho.2.2.2 | omega⟩)
   have ne_g2_gLI : NE g2 gLI := ⟨pl_LI.ne ne_g2_g27.ne (by omega)⟩
   replace at2 := lst2.same _ _ ⟨ne_g2_gLI.ne, ne_g2_g7.ne, trivial⟩ at2
   have ne_g3_gLI : NE g3 gLI := ⟨pl_LI.ne ne_g3_g27.ne (by omega)⟩
   replace at3 := lst2.same _ _ ⟨ne_g3_gLI.ne, ne_g3_g7.ne, trivial⟩ at3
   have lt_at_Lg7 := GHeap.ltg at_Lg7
   replace hin := base_hin.mono hle
   replace hin1 := base_hin1.mono hle
   clear hb2 c02
   have hb2 : Cat.At _ g2 0 c p := ⟨Mem.of_get at2, hin⟩
   obtain ⟨-, -, -, c32, -, -, -, i32, -⟩ := hb2.get
   clear hb3
   have hb3 : Cat.At _ g3 0 d q := ⟨Mem.of_get at3, hin1⟩
   obtain ⟨-, -, -, c33, -, -, -, i33, -⟩ := hb3.get
   obtain ⟨⟨hy, hl⟩, hB⟩ := hI
   refine .seq (fun K10 hK10 => .seq (fun K11 hK11 => .region (.mv rfl (.mv rfl (.q rfl (.cmp rfl rfl rfl) (.nil (hK11 _ _ ?_)))))))
   refine .cond rfl (fun h38 => ?_) (fun h38 => ?_)
   ·
    simp only [sps] at h38
    have r2 := b7 y (by omega)
    have mm := mul_bd (a := c.idn.getD x 0) (b := (d.src.length : Int)) (by omega) (by omega)
    refine .skip ?_
    refine hK10 _ _ (.seq (fun K12 hK12 => ?_))
    refine .block ?_
    refine .regionD mo_B (.q 0 (.q 1 (.q 2 (.q 3 (.q 4 (.q 5 (.q 6 (.q 7 (.q 8 (.q 9 (.q 10 (.q 11 (.q 12 (.q 13 (.q 14 (.c 15 1 (.c 16 0 (.q 17 (.c 18 0 (.done)))))))))))))))))))) (by kernel_rfl) ?_
    refine .q rfl (.fieldAddr fo_27_3_B rfl) ?_
    refine .q rfl (.load on_24_B rfl (by first | assumption | exact Mem.of_get at_Lg7 3 _ rfl)) ?_
    refine .q rfl (.fieldAddr fo_27_3_B rfl) ?_
    refine .q rfl (.load on_24_B rfl (by first | assumption | exact Mem.of_get at2 3 _ rfl)) ?_
    refine .mv rfl rfl ?_
    refine .q rfl (.idxN sl_24_A (by assumption) rfl rfl (by omega)) ?_
    refine .q rfl (.loadI on_2_A (by assumption) rfl (by omega)) ?_
    refine .mv rfl rfl ?_
    refine .q rfl (.mul rfl rfl rfl (by omega) (by omega)) ?_
    refine .q rfl (.fieldAddr fo_27_3_B rfl) ?_
    refine .q rfl (.load on_24_B rfl (by first | assumption | exact Mem.of_get at3 3 _ rfl)) ?_
    refine .mv rfl rfl ?_
    refine .q rfl (.idxN sl_24_A (by assumption) rfl rfl (by omega)) ?_
    refine .q rfl (.loadI on_2_A (by assumption) rfl (by omega)) ?_
    refine .q rfl (.add rfl rfl rfl (by omega) (by omega)) ?_
    refine .c1 rfl rfl rfl rfl (.litA rfl sl_24_A ze_2_L rfl rfl rfl rfl) ?_
    rintro _ H56 ⟨g56, rfl, le56, ge56, at56⟩
    have hbl := le56
    refine ⟨hbl, ?_⟩
    replace hle := hle.trans le56
    replace lst2 := lst2.le le56
    replace at2 := le56.2 _ _ at2
    replace at3 := le56.2 _ _ at3
    replace at_LI2 := le56.2 _ _ at_LI2
    replace at_Lg7 := le56.2 _ _ at_Lg7
    have lt_at56 := GHeap.ltg at56
    replace hin := base_hin.mono hle
    replace hin1 := base_hin1.mono hle
    clear hb2 c32 i32
    have hb2 : Cat.At _ g2 0 c p := ⟨Mem.of_get at2, hin⟩
    clear hb3 c33 i33
    have hb3 : Cat.At _ g3 0 d q := ⟨Mem.of_get at3, hin1⟩
    refine .c0 rfl rfl rfl rfl (.appendI rfl sl_24_A ze_2_L rfl by_2_L sl_24_A rfl rfl (by assumption) (by assumption) (by first | omega | (simp <;> omega)) (by omega) (by omega)) ?_
    rintro _ H57 ⟨g57, rfl, st57, ge57, at57⟩
    replace hle := hle.st st57 (fun k hk => ⟨by omega, trivial⟩)
    replace lst2 := lst2.sQ st57
    replace at2 := st57.same _ _ ⟨(pl_LI2.ne ne_g2_gLI.ne (by omega)), trivial⟩ at2
    replace at3 := st57.same _ _ ⟨(pl_LI2.ne ne_g3_gLI.ne (by omega)), trivial⟩ at3
    replace at_Lg7 := st57.same _ _ ⟨(Ne.symm ap2_0), trivial⟩ at_Lg7
    replace hin := base_hin.mono hle
    replace hin1 := base_hin1.mono hle
    clear hb2
    have hb2 : Cat.At _ g2 0 c p := ⟨Mem.of_get at2, hin⟩
    clear hb3
    have hb3 : Cat.At _ g3 0 d q := ⟨Mem.of_get at3, hin1⟩
    refine .q rfl (.fieldAddr fo_27_3_B rfl) ?_
    refine .r0 rfl rfl rfl (.storeR rfl sz_24_Ch rfl rfl rfl (by assumption) (by first | exact Nat.le_of_ble_eq_true rfl | (simp; done) | (simp <;> omega))) ?_
    rintro _ H9018 ⟨rfl, st9018, at9018⟩
    replace hle := hle.st st9018 (fun k hk => ⟨by omega, trivial⟩)
    replace lst2 := lst2.sA st9018
    replace at2 := st9018.s at2 ne_g2_g7.ne
    replace at3 := st9018.s at3 ne_g3_g7.ne
    replace at57 := st9018.s at57
    replace hin := base_hin.mono hle
    replace hin1 := base_hin1.mono hle
    clear hb2
    have hb2 : Cat.At _ g2 0 c p := ⟨Mem.of_get at2, hin⟩
    clear hb3
    have hb3 : Cat.At _ g3 0 d q := ⟨Mem.of_get at3, hin1⟩
    try simp only [Nat.zero_add, List.set_cons_succ, List.set_cons_zero] at at9018
    refine .done ?_
    refine hK12 _ _ (.region (.mv rfl ?_))
    refine .q rfl (.add rfl rfl rfl (by omega) (by omega)) ?_
    refine .mv rfl (.nil ?_)
    refine hKL2 ((y + 1, i2 ++ [c.idn.getD x 0 * (d.src.length : Int) + d.idn.getD y 0], g57)) _ _ ?_ ?_ ⟨rfl, rfl, rfl, rfl, rfl, rfl, rfl, rfl, trivial⟩
    ·
     refine ⟨lst2, by assumption, by exact ⟨.inr (by omega)⟩, by (rw [List.length_append]; assumption), by omega, ?_⟩
     exact ⟨⟨by omega, by simp; omega⟩, hB.snoc (by omega) (by omega)⟩
    (dsimp only; omega)
   try simp only [sps] at h38
   refine .exit ?_
   refine hK8 _ _ (.region (.mv rfl ?_))
   refine .q rfl (.add rfl rfl rfl (by omega) (by omega)) ?_
   refine .mv rfl (.nil ?_)
   refine hKL1 ((x + 1, i2, gLI2)) _ _ ?_ ?_ ⟨rfl, rfl, rfl, rfl, rfl, rfl, rfl, trivial⟩
   ·
    refine ⟨lst1, by assumption, by exact pl_LI2.trans pl_LI (by omega), by assumption, by assumption, ?_⟩
    have e1 := smz x d.obj
    exact ⟨⟨by omega, by omega⟩, hB⟩
   (dsimp only; omega)
  try simp only [sps] at h33
  refine .exit ?_
  refine hK4 _ _ (.seq (fun K13 hK13 => .seq (fun K14 hK14 => .region ?_)))
  obtain rfl : x = c.obj.toNat := by omega
  refine .mv rfl (.nil (hK14 _ _ ?_))
  refine .block ?_
  refine .loopR (σ := Nat × List Int × List Int × (Nat → Option Addr) × List (List Int) × Nat × Nat × Nat) [(2, some _), (3, some _), (4, some _), (5, some _), (6, some _), (7, some _)] (fun (a, ss, ts, rr, cs, gLF, gLT, gLC) => [(10, some (.int .i64 (a : Int)))]) (fun (a, ss, ts, rr, cs, gLF, gLT, gLC) H' => St [g25, g26, g28, g7] HL1 H' ∧ H'.get gLF = some (.row (ints ss) 2 true) ∧ PL gLF g25 HL1.next ∧ H'.get gLT = some (.row (ints ts) 2 true) ∧ PL gLT g26 HL1.next ∧ H'.get gLC = some (.row ((slsL rr cs)) 24 true) ∧ PL gLC g28 HL1.next ∧ H'.get g7 = some (.row ([.int .i64 (c.obj * d.obj), .slice (some ⟨gLF, 0, none⟩) ss.length ss.length, .slice (some ⟨gLT, 0, none⟩) ss.length ss.length, .slice (some ⟨gLI, 0, none⟩) is.length is.length, .slice (some ⟨gLC, 0, none⟩) ss.length ss.length]) 27 true) ∧ gLF ≠ gLT ∧ gLF ≠ gLC ∧ gLF ≠ g7 ∧ gLT ≠ gLC ∧ gLT ≠ g7 ∧ gLC ≠ g7 ∧ (a ≤ c.src.length ∧ ss.length = a * d.src.length ∧ ts.length = ss.length ∧ cs.length = ss.length) ∧ Bd 0 33000 ss ∧ Bd 0 33000 ts ∧ Tb (-1) 33000 (c.src.length * d.src.length) cs ∧ OwnL H.next H' 2 rr cs ∧ (∀ j, j < cs.length → rr j ≠ some ⟨gLF, 0, none⟩) ∧ (∀ j, j < cs.length → rr j ≠ some ⟨gLT, 0, none⟩) ∧ ∀ j, j < cs.length → rr j ≠ some ⟨gLI, 0, none⟩) (fun (a, ss, ts, rr, cs, gLF, gLT, gLC) => c.src.length - a) ((0, [], [], fun _ => none, [], g25, g26, g28)) ⟨rfl, rfl, rfl, rfl, rfl, rfl, trivial⟩ ⟨rfl, trivial⟩ ?_ ?_
  ·
   refine ⟨.refl _ _, by assumption, ⟨.inl rfl⟩, by assumption, ⟨.inl rfl⟩, by assumption, ⟨.inl rfl⟩, by assumption, by omega, by omega, by omega, by omega, by omega, by omega, ?_⟩
   exact ⟨⟨by omega, by simp, rfl, rfl⟩, .nil _ _, .nil _ _, .nil _ _ _, .nil _ _ _ _, fun _ h => by simp at h, fun _ h => by simp at h, fun _ h => by simp at h⟩
  rintro ⟨a, ss, ts, rr, cs, gLF, gLT, gLC⟩ HL3 ⟨lst3, at_LF, pl_LF, at_LT, pl_LT, at_LC, pl_LC, at_Lg7, ap3_0, ap3_1, ap3_2, ap3_3, ap3_4, ap3_5, hI⟩ KL3 hKL3
  refine .forget (fr' := [(10, some (.int .i64 (a : Int))), (2, some _), (3, some _), (4, some _), (5, some _), (6, some _), (7, some _)]) ⟨rfl, rfl, rfl, rfl, rfl, rfl, rfl, trivial⟩ ?_
  have ge_LF : H.next ≤ gLF := pl_LF.ge (by omega) (by omega)
  have ge_LT : H.next ≤ gLT := pl_LT.ge (by omega) (by omega)
  have ge_LC : H.next ≤ gLC := pl_LC.ge (by omega) (by omega)
  have nx_HL3 := lst3.nx
  replace hle := hle.st lst3 (fun k hk => ⟨by omega, by omega, by omega, by omega, trivial⟩)
  have ne_g2_g25 : NE g2 g25 := .a
  have ne_g2_g26 : NE g2 g26 := .a
  have ne_g2_g28 : NE g2 g28 := .a
  replace at2 := lst3.same _ _ ⟨ne_g2_g25.ne, ne_g2_g26.ne, ne_g2_g28.ne, ne_g2_g7.ne, trivial⟩ at2
  have ne_g3_g25 : NE g3 g25 := .a
  have ne_g3_g26 : NE g3 g26 := .a
  have ne_g3_g28 : NE g3 g28 := .a
  replace at3 := lst3.same _ _ ⟨ne_g3_g25.ne, ne_g3_g26.ne, ne_g3_g28.ne, ne_g3_g7.ne, trivial⟩ at3
  have ne_g4_g25 : NE g4 g25 := .a
  have ne_g4_g26 : NE g4 g26 := .a
  have ne_g4_g28 : NE g4 g28 := .a
  replace at4 := lst3.same _ _ ⟨ne_g4_g25.ne, ne_g4_g26.ne, ne_g4_g28.ne, ne_g4_g7.ne, trivial⟩ at4
  replace at_LI := lst3.same _ _ ⟨(Ne.symm (pl_LI.ne ne_g25_g27.ne (by omega))), (Ne.symm (pl_LI.ne ne_g26_g27.ne (by omega))), (Ne.symm (pl_LI.ne ne_g28_g27.ne (by omega))), ap1_0, trivial⟩ at_LI
  have lt_at_LF := GHeap.ltg at_LF
  replace hin := base_hin.mono hle
  replace hin1 := base_hin1.mono hle
  have hb2 : Cat.At _ g2 0 c p := ⟨Mem.of_get at2, hin⟩
  obtain ⟨-, c12, -, -, -, -, -, -, -⟩ := hb2.get
  have hb3 : Cat.At _ g3 0 d q := ⟨Mem.of_get at3, hin1⟩
  obtain ⟨⟨ha, hs8, hts, hcl⟩, hS, hT, hC, hR, hF1, hT1, hI1⟩ := hI
  have ml := mulN_bd (a := a) (b := d.src.length) (by omega) (by omega)
  refine .seq (fun K15 hK15 => .seq (fun K16 hK16 => .region (.mv rfl (.q rfl (.fieldAddr fo_27_1_B rfl) ?_))))
  refine .q rfl (.load on_24_B rfl (by first | assumption | exact Mem.of_get at2 1 _ rfl)) ?_
  refine .q rfl (.len sl_24_A rfl) (.q rfl (.cmp rfl rfl rfl) (.nil (hK16 _ _ ?_)))
  refine .cond rfl (fun h63 => ?_) (fun h63 => ?_)
  ·
   simp only [sps] at h63
   have q1 := a4 a (by omega)
   have q2 := a5 a (by omega)
   refine .skip ?_
   refine hK15 _ _ (.seq (fun K17 hK17 => ?_))
   refine .block ?_
   refine .seq (fun K18 hK18 => .region (.mv rfl (.nil (hK18 _ _ ?_))))
   refine .block ?_
   refine .loopR (σ := Nat × List Int × List Int × (Nat → Option Addr) × List (List Int) × Nat × Nat × Nat) [(2, some _), (3, some _), (4, some _), (5, some _), (6, some _), (7, some _), (10, some _)] (fun (b, s2, t2, r2, c2, gLF2, gLT2, gLC2) => [(11, some (.int .i64 (b : Int)))]) (fun (b, s2, t2, r2, c2, gLF2, gLT2, gLC2) H' => St [gLF, gLT, gLC, g7] HL3 H' ∧ H'.get gLF2 = some (.row (ints s2) 2 true) ∧ PL gLF2 gLF HL3.next ∧ H'.get gLT2 = some (.row (ints t2) 2 true) ∧ PL gLT2 gLT HL3.next ∧ H'.get gLC2 = some (.row ((slsL r2 c2)) 24 true) ∧ PL gLC2 gLC HL3.next ∧ H'.get g7 = some (.row ([.int .i64 (c.obj * d.obj), .slice (some ⟨gLF2, 0, none⟩) s2.length s2.length, .slice (some ⟨gLT2, 0, none⟩) s2.length s2.length, .slice (some ⟨gLI, 0, none⟩) is.length is.length, .slice (some ⟨gLC2, 0, none⟩) s2.length s2.length]) 27 true) ∧ gLF2 ≠ gLT2 ∧ gLF2 ≠ gLC2 ∧ gLF2 ≠ g7 ∧ gLT2 ≠ gLC2 ∧ gLT2 ≠ g7 ∧ gLC2 ≠ g7 ∧ (b ≤ d.src.length ∧ s2.length = a * d.src.length + b ∧ t2.length = s2.length ∧ c2.length = s2.length) ∧ Bd 0 33000 s2 ∧ Bd 0 33000 t2 ∧ Tb (-1) 33000 (c.src.length * d.src.length) c2 ∧ OwnL H.next H' 2 r2 c2 ∧ (∀ j, j < c2.length → r2 j ≠ some ⟨gLF2, 0, none⟩) ∧ (∀ j, j < c2.length → r2 j ≠ some ⟨gLT2, 0, none⟩) ∧ ∀ j, j < c2.length → r2 j ≠ some ⟨gLI, 0, none⟩) (fun (b, s2, t2, r2, c2, gLF2, gLT2, gLC2) => d.src.length - b) ((0, ss, ts, rr, cs, gLF, gLT, gLC)) ⟨rfl, rfl, rfl, rfl, rfl, rfl, rfl, trivial⟩ ⟨rfl, trivial⟩ ?_ ?_
   ·
    refine ⟨.refl _ _, by assumption, ⟨.inl rfl⟩, by assumption, ⟨.inl rfl⟩, by assumption, ⟨.inl rfl⟩, by assumption, by omega, by omega, by omega, by omega, by omega, by omega, ?_⟩
    exact ⟨⟨by omega, by omega, by omega, by omega⟩, hS, hT, hC, hR, hF1, hT1, hI1⟩
   rintro ⟨b, s2, t2, r2, c2, gLF2, gLT2, gLC2⟩ HL4 ⟨lst4, at_LF2, pl_LF2, at_LT2, pl_LT2, at_LC2, pl_LC2, at_Lg7, ap4_0, ap4_1, ap4_2, ap4_3, ap4_4, ap4_5, hI⟩ KL4 hKL4
   refine .forget (fr' := [(11, some (.int .i64 (b : Int))), (2, some _), (3, some _), (4, some _), (5, some _), (6, some _), (7, some _), (10, some _)]) ⟨rfl, rfl, rfl, rfl, rfl, rfl, rfl, rfl, trivial⟩ ?_
   have ge_LF2 : H.next ≤ gLF2 := pl_LF2.ge (by omega) (by omega)
   have ge_LT2 : H.next ≤ gLT2 := pl_LT2.ge (by omega) (by omega)
   have ge_LC2 : H.next ≤ gLC2 := pl_LC2.ge (by omega) (by omega)
   have nx_HL4 := lst4.nx
   replace hle := hle.st lst4 (fun k hk => ⟨by omega, by omega, by omega, by omega, trivial⟩)
   replace lst3 := lst3.st lst4 (fun k hk ho => by simp only [out, and_true] at ho ⊢ <;> exact ⟨by first | exact ho | exact ho.1 | exact ho.2 | exact ho.2.1 | exact ho.2.2 | exact ho.2.2.1 | exact ho.2.2.2 | exact pl_LF.ne (by first | exact ho | exact ho.1 | exact ho.2 | exact ho.2.1 | exact ho.2.2 | exact ho.2.2.1 | exact ho.2.2.2 | omega) (by omega) | omega, by first | exact ho | exact ho.1 | exact ho.2 | exact ho.2.1 | exact ho.2.2 | exact ho.2.2.1 | exact ho.2.2.2 | exact pl_LT.ne (by first | exact ho | exact ho.1 | exact ho.2 | exact ho.2.1 | exact ho.2.2 | exact ho.2.2.1 | exact ho.2.2.2 | omega) (by omega) | omega, by first | exact ho | exact ho.1 | exact ho.2 | exact ho.2.1 | exact ho.2.2 | exact ho.2.2.1 | exact ho.2.2.2 | exact pl_LC.ne (by first | exact ho | exact ho.1 | exact ho.2 | exact ho.2.1 | exact ho.2.2 | exact ho.2.2.1 | exact ho.2.2.2 | omega) (by omega) | omega, by first | exact ho | exact ho.1 | exact ho.2 | exact ho.2.1 | exact ho.2.2 | exact ho.2.2.1 | exact ho.2.2.2 | omega⟩)
   have ne_g2_gLF : NE g2 gLF := ⟨pl_LF.ne ne_g2_g25.ne (by omega)⟩
   have ne_g2_gLT : NE g2 gLT := ⟨pl_LT.ne ne_g2_g26.ne (by omega)⟩
   have ne_g2_gLC : NE g2 gLC := ⟨pl_LC.ne ne_g2_g28.ne (by omega)⟩
   replace at2 := lst4.same _ _ ⟨ne_g2_gLF.ne, ne_g2_gLT.ne, ne_g2_gLC.ne, ne_g2_g7.ne, trivial⟩ at2
   have ne_g3_gLF : NE g3 gLF := ⟨pl_LF.ne ne_g3_g25.ne (by omega)⟩
   have ne_g3_gLT : NE g3 gLT := ⟨pl_LT.ne ne_g3_g26.ne (by omega)⟩
   have ne_g3_gLC : NE g3 gLC := ⟨pl_LC.ne ne_g3_g28.ne (by omega)⟩
   replace at3 := lst4.same _ _ ⟨ne_g3_gLF.ne, ne_g3_gLT.ne, ne_g3_gLC.ne, ne_g3_g7.ne, trivial⟩ at3
   have lt_at_LT2 := GHeap.ltg at_LT2
   have lt_at_LC2 := GHeap.ltg at_LC2
   have lt_at_Lg7 := GHeap.ltg at_Lg7
   replace hin := base_hin.mono hle
   replace hin1 := base_hin1.mono hle
   clear hb2 c12
   have hb2 : Cat.At _ g2 0 c p := ⟨Mem.of_get at2, hin⟩
   obtain ⟨-, c12, -, -, -, i12, -, -, -⟩ := hb2.get
   clear hb3
   have hb3 : Cat.At _ g3 0 d q := ⟨Mem.of_get at3, hin1⟩
   obtain ⟨-, c13, -, -, -, i13, -, -, -⟩ := hb3.get
   have rk := St.refl [gLF2, gLT2, gLC2, g7] HL4
   obtain ⟨⟨hb, hs9, hts, hcl⟩, hS, hT, hC, hR, hF1, hT1, hI1⟩ := hI
   have hatC := at_LC2
   have hat7 := at_Lg7
   have hfl : (slsL r2 c2).length = c2.length := length_slsL _ _
   refine .seq (fun K19 hK19 => .seq (fun K20 hK20 => .region (.mv rfl (.q rfl (.fieldAddr fo_27_1_B rfl) ?_))))
   refine .q rfl (.load on_24_B rfl (by first | assumption | exact Mem.of_get at3 1 _ rfl)) ?_
   refine .q rfl (.len sl_24_A rfl) (.q rfl (.cmp rfl rfl rfl) (.nil (hK20 _ _ ?_)))
   refine .cond rfl (fun h70 => ?_) (fun h70 => ?_)
   ·
    simp only [sps] at h70
    have p1 := b4 b (by omega)
    have p2 := b5 b (by omega)
    have mm1 := mul_bd (a := c.src.getD a 0) (by omega) b1
    have mm2 := mul_bd (a := c.tgt.getD a 0) (by omega) b1
    refine .skip ?_
    refine hK19 _ _ (.seq (fun K21 hK21 => ?_))
    refine .block ?_
    refine .seq (fun K22 hK22 => ?_)
    refine .regionD mo_B (.q 0 (.q 1 (.q 2 (.q 3 (.q 4 (.q 5 (.q 6 (.q 7 (.q 8 (.q 9 (.q 10 (.q 11 (.q 12 (.q 13 (.q 14 (.c 15 1 (.c 16 0 (.q 17 (.c 18 0 (.done)))))))))))))))))))) (by kernel_rfl) ?_
    refine .q rfl (.fieldAddr fo_27_1_B rfl) ?_
    refine .q rfl (.load on_24_B rfl (by first | assumption | exact Mem.of_get at_Lg7 1 _ rfl)) ?_
    refine .q rfl (.fieldAddr fo_27_1_B rfl) ?_
    refine .q rfl (.load on_24_B rfl (by first | assumption | exact Mem.of_get at2 1 _ rfl)) ?_
    refine .mv rfl rfl ?_
    refine .q rfl (.idxN sl_24_A (by assumption) rfl rfl (by omega)) ?_
    refine .q rfl (.loadI on_2_A (by assumption) rfl (by omega)) ?_
    refine .mv rfl rfl ?_
    refine .q rfl (.mul rfl rfl rfl (by omega) (by omega)) ?_
    refine .q rfl (.fieldAddr fo_27_1_B rfl) ?_
    refine .q rfl (.load on_24_B rfl (by first | assumption | exact Mem.of_get at3 1 _ rfl)) ?_
    refine .mv rfl rfl ?_
    refine .q rfl (.idxN sl_24_A (by assumption) rfl rfl (by omega)) ?_
    refine .q rfl (.loadI on_2_A (by assumption) rfl (by omega)) ?_
    refine .q rfl (.add rfl rfl rfl (by omega) (by omega)) ?_
    refine .c1 rfl rfl rfl rfl (.litA rfl sl_24_A ze_2_L rfl rfl rfl rfl) ?_
    rintro _ H88 ⟨g88, rfl, le88, ge88, at88⟩
    have hbl := le88
    refine ⟨hbl, ?_⟩
    replace hle := hle.trans le88
    replace lst4 := lst4.le le88
    replace rk := rk.le le88
    replace at2 := le88.2 _ _ at2
    replace at3 := le88.2 _ _ at3
    replace at_LF2 := le88.2 _ _ at_LF2
    replace at_LT2 := le88.2 _ _ at_LT2
    replace at_LC2 := le88.2 _ _ at_LC2
    replace at_Lg7 := le88.2 _ _ at_Lg7
    have lt_at88 := GHeap.ltg at88
    replace hin := base_hin.mono hle
    replace hin1 := base_hin1.mono hle
    clear hb2 c12 i12
    have hb2 : Cat.At _ g2 0 c p := ⟨Mem.of_get at2, hin⟩
    clear hb3 c13 i13
    have hb3 : Cat.At _ g3 0 d q := ⟨Mem.of_get at3, hin1⟩
    refine .c0 rfl rfl rfl rfl (.appendI rfl sl_24_A ze_2_L rfl by_2_L sl_24_A rfl rfl (by assumption) (by assumption) (by first | omega | (simp <;> omega)) (by omega) (by omega)) ?_
    rintro _ H89 ⟨g89, rfl, st89, ge89, at89⟩
    replace hle := hle.st st89 (fun k hk => ⟨by omega, trivial⟩)
    replace lst4 := lst4.sQ st89
    replace rk := rk.sQ st89
    replace at2 := st89.same _ _ ⟨(pl_LF2.ne ne_g2_gLF.ne (by omega)), trivial⟩ at2
    replace at3 := st89.same _ _ ⟨(pl_LF2.ne ne_g3_gLF.ne (by omega)), trivial⟩ at3
    replace at_LT2 := st89.same _ _ ⟨(Ne.symm ap4_0), trivial⟩ at_LT2
    replace at_LC2 := st89.same _ _ ⟨(Ne.symm ap4_1), trivial⟩ at_LC2
    replace at_Lg7 := st89.same _ _ ⟨(Ne.symm ap4_2), trivial⟩ at_Lg7
    have lt_at89 := GHeap.ltg at89
    replace hin := base_hin.mono hle
    replace hin1 := base_hin1.mono hle
    clear hb2
    have hb2 : Cat.At _ g2 0 c p := ⟨Mem.of_get at2, hin⟩
    clear hb3
    have hb3 : Cat.At _ g3 0 d q := ⟨Mem.of_get at3, hin1⟩
    refine .q rfl (.fieldAddr fo_27_1_B rfl) ?_
    refine .r0 rfl rfl rfl (.storeR rfl sz_24_Ch rfl rfl rfl (by assumption) (by first | exact Nat.le_of_ble_eq_true rfl | (simp; done) | (simp <;> omega))) ?_
    rintro _ H16018 ⟨rfl, st16018, at16018⟩
    have nx_H16018 := st16018.nx
    replace hle := hle.st st16018 (fun k hk => ⟨by omega, trivial⟩)
    replace lst4 := lst4.sA st16018
    replace rk := rk.sA st16018
    replace at2 := st16018.s at2 ne_g2_g7.ne
    replace at3 := st16018.s at3 ne_g3_g7.ne
    replace at_LT2 := st16018.same _ _ ⟨ap4_4, trivial⟩ at_LT2
    replace at_LC2 := st16018.same _ _ ⟨ap4_5, trivial⟩ at_LC2
    have ne_g89_g7 : NE g89 g7 := .a
    replace at89 := st16018.s at89 ne_g89_g7.ne
    have lt_at16018 := GHeap.ltg at16018
    replace hin := base_hin.mono hle
    replace hin1 := base_hin1.mono hle
    clear hb2
    have hb2 : Cat.At _ g2 0 c p := ⟨Mem.of_get at2, hin⟩
    obtain ⟨-, -, c22, -, -, -, i22, -, -⟩ := hb2.get
    clear hb3
    have hb3 : Cat.At _ g3 0 d q := ⟨Mem.of_get at3, hin1⟩
    obtain ⟨-, -, c23, -, -, -, i23, -, -⟩ := hb3.get
    try simp only [Nat.zero_add, List.set_cons_succ, List.set_cons_zero] at at16018
    refine .done ?_
    refine hK22 _ _ (.seq (fun K23 hK23 => ?_))
    refine .regionD mo_B (.q 0 (.q 1 (.q 2 (.q 3 (.q 4 (.q 5 (.q 6 (.q 7 (.q 8 (.q 9 (.q 10 (.q 11 (.q 12 (.q 13 (.q 14 (.c 15 1 (.c 16 0 (.q 17 (.c 18 0 (.done)))))))))))))))))))) (by kernel_rfl) ?_
    refine .q rfl (.fieldAddr fo_27_2_B rfl) ?_
    refine .q rfl (.load on_24_B rfl (by first | assumption | exact Mem.of_get at16018 2 _ rfl)) ?_
    refine .q rfl (.fieldAddr fo_27_2_B rfl) ?_
    refine .q rfl (.load on_24_B rfl (by first | assumption | exact Mem.of_get at2 2 _ rfl)) ?_
    refine .mv rfl rfl ?_
    refine .q rfl (.idxN sl_24_A (by assumption) rfl rfl (by omega)) ?_
    refine .q rfl (.loadI on_2_A (by assumption) rfl (by omega)) ?_
    refine .mv rfl rfl ?_
    refine .q rfl (.mul rfl rfl rfl (by omega) (by omega)) ?_
    refine .q rfl (.fieldAddr fo_27_2_B rfl) ?_
    refine .q rfl (.load on_24_B rfl (by first | assumption | exact Mem.of_get at3 2 _ rfl)) ?_
    refine .mv rfl rfl ?_
    refine .q rfl (.idxN sl_24_A (by assumption) rfl rfl (by omega)) ?_
    refine .q rfl (.loadI on_2_A (by assumption) rfl (by omega)) ?_
    refine .q rfl (.add rfl rfl rfl (by omega) (by omega)) ?_
    refine .c1 rfl rfl rfl rfl (.litA rfl sl_24_A ze_2_L rfl rfl rfl rfl) ?_
    rintro _ H106 ⟨g106, rfl, le106, ge106, at106⟩
    have hbl := le106
    refine ⟨hbl, ?_⟩
    replace hle := hle.trans le106
    replace lst4 := lst4.le le106
    replace rk := rk.le le106
    replace at2 := le106.2 _ _ at2
    replace at3 := le106.2 _ _ at3
    replace at_LT2 := le106.2 _ _ at_LT2
    replace at_LC2 := le106.2 _ _ at_LC2
    replace at89 := le106.2 _ _ at89
    replace at16018 := le106.2 _ _ at16018
    have lt_at106 := GHeap.ltg at106
    replace hin := base_hin.mono hle
    replace hin1 := base_hin1.mono hle
    clear hb2 c22 i22
    have hb2 : Cat.At _ g2 0 c p := ⟨Mem.of_get at2, hin⟩
    clear hb3 c23 i23
    have hb3 : Cat.At _ g3 0 d q := ⟨Mem.of_get at3, hin1⟩
    refine .c0 rfl rfl rfl rfl (.appendI rfl sl_24_A ze_2_L rfl by_2_L sl_24_A rfl rfl (by assumption) (by assumption) (by first | omega | (simp <;> omega)) (by omega) (by omega)) ?_
    rintro _ H107 ⟨g107, rfl, st107, ge107, at107⟩
    replace hle := hle.st st107 (fun k hk => ⟨by omega, trivial⟩)
    replace lst4 := lst4.sQ st107
    replace rk := rk.sQ st107
    replace at2 := st107.same _ _ ⟨(pl_LT2.ne ne_g2_gLT.ne (by omega)), trivial⟩ at2
    replace at3 := st107.same _ _ ⟨(pl_LT2.ne ne_g3_gLT.ne (by omega)), trivial⟩ at3
    replace at_LC2 := st107.same _ _ ⟨(Ne.symm ap4_3), trivial⟩ at_LC2
    replace at89 := st107.s at89
    replace at16018 := st107.same _ _ ⟨(Ne.symm ap4_4), trivial⟩ at16018
    have lt_at107 := GHeap.ltg at107
    replace hin := base_hin.mono hle
    replace hin1 := base_hin1.mono hle
    clear hb2
    have hb2 : Cat.At _ g2 0 c p := ⟨Mem.of_get at2, hin⟩
    clear hb3
    have hb3 : Cat.At _ g3 0 d q := ⟨Mem.of_get at3, hin1⟩
    refine .q rfl (.fieldAddr fo_27_2_B rfl) ?_
    refine .r0 rfl rfl rfl (.storeR rfl sz_24_Ch rfl rfl rfl (by assumption) (by first | exact Nat.le_of_ble_eq_true rfl | (simp; done) | (simp <;> omega))) ?_
    rintro _ H17018 ⟨rfl, st17018, at17018⟩
    have nx_H17018 := st17018.nx
    replace hle := hle.st st17018 (fun k hk => ⟨by omega, trivial⟩)
    replace lst4 := lst4.sA st17018
    replace rk := rk.sA st17018
    replace at2 := st17018.s at2 ne_g2_g7.ne
    replace at3 := st17018.s at3 ne_g3_g7.ne
    replace at_LC2 := st17018.same _ _ ⟨ap4_5, trivial⟩ at_LC2
    replace at89 := st17018.s at89 ne_g89_g7.ne
    have ne_g107_g7 : NE g107 g7 := .a
    replace at107 := st17018.s at107 ne_g107_g7.ne
    have lt_at17018 := GHeap.ltg at17018
    replace hin := base_hin.mono hle
    replace hin1 := base_hin1.mono hle
    clear hb2
    have hb2 : Cat.At _ g2 0 c p := ⟨Mem.of_get at2, hin⟩
    clear hb3
    have hb3 : Cat.At _ g3 0 d q := ⟨Mem.of_get at3, hin1⟩
    try simp only [Nat.zero_add, List.set_cons_succ, List.set_cons_zero] at at17018
    refine .done ?_
    refine hK23 _ _ (.seq (fun K24 hK24 => .region ?_))
    refine .R rfl (.litA rfl sl_24_A ze_2_L rfl rfl rfl rfl) ?_
    rintro _ H109 ⟨g109, rfl, le109, ge109, at109⟩
    replace hle := hle.trans le109
    replace lst4 := lst4.le le109
    replace rk := rk.le le109
    replace at2 := le109.2 _ _ at2
    replace at3 := le109.2 _ _ at3
    replace at_LC2 := le109.2 _ _ at_LC2
    replace at89 := le109.2 _ _ at89
    replace at107 := le109.2 _ _ at107
    replace at17018 := le109.2 _ _ at17018
    have lt_at109 := GHeap.ltg at109
    replace hin := base_hin.mono hle
    replace hin1 := base_hin1.mono hle
    clear hb2
    have hb2 : Cat.At _ g2 0 c p := ⟨Mem.of_get at2, hin⟩
    clear hb3
    have hb3 : Cat.At _ g3 0 d q := ⟨Mem.of_get at3, hin1⟩
    replace at109 : GHeap.get H109 g109 = some (.row (ints []) 2 true) := at109
    refine .mv rfl (.nil (hK24 _ _ (.seq (fun K25 hK25 => .seq (fun K26 hK26 => .region (.mv rfl (.nil (hK26 _ _ ?_))))))))
    refine .block ?_
    refine .loopR (σ := Nat × List Int × Nat × Nat) [(2, some _), (3, some _), (4, some _), (5, some _), (6, some _), (7, some _), (10, some _), (11, some _)] (fun (f, row, gL12, nL12) => [(13, some (.int .i64 (f : Int))), (12, some (.slice (some ⟨gL12, 0, none⟩) nL12 nL12))]) (fun (f, row, gL12, nL12) H' => St [g109] H109 H' ∧ H'.get gL12 = some (.row (ints row) 2 true) ∧ PL gL12 g109 H109.next ∧ nL12 = row.length ∧ (f ≤ c.src.length ∧ row.length = f * d.src.length) ∧ Bd (-1) 33000 row) (fun (f, row, gL12, nL12) => c.src.length - f) ((0, [], _, _)) ⟨rfl, rfl, rfl, rfl, rfl, rfl, rfl, rfl, trivial⟩ ⟨rfl, rfl, trivial⟩ ?_ ?_
    ·
     refine ⟨.refl _ _, by assumption, ⟨.inl rfl⟩, by rfl, ?_⟩
     exact ⟨⟨by omega, by simp⟩, .nil _ _⟩
    rintro ⟨f, row, gL12, nL12⟩ HL5 ⟨lst5, at_L12, pl_L12, ln_L12, hI⟩ KL5 hKL5
    refine .forget (fr' := [(13, some (.int .i64 (f : Int))), (12, some (.slice (some ⟨gL12, 0, none⟩) nL12 nL12)), (2, some _), (3, some _), (4, some _), (5, some _), (6, some _), (7, some _), (10, some _), (11, some _)]) ⟨rfl, rfl, rfl, rfl, rfl, rfl, rfl, rfl, rfl, rfl, trivial⟩ ?_
    have ge_L12 : H.next ≤ gL12 := pl_L12.ge (by omega) (by omega)
    have nx_HL5 := lst5.nx
    replace hle := hle.st lst5 (fun k hk => ⟨by omega, trivial⟩)
    replace lst4 := lst4.sA lst5
    replace rk := rk.sA lst5
    have ne_g2_g109 : NE g2 g109 := .a
    replace at2 := lst5.s at2 ne_g2_g109.ne
    have ne_g3_g109 : NE g3 g109 := .a
    replace at3 := lst5.s at3 ne_g3_g109.ne
    have ne_gLC2_g109 : NE gLC2 g109 := .a
    replace at_LC2 := lst5.s at_LC2 ne_gLC2_g109.ne
    replace at89 := lst5.s at89
    replace at107 := lst5.s at107
    have ne_g7_g109 : NE g7 g109 := .a
    replace at17018 := lst5.s at17018 ne_g7_g109.ne
    have lt_at_L12 := GHeap.ltg at_L12
    replace hin := base_hin.mono hle
    replace hin1 := base_hin1.mono hle
    clear hb2
    have hb2 : Cat.At _ g2 0 c p := ⟨Mem.of_get at2, hin⟩
    obtain ⟨-, c12, -, -, -, -, -, -, -⟩ := hb2.get
    clear hb3
    have hb3 : Cat.At _ g3 0 d q := ⟨Mem.of_get at3, hin1⟩
    obtain ⟨⟨hf, hrl⟩, hW⟩ := hI
    have ml2 := mulN_bd (a := f) (b := d.src.length) (by omega) (by omega)
    refine .seq (fun K27 hK27 => .seq (fun K28 hK28 => .region (.mv rfl (.q rfl (.fieldAddr fo_27_1_B rfl) ?_))))
    refine .q rfl (.load on_24_B rfl (by first | assumption | exact Mem.of_get at2 1 _ rfl)) ?_
    refine .q rfl (.len sl_24_A rfl) (.q rfl (.cmp rfl rfl rfl) (.nil (hK28 _ _ ?_)))
    refine .cond rfl (fun h114 => ?_) (fun h114 => ?_)
    ·
     simp only [sps] at h114
     refine .skip ?_
     refine hK27 _ _ (.seq (fun K29 hK29 => ?_))
     refine .block ?_
     refine .seq (fun K30 hK30 => .region (.mv rfl (.nil (hK30 _ _ ?_))))
     refine .block ?_
     refine .loopR (σ := Nat × List Int × Nat × Nat) [(2, some _), (3, some _), (4, some _), (5, some _), (6, some _), (7, some _), (10, some _), (11, some _), (13, some _)] (fun (g, w2, gL12v6, nL12v6) => [(14, some (.int .i64 (g : Int))), (12, some (.slice (some ⟨gL12v6, 0, none⟩) nL12v6 nL12v6))]) (fun (g, w2, gL12v6, nL12v6) H' => St [gL12] HL5 H' ∧ H'.get gL12v6 = some (.row (ints w2) 2 true) ∧ PL gL12v6 gL12 HL5.next ∧ nL12v6 = w2.length ∧ (g ≤ d.src.length ∧ w2.length = f * d.src.length + g) ∧ Bd (-1) 33000 w2) (fun (g, w2, gL12v6, nL12v6) => d.src.length - g) ((0, row, _, _)) ⟨rfl, rfl, rfl, rfl, rfl, rfl, rfl, rfl, rfl, trivial⟩ ⟨rfl, rfl, trivial⟩ ?_ ?_
     ·
      refine ⟨.refl _ _, by assumption, ⟨.inl rfl⟩, by assumption, ?_⟩
      exact ⟨⟨by omega, by omega⟩, hW⟩
     rintro ⟨g, w2, gL12v6, nL12v6⟩ HL6 ⟨lst6, at_L12v6, pl_L12v6, ln_L12v6, hI⟩ KL6 hKL6
     refine .forget (fr' := [(14, some (.int .i64 (g : Int))), (12, some (.slice (some ⟨gL12v6, 0, none⟩) nL12v6 nL12v6)), (2, some _), (3, some _), (4, some _), (5, some _), (6, some _), (7, some _), (10, some _), (11, some _), (13, some _)]) ⟨rfl, rfl, rfl, rfl, rfl, rfl, rfl, rfl, rfl, rfl, rfl, trivial⟩ ?_
     have ge_L12v6 : H.next ≤ gL12v6 := pl_L12v6.ge (by omega) (by omega)
     have nx_HL6 := lst6.nx
     replace hle := hle.st lst6 (fun k hk => ⟨by omega, trivial⟩)
     replace lst5 := lst5.sP lst6
     have ne_g2_gL12 : NE g2 gL12 := ⟨pl_L12.ne ne_g2_g109.ne (by omega)⟩
     replace at2 := lst6.s at2 ne_g2_gL12.ne
     have ne_g3_gL12 : NE g3 gL12 := ⟨pl_L12.ne ne_g3_g109.ne (by omega)⟩
     replace at3 := lst6.s at3 ne_g3_gL12.ne
     replace hin := base_hin.mono hle
     replace hin1 := base_hin1.mono hle
     clear hb2 c12
     have hb2 : Cat.At _ g2 0 c p := ⟨Mem.of_get at2, hin⟩
     obtain ⟨-, -, -, -, c42, -, -, -, i42⟩ := hb2.get
     clear hb3
     have hb3 : Cat.At _ g3 0 d q := ⟨Mem.of_get at3, hin1⟩
     obtain ⟨-, c13, -, -, c43, -, -, -, i43⟩ := hb3.get
     obtain ⟨⟨hg, hrl⟩, hW⟩ := hI
     refine .seq (fun K31 hK31 => .seq (fun K32 hK32 => .region (.mv rfl (.q rfl (.fieldAddr fo_27_1_B rfl) ?_))))
     refine .q rfl (.load on_24_B rfl (by first | assumption | exact Mem.of_get at3 1 _ rfl)) ?_
     refine .q rfl (.len sl_24_A rfl) (.q rfl (.cmp rfl rfl rfl) (.nil (hK32 _ _ ?_)))
     refine .cond rfl (fun h121 => ?_) (fun h121 => ?_)
     ·
      simp only [sps] at h121
      have v1 := a10 a (by omega) f (by omega)
      have v2 := b10 b (by omega) g (by omega)
      have w1 := a9 a (by omega)
      have w3 := b9 b (by omega)
      have u1 := i42.2 a (by omega)
      have u2 := i43.2 b (by omega)
      refine .skip ?_
      refine hK31 _ _ (.seq (fun K33 hK33 => ?_))
      refine .block ?_
      refine .seq (fun K34 hK34 => .region (.mv rfl (.nil (hK34 _ _ (.seq (fun K35 hK35 => .seq (fun K36 hK36 => .region (.q rfl (.fieldAddr fo_27_4_B rfl) ?_))))))))
      refine .q rfl (.load on_25_B rfl (by first | assumption | exact Mem.of_get at2 4 _ rfl)) ?_
      refine .mv rfl ?_
      refine .q rfl (.idxN sl_25_B (Intss.sl (by assumption)) rfl rfl (by omega)) ?_
      refine .q rfl (.loadR on_24_B (by assumption) rfl (by omega)) ?_
      refine .mv rfl ?_
      refine .q rfl (.idxN sl_24_A (by assumption) rfl rfl (by omega)) ?_
      refine .q rfl (.loadI on_2_A (by assumption) rfl (by omega)) ?_
      refine .q rfl (.cmp rfl rfl rfl) (.mv rfl ?_)
      refine .split (fun h133 => ?_) (fun h133 => ?_)
      ·
       try simp only [sps] at h133
       refine .qg rfl (.fieldAddr fo_27_4_B rfl) ?_
       refine .qg rfl (.load on_25_B rfl (by first | assumption | exact Mem.of_get at3 4 _ rfl)) ?_
       refine .qg rfl (.move rfl) ?_
       refine .qg rfl (.idxN sl_25_B (Intss.sl (by assumption)) rfl rfl (by omega)) ?_
       refine .qg rfl (.loadR on_24_B (by assumption) rfl (by omega)) ?_
       refine .qg rfl (.move rfl) ?_
       refine .qg rfl (.idxN sl_24_A (by assumption) rfl rfl (by omega)) ?_
       refine .qg rfl (.loadI on_2_A (by assumption) rfl (by omega)) ?_
       refine .qg rfl (.cmp rfl rfl rfl) (.q rfl (.pickT rfl rfl) (.nil (hK36 _ _ ?_)))
       refine .cond rfl (fun h143 => ?_) (fun h143 => ?_)
       ·
        simp only [sps] at h143
        have mm3 := mul_bd (a := (c.comp.getD a []).getD f 0) (b := (d.src.length : Int)) (by omega) (by omega)
        obtain ⟨h3, hh3, n3⟩ : ∃ h3, h3 = (c.comp.getD a []).getD f 0 * (d.src.length : Int) + (d.comp.getD b []).getD g 0 ∧ -1 ≤ h3 ∧ h3 ≤ 33000 := ⟨_, rfl, by omega, by omega⟩
        refine .regionD mo_B (.q 0 (.q 1 (.q 2 (.q 3 (.q 4 (.q 5 (.q 6 (.q 7 (.q 8 (.q 9 (.q 10 (.q 11 (.q 12 (.q 13 (.q 14 (.q 15 (.q 16 (.q 17 (.q 18 (.q 19 (.done))))))))))))))))))))) (by kernel_rfl) ?_
        refine .q rfl (.fieldAddr fo_27_4_B rfl) ?_
        refine .q rfl (.load on_25_B rfl (by first | assumption | exact Mem.of_get at2 4 _ rfl)) ?_
        refine .mv rfl rfl ?_
        refine .q rfl (.idxN sl_25_B (Intss.sl (by assumption)) rfl rfl (by omega)) ?_
        refine .q rfl (.loadR on_24_B (by assumption) rfl (by omega)) ?_
        refine .mv rfl rfl ?_
        refine .q rfl (.idxN sl_24_A (by assumption) rfl rfl (by omega)) ?_
        refine .q rfl (.loadI on_2_A (by assumption) rfl (by omega)) ?_
        refine .mv rfl rfl ?_
        refine .q rfl (.mul rfl rfl rfl (by omega) (by omega)) ?_
        refine .q rfl (.fieldAddr fo_27_4_B rfl) ?_
        refine .q rfl (.load on_25_B rfl (by first | assumption | exact Mem.of_get at3 4 _ rfl)) ?_
        refine .mv rfl rfl ?_
        refine .q rfl (.idxN sl_25_B (Intss.sl (by assumption)) rfl rfl (by omega)) ?_
        refine .q rfl (.loadR on_24_B (by assumption) rfl (by omega)) ?_
        refine .mv rfl rfl ?_
        refine .q rfl (.idxN sl_24_A (by assumption) rfl rfl (by omega)) ?_
        refine .q rfl (.loadI on_2_A (by assumption) rfl (by omega)) ?_
        refine .q rfl (.add rfl rfl rfl (by omega) (by omega)) ?_
        refine .mv rfl rfl ?_
        refine .done ?_
        refine hK35 _ _ (.region (.mv rfl (.mv rfl ?_)))
        refine .R rfl (.litA rfl sl_24_A ze_2_L rfl rfl rfl rfl) ?_
        rintro _ H165 ⟨g165, rfl, le165, ge165, at165⟩
        replace hle := hle.trans le165
        replace lst6 := lst6.le le165
        replace at2 := le165.2 _ _ at2
        replace at3 := le165.2 _ _ at3
        replace at_L12v6 := le165.2 _ _ at_L12v6
        have lt_at165 := GHeap.ltg at165
        replace hin := base_hin.mono hle
        replace hin1 := base_hin1.mono hle
        clear hb2 c42 i42
        have hb2 : Cat.At _ g2 0 c p := ⟨Mem.of_get at2, hin⟩
        clear hb3 c13 c43 i43
        have hb3 : Cat.At _ g3 0 d q := ⟨Mem.of_get at3, hin1⟩
        clear u1 u2
        refine .R rfl (.appendI rfl sl_24_A ze_2_L rfl by_2_L sl_24_A rfl rfl (by assumption) (by assumption) (by first | omega | (simp <;> omega)) (by omega) (by omega)) ?_
        rintro _ H166 ⟨g166, rfl, st166, ge166, at166⟩
        replace hle := hle.st st166 (fun k hk => ⟨by omega, trivial⟩)
        replace lst6 := lst6.sQ st166
        have ne_g2_gL12v6 : NE g2 gL12v6 := ⟨pl_L12v6.ne ne_g2_gL12.ne (by omega)⟩
        replace at2 := st166.s at2 ne_g2_gL12v6.ne
        have ne_g3_gL12v6 : NE g3 gL12v6 := ⟨pl_L12v6.ne ne_g3_gL12.ne (by omega)⟩
        replace at3 := st166.s at3 ne_g3_gL12v6.ne
        replace hin := base_hin.mono hle
        replace hin1 := base_hin1.mono hle
        clear hb2
        have hb2 : Cat.At _ g2 0 c p := ⟨Mem.of_get at2, hin⟩
        clear hb3
        have hb3 : Cat.At _ g3 0 d q := ⟨Mem.of_get at3, hin1⟩
        refine .mv rfl (.nil (hK33 _ _ (.region (.mv rfl ?_))))
        refine .q rfl (.add rfl rfl rfl (by omega) (by omega)) ?_
        refine .mv rfl (.nil ?_)
        refine hKL6 ((g + 1, w2 ++ [h3], _, _)) _ _ ?_ ?_ ⟨rfl, rfl, rfl, rfl, rfl, rfl, rfl, rfl, rfl, rfl, rfl, trivial⟩
        ·
         refine ⟨lst6, by (rw [hh3]; assumption), by exact ⟨.inr (by omega)⟩, by (simp only [List.length_append, List.length_cons, List.length_nil] <;> omega), ?_⟩
         exact ⟨⟨by omega, by simp; omega⟩, hW.snoc (by omega) (by omega)⟩
        (dsimp only; omega)
       obtain ⟨h3, hh3, n3⟩ : ∃ h3 : Int, h3 = -1 ∧ -1 ≤ h3 ∧ h3 ≤ 33000 := ⟨_, rfl, by omega, by omega⟩
       refine .skip ?_
       refine hK35 _ _ (.region (.mv rfl (.mv rfl ?_)))
       refine .R rfl (.litA rfl sl_24_A ze_2_L rfl rfl rfl rfl) ?_
       rintro _ H165x2 ⟨g165x2, rfl, le165x2, ge165x2, at165x2⟩
       replace hle := hle.trans le165x2
       replace lst6 := lst6.le le165x2
       replace at2 := le165x2.2 _ _ at2
       replace at3 := le165x2.2 _ _ at3
       replace at_L12v6 := le165x2.2 _ _ at_L12v6
       have lt_at165x2 := GHeap.ltg at165x2
       replace hin := base_hin.mono hle
       replace hin1 := base_hin1.mono hle
       have hb2 : Cat.At _ g2 0 c p := ⟨Mem.of_get at2, hin⟩
       have hb3 : Cat.At _ g3 0 d q := ⟨Mem.of_get at3, hin1⟩
       refine .R rfl (.appendI rfl sl_24_A ze_2_L rfl by_2_L sl_24_A rfl rfl (by assumption) (by assumption) (by first | omega | (simp <;> omega)) (by omega) (by omega)) ?_
       rintro _ H166x2 ⟨g166x2, rfl, st166x2, ge166x2, at166x2⟩
       replace hle := hle.st st166x2 (fun k hk => ⟨by omega, trivial⟩)
       replace lst6 := lst6.sQ st166x2
       have ne_g2_gL12v6 : NE g2 gL12v6 := ⟨pl_L12v6.ne ne_g2_gL12.ne (by omega)⟩
       replace at2 := st166x2.s at2 ne_g2_gL12v6.ne
       have ne_g3_gL12v6 : NE g3 gL12v6 := ⟨pl_L12v6.ne ne_g3_gL12.ne (by omega)⟩
       replace at3 := st166x2.s at3 ne_g3_gL12v6.ne
       replace hin := base_hin.mono hle
       replace hin1 := base_hin1.mono hle
       clear hb2
       have hb2 : Cat.At _ g2 0 c p := ⟨Mem.of_get at2, hin⟩
       clear hb3
       have hb3 : Cat.At _ g3 0 d q := ⟨Mem.of_get at3, hin1⟩
       refine .mv rfl (.nil (hK33 _ _ (.region (.mv rfl ?_))))
       refine .q rfl (.add rfl rfl rfl (by omega) (by omega)) ?_
       refine .mv rfl (.nil ?_)
       refine hKL6 ((g + 1, w2 ++ [h3], _, _)) _ _ ?_ ?_ ⟨rfl, rfl, rfl, rfl, rfl, rfl, rfl, rfl, rfl, rfl, rfl, trivial⟩
       ·
        refine ⟨lst6, by (rw [hh3]; assumption), by exact ⟨.inr (by omega)⟩, by (simp only [List.length_append, List.length_cons, List.length_nil] <;> omega), ?_⟩
        exact ⟨⟨by omega, by simp; omega⟩, hW.snoc (by omega) (by omega)⟩
       (dsimp only; omega)
      obtain ⟨h3, hh3, n3⟩ : ∃ h3 : Int, h3 = -1 ∧ -1 ≤ h3 ∧ h3 ≤ 33000 := ⟨_, rfl, by omega, by omega⟩
      refine .z rfl (.z rfl (.z rfl (.z rfl (.z rfl (.z rfl (.z rfl (.z rfl (.z rfl (.q rfl (.pickF rfl rfl) (.nil (hK36 _ _ ?_)))))))))))
      refine .condF rfl ?_
      refine .skip ?_
      refine hK35 _ _ (.region (.mv rfl (.mv rfl ?_)))
      refine .R rfl (.litA rfl sl_24_A ze_2_L rfl rfl rfl rfl) ?_
      rintro _ H165x3 ⟨g165x3, rfl, le165x3, ge165x3, at165x3⟩
      replace hle := hle.trans le165x3
      replace lst6 := lst6.le le165x3
      replace at2 := le165x3.2 _ _ at2
      replace at3 := le165x3.2 _ _ at3
      replace at_L12v6 := le165x3.2 _ _ at_L12v6
      have lt_at165x3 := GHeap.ltg at165x3
      replace hin := base_hin.mono hle
      replace hin1 := base_hin1.mono hle
      have hb2 : Cat.At _ g2 0 c p := ⟨Mem.of_get at2, hin⟩
      have hb3 : Cat.At _ g3 0 d q := ⟨Mem.of_get at3, hin1⟩
      refine .R rfl (.appendI rfl sl_24_A ze_2_L rfl by_2_L sl_24_A rfl rfl (by assumption) (by assumption) (by first | omega | (simp <;> omega)) (by omega) (by omega)) ?_
      rintro _ H166x3 ⟨g166x3, rfl, st166x3, ge166x3, at166x3⟩
      replace hle := hle.st st166x3 (fun k hk => ⟨by omega, trivial⟩)
      replace lst6 := lst6.sQ st166x3
      have ne_g2_gL12v6 : NE g2 gL12v6 := ⟨pl_L12v6.ne ne_g2_gL12.ne (by omega)⟩
      replace at2 := st166x3.s at2 ne_g2_gL12v6.ne
      have ne_g3_gL12v6 : NE g3 gL12v6 := ⟨pl_L12v6.ne ne_g3_gL12.ne (by omega)⟩
      replace at3 := st166x3.s at3 ne_g3_gL12v6.ne
      replace hin := base_hin.mono hle
      replace hin1 := base_hin1.mono hle
      clear hb2
      have hb2 : Cat.At _ g2 0 c p := ⟨Mem.of_get at2, hin⟩
      clear hb3
      have hb3 : Cat.At _ g3 0 d q := ⟨Mem.of_get at3, hin1⟩
      refine .mv rfl (.nil (hK33 _ _ (.region (.mv rfl ?_))))
      refine .q rfl (.add rfl rfl rfl (by omega) (by omega)) ?_
      refine .mv rfl (.nil ?_)
      refine hKL6 ((g + 1, w2 ++ [h3], _, _)) _ _ ?_ ?_ ⟨rfl, rfl, rfl, rfl, rfl, rfl, rfl, rfl, rfl, rfl, rfl, trivial⟩
      ·
       refine ⟨lst6, by (rw [hh3]; assumption), by exact ⟨.inr (by omega)⟩, by (simp only [List.length_append, List.length_cons, List.length_nil] <;> omega), ?_⟩
       exact ⟨⟨by omega, by simp; omega⟩, hW.snoc (by omega) (by omega)⟩
      (dsimp only; omega)
     try simp only [sps] at h121
     refine .exit ?_
     refine hK29 _ _ (.region (.mv rfl ?_))
     refine .q rfl (.add rfl rfl rfl (by omega) (by omega)) ?_
     refine .mv rfl (.nil ?_)
     refine hKL5 ((f + 1, w2, _, _)) _ _ ?_ ?_ ⟨rfl, rfl, rfl, rfl, rfl, rfl, rfl, rfl, rfl, rfl, trivial⟩
     ·
      refine ⟨lst5, by assumption, by exact pl_L12v6.trans pl_L12 (by omega), by omega, ?_⟩
      have e1 := sm f d.src.length
      exact ⟨⟨by omega, by omega⟩, hW⟩
     (dsimp only; omega)
    try simp only [sps] at h114
    refine .exit ?_
    refine hK25 _ _ (.region ?_)
    obtain rfl : f = c.src.length := by omega
    obtain rfl := ln_L12
    refine .q rfl (.fieldAddr fo_27_4_B rfl) ?_
    refine .q rfl (.load on_25_B rfl (by first | assumption | exact Mem.of_get at17018 4 _ rfl)) ?_
    refine .mv rfl ?_
    refine .R rfl (.litA rfl sl_25_B ze_24_Hj rfl rfl rfl rfl) ?_
    rintro _ H170 ⟨g170, rfl, le170, ge170, at170⟩
    replace hle := hle.trans le170
    replace lst4 := lst4.le le170
    replace rk := rk.le le170
    replace at2 := le170.2 _ _ at2
    replace at3 := le170.2 _ _ at3
    replace at_LC2 := le170.2 _ _ at_LC2
    replace at89 := le170.2 _ _ at89
    replace at107 := le170.2 _ _ at107
    replace at17018 := le170.2 _ _ at17018
    replace at_L12 := le170.2 _ _ at_L12
    have lt_at170 := GHeap.ltg at170
    replace hin := base_hin.mono hle
    replace hin1 := base_hin1.mono hle
    have hb2 : Cat.At _ g2 0 c p := ⟨Mem.of_get at2, hin⟩
    have hb3 : Cat.At _ g3 0 d q := ⟨Mem.of_get at3, hin1⟩
    refine .R rfl (.appendV rfl sl_25_B ze_24_Hj rfl by_24_Hj sl_25_B rfl rfl (by assumption) (by assumption) (by first | omega | (simp <;> omega)) rfl rfl (by omega) (by omega)) ?_
    rintro _ H171 ⟨g171, rfl, st171, ge171, at171⟩
    replace hle := hle.st st171 (fun k hk => ⟨by omega, trivial⟩)
    replace lst4 := lst4.sQ st171
    replace rk := rk.sQ st171
    replace at2 := st171.same _ _ ⟨(pl_LC2.ne ne_g2_gLC.ne (by omega)), trivial⟩ at2
    replace at3 := st171.same _ _ ⟨(pl_LC2.ne ne_g3_gLC.ne (by omega)), trivial⟩ at3
    replace at89 := st171.s at89
    replace at107 := st171.s at107
    replace at17018 := st171.same _ _ ⟨(Ne.symm ap4_5), trivial⟩ at17018
    replace at_L12 := st171.same _ _ ⟨(Ne.symm (pl_L12.ne ne_gLC2_g109.ne (by omega))), trivial⟩ at_L12
    replace hin := base_hin.mono hle
    replace hin1 := base_hin1.mono hle
    clear hb2
    have hb2 : Cat.At _ g2 0 c p := ⟨Mem.of_get at2, hin⟩
    clear hb3
    have hb3 : Cat.At _ g3 0 d q := ⟨Mem.of_get at3, hin1⟩
    refine .q rfl (.fieldAddr fo_27_4_B rfl) ?_
    refine .r0 rfl rfl (.storeR rfl sz_25_Ch rfl rfl rfl (by assumption) (by first | exact Nat.le_of_ble_eq_true rfl | (simp; done) | (simp <;> omega))) ?_
    rintro _ H29006 ⟨rfl, st29006, at29006⟩
    replace hle := hle.st st29006 (fun k hk => ⟨by omega, trivial⟩)
    replace lst4 := lst4.sA st29006
    replace rk := rk.sA st29006
    replace at2 := st29006.s at2 ne_g2_g7.ne
    replace at3 := st29006.s at3 ne_g3_g7.ne
    replace at89 := st29006.s at89 ne_g89_g7.ne
    replace at107 := st29006.s at107 ne_g107_g7.ne
    replace at_L12 := st29006.same _ _ ⟨(Ne.symm (pl_L12.ne ne_g7_g109.ne (by omega))), trivial⟩ at_L12
    replace at171 := st29006.s at171
    replace hin := base_hin.mono hle
    replace hin1 := base_hin1.mono hle
    clear hb2
    have hb2 : Cat.At _ g2 0 c p := ⟨Mem.of_get at2, hin⟩
    clear hb3
    have hb3 : Cat.At _ g3 0 d q := ⟨Mem.of_get at3, hin1⟩
    try simp only [Nat.zero_add, List.set_cons_succ, List.set_cons_zero] at at29006
    refine .nil (hK21 _ _ (.region (.mv rfl ?_)))
    refine .q rfl (.add rfl rfl rfl (by omega) (by omega)) ?_
    refine .mv rfl (.nil ?_)
    refine hKL4 ((b + 1, s2 ++ [c.src.getD a 0 * d.obj + d.src.getD b 0], t2 ++ [c.tgt.getD a 0 * d.obj + d.tgt.getD b 0], upd r2 c2.length (some ⟨gL12, 0, none⟩), c2 ++ [row], g89, g107, g171)) _ _ ?_ ?_ ⟨rfl, rfl, rfl, rfl, rfl, rfl, rfl, rfl, trivial⟩
    ·
     refine ⟨lst4, by assumption, by exact ⟨.inr (by omega)⟩, by assumption, by exact ⟨.inr (by omega)⟩, by (rw [slsL_snoc]; assumption), by exact ⟨.inr (by omega)⟩, by (rw [List.length_append]; assumption), by omega, by omega, by omega, by omega, by omega, by omega, ?_⟩
     have hR' := hR.st rk (.cons hF1 (.cons hT1 (.cons (hR.neT hatC rfl) (.cons (hR.neT hat7 rfl) (.nil _ _)))))
     have hn1 := hR.ne (g := gL12) (pl_L12.ge (by omega) (by omega))
     have hn2 := hR.ne (g := g89) (by omega)
     have hn3 := hR.ne (g := g107) (by omega)
     have hx1 : gL12 ≠ g89 := pl_L12.ne' (by omega) (by omega)
     have hx2 : gL12 ≠ g107 := pl_L12.ne' (by omega) (by omega)
     have hx3 : gL12 ≠ gLI := pl_L12.ne' (by omega) (by omega)
     exact ⟨⟨by omega, by simp; omega, by simp; omega, by simp; omega⟩, hS.snoc (by omega) (by omega), hT.snoc (by omega) (by omega), hC.snoc (by omega) hW, hR'.snoc2 (by assumption) hn1 (by omega), ne_snoc hn2 (by omega), ne_snoc hn3 (by omega), ne_snoc hI1 (by omega)⟩
    (dsimp only; omega)
   try simp only [sps] at h70
   refine .exit ?_
   refine hK17 _ _ (.region (.mv rfl ?_))
   refine .q rfl (.add rfl rfl rfl (by omega) (by omega)) ?_
   refine .mv rfl (.nil ?_)
   refine hKL3 ((a + 1, s2, t2, r2, c2, gLF2, gLT2, gLC2)) _ _ ?_ ?_ ⟨rfl, rfl, rfl, rfl, rfl, rfl, rfl, trivial⟩
   ·
    refine ⟨lst3, by assumption, by exact pl_LF2.trans pl_LF (by omega), by assumption, by exact pl_LT2.trans pl_LT (by omega), by assumption, by exact pl_LC2.trans pl_LC (by omega), by assumption, by assumption, by assumption, by assumption, by assumption, by assumption, by assumption, ?_⟩
    have e1 := sm a d.src.length
    exact ⟨⟨by omega, by omega, by omega, by omega⟩, hS, hT, hC, hR, hF1, hT1, hI1⟩
   (dsimp only; omega)
  try simp only [sps] at h63
  refine .exit ?_
  refine hK13 _ _ (.seq (fun K37 hK37 => .region ?_))
  refine .q rfl (.loadM ag_27_D rfl ⟨rfl, Mem.of_get at_Lg7⟩) ?_
  refine .r0 rfl rfl (.fillA rfl sz_27_D rfl rfl rfl rfl) ?_
  rintro _ H30001 ⟨rfl, st30001, at30001⟩
  replace hle := hle.st st30001 (fun k hk => ⟨by omega, trivial⟩)
  replace at2 := st30001.s at2
  replace at3 := st30001.s at3
  replace at_LI := st30001.same _ _ ⟨(Ne.symm (pl_LI.ne ne_g4_g27.ne (by omega))), trivial⟩ at_LI
  replace at_LF := st30001.same _ _ ⟨(Ne.symm (pl_LF.ne ne_g4_g25.ne (by omega))), trivial⟩ at_LF
  replace at_LT := st30001.same _ _ ⟨(Ne.symm (pl_LT.ne ne_g4_g26.ne (by omega))), trivial⟩ at_LT
  replace at_LC := st30001.same _ _ ⟨(Ne.symm (pl_LC.ne ne_g4_g28.ne (by omega))), trivial⟩ at_LC
  replace hin := base_hin.mono hle
  replace hin1 := base_hin1.mono hle
  have hb2 : Cat.At _ g2 0 c p := ⟨Mem.of_get at2, hin⟩
  have hb3 : Cat.At _ g3 0 d q := ⟨Mem.of_get at3, hin1⟩
  refine .nil (hK37 _ _ ?_)
  refine .ret ?_
  refine hret _ _ ?_
  refine ⟨_, _, _, _, rfl, ag_27_D, (by rfl), (Mem.of_get at30001), ?_⟩
  obtain rfl : a = c.src.length := by omega
  have hx4 : gLF ≠ gLI := pl_LF.ne' (pl_LI.ne' (by omega) (by omega)) (by omega)
  have hx5 : gLT ≠ gLI := pl_LT.ne' (pl_LI.ne' (by omega) (by omega)) (by omega)
  have hat4 := at4
  have hR' := hR.st st30001 (.cons (hR.neT hat4 rfl) (.nil _ _))
  exact ⟨⟨c.obj * d.obj, ss, ts, is, cs⟩, rect_mk (by omega) (by omega) hts (hS.mono (by omega) (by omega)) (hT.mono (by omega) (by omega)) (by rw [hl]; congr 1; omega) (hB.mono (by omega) (by omega)) (by omega) (by rw [hs8]; exact hC.mono (by omega) (by omega)), hle, gLF, gLT, gLI, gLC, rr, by simp [Cat.cells, ownP, hts, hcl], ⟨at_LF, at_LT, at_LI, at_LC, by omega, by omega, by omega, by omega, by omega, by omega, by omega, hR', hF1, hT1, hI1⟩⟩
end Go.Proofs.Ytolfggcanbpknaa
namespace Go.Proofs.Ytolfggcanbpknaa
open Go Go.GL Go.RowKit Go.Proofs
set_option maxHeartbeats 8000000 in
theorem l02Some_c {gS : Nat} {m n : Int} {H : GHeap} (hs : DSrc 90 H gS := by assumption) :
    GCalls Try.prog 83 [.pointer (some ⟨gS, 0, none⟩), .int .i64 m, .int .i64 n] H (DrawnCat 90 33000 gS H) := by
  have hlS := hs.lt
  refine GCalls.body (N := 48) (rs := [.cell 6 27]) Try.func83 rfl rfl rfl rfl (fun Qx hret hend => ?_)
  refine .fg [0, 1, 2] rfl ?_
  have hst := St.refl [gS] H
  refine .seq (fun K1 hK1 => .region ?_)
  refine .R rfl (.allocR rfl ze_27_Hj rfl) ?_
  rintro _ H6 ⟨g6, rfl, le6, ge6, at6⟩
  replace hst := hst.le le6
  have lt_at6 := GHeap.ltg at6
  refine .nil (hK1 _ _ (.seq (fun K2 hK2 => .seq (fun K3 hK3 => .region ?_))))
  have hs := hs.le le6
  refine .mv rfl (.nil (hK3 _ _ ?_))
  refine .block ?_
  refine .loopR (σ := Nat) [(0, some _), (1, some _), (2, some _), (6, some _)] (fun i => [(7, some (.int .i64 (i : Int)))]) (fun i H' => St [gS] H6 H' ∧ i ≤ 12 ∧ DSrc 90 H' gS) (fun i => 12 - i) (0) ⟨rfl, rfl, rfl, rfl, trivial⟩ ⟨rfl, trivial⟩ ?_ ?_
  ·
   refine ⟨.refl _ _, ?_⟩
   exact ⟨by omega, hs⟩
  rintro i HL1 ⟨lst1, hI⟩ KL1 hKL1
  refine .forget (fr' := [(7, some (.int .i64 (i : Int))), (0, some _), (1, some _), (2, some _), (6, some _)]) ⟨rfl, rfl, rfl, rfl, rfl, trivial⟩ ?_
  have nx_HL1 := lst1.nx
  replace hst := hst.sA lst1
  have ne_g6_gS : NE g6 gS := .a
  replace at6 := lst1.s at6 ne_g6_gS.ne
  obtain ⟨hi, hs⟩ := hI
  refine .seq (fun K4 hK4 => .seq (fun K5 hK5 => .region (.mv rfl (.q rfl (.cmp rfl rfl rfl) (.nil (hK5 _ _ ?_))))))
  refine .cond rfl (fun h10 => ?_) (fun h10 => ?_)
  ·
   simp only [sps] at h10
   refine .skip ?_
   refine hK4 _ _ (.seq (fun K6 hK6 => ?_))
   refine .block ?_
   refine .seq (fun K7 hK7 => .region (.mv rfl ?_))
   refine .call rfl rfl rfl rfl @Try.call106 rfl (l02Family_c) ?_
   rintro _ H14 ⟨c14, p14, rfl, rc14, v14, st14, hs⟩
   have nx_H14 := st14.nx
   replace hst := hst.sA st14
   replace lst1 := lst1.sA st14
   replace at6 := st14.s at6 ne_g6_gS.ne
   have bs_v14 := v14
   have lv_v14 : Keep HL1.next H14 H14 := fun _ _ _ h => h
   refine .R rfl (.allocR rfl ze_27_Hj rfl) ?_
   rintro _ H8 ⟨g8, rfl, le8, ge8, at8⟩
   replace hst := hst.le le8
   replace lst1 := lst1.le le8
   replace hs := hs.le le8
   replace at6 := le8.2 _ _ at6
   replace lv_v14 := Keep.le lv_v14 le8
   refine .r0 rfl rfl (.fillA rfl sz_27_D rfl rfl rfl rfl) ?_
   rintro _ H4003 ⟨rfl, st4003, at4003⟩
   replace hst := hst.sA st4003
   replace lst1 := lst1.sA st4003
   replace hs := hs.sA st4003
   have ne_g6_g8 : NE g6 g8 := .a
   replace at6 := st4003.s at6 ne_g6_g8.ne
   replace lv_v14 := Keep.st lv_v14 st4003 (fun k hb hk => ⟨(by omega), trivial⟩)
   have lt_at4003 := GHeap.ltg at4003
   refine .nil (hK7 _ _ (.seq (fun K8 hK8 => .seq (fun K9 hK9 => .region (.mv rfl ?_)))))
   refine .call rfl rfl rfl rfl @Try.call48 rfl (l01Next_c) ?_
   rintro _ H16 ⟨k16, rfl, ka16, kb16, kc16, st16, hs⟩
   have nx_H16 := st16.nx
   replace hst := hst.sA st16
   replace lst1 := lst1.sA st16
   replace at6 := st16.s at6 ne_g6_gS.ne
   have ne_g8_gS : NE g8 gS := .a
   replace at4003 := st16.s at4003 ne_g8_gS.ne
   replace lv_v14 := Keep.st lv_v14 st16 (fun k hb hk => ⟨(by omega), trivial⟩)
   refine .q rfl (.cmp rfl rfl rfl) (.nil (hK9 _ _ ?_))
   refine .cond rfl (fun h17 => ?_) (fun h17 => ?_)
   ·
    try simp only [sps] at h17
    refine .regionDB mo_B (.q 0 (.q 1 (.c 2 1 (.c 3 0 (.c 4 0 (.done)))))) (by kernel_rfl) (GHeap.le_erase H16 gS) ?_
    have hbl := GHeap.le_erase H16 gS
    have a8B := GHeap.get_erase_of (g := gS) at4003 (by omega)
    refine .qB rfl hbl (.loadM ag_27_D rfl ⟨rfl, Mem.of_get a8B⟩) ?_
    refine .qB rfl hbl (.move rfl) ?_
    refine .call1 rfl rfl rfl rfl rfl @Try.call106 rfl (l02Family_c) ?_
    rintro _ H20 ⟨c20, p20, rfl, rc20, v20, st20, hs⟩
    replace hbl := hbl.erase_st st20
    refine ⟨hbl, ?_⟩
    have nx_H20 := st20.nx
    replace hst := hst.sA st20
    replace lst1 := lst1.sA st20
    replace at6 := st20.s at6 ne_g6_gS.ne
    replace at4003 := st20.s at4003 ne_g8_gS.ne
    replace lv_v14 := Keep.st lv_v14 st20 (fun k hb hk => ⟨(by omega), trivial⟩)
    replace v14 := bs_v14.keep lv_v14 (Nat.le_refl _)
    have i14 := v14.inn
    have i20 := v20.inn
    refine .call0 rfl rfl rfl rfl rfl @Try.call107 rfl (l03Sum_c (hin := i14) (hin1 := i20) (hc := rc14) (hd := rc20) (hN := by omega)) ?_
    rintro _ H21 ⟨le21, ga21, gb21, gc21, gd21, rr21, rfl, o21⟩
    have v21 := o21.catR
    replace hst := hst.le le21
    replace lst1 := lst1.le le21
    replace hs := hs.le le21
    replace at6 := le21.2 _ _ at6
    replace at4003 := le21.2 _ _ at4003
    have bs_v21 := v21
    have lv_v21 : Keep H20.next H21 H21 := fun _ _ _ h => h
    clear i14
    clear i20
    refine .r0 rfl rfl rfl (.fillA rfl sz_27_D rfl rfl rfl rfl) ?_
    rintro _ H6004 ⟨rfl, st6004, at6004⟩
    replace hst := hst.sA st6004
    replace lst1 := lst1.sA st6004
    replace hs := hs.sA st6004
    replace at6 := st6004.s at6 ne_g6_g8.ne
    replace lv_v21 := Keep.st lv_v21 st6004 (fun k hb hk => ⟨(by omega), trivial⟩)
    have lt_at6004 := GHeap.ltg at6004
    refine .done ?_
    refine hK8 _ _ (.seq (fun K10 hK10 => .seq (fun K11 hK11 => .region (.mv rfl ?_))))
    refine .call rfl rfl rfl rfl @Try.call48 rfl (l01Next_c) ?_
    rintro _ H23 ⟨k23, rfl, ka23, kb23, kc23, st23, hs⟩
    have nx_H23 := st23.nx
    replace hst := hst.sA st23
    replace lst1 := lst1.sA st23
    replace at6 := st23.s at6 ne_g6_gS.ne
    replace at6004 := st23.s at6004 ne_g8_gS.ne
    replace lv_v21 := Keep.st lv_v21 st23 (fun k hb hk => ⟨(by omega), trivial⟩)
    replace v21 := bs_v21.keep lv_v21 (Nat.le_refl _)
    have i21 := v21.inn
    refine .q rfl (.cmp rfl rfl rfl) (.nil (hK11 _ _ ?_))
    refine .cond rfl (fun h24 => ?_) (fun h24 => ?_)
    ·
     try simp only [sps] at h24
     refine .regionDB mo_B (.q 0 (.q 1 (.c 2 1 (.c 3 0 (.c 4 0 (.done)))))) (by kernel_rfl) (GHeap.le_erase H23 gS) ?_
     have hbl := GHeap.le_erase H23 gS
     have a8B := GHeap.get_erase_of (g := gS) at6004 (by omega)
     refine .qB rfl hbl (.loadM ag_27_D rfl ⟨rfl, Mem.of_get a8B⟩) ?_
     refine .qB rfl hbl (.move rfl) ?_
     refine .call1 rfl rfl rfl rfl rfl @Try.call106 rfl (l02Family_c) ?_
     rintro _ H27 ⟨c27, p27, rfl, rc27, v27, st27, hs⟩
     replace hbl := hbl.erase_st st27
     refine ⟨hbl, ?_⟩
     have nx_H27 := st27.nx
     replace hst := hst.sA st27
     replace lst1 := lst1.sA st27
     replace at6 := st27.s at6 ne_g6_gS.ne
     replace at6004 := st27.s at6004 ne_g8_gS.ne
     replace lv_v21 := Keep.st lv_v21 st27 (fun k hb hk => ⟨(by omega), trivial⟩)
     replace v21 := bs_v21.keep lv_v21 (Nat.le_refl _)
     clear i21
     have i21 := v21.inn
     have i27 := v27.inn
     refine .call0 rfl rfl rfl rfl rfl @Try.call108 rfl (l03Product_c (hin := by first | exact i21 | exact i14) (hin1 := i27) (hc := by first | exact (rc14.sum rc20).mono (by omega) | exact rc14.mono (by omega)) (hd := rc27)) ?_
     rintro _ H28 ⟨c28, rc28, le28, ga28, gb28, gc28, gd28, rr28, rfl, o28⟩
     have v28 := o28.catR
     replace hst := hst.le le28
     replace lst1 := lst1.le le28
     replace hs := hs.le le28
     replace at6 := le28.2 _ _ at6
     replace at6004 := le28.2 _ _ at6004
     have bs_v28 := v28
     have lv_v28 : Keep H27.next H28 H28 := fun _ _ _ h => h
     clear i21
     clear i27
     refine .r0 rfl rfl rfl (.fillA rfl sz_27_D rfl rfl rfl rfl) ?_
     rintro _ H8004 ⟨rfl, st8004, at8004⟩
     replace hst := hst.sA st8004
     replace lst1 := lst1.sA st8004
     replace hs := hs.sA st8004
     replace at6 := st8004.s at6 ne_g6_g8.ne
     replace lv_v28 := Keep.st lv_v28 st8004 (fun k hb hk => ⟨(by omega), trivial⟩)
     replace v28 := bs_v28.keep lv_v28 (Nat.le_refl _)
     have i28 := v28.inn
     refine .done ?_
     refine hK10 _ _ (.seq (fun K12 hK12 => .region (.q rfl (.fieldAddr fo_27_0_B rfl) ?_)))
     refine .q rfl (.load on_2_A rfl (by first | assumption | exact Mem.of_get at8004 0 _ rfl)) ?_
     refine .mv rfl (.q rfl (.cmp rfl rfl rfl) (.mv rfl ?_))
     refine .split (fun h33 => ?_) (fun h33 => ?_)
     ·
      try simp only [sps] at h33
      refine .qg rfl (.fieldAddr fo_27_1_B rfl) ?_
      refine .qg rfl (.load on_24_B rfl (by first | assumption | exact Mem.of_get at8004 1 _ rfl)) ?_
      refine .qg rfl (.len sl_24_A rfl) (.qg rfl (.move rfl) (.qg rfl (.cmp rfl rfl rfl) (.q rfl (.pickT rfl rfl) (.mv rfl ?_))))
      refine .split (fun h40 => ?_) (fun h40 => ?_)
      ·
       try simp only [sps] at h40
       refine .qg rfl (.loadM ag_27_D rfl ⟨rfl, Mem.of_get at8004⟩) ?_
       refine .callQg rfl rfl rfl rfl rfl rfl @Try.call109 rfl (l02Fits_c (hin := by first | exact i28 | exact i21 | exact i14)) ?_
       refine .q rfl (.pickT rfl rfl) (.nil (hK12 _ _ ?_))
       refine .cond rfl (fun h43 => ?_) (fun h43 => ?_)
       ·
        try simp only [sps] at h43
        refine .seq (fun K13 hK13 => .region ?_)
        refine .q rfl (.loadM ag_27_D rfl ⟨rfl, Mem.of_get at8004⟩) ?_
        refine .r0 rfl rfl (.fillA rfl sz_27_D rfl rfl rfl rfl) ?_
        rintro _ H10001 ⟨rfl, st10001, at10001⟩
        replace hst := hst.sA st10001
        replace hs := hs.sA st10001
        replace lv_v28 := Keep.st lv_v28 st10001 (fun k hb hk => ⟨(by omega), trivial⟩)
        replace v28 := bs_v28.keep lv_v28 (Nat.le_refl _)
        clear i28
        refine .nil (hK13 _ _ ?_)
        refine .ret ?_
        refine hret _ _ ?_
        refine ⟨_, _, _, _, rfl, ag_27_D, (by rfl), (Mem.of_get at10001), ?_⟩
        exact ⟨c28, _, rfl, rc28, v28.keep (.of_le (.refl _)) (by omega), hst, hs⟩
       try simp only [sps] at h43
       refine .skip ?_
       refine hK6 _ _ (.region (.mv rfl ?_))
       refine .q rfl (.add rfl rfl rfl (by omega) (by omega)) ?_
       refine .mv rfl (.nil ?_)
       refine hKL1 (i + 1) _ _ ?_ ?_ ⟨rfl, rfl, rfl, rfl, rfl, trivial⟩
       ·
        refine ⟨lst1, ?_⟩
        exact ⟨by omega, hs⟩
       omega
      try simp only [sps] at h40
      refine .z rfl (.z rfl (.q rfl (.pickF rfl rfl) (.nil (hK12 _ _ ?_))))
      refine .condF rfl ?_
      refine .skip ?_
      refine hK6 _ _ (.region (.mv rfl ?_))
      refine .q rfl (.add rfl rfl rfl (by omega) (by omega)) ?_
      refine .mv rfl (.nil ?_)
      refine hKL1 (i + 1) _ _ ?_ ?_ ⟨rfl, rfl, rfl, rfl, rfl, trivial⟩
      ·
       refine ⟨lst1, ?_⟩
       exact ⟨by omega, hs⟩
      omega
     try simp only [sps] at h33
     refine .z rfl (.z rfl (.z rfl (.z rfl (.z rfl (.q rfl (.pickF rfl rfl) (.mv rfl (.z rfl (.z rfl (.q rfl (.pickF rfl rfl) (.nil (hK12 _ _ ?_)))))))))))
     refine .condF rfl ?_
     refine .skip ?_
     refine hK6 _ _ (.region (.mv rfl ?_))
     refine .q rfl (.add rfl rfl rfl (by omega) (by omega)) ?_
     refine .mv rfl (.nil ?_)
     refine hKL1 (i + 1) _ _ ?_ ?_ ⟨rfl, rfl, rfl, rfl, rfl, trivial⟩
     ·
      refine ⟨lst1, ?_⟩
      exact ⟨by omega, hs⟩
     omega
    try simp only [sps] at h24
    refine .skip ?_
    refine hK10 _ _ (.seq (fun K14 hK14 => .region (.q rfl (.fieldAddr fo_27_0_B rfl) ?_)))
    refine .q rfl (.load on_2_A rfl (by first | assumption | exact Mem.of_get at6004 0 _ rfl)) ?_
    refine .mv rfl (.q rfl (.cmp rfl rfl rfl) (.mv rfl ?_))
    refine .split (fun h33 => ?_) (fun h33 => ?_)
    ·
     try simp only [sps] at h33
     refine .qg rfl (.fieldAddr fo_27_1_B rfl) ?_
     refine .qg rfl (.load on_24_B rfl (by first | assumption | exact Mem.of_get at6004 1 _ rfl)) ?_
     refine .qg rfl (.len sl_24_A rfl) (.qg rfl (.move rfl) (.qg rfl (.cmp rfl rfl rfl) (.q rfl (.pickT rfl rfl) (.mv rfl ?_))))
     refine .split (fun h40 => ?_) (fun h40 => ?_)
     ·
      try simp only [sps] at h40
      refine .qg rfl (.loadM ag_27_D rfl ⟨rfl, Mem.of_get at6004⟩) ?_
      refine .callQg rfl rfl rfl rfl rfl rfl @Try.call109 rfl (l02Fits_c (hin := by first | exact i28 | exact i21 | exact i14)) ?_
      refine .q rfl (.pickT rfl rfl) (.nil (hK14 _ _ ?_))
      refine .cond rfl (fun h43 => ?_) (fun h43 => ?_)
      ·
       try simp only [sps] at h43
       refine .seq (fun K15 hK15 => .region ?_)
       refine .q rfl (.loadM ag_27_D rfl ⟨rfl, Mem.of_get at6004⟩) ?_
       refine .r0 rfl rfl (.fillA rfl sz_27_D rfl rfl rfl rfl) ?_
       rintro _ H10001x2 ⟨rfl, st10001x2, at10001x2⟩
       replace hst := hst.sA st10001x2
       replace hs := hs.sA st10001x2
       replace lv_v21 := Keep.st lv_v21 st10001x2 (fun k hb hk => ⟨(by omega), trivial⟩)
       replace v21 := bs_v21.keep lv_v21 (Nat.le_refl _)
       refine .nil (hK15 _ _ ?_)
       refine .ret ?_
       refine hret _ _ ?_
       refine ⟨_, _, _, _, rfl, ag_27_D, (by rfl), (Mem.of_get at10001x2), ?_⟩
       exact ⟨_, _, rfl, (rc14.sum rc20).mono (by omega), v21.keep (.of_le (.refl _)) (by omega), hst, hs⟩
      try simp only [sps] at h43
      refine .skip ?_
      refine hK6 _ _ (.region (.mv rfl ?_))
      refine .q rfl (.add rfl rfl rfl (by omega) (by omega)) ?_
      refine .mv rfl (.nil ?_)
      refine hKL1 (i + 1) _ _ ?_ ?_ ⟨rfl, rfl, rfl, rfl, rfl, trivial⟩
      ·
       refine ⟨lst1, ?_⟩
       exact ⟨by omega, hs⟩
      omega
     try simp only [sps] at h40
     refine .z rfl (.z rfl (.q rfl (.pickF rfl rfl) (.nil (hK14 _ _ ?_))))
     refine .condF rfl ?_
     refine .skip ?_
     refine hK6 _ _ (.region (.mv rfl ?_))
     refine .q rfl (.add rfl rfl rfl (by omega) (by omega)) ?_
     refine .mv rfl (.nil ?_)
     refine hKL1 (i + 1) _ _ ?_ ?_ ⟨rfl, rfl, rfl, rfl, rfl, trivial⟩
     ·
      refine ⟨lst1, ?_⟩
      exact ⟨by omega, hs⟩
     omega
    try simp only [sps] at h33
    refine .z rfl (.z rfl (.z rfl (.z rfl (.z rfl (.q rfl (.pickF rfl rfl) (.mv rfl (.z rfl (.z rfl (.q rfl (.pickF rfl rfl) (.nil (hK14 _ _ ?_)))))))))))
    refine .condF rfl ?_
    refine .skip ?_
    refine hK6 _ _ (.region (.mv rfl ?_))
    refine .q rfl (.add rfl rfl rfl (by omega) (by omega)) ?_
    refine .mv rfl (.nil ?_)
    refine hKL1 (i + 1) _ _ ?_ ?_ ⟨rfl, rfl, rfl, rfl, rfl, trivial⟩
    ·
     refine ⟨lst1, ?_⟩
     exact ⟨by omega, hs⟩
    omega
   try simp only [sps] at h17
   refine .skip ?_
   refine hK8 _ _ (.seq (fun K16 hK16 => .seq (fun K17 hK17 => .region (.mv rfl ?_))))
   refine .call rfl rfl rfl rfl @Try.call48 rfl (l01Next_c) ?_
   rintro _ H23x2 ⟨k23x2, rfl, ka23x2, kb23x2, kc23x2, st23x2, hs⟩
   have nx_H23x2 := st23x2.nx
   replace hst := hst.sA st23x2
   replace lst1 := lst1.sA st23x2
   replace at6 := st23x2.s at6 ne_g6_gS.ne
   replace at4003 := st23x2.s at4003 ne_g8_gS.ne
   replace lv_v14 := Keep.st lv_v14 st23x2 (fun k hb hk => ⟨(by omega), trivial⟩)
   replace v14 := bs_v14.keep lv_v14 (Nat.le_refl _)
   have i14 := v14.inn
   refine .q rfl (.cmp rfl rfl rfl) (.nil (hK17 _ _ ?_))
   refine .cond rfl (fun h24 => ?_) (fun h24 => ?_)
   ·
    try simp only [sps] at h24
    refine .regionDB mo_B (.q 0 (.q 1 (.c 2 1 (.c 3 0 (.c 4 0 (.done)))))) (by kernel_rfl) (GHeap.le_erase H23x2 gS) ?_
    have hbl := GHeap.le_erase H23x2 gS
    have a8B := GHeap.get_erase_of (g := gS) at4003 (by omega)
    refine .qB rfl hbl (.loadM ag_27_D rfl ⟨rfl, Mem.of_get a8B⟩) ?_
    refine .qB rfl hbl (.move rfl) ?_
    refine .call1 rfl rfl rfl rfl rfl @Try.call106 rfl (l02Family_c) ?_
    rintro _ H27x2 ⟨c27, p27, rfl, rc27, v27, st27x2, hs⟩
    replace hbl := hbl.erase_st st27x2
    refine ⟨hbl, ?_⟩
    have nx_H27x2 := st27x2.nx
    replace hst := hst.sA st27x2
    replace lst1 := lst1.sA st27x2
    replace at6 := st27x2.s at6 ne_g6_gS.ne
    replace at4003 := st27x2.s at4003 ne_g8_gS.ne
    replace lv_v14 := Keep.st lv_v14 st27x2 (fun k hb hk => ⟨(by omega), trivial⟩)
    replace v14 := bs_v14.keep lv_v14 (Nat.le_refl _)
    clear i14
    have i14 := v14.inn
    have i27 := v27.inn
    refine .call0 rfl rfl rfl rfl rfl @Try.call108 rfl (l03Product_c (hin := by first | exact i21 | exact i14) (hin1 := i27) (hc := by first | exact (rc14.sum rc20).mono (by omega) | exact rc14.mono (by omega)) (hd := rc27)) ?_
    rintro _ H28x2 ⟨c28, rc28, le28x2, ga28x2, gb28x2, gc28x2, gd28x2, rr28x2, rfl, o28x2⟩
    have v28 := o28x2.catR
    replace hst := hst.le le28x2
    replace lst1 := lst1.le le28x2
    replace hs := hs.le le28x2
    replace at6 := le28x2.2 _ _ at6
    replace at4003 := le28x2.2 _ _ at4003
    have bs_v28 := v28
    have lv_v28 : Keep H27x2.next H28x2 H28x2 := fun _ _ _ h => h
    clear i14
    clear i27
    refine .r0 rfl rfl rfl (.fillA rfl sz_27_D rfl rfl rfl rfl) ?_
    rintro _ H8004x2 ⟨rfl, st8004x2, at8004x2⟩
    replace hst := hst.sA st8004x2
    replace lst1 := lst1.sA st8004x2
    replace hs := hs.sA st8004x2
    replace at6 := st8004x2.s at6 ne_g6_g8.ne
    replace lv_v28 := Keep.st lv_v28 st8004x2 (fun k hb hk => ⟨(by omega), trivial⟩)
    replace v28 := bs_v28.keep lv_v28 (Nat.le_refl _)
    have i28 := v28.inn
    refine .done ?_
    refine hK16 _ _ (.seq (fun K18 hK18 => .region (.q rfl (.fieldAddr fo_27_0_B rfl) ?_)))
    refine .q rfl (.load on_2_A rfl (by first | assumption | exact Mem.of_get at8004x2 0 _ rfl)) ?_
    refine .mv rfl (.q rfl (.cmp rfl rfl rfl) (.mv rfl ?_))
    refine .split (fun h33 => ?_) (fun h33 => ?_)
    ·
     try simp only [sps] at h33
     refine .qg rfl (.fieldAddr fo_27_1_B rfl) ?_
     refine .qg rfl (.load on_24_B rfl (by first | assumption | exact Mem.of_get at8004x2 1 _ rfl)) ?_
     refine .qg rfl (.len sl_24_A rfl) (.qg rfl (.move rfl) (.qg rfl (.cmp rfl rfl rfl) (.q rfl (.pickT rfl rfl) (.mv rfl ?_))))
     refine .split (fun h40 => ?_) (fun h40 => ?_)
     ·
      try simp only [sps] at h40
      refine .qg rfl (.loadM ag_27_D rfl ⟨rfl, Mem.of_get at8004x2⟩) ?_
      refine .callQg rfl rfl rfl rfl rfl rfl @Try.call109 rfl (l02Fits_c (hin := by first | exact i28 | exact i21 | exact i14)) ?_
      refine .q rfl (.pickT rfl rfl) (.nil (hK18 _ _ ?_))
      refine .cond rfl (fun h43 => ?_) (fun h43 => ?_)
      ·
       try simp only [sps] at h43
       refine .seq (fun K19 hK19 => .region ?_)
       refine .q rfl (.loadM ag_27_D rfl ⟨rfl, Mem.of_get at8004x2⟩) ?_
       refine .r0 rfl rfl (.fillA rfl sz_27_D rfl rfl rfl rfl) ?_
       rintro _ H10001x3 ⟨rfl, st10001x3, at10001x3⟩
       replace hst := hst.sA st10001x3
       replace hs := hs.sA st10001x3
       replace lv_v28 := Keep.st lv_v28 st10001x3 (fun k hb hk => ⟨(by omega), trivial⟩)
       replace v28 := bs_v28.keep lv_v28 (Nat.le_refl _)
       clear i28
       refine .nil (hK19 _ _ ?_)
       refine .ret ?_
       refine hret _ _ ?_
       refine ⟨_, _, _, _, rfl, ag_27_D, (by rfl), (Mem.of_get at10001x3), ?_⟩
       exact ⟨c28, _, rfl, rc28, v28.keep (.of_le (.refl _)) (by omega), hst, hs⟩
      try simp only [sps] at h43
      refine .skip ?_
      refine hK6 _ _ (.region (.mv rfl ?_))
      refine .q rfl (.add rfl rfl rfl (by omega) (by omega)) ?_
      refine .mv rfl (.nil ?_)
      refine hKL1 (i + 1) _ _ ?_ ?_ ⟨rfl, rfl, rfl, rfl, rfl, trivial⟩
      ·
       refine ⟨lst1, ?_⟩
       exact ⟨by omega, hs⟩
      omega
     try simp only [sps] at h40
     refine .z rfl (.z rfl (.q rfl (.pickF rfl rfl) (.nil (hK18 _ _ ?_))))
     refine .condF rfl ?_
     refine .skip ?_
     refine hK6 _ _ (.region (.mv rfl ?_))
     refine .q rfl (.add rfl rfl rfl (by omega) (by omega)) ?_
     refine .mv rfl (.nil ?_)
     refine hKL1 (i + 1) _ _ ?_ ?_ ⟨rfl, rfl, rfl, rfl, rfl, trivial⟩
     ·
      refine ⟨lst1, ?_⟩
      exact ⟨by omega, hs⟩
     omega
    try simp only [sps] at h33
    refine .z rfl (.z rfl (.z rfl (.z rfl (.z rfl (.q rfl (.pickF rfl rfl) (.mv rfl (.z rfl (.z rfl (.q rfl (.pickF rfl rfl) (.nil (hK18 _ _ ?_)))))))))))
    refine .condF rfl ?_
    refine .skip ?_
    refine hK6 _ _ (.region (.mv rfl ?_))
    refine .q rfl (.add rfl rfl rfl (by omega) (by omega)) ?_
    refine .mv rfl (.nil ?_)
    refine hKL1 (i + 1) _ _ ?_ ?_ ⟨rfl, rfl, rfl, rfl, rfl, trivial⟩
    ·
     refine ⟨lst1, ?_⟩
     exact ⟨by omega, hs⟩
    omega
   try simp only [sps] at h24
   refine .skip ?_
   refine hK16 _ _ (.seq (fun K20 hK20 => .region (.q rfl (.fieldAddr fo_27_0_B rfl) ?_)))
   refine .q rfl (.load on_2_A rfl (by first | assumption | exact Mem.of_get at4003 0 _ rfl)) ?_
   refine .mv rfl (.q rfl (.cmp rfl rfl rfl) (.mv rfl ?_))
   refine .split (fun h33 => ?_) (fun h33 => ?_)
   ·
    try simp only [sps] at h33
    refine .qg rfl (.fieldAddr fo_27_1_B rfl) ?_
    refine .qg rfl (.load on_24_B rfl (by first | assumption | exact Mem.of_get at4003 1 _ rfl)) ?_
    refine .qg rfl (.len sl_24_A rfl) (.qg rfl (.move rfl) (.qg rfl (.cmp rfl rfl rfl) (.q rfl (.pickT rfl rfl) (.mv rfl ?_))))
    refine .split (fun h40 => ?_) (fun h40 => ?_)
    ·
     try simp only [sps] at h40
     refine .qg rfl (.loadM ag_27_D rfl ⟨rfl, Mem.of_get at4003⟩) ?_
     refine .callQg rfl rfl rfl rfl rfl rfl @Try.call109 rfl (l02Fits_c (hin := by first | exact i28 | exact i21 | exact i14)) ?_
     refine .q rfl (.pickT rfl rfl) (.nil (hK20 _ _ ?_))
     refine .cond rfl (fun h43 => ?_) (fun h43 => ?_)
     ·
      try simp only [sps] at h43
      refine .seq (fun K21 hK21 => .region ?_)
      refine .q rfl (.loadM ag_27_D rfl ⟨rfl, Mem.of_get at4003⟩) ?_
      refine .r0 rfl rfl (.fillA rfl sz_27_D rfl rfl rfl rfl) ?_
      rintro _ H10001x4 ⟨rfl, st10001x4, at10001x4⟩
      replace hst := hst.sA st10001x4
      replace hs := hs.sA st10001x4
      replace lv_v14 := Keep.st lv_v14 st10001x4 (fun k hb hk => ⟨(by omega), trivial⟩)
      replace v14 := bs_v14.keep lv_v14 (Nat.le_refl _)
      refine .nil (hK21 _ _ ?_)
      refine .ret ?_
      refine hret _ _ ?_
      refine ⟨_, _, _, _, rfl, ag_27_D, (by rfl), (Mem.of_get at10001x4), ?_⟩
      exact ⟨c14, _, rfl, rc14.mono (by omega), v14.keep (.of_le (.refl _)) (by omega), hst, hs⟩
     try simp only [sps] at h43
     refine .skip ?_
     refine hK6 _ _ (.region (.mv rfl ?_))
     refine .q rfl (.add rfl rfl rfl (by omega) (by omega)) ?_
     refine .mv rfl (.nil ?_)
     refine hKL1 (i + 1) _ _ ?_ ?_ ⟨rfl, rfl, rfl, rfl, rfl, trivial⟩
     ·
      refine ⟨lst1, ?_⟩
      exact ⟨by omega, hs⟩
     omega
    try simp only [sps] at h40
    refine .z rfl (.z rfl (.q rfl (.pickF rfl rfl) (.nil (hK20 _ _ ?_))))
    refine .condF rfl ?_
    refine .skip ?_
    refine hK6 _ _ (.region (.mv rfl ?_))
    refine .q rfl (.add rfl rfl rfl (by omega) (by omega)) ?_
    refine .mv rfl (.nil ?_)
    refine hKL1 (i + 1) _ _ ?_ ?_ ⟨rfl, rfl, rfl, rfl, rfl, trivial⟩
    ·
     refine ⟨lst1, ?_⟩
     exact ⟨by omega, hs⟩
    omega
   try simp only [sps] at h33
   refine .z rfl (.z rfl (.z rfl (.z rfl (.z rfl (.q rfl (.pickF rfl rfl) (.mv rfl (.z rfl (.z rfl (.q rfl (.pickF rfl rfl) (.nil (hK20 _ _ ?_)))))))))))
   refine .condF rfl ?_
   refine .skip ?_
   refine hK6 _ _ (.region (.mv rfl ?_))
   refine .q rfl (.add rfl rfl rfl (by omega) (by omega)) ?_
   refine .mv rfl (.nil ?_)
   refine hKL1 (i + 1) _ _ ?_ ?_ ⟨rfl, rfl, rfl, rfl, rfl, trivial⟩
   ·
    refine ⟨lst1, ?_⟩
    exact ⟨by omega, hs⟩
   omega
  try simp only [sps] at h10
  refine .exit ?_
  refine hK2 _ _ (.seq (fun K22 hK22 => .region ?_))
  refine .R rfl (.litA rfl sl_24_A ze_2_L rfl rfl rfl rfl) ?_
  rintro _ H45 ⟨g45, rfl, le45, ge45, at45⟩
  replace hst := hst.le le45
  replace hs := hs.le le45
  replace at6 := le45.2 _ _ at6
  have lt_at45 := GHeap.ltg at45
  refine .R rfl (.litA rfl sl_25_B ze_24_Hj rfl rfl rfl rfl) ?_
  rintro _ H46 ⟨g46, rfl, le46, ge46, at46⟩
  replace hst := hst.le le46
  replace hs := hs.le le46
  replace at6 := le46.2 _ _ at6
  replace at45 := le46.2 _ _ at45
  have lt_at46 := GHeap.ltg at46
  refine .call rfl rfl rfl rfl @Try.call110 rfl ((by have hh := l03Poset_c (rel := [[1]]) (hin := ((lit_own (gs := [g45]) (by simp only [LitAt]; exact ⟨⟨Nat.zero_le _, at45⟩, trivial⟩) (by simp <;> omega)).done (by exact at46) (Nat.zero_le _)).intss) (hn := by decide) (hr := by decide); exact hh)) ?_
  rintro _ H47 ⟨c47, rc47, le47, ga47, gb47, gc47, gd47, rr47, rfl, o47⟩
  have v47 := o47.catR
  replace hst := hst.le le47
  replace hs := hs.le le47
  replace at6 := le47.2 _ _ at6
  have bs_v47 := v47
  have lv_v47 : Keep H46.next H47 H47 := fun _ _ _ h => h
  refine .r0 rfl rfl (.fillA rfl sz_27_D rfl rfl rfl rfl) ?_
  rintro _ H11003 ⟨rfl, st11003, at11003⟩
  replace hst := hst.sA st11003
  replace hs := hs.sA st11003
  replace lv_v47 := Keep.st lv_v47 st11003 (fun k hb hk => ⟨(by omega), trivial⟩)
  replace v47 := bs_v47.keep lv_v47 (Nat.le_refl _)
  refine .nil (hK22 _ _ ?_)
  refine .ret ?_
  refine hret _ _ ?_
  refine ⟨_, _, _, _, rfl, ag_27_D, (by rfl), (Mem.of_get at11003), ?_⟩
  exact ⟨c47, _, rfl, rc47.mono (by decide), v47.keep (.of_le (.refl _)) (by omega), hst, hs⟩
end Go.Proofs.Ytolfggcanbpknaa
namespace Go.Proofs.Ytolfggcanbpknaa
open Go Go.GL Go.RowKit Go.Proofs
set_option maxHeartbeats 8000000 in
theorem l02Bend_c {gS : Nat} {c : Cat} {p : CatP} {H : GHeap} (hs : DSrc 90 H gS := by assumption) (hin : c.In H p := by assumption) (hr : c.Rect 33000) :
    GCalls Try.prog 84 [.pointer (some ⟨gS, 0, none⟩), .agg (c.cells p).toArray] H (DrawnK 90 gS H) := by
  have hlS := hs.lt
  obtain ⟨a1, a2, a3, -, -, a6, -, a8, a9, -⟩ := id hr
  have hsm := hr.small (by omega)
  obtain ⟨n1, n2, n3, n4, n5, n6⟩ := id hsm
  refine GCalls.body (N := 92) (rs := [.cell 4 27]) Try.func84 rfl rfl rfl rfl (fun Qx hret hend => ?_)
  refine .fg [0, 1] rfl ?_
  have hst := St.refl [gS] H
  refine .seq (fun K1 hK1 => .region ?_)
  refine .R rfl (.boxR rfl sz_27_D rfl) ?_
  rintro _ H3 ⟨g3, rfl, le3, ge3, at3⟩
  replace hst := hst.le le3
  have lt_at3 := GHeap.ltg at3
  refine .R rfl (.allocR rfl ze_27_Hj rfl) ?_
  rintro _ H4 ⟨g4, rfl, le4, ge4, at4⟩
  replace hst := hst.le le4
  replace at3 := le4.2 _ _ at3
  have lt_at4 := GHeap.ltg at4
  refine .nil (hK1 _ _ (.seq (fun K2 hK2 => .region ?_)))
  have hs := (hs.le le3).le le4
  have hin4 := (hin.mono le3).mono le4
  refine .q rfl (.loadM ag_27_D rfl ⟨rfl, Mem.of_get at3⟩) ?_
  refine .call rfl rfl rfl rfl @Try.call111 rfl (l02OwnO_c (hin := hin4) (hs := hsm)) ?_
  rintro _ H8 ⟨le8, gF, gT, gI, gC, rr, rfl, v8⟩
  have aF := v8.a1
  have aT := v8.a2
  have aI := v8.a3
  have aC := v8.a4
  have bF := v8.b1
  have bT := v8.b2
  have bI := v8.b3
  have bC := v8.b4
  have n12 := v8.n12
  have n13 := v8.n13
  have n23 := v8.n23
  have nC1 := row_ne aC aF rfl
  have nC2 := row_ne aC aT rfl
  have nC3 := row_ne aC aI rfl
  have hRR := v8.rows
  have rk0 := St.refl [g3, gS, gF, gT, gI, gC] H8
  replace hst := hst.le le8
  replace hs := hs.le le8
  replace at3 := le8.2 _ _ at3
  replace at4 := le8.2 _ _ at4
  have lt_aF := GHeap.ltg aF
  refine .r0 rfl rfl (.fillA rfl sz_27_D rfl rfl rfl rfl) ?_
  rintro _ H1002 ⟨rfl, st1002, at1002⟩
  have nx_H1002 := st1002.nx
  replace hst := hst.sA st1002
  replace hs := hs.sA st1002
  replace rk0 := rk0.sA st1002
  have ne_g4_g3 : NE g4 g3 := .a
  replace at4 := st1002.s at4 ne_g4_g3.ne
  have ne_gF_g3 : NE gF g3 := .a
  replace aF := st1002.s aF ne_gF_g3.ne
  have ne_gT_g3 : NE gT g3 := .a
  replace aT := st1002.s aT ne_gT_g3.ne
  have ne_gI_g3 : NE gI g3 := .a
  replace aI := st1002.s aI ne_gI_g3.ne
  have ne_gC_g3 : NE gC g3 := .a
  replace aC := st1002.s aC ne_gC_g3.ne
  have lt_at1002 := GHeap.ltg at1002
  replace at1002 : GHeap.get H1002 g3 = some (.row [.int .i64 c.obj, .slice (some ⟨gF, 0, none⟩) c.src.length c.src.length, .slice (some ⟨gT, 0, none⟩) c.tgt.length c.tgt.length, .slice (some ⟨gI, 0, none⟩) c.idn.length c.idn.length, .slice (some ⟨gC, 0, none⟩) c.comp.length c.comp.length] 27 true) := at1002
  refine .nil (hK2 _ _ (.seq (fun K3 hK3 => .region ?_)))
  have offA : Off rr c.comp.length [g3, gS, gF, gT, gI, gC] := .cons (hRR.lowNe (by omega)) (.cons (hRR.lowNe (by omega)) (.cons v8.r1 (.cons v8.r2 (.cons v8.r3 (.cons (hRR.neT v8.a4 rfl) (.nil _ _))))))
  refine .q rfl (.fieldAddr fo_27_1_B rfl) ?_
  refine .q rfl (.load on_24_B rfl (by first | assumption | exact Mem.of_get at1002 1 _ rfl)) ?_
  refine .q rfl (.len sl_24_A rfl) (.mv rfl (.nil (hK3 _ _ (.seq (fun K4 hK4 => .region (.mv rfl (.mv rfl ?_)))))))
  refine .call rfl rfl rfl rfl @Try.call48 rfl (l01Next_c) ?_
  rintro _ H14 ⟨k14, rfl, ka14, kb14, kc14, st14, hs⟩
  have nx_H14 := st14.nx
  replace hst := hst.sA st14
  replace rk0 := rk0.sA st14
  have ne_g4_gS : NE g4 gS := .a
  replace at4 := st14.s at4 ne_g4_gS.ne
  have ne_gF_gS : NE gF gS := .a
  replace aF := st14.s aF ne_gF_gS.ne
  have ne_gT_gS : NE gT gS := .a
  replace aT := st14.s aT ne_gT_gS.ne
  have ne_gI_gS : NE gI gS := .a
  replace aI := st14.s aI ne_gI_gS.ne
  have ne_gC_gS : NE gC gS := .a
  replace aC := st14.s aC ne_gC_gS.ne
  have ne_g3_gS : NE g3 gS := .a
  replace at1002 := st14.s at1002 ne_g3_gS.ne
  refine .mv rfl (.nil (hK4 _ _ (.seq (fun K5 hK5 => .seq (fun K6 hK6 => .region (.mv rfl ?_))))))
  refine .call rfl rfl rfl rfl @Try.call48 rfl (l01Next_c) ?_
  rintro _ H16 ⟨k16, rfl, ka16, kb16, kc16, st16, hs⟩
  have nx_H16 := st16.nx
  replace hst := hst.sA st16
  replace rk0 := rk0.sA st16
  replace at4 := st16.s at4 ne_g4_gS.ne
  replace aF := st16.s aF ne_gF_gS.ne
  replace aT := st16.s aT ne_gT_gS.ne
  replace aI := st16.s aI ne_gI_gS.ne
  replace aC := st16.s aC ne_gC_gS.ne
  replace at1002 := st16.s at1002 ne_g3_gS.ne
  refine .nil (hK6 _ _ ?_)
  refine .block ?_
  refine .seq (fun K7 hK7 => .region (.q rfl (.cmp rfl rfl rfl) (.mv rfl (.nil (hK7 _ _ ?_)))))
  refine .cond rfl (fun h29 => ?_) (fun h29 => ?_)
  ·
   try simp only [sps] at h29
   refine .region (.mv rfl (.q rfl (.fieldAddr fo_27_0_B rfl) ?_))
   refine .q rfl (.load on_2_A rfl (by first | assumption | exact Mem.of_get at1002 0 _ rfl)) ?_
   refine .q rfl (.add rfl rfl rfl (by omega) (by omega)) ?_
   refine .R rfl (.litA rfl sl_24_A ze_2_L rfl rfl rfl rfl) ?_
   rintro _ H35 ⟨g35, rfl, le35, ge35, at35⟩
   replace hst := hst.le le35
   replace rk0 := rk0.le le35
   replace hs := hs.le le35
   replace at4 := le35.2 _ _ at4
   replace aF := le35.2 _ _ aF
   replace aT := le35.2 _ _ aT
   replace aI := le35.2 _ _ aI
   replace aC := le35.2 _ _ aC
   replace at1002 := le35.2 _ _ at1002
   refine .call rfl rfl rfl rfl @Try.call85 rfl ((by have hh := l01Pick_c (xs := [c.obj + 1, -1, 9]) (hl := fun H' s => Ints.of_get (s.same _ _ ⟨by omega, trivial⟩ at35)) (h0 := by simp); exact hh)) ?_
   rintro _ H36 ⟨i36, hi36, rfl, st36, hs⟩
   obtain ⟨k36, e36, b36⟩ : ∃ k : Int, ([c.obj + 1, -1, 9] : List Int).getD i36 0 = k ∧ -9223372036854775808 ≤ k ∧ k ≤ 9223372036854775807 := ⟨_, rfl, bd_iff.2 (by intro x hx; simp only [List.mem_cons, List.not_mem_nil, or_false] at hx; omega) _ hi36⟩
   rw [e36]
   replace hst := hst.sA st36
   replace rk0 := rk0.sA st36
   replace at4 := st36.s at4 ne_g4_gS.ne
   replace aF := st36.s aF ne_gF_gS.ne
   replace aT := st36.s aT ne_gT_gS.ne
   replace aI := st36.s aI ne_gI_gS.ne
   replace aC := st36.s aC ne_gC_gS.ne
   replace at1002 := st36.s at1002 ne_g3_gS.ne
   refine .q rfl (.fieldAddr fo_27_0_B rfl) ?_
   refine .r0 rfl rfl (.storeR rfl sz_2_Ch rfl rfl rfl (by assumption) (by first | exact Nat.le_of_ble_eq_true rfl | (simp; done) | (simp <;> omega))) ?_
   rintro _ H8007 ⟨rfl, st8007, at8007⟩
   replace hst := hst.sA st8007
   replace rk0 := rk0.sA st8007
   replace hs := hs.sA st8007
   replace at4 := st8007.s at4 ne_g4_g3.ne
   replace aF := st8007.s aF ne_gF_g3.ne
   replace aT := st8007.s aT ne_gT_g3.ne
   replace aI := st8007.s aI ne_gI_g3.ne
   replace aC := st8007.s aC ne_gC_g3.ne
   try simp only [Nat.zero_add, List.set_cons_succ, List.set_cons_zero] at at8007
   refine .nil (hK5 _ _ (.seq (fun K8 hK8 => .region ?_)))
   refine .q rfl (.loadM ag_27_D rfl ⟨rfl, Mem.of_get at8007⟩) ?_
   refine .r0 rfl rfl (.fillA rfl sz_27_D rfl rfl rfl rfl) ?_
   rintro _ H22001 ⟨rfl, st22001, at22001⟩
   replace hst := hst.sA st22001
   replace hs := hs.sA st22001
   have ne_gF_g4 : NE gF g4 := .a
   replace aF := st22001.s aF ne_gF_g4.ne
   have ne_gT_g4 : NE gT g4 := .a
   replace aT := st22001.s aT ne_gT_g4.ne
   have ne_gI_g4 : NE gI g4 := .a
   replace aI := st22001.s aI ne_gI_g4.ne
   have ne_gC_g4 : NE gC g4 := .a
   replace aC := st22001.s aC ne_gC_g4.ne
   refine .nil (hK8 _ _ ?_)
   refine .ret ?_
   refine hret _ _ ?_
   refine ⟨_, _, _, _, rfl, ag_27_D, (by rfl), (Mem.of_get at22001), ?_⟩
   have hR' := (hRR.st rk0 offA).st st22001 (.cons (hRR.lowNe (by omega)) (.nil _ _))
   exact ⟨⟨k36, c.src, c.tgt, c.idn, c.comp⟩, ownP gF gT gI gC rr, rfl, ⟨n1, n2, n3, n4, n5, b36⟩, (KIn.own (c := ⟨k36, c.src, c.tgt, c.idn, c.comp⟩) aF bF aT bT aI bI aC bC hR').keep (.of_le (.refl _)) (by omega), hst, hs⟩
  try simp only [sps] at h29
  refine .seq (fun K9 hK9 => .region (.q rfl (.cmp rfl rfl rfl) (.mv rfl (.nil (hK9 _ _ ?_)))))
  refine .cond rfl (fun h38 => ?_) (fun h38 => ?_)
  ·
   try simp only [sps] at h38
   refine .region (.q rfl (.fieldAddr fo_27_1_B rfl) ?_)
   refine .q rfl (.load on_24_B rfl (by first | assumption | exact Mem.of_get at1002 1 _ rfl)) ?_
   refine .R rfl (.litA rfl sl_24_A ze_2_L rfl rfl rfl rfl) ?_
   rintro _ H42 ⟨g42, rfl, le42, ge42, at42⟩
   replace hst := hst.le le42
   replace rk0 := rk0.le le42
   replace hs := hs.le le42
   replace at4 := le42.2 _ _ at4
   replace aF := le42.2 _ _ aF
   replace aT := le42.2 _ _ aT
   replace aI := le42.2 _ _ aI
   replace aC := le42.2 _ _ aC
   replace at1002 := le42.2 _ _ at1002
   have lt_at42 := GHeap.ltg at42
   refine .R rfl (.appendI rfl sl_24_A ze_2_L rfl by_2_L sl_24_A rfl rfl (by assumption) (by assumption) (by first | omega | (simp <;> omega)) (by omega) (by omega)) ?_
   rintro _ H43 ⟨g43, rfl, st43, ge43, at43⟩
   replace hst := hst.sA st43
   replace rk0 := rk0.sA st43
   replace hs := hs.sA st43
   replace at4 := st43.s at4
   replace aT := st43.s aT
   replace aI := st43.s aI
   replace aC := st43.s aC
   replace at1002 := st43.s at1002 (Ne.symm ne_gF_g3.ne)
   refine .q rfl (.fieldAddr fo_27_1_B rfl) ?_
   refine .r0 rfl rfl (.storeR rfl sz_24_Ch rfl rfl rfl (by assumption) (by first | exact Nat.le_of_ble_eq_true rfl | (simp; done) | (simp <;> omega))) ?_
   rintro _ H10005 ⟨rfl, st10005, at10005⟩
   replace hst := hst.sA st10005
   replace rk0 := rk0.sA st10005
   replace hs := hs.sA st10005
   replace at4 := st10005.s at4 ne_g4_g3.ne
   replace aT := st10005.s aT ne_gT_g3.ne
   replace aI := st10005.s aI ne_gI_g3.ne
   replace aC := st10005.s aC ne_gC_g3.ne
   replace at43 := st10005.s at43
   try simp only [Nat.zero_add, List.set_cons_succ, List.set_cons_zero] at at10005
   refine .nil (hK5 _ _ (.seq (fun K10 hK10 => .region ?_)))
   refine .q rfl (.loadM ag_27_D rfl ⟨rfl, Mem.of_get at10005⟩) ?_
   refine .r0 rfl rfl (.fillA rfl sz_27_D rfl rfl rfl rfl) ?_
   rintro _ H22001x2 ⟨rfl, st22001x2, at22001x2⟩
   replace hst := hst.sA st22001x2
   replace hs := hs.sA st22001x2
   have ne_gT_g4 : NE gT g4 := .a
   replace aT := st22001x2.s aT ne_gT_g4.ne
   have ne_gI_g4 : NE gI g4 := .a
   replace aI := st22001x2.s aI ne_gI_g4.ne
   have ne_gC_g4 : NE gC g4 := .a
   replace aC := st22001x2.s aC ne_gC_g4.ne
   replace at43 := st22001x2.s at43
   refine .nil (hK10 _ _ ?_)
   refine .ret ?_
   refine hret _ _ ?_
   refine ⟨_, _, _, _, rfl, ag_27_D, (by rfl), (Mem.of_get at22001x2), ?_⟩
   have hR' := (hRR.st rk0 offA).st st22001x2 (.cons (hRR.lowNe (by omega)) (.nil _ _))
   exact ⟨⟨c.obj, c.src ++ [0], c.tgt, c.idn, c.comp⟩, ownP g43 gT gI gC rr, by simp [Cat.cells, ownP], ⟨by simp; omega, n2, n3, n4, n5, n6⟩, (KIn.own (c := ⟨c.obj, c.src ++ [0], c.tgt, c.idn, c.comp⟩) at43 (by omega) aT bT aI bI aC bC hR').keep (.of_le (.refl _)) (by omega), hst, hs⟩
  try simp only [sps] at h38
  refine .seq (fun K11 hK11 => .region (.q rfl (.cmp rfl rfl rfl) (.mv rfl (.nil (hK11 _ _ ?_)))))
  refine .cond rfl (fun h45 => ?_) (fun h45 => ?_)
  ·
   try simp only [sps] at h45
   refine .seq (fun K12 hK12 => .region (.q rfl (.fieldAddr fo_27_3_B rfl) ?_))
   refine .q rfl (.load on_24_B rfl (by first | assumption | exact Mem.of_get at1002 3 _ rfl)) ?_
   refine .q rfl (.len sl_24_A rfl) (.q rfl (.cmp rfl rfl rfl) (.nil (hK12 _ _ ?_)))
   refine .cond rfl (fun h50 => ?_) (fun h50 => ?_)
   ·
    try simp only [sps] at h50
    refine .regionDB mo_B (.q 0 (.q 1 (.q 2 (.q 3 (.q 4 (.c 5 1 (.q 6 (.c 7 0 (.done))))))))) (by kernel_rfl) (GHeap.le_erase H16 gS) ?_
    have hbl := GHeap.le_erase H16 gS
    have a3B := GHeap.get_erase_of (g := gS) at1002 (by omega)
    have aIB := GHeap.get_erase_of (g := gS) aI (by omega)
    refine .qB rfl hbl (.fieldAddr fo_27_3_B rfl) (.qB rfl hbl (.load on_24_B rfl (Mem.of_get a3B 3 _ rfl)) (.qB rfl hbl (.move rfl) (.qB rfl hbl (.move rfl) ?_)))
    refine .qB rfl hbl (.add rfl rfl rfl (by omega) (by omega)) ?_
    refine .call1 rfl rfl rfl rfl rfl @Try.call48 rfl (l01Next_c) ?_
    rintro _ H56 ⟨k56, rfl, ka56, kb56, kc56, st56, hs⟩
    replace hbl := hbl.erase_st st56
    refine ⟨hbl, ?_⟩
    replace hst := hst.sA st56
    replace rk0 := rk0.sA st56
    replace at4 := st56.s at4 ne_g4_gS.ne
    replace aF := st56.s aF ne_gF_gS.ne
    replace aT := st56.s aT ne_gT_gS.ne
    replace aI := st56.s aI ne_gI_gS.ne
    replace aC := st56.s aC ne_gC_gS.ne
    replace at1002 := st56.s at1002 ne_g3_gS.ne
    refine .qB rfl hbl (.idxN (j := 0) sl_24_A (SlA.of_row aIB (by first | rfl | (simp; done) | (simp <;> omega))) rfl rfl (by omega)) ?_
    refine .r0 rfl rfl rfl (.storeI rfl sz_2_Ch rfl rfl (by assumption) (by first | omega | (simp <;> omega))) ?_
    rintro _ H13007 ⟨rfl, st13007, at13007⟩
    replace hst := hst.sA st13007
    replace rk0 := rk0.sA st13007
    replace hs := hs.sA st13007
    have ne_g4_gI : NE g4 gI := .a
    replace at4 := st13007.s at4 ne_g4_gI.ne
    replace aF := st13007.s aF
    replace aT := st13007.s aT
    replace aC := st13007.s aC
    replace at1002 := st13007.s at1002 (Ne.symm ne_gI_g3.ne)
    rw [Nat.zero_add] at at13007
    refine .done ?_
    refine hK5 _ _ (.seq (fun K13 hK13 => .region ?_))
    refine .q rfl (.loadM ag_27_D rfl ⟨rfl, Mem.of_get at1002⟩) ?_
    refine .r0 rfl rfl (.fillA rfl sz_27_D rfl rfl rfl rfl) ?_
    rintro _ H22001x3 ⟨rfl, st22001x3, at22001x3⟩
    replace hst := hst.sA st22001x3
    replace hs := hs.sA st22001x3
    have ne_gF_g4 : NE gF g4 := .a
    replace aF := st22001x3.s aF ne_gF_g4.ne
    have ne_gT_g4 : NE gT g4 := .a
    replace aT := st22001x3.s aT ne_gT_g4.ne
    have ne_gC_g4 : NE gC g4 := .a
    replace aC := st22001x3.s aC ne_gC_g4.ne
    replace at13007 := st22001x3.s at13007 (Ne.symm ne_g4_gI.ne)
    refine .nil (hK13 _ _ ?_)
    refine .ret ?_
    refine hret _ _ ?_
    refine ⟨_, _, _, _, rfl, ag_27_D, (by rfl), (Mem.of_get at22001x3), ?_⟩
    have hR' := (hRR.st rk0 offA).st st22001x3 (.cons (hRR.lowNe (by omega)) (.nil _ _))
    exact ⟨⟨c.obj, c.src, c.tgt, c.idn.set 0 k56, c.comp⟩, ownP gF gT gI gC rr, by simp [Cat.cells, ownP], ⟨n1, n2, by rw [List.length_set]; exact n3, n4, n5, n6⟩, (KIn.own (c := ⟨c.obj, c.src, c.tgt, c.idn.set 0 k56, c.comp⟩) aF bF aT bT at13007 bI aC bC hR').keep (.of_le (.refl _)) (by omega), hst, hs⟩
   try simp only [sps] at h50
   refine .skip ?_
   refine hK5 _ _ (.seq (fun K14 hK14 => .region ?_))
   refine .q rfl (.loadM ag_27_D rfl ⟨rfl, Mem.of_get at1002⟩) ?_
   refine .r0 rfl rfl (.fillA rfl sz_27_D rfl rfl rfl rfl) ?_
   rintro _ H22001x4 ⟨rfl, st22001x4, at22001x4⟩
   replace hst := hst.sA st22001x4
   replace hs := hs.sA st22001x4
   have ne_gF_g4 : NE gF g4 := .a
   replace aF := st22001x4.s aF ne_gF_g4.ne
   have ne_gT_g4 : NE gT g4 := .a
   replace aT := st22001x4.s aT ne_gT_g4.ne
   have ne_gI_g4 : NE gI g4 := .a
   replace aI := st22001x4.s aI ne_gI_g4.ne
   have ne_gC_g4 : NE gC g4 := .a
   replace aC := st22001x4.s aC ne_gC_g4.ne
   refine .nil (hK14 _ _ ?_)
   refine .ret ?_
   refine hret _ _ ?_
   refine ⟨_, _, _, _, rfl, ag_27_D, (by rfl), (Mem.of_get at22001x4), ?_⟩
   have hR' := (hRR.st rk0 offA).st st22001x4 (.cons (hRR.lowNe (by omega)) (.nil _ _))
   exact ⟨c, ownP gF gT gI gC rr, rfl, hsm, (KIn.own aF bF aT bT aI bI aC bC hR').keep (.of_le (.refl _)) (by omega), hst, hs⟩
  try simp only [sps] at h45
  refine .seq (fun K15 hK15 => .seq (fun K16 hK16 => .region (.q rfl (.cmp rfl rfl rfl) (.mv rfl (.nil (hK16 _ _ ?_))))))
  refine .cond rfl (fun h58 => ?_) (fun h58 => ?_)
  ·
   try simp only [sps] at h58
   refine .skip ?_
   refine hK15 _ _ ?_
   refine .cond rfl (fun h58 => ?_) (fun h58 => ?_)
   ·
    try simp only [sps] at h58
    refine .seq (fun K17 hK17 => .region (.mv rfl (.q rfl (.cmp rfl rfl rfl) (.nil (hK17 _ _ ?_)))))
    refine .cond rfl (fun h63 => ?_) (fun h63 => ?_)
    ·
     try simp only [sps] at h63
     refine .regionDB mo_B (.q 0 (.q 1 (.q 2 (.q 3 (.q 4 (.q 5 (.q 6 (.q 8 (.q 9 (.q 10 (.c 7 1 (.c 11 1 (.q 12 (.q 13 (.c 14 0 (.done)))))))))))))))) (by kernel_rfl) (GHeap.le_erase H16 gS) ?_
     have hbl := GHeap.le_erase H16 gS
     have a3B := GHeap.get_erase_of (g := gS) at1002 (by omega)
     have aCB := GHeap.get_erase_of (g := gS) aC (by omega)
     obtain ⟨gi, hgi, hbi, hati⟩ := (hRR.st rk0 offA).row k14.toNat (by omega)
     have atiB := GHeap.get_erase_of (g := gS) hati (by omega)
     have cC := slsL_cell aCB (i := k14.toNat) (by omega)
     rw [hgi] at cC
     have m1 : gF ≠ gi := fun e => v8.r1 k14.toNat (by omega) (by rw [hgi, e])
     have m2 : gT ≠ gi := fun e => v8.r2 k14.toNat (by omega) (by rw [hgi, e])
     have m3 : gI ≠ gi := fun e => v8.r3 k14.toNat (by omega) (by rw [hgi, e])
     have m4 := row_ne aC hati rfl
     have hl9 := a9 k14.toNat (by omega)
     refine .qB rfl hbl (.fieldAddr fo_27_4_B rfl) (.qB rfl hbl (.load on_25_B rfl (Mem.of_get a3B 4 _ rfl)) (.qB rfl hbl (.move rfl) ?_))
     refine .qB rfl hbl (.idx1 sl_25_B (SlA.of_row aCB (by first | rfl | (simp; done) | (simp <;> omega))) rfl rfl (by omega) (by omega)) ?_
     refine .qB rfl hbl (.load on_24_B rfl cC) (.qB rfl hbl (.move rfl) (.qB rfl hbl (.move rfl) (.qB rfl hbl (.move rfl) (.qB rfl hbl (.move rfl) ?_))))
     refine .qB rfl hbl (.add rfl rfl rfl (by omega) (by omega)) ?_
     refine .call1 rfl rfl rfl rfl rfl @Try.call48 rfl (l01Next_c) ?_
     rintro _ H71 ⟨k71, rfl, ka71, kb71, kc71, st71, hs⟩
     replace hbl := hbl.erase_st st71
     refine ⟨hbl, ?_⟩
     replace hst := hst.sA st71
     replace rk0 := rk0.sA st71
     replace at4 := st71.s at4 ne_g4_gS.ne
     replace aF := st71.s aF ne_gF_gS.ne
     replace aT := st71.s aT ne_gT_gS.ne
     replace aI := st71.s aI ne_gI_gS.ne
     replace aC := st71.s aC ne_gC_gS.ne
     replace at1002 := st71.s at1002 ne_g3_gS.ne
     have ne_gi_gS : NE gi gS := .a
     replace hati := st71.s hati ne_gi_gS.ne
     refine .call1 rfl rfl rfl rfl rfl @Try.call48 rfl (l01Next_c) ?_
     rintro _ H75 ⟨k75, rfl, ka75, kb75, kc75, st75, hs⟩
     replace hbl := hbl.erase_st st75
     refine ⟨hbl, ?_⟩
     replace hst := hst.sA st75
     replace rk0 := rk0.sA st75
     replace at4 := st75.s at4 ne_g4_gS.ne
     replace aF := st75.s aF ne_gF_gS.ne
     replace aT := st75.s aT ne_gT_gS.ne
     replace aI := st75.s aI ne_gI_gS.ne
     replace aC := st75.s aC ne_gC_gS.ne
     replace at1002 := st75.s at1002 ne_g3_gS.ne
     replace hati := st75.s hati ne_gi_gS.ne
     refine .qB rfl hbl (.sub rfl rfl rfl (by omega) (by omega)) ?_
     refine .qB rfl hbl (.idx1 sl_24_A (SlA.of_row atiB (by first | rfl | (simp; done) | (simp <;> omega))) rfl rfl (by omega) (by omega)) ?_
     refine .r0 rfl rfl rfl (.storeI rfl sz_2_Ch rfl rfl (by assumption) (by first | omega | (simp <;> omega))) ?_
     rintro _ H18014 ⟨rfl, st18014, at18014⟩
     replace hst := hst.sA st18014
     replace hs := hs.sA st18014
     have ne_g4_gi : NE g4 gi := .a
     replace at4 := st18014.s at4 ne_g4_gi.ne
     have ne_gF_gi : NE gF gi := .a
     replace aF := st18014.s aF ne_gF_gi.ne
     have ne_gT_gi : NE gT gi := .a
     replace aT := st18014.s aT ne_gT_gi.ne
     have ne_gI_gi : NE gI gi := .a
     replace aI := st18014.s aI ne_gI_gi.ne
     have ne_gC_gi : NE gC gi := .a
     replace aC := st18014.s aC ne_gC_gi.ne
     have ne_g3_gi : NE g3 gi := .a
     replace at1002 := st18014.s at1002 ne_g3_gi.ne
     rw [Nat.zero_add] at at18014
     have hB18 := bend_set (hRR.st rk0 offA) st18014 (by omega) hgi at18014 (by rw [List.length_set])
     refine .done ?_
     refine hK5 _ _ (.seq (fun K18 hK18 => .region ?_))
     refine .q rfl (.loadM ag_27_D rfl ⟨rfl, Mem.of_get at1002⟩) ?_
     refine .r0 rfl rfl (.fillA rfl sz_27_D rfl rfl rfl rfl) ?_
     rintro _ H22001x5 ⟨rfl, st22001x5, at22001x5⟩
     replace hst := hst.sA st22001x5
     replace hs := hs.sA st22001x5
     have ne_gF_g4 : NE gF g4 := .a
     replace aF := st22001x5.s aF ne_gF_g4.ne
     have ne_gT_g4 : NE gT g4 := .a
     replace aT := st22001x5.s aT ne_gT_g4.ne
     have ne_gI_g4 : NE gI g4 := .a
     replace aI := st22001x5.s aI ne_gI_g4.ne
     have ne_gC_g4 : NE gC g4 := .a
     replace aC := st22001x5.s aC ne_gC_g4.ne
     refine .nil (hK18 _ _ ?_)
     refine .ret ?_
     refine hret _ _ ?_
     refine ⟨_, _, _, _, rfl, ag_27_D, (by rfl), (Mem.of_get at22001x5), ?_⟩
     obtain ⟨T, hT1, hT2, hT3, hT4⟩ := hB18
     have hR' := hT4.st st22001x5 (.cons (hT4.lowNe (by omega)) (.nil _ _))
     rw [← hT1] at aC
     exact ⟨⟨c.obj, c.src, c.tgt, c.idn, T⟩, ownP gF gT gI gC rr, by simp [Cat.cells, ownP, hT2], ⟨n1, n2, n3, (by rw [hT2]; exact n4), fun i => Nat.le_trans (Nat.le_of_eq (hT3 i)) (n5 i), n6⟩, (KIn.own (c := ⟨c.obj, c.src, c.tgt, c.idn, T⟩) aF bF aT bT aI bI aC bC hR').keep (.of_le (.refl _)) (by omega), hst, hs⟩
    try simp only [sps] at h63
    refine .skip ?_
    refine hK5 _ _ (.seq (fun K19 hK19 => .region ?_))
    refine .q rfl (.loadM ag_27_D rfl ⟨rfl, Mem.of_get at1002⟩) ?_
    refine .r0 rfl rfl (.fillA rfl sz_27_D rfl rfl rfl rfl) ?_
    rintro _ H22001x6 ⟨rfl, st22001x6, at22001x6⟩
    replace hst := hst.sA st22001x6
    replace hs := hs.sA st22001x6
    have ne_gF_g4 : NE gF g4 := .a
    replace aF := st22001x6.s aF ne_gF_g4.ne
    have ne_gT_g4 : NE gT g4 := .a
    replace aT := st22001x6.s aT ne_gT_g4.ne
    have ne_gI_g4 : NE gI g4 := .a
    replace aI := st22001x6.s aI ne_gI_g4.ne
    have ne_gC_g4 : NE gC g4 := .a
    replace aC := st22001x6.s aC ne_gC_g4.ne
    refine .nil (hK19 _ _ ?_)
    refine .ret ?_
    refine hret _ _ ?_
    refine ⟨_, _, _, _, rfl, ag_27_D, (by rfl), (Mem.of_get at22001x6), ?_⟩
    have hR' := (hRR.st rk0 offA).st st22001x6 (.cons (hRR.lowNe (by omega)) (.nil _ _))
    exact ⟨c, ownP gF gT gI gC rr, rfl, hsm, (KIn.own aF bF aT bT aI bI aC bC hR').keep (.of_le (.refl _)) (by omega), hst, hs⟩
   simp only [sps] at h58; omega
  try simp only [sps] at h58
  refine .seq (fun K20 hK20 => .region (.q rfl (.cmp rfl rfl rfl) (.mv rfl (.nil (hK20 _ _ ?_)))))
  refine .cond rfl (fun h58 => ?_) (fun h58 => ?_)
  ·
   try simp only [sps] at h58
   refine .skip ?_
   refine hK15 _ _ ?_
   refine .cond rfl (fun h58 => ?_) (fun h58 => ?_)
   ·
    try simp only [sps] at h58
    refine .seq (fun K21 hK21 => .region (.mv rfl (.q rfl (.cmp rfl rfl rfl) (.nil (hK21 _ _ ?_)))))
    refine .cond rfl (fun h63 => ?_) (fun h63 => ?_)
    ·
     try simp only [sps] at h63
     refine .regionDB mo_B (.q 0 (.q 1 (.q 2 (.q 3 (.q 4 (.q 5 (.q 6 (.q 8 (.q 9 (.q 10 (.c 7 1 (.c 11 1 (.q 12 (.q 13 (.c 14 0 (.done)))))))))))))))) (by kernel_rfl) (GHeap.le_erase H16 gS) ?_
     have hbl := GHeap.le_erase H16 gS
     have a3B := GHeap.get_erase_of (g := gS) at1002 (by omega)
     have aCB := GHeap.get_erase_of (g := gS) aC (by omega)
     obtain ⟨gi, hgi, hbi, hati⟩ := (hRR.st rk0 offA).row k14.toNat (by omega)
     have atiB := GHeap.get_erase_of (g := gS) hati (by omega)
     have cC := slsL_cell aCB (i := k14.toNat) (by omega)
     rw [hgi] at cC
     have m1 : gF ≠ gi := fun e => v8.r1 k14.toNat (by omega) (by rw [hgi, e])
     have m2 : gT ≠ gi := fun e => v8.r2 k14.toNat (by omega) (by rw [hgi, e])
     have m3 : gI ≠ gi := fun e => v8.r3 k14.toNat (by omega) (by rw [hgi, e])
     have m4 := row_ne aC hati rfl
     have hl9 := a9 k14.toNat (by omega)
     refine .qB rfl hbl (.fieldAddr fo_27_4_B rfl) (.qB rfl hbl (.load on_25_B rfl (Mem.of_get a3B 4 _ rfl)) (.qB rfl hbl (.move rfl) ?_))
     refine .qB rfl hbl (.idx1 sl_25_B (SlA.of_row aCB (by first | rfl | (simp; done) | (simp <;> omega))) rfl rfl (by omega) (by omega)) ?_
     refine .qB rfl hbl (.load on_24_B rfl cC) (.qB rfl hbl (.move rfl) (.qB rfl hbl (.move rfl) (.qB rfl hbl (.move rfl) (.qB rfl hbl (.move rfl) ?_))))
     refine .qB rfl hbl (.add rfl rfl rfl (by omega) (by omega)) ?_
     refine .call1 rfl rfl rfl rfl rfl @Try.call48 rfl (l01Next_c) ?_
     rintro _ H71x2 ⟨k71x2, rfl, ka71x2, kb71x2, kc71x2, st71x2, hs⟩
     replace hbl := hbl.erase_st st71x2
     refine ⟨hbl, ?_⟩
     replace hst := hst.sA st71x2
     replace rk0 := rk0.sA st71x2
     replace at4 := st71x2.s at4 ne_g4_gS.ne
     replace aF := st71x2.s aF ne_gF_gS.ne
     replace aT := st71x2.s aT ne_gT_gS.ne
     replace aI := st71x2.s aI ne_gI_gS.ne
     replace aC := st71x2.s aC ne_gC_gS.ne
     replace at1002 := st71x2.s at1002 ne_g3_gS.ne
     have ne_gi_gS : NE gi gS := .a
     replace hati := st71x2.s hati ne_gi_gS.ne
     refine .call1 rfl rfl rfl rfl rfl @Try.call48 rfl (l01Next_c) ?_
     rintro _ H75x2 ⟨k75x2, rfl, ka75x2, kb75x2, kc75x2, st75x2, hs⟩
     replace hbl := hbl.erase_st st75x2
     refine ⟨hbl, ?_⟩
     replace hst := hst.sA st75x2
     replace rk0 := rk0.sA st75x2
     replace at4 := st75x2.s at4 ne_g4_gS.ne
     replace aF := st75x2.s aF ne_gF_gS.ne
     replace aT := st75x2.s aT ne_gT_gS.ne
     replace aI := st75x2.s aI ne_gI_gS.ne
     replace aC := st75x2.s aC ne_gC_gS.ne
     replace at1002 := st75x2.s at1002 ne_g3_gS.ne
     replace hati := st75x2.s hati ne_gi_gS.ne
     refine .qB rfl hbl (.sub rfl rfl rfl (by omega) (by omega)) ?_
     refine .qB rfl hbl (.idx1 sl_24_A (SlA.of_row atiB (by first | rfl | (simp; done) | (simp <;> omega))) rfl rfl (by omega) (by omega)) ?_
     refine .r0 rfl rfl rfl (.storeI rfl sz_2_Ch rfl rfl (by assumption) (by first | omega | (simp <;> omega))) ?_
     rintro _ H18014x2 ⟨rfl, st18014x2, at18014x2⟩
     replace hst := hst.sA st18014x2
     replace hs := hs.sA st18014x2
     have ne_g4_gi : NE g4 gi := .a
     replace at4 := st18014x2.s at4 ne_g4_gi.ne
     have ne_gF_gi : NE gF gi := .a
     replace aF := st18014x2.s aF ne_gF_gi.ne
     have ne_gT_gi : NE gT gi := .a
     replace aT := st18014x2.s aT ne_gT_gi.ne
     have ne_gI_gi : NE gI gi := .a
     replace aI := st18014x2.s aI ne_gI_gi.ne
     have ne_gC_gi : NE gC gi := .a
     replace aC := st18014x2.s aC ne_gC_gi.ne
     have ne_g3_gi : NE g3 gi := .a
     replace at1002 := st18014x2.s at1002 ne_g3_gi.ne
     rw [Nat.zero_add] at at18014x2
     have hB18 := bend_set (hRR.st rk0 offA) st18014x2 (by omega) hgi at18014x2 (by rw [List.length_set])
     refine .done ?_
     refine hK5 _ _ (.seq (fun K22 hK22 => .region ?_))
     refine .q rfl (.loadM ag_27_D rfl ⟨rfl, Mem.of_get at1002⟩) ?_
     refine .r0 rfl rfl (.fillA rfl sz_27_D rfl rfl rfl rfl) ?_
     rintro _ H22001x7 ⟨rfl, st22001x7, at22001x7⟩
     replace hst := hst.sA st22001x7
     replace hs := hs.sA st22001x7
     have ne_gF_g4 : NE gF g4 := .a
     replace aF := st22001x7.s aF ne_gF_g4.ne
     have ne_gT_g4 : NE gT g4 := .a
     replace aT := st22001x7.s aT ne_gT_g4.ne
     have ne_gI_g4 : NE gI g4 := .a
     replace aI := st22001x7.s aI ne_gI_g4.ne
     have ne_gC_g4 : NE gC g4 := .a
     replace aC := st22001x7.s aC ne_gC_g4.ne
     refine .nil (hK22 _ _ ?_)
     refine .ret ?_
     refine hret _ _ ?_
     refine ⟨_, _, _, _, rfl, ag_27_D, (by rfl), (Mem.of_get at22001x7), ?_⟩
     obtain ⟨T, hT1, hT2, hT3, hT4⟩ := hB18
     have hR' := hT4.st st22001x7 (.cons (hT4.lowNe (by omega)) (.nil _ _))
     rw [← hT1] at aC
     exact ⟨⟨c.obj, c.src, c.tgt, c.idn, T⟩, ownP gF gT gI gC rr, by simp [Cat.cells, ownP, hT2], ⟨n1, n2, n3, (by rw [hT2]; exact n4), fun i => Nat.le_trans (Nat.le_of_eq (hT3 i)) (n5 i), n6⟩, (KIn.own (c := ⟨c.obj, c.src, c.tgt, c.idn, T⟩) aF bF aT bT aI bI aC bC hR').keep (.of_le (.refl _)) (by omega), hst, hs⟩
    try simp only [sps] at h63
    refine .skip ?_
    refine hK5 _ _ (.seq (fun K23 hK23 => .region ?_))
    refine .q rfl (.loadM ag_27_D rfl ⟨rfl, Mem.of_get at1002⟩) ?_
    refine .r0 rfl rfl (.fillA rfl sz_27_D rfl rfl rfl rfl) ?_
    rintro _ H22001x8 ⟨rfl, st22001x8, at22001x8⟩
    replace hst := hst.sA st22001x8
    replace hs := hs.sA st22001x8
    have ne_gF_g4 : NE gF g4 := .a
    replace aF := st22001x8.s aF ne_gF_g4.ne
    have ne_gT_g4 : NE gT g4 := .a
    replace aT := st22001x8.s aT ne_gT_g4.ne
    have ne_gI_g4 : NE gI g4 := .a
    replace aI := st22001x8.s aI ne_gI_g4.ne
    have ne_gC_g4 : NE gC g4 := .a
    replace aC := st22001x8.s aC ne_gC_g4.ne
    refine .nil (hK23 _ _ ?_)
    refine .ret ?_
    refine hret _ _ ?_
    refine ⟨_, _, _, _, rfl, ag_27_D, (by rfl), (Mem.of_get at22001x8), ?_⟩
    have hR' := (hRR.st rk0 offA).st st22001x8 (.cons (hRR.lowNe (by omega)) (.nil _ _))
    exact ⟨c, ownP gF gT gI gC rr, rfl, hsm, (KIn.own aF bF aT bT aI bI aC bC hR').keep (.of_le (.refl _)) (by omega), hst, hs⟩
   simp only [sps] at h58; omega
  try simp only [sps] at h58
  refine .region (.q rfl (.cmp rfl rfl rfl) (.mv rfl (.nil (hK15 _ _ ?_))))
  refine .cond rfl (fun h58 => ?_) (fun h58 => ?_)
  ·
   try simp only [sps] at h58
   refine .seq (fun K24 hK24 => .region (.mv rfl (.q rfl (.cmp rfl rfl rfl) (.nil (hK24 _ _ ?_)))))
   refine .cond rfl (fun h63 => ?_) (fun h63 => ?_)
   ·
    try simp only [sps] at h63
    refine .regionDB mo_B (.q 0 (.q 1 (.q 2 (.q 3 (.q 4 (.q 5 (.q 6 (.q 8 (.q 9 (.q 10 (.c 7 1 (.c 11 1 (.q 12 (.q 13 (.c 14 0 (.done)))))))))))))))) (by kernel_rfl) (GHeap.le_erase H16 gS) ?_
    have hbl := GHeap.le_erase H16 gS
    have a3B := GHeap.get_erase_of (g := gS) at1002 (by omega)
    have aCB := GHeap.get_erase_of (g := gS) aC (by omega)
    obtain ⟨gi, hgi, hbi, hati⟩ := (hRR.st rk0 offA).row k14.toNat (by omega)
    have atiB := GHeap.get_erase_of (g := gS) hati (by omega)
    have cC := slsL_cell aCB (i := k14.toNat) (by omega)
    rw [hgi] at cC
    have m1 : gF ≠ gi := fun e => v8.r1 k14.toNat (by omega) (by rw [hgi, e])
    have m2 : gT ≠ gi := fun e => v8.r2 k14.toNat (by omega) (by rw [hgi, e])
    have m3 : gI ≠ gi := fun e => v8.r3 k14.toNat (by omega) (by rw [hgi, e])
    have m4 := row_ne aC hati rfl
    have hl9 := a9 k14.toNat (by omega)
    refine .qB rfl hbl (.fieldAddr fo_27_4_B rfl) (.qB rfl hbl (.load on_25_B rfl (Mem.of_get a3B 4 _ rfl)) (.qB rfl hbl (.move rfl) ?_))
    refine .qB rfl hbl (.idx1 sl_25_B (SlA.of_row aCB (by first | rfl | (simp; done) | (simp <;> omega))) rfl rfl (by omega) (by omega)) ?_
    refine .qB rfl hbl (.load on_24_B rfl cC) (.qB rfl hbl (.move rfl) (.qB rfl hbl (.move rfl) (.qB rfl hbl (.move rfl) (.qB rfl hbl (.move rfl) ?_))))
    refine .qB rfl hbl (.add rfl rfl rfl (by omega) (by omega)) ?_
    refine .call1 rfl rfl rfl rfl rfl @Try.call48 rfl (l01Next_c) ?_
    rintro _ H71x3 ⟨k71x3, rfl, ka71x3, kb71x3, kc71x3, st71x3, hs⟩
    replace hbl := hbl.erase_st st71x3
    refine ⟨hbl, ?_⟩
    replace hst := hst.sA st71x3
    replace rk0 := rk0.sA st71x3
    replace at4 := st71x3.s at4 ne_g4_gS.ne
    replace aF := st71x3.s aF ne_gF_gS.ne
    replace aT := st71x3.s aT ne_gT_gS.ne
    replace aI := st71x3.s aI ne_gI_gS.ne
    replace aC := st71x3.s aC ne_gC_gS.ne
    replace at1002 := st71x3.s at1002 ne_g3_gS.ne
    have ne_gi_gS : NE gi gS := .a
    replace hati := st71x3.s hati ne_gi_gS.ne
    refine .call1 rfl rfl rfl rfl rfl @Try.call48 rfl (l01Next_c) ?_
    rintro _ H75x3 ⟨k75x3, rfl, ka75x3, kb75x3, kc75x3, st75x3, hs⟩
    replace hbl := hbl.erase_st st75x3
    refine ⟨hbl, ?_⟩
    replace hst := hst.sA st75x3
    replace rk0 := rk0.sA st75x3
    replace at4 := st75x3.s at4 ne_g4_gS.ne
    replace aF := st75x3.s aF ne_gF_gS.ne
    replace aT := st75x3.s aT ne_gT_gS.ne
    replace aI := st75x3.s aI ne_gI_gS.ne
    replace aC := st75x3.s aC ne_gC_gS.ne
    replace at1002 := st75x3.s at1002 ne_g3_gS.ne
    replace hati := st75x3.s hati ne_gi_gS.ne
    refine .qB rfl hbl (.sub rfl rfl rfl (by omega) (by omega)) ?_
    refine .qB rfl hbl (.idx1 sl_24_A (SlA.of_row atiB (by first | rfl | (simp; done) | (simp <;> omega))) rfl rfl (by omega) (by omega)) ?_
    refine .r0 rfl rfl rfl (.storeI rfl sz_2_Ch rfl rfl (by assumption) (by first | omega | (simp <;> omega))) ?_
    rintro _ H18014x3 ⟨rfl, st18014x3, at18014x3⟩
    replace hst := hst.sA st18014x3
    replace hs := hs.sA st18014x3
    have ne_g4_gi : NE g4 gi := .a
    replace at4 := st18014x3.s at4 ne_g4_gi.ne
    have ne_gF_gi : NE gF gi := .a
    replace aF := st18014x3.s aF ne_gF_gi.ne
    have ne_gT_gi : NE gT gi := .a
    replace aT := st18014x3.s aT ne_gT_gi.ne
    have ne_gI_gi : NE gI gi := .a
    replace aI := st18014x3.s aI ne_gI_gi.ne
    have ne_gC_gi : NE gC gi := .a
    replace aC := st18014x3.s aC ne_gC_gi.ne
    have ne_g3_gi : NE g3 gi := .a
    replace at1002 := st18014x3.s at1002 ne_g3_gi.ne
    rw [Nat.zero_add] at at18014x3
    have hB18 := bend_set (hRR.st rk0 offA) st18014x3 (by omega) hgi at18014x3 (by rw [List.length_set])
    refine .done ?_
    refine hK5 _ _ (.seq (fun K25 hK25 => .region ?_))
    refine .q rfl (.loadM ag_27_D rfl ⟨rfl, Mem.of_get at1002⟩) ?_
    refine .r0 rfl rfl (.fillA rfl sz_27_D rfl rfl rfl rfl) ?_
    rintro _ H22001x9 ⟨rfl, st22001x9, at22001x9⟩
    replace hst := hst.sA st22001x9
    replace hs := hs.sA st22001x9
    have ne_gF_g4 : NE gF g4 := .a
    replace aF := st22001x9.s aF ne_gF_g4.ne
    have ne_gT_g4 : NE gT g4 := .a
    replace aT := st22001x9.s aT ne_gT_g4.ne
    have ne_gI_g4 : NE gI g4 := .a
    replace aI := st22001x9.s aI ne_gI_g4.ne
    have ne_gC_g4 : NE gC g4 := .a
    replace aC := st22001x9.s aC ne_gC_g4.ne
    refine .nil (hK25 _ _ ?_)
    refine .ret ?_
    refine hret _ _ ?_
    refine ⟨_, _, _, _, rfl, ag_27_D, (by rfl), (Mem.of_get at22001x9), ?_⟩
    obtain ⟨T, hT1, hT2, hT3, hT4⟩ := hB18
    have hR' := hT4.st st22001x9 (.cons (hT4.lowNe (by omega)) (.nil _ _))
    rw [← hT1] at aC
    exact ⟨⟨c.obj, c.src, c.tgt, c.idn, T⟩, ownP gF gT gI gC rr, by simp [Cat.cells, ownP, hT2], ⟨n1, n2, n3, (by rw [hT2]; exact n4), fun i => Nat.le_trans (Nat.le_of_eq (hT3 i)) (n5 i), n6⟩, (KIn.own (c := ⟨c.obj, c.src, c.tgt, c.idn, T⟩) aF bF aT bT aI bI aC bC hR').keep (.of_le (.refl _)) (by omega), hst, hs⟩
   try simp only [sps] at h63
   refine .skip ?_
   refine hK5 _ _ (.seq (fun K26 hK26 => .region ?_))
   refine .q rfl (.loadM ag_27_D rfl ⟨rfl, Mem.of_get at1002⟩) ?_
   refine .r0 rfl rfl (.fillA rfl sz_27_D rfl rfl rfl rfl) ?_
   rintro _ H22001x10 ⟨rfl, st22001x10, at22001x10⟩
   replace hst := hst.sA st22001x10
   replace hs := hs.sA st22001x10
   have ne_gF_g4 : NE gF g4 := .a
   replace aF := st22001x10.s aF ne_gF_g4.ne
   have ne_gT_g4 : NE gT g4 := .a
   replace aT := st22001x10.s aT ne_gT_g4.ne
   have ne_gI_g4 : NE gI g4 := .a
   replace aI := st22001x10.s aI ne_gI_g4.ne
   have ne_gC_g4 : NE gC g4 := .a
   replace aC := st22001x10.s aC ne_gC_g4.ne
   refine .nil (hK26 _ _ ?_)
   refine .ret ?_
   refine hret _ _ ?_
   refine ⟨_, _, _, _, rfl, ag_27_D, (by rfl), (Mem.of_get at22001x10), ?_⟩
   have hR' := (hRR.st rk0 offA).st st22001x10 (.cons (hRR.lowNe (by omega)) (.nil _ _))
   exact ⟨c, ownP gF gT gI gC rr, rfl, hsm, (KIn.own aF bF aT bT aI bI aC bC hR').keep (.of_le (.refl _)) (by omega), hst, hs⟩
  try simp only [sps] at h58
  refine .seq (fun K27 hK27 => .region (.q rfl (.cmp rfl rfl rfl) (.mv rfl (.nil (hK27 _ _ ?_)))))
  refine .cond rfl (fun h78 => ?_) (fun h78 => ?_)
  ·
   try simp only [sps] at h78
   refine .seq (fun K28 hK28 => .region (.mv rfl (.q rfl (.cmp rfl rfl rfl) (.nil (hK28 _ _ ?_)))))
   refine .cond rfl (fun h81 => ?_) (fun h81 => ?_)
   ·
    try simp only [sps] at h81
    refine .regionDB mo_B (.q 0 (.q 1 (.q 2 (.q 3 (.q 4 (.q 5 (.q 6 (.c 7 1 (.q 8 (.c 9 0 (.done))))))))))) (by kernel_rfl) (GHeap.le_erase H16 gS) ?_
    have hbl := GHeap.le_erase H16 gS
    have a3B := GHeap.get_erase_of (g := gS) at1002 (by omega)
    have aTB := GHeap.get_erase_of (g := gS) aT (by omega)
    refine .qB rfl hbl (.fieldAddr fo_27_2_B rfl) (.qB rfl hbl (.load on_24_B rfl (Mem.of_get a3B 2 _ rfl)) (.qB rfl hbl (.move rfl) (.qB rfl hbl (.move rfl) (.qB rfl hbl (.fieldAddr fo_27_0_B rfl) (.qB rfl hbl (.load on_2_A rfl (Mem.of_get a3B 0 _ rfl)) ?_)))))
    refine .qB rfl hbl (.add rfl rfl rfl (by omega) (by omega)) ?_
    refine .call1 rfl rfl rfl rfl rfl @Try.call48 rfl (l01Next_c) ?_
    rintro _ H89 ⟨k89, rfl, ka89, kb89, kc89, st89, hs⟩
    replace hbl := hbl.erase_st st89
    refine ⟨hbl, ?_⟩
    replace hst := hst.sA st89
    replace rk0 := rk0.sA st89
    replace at4 := st89.s at4 ne_g4_gS.ne
    replace aF := st89.s aF ne_gF_gS.ne
    replace aT := st89.s aT ne_gT_gS.ne
    replace aI := st89.s aI ne_gI_gS.ne
    replace aC := st89.s aC ne_gC_gS.ne
    replace at1002 := st89.s at1002 ne_g3_gS.ne
    refine .qB rfl hbl (.idx1 sl_24_A (SlA.of_row aTB (by first | rfl | (simp; done) | (simp <;> omega))) rfl rfl (by omega) (by omega)) ?_
    refine .r0 rfl rfl rfl (.storeI rfl sz_2_Ch rfl rfl (by assumption) (by first | omega | (simp <;> omega))) ?_
    rintro _ H21009 ⟨rfl, st21009, at21009⟩
    replace hst := hst.sA st21009
    replace rk0 := rk0.sA st21009
    replace hs := hs.sA st21009
    have ne_g4_gT : NE g4 gT := .a
    replace at4 := st21009.s at4 ne_g4_gT.ne
    replace aF := st21009.s aF
    replace aI := st21009.s aI
    replace aC := st21009.s aC
    replace at1002 := st21009.s at1002 (Ne.symm ne_gT_g3.ne)
    rw [Nat.zero_add] at at21009
    refine .done ?_
    refine hK5 _ _ (.seq (fun K29 hK29 => .region ?_))
    refine .q rfl (.loadM ag_27_D rfl ⟨rfl, Mem.of_get at1002⟩) ?_
    refine .r0 rfl rfl (.fillA rfl sz_27_D rfl rfl rfl rfl) ?_
    rintro _ H22001x11 ⟨rfl, st22001x11, at22001x11⟩
    replace hst := hst.sA st22001x11
    replace hs := hs.sA st22001x11
    have ne_gF_g4 : NE gF g4 := .a
    replace aF := st22001x11.s aF ne_gF_g4.ne
    have ne_gI_g4 : NE gI g4 := .a
    replace aI := st22001x11.s aI ne_gI_g4.ne
    have ne_gC_g4 : NE gC g4 := .a
    replace aC := st22001x11.s aC ne_gC_g4.ne
    replace at21009 := st22001x11.s at21009 (Ne.symm ne_g4_gT.ne)
    refine .nil (hK29 _ _ ?_)
    refine .ret ?_
    refine hret _ _ ?_
    refine ⟨_, _, _, _, rfl, ag_27_D, (by rfl), (Mem.of_get at22001x11), ?_⟩
    have hR' := (hRR.st rk0 offA).st st22001x11 (.cons (hRR.lowNe (by omega)) (.nil _ _))
    exact ⟨⟨c.obj, c.src, c.tgt.set k14.toNat k89, c.idn, c.comp⟩, ownP gF gT gI gC rr, by simp [Cat.cells, ownP], ⟨n1, by rw [List.length_set]; exact n2, n3, n4, n5, n6⟩, (KIn.own (c := ⟨c.obj, c.src, c.tgt.set k14.toNat k89, c.idn, c.comp⟩) aF bF at21009 bT aI bI aC bC hR').keep (.of_le (.refl _)) (by omega), hst, hs⟩
   try simp only [sps] at h81
   refine .skip ?_
   refine hK5 _ _ (.seq (fun K30 hK30 => .region ?_))
   refine .q rfl (.loadM ag_27_D rfl ⟨rfl, Mem.of_get at1002⟩) ?_
   refine .r0 rfl rfl (.fillA rfl sz_27_D rfl rfl rfl rfl) ?_
   rintro _ H22001x12 ⟨rfl, st22001x12, at22001x12⟩
   replace hst := hst.sA st22001x12
   replace hs := hs.sA st22001x12
   have ne_gF_g4 : NE gF g4 := .a
   replace aF := st22001x12.s aF ne_gF_g4.ne
   have ne_gT_g4 : NE gT g4 := .a
   replace aT := st22001x12.s aT ne_gT_g4.ne
   have ne_gI_g4 : NE gI g4 := .a
   replace aI := st22001x12.s aI ne_gI_g4.ne
   have ne_gC_g4 : NE gC g4 := .a
   replace aC := st22001x12.s aC ne_gC_g4.ne
   refine .nil (hK30 _ _ ?_)
   refine .ret ?_
   refine hret _ _ ?_
   refine ⟨_, _, _, _, rfl, ag_27_D, (by rfl), (Mem.of_get at22001x12), ?_⟩
   have hR' := (hRR.st rk0 offA).st st22001x12 (.cons (hRR.lowNe (by omega)) (.nil _ _))
   exact ⟨c, ownP gF gT gI gC rr, rfl, hsm, (KIn.own aF bF aT bT aI bI aC bC hR').keep (.of_le (.refl _)) (by omega), hst, hs⟩
  try simp only [sps] at h78
  refine .seq (fun K31 hK31 => .region (.mv rfl (.q rfl (.cmp rfl rfl rfl) (.nil (hK31 _ _ ?_)))))
  refine .cond rfl (fun h18 => ?_) (fun h18 => ?_)
  ·
   try simp only [sps] at h18
   refine .regionD mo_B (.q 0 (.q 1 (.q 2 (.q 3 (.q 4 (.q 5 (.q 6 (.q 7 (.q 8 (.q 9 (.c 10 0 (.done)))))))))))) (by kernel_rfl) ?_
   have hl9 := a9 k14.toNat (by omega)
   obtain ⟨gi, hgi, -, hati⟩ := (hRR.st rk0 offA).row k14.toNat (by omega)
   have cC := slsL_cell aC (i := k14.toNat) (by omega)
   rw [hgi] at cC
   refine .q rfl (.fieldAddr fo_27_4_B rfl) ?_
   refine .q rfl (.load on_25_B rfl (by first | assumption | exact Mem.of_get at1002 4 _ rfl)) ?_
   refine .mv rfl rfl (.q rfl (.fieldAddr fo_27_4_B rfl) ?_)
   refine .q rfl (.load on_25_B rfl (by first | assumption | exact Mem.of_get at1002 4 _ rfl)) ?_
   refine .mv rfl rfl ?_
   refine .q rfl (.idx1 sl_25_B (by first | exact (Intss.sl (by assumption)) | exact SlA.of_row aC (by first | rfl | (simp; done) | (simp <;> omega))) rfl rfl (by omega) (by omega)) ?_
   refine .q rfl (.load on_24_B rfl cC) ?_
   refine .q rfl (.slice (l := 1) (h := (c.comp.getD k14.toNat []).length) sl_24_A rfl hati ⟨_, rfl⟩ rfl (by omega) (by omega)) ?_
   refine .q rfl (.idx1 sl_25_B (by first | exact (Intss.sl (by assumption)) | exact SlA.of_row aC (by first | rfl | (simp; done) | (simp <;> omega))) rfl rfl (by omega) (by omega)) ?_
   refine .r0 rfl rfl rfl (.storeR rfl sz_24_Ch rfl rfl rfl (by assumption) (by first | exact Nat.le_of_ble_eq_true rfl | (simp; done) | (simp <;> omega))) ?_
   rintro _ H6010 ⟨rfl, st6010, at6010⟩
   replace hst := hst.sA st6010
   replace rk0 := rk0.sA st6010
   replace hs := hs.sA st6010
   have ne_g4_gC : NE g4 gC := .a
   replace at4 := st6010.s at4 ne_g4_gC.ne
   replace aF := st6010.s aF
   replace aT := st6010.s aT
   replace aI := st6010.s aI
   replace at1002 := st6010.s at1002 (Ne.symm ne_gC_g3.ne)
   refine .done ?_
   refine hK5 _ _ (.seq (fun K32 hK32 => .region ?_))
   refine .q rfl (.loadM ag_27_D rfl ⟨rfl, Mem.of_get at1002⟩) ?_
   refine .r0 rfl rfl (.fillA rfl sz_27_D rfl rfl rfl rfl) ?_
   rintro _ H22001x13 ⟨rfl, st22001x13, at22001x13⟩
   replace hst := hst.sA st22001x13
   replace hs := hs.sA st22001x13
   have ne_gF_g4 : NE gF g4 := .a
   replace aF := st22001x13.s aF ne_gF_g4.ne
   have ne_gT_g4 : NE gT g4 := .a
   replace aT := st22001x13.s aT ne_gT_g4.ne
   have ne_gI_g4 : NE gI g4 := .a
   replace aI := st22001x13.s aI ne_gI_g4.ne
   replace at6010 := st22001x13.s at6010 (Ne.symm ne_g4_gC.ne)
   refine .nil (hK32 _ _ ?_)
   refine .ret ?_
   refine hret _ _ ?_
   refine ⟨_, _, _, _, rfl, ag_27_D, (by rfl), (Mem.of_get at22001x13), ?_⟩
   have hR' := (hRR.st rk0 offA).st st22001x13 (.cons (hRR.lowNe (by omega)) (.nil _ _))
   obtain ⟨rr', T, hT1, hT2, hT3, hT4⟩ := bend_cut hR' (by omega) hgi rfl
   rw [Nat.zero_add, hT1] at at6010
   exact ⟨⟨c.obj, c.src, c.tgt, c.idn, T⟩, ownP gF gT gI gC rr', by simp [Cat.cells, ownP, hT2], ⟨n1, n2, n3, (by rw [hT2]; exact n4), hT3 _ n5, n6⟩, (KIn.parts (c := ⟨c.obj, c.src, c.tgt, c.idn, T⟩) aF bF aT bT aI bI at6010 bC hT4).keep (.of_le (.refl _)) (by omega), hst, hs⟩
  try simp only [sps] at h18
  refine .skip ?_
  refine hK5 _ _ (.seq (fun K33 hK33 => .region ?_))
  refine .q rfl (.loadM ag_27_D rfl ⟨rfl, Mem.of_get at1002⟩) ?_
  refine .r0 rfl rfl (.fillA rfl sz_27_D rfl rfl rfl rfl) ?_
  rintro _ H22001x14 ⟨rfl, st22001x14, at22001x14⟩
  replace hst := hst.sA st22001x14
  replace hs := hs.sA st22001x14
  have ne_gF_g4 : NE gF g4 := .a
  replace aF := st22001x14.s aF ne_gF_g4.ne
  have ne_gT_g4 : NE gT g4 := .a
  replace aT := st22001x14.s aT ne_gT_g4.ne
  have ne_gI_g4 : NE gI g4 := .a
  replace aI := st22001x14.s aI ne_gI_g4.ne
  have ne_gC_g4 : NE gC g4 := .a
  replace aC := st22001x14.s aC ne_gC_g4.ne
  refine .nil (hK33 _ _ ?_)
  refine .ret ?_
  refine hret _ _ ?_
  refine ⟨_, _, _, _, rfl, ag_27_D, (by rfl), (Mem.of_get at22001x14), ?_⟩
  have hR' := (hRR.st rk0 offA).st st22001x14 (.cons (hRR.lowNe (by omega)) (.nil _ _))
  exact ⟨c, ownP gF gT gI gC rr, rfl, hsm, (KIn.own aF bF aT bT aI bI aC bC hR').keep (.of_le (.refl _)) (by omega), hst, hs⟩
end Go.Proofs.Ytolfggcanbpknaa
namespace Go.Proofs.Ytolfggcanbpknaa
open Go Go.GL Go.RowKit Go.Proofs
set_option maxHeartbeats 8000000 in
theorem l02Draw_c {gS : Nat} {m n : Int} {H : GHeap} (hs : DSrc 90 H gS := by assumption) :
    GCalls Try.prog 49 [.pointer (some ⟨gS, 0, none⟩), .int .i64 m, .int .i64 n] H (DrawnK 90 gS H) := by
  have hlS := hs.lt
  refine GCalls.body (N := 19) (rs := [.cell 6 27]) Try.func49 rfl rfl rfl rfl (fun Qx hret hend => ?_)
  refine .fg [0, 1, 2] rfl ?_
  have hst := St.refl [gS] H
  refine .seq (fun K1 hK1 => .region ?_)
  refine .R rfl (.allocR rfl ze_27_Hj rfl) ?_
  rintro _ H6 ⟨g6, rfl, le6, ge6, at6⟩
  have nx_H6 := le6.1
  replace hst := hst.le le6
  have lt_at6 := GHeap.ltg at6
  refine .nil (hK1 _ _ (.seq (fun K2 hK2 => .region ?_)))
  have hs := hs.le le6
  refine .mv rfl (.mv rfl (.mv rfl ?_))
  refine .call rfl rfl rfl rfl @Try.call83 rfl (l02Some_c) ?_
  rintro _ H11 ⟨c11, p11, rfl, rc11, v11, st11, hs⟩
  have nx_H11 := st11.nx
  replace hst := hst.sA st11
  have ne_g6_gS : NE g6 gS := .a
  replace at6 := st11.s at6 ne_g6_gS.ne
  have bs_v11 := v11
  have lv_v11 : Keep H6.next H11 H11 := fun _ _ _ h => h
  refine .R rfl (.allocR rfl ze_27_Hj rfl) ?_
  rintro _ H7 ⟨g7, rfl, le7, ge7, at7⟩
  replace hst := hst.le le7
  replace hs := hs.le le7
  replace at6 := le7.2 _ _ at6
  replace lv_v11 := Keep.le lv_v11 le7
  refine .r0 rfl rfl (.fillA rfl sz_27_D rfl rfl rfl rfl) ?_
  rintro _ H1005 ⟨rfl, st1005, at1005⟩
  replace hst := hst.sA st1005
  replace hs := hs.sA st1005
  replace at6 := st1005.s at6
  replace lv_v11 := Keep.st lv_v11 st1005 (fun k hb hk => ⟨(by omega), trivial⟩)
  have lt_at1005 := GHeap.ltg at1005
  refine .nil (hK2 _ _ (.seq (fun K3 hK3 => .seq (fun K4 hK4 => .region (.mv rfl ?_)))))
  refine .call rfl rfl rfl rfl @Try.call48 rfl (l01Next_c) ?_
  rintro _ H13 ⟨k13, rfl, ka13, kb13, kc13, st13, hs⟩
  have nx_H13 := st13.nx
  replace hst := hst.sA st13
  replace at6 := st13.s at6 ne_g6_gS.ne
  replace at1005 := st13.s at1005
  replace lv_v11 := Keep.st lv_v11 st13 (fun k hb hk => ⟨(by omega), trivial⟩)
  replace v11 := bs_v11.keep lv_v11 (Nat.le_refl _)
  have i11 := v11.inn
  refine .q rfl (.cmp rfl rfl rfl) (.nil (hK4 _ _ ?_))
  refine .cond rfl (fun h14 => ?_) (fun h14 => ?_)
  ·
   try simp only [sps] at h14
   refine .seq (fun K5 hK5 => .region (.mv rfl ?_))
   refine .q rfl (.loadM ag_27_D rfl ⟨rfl, Mem.of_get at1005⟩) ?_
   refine .call rfl rfl rfl rfl @Try.call84 rfl (l02Bend_c (hin := i11) (hr := rc11)) ?_
   rintro _ H17 ⟨c17, p17, rfl, sm17, v17, st17, hs⟩
   replace hst := hst.sA st17
   replace at6 := st17.s at6 ne_g6_gS.ne
   clear i11
   have bs_v17 := v17
   have lv_v17 : Keep H13.next H17 H17 := fun _ _ _ h => h
   refine .r0 rfl rfl (.fillA rfl sz_27_D rfl rfl rfl rfl) ?_
   rintro _ H3003 ⟨rfl, st3003, at3003⟩
   replace hst := hst.sA st3003
   replace hs := hs.sA st3003
   replace lv_v17 := Keep.st lv_v17 st3003 (fun k hb hk => ⟨(by omega), trivial⟩)
   replace v17 := bs_v17.keep lv_v17 (Nat.le_refl _)
   refine .nil (hK5 _ _ ?_)
   refine .ret ?_
   refine hret _ _ ?_
   refine ⟨_, _, _, _, rfl, ag_27_D, (by rfl), (Mem.of_get at3003), ?_⟩
   exact ⟨c17, p17, rfl, sm17, v17.keep (.of_le (.refl _)) (by omega), hst, hs⟩
  try simp only [sps] at h14
  refine .skip ?_
  refine hK3 _ _ (.seq (fun K6 hK6 => .region ?_))
  refine .q rfl (.loadM ag_27_D rfl ⟨rfl, Mem.of_get at1005⟩) ?_
  refine .r0 rfl rfl (.fillA rfl sz_27_D rfl rfl rfl rfl) ?_
  rintro _ H4001 ⟨rfl, st4001, at4001⟩
  replace hst := hst.sA st4001
  replace hs := hs.sA st4001
  replace lv_v11 := Keep.st lv_v11 st4001 (fun k hb hk => ⟨(by omega), trivial⟩)
  replace v11 := bs_v11.keep lv_v11 (Nat.le_refl _)
  refine .nil (hK6 _ _ ?_)
  refine .ret ?_
  refine hret _ _ ?_
  refine ⟨_, _, _, _, rfl, ag_27_D, (by rfl), (Mem.of_get at4001), ?_⟩
  exact ⟨c11, p11, rfl, rc11.small (by omega), v11.kin.keep (.of_le (.refl _)) (by omega), hst, hs⟩
end Go.Proofs.Ytolfggcanbpknaa
namespace Go.GL
def Cat.pw (c : Cat) (f : Int) : Nat → Int
  | 0 => f
  | k + 1 => c.th (c.pw f k) f
structure Cat.Cyc (c : Cat) (f : Int) (k a : Nat) : Prop where
  lt : a < k
  eq : c.pw f k = c.pw f a
  ne : ∀ i j, i < j → j < k → c.pw f i ≠ c.pw f j
inductive Cat.Pw (c : Cat) (f i p e : Int) : Prop
  | err (h : c.code [f] ≠ 0) (hi : i = 0) (hp : p = 0) (he : e = c.code [f])
  | ends (h : c.code [f] = 0) (hn : ¬ c.S f = c.T f) (hi : i = 0) (hp : p = 0) (he : e = 5)
  | yes (h : c.code [f] = 0) (hn : c.S f = c.T f) (k a : Nat) (hc : c.Cyc f k a) (hi : i = (a : Int) + 1) (hp : p = (k : Int) - a) (he : e = 0)
theorem allIn_two {f g n : Int} : allIn [f, g] n = true ↔ (0 ≤ f ∧ f < n) ∧ 0 ≤ g ∧ g < n := by
  rw [allIn_iff]
  exact ⟨fun h => ⟨h 0 (by simp), h 1 (by simp)⟩, fun h i hi => by
    obtain rfl | rfl : i = 0 ∨ i = 1 := by simp at hi; omega
    · exact h.1
    · exact h.2⟩
theorem Cat.code_two {c : Cat} {f g : Int} : c.code [f, g] = 0 ↔ c.Is ∧ (0 ≤ f ∧ f < c.src.length) ∧ 0 ≤ g ∧ g < c.src.length := by rw [Cat.code_ok, allIn_two]
end Go.GL
namespace Go.GL
noncomputable def Cat.liC (c : Cat) (f k : Int) : Int := if c.code [f, k] = 0 then (if c.T f = c.T k then 0 else 5) else c.code [f, k]
theorem Cat.liC_err {c : Cat} {f k : Int} (h : c.code [f, k] ≠ 0) : c.liC f k = c.code [f, k] := by unfold Cat.liC; rw [if_neg h]
theorem Cat.liC_no {c : Cat} {f k : Int} (h : c.code [f, k] = 0) (h' : ¬ c.T f = c.T k) : c.liC f k = 5 := by unfold Cat.liC; rw [if_pos h, if_neg h']
theorem Cat.liC_ok {c : Cat} {f k : Int} (h : c.code [f, k] = 0) (h' : c.T f = c.T k) : c.liC f k = 0 := by unfold Cat.liC; rw [if_pos h, if_pos h']
end Go.GL
namespace Go.Proofs.Ytolfggcanbpknaa
open Go Go.GL Go.RowKit Go.Proofs
theorem liftsOf_c {c : Cat} {p : CatP} {f k : Int} {H : GHeap} (hin : c.In H p := by assumption) (hs : c.Small := by assumption) :
    GCalls Try.prog 42 [.agg (c.cells p).toArray, .int .i64 f, .int .i64 k] H (NewLC (c.liC f k) (codeL (c.liC f k) (c.lif f k)) H) := by
  refine GCalls.body (N := 30) (rs := [.tmp 6, .tmp 7]) Try.func42 rfl rfl rfl rfl (fun Qx hret hend => ?_)
  refine .fg [0, 1, 2] rfl ?_
  have hle := GHeap.Le.refl H
  have base_hin := hin
  refine .seq (fun K1 hK1 => .region ?_)
  refine .R rfl (.boxR rfl sz_27_D rfl) ?_
  rintro _ H3 ⟨g3, rfl, le3, ge3, at3⟩
  replace hle := hle.trans le3
  have lt_at3 := GHeap.ltg at3
  replace hin := base_hin.mono hle
  have hb3 : Cat.At _ g3 0 c p := ⟨Mem.of_get at3, hin⟩
  refine .mv rfl (.mv rfl (.nil (hK1 _ _ (.seq (fun K2 hK2 => .seq (fun K3 hK3 => .region (.mv rfl (.mv rfl ?_))))))))
  refine .R rfl (.litA rfl sl_24_A ze_2_L rfl rfl rfl rfl) ?_
  rintro _ H11 ⟨g11, rfl, le11, ge11, at11⟩
  replace hle := hle.trans le11
  replace at3 := le11.2 _ _ at3
  have lt_at11 := GHeap.ltg at11
  replace hin := base_hin.mono hle
  clear hb3
  have hb3 : Cat.At _ g3 0 c p := ⟨Mem.of_get at3, hin⟩
  obtain ⟨-, -, c23, -, -, -, i23, -, -⟩ := hb3.get
  refine .callQ rfl rfl rfl rfl @Try.call51 rfl (arrowCode_c (xs := [f, k]) (hx := Ints.of_get (by assumption)) (hl := by simp)) ?_
  refine .mv rfl (.nil (hK3 _ _ (.seq (fun K4 hK4 => .region (.mv rfl (.q rfl (.cmp rfl rfl rfl) (.nil (hK4 _ _ ?_))))))))
  refine .cond rfl (fun h14 => ?_) (fun h14 => ?_)
  ·
   try simp only [sps] at h14
   refine .seq (fun K5 hK5 => .region (.mv rfl (.mv rfl (.mv rfl (.nil (hK5 _ _ ?_))))))
   refine .ret ?_
   refine hret _ _ ?_
   refine ⟨_, _, rfl, rfl, ?_⟩
   rw [Cat.liC_err h14, codeL_err h14]; exact ⟨hle, none, rfl, .inl ⟨rfl, rfl⟩⟩
  simp only [sps] at h14
  obtain ⟨hI, ⟨f0, f1⟩, k0, k1⟩ := Cat.code_two.1 h14
  have hS := hI.1
  have q1 := hS.tl
  refine .skip ?_
  refine hK2 _ _ (.seq (fun K6 hK6 => .seq (fun K7 hK7 => ?_)))
  refine .regionD mo_B (.q 0 (.q 1 (.q 2 (.q 3 (.q 4 (.q 5 (.q 6 (.q 7 (.q 8 (.q 9 (.q 10 (.done)))))))))))) (by kernel_rfl) ?_
  refine .q rfl (.fieldAddr fo_27_2_B rfl) ?_
  refine .q rfl (.load on_24_B rfl (by first | assumption | exact Mem.of_get at3 2 _ rfl)) ?_
  refine .mv rfl rfl ?_
  refine .q rfl (.idx1 sl_24_A (by assumption) rfl rfl (by omega) (by omega)) ?_
  refine .q rfl (.loadI on_2_A (by assumption) rfl (by omega)) ?_
  refine .q rfl (.fieldAddr fo_27_2_B rfl) ?_
  refine .q rfl (.load on_24_B rfl (by first | assumption | exact Mem.of_get at3 2 _ rfl)) ?_
  refine .mv rfl rfl ?_
  refine .q rfl (.idx1 sl_24_A (by assumption) rfl rfl (by omega) (by omega)) ?_
  refine .q rfl (.loadI on_2_A (by assumption) rfl (by omega)) ?_
  refine .q rfl (.cmp rfl rfl rfl) ?_
  refine .done ?_
  refine hK7 _ _ ?_
  refine .cond rfl (fun h26 => ?_) (fun h26 => ?_)
  ·
   try simp only [sps] at h26
   refine .seq (fun K8 hK8 => .region (.mv rfl (.mv rfl (.nil (hK8 _ _ ?_)))))
   refine .ret ?_
   refine hret _ _ ?_
   refine ⟨_, _, rfl, rfl, ?_⟩
   rw [Cat.liC_no h14 h26, codeL_err (by decide)]; exact ⟨hle, none, rfl, .inl ⟨rfl, rfl⟩⟩
  simp only [sps] at h26
  refine .skip ?_
  refine hK6 _ _ (.seq (fun K9 hK9 => .region (.mv rfl (.mv rfl ?_))))
  refine .call rfl rfl rfl rfl @Try.call74 rfl (lifts_c) ?_
  rintro _ H29 ⟨le29, g29, rfl, at29, ge29⟩
  replace hle := hle.trans le29
  replace at3 := le29.2 _ _ at3
  replace hin := base_hin.mono hle
  clear hb3 c23 i23
  have hb3 : Cat.At _ g3 0 c p := ⟨Mem.of_get at3, hin⟩
  refine .mv rfl (.mv rfl (.nil (hK9 _ _ ?_)))
  refine .ret ?_
  refine hret _ _ ?_
  refine ⟨_, _, rfl, rfl, ?_⟩
  rw [Cat.liC_ok h14 h26, codeL_ok rfl]; exact ⟨hle, _, rfl, .of_at at29 (by omega)⟩
theorem l02Number_c {gS : Nat} {n : Int} {H : GHeap} (hs : DSrc 90 H gS := by assumption) (hn : -9223372036854775808 ≤ n ∧ n ≤ 9223372036854775807 := by omega) :
    GCalls Try.prog 69 [.pointer (some ⟨gS, 0, none⟩), .int .i64 n] H (fun v H' => ∃ k, v = .int .i64 k ∧ I64 k ∧ St [gS] H H' ∧ DSrc 90 H' gS) := by
  have hlS := hs.lt
  refine GCalls.body (N := 15) (rs := [.tmp 4]) Try.func69 rfl rfl rfl rfl (fun Qx hret hend => ?_)
  refine .fg [0, 1] rfl ?_
  have hst := St.refl [gS] H
  refine .seq (fun K1 hK1 => .region (.mv rfl (.nil (hK1 _ _ (.seq (fun K2 hK2 => .seq (fun K3 hK3 => .region ?_)))))))
  have hs := hs
  refine .mv rfl ?_
  refine .call rfl rfl rfl rfl @Try.call48 rfl (l01Next_c) ?_
  rintro _ H6 ⟨k6, rfl, ka6, kb6, kc6, st6, hs⟩
  have nx_H6 := st6.nx
  replace hst := hst.sA st6
  refine .q rfl (.cmp rfl rfl rfl) (.nil (hK3 _ _ ?_))
  refine .cond rfl (fun h7 => ?_) (fun h7 => ?_)
  ·
   try simp only [sps] at h7
   refine .seq (fun K4 hK4 => .region (.mv rfl (.mv rfl ?_)))
   refine .R rfl (.litA rfl sl_24_A ze_2_L rfl rfl rfl rfl) ?_
   rintro _ H10 ⟨g10, rfl, le10, ge10, at10⟩
   replace hst := hst.le le10
   replace hs := hs.le le10
   refine .call rfl rfl rfl rfl @Try.call85 rfl ((by have hh := l01Pick_c (xs := [-1, n, 9223372036854775807, -9223372036854775808]) (hl := fun H' s => Ints.of_get (s.same _ _ ⟨by omega, trivial⟩ at10)) (h0 := by simp); exact hh)) ?_
   rintro _ H11 ⟨i11, hi11, rfl, st11, hs⟩
   obtain ⟨k11, e11, b11⟩ : ∃ k : Int, ([-1, n, 9223372036854775807, -9223372036854775808] : List Int).getD i11 0 = k ∧ I64 k := ⟨_, rfl, bd_iff.2 (by intro x hx; simp only [List.mem_cons, List.not_mem_nil, or_false] at hx; omega) _ hi11⟩
   rw [e11]
   replace hst := hst.sA st11
   refine .mv rfl (.nil (hK4 _ _ ?_))
   refine .ret ?_
   refine hret _ _ ?_
   refine ⟨_, rfl, ?_⟩
   exact ⟨k11, rfl, b11, hst, hs⟩
  try simp only [sps] at h7
  refine .skip ?_
  refine hK2 _ _ (.seq (fun K5 hK5 => .region (.mv rfl (.mv rfl ?_))))
  refine .call rfl rfl rfl rfl @Try.call48 rfl (l01Next_c) ?_
  rintro _ H14 ⟨k14, rfl, ka14, kb14, kc14, st14, hs⟩
  replace hst := hst.sA st14
  refine .mv rfl (.nil (hK5 _ _ ?_))
  refine .ret ?_
  refine hret _ _ ?_
  refine ⟨_, rfl, ?_⟩
  exact ⟨k14, rfl, ⟨by omega, by omega⟩, hst, hs⟩
end Go.Proofs.Ytolfggcanbpknaa
namespace Go.Proofs.Ytolfggcanbpknaa
open Go Go.GL Go.RowKit Go.Proofs
end Go.Proofs.Ytolfggcanbpknaa
namespace Go.Proofs.Ytolfggcanbpknaa
open Go Go.GL Go.RowKit Go.Proofs
end Go.Proofs.Ytolfggcanbpknaa
namespace Go.Proofs.Ytolfggcanbpknaa
open Go Go.GL Go.RowKit Go.Proofs
theorem l02Object_c {c : Cat} {p : CatP} {x : Int} {H : GHeap} (hin : c.In H p := by assumption) : GCalls Try.prog 75 [.agg (c.cells p).toArray, .int .i64 x] H (Ret (.bool (B (0 ≤ x ∧ x < c.obj))) H) := by
  refine GCalls.ret rfl ?_
  refine GCalls.body (N := 13) (rs := [.tmp 4]) Try.func75 rfl rfl rfl rfl (fun Qx hret hend => ?_)
  refine .fg [0, 1] rfl ?_
  have hle := GHeap.Le.refl H
  have base_hin := hin
  refine .seq (fun K1 hK1 => .region ?_)
  refine .R rfl (.boxR rfl sz_27_D rfl) ?_
  rintro _ H2 ⟨g2, rfl, le2, ge2, at2⟩
  have nx_H2 := le2.1
  replace hle := hle.trans le2
  have lt_at2 := GHeap.ltg at2
  replace hin := base_hin.mono hle
  have hb2 : Cat.At _ g2 0 c p := ⟨Mem.of_get at2, hin⟩
  obtain ⟨c02, c12, c22, c32, c42, i12, i22, i32, i42⟩ := hb2.get
  have hm2 : MemN _ _ _ _ _ := ⟨rfl, hb2.1⟩
  have hi2 := hb2.2
  refine .mv rfl (.nil (hK1 _ _ (.seq (fun K2 hK2 => .region (.mv rfl (.q rfl (.cmp rfl rfl rfl) (.mv rfl ?_)))))))
  refine .split (fun h7 => ?_) (fun h7 => ?_)
  ·
   try simp only [sps] at h7
   refine .qg rfl (.move rfl) (.qg rfl (.fieldAddr fo_27_0_B rfl) ?_)
   refine .qg rfl (.load on_2_A rfl (by first | assumption | exact Mem.of_get at2 0 _ rfl)) ?_
   refine .qg rfl (.cmp rfl rfl rfl) (.q rfl (.pickT rfl rfl) (.mv rfl (.nil (hK2 _ _ ?_))))
   refine .ret ?_
   refine hret _ _ ?_
   refine ⟨_, rfl, ?_⟩
   first
   | exact ⟨congrArg _ (B_false fun hh => by omega), hle⟩
   | exact ⟨congrArg _ (by rw [Bool.eq_iff_iff, B_iff, decide_eq_true_eq]; omega), hle⟩
  try simp only [sps] at h7
  refine .z rfl (.z rfl (.z rfl (.z rfl (.q rfl (.pickF rfl rfl) (.mv rfl (.nil (hK2 _ _ ?_)))))))
  refine .ret ?_
  refine hret _ _ ?_
  refine ⟨_, rfl, ?_⟩
  first
  | exact ⟨congrArg _ (B_false fun hh => by omega), hle⟩
  | exact ⟨congrArg _ (by rw [Bool.eq_iff_iff, B_iff, decide_eq_true_eq]; omega), hle⟩
end Go.Proofs.Ytolfggcanbpknaa
namespace Go.GL
structure SubSt (eI eS : TypeId) (H H' : GHeap) (gV : Nat) (rr : Nat → Option Addr) (T : List (List Int)) : Prop where
  le : H.Le H'
  a5 : H'.get gV = some (.row (slsL rr T) eS true)
  b5 : H.next ≤ gV
  own : OwnL H.next H' eI rr T
def clsF (E : Int → Int → Bool) (m : Int) (l : List Int) : List Int := if E m (hd l) then l ++ [m] else l
def clsU (E : Int → Int → Bool) (m : Int) (T : List (List Int)) (k : Nat) : List (List Int) := (T.take k).map (clsF E m)
def clsP (E : Int → Int → Bool) (m : Int) (T : List (List Int)) (k : Nat) : Bool := (T.take k).any fun l => E m (hd l)
@[simp] theorem length_clsU {E : Int → Int → Bool} {m : Int} {T : List (List Int)} {k : Nat} (h : k ≤ T.length) : (clsU E m T k).length = k := by unfold clsU; rw [List.length_map, List.length_take]; omega
theorem clsU_succ {E : Int → Int → Bool} {m : Int} {T : List (List Int)} {k : Nat} (h : k < T.length) : clsU E m T (k + 1) = clsU E m T k ++ [clsF E m (T.getD k [])] := by
  unfold clsU
  rw [List.take_add_one, List.getElem?_eq_getElem h, List.map_append, List.getD_eq_getElem?_getD, List.getElem?_eq_getElem h]
  rfl
theorem clsP_succ {E : Int → Int → Bool} {m : Int} {T : List (List Int)} {k : Nat} (h : k < T.length) : clsP E m T (k + 1) = (clsP E m T k || E m (hd (T.getD k []))) := by
  unfold clsP
  rw [List.take_add_one, List.getElem?_eq_getElem h, List.any_append, List.getD_eq_getElem?_getD, List.getElem?_eq_getElem h]
  simp
theorem clsF_T {E : Int → Int → Bool} {m : Int} {l : List Int} (h : E m (hd l) = true) : clsF E m l = l ++ [m] := by unfold clsF; rw [if_pos h]
theorem clsF_F {E : Int → Int → Bool} {m : Int} {l : List Int} (h : E m (hd l) = false) : clsF E m l = l := by unfold clsF; rw [if_neg (by rw [h]; simp)]
theorem clsU_all {E : Int → Int → Bool} {m : Int} {T : List (List Int)} (h : clsP E m T T.length = true) : clsIn E T m = clsU E m T T.length := by
  unfold clsP at h
  rw [List.take_length] at h
  unfold clsIn clsU
  rw [if_pos h, List.take_length]
  rfl
theorem clsU_none {E : Int → Int → Bool} {m : Int} {T : List (List Int)} (h : clsP E m T T.length = false) : clsIn E T m = clsU E m T T.length ++ [[m]] := by
  unfold clsP at h
  rw [List.take_length] at h
  unfold clsIn clsU
  rw [if_neg (by rw [h]; simp), List.take_length]
  congr 1
  have : T.map (clsF E m) = T.map id := List.map_congr_left fun l hl => clsF_F (by
    have := List.any_eq_false.1 h l hl
    simpa using this)
  rw [this, List.map_id]
theorem Cat.toL_T {c : Cat} {x : Int} {i : Nat} (h1 : c.tgt.getD i 0 = x) (h2 : c.Mono i) : c.toL x (i + 1) = c.toL x i ++ [(i : Int)] := filtN_T (by rw [decide_eq_true h1, B_true h2]; rfl)
theorem Cat.toL_F {c : Cat} {x : Int} {i : Nat} (h : ¬ (c.tgt.getD i 0 = x ∧ c.Mono i)) : c.toL x (i + 1) = c.toL x i := filtN_F (Bool.eq_false_iff.2 fun q => h (by simpa only [sps] using q))
theorem MStep.shl1 {P : Program} {fr : Slots} {H : GHeap} {t u : TypeId} {x y : Operand} {j : Nat} (hj : j < 5) (hx : ev fr x = some (.int .i64 1)) (hy : ev fr y = some (.int .i64 (j : Int))) : MStep P fr H (.binOp .shl t x y u) (.int .i64 ((2 : Int) ^ j)) :=
  .intOp hx hy fun w => by
    show (Op.shift .shl .i64 1 .i64 (j : Int)).run P w = _
    match j, hj with
    | 0, _ => rfl
    | 1, _ => rfl
    | 2, _ => rfl
    | 3, _ => rfl
    | 4, _ => rfl
theorem arr5 {b0 b1 b2 b3 b4 : Bool} {k : Nat} (h : k < 5) : (#[Value.bool b0, .bool b1, .bool b2, .bool b3, .bool b4] : Array Value)[((k : Nat) : Int).toNat]? = some (.bool ([b0, b1, b2, b3, b4].getD k false)) := by
  match k, h with
  | 0, _ => rfl
  | 1, _ => rfl
  | 2, _ => rfl
  | 3, _ => rfl
  | 4, _ => rfl
theorem pow5 {k : Nat} (h : k < 5) : 0 ≤ (2 : Int) ^ k ∧ (2 : Int) ^ k ≤ 16 := by
  match k, h with
  | 0, _ => decide
  | 1, _ => decide
  | 2, _ => decide
  | 3, _ => decide
  | 4, _ => decide
def kpS (l : List Bool) : Nat → Int
  | 0 => 0
  | k + 1 => kpS l k + if l.getD k false = true then (2 : Int) ^ k else 0
theorem kpS_bd (l : List Bool) : ∀ k, k ≤ 5 → 0 ≤ kpS l k ∧ kpS l k ≤ 16 * k
  | 0, _ => by simp [kpS]
  | k + 1, h => by
    have := kpS_bd l k (by omega)
    have := pow5 (k := k) (by omega)
    simp only [kpS]
    split <;> omega
noncomputable def Cat.kbL (c : Cat) (f : Nat) : List Bool := [B (c.Mono f), B (c.Epi f), decide (((c.retr f).length : Int) > 0), decide (((c.sect f).length : Int) > 0), decide (c.inv f ≥ 0)]
noncomputable def Cat.kind (c : Cat) (f : Nat) : Int := kpS (c.kbL f) 5
noncomputable def Cat.kinds (c : Cat) : List Int := (List.range c.src.length).map c.kind
@[simp] theorem Cat.length_kinds (c : Cat) : c.kinds.length = c.src.length := by simp [Cat.kinds]
theorem Cat.kinds_get {c : Cat} {f : Nat} (h : f < c.src.length) : c.kinds.getD f 0 = c.kind f := by simp [Cat.kinds, List.getD_eq_getElem?_getD, h]
theorem part0_cur {n : Nat} {f : Nat → Int} {i : Nat} (h : i < n) : (part0 n f i).set i 0 = part0 n f i := by
  refine eq_of_getD (by simp) fun j hj => ?_
  rw [length_part0] at hj
  rw [getD_set (by simpa using h)]
  split
  · rename_i e
    subst e
    rw [part0_get hj, decide_eq_false (Nat.lt_irrefl _)]; rfl
  · rfl
theorem Cat.kind_eq (c : Cat) (f : Nat) : c.kind f = (if B (c.Mono f) = true then 1 else 0) + (if B (c.Epi f) = true then 2 else 0) + (if ((c.retr f).length : Int) > 0 then 4 else 0) + (if ((c.sect f).length : Int) > 0 then 8 else 0) + (if c.inv f ≥ 0 then 16 else 0) := by
  unfold Cat.kind Cat.kbL
  simp only [kpS, List.getD_cons_zero, List.getD_cons_succ, decide_eq_true_eq, Int.zero_add]
  rfl
theorem Cat.kind_mono {c : Cat} {f : Nat} : (c.kind f).tmod 2 = 1 ↔ c.Mono f := by
  rw [Cat.kind_eq, Int.tmod_eq_emod_of_nonneg (by split <;> split <;> split <;> split <;> split <;> decide)]
  by_cases h : c.Mono f
  · rw [if_pos (B_iff.2 h)]
    refine ⟨fun _ => h, fun _ => ?_⟩
    split <;> split <;> split <;> split <;> decide
  · rw [if_neg (fun q => h (B_iff.1 q))]
    refine ⟨fun q => ?_, fun q => absurd q h⟩
    exfalso
    revert q
    split <;> split <;> split <;> split <;> decide
theorem Cat.kind_all {c : Cat} {f : Nat} (h1 : c.Mono f) (h2 : c.Epi f) (h3 : 0 < (c.retr f).length) (h4 : 0 < (c.sect f).length) (h5 : 0 ≤ c.inv f) : c.kind f = 31 := by
  rw [Cat.kind_eq, if_pos (B_iff.2 h1), if_pos (B_iff.2 h2), if_pos (show ((c.retr f).length : Int) > 0 by omega), if_pos (show ((c.sect f).length : Int) > 0 by omega), if_pos h5]
  rfl
theorem Cat.sect_epi {c : Cat} (hI : c.Is) {f : Nat} (hf : f < c.src.length) {r : Int} (hr : r ∈ c.sect f) : c.Epi f := by
  obtain ⟨k, k1, k2, k3, k4, rfl⟩ := Cat.mem_sect.1 hr
  have eS : c.S (f : Int) = c.src.getD f 0 := by unfold Cat.S; rw [Int.toNat_natCast]
  have eT : c.T (f : Int) = c.tgt.getD f 0 := by unfold Cat.T; rw [Int.toNat_natCast]
  have key : ∀ a, a < c.src.length → c.src.getD a 0 = c.T (f : Int) → c.th k (c.th f a) = a := fun a a1 a2 => by
    rw [← hI.2.as k k1 f hf (by rw [k3, eS]) a a1 (by rw [a2, eT]), k4, ← a2]
    exact (hI.2.ids a a1).1
  refine ⟨fun a b a1 b1 e1 e2 e3 e4 => ?_⟩
  have := key a a1 e2
  rw [e4, key b b1 e3] at this
  omega
theorem Cat.iso_pair {c : Cat} (hI : c.Is) {f m j a : Nat} (hf : f < c.src.length) (hm : m < c.src.length) (mf : c.Mono f) (mm : c.Mono m) (j1 : j < c.src.length) (j2 : c.src.getD j 0 = c.src.getD f 0) (j3 : c.tgt.getD j 0 = c.src.getD m 0) (j4 : c.th j m = f)
    (a1 : a < c.src.length) (a2 : c.src.getD a 0 = c.src.getD m 0) (a3 : c.tgt.getD a 0 = c.src.getD f 0) (a4 : c.th a f = m) : (a : Int) ∈ c.retr j ∧ (a : Int) ∈ c.sect j := by
  have hS := hI.1
  have sF : c.S (f : Int) = c.src.getD f 0 := by unfold Cat.S; rw [Int.toNat_natCast]
  have sM : c.S (m : Int) = c.src.getD m 0 := by unfold Cat.S; rw [Int.toNat_natCast]
  have sj : c.S (j : Int) = c.src.getD j 0 := by unfold Cat.S; rw [Int.toNat_natCast]
  have tj : c.T (j : Int) = c.tgt.getD j 0 := by unfold Cat.T; rw [Int.toNat_natCast]
  obtain ⟨p1, p2, p3, p4⟩ := hS.tn j1 a1 (by rw [j3, a2])
  obtain ⟨q1, q2, q3, q4⟩ := hS.tn a1 j1 (by rw [a3, j2])
  have e1 : c.th (j : Int) a = (c.tn j a : Int) := by rw [Cat.th_nat]; exact p4
  have e2 : c.th (a : Int) j = (c.tn a j : Int) := by rw [Cat.th_nat]; exact q4
  have s1 := hS.src f hf
  have i1 := hS.idn_lt s1.1 s1.2
  have d1 := hS.ids (c.src.getD f 0).toNat (by have := hS.il; omega)
  have s2 := hS.src m hm
  have i2 := hS.idn_lt s2.1 s2.2
  have d2 := hS.ids (c.src.getD m 0).toNat (by have := hS.il; omega)
  have f1' := (hI.2.ids f hf).1
  have f2' := (hI.2.ids m hm).1
  have k1 : c.tn j a = (c.idn.getD (c.src.getD f 0).toNat 0).toNat := mf.all _ _ p1 (by omega) (by rw [p2, j2, d1.1, Int.toNat_of_nonneg s1.1]) (by rw [p3, a3, sF]) (by rw [d1.2, Int.toNat_of_nonneg s1.1, sF]) (by
    rw [← e1, hI.2.as j j1 a a1 (by rw [j3, a2]) f hf (by rw [a3]), a4, j4, Int.toNat_of_nonneg i1.1]; exact f1'.symm)
  have k2 : c.tn a j = (c.idn.getD (c.src.getD m 0).toNat 0).toNat := mm.all _ _ q1 (by omega) (by rw [q2, a2, d2.1, Int.toNat_of_nonneg s2.1]) (by rw [q3, j3, sM]) (by rw [d2.2, Int.toNat_of_nonneg s2.1, sM]) (by
    rw [← e2, hI.2.as a a1 j j1 (by rw [a3, j2]) m hm (by rw [j3]), j4, a4, Int.toNat_of_nonneg i2.1]; exact f2'.symm)
  refine ⟨Cat.mem_retr.2 ⟨a, a1, by rw [tj, a2, j3], by rw [sj, a3, j2], ?_, rfl⟩, Cat.mem_sect.2 ⟨a, a1, by rw [tj, a2, j3], by rw [sj, a3, j2], ?_, rfl⟩⟩
  · rw [e1, k1, Int.toNat_of_nonneg i1.1, sj, j2]
  · rw [e2, k2, Int.toNat_of_nonneg i2.1, tj, j3]
theorem Cat.eqv_law {c : Cat} (hI : c.Is) {x m h : Int} (hm : c.ToX x m) (hh : c.ToX x h) (he : c.eqvB m h = true) : ∃ j : Nat, c.lif m h = [(j : Int)] ∧ j < c.src.length ∧ c.kind j = 31 := by
  unfold Cat.eqvB at he
  rw [Bool.and_eq_true] at he
  obtain ⟨j, j1, j2, j3, j4⟩ := Cat.belB_iff.1 he.1
  obtain ⟨a, a1, a2, a3, a4⟩ := Cat.belB_iff.1 he.2
  have hj : (j : Int) ∈ c.lif m h := Cat.mem_lif.2 ⟨j, j1, j2, j3, j4, rfl⟩
  have hn : (c.lif m h).Nodup := (c.hom_nd _ _).sublist List.filter_sublist
  have hone : c.lif m h = [(j : Int)] := all_one hn hj fun y hy => by
    obtain ⟨b, b1, b2, b3, b4, rfl⟩ := Cat.mem_lif.1 hy
    have := hh.mono.all b j b1 j1 (by rw [b2, j2]) b3 j3 (by rw [b4, j4])
    omega
  obtain ⟨M, rfl⟩ : ∃ M : Nat, m = (M : Int) := ⟨m.toNat, by have := hm.ge; omega⟩
  obtain ⟨K, rfl⟩ : ∃ K : Nat, h = (K : Int) := ⟨h.toNat, by have := hh.ge; omega⟩
  have hMl : M < c.src.length := by have := hm.lt; omega
  have hKl : K < c.src.length := by have := hh.lt; omega
  have sM : c.S (M : Int) = c.src.getD M 0 := by unfold Cat.S; rw [Int.toNat_natCast]
  have sK : c.S (K : Int) = c.src.getD K 0 := by unfold Cat.S; rw [Int.toNat_natCast]
  rw [sM] at j2 a3
  rw [sK] at j3 a2
  obtain ⟨r1, r2⟩ := Cat.iso_pair hI hMl hKl hm.mono hh.mono j1 j2 j3 j4 a1 a2 a3 a4
  exact ⟨j, hone, j1, Cat.kind_all (Cat.retr_mono hI j1 r1) (Cat.sect_epi hI j1 r2) (List.length_pos_of_mem r1) (List.length_pos_of_mem r2) ((Cat.inv_both hI j1).2 ⟨List.ne_nil_of_mem r1, List.ne_nil_of_mem r2⟩)⟩
theorem Cat.subs_small (c : Cat) (x : Int) : (codeLL (c.codeO [x]) (c.subs x)).length ≤ 40 ∧ ∀ i, ((codeLL (c.codeO [x]) (c.subs x)).getD i []).length ≤ 40 := by
  by_cases hk : c.codeO [x] = 0
  · rw [codeLL_ok hk]
    obtain ⟨hI, _, _⟩ := Cat.codeO_one.1 hk
    have h1 := Cat.subs_ok hI x
    have h2 := Cat.subs_tot hI x
    have h3 : (c.toL x c.src.length).length ≤ c.src.length := filtN_le _ _
    have h4 := hI.1.n40
    have h5 := h1.len
    refine ⟨by omega, fun i => ?_⟩
    by_cases hi : i < (c.subs x).length
    · have := totN_row hi; omega
    · rw [List.getD_eq_getElem?_getD, List.getElem?_eq_none (by omega)]; simp
  · rw [codeLL_err hk]; simp
end Go.GL
