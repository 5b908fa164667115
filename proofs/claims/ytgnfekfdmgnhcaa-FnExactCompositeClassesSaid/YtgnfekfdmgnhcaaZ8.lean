/- The laws' helpers for Profunctor. No condition but those of each statement. -/
import Derived.Test.YtgnfekfdmgnhcaaZ7
import Derived.MapKept
namespace Go.Proofs.Ytgnfekfdmgnhcaa
open Go Go.GL Go.RowKit Go.Proofs
theorem sz_36_VProf : (Try.prog.info? 36).map (·.size) = some 13 := by kernel_rfl
theorem fo_36_0_VProf : fieldOff Try.prog 36 0 = some 0 := by kernel_rfl
theorem ag_25_VProf : aggT Try.prog 25 = some 5 := by kernel_rfl
theorem fo_36_1_VProf : fieldOff Try.prog 36 1 = some 5 := by kernel_rfl
theorem fo_36_2_VProf : fieldOff Try.prog 36 2 = some 10 := by kernel_rfl
theorem fo_36_3_VProf : fieldOff Try.prog 36 3 = some 11 := by kernel_rfl
theorem on_34_VProf : oneT Try.prog 34 = true := by kernel_rfl
theorem fo_36_4_VProf : fieldOff Try.prog 36 4 = some 12 := by kernel_rfl
theorem ze_40_VProf : zeroT Try.prog 40 = some ([.int .i64 0, .slice none 0 0, .slice none 0 0, .slice none 0 0, .slice none 0 0, .int .i64 0, .slice none 0 0, .slice none 0 0, .slice none 0 0, .slice none 0 0, .slice none 0 0, .slice none 0 0, .slice none 0 0], 13) := by kernel_rfl
theorem fo_40_0_VProf : fieldOff Try.prog 40 0 = some 0 := by kernel_rfl
theorem fo_40_1_VProf : fieldOff Try.prog 40 1 = some 5 := by kernel_rfl
theorem fo_40_2_VProf : fieldOff Try.prog 40 2 = some 10 := by kernel_rfl
theorem fo_40_3_VProf : fieldOff Try.prog 40 3 = some 11 := by kernel_rfl
theorem sz_34_VProf : (Try.prog.info? 34).map (·.size) = some 1 := by kernel_rfl
theorem fo_40_4_VProf : fieldOff Try.prog 40 4 = some 12 := by kernel_rfl
theorem ag_40_VProf : aggT Try.prog 40 = some 13 := by kernel_rfl
theorem sz_40_VProf : (Try.prog.info? 40).map (·.size) = some 13 := by kernel_rfl
theorem szProfunctor_c {c : Prof} {p : ProfP} {left : Int} {H : GHeap} (hin : c.In H p := by assumption) (hw : c.Wide := by assumption) (h0 : 0 ≤ left := by omega) (h1 : left ≤ 1048576 := by omega) :
    GCalls Try.prog 16 [.agg (c.cells p).toArray, .int .i64 left] H (SzR left c.Small H) := by
  refine SzR.of ?_
  obtain ⟨w0, w1, ⟨wa2, wb2⟩, w3, w4⟩ := hw
  refine GCalls.body (N := 36) (rs := [.tmp 4]) Try.func16 rfl rfl rfl rfl (fun Qx hret hend => ?_)
  refine .forget (fr' := [(0, some _), (1, some _)]) ⟨rfl, rfl, trivial⟩ ?_
  have hle := GHeap.Le.refl H
  have base_hin := hin
  refine .seq (fun K1 hK1 => ?_)
  refine .region ?_
  refine .r rfl rfl rfl (.boxR rfl sz_36_VProf rfl) ?_
  rintro _ H2 ⟨g2, rfl, le2, ge2, at2⟩
  have nx_H2 := le2.1
  replace hle := hle.trans le2
  have lt_at2 := GHeap.lt_of_get at2
  replace hin := base_hin.mono hle
  have hb2 : Prof.At _ g2 0 c p := ⟨Mem.of_get at2, hin⟩
  obtain ⟨fs2, ft2, c102, c112, c122, i22, i32, i42⟩ := hb2.get
  have hm2 : MemN _ _ _ _ _ := ⟨rfl, hb2.1⟩
  have hi2 := hb2.2
  have hms2 : MemN _ _ _ _ _ := ⟨rfl, fs2.1⟩
  have his2 := fs2.2
  have hmt2 : MemN _ _ _ _ _ := ⟨rfl, ft2.1⟩
  have hit2 := ft2.2
  refine .m rfl rfl rfl (.assign rfl) (.nil ?_)
  refine hK1 _ _ ?_
  refine .seq (fun K2 hK2 => ?_)
  refine .region (.m rfl rfl rfl (.fieldAddr fo_36_0_VProf rfl) ?_)
  refine .m rfl rfl rfl (.loadM ag_25_VProf rfl (by assumption)) ?_
  refine .m rfl rfl rfl (.move rfl) ?_
  refine .call rfl rfl rfl rfl @Try.call9 rfl (szCategory_c) ?_
  rintro _ _ ⟨heq, lf8, rfl, z18, z28, z38⟩
  obtain rfl := heq.symm
  refine .m rfl rfl rfl (.assign rfl) (.nil ?_)
  refine hK2 _ _ ?_
  refine .seq (fun K3 hK3 => ?_)
  refine .seq (fun K4 hK4 => ?_)
  refine .region (.m rfl rfl rfl (.move rfl) (.m rfl rfl rfl (.cmp rfl rfl rfl) (.nil ?_)))
  refine hK4 _ _ ?_
  refine .cond rfl (fun h10 => ?_) (fun h10 => ?_)
  ·
   try simp only [sps] at h10
   refine .seq (fun K5 hK5 => ?_)
   refine .region (.m rfl rfl rfl (.assign rfl) (.nil ?_))
   refine hK5 _ _ ?_
   refine .ret ?_
   refine hret _ _ ?_
   refine ⟨_, rfl, ?_⟩
   first
   | exact ⟨hle, _, rfl, by omega, by omega, fun h => by omega⟩
   | exact ⟨hle, _, rfl, by omega, by omega, fun h => ⟨by assumption, by assumption, by assumption, by assumption, by assumption⟩⟩
  try simp only [sps] at h10
  have hsm8 := z38 (by omega)
  refine .skip ?_
  refine hK3 _ _ ?_
  refine .seq (fun K6 hK6 => ?_)
  refine .region (.m rfl rfl rfl (.fieldAddr fo_36_1_VProf rfl) ?_)
  refine .m rfl rfl rfl (.loadM ag_25_VProf rfl (by assumption)) ?_
  refine .m rfl rfl rfl (.move rfl) ?_
  refine .call rfl rfl rfl rfl @Try.call9 rfl (szCategory_c) ?_
  rintro _ _ ⟨heq, lf14, rfl, z114, z214, z314⟩
  obtain rfl := heq.symm
  refine .m rfl rfl rfl (.assign rfl) (.nil ?_)
  refine hK6 _ _ ?_
  refine .seq (fun K7 hK7 => ?_)
  refine .seq (fun K8 hK8 => ?_)
  refine .region (.m rfl rfl rfl (.move rfl) (.m rfl rfl rfl (.cmp rfl rfl rfl) (.nil ?_)))
  refine hK8 _ _ ?_
  refine .cond rfl (fun h16 => ?_) (fun h16 => ?_)
  ·
   try simp only [sps] at h16
   refine .seq (fun K9 hK9 => ?_)
   refine .region (.m rfl rfl rfl (.assign rfl) (.nil ?_))
   refine hK9 _ _ ?_
   refine .ret ?_
   refine hret _ _ ?_
   refine ⟨_, rfl, ?_⟩
   first
   | exact ⟨hle, _, rfl, by omega, by omega, fun h => by omega⟩
   | exact ⟨hle, _, rfl, by omega, by omega, fun h => ⟨by assumption, by assumption, by assumption, by assumption, by assumption⟩⟩
  try simp only [sps] at h16
  have hsm14 := z314 (by omega)
  refine .skip ?_
  refine hK7 _ _ ?_
  refine .seq (fun K10 hK10 => ?_)
  refine .region (.m rfl rfl rfl (.fieldAddr fo_36_2_VProf rfl) ?_)
  refine .m rfl rfl rfl (.load on_23_B rfl (by first | assumption | exact Mem.of_get at2 10 _ rfl)) ?_
  refine .m rfl rfl rfl (.move rfl) ?_
  refine .call rfl rfl rfl rfl @Try.call45 rfl (szInt64SS_s) ?_
  rintro _ _ ⟨heq, lf20, rfl, z120, z220, z320⟩
  obtain rfl := heq.symm
  refine .m rfl rfl rfl (.assign rfl) (.nil ?_)
  refine hK10 _ _ ?_
  refine .seq (fun K11 hK11 => ?_)
  refine .seq (fun K12 hK12 => ?_)
  refine .region (.m rfl rfl rfl (.move rfl) (.m rfl rfl rfl (.cmp rfl rfl rfl) (.nil ?_)))
  refine hK12 _ _ ?_
  refine .cond rfl (fun h22 => ?_) (fun h22 => ?_)
  ·
   try simp only [sps] at h22
   refine .seq (fun K13 hK13 => ?_)
   refine .region (.m rfl rfl rfl (.assign rfl) (.nil ?_))
   refine hK13 _ _ ?_
   refine .ret ?_
   refine hret _ _ ?_
   refine ⟨_, rfl, ?_⟩
   first
   | exact ⟨hle, _, rfl, by omega, by omega, fun h => by omega⟩
   | exact ⟨hle, _, rfl, by omega, by omega, fun h => ⟨by assumption, by assumption, by assumption, by assumption, by assumption⟩⟩
  try simp only [sps] at h22
  have hsm20 := z320 (by omega)
  refine .skip ?_
  refine hK11 _ _ ?_
  refine .seq (fun K14 hK14 => ?_)
  refine .region (.m rfl rfl rfl (.fieldAddr fo_36_3_VProf rfl) ?_)
  refine .m rfl rfl rfl (.load on_34_VProf rfl (by first | assumption | exact Mem.of_get at2 11 _ rfl)) ?_
  refine .m rfl rfl rfl (.move rfl) ?_
  refine .call rfl rfl rfl rfl @Try.call52 rfl (szInt64SSS_c) ?_
  rintro _ _ ⟨heq, lf26, rfl, z126, z226, z326⟩
  obtain rfl := heq.symm
  refine .m rfl rfl rfl (.assign rfl) (.nil ?_)
  refine hK14 _ _ ?_
  refine .seq (fun K15 hK15 => ?_)
  refine .seq (fun K16 hK16 => ?_)
  refine .region (.m rfl rfl rfl (.move rfl) (.m rfl rfl rfl (.cmp rfl rfl rfl) (.nil ?_)))
  refine hK16 _ _ ?_
  refine .cond rfl (fun h28 => ?_) (fun h28 => ?_)
  ·
   try simp only [sps] at h28
   refine .seq (fun K17 hK17 => ?_)
   refine .region (.m rfl rfl rfl (.assign rfl) (.nil ?_))
   refine hK17 _ _ ?_
   refine .ret ?_
   refine hret _ _ ?_
   refine ⟨_, rfl, ?_⟩
   first
   | exact ⟨hle, _, rfl, by omega, by omega, fun h => by omega⟩
   | exact ⟨hle, _, rfl, by omega, by omega, fun h => ⟨by assumption, by assumption, by assumption, by assumption, by assumption⟩⟩
  try simp only [sps] at h28
  have hsm26 := z326 (by omega)
  refine .skip ?_
  refine hK15 _ _ ?_
  refine .seq (fun K18 hK18 => ?_)
  refine .region (.m rfl rfl rfl (.fieldAddr fo_36_4_VProf rfl) ?_)
  refine .m rfl rfl rfl (.load on_34_VProf rfl (by first | assumption | exact Mem.of_get at2 12 _ rfl)) ?_
  refine .m rfl rfl rfl (.move rfl) ?_
  refine .call rfl rfl rfl rfl @Try.call52 rfl (szInt64SSS_c) ?_
  rintro _ _ ⟨heq, lf32, rfl, z132, z232, z332⟩
  obtain rfl := heq.symm
  refine .m rfl rfl rfl (.assign rfl) (.nil ?_)
  refine hK18 _ _ ?_
  refine .seq (fun K19 hK19 => ?_)
  refine .seq (fun K20 hK20 => ?_)
  refine .region (.m rfl rfl rfl (.move rfl) (.m rfl rfl rfl (.cmp rfl rfl rfl) (.nil ?_)))
  refine hK20 _ _ ?_
  refine .cond rfl (fun h34 => ?_) (fun h34 => ?_)
  ·
   try simp only [sps] at h34
   refine .seq (fun K21 hK21 => ?_)
   refine .region (.m rfl rfl rfl (.assign rfl) (.nil ?_))
   refine hK21 _ _ ?_
   refine .ret ?_
   refine hret _ _ ?_
   refine ⟨_, rfl, ?_⟩
   first
   | exact ⟨hle, _, rfl, by omega, by omega, fun h => by omega⟩
   | exact ⟨hle, _, rfl, by omega, by omega, fun h => ⟨by assumption, by assumption, by assumption, by assumption, by assumption⟩⟩
  try simp only [sps] at h34
  have hsm32 := z332 (by omega)
  refine .skip ?_
  refine hK19 _ _ ?_
  refine .seq (fun K22 hK22 => ?_)
  refine .region (.m rfl rfl rfl (.move rfl) (.m rfl rfl rfl (.assign rfl) (.nil ?_)))
  refine hK22 _ _ ?_
  refine .ret ?_
  refine hret _ _ ?_
  refine ⟨_, rfl, ?_⟩
  first
  | exact ⟨hle, _, rfl, by omega, by omega, fun h => by omega⟩
  | exact ⟨hle, _, rfl, by omega, by omega, fun h => ⟨by assumption, by assumption, by assumption, by assumption, by assumption⟩⟩
set_option maxHeartbeats 4000000 in
theorem toProfunctor_c {c : Prof} {p : ProfP} {H : GHeap} (hin : c.In H p := by assumption) (hs : c.Small := by assumption) : GCalls Try.prog 18 [.agg (c.cells p).toArray] H (NewProf H c) := by
  obtain ⟨w0, w1, ⟨wa2, wb2⟩, w3, w4⟩ := hs
  refine GCalls.body (N := 25) (rs := [.cell 2 40]) Try.func18 rfl rfl rfl rfl (fun Qx hret hend => ?_)
  refine .forget (fr' := [(0, some _)]) ⟨rfl, trivial⟩ ?_
  have hle := GHeap.Le.refl H
  have base_hin := hin
  refine .seq (fun K1 hK1 => ?_)
  refine .region ?_
  refine .r rfl rfl rfl (.boxR rfl sz_36_VProf rfl) ?_
  rintro _ H1 ⟨g1, rfl, le1, ge1, at1⟩
  have nx_H1 := le1.1
  replace hle := hle.trans le1
  have lt_at1 := GHeap.lt_of_get at1
  replace hin := base_hin.mono hle
  have hb1 : Prof.At _ g1 0 c p := ⟨Mem.of_get at1, hin⟩
  obtain ⟨fs1, ft1, c101, c111, c121, i21, i31, i41⟩ := hb1.get
  have hm1 : MemN _ _ _ _ _ := ⟨rfl, hb1.1⟩
  have hi1 := hb1.2
  have hms1 : MemN _ _ _ _ _ := ⟨rfl, fs1.1⟩
  have his1 := fs1.2
  have hmt1 : MemN _ _ _ _ _ := ⟨rfl, ft1.1⟩
  have hit1 := ft1.2
  refine .r rfl rfl rfl (.allocR rfl ze_40_VProf rfl) ?_
  rintro _ H2 ⟨g2, rfl, le2, ge2, at2⟩
  have nx_H2 := le2.1
  replace hle := hle.trans le2
  replace at1 := le2.2 _ _ at1
  have lt_at2 := GHeap.lt_of_get at2
  replace hin := base_hin.mono hle
  clear hb1 fs1 ft1 c101 c111 c121 i21 i31 i41 hm1 hi1 hms1 his1 hmt1 hit1
  have hb1 : Prof.At _ g1 0 c p := ⟨Mem.of_get at1, hin⟩
  obtain ⟨fs1, ft1, c101, c111, c121, i21, i31, i41⟩ := hb1.get
  have hm1 : MemN _ _ _ _ _ := ⟨rfl, hb1.1⟩
  have hi1 := hb1.2
  have hms1 : MemN _ _ _ _ _ := ⟨rfl, fs1.1⟩
  have his1 := fs1.2
  have hmt1 : MemN _ _ _ _ _ := ⟨rfl, ft1.1⟩
  have hit1 := ft1.2
  refine .nil ?_
  refine hK1 _ _ ?_
  refine .seq (fun K2 hK2 => ?_)
  refine .region ?_
  refine .r rfl rfl rfl (.allocR rfl ze_40_VProf rfl) ?_
  rintro _ H3 ⟨g3, rfl, le3, ge3, at3⟩
  have nx_H3 := le3.1
  replace hle := hle.trans le3
  replace at1 := le3.2 _ _ at1
  replace at2 := le3.2 _ _ at2
  have lt_at3 := GHeap.lt_of_get at3
  replace hin := base_hin.mono hle
  clear hb1 fs1 ft1 c101 c111 c121 i21 i31 i41 hm1 hi1 hms1 his1 hmt1 hit1
  have hb1 : Prof.At _ g1 0 c p := ⟨Mem.of_get at1, hin⟩
  obtain ⟨fs1, ft1, c101, c111, c121, i21, i31, i41⟩ := hb1.get
  have hm1 : MemN _ _ _ _ _ := ⟨rfl, hb1.1⟩
  have hi1 := hb1.2
  have hms1 : MemN _ _ _ _ _ := ⟨rfl, fs1.1⟩
  have his1 := fs1.2
  have hmt1 : MemN _ _ _ _ _ := ⟨rfl, ft1.1⟩
  have hit1 := ft1.2
  refine .nil ?_
  refine hK2 _ _ ?_
  refine .seq (fun K3 hK3 => ?_)
  refine .region (.m rfl rfl rfl (.fieldAddr fo_36_0_VProf rfl) ?_)
  refine .m rfl rfl rfl (.loadM ag_25_VProf rfl (by assumption)) ?_
  refine .call rfl rfl rfl rfl @Try.call11 rfl (toCategory_c) ?_
  rintro _ H6 ⟨le6, p6, rfl, v6⟩
  have nx_H6 := le6.1
  replace hle := hle.trans le6
  replace at1 := le6.2 _ _ at1
  replace at2 := le6.2 _ _ at2
  replace at3 := le6.2 _ _ at3
  have bs_v6 := v6
  have lv_v6 : Keep H3.next H6 H6 := fun _ _ _ h => h
  replace hin := base_hin.mono hle
  clear hb1 fs1 ft1 c101 c111 c121 i21 i31 i41 hm1 hi1 hms1 his1 hmt1 hit1
  have hb1 : Prof.At _ g1 0 c p := ⟨Mem.of_get at1, hin⟩
  obtain ⟨fs1, ft1, c101, c111, c121, i21, i31, i41⟩ := hb1.get
  have hm1 : MemN _ _ _ _ _ := ⟨rfl, hb1.1⟩
  have hi1 := hb1.2
  have hms1 : MemN _ _ _ _ _ := ⟨rfl, fs1.1⟩
  have his1 := fs1.2
  have hmt1 : MemN _ _ _ _ _ := ⟨rfl, ft1.1⟩
  have hit1 := ft1.2
  have i6 := v6.inn
  refine .m rfl rfl rfl (.fieldAddr fo_40_0_VProf rfl) ?_
  refine .r0 rfl rfl (.storeNR rfl sz_27_D rfl rfl rfl rfl (by assumption) (by first | rfl | exact Nat.le_of_ble_eq_true rfl | simp)) ?_
  rintro _ H2004 ⟨rfl, st2004, at2004⟩
  have nx_H2004 := st2004.nx
  replace hle := hle.st st2004 (fun k hk => ⟨by omega, trivial⟩)
  have ne_g1_g3 : g1 ≠ g3 := by omega
  replace at1 := st2004.same _ _ ⟨ne_g1_g3, trivial⟩ at1
  have ne_g2_g3 : g2 ≠ g3 := by omega
  replace at2 := st2004.same _ _ ⟨ne_g2_g3, trivial⟩ at2
  replace lv_v6 := Keep.st lv_v6 st2004 (fun k hb hk => ⟨by omega, trivial⟩)
  replace v6 := bs_v6.keep lv_v6 (Nat.le_refl _)
  have lt_at2004 := GHeap.lt_of_get at2004
  replace hin := base_hin.mono hle
  clear hb1 fs1 ft1 c101 c111 c121 i21 i31 i41 hm1 hi1 hms1 his1 hmt1 hit1
  have hb1 : Prof.At _ g1 0 c p := ⟨Mem.of_get at1, hin⟩
  obtain ⟨fs1, ft1, c101, c111, c121, i21, i31, i41⟩ := hb1.get
  have hm1 : MemN _ _ _ _ _ := ⟨rfl, hb1.1⟩
  have hi1 := hb1.2
  have hms1 : MemN _ _ _ _ _ := ⟨rfl, fs1.1⟩
  have his1 := fs1.2
  have hmt1 : MemN _ _ _ _ _ := ⟨rfl, ft1.1⟩
  have hit1 := ft1.2
  clear i6
  have i6 := v6.inn
  refine .nil ?_
  refine hK3 _ _ ?_
  refine .seq (fun K4 hK4 => ?_)
  refine .region (.m rfl rfl rfl (.fieldAddr fo_36_1_VProf rfl) ?_)
  refine .m rfl rfl rfl (.loadM ag_25_VProf rfl (by assumption)) ?_
  refine .call rfl rfl rfl rfl @Try.call11 rfl (toCategory_c) ?_
  rintro _ H10 ⟨le10, p10, rfl, v10⟩
  have nx_H10 := le10.1
  replace hle := hle.trans le10
  replace at1 := le10.2 _ _ at1
  replace at2 := le10.2 _ _ at2
  replace at2004 := le10.2 _ _ at2004
  replace lv_v6 := Keep.le lv_v6 le10
  replace v6 := bs_v6.keep lv_v6 (Nat.le_refl _)
  have bs_v10 := v10
  have lv_v10 : Keep H2004.next H10 H10 := fun _ _ _ h => h
  replace hin := base_hin.mono hle
  clear hb1 fs1 ft1 c101 c111 c121 i21 i31 i41 hm1 hi1 hms1 his1 hmt1 hit1
  have hb1 : Prof.At _ g1 0 c p := ⟨Mem.of_get at1, hin⟩
  obtain ⟨fs1, ft1, c101, c111, c121, i21, i31, i41⟩ := hb1.get
  have hm1 : MemN _ _ _ _ _ := ⟨rfl, hb1.1⟩
  have hi1 := hb1.2
  have hms1 : MemN _ _ _ _ _ := ⟨rfl, fs1.1⟩
  have his1 := fs1.2
  have hmt1 : MemN _ _ _ _ _ := ⟨rfl, ft1.1⟩
  have hit1 := ft1.2
  clear i6
  have i6 := v6.inn
  have i10 := v10.inn
  refine .m rfl rfl rfl (.fieldAddr fo_40_1_VProf rfl) ?_
  refine .r0 rfl rfl (.storeNR rfl sz_27_D rfl rfl rfl rfl (by assumption) (by first | rfl | exact Nat.le_of_ble_eq_true rfl | simp)) ?_
  rintro _ H3004 ⟨rfl, st3004, at3004⟩
  have nx_H3004 := st3004.nx
  replace hle := hle.st st3004 (fun k hk => ⟨by omega, trivial⟩)
  replace at1 := st3004.same _ _ ⟨ne_g1_g3, trivial⟩ at1
  replace at2 := st3004.same _ _ ⟨ne_g2_g3, trivial⟩ at2
  replace lv_v6 := Keep.st lv_v6 st3004 (fun k hb hk => ⟨by omega, trivial⟩)
  replace v6 := bs_v6.keep lv_v6 (Nat.le_refl _)
  replace lv_v10 := Keep.st lv_v10 st3004 (fun k hb hk => ⟨by omega, trivial⟩)
  replace v10 := bs_v10.keep lv_v10 (Nat.le_refl _)
  have lt_at3004 := GHeap.lt_of_get at3004
  replace hin := base_hin.mono hle
  clear hb1 fs1 ft1 c101 c111 c121 i21 i31 i41 hm1 hi1 hms1 his1 hmt1 hit1
  have hb1 : Prof.At _ g1 0 c p := ⟨Mem.of_get at1, hin⟩
  obtain ⟨fs1, ft1, c101, c111, c121, i21, i31, i41⟩ := hb1.get
  have hm1 : MemN _ _ _ _ _ := ⟨rfl, hb1.1⟩
  have hi1 := hb1.2
  have hms1 : MemN _ _ _ _ _ := ⟨rfl, fs1.1⟩
  have his1 := fs1.2
  have hmt1 : MemN _ _ _ _ _ := ⟨rfl, ft1.1⟩
  have hit1 := ft1.2
  clear i6
  have i6 := v6.inn
  clear i10
  have i10 := v10.inn
  refine .nil ?_
  refine hK4 _ _ ?_
  refine .seq (fun K5 hK5 => ?_)
  refine .region (.m rfl rfl rfl (.fieldAddr fo_36_2_VProf rfl) ?_)
  refine .m rfl rfl rfl (.load on_23_B rfl (by first | assumption | exact Mem.of_get at1 10 _ rfl)) ?_
  refine .call rfl rfl rfl rfl @Try.call49 rfl (toInt64SS_c) ?_
  rintro _ H14 ⟨le14, a14, r14, rfl, v14⟩
  have nx_H14 := le14.1
  replace hle := hle.trans le14
  replace at1 := le14.2 _ _ at1
  replace at2 := le14.2 _ _ at2
  replace at3004 := le14.2 _ _ at3004
  replace lv_v6 := Keep.le lv_v6 le14
  replace v6 := bs_v6.keep lv_v6 (Nat.le_refl _)
  replace lv_v10 := Keep.le lv_v10 le14
  replace v10 := bs_v10.keep lv_v10 (Nat.le_refl _)
  have bs_v14 := v14
  have lv_v14 : Keep H3004.next H14 H14 := fun _ _ _ h => h
  replace hin := base_hin.mono hle
  clear hb1 fs1 ft1 c101 c111 c121 i21 i31 i41 hm1 hi1 hms1 his1 hmt1 hit1
  have hb1 : Prof.At _ g1 0 c p := ⟨Mem.of_get at1, hin⟩
  obtain ⟨fs1, ft1, c101, c111, c121, i21, i31, i41⟩ := hb1.get
  have hm1 : MemN _ _ _ _ _ := ⟨rfl, hb1.1⟩
  have hi1 := hb1.2
  have hms1 : MemN _ _ _ _ _ := ⟨rfl, fs1.1⟩
  have his1 := fs1.2
  have hmt1 : MemN _ _ _ _ _ := ⟨rfl, ft1.1⟩
  have hit1 := ft1.2
  clear i6
  have i6 := v6.inn
  clear i10
  have i10 := v10.inn
  have i14 := v14.intss
  refine .m rfl rfl rfl (.fieldAddr fo_40_2_VProf rfl) ?_
  refine .r0 rfl rfl (.storeR rfl sz_23_E rfl rfl rfl (by assumption) (by first | exact Nat.le_of_ble_eq_true rfl | (simp; done) | (simp <;> omega))) ?_
  rintro _ H4004 ⟨rfl, st4004, at4004⟩
  have nx_H4004 := st4004.nx
  replace hle := hle.st st4004 (fun k hk => ⟨by omega, trivial⟩)
  replace at1 := st4004.same _ _ ⟨ne_g1_g3, trivial⟩ at1
  replace at2 := st4004.same _ _ ⟨ne_g2_g3, trivial⟩ at2
  replace lv_v6 := Keep.st lv_v6 st4004 (fun k hb hk => ⟨by omega, trivial⟩)
  replace v6 := bs_v6.keep lv_v6 (Nat.le_refl _)
  replace lv_v10 := Keep.st lv_v10 st4004 (fun k hb hk => ⟨by omega, trivial⟩)
  replace v10 := bs_v10.keep lv_v10 (Nat.le_refl _)
  replace lv_v14 := Keep.st lv_v14 st4004 (fun k hb hk => ⟨by omega, trivial⟩)
  replace v14 := bs_v14.keep lv_v14 (Nat.le_refl _)
  have lt_at4004 := GHeap.lt_of_get at4004
  replace hin := base_hin.mono hle
  clear hb1 fs1 ft1 c101 c111 c121 i21 i31 i41 hm1 hi1 hms1 his1 hmt1 hit1
  have hb1 : Prof.At _ g1 0 c p := ⟨Mem.of_get at1, hin⟩
  obtain ⟨fs1, ft1, c101, c111, c121, i21, i31, i41⟩ := hb1.get
  have hm1 : MemN _ _ _ _ _ := ⟨rfl, hb1.1⟩
  have hi1 := hb1.2
  have hms1 : MemN _ _ _ _ _ := ⟨rfl, fs1.1⟩
  have his1 := fs1.2
  have hmt1 : MemN _ _ _ _ _ := ⟨rfl, ft1.1⟩
  have hit1 := ft1.2
  clear i6
  have i6 := v6.inn
  clear i10
  have i10 := v10.inn
  clear i14
  have i14 := v14.intss
  try simp only [Nat.zero_add, List.set_cons_succ, List.set_cons_zero] at at4004
  refine .nil ?_
  refine hK5 _ _ ?_
  refine .seq (fun K6 hK6 => ?_)
  refine .region (.m rfl rfl rfl (.fieldAddr fo_36_3_VProf rfl) ?_)
  refine .m rfl rfl rfl (.load on_34_VProf rfl (by first | assumption | exact Mem.of_get at1 11 _ rfl)) ?_
  refine .call rfl rfl rfl rfl @Try.call56 rfl (toInt64SSS_c) ?_
  rintro _ H18 ⟨le18, a18, r18, s18, rfl, v18⟩
  have nx_H18 := le18.1
  replace hle := hle.trans le18
  replace at1 := le18.2 _ _ at1
  replace at2 := le18.2 _ _ at2
  replace at4004 := le18.2 _ _ at4004
  replace lv_v6 := Keep.le lv_v6 le18
  replace v6 := bs_v6.keep lv_v6 (Nat.le_refl _)
  replace lv_v10 := Keep.le lv_v10 le18
  replace v10 := bs_v10.keep lv_v10 (Nat.le_refl _)
  replace lv_v14 := Keep.le lv_v14 le18
  replace v14 := bs_v14.keep lv_v14 (Nat.le_refl _)
  have bs_v18 := v18
  have lv_v18 : Keep H4004.next H18 H18 := fun _ _ _ h => h
  replace hin := base_hin.mono hle
  clear hb1 fs1 ft1 c101 c111 c121 i21 i31 i41 hm1 hi1 hms1 his1 hmt1 hit1
  have hb1 : Prof.At _ g1 0 c p := ⟨Mem.of_get at1, hin⟩
  obtain ⟨fs1, ft1, c101, c111, c121, i21, i31, i41⟩ := hb1.get
  have hm1 : MemN _ _ _ _ _ := ⟨rfl, hb1.1⟩
  have hi1 := hb1.2
  have hms1 : MemN _ _ _ _ _ := ⟨rfl, fs1.1⟩
  have his1 := fs1.2
  have hmt1 : MemN _ _ _ _ _ := ⟨rfl, ft1.1⟩
  have hit1 := ft1.2
  clear i6
  have i6 := v6.inn
  clear i10
  have i10 := v10.inn
  clear i14
  have i14 := v14.intss
  have i18 := v18.intsss
  refine .m rfl rfl rfl (.fieldAddr fo_40_3_VProf rfl) ?_
  refine .r0 rfl rfl (.storeR rfl sz_34_VProf rfl rfl rfl (by assumption) (by first | exact Nat.le_of_ble_eq_true rfl | (simp; done) | (simp <;> omega))) ?_
  rintro _ H5004 ⟨rfl, st5004, at5004⟩
  have nx_H5004 := st5004.nx
  replace hle := hle.st st5004 (fun k hk => ⟨by omega, trivial⟩)
  replace at1 := st5004.same _ _ ⟨ne_g1_g3, trivial⟩ at1
  replace at2 := st5004.same _ _ ⟨ne_g2_g3, trivial⟩ at2
  replace lv_v6 := Keep.st lv_v6 st5004 (fun k hb hk => ⟨by omega, trivial⟩)
  replace v6 := bs_v6.keep lv_v6 (Nat.le_refl _)
  replace lv_v10 := Keep.st lv_v10 st5004 (fun k hb hk => ⟨by omega, trivial⟩)
  replace v10 := bs_v10.keep lv_v10 (Nat.le_refl _)
  replace lv_v14 := Keep.st lv_v14 st5004 (fun k hb hk => ⟨by omega, trivial⟩)
  replace v14 := bs_v14.keep lv_v14 (Nat.le_refl _)
  replace lv_v18 := Keep.st lv_v18 st5004 (fun k hb hk => ⟨by omega, trivial⟩)
  replace v18 := bs_v18.keep lv_v18 (Nat.le_refl _)
  have lt_at5004 := GHeap.lt_of_get at5004
  replace hin := base_hin.mono hle
  clear hb1 fs1 ft1 c101 c111 c121 i21 i31 i41 hm1 hi1 hms1 his1 hmt1 hit1
  have hb1 : Prof.At _ g1 0 c p := ⟨Mem.of_get at1, hin⟩
  obtain ⟨fs1, ft1, c101, c111, c121, i21, i31, i41⟩ := hb1.get
  have hm1 : MemN _ _ _ _ _ := ⟨rfl, hb1.1⟩
  have hi1 := hb1.2
  have hms1 : MemN _ _ _ _ _ := ⟨rfl, fs1.1⟩
  have his1 := fs1.2
  have hmt1 : MemN _ _ _ _ _ := ⟨rfl, ft1.1⟩
  have hit1 := ft1.2
  clear i6
  have i6 := v6.inn
  clear i10
  have i10 := v10.inn
  clear i14
  have i14 := v14.intss
  clear i18
  have i18 := v18.intsss
  try simp only [Nat.zero_add, List.set_cons_succ, List.set_cons_zero] at at5004
  refine .nil ?_
  refine hK6 _ _ ?_
  refine .seq (fun K7 hK7 => ?_)
  refine .region (.m rfl rfl rfl (.fieldAddr fo_36_4_VProf rfl) ?_)
  refine .m rfl rfl rfl (.load on_34_VProf rfl (by first | assumption | exact Mem.of_get at1 12 _ rfl)) ?_
  refine .call rfl rfl rfl rfl @Try.call56 rfl (toInt64SSS_c) ?_
  rintro _ H22 ⟨le22, a22, r22, s22, rfl, v22⟩
  have nx_H22 := le22.1
  replace hle := hle.trans le22
  replace at1 := le22.2 _ _ at1
  replace at2 := le22.2 _ _ at2
  replace at5004 := le22.2 _ _ at5004
  replace lv_v6 := Keep.le lv_v6 le22
  replace v6 := bs_v6.keep lv_v6 (Nat.le_refl _)
  replace lv_v10 := Keep.le lv_v10 le22
  replace v10 := bs_v10.keep lv_v10 (Nat.le_refl _)
  replace lv_v14 := Keep.le lv_v14 le22
  replace v14 := bs_v14.keep lv_v14 (Nat.le_refl _)
  replace lv_v18 := Keep.le lv_v18 le22
  replace v18 := bs_v18.keep lv_v18 (Nat.le_refl _)
  have bs_v22 := v22
  have lv_v22 : Keep H5004.next H22 H22 := fun _ _ _ h => h
  replace hin := base_hin.mono hle
  clear hb1 fs1 ft1 c101 c111 c121 i21 i31 i41 hm1 hi1 hms1 his1 hmt1 hit1
  have hb1 : Prof.At _ g1 0 c p := ⟨Mem.of_get at1, hin⟩
  obtain ⟨fs1, ft1, c101, c111, c121, i21, i31, i41⟩ := hb1.get
  have hm1 : MemN _ _ _ _ _ := ⟨rfl, hb1.1⟩
  have hi1 := hb1.2
  have hms1 : MemN _ _ _ _ _ := ⟨rfl, fs1.1⟩
  have his1 := fs1.2
  have hmt1 : MemN _ _ _ _ _ := ⟨rfl, ft1.1⟩
  have hit1 := ft1.2
  clear i6
  have i6 := v6.inn
  clear i10
  have i10 := v10.inn
  clear i14
  have i14 := v14.intss
  clear i18
  have i18 := v18.intsss
  have i22 := v22.intsss
  refine .m rfl rfl rfl (.fieldAddr fo_40_4_VProf rfl) ?_
  refine .r0 rfl rfl (.storeR rfl sz_34_VProf rfl rfl rfl (by assumption) (by first | exact Nat.le_of_ble_eq_true rfl | (simp; done) | (simp <;> omega))) ?_
  rintro _ H6004 ⟨rfl, st6004, at6004⟩
  have nx_H6004 := st6004.nx
  replace hle := hle.st st6004 (fun k hk => ⟨by omega, trivial⟩)
  replace at1 := st6004.same _ _ ⟨ne_g1_g3, trivial⟩ at1
  replace at2 := st6004.same _ _ ⟨ne_g2_g3, trivial⟩ at2
  replace lv_v6 := Keep.st lv_v6 st6004 (fun k hb hk => ⟨by omega, trivial⟩)
  replace v6 := bs_v6.keep lv_v6 (Nat.le_refl _)
  replace lv_v10 := Keep.st lv_v10 st6004 (fun k hb hk => ⟨by omega, trivial⟩)
  replace v10 := bs_v10.keep lv_v10 (Nat.le_refl _)
  replace lv_v14 := Keep.st lv_v14 st6004 (fun k hb hk => ⟨by omega, trivial⟩)
  replace v14 := bs_v14.keep lv_v14 (Nat.le_refl _)
  replace lv_v18 := Keep.st lv_v18 st6004 (fun k hb hk => ⟨by omega, trivial⟩)
  replace v18 := bs_v18.keep lv_v18 (Nat.le_refl _)
  replace lv_v22 := Keep.st lv_v22 st6004 (fun k hb hk => ⟨by omega, trivial⟩)
  replace v22 := bs_v22.keep lv_v22 (Nat.le_refl _)
  have lt_at6004 := GHeap.lt_of_get at6004
  replace hin := base_hin.mono hle
  clear hb1 fs1 ft1 c101 c111 c121 i21 i31 i41 hm1 hi1 hms1 his1 hmt1 hit1
  have hb1 : Prof.At _ g1 0 c p := ⟨Mem.of_get at1, hin⟩
  obtain ⟨fs1, ft1, c101, c111, c121, i21, i31, i41⟩ := hb1.get
  have hm1 : MemN _ _ _ _ _ := ⟨rfl, hb1.1⟩
  have hi1 := hb1.2
  have hms1 : MemN _ _ _ _ _ := ⟨rfl, fs1.1⟩
  have his1 := fs1.2
  have hmt1 : MemN _ _ _ _ _ := ⟨rfl, ft1.1⟩
  have hit1 := ft1.2
  clear i6
  have i6 := v6.inn
  clear i10
  have i10 := v10.inn
  clear i14
  have i14 := v14.intss
  clear i18
  have i18 := v18.intsss
  clear i22
  have i22 := v22.intsss
  try simp only [Nat.zero_add, List.set_cons_succ, List.set_cons_zero] at at6004
  refine .nil ?_
  refine hK7 _ _ ?_
  refine .seq (fun K8 hK8 => ?_)
  refine .region ?_
  refine .m rfl rfl rfl (.loadM ag_40_VProf rfl ⟨rfl, Mem.of_get at6004⟩) ?_
  refine .r0 rfl rfl (.fillR rfl sz_40_VProf rfl rfl rfl rfl (by assumption) (by first | rfl | exact Nat.le_of_ble_eq_true rfl | simp)) ?_
  rintro _ H7001 ⟨rfl, st7001, at7001⟩
  have nx_H7001 := st7001.nx
  replace hle := hle.st st7001 (fun k hk => ⟨by omega, trivial⟩)
  have ne_g1_g2 : g1 ≠ g2 := by omega
  replace at1 := st7001.same _ _ ⟨ne_g1_g2, trivial⟩ at1
  replace at6004 := st7001.same _ _ ⟨(Ne.symm ne_g2_g3), trivial⟩ at6004
  replace lv_v6 := Keep.st lv_v6 st7001 (fun k hb hk => ⟨by omega, trivial⟩)
  replace v6 := bs_v6.keep lv_v6 (Nat.le_refl _)
  replace lv_v10 := Keep.st lv_v10 st7001 (fun k hb hk => ⟨by omega, trivial⟩)
  replace v10 := bs_v10.keep lv_v10 (Nat.le_refl _)
  replace lv_v14 := Keep.st lv_v14 st7001 (fun k hb hk => ⟨by omega, trivial⟩)
  replace v14 := bs_v14.keep lv_v14 (Nat.le_refl _)
  replace lv_v18 := Keep.st lv_v18 st7001 (fun k hb hk => ⟨by omega, trivial⟩)
  replace v18 := bs_v18.keep lv_v18 (Nat.le_refl _)
  replace lv_v22 := Keep.st lv_v22 st7001 (fun k hb hk => ⟨by omega, trivial⟩)
  replace v22 := bs_v22.keep lv_v22 (Nat.le_refl _)
  have lt_at7001 := GHeap.lt_of_get at7001
  replace hin := base_hin.mono hle
  clear hb1 fs1 ft1 c101 c111 c121 i21 i31 i41 hm1 hi1 hms1 his1 hmt1 hit1
  have hb1 : Prof.At _ g1 0 c p := ⟨Mem.of_get at1, hin⟩
  obtain ⟨fs1, ft1, c101, c111, c121, i21, i31, i41⟩ := hb1.get
  have hm1 : MemN _ _ _ _ _ := ⟨rfl, hb1.1⟩
  have hi1 := hb1.2
  have hms1 : MemN _ _ _ _ _ := ⟨rfl, fs1.1⟩
  have his1 := fs1.2
  have hmt1 : MemN _ _ _ _ _ := ⟨rfl, ft1.1⟩
  have hit1 := ft1.2
  clear i6
  have i6 := v6.inn
  clear i10
  have i10 := v10.inn
  clear i14
  have i14 := v14.intss
  clear i18
  have i18 := v18.intsss
  clear i22
  have i22 := v22.intsss
  have mm7001 : MemN _ _ _ _ _ := ⟨rfl, Mem.of_get at7001⟩
  refine .nil ?_
  refine hK8 _ _ ?_
  refine .ret ?_
  refine hret _ _ ?_
  refine ⟨_, _, _, _, rfl, ag_40_VProf, (by rfl), (Mem.of_get at7001), ?_⟩
  exact ⟨hle, ⟨p6, p10, a14, r14, a18, r18, s18, a22, r22, s22⟩, rfl, ⟨v6.keep (.of_le (.refl _)) (by omega), v10.keep (.of_le (.refl _)) (by omega), v14.keep (.of_le (.refl _)) (by omega), v18.keep (.of_le (.refl _)) (by omega), v22.keep (.of_le (.refl _)) (by omega)⟩⟩
set_option maxHeartbeats 4000000 in
theorem eqProfunctor_c {c : Prof} {p p' : ProfP} {H : GHeap} (hin : c.In H p := by assumption) (hin' : c.In H p' := by assumption) (hs : c.Small := by assumption) : GCalls Try.prog 20 [.agg (c.cells p).toArray, .agg (c.cells p').toArray] H (Ret (.bool true) H) := by
  refine GCalls.ret rfl ?_
  obtain ⟨w0, w1, ⟨wa2, wb2⟩, w3, w4⟩ := hs
  refine GCalls.body (N := 35) (rs := [.tmp 4]) Try.func20 rfl rfl rfl rfl (fun Qx hret hend => ?_)
  refine .forget (fr' := [(0, some _), (1, some _)]) ⟨rfl, rfl, trivial⟩ ?_
  have hle := GHeap.Le.refl H
  have base_hin := hin
  have base_hin' := hin'
  refine .seq (fun K1 hK1 => ?_)
  refine .region ?_
  refine .r rfl rfl rfl (.boxR rfl sz_40_VProf rfl) ?_
  rintro _ H2 ⟨g2, rfl, le2, ge2, at2⟩
  have nx_H2 := le2.1
  replace hle := hle.trans le2
  have lt_at2 := GHeap.lt_of_get at2
  replace hin := base_hin.mono hle
  replace hin' := base_hin'.mono hle
  have hb2 : Prof.At _ g2 0 c p := ⟨Mem.of_get at2, hin⟩
  obtain ⟨fs2, ft2, c102, c112, c122, i22, i32, i42⟩ := hb2.get
  have hm2 : MemN _ _ _ _ _ := ⟨rfl, hb2.1⟩
  have hi2 := hb2.2
  have hms2 : MemN _ _ _ _ _ := ⟨rfl, fs2.1⟩
  have his2 := fs2.2
  have hmt2 : MemN _ _ _ _ _ := ⟨rfl, ft2.1⟩
  have hit2 := ft2.2
  refine .r rfl rfl rfl (.boxR rfl sz_40_VProf rfl) ?_
  rintro _ H3 ⟨g3, rfl, le3, ge3, at3⟩
  have nx_H3 := le3.1
  replace hle := hle.trans le3
  replace at2 := le3.2 _ _ at2
  have lt_at3 := GHeap.lt_of_get at3
  replace hin := base_hin.mono hle
  replace hin' := base_hin'.mono hle
  clear hb2 fs2 ft2 c102 c112 c122 i22 i32 i42 hm2 hi2 hms2 his2 hmt2 hit2
  have hb2 : Prof.At _ g2 0 c p := ⟨Mem.of_get at2, hin⟩
  obtain ⟨fs2, ft2, c102, c112, c122, i22, i32, i42⟩ := hb2.get
  have hm2 : MemN _ _ _ _ _ := ⟨rfl, hb2.1⟩
  have hi2 := hb2.2
  have hms2 : MemN _ _ _ _ _ := ⟨rfl, fs2.1⟩
  have his2 := fs2.2
  have hmt2 : MemN _ _ _ _ _ := ⟨rfl, ft2.1⟩
  have hit2 := ft2.2
  have hb3 : Prof.At _ g3 0 c p' := ⟨Mem.of_get at3, hin'⟩
  obtain ⟨fs3, ft3, c103, c113, c123, i23, i33, i43⟩ := hb3.get
  have hm3 : MemN _ _ _ _ _ := ⟨rfl, hb3.1⟩
  have hi3 := hb3.2
  have hms3 : MemN _ _ _ _ _ := ⟨rfl, fs3.1⟩
  have his3 := fs3.2
  have hmt3 : MemN _ _ _ _ _ := ⟨rfl, ft3.1⟩
  have hit3 := ft3.2
  refine .m rfl rfl rfl (.assign rfl) (.nil ?_)
  refine hK1 _ _ ?_
  refine .seq (fun K2 hK2 => ?_)
  refine .seq (fun K3 hK3 => ?_)
  refine .region (.m rfl rfl rfl (.fieldAddr fo_40_0_VProf rfl) ?_)
  refine .m rfl rfl rfl (.loadM ag_27_D rfl (by assumption)) ?_
  refine .m rfl rfl rfl (.fieldAddr fo_40_0_VProf rfl) ?_
  refine .m rfl rfl rfl (.loadM ag_27_D rfl (by assumption)) ?_
  refine .callQ rfl rfl rfl rfl @Try.call13 rfl (eqCategory_c) ?_
  refine .m rfl rfl rfl (.not rfl) (.nil ?_)
  refine hK3 _ _ ?_
  refine .cond rfl (fun h10 => ?_) (fun h10 => ?_)
  ·
   try simp only [sps] at h10
   refine .seq (fun K4 hK4 => ?_)
   refine .region (.m rfl rfl rfl (.assign rfl) (.nil ?_))
   refine hK4 _ _ ?_
   refine .ret ?_
   refine hret _ _ ?_
   refine ⟨_, rfl, ?_⟩
   first
   | exact ⟨rfl, hle⟩
   | exact absurd trivial (by assumption)
   | contradiction
   | (exfalso; omega)
   | (exfalso; simp_all)
  try simp only [sps] at h10
  refine .skip ?_
  refine hK2 _ _ ?_
  refine .seq (fun K5 hK5 => ?_)
  refine .seq (fun K6 hK6 => ?_)
  refine .region (.m rfl rfl rfl (.fieldAddr fo_40_1_VProf rfl) ?_)
  refine .m rfl rfl rfl (.loadM ag_27_D rfl (by assumption)) ?_
  refine .m rfl rfl rfl (.fieldAddr fo_40_1_VProf rfl) ?_
  refine .m rfl rfl rfl (.loadM ag_27_D rfl (by assumption)) ?_
  refine .callQ rfl rfl rfl rfl @Try.call13 rfl (eqCategory_c) ?_
  refine .m rfl rfl rfl (.not rfl) (.nil ?_)
  refine hK6 _ _ ?_
  refine .cond rfl (fun h16 => ?_) (fun h16 => ?_)
  ·
   try simp only [sps] at h16
   refine .seq (fun K7 hK7 => ?_)
   refine .region (.m rfl rfl rfl (.assign rfl) (.nil ?_))
   refine hK7 _ _ ?_
   refine .ret ?_
   refine hret _ _ ?_
   refine ⟨_, rfl, ?_⟩
   first
   | exact ⟨rfl, hle⟩
   | exact absurd trivial (by assumption)
   | contradiction
   | (exfalso; omega)
   | (exfalso; simp_all)
  try simp only [sps] at h16
  refine .skip ?_
  refine hK5 _ _ ?_
  refine .seq (fun K8 hK8 => ?_)
  refine .seq (fun K9 hK9 => ?_)
  refine .region (.m rfl rfl rfl (.fieldAddr fo_40_2_VProf rfl) ?_)
  refine .m rfl rfl rfl (.load on_23_B rfl (by first | assumption | exact Mem.of_get at2 10 _ rfl)) ?_
  refine .m rfl rfl rfl (.fieldAddr fo_40_2_VProf rfl) ?_
  refine .m rfl rfl rfl (.load on_23_B rfl (by first | assumption | exact Mem.of_get at3 10 _ rfl)) ?_
  refine .callQ rfl rfl rfl rfl @Try.call24 rfl (eqInt64SS_c) ?_
  refine .m rfl rfl rfl (.not rfl) (.nil ?_)
  refine hK9 _ _ ?_
  refine .cond rfl (fun h22 => ?_) (fun h22 => ?_)
  ·
   try simp only [sps] at h22
   refine .seq (fun K10 hK10 => ?_)
   refine .region (.m rfl rfl rfl (.assign rfl) (.nil ?_))
   refine hK10 _ _ ?_
   refine .ret ?_
   refine hret _ _ ?_
   refine ⟨_, rfl, ?_⟩
   first
   | exact ⟨rfl, hle⟩
   | exact absurd trivial (by assumption)
   | contradiction
   | (exfalso; omega)
   | (exfalso; simp_all)
  try simp only [sps] at h22
  refine .skip ?_
  refine hK8 _ _ ?_
  refine .seq (fun K11 hK11 => ?_)
  refine .seq (fun K12 hK12 => ?_)
  refine .region (.m rfl rfl rfl (.fieldAddr fo_40_3_VProf rfl) ?_)
  refine .m rfl rfl rfl (.load on_34_VProf rfl (by first | assumption | exact Mem.of_get at2 11 _ rfl)) ?_
  refine .m rfl rfl rfl (.fieldAddr fo_40_3_VProf rfl) ?_
  refine .m rfl rfl rfl (.load on_34_VProf rfl (by first | assumption | exact Mem.of_get at3 11 _ rfl)) ?_
  refine .callQ rfl rfl rfl rfl @Try.call67 rfl (eqInt64SSS_c) ?_
  refine .m rfl rfl rfl (.not rfl) (.nil ?_)
  refine hK12 _ _ ?_
  refine .cond rfl (fun h28 => ?_) (fun h28 => ?_)
  ·
   try simp only [sps] at h28
   refine .seq (fun K13 hK13 => ?_)
   refine .region (.m rfl rfl rfl (.assign rfl) (.nil ?_))
   refine hK13 _ _ ?_
   refine .ret ?_
   refine hret _ _ ?_
   refine ⟨_, rfl, ?_⟩
   first
   | exact ⟨rfl, hle⟩
   | exact absurd trivial (by assumption)
   | contradiction
   | (exfalso; omega)
   | (exfalso; simp_all)
  try simp only [sps] at h28
  refine .skip ?_
  refine hK11 _ _ ?_
  refine .seq (fun K14 hK14 => ?_)
  refine .seq (fun K15 hK15 => ?_)
  refine .region (.m rfl rfl rfl (.fieldAddr fo_40_4_VProf rfl) ?_)
  refine .m rfl rfl rfl (.load on_34_VProf rfl (by first | assumption | exact Mem.of_get at2 12 _ rfl)) ?_
  refine .m rfl rfl rfl (.fieldAddr fo_40_4_VProf rfl) ?_
  refine .m rfl rfl rfl (.load on_34_VProf rfl (by first | assumption | exact Mem.of_get at3 12 _ rfl)) ?_
  refine .callQ rfl rfl rfl rfl @Try.call67 rfl (eqInt64SSS_c) ?_
  refine .m rfl rfl rfl (.not rfl) (.nil ?_)
  refine hK15 _ _ ?_
  refine .cond rfl (fun h34 => ?_) (fun h34 => ?_)
  ·
   try simp only [sps] at h34
   refine .seq (fun K16 hK16 => ?_)
   refine .region (.m rfl rfl rfl (.assign rfl) (.nil ?_))
   refine hK16 _ _ ?_
   refine .ret ?_
   refine hret _ _ ?_
   refine ⟨_, rfl, ?_⟩
   first
   | exact ⟨rfl, hle⟩
   | exact absurd trivial (by assumption)
   | contradiction
   | (exfalso; omega)
   | (exfalso; simp_all)
  try simp only [sps] at h34
  refine .skip ?_
  refine hK14 _ _ ?_
  refine .seq (fun K17 hK17 => ?_)
  refine .region (.m rfl rfl rfl (.assign rfl) (.nil ?_))
  refine hK17 _ _ ?_
  refine .ret ?_
  refine hret _ _ ?_
  refine ⟨_, rfl, ?_⟩
  first
  | exact ⟨rfl, hle⟩
  | exact absurd trivial (by assumption)
  | contradiction
  | (exfalso; omega)
  | (exfalso; simp_all)
end Go.Proofs.Ytgnfekfdmgnhcaa
/- Profunctors: what their laws are. No condition. -/
namespace Go.GL

/-- The numbers below n. -/
def numsL (n : Nat) : List Int := (List.range n).map fun (i : Nat) => (i : Int)
@[simp] theorem length_numsL (n : Nat) : (numsL n).length = n := by simp [numsL]
theorem numsL_get {n i : Nat} (h : i < n) : (numsL n).getD i 0 = i := by simp [numsL, List.getD_eq_getElem?_getD, h]
theorem numsL_eq {n : Nat} {ys : List Int} (hl : ys.length = n) (h : ∀ i, i < n → ys.getD i 0 = (i : Int)) : ys = numsL n := by
  refine eq_of_getD (by rw [hl, length_numsL]) fun i hi => ?_
  rw [length_numsL] at hi
  rw [h i hi, numsL_get hi]
/-- A map that moves nothing. -/
def NoMove (xs : List Int) : Prop := ∀ i : Nat, i < xs.length → xs.getD i 0 = i
theorem calm_iff {xs : List Int} {n : Nat} (h : xs.length = n) : xs = numsL n ↔ NoMove xs := by
  subst h
  exact ⟨fun e i hi => by rw [e]; exact numsL_get hi, fun hc => numsL_eq rfl hc⟩
theorem calm_iff' {xs : List Int} {n : Int} (h : (xs.length : Int) = n) : xs = numsL n.toNat ↔ NoMove xs := calm_iff (by omega)

structure Prof.Sized (m : Prof) : Prop where
  sl : (m.sz.length : Int) = m.s.obj
  bl : m.be.length = m.s.src.length
  hl : m.bh.length = m.t.src.length
  row : ∀ x, x < m.sz.length → ((m.sz.getD x []).length : Int) = m.t.obj
  rng : ∀ x, x < m.sz.length → ∀ y, y < (m.sz.getD x []).length → 0 ≤ (m.sz.getD x []).getD y 0 ∧ (m.sz.getD x []).getD y 0 ≤ 64
def Prof.BeOk (m : Prof) (a y : Nat) : Prop :=
  (((m.be.getD a []).getD y []).length : Int) = (m.sz.getD (m.s.tgt.getD a 0).toNat []).getD y 0 ∧ allIn ((m.be.getD a []).getD y []) ((m.sz.getD (m.s.src.getD a 0).toNat []).getD y 0) = true
def Prof.BhOk (m : Prof) (b x : Nat) : Prop :=
  (((m.bh.getD b []).getD x []).length : Int) = (m.sz.getD x []).getD (m.t.src.getD b 0).toNat 0 ∧ allIn ((m.bh.getD b []).getD x []) ((m.sz.getD x []).getD (m.t.tgt.getD b 0).toNat 0) = true
structure Prof.Maps (m : Prof) : Prop where
  be : ∀ a, a < m.be.length → ((m.be.getD a []).length : Int) = m.t.obj ∧ ∀ y, y < (m.be.getD a []).length → m.BeOk a y
  bh : ∀ b, b < m.bh.length → ((m.bh.getD b []).length : Int) = m.s.obj ∧ ∀ x, x < (m.bh.getD b []).length → m.BhOk b x
structure Prof.Shape (m : Prof) : Prop where
  s : m.s.Is
  t : m.t.Is
  z : m.Sized
  ok : m.Maps
/-- Arrow a of the first category: its ends, and how many maps it has. -/
theorem Prof.Sized.b {m : Prof} (z : m.Sized) (s : m.s.Is) {a : Nat} (ha : a < m.be.length) : a < m.s.src.length ∧ a < m.s.tgt.length ∧ 0 ≤ m.s.src.getD a 0 ∧ m.s.src.getD a 0 < m.sz.length ∧ 0 ≤ m.s.tgt.getD a 0 ∧ m.s.tgt.getD a 0 < m.sz.length ∧
    ((m.sz.getD (m.s.src.getD a 0).toNat []).length : Int) = m.t.obj ∧ ((m.sz.getD (m.s.tgt.getD a 0).toNat []).length : Int) = m.t.obj := by
  have h0 := z.bl
  have h1 := s.1.tl
  have h2 := s.1.src a (by omega)
  have h3 := s.1.tgt a (by omega)
  have h4 := z.sl
  exact ⟨by omega, by omega, by omega, by omega, by omega, by omega, z.row _ (by omega), z.row _ (by omega)⟩
theorem Prof.Sized.h {m : Prof} (z : m.Sized) (t : m.t.Is) {b : Nat} (hb : b < m.bh.length) : b < m.t.src.length ∧ b < m.t.tgt.length ∧ 0 ≤ m.t.src.getD b 0 ∧ m.t.src.getD b 0 < m.t.obj ∧ 0 ≤ m.t.tgt.getD b 0 ∧ m.t.tgt.getD b 0 < m.t.obj := by
  have h0 := z.hl
  have h1 := t.1.tl
  have h2 := t.1.src b (by omega)
  have h3 := t.1.tgt b (by omega)
  exact ⟨by omega, by omega, by omega, by omega, by omega, by omega⟩
/-- The map of arrow a at object y. -/
theorem Prof.Shape.by {m : Prof} (h : m.Shape) {a y : Nat} (ha : a < m.be.length) (hy : (y : Int) < m.t.obj) : y < (m.be.getD a []).length ∧ y < (m.sz.getD (m.s.src.getD a 0).toNat []).length ∧ y < (m.sz.getD (m.s.tgt.getD a 0).toNat []).length ∧
    (((m.be.getD a []).getD y []).length : Int) = (m.sz.getD (m.s.tgt.getD a 0).toNat []).getD y 0 ∧ (∀ i, i < ((m.be.getD a []).getD y []).length → 0 ≤ ((m.be.getD a []).getD y []).getD i 0 ∧ ((m.be.getD a []).getD y []).getD i 0 < (m.sz.getD (m.s.src.getD a 0).toNat []).getD y 0) ∧
    (0 ≤ (m.sz.getD (m.s.src.getD a 0).toNat []).getD y 0 ∧ (m.sz.getD (m.s.src.getD a 0).toNat []).getD y 0 ≤ 64) ∧ 0 ≤ (m.sz.getD (m.s.tgt.getD a 0).toNat []).getD y 0 ∧ (m.sz.getD (m.s.tgt.getD a 0).toNat []).getD y 0 ≤ 64 := by
  have q := h.z.b h.s ha
  have r := h.ok.be a ha
  have r2 := r.2 y (by omega)
  exact ⟨by omega, by omega, by omega, r2.1, allIn_iff.1 r2.2, h.z.rng _ (by omega) _ (by omega), h.z.rng _ (by omega) _ (by omega)⟩
theorem Prof.Shape.hx {m : Prof} (h : m.Shape) {b x : Nat} (hb : b < m.bh.length) (hx : (x : Int) < m.s.obj) : x < (m.bh.getD b []).length ∧ x < m.sz.length ∧ (m.t.src.getD b 0).toNat < (m.sz.getD x []).length ∧ (m.t.tgt.getD b 0).toNat < (m.sz.getD x []).length ∧
    (((m.bh.getD b []).getD x []).length : Int) = (m.sz.getD x []).getD (m.t.src.getD b 0).toNat 0 ∧ (∀ i, i < ((m.bh.getD b []).getD x []).length → 0 ≤ ((m.bh.getD b []).getD x []).getD i 0 ∧ ((m.bh.getD b []).getD x []).getD i 0 < (m.sz.getD x []).getD (m.t.tgt.getD b 0).toNat 0) ∧
    (0 ≤ (m.sz.getD x []).getD (m.t.src.getD b 0).toNat 0 ∧ (m.sz.getD x []).getD (m.t.src.getD b 0).toNat 0 ≤ 64) ∧ 0 ≤ (m.sz.getD x []).getD (m.t.tgt.getD b 0).toNat 0 ∧ (m.sz.getD x []).getD (m.t.tgt.getD b 0).toNat 0 ≤ 64 := by
  have q := h.z.h h.t hb
  have z := h.z.sl
  have w := h.z.row x (by omega)
  have r := h.ok.bh b hb
  have r2 := r.2 x (by omega)
  exact ⟨by omega, by omega, by omega, by omega, r2.1, allIn_iff.1 r2.2, h.z.rng _ (by omega) _ (by omega), h.z.rng _ (by omega) _ (by omega)⟩
/-- Arrow a's composite with b. -/
theorem Cat.Shape.comp {c : Cat} (h : c.Shape) {a b : Nat} (ha : a < c.src.length) (hb : b < c.src.length) (hp : 0 ≤ (c.comp.getD a []).getD b 0) :
    c.tgt.getD a 0 = c.src.getD b 0 ∧ (c.comp.getD a []).getD b 0 < c.src.length ∧ c.src.getD ((c.comp.getD a []).getD b 0).toNat 0 = c.src.getD a 0 ∧ c.tgt.getD ((c.comp.getD a []).getD b 0).toNat 0 = c.tgt.getD b 0 := by
  have u := (h.th_ge (f := a) (g := b) ha hb).1 hp
  exact ⟨u, ((Cat.Cell.pos u).1 (h.cell a (by have := h.cl; omega) b hb)).2⟩

structure Prof.Acts (m : Prof) : Prop where
  idb : ∀ y : Nat, (y : Int) < m.t.obj → ∀ x : Nat, (x : Int) < m.s.obj → NoMove ((m.be.getD (m.s.idn.getD x 0).toNat []).getD y []) ∧ NoMove ((m.bh.getD (m.t.idn.getD y 0).toNat []).getD x [])
  thb : ∀ y : Nat, (y : Int) < m.t.obj → ∀ a : Nat, a < m.s.src.length → ∀ b : Nat, b < m.s.src.length → 0 ≤ (m.s.comp.getD a []).getD b 0 →
    (m.be.getD ((m.s.comp.getD a []).getD b 0).toNat []).getD y [] = thenL ((m.be.getD b []).getD y []) ((m.be.getD a []).getD y [])
  thh : ∀ x : Nat, (x : Int) < m.s.obj → ∀ a : Nat, a < m.t.src.length → ∀ b : Nat, b < m.t.src.length → 0 ≤ (m.t.comp.getD a []).getD b 0 →
    (m.bh.getD ((m.t.comp.getD a []).getD b 0).toNat []).getD x [] = thenL ((m.bh.getD a []).getD x []) ((m.bh.getD b []).getD x [])
/-- Both sides act past each other. -/
def Prof.MixAt (m : Prof) (a b : Nat) : Prop :=
  thenL ((m.be.getD a []).getD (m.t.src.getD b 0).toNat []) ((m.bh.getD b []).getD (m.s.src.getD a 0).toNat []) = thenL ((m.bh.getD b []).getD (m.s.tgt.getD a 0).toNat []) ((m.be.getD a []).getD (m.t.tgt.getD b 0).toNat [])
def Prof.Mix (m : Prof) : Prop := ∀ a, a < m.s.src.length → ∀ b, b < m.t.src.length → m.MixAt a b
def Prof.Is (m : Prof) : Prop := m.Shape ∧ m.Acts ∧ m.Mix

/-- f's sum below n. -/
def sumN (f : Nat → Int) : Nat → Int
  | 0 => 0
  | n + 1 => sumN f n + f n
theorem sumN_bd {f : Nat → Int} {c : Int} {N : Nat} (h : ∀ i, i < N → 0 ≤ f i ∧ f i ≤ c) : ∀ {n}, n ≤ N → 0 ≤ sumN f n ∧ sumN f n ≤ n * c
  | 0, _ => ⟨Int.le_refl _, by simp [sumN]⟩
  | n + 1, hn => by
    have h1 := sumN_bd h (n := n) (by omega)
    have h2 := h n (by omega)
    have h3 : ((n + 1 : Nat) : Int) * c = n * c + c := by rw [Int.natCast_add, Int.add_mul]; simp
    rw [h3]
    simp only [sumN]
    omega
theorem range_succ_map {α : Type} {f : Nat → α} {n : Nat} : (List.range (n + 1)).map f = (List.range n).map f ++ [f n] := by simp [List.range_succ]
def Prof.diag (m : Prof) (i : Nat) : Int := (m.sz.getD i []).getD i 0
/-- Where the places over each object begin. -/
def Prof.firsts (m : Prof) (n : Nat) : List Int := (List.range n).map (sumN m.diag)
@[simp] theorem Prof.length_firsts (m : Prof) (n : Nat) : (m.firsts n).length = n := by simp [Prof.firsts]
/-- A profunctor of a category with itself. -/
noncomputable def Prof.code (m : Prof) : Int := bif B m.Is then (bif B (m.s = m.t) then 0 else 5) else 1
theorem Prof.Sized.diag {m : Prof} (z : m.Sized) (e : m.s = m.t) {i : Nat} (hi : i < m.sz.length) : i < (m.sz.getD i []).length ∧ 0 ≤ m.diag i ∧ m.diag i ≤ 64 := by
  have h1 := z.row i hi
  have h2 := z.sl
  rw [e] at h2
  have h3 := z.rng i hi i (by omega)
  exact ⟨by omega, h3⟩
theorem Prof.Sized.sum {m : Prof} (z : m.Sized) (e : m.s = m.t) {n : Nat} (hn : n ≤ m.sz.length) : 0 ≤ sumN m.diag n ∧ sumN m.diag n ≤ n * 64 := sumN_bd (N := m.sz.length) (fun _ hi => (z.diag e hi).2) hn
/-- The place of element e over object x. -/
noncomputable def Prof.place (m : Prof) (x e : Int) : Int × Int := bif B (m.code = 0) then (bif B (0 ≤ x ∧ x < m.s.obj ∧ 0 ≤ e ∧ e < m.diag x.toNat) then (sumN m.diag x.toNat + e, 0) else (0, 2)) else (0, m.code)
abbrev L3 := List (List (List Int))
def Prof.CoOk (m n : Prof) (c : L3) (x y : Nat) : Prop := (((c.getD x []).getD y []).length : Int) = (m.sz.getD x []).getD y 0 ∧ allIn ((c.getD x []).getD y []) ((n.sz.getD x []).getD y 0) = true
structure Prof.Rows (m n : Prof) (c : L3) : Prop where
  cl : (c.length : Int) = m.s.obj
  row : ∀ x, x < c.length → ((c.getD x []).length : Int) = m.t.obj ∧ ∀ y, y < (c.getD x []).length → m.CoOk n c x y
def Prof.NatB (m n : Prof) (c : L3) (a y : Nat) : Prop :=
  thenL ((m.be.getD a []).getD y []) ((c.getD (m.s.src.getD a 0).toNat []).getD y []) = thenL ((c.getD (m.s.tgt.getD a 0).toNat []).getD y []) ((n.be.getD a []).getD y [])
def Prof.NatH (m n : Prof) (c : L3) (b x : Nat) : Prop :=
  thenL ((m.bh.getD b []).getD x []) ((c.getD x []).getD (m.t.tgt.getD b 0).toNat []) = thenL ((c.getD x []).getD (m.t.src.getD b 0).toNat []) ((n.bh.getD b []).getD x [])
structure Prof.IsMap (m n : Prof) (c : L3) : Prop where
  rows : m.Rows n c
  nb : ∀ a, a < m.s.src.length → ∀ y : Nat, (y : Int) < m.t.obj → m.NatB n c a y
  nh : ∀ b, b < m.t.src.length → ∀ x : Nat, (x : Int) < m.s.obj → m.NatH n c b x
theorem Prof.Rows.co {m n : Prof} {c : L3} (h : m.Rows n c) {x y : Nat} (hx : (x : Int) < m.s.obj) (hy : (y : Int) < m.t.obj) : x < c.length ∧ y < (c.getD x []).length ∧ (((c.getD x []).getD y []).length : Int) = (m.sz.getD x []).getD y 0 ∧
    ∀ i, i < ((c.getD x []).getD y []).length → 0 ≤ ((c.getD x []).getD y []).getD i 0 ∧ ((c.getD x []).getD y []).getD i 0 < (n.sz.getD x []).getD y 0 := by
  have h1 := h.cl
  have h2 := h.row x (by omega)
  have h3 := h2.2 y (by omega)
  exact ⟨by omega, by omega, h3.1, allIn_iff.1 h3.2⟩
end Go.GL
/- Profunctors, in the program. No condition but those of each statement. -/
namespace Go.Proofs.Ytgnfekfdmgnhcaa
open Go Go.GL Go.RowKit Go.Proofs
theorem ze_85_O : zeroT Try.prog 85 = some ([.pointer none], 1) := by kernel_rfl
theorem numbersN_c {n : Nat} {H : GHeap} (hn : n ≤ 1048576) : GCalls Try.prog 136 [.int .i64 (n : Int)] H (NewInts 2 H (numsL n)) := by
  refine GCalls.body (N := 18) (rs := [.tmp 2]) Try.func136 rfl rfl rfl rfl (fun Qx hret hend => ?_)
  refine .forget (fr' := [(0, some _)]) ⟨rfl, trivial⟩ ?_
  have hle := GHeap.Le.refl H
  refine .seq (fun K1 hK1 => ?_)
  refine .region (.m rfl rfl rfl (.assign rfl) (.nil ?_))
  refine hK1 _ _ ?_
  refine .seq (fun K2 hK2 => ?_)
  refine .region (.m rfl rfl rfl (.move rfl) ?_)
  refine .r rfl rfl rfl (.makeIN rfl sl_22_A ze_2_E by_2_E rfl rfl (by omega) (by omega) (by omega)) ?_
  rintro _ H6 ⟨g6, rfl, le6, ge6, at6⟩
  have nx_H6 := le6.1
  replace hle := hle.trans le6
  have lt_at6 := GHeap.lt_of_get at6
  refine .m rfl rfl rfl (.assign rfl) (.nil ?_)
  refine hK2 _ _ ?_
  refine .seq (fun K3 hK3 => ?_)
  refine .seq (fun K4 hK4 => ?_)
  refine .region (.m rfl rfl rfl (.move rfl) (.m rfl rfl rfl (.len sl_22_A rfl) (.m rfl rfl rfl (.move rfl) ?_)))
  refine .nil ?_
  refine hK4 _ _ ?_
  refine .block ?_
  refine .loopR (σ := Nat × List Int) [(3, some _), (8, some _)] (fun (k, ys) => [(9, some (.int .i64 (k : Int)))]) (fun (k, ys) H' => St [g6] H6 H' ∧ H'.get g6 = some (.row (ints ys) 2 true) ∧ k ≤ n ∧ ys.length = n ∧ ∀ i, i < k → ys.getD i 0 = (i : Int)) (fun (k, ys) => n - k) ((0, List.replicate n 0)) ⟨rfl, rfl, trivial⟩ ⟨rfl, trivial⟩ ?_ ?_
  ·
   refine ⟨.refl _ _, by first | assumption | exact at6 | simpa using at6, ?_⟩
   exact ⟨by omega, by simp, fun _ _ => by omega⟩
  rintro ⟨k, ys⟩ HL1 ⟨lst1, at_L3, hI⟩ KL1 hKL1
  refine .forget (fr' := [(9, some (.int .i64 (k : Int))), (3, some _), (8, some _)]) ⟨rfl, rfl, rfl, trivial⟩ ?_
  have nx_HL1 := lst1.nx
  replace hle := hle.st lst1 (fun k hk => ⟨by omega, trivial⟩)
  have lt_at_L3 := GHeap.lt_of_get at_L3
  obtain ⟨hk, hyl, ha⟩ := hI
  have hsl := SlA.of_ints at_L3 hyl
  refine .seq (fun K5 hK5 => ?_)
  refine .region (.m rfl rfl rfl (.cmp rfl rfl rfl) (.nil ?_))
  refine hK5 _ _ ?_
  refine .seq (fun K6 hK6 => ?_)
  refine .cond rfl (fun h10 => ?_) (fun h10 => ?_)
  ·
   simp only [sps] at h10
   refine .skip ?_
   refine hK6 _ _ ?_
   refine .seq (fun K7 hK7 => ?_)
   refine .block ?_
   refine .seq (fun K8 hK8 => ?_)
   refine .region (.m rfl rfl rfl (.move rfl) (.m rfl rfl rfl (.assign rfl) (.nil ?_)))
   refine hK8 _ _ ?_
   refine .region (.m rfl rfl rfl (.move rfl) (.m rfl rfl rfl (.move rfl) (.m rfl rfl rfl (.move rfl) ?_)))
   refine .m rfl rfl rfl (.idxN sl_22_A (by first | assumption | exact SlA.of_row at_L3 (by first | rfl | (simp; done) | (simp <;> omega))) rfl rfl (by omega)) ?_
   refine .r0 rfl rfl (.storeI rfl sz_2_E rfl rfl (by assumption) (by first | omega | (simp <;> omega))) ?_
   rintro _ H5004 ⟨rfl, st5004, at5004⟩
   have nx_H5004 := st5004.nx
   replace hle := hle.st st5004 (fun k hk => ⟨by omega, trivial⟩)
   replace lst1 := lst1.st st5004 (fun k hk ho => by simp only [out, and_true] at ho ⊢ <;> first | exact ho | exact ho.1 | exact ho.2 | exact ho.2.1 | exact ho.2.2 | exact ho.2.2.1 | exact ho.2.2.2 | omega)
   have lt_at5004 := GHeap.lt_of_get at5004
   refine .nil ?_
   refine hK7 _ _ ?_
   refine .region ?_
   refine .m rfl rfl rfl (.add rfl rfl rfl (by omega) (by omega)) ?_
   refine .m rfl rfl rfl (.move rfl) (.nil ?_)
   refine hKL1 ((k + 1, ys.set (0 + k) (k : Int))) _ _ ?_ ?_ ⟨rfl, rfl, rfl, trivial⟩
   ·
    refine ⟨lst1, by assumption, ?_⟩
    refine ⟨by omega, by simpa using hyl, fun i hi => ?_⟩
    rw [Nat.zero_add, getD_set (by omega)]
    split
    · rename_i e; rw [e]
    · exact ha i (by omega)
   (dsimp only; omega)
  try simp only [sps] at h10
  refine .exit ?_
  refine hK3 _ _ ?_
  refine .seq (fun K9 hK9 => ?_)
  refine .region (.m rfl rfl rfl (.move rfl) (.m rfl rfl rfl (.assign rfl) (.nil ?_)))
  refine hK9 _ _ ?_
  refine .ret ?_
  refine hret _ _ ?_
  refine ⟨_, rfl, ?_⟩
  obtain rfl := numsL_eq hyl fun i hi => ha i (by omega)
  exact ⟨hle, _, by rw [length_numsL], at_L3, by omega⟩
theorem numbers_c {n : Int} {H : GHeap} (h0 : 0 ≤ n := by omega) (hn : n ≤ 1048576 := by omega) : GCalls Try.prog 136 [.int .i64 n] H (NewInts 2 H (numsL n.toNat)) := by
  have h := numbersN_c (n := n.toNat) (H := H) (by omega)
  rw [Int.toNat_of_nonneg h0] at h
  exact h
set_option maxHeartbeats 4000000 in
theorem pfShape_c {g o : Nat} {m : Prof} {p : ProfP} {H : GHeap} (h : Prof.At H g o m p := by assumption) (hs : m.Small := by assumption) : GCalls Try.prog 113 [.pointer (some ⟨g, o, none⟩)] H (Ret (.bool (B m.Shape)) H) := by
  refine GCalls.ret rfl ?_
  refine GCalls.body (N := 202) (rs := [.tmp 2]) Try.func113 rfl rfl rfl rfl (fun Qx hret hend => ?_)
  refine .forget (fr' := [(0, some _)]) ⟨rfl, trivial⟩ ?_
  have hle := GHeap.Le.refl H
  have base_h := h
  obtain ⟨fs, ft, c10, c11, c12, i2, i3, i4⟩ := h.get
  have hm : MemN _ _ _ _ _ := ⟨rfl, h.1⟩
  have hi := h.2
  have hms : MemN _ _ _ _ _ := ⟨rfl, fs.1⟩
  have his := fs.2
  have hmt : MemN _ _ _ _ _ := ⟨rfl, ft.1⟩
  have hit := ft.2
  obtain ⟨c0, c1, c2, c3, c4, d1, d2, d3, d4⟩ := fs.get
  obtain ⟨x0, x1, x2, x3, x4, y1, y2, y3, y4⟩ := ft.get
  obtain ⟨s1, s2, ⟨s3, s4⟩, ⟨s5, s6⟩, s7, s8⟩ := hs
  refine .seq (fun K1 hK1 => ?_)
  refine .region (.m rfl rfl rfl (.assign rfl) (.nil ?_))
  refine hK1 _ _ ?_
  refine .seq (fun K2 hK2 => ?_)
  refine .regionD mixed_orders_B (.q 0 (.q 1 (.q 2 (.q 3 (.q 4 (.q 5 (.q 6 (.q 7 (.done))))))))) (by kernel_rfl) ?_
  refine .m rfl rfl rfl rfl (.refl _) (.move rfl) (.m rfl rfl rfl rfl (.refl _) (.nilCheck rfl) (.m rfl rfl rfl rfl (.refl _) (.fieldAddr fo_40_0_VProf rfl) (.m rfl rfl rfl rfl (.refl _) (.move rfl) ?_)))
  refine .m rfl rfl rfl rfl (.refl _) (.nilCheck rfl) (.m rfl rfl rfl rfl (.refl _) (.fieldAddr fo_40_1_VProf rfl) (.m rfl rfl rfl rfl (.refl _) (.assign rfl) (.m rfl rfl rfl rfl (.refl _) (.assign rfl) ?_)))
  refine .done ?_
  refine hK2 _ _ ?_
  refine .seq (fun K3 hK3 => ?_)
  refine .seq (fun K4 hK4 => ?_)
  refine .regionD mixed_orders_B (.q 0 (.q 1 (.c 2 0 (.c 3 0 (.q 4 (.q 5 (.q 6 (.q 7 (.q 8 (.q 9 (.q 10 (.q 11 (.q 12 (.q 13 (.q 14 (.q 15 (.q 16 (.q 17 (.q 18 (.q 19 (.q 20 (.q 21 (.q 22 (.q 23 (.c 24 1 (.q 25 (.q 26 (.q 27 (.q 28 (.q 29 (.q 30 (.q 31 (.q 32 (.q 33 (.c 34 1 (.q 35 (.q 36 (.done)))))))))))))))))))))))))))))))))))))) (by kernel_rfl) ?_
  refine .m rfl rfl rfl rfl (.refl _) (.move rfl) (.m rfl rfl rfl rfl (.refl _) (.move rfl) ?_)
  refine .c0 rfl rfl rfl rfl (.litR rfl sl_186_F ze_85_O rfl rfl (by omega) (by omega) rfl rfl) ?_
  rintro _ H23 ⟨g23, rfl, le23, ge23, at23⟩
  have nx_H23 := le23.1
  replace hle := hle.trans le23
  have lt_at23 := GHeap.lt_of_get at23
  replace h := base_h.mono hle
  clear fs ft c10 c11 c12 i2 i3 i4 hm hi hms his hmt hit c0 c1 c2 c3 c4 d1 d2 d3 d4 x0 x1 x2 x3 x4 y1 y2 y3 y4
  obtain ⟨fs, ft, c10, c11, c12, i2, i3, i4⟩ := h.get
  have hm : MemN _ _ _ _ _ := ⟨rfl, h.1⟩
  have hi := h.2
  have hms : MemN _ _ _ _ _ := ⟨rfl, fs.1⟩
  have his := fs.2
  have hmt : MemN _ _ _ _ _ := ⟨rfl, ft.1⟩
  have hit := ft.2
  obtain ⟨c0, c1, c2, c3, c4, d1, d2, d3, d4⟩ := fs.get
  obtain ⟨x0, x1, x2, x3, x4, y1, y2, y3, y4⟩ := ft.get
  refine .callQ0 rfl rfl rfl rfl rfl @Try.call154 rfl (areCategories2_c) ?_
  refine .m rfl rfl rfl rfl (.refl _) (.not rfl) (.m rfl rfl rfl rfl (.refl _) (.move rfl) ?_)
  refine .split (fun h26 => ?_) (fun h26 => ?_)
  ·
   try simp only [sps] at h26
   refine .sg rfl rfl rfl rfl rfl rfl (.sg rfl rfl rfl rfl rfl rfl (.sg rfl rfl rfl rfl rfl rfl (.sg rfl rfl rfl rfl rfl rfl ?_)))
   refine .sg rfl rfl rfl rfl rfl rfl (.sg rfl rfl rfl rfl rfl rfl (.sg rfl rfl rfl rfl rfl rfl (.sg rfl rfl rfl rfl rfl rfl ?_)))
   refine .sg rfl rfl rfl rfl rfl rfl (.sg rfl rfl rfl rfl rfl rfl (.m rfl rfl rfl rfl (.refl _) (.pickT rfl rfl) (.m rfl rfl rfl rfl (.refl _) (.move rfl) ?_)))
   refine .sg rfl rfl rfl rfl rfl rfl (.sg rfl rfl rfl rfl rfl rfl (.sg rfl rfl rfl rfl rfl rfl (.sg rfl rfl rfl rfl rfl rfl ?_)))
   refine .sg rfl rfl rfl rfl rfl rfl (.sg rfl rfl rfl rfl rfl rfl (.sgc rfl rfl rfl rfl rfl rfl (.sg rfl rfl rfl rfl rfl rfl ?_)))
   refine .m rfl rfl rfl rfl (.refl _) (.pickT rfl rfl) (.m rfl rfl rfl rfl (.refl _) (.move rfl) (.sg rfl rfl rfl rfl rfl rfl (.sg rfl rfl rfl rfl rfl rfl ?_)))
   refine .sg rfl rfl rfl rfl rfl rfl (.sg rfl rfl rfl rfl rfl rfl (.sg rfl rfl rfl rfl rfl rfl (.sg rfl rfl rfl rfl rfl rfl ?_)))
   refine .sgc rfl rfl rfl rfl rfl rfl (.sg rfl rfl rfl rfl rfl rfl (.m rfl rfl rfl rfl (.refl _) (.pickT rfl rfl) ?_))
   refine .done ?_
   refine hK4 _ _ ?_
   refine .condT rfl ?_
   refine .seq (fun K5 hK5 => ?_)
   refine .region (.m rfl rfl rfl (.assign rfl) (.nil ?_))
   refine hK5 _ _ ?_
   refine .ret ?_
   refine hret _ _ ?_
   refine ⟨_, rfl, ?_⟩
   first
   | exact ⟨congrArg _ (B_false fun hh => h26 ⟨hh.s, hh.t⟩), hle⟩
   | exact ⟨congrArg _ (B_true ⟨hC, hD, hz, fun a ha => ha2 a (by omega), fun b hb => ha4 b (by omega)⟩), hle⟩
   | exact ⟨congrArg _ (B_false fun hh => h199 ((hh.ok.bh b (by omega)).2 x (by omega))), hle⟩
   | exact ⟨congrArg _ (B_false fun hh => h138 ((hh.ok.be a (by omega)).2 y (by omega))), hle⟩
   | exact ⟨congrArg _ (B_false fun hh => by have := (hh.ok.bh b (by omega)).1; omega), hle⟩
   | exact ⟨congrArg _ (B_false fun hh => by have := (hh.ok.be a (by omega)).1; omega), hle⟩
   | exact ⟨congrArg _ (B_false fun hh => by have := hh.z.row k (by omega); omega), hle⟩
   | exact ⟨congrArg _ (B_false fun hh => by rw [allIn_iff.2 fun y hy => by have := hh.z.rng k (by omega) y (by omega); omega] at h78; cases h78), hle⟩
   | exact ⟨congrArg _ (B_false fun hh => by have := hh.z.sl; omega), hle⟩
   | exact ⟨congrArg _ (B_false fun hh => by have := hh.z.bl; omega), hle⟩
   | exact ⟨congrArg _ (B_false fun hh => by have := hh.z.hl; omega), hle⟩
  try simp only [sps] at h26
  refine .mg rfl rfl rfl rfl rfl rfl (.refl _) (.move rfl) (.mg rfl rfl rfl rfl rfl rfl (.refl _) (.nilCheck rfl) (.mg rfl rfl rfl rfl rfl rfl (.refl _) (.fieldAddr fo_40_2_VProf rfl) ?_))
  refine .mg rfl rfl rfl rfl rfl rfl (.refl _) (.load on_23_B rfl (by assumption)) ?_
  refine .mg rfl rfl rfl rfl rfl rfl (.refl _) (.len sl_23_B rfl) (.mg rfl rfl rfl rfl rfl rfl (.refl _) (.move rfl) (.mg rfl rfl rfl rfl rfl rfl (.refl _) (.nilCheck rfl) (.mg rfl rfl rfl rfl rfl rfl (.refl _) (.fieldAddr fo_27_0_B rfl) ?_)))
  refine .mg rfl rfl rfl rfl rfl rfl (.refl _) (.load on_2_A rfl (by assumption)) ?_
  refine .mg rfl rfl rfl rfl rfl rfl (.refl _) (.cmp rfl rfl rfl) (.m rfl rfl rfl rfl (.refl _) (.pickF rfl rfl) (.m rfl rfl rfl rfl (.refl _) (.move rfl) ?_))
  refine .split (fun h38 => ?_) (fun h38 => ?_)
  ·
   try simp only [sps] at h38
   refine .sg rfl rfl rfl rfl rfl rfl (.sg rfl rfl rfl rfl rfl rfl (.sg rfl rfl rfl rfl rfl rfl (.sg rfl rfl rfl rfl rfl rfl ?_)))
   refine .sg rfl rfl rfl rfl rfl rfl (.sg rfl rfl rfl rfl rfl rfl (.sgc rfl rfl rfl rfl rfl rfl (.sg rfl rfl rfl rfl rfl rfl ?_)))
   refine .m rfl rfl rfl rfl (.refl _) (.pickT rfl rfl) (.m rfl rfl rfl rfl (.refl _) (.move rfl) (.sg rfl rfl rfl rfl rfl rfl (.sg rfl rfl rfl rfl rfl rfl ?_)))
   refine .sg rfl rfl rfl rfl rfl rfl (.sg rfl rfl rfl rfl rfl rfl (.sg rfl rfl rfl rfl rfl rfl (.sg rfl rfl rfl rfl rfl rfl ?_)))
   refine .sgc rfl rfl rfl rfl rfl rfl (.sg rfl rfl rfl rfl rfl rfl (.m rfl rfl rfl rfl (.refl _) (.pickT rfl rfl) ?_))
   refine .done ?_
   refine hK4 _ _ ?_
   refine .condT rfl ?_
   refine .seq (fun K6 hK6 => ?_)
   refine .region (.m rfl rfl rfl (.assign rfl) (.nil ?_))
   refine hK6 _ _ ?_
   refine .ret ?_
   refine hret _ _ ?_
   refine ⟨_, rfl, ?_⟩
   first
   | exact ⟨congrArg _ (B_false fun hh => h26 ⟨hh.s, hh.t⟩), hle⟩
   | exact ⟨congrArg _ (B_true ⟨hC, hD, hz, fun a ha => ha2 a (by omega), fun b hb => ha4 b (by omega)⟩), hle⟩
   | exact ⟨congrArg _ (B_false fun hh => h199 ((hh.ok.bh b (by omega)).2 x (by omega))), hle⟩
   | exact ⟨congrArg _ (B_false fun hh => h138 ((hh.ok.be a (by omega)).2 y (by omega))), hle⟩
   | exact ⟨congrArg _ (B_false fun hh => by have := (hh.ok.bh b (by omega)).1; omega), hle⟩
   | exact ⟨congrArg _ (B_false fun hh => by have := (hh.ok.be a (by omega)).1; omega), hle⟩
   | exact ⟨congrArg _ (B_false fun hh => by have := hh.z.row k (by omega); omega), hle⟩
   | exact ⟨congrArg _ (B_false fun hh => by rw [allIn_iff.2 fun y hy => by have := hh.z.rng k (by omega) y (by omega); omega] at h78; cases h78), hle⟩
   | exact ⟨congrArg _ (B_false fun hh => by have := hh.z.sl; omega), hle⟩
   | exact ⟨congrArg _ (B_false fun hh => by have := hh.z.bl; omega), hle⟩
   | exact ⟨congrArg _ (B_false fun hh => by have := hh.z.hl; omega), hle⟩
  try simp only [sps] at h38
  refine .mg rfl rfl rfl rfl rfl rfl (.refl _) (.move rfl) (.mg rfl rfl rfl rfl rfl rfl (.refl _) (.nilCheck rfl) (.mg rfl rfl rfl rfl rfl rfl (.refl _) (.fieldAddr fo_40_3_VProf rfl) ?_))
  refine .mg rfl rfl rfl rfl rfl rfl (.refl _) (.load on_34_VProf rfl (by assumption)) ?_
  refine .mg rfl rfl rfl rfl rfl rfl (.refl _) (.len sl_34_VZ rfl) (.mg rfl rfl rfl rfl rfl rfl (.refl _) (.move rfl) ?_)
  refine .callQ1g rfl rfl rfl rfl rfl rfl rfl @Try.call58 rfl (arrows_c) (.refl _) ?_
  refine .mg rfl rfl rfl rfl rfl rfl (.refl _) (.cmp rfl rfl rfl) (.m rfl rfl rfl rfl (.refl _) (.pickF rfl rfl) (.m rfl rfl rfl rfl (.refl _) (.move rfl) ?_))
  refine .split (fun h48 => ?_) (fun h48 => ?_)
  ·
   try simp only [sps] at h48
   refine .sg rfl rfl rfl rfl rfl rfl (.sg rfl rfl rfl rfl rfl rfl (.sg rfl rfl rfl rfl rfl rfl (.sg rfl rfl rfl rfl rfl rfl ?_)))
   refine .sg rfl rfl rfl rfl rfl rfl (.sg rfl rfl rfl rfl rfl rfl (.sgc rfl rfl rfl rfl rfl rfl (.sg rfl rfl rfl rfl rfl rfl ?_)))
   refine .m rfl rfl rfl rfl (.refl _) (.pickT rfl rfl) ?_
   refine .done ?_
   refine hK4 _ _ ?_
   refine .condT rfl ?_
   refine .seq (fun K7 hK7 => ?_)
   refine .region (.m rfl rfl rfl (.assign rfl) (.nil ?_))
   refine hK7 _ _ ?_
   refine .ret ?_
   refine hret _ _ ?_
   refine ⟨_, rfl, ?_⟩
   first
   | exact ⟨congrArg _ (B_false fun hh => h26 ⟨hh.s, hh.t⟩), hle⟩
   | exact ⟨congrArg _ (B_true ⟨hC, hD, hz, fun a ha => ha2 a (by omega), fun b hb => ha4 b (by omega)⟩), hle⟩
   | exact ⟨congrArg _ (B_false fun hh => h199 ((hh.ok.bh b (by omega)).2 x (by omega))), hle⟩
   | exact ⟨congrArg _ (B_false fun hh => h138 ((hh.ok.be a (by omega)).2 y (by omega))), hle⟩
   | exact ⟨congrArg _ (B_false fun hh => by have := (hh.ok.bh b (by omega)).1; omega), hle⟩
   | exact ⟨congrArg _ (B_false fun hh => by have := (hh.ok.be a (by omega)).1; omega), hle⟩
   | exact ⟨congrArg _ (B_false fun hh => by have := hh.z.row k (by omega); omega), hle⟩
   | exact ⟨congrArg _ (B_false fun hh => by rw [allIn_iff.2 fun y hy => by have := hh.z.rng k (by omega) y (by omega); omega] at h78; cases h78), hle⟩
   | exact ⟨congrArg _ (B_false fun hh => by have := hh.z.sl; omega), hle⟩
   | exact ⟨congrArg _ (B_false fun hh => by have := hh.z.bl; omega), hle⟩
   | exact ⟨congrArg _ (B_false fun hh => by have := hh.z.hl; omega), hle⟩
  try simp only [sps] at h48
  refine .mg rfl rfl rfl rfl rfl rfl (.refl _) (.move rfl) (.mg rfl rfl rfl rfl rfl rfl (.refl _) (.nilCheck rfl) (.mg rfl rfl rfl rfl rfl rfl (.refl _) (.fieldAddr fo_40_4_VProf rfl) ?_))
  refine .mg rfl rfl rfl rfl rfl rfl (.refl _) (.load on_34_VProf rfl (by assumption)) ?_
  refine .mg rfl rfl rfl rfl rfl rfl (.refl _) (.len sl_34_VZ rfl) (.mg rfl rfl rfl rfl rfl rfl (.refl _) (.move rfl) ?_)
  refine .callQ1g rfl rfl rfl rfl rfl rfl rfl @Try.call58 rfl (arrows_c) (.refl _) ?_
  refine .mg rfl rfl rfl rfl rfl rfl (.refl _) (.cmp rfl rfl rfl) (.m rfl rfl rfl rfl (.refl _) (.pickF rfl rfl) ?_)
  refine .done ?_
  refine hK4 _ _ ?_
  refine .cond rfl (fun h57 => ?_) (fun h57 => ?_)
  ·
   try simp only [sps] at h57
   refine .seq (fun K8 hK8 => ?_)
   refine .region (.m rfl rfl rfl (.assign rfl) (.nil ?_))
   refine hK8 _ _ ?_
   refine .ret ?_
   refine hret _ _ ?_
   refine ⟨_, rfl, ?_⟩
   first
   | exact ⟨congrArg _ (B_false fun hh => h26 ⟨hh.s, hh.t⟩), hle⟩
   | exact ⟨congrArg _ (B_true ⟨hC, hD, hz, fun a ha => ha2 a (by omega), fun b hb => ha4 b (by omega)⟩), hle⟩
   | exact ⟨congrArg _ (B_false fun hh => h199 ((hh.ok.bh b (by omega)).2 x (by omega))), hle⟩
   | exact ⟨congrArg _ (B_false fun hh => h138 ((hh.ok.be a (by omega)).2 y (by omega))), hle⟩
   | exact ⟨congrArg _ (B_false fun hh => by have := (hh.ok.bh b (by omega)).1; omega), hle⟩
   | exact ⟨congrArg _ (B_false fun hh => by have := (hh.ok.be a (by omega)).1; omega), hle⟩
   | exact ⟨congrArg _ (B_false fun hh => by have := hh.z.row k (by omega); omega), hle⟩
   | exact ⟨congrArg _ (B_false fun hh => by rw [allIn_iff.2 fun y hy => by have := hh.z.rng k (by omega) y (by omega); omega] at h78; cases h78), hle⟩
   | exact ⟨congrArg _ (B_false fun hh => by have := hh.z.sl; omega), hle⟩
   | exact ⟨congrArg _ (B_false fun hh => by have := hh.z.bl; omega), hle⟩
   | exact ⟨congrArg _ (B_false fun hh => by have := hh.z.hl; omega), hle⟩
  simp only [sps] at h57
  refine .skip ?_
  refine hK3 _ _ ?_
  refine .seq (fun K9 hK9 => ?_)
  refine .seq (fun K10 hK10 => ?_)
  refine .region (.m rfl rfl rfl (.move rfl) (.m rfl rfl rfl (.nilCheck rfl) (.m rfl rfl rfl (.fieldAddr fo_40_2_VProf rfl) ?_)))
  refine .m rfl rfl rfl (.load on_23_B rfl (by assumption)) ?_
  refine .m rfl rfl rfl (.len sl_23_B rfl) (.m rfl rfl rfl (.move rfl) (.nil ?_))
  refine hK10 _ _ ?_
  refine .block ?_
  have hC := h26.1
  have hD := h26.2
  have q1 := hC.1.tl
  have q2 := hD.1.tl
  refine .loopR (σ := Nat) [(0, some _), (3, some _), (4, some _), (61, some _), (62, some _)] (fun k => [(63, some (.int .i64 (k : Int)))]) (fun k H' => H23 = H' ∧ (k : Int) ≤ m.sz.length ∧ ∀ x, x < k → ((m.sz.getD x []).length : Int) = m.t.obj ∧ ∀ y, y < (m.sz.getD x []).length → 0 ≤ (m.sz.getD x []).getD y 0 ∧ (m.sz.getD x []).getD y 0 < 65) (fun k => (m.sz.length - k : Int).toNat) (0) ⟨rfl, rfl, rfl, rfl, rfl, trivial⟩ ⟨rfl, trivial⟩ ?_ ?_
  ·
   refine ⟨rfl, ?_⟩
   exact ⟨by omega, fun _ _ => by omega⟩
  rintro k _ ⟨rfl, hI⟩ KL1 hKL1
  refine .forget (fr' := [(63, some (.int .i64 (k : Int))), (0, some _), (3, some _), (4, some _), (61, some _), (62, some _)]) ⟨rfl, rfl, rfl, rfl, rfl, rfl, trivial⟩ ?_
  obtain ⟨hk1, ha1⟩ := hI
  refine .seq (fun K11 hK11 => ?_)
  refine .region (.m rfl rfl rfl (.cmp rfl rfl rfl) (.nil ?_))
  refine hK11 _ _ ?_
  refine .seq (fun K12 hK12 => ?_)
  refine .cond rfl (fun h64 => ?_) (fun h64 => ?_)
  ·
   simp only [sps] at h64
   have r1 := i2.2 k (by omega)
   have r2 := s4 k
   refine .skip ?_
   refine hK12 _ _ ?_
   refine .seq (fun K13 hK13 => ?_)
   refine .block ?_
   refine .seq (fun K14 hK14 => ?_)
   refine .region ?_
   refine .m rfl rfl rfl (.idxN sl_23_B (Intss.sl (by assumption)) rfl rfl (by omega)) ?_
   refine .m rfl rfl rfl (.loadR on_22_B (by assumption) rfl (by omega)) ?_
   refine .m rfl rfl rfl (.assign rfl) (.nil ?_)
   refine hK14 _ _ ?_
   refine .seq (fun K15 hK15 => ?_)
   refine .region (.m rfl rfl rfl (.move rfl) (.m rfl rfl rfl (.len sl_22_A rfl) (.m rfl rfl rfl (.move rfl) ?_)))
   refine .m rfl rfl rfl (.nilCheck rfl) (.m rfl rfl rfl (.fieldAddr fo_27_0_B rfl) ?_)
   refine .m rfl rfl rfl (.load on_2_A rfl (by assumption)) ?_
   refine .m rfl rfl rfl (.cmp rfl rfl rfl) (.m rfl rfl rfl (.move rfl) ?_)
   refine .split (fun h74 => ?_) (fun h74 => ?_)
   ·
    try simp only [sps] at h74
    refine .sg rfl rfl rfl rfl rfl (.sg rfl rfl rfl rfl rfl (.sg rfl rfl rfl rfl rfl (.m rfl rfl rfl (.pickT rfl rfl) ?_)))
    refine .nil ?_
    refine hK15 _ _ ?_
    refine .condT rfl ?_
    refine .seq (fun K16 hK16 => ?_)
    refine .region (.m rfl rfl rfl (.assign rfl) (.nil ?_))
    refine hK16 _ _ ?_
    refine .ret ?_
    refine hret _ _ ?_
    refine ⟨_, rfl, ?_⟩
    first
    | exact ⟨congrArg _ (B_false fun hh => h26 ⟨hh.s, hh.t⟩), hle⟩
    | exact ⟨congrArg _ (B_true ⟨hC, hD, hz, fun a ha => ha2 a (by omega), fun b hb => ha4 b (by omega)⟩), hle⟩
    | exact ⟨congrArg _ (B_false fun hh => h199 ((hh.ok.bh b (by omega)).2 x (by omega))), hle⟩
    | exact ⟨congrArg _ (B_false fun hh => h138 ((hh.ok.be a (by omega)).2 y (by omega))), hle⟩
    | exact ⟨congrArg _ (B_false fun hh => by have := (hh.ok.bh b (by omega)).1; omega), hle⟩
    | exact ⟨congrArg _ (B_false fun hh => by have := (hh.ok.be a (by omega)).1; omega), hle⟩
    | exact ⟨congrArg _ (B_false fun hh => by have := hh.z.row k (by omega); omega), hle⟩
    | exact ⟨congrArg _ (B_false fun hh => by rw [allIn_iff.2 fun y hy => by have := hh.z.rng k (by omega) y (by omega); omega] at h78; cases h78), hle⟩
    | exact ⟨congrArg _ (B_false fun hh => by have := hh.z.sl; omega), hle⟩
    | exact ⟨congrArg _ (B_false fun hh => by have := hh.z.bl; omega), hle⟩
    | exact ⟨congrArg _ (B_false fun hh => by have := hh.z.hl; omega), hle⟩
   try simp only [sps] at h74
   refine .mg rfl rfl rfl rfl rfl (.move rfl) ?_
   refine .callQg rfl rfl rfl rfl rfl rfl @Try.call145 rfl (within_c) ?_
   refine .mg rfl rfl rfl rfl rfl (.not rfl) (.m rfl rfl rfl (.pickF rfl rfl) (.nil ?_))
   refine hK15 _ _ ?_
   refine .cond rfl (fun h78 => ?_) (fun h78 => ?_)
   ·
    try simp only [sps] at h78
    refine .seq (fun K17 hK17 => ?_)
    refine .region (.m rfl rfl rfl (.assign rfl) (.nil ?_))
    refine hK17 _ _ ?_
    refine .ret ?_
    refine hret _ _ ?_
    refine ⟨_, rfl, ?_⟩
    first
    | exact ⟨congrArg _ (B_false fun hh => h26 ⟨hh.s, hh.t⟩), hle⟩
    | exact ⟨congrArg _ (B_true ⟨hC, hD, hz, fun a ha => ha2 a (by omega), fun b hb => ha4 b (by omega)⟩), hle⟩
    | exact ⟨congrArg _ (B_false fun hh => h199 ((hh.ok.bh b (by omega)).2 x (by omega))), hle⟩
    | exact ⟨congrArg _ (B_false fun hh => h138 ((hh.ok.be a (by omega)).2 y (by omega))), hle⟩
    | exact ⟨congrArg _ (B_false fun hh => by have := (hh.ok.bh b (by omega)).1; omega), hle⟩
    | exact ⟨congrArg _ (B_false fun hh => by have := (hh.ok.be a (by omega)).1; omega), hle⟩
    | exact ⟨congrArg _ (B_false fun hh => by have := hh.z.row k (by omega); omega), hle⟩
    | exact ⟨congrArg _ (B_false fun hh => by rw [allIn_iff.2 fun y hy => by have := hh.z.rng k (by omega) y (by omega); omega] at h78; cases h78), hle⟩
    | exact ⟨congrArg _ (B_false fun hh => by have := hh.z.sl; omega), hle⟩
    | exact ⟨congrArg _ (B_false fun hh => by have := hh.z.bl; omega), hle⟩
    | exact ⟨congrArg _ (B_false fun hh => by have := hh.z.hl; omega), hle⟩
   try simp only [sps] at h78
   refine .skip ?_
   refine hK13 _ _ ?_
   refine .region ?_
   refine .m rfl rfl rfl (.add rfl rfl rfl (by omega) (by omega)) ?_
   refine .m rfl rfl rfl (.move rfl) (.nil ?_)
   refine hKL1 (k + 1) _ _ ?_ ?_ ⟨rfl, rfl, rfl, rfl, rfl, rfl, trivial⟩
   ·
    refine ⟨rfl, ?_⟩
    refine ⟨by omega, fun x hx => ?_⟩
    by_cases hltq : x < k
    · exact ha1 x hltq
    · obtain rfl : x = k := by omega
      exact ⟨h74, h78⟩
   omega
  try simp only [sps] at h64
  refine .exit ?_
  refine hK9 _ _ ?_
  refine .seq (fun K18 hK18 => ?_)
  refine .seq (fun K19 hK19 => ?_)
  refine .region (.m rfl rfl rfl (.move rfl) (.m rfl rfl rfl (.nilCheck rfl) (.m rfl rfl rfl (.fieldAddr fo_40_3_VProf rfl) ?_)))
  refine .m rfl rfl rfl (.load on_34_VProf rfl (by assumption)) ?_
  refine .m rfl rfl rfl (.len sl_34_VZ rfl) (.m rfl rfl rfl (.move rfl) (.nil ?_))
  refine hK19 _ _ ?_
  refine .block ?_
  have hz : m.Sized := ⟨by omega, by omega, by omega, fun x hx => (ha1 x (by omega)).1, fun x hx y hy => by have := (ha1 x (by omega)).2 y hy; omega⟩
  refine .loopR (σ := Nat) [(0, some _), (3, some _), (4, some _), (83, some _), (84, some _)] (fun a => [(85, some (.int .i64 (a : Int)))]) (fun a H' => H23 = H' ∧ (a : Int) ≤ m.be.length ∧ ∀ a', a' < a → ((m.be.getD a' []).length : Int) = m.t.obj ∧ ∀ y, y < (m.be.getD a' []).length → m.BeOk a' y) (fun a => (m.be.length - a : Int).toNat) (0) ⟨rfl, rfl, rfl, rfl, rfl, trivial⟩ ⟨rfl, trivial⟩ ?_ ?_
  ·
   refine ⟨rfl, ?_⟩
   exact ⟨by omega, fun _ _ => by omega⟩
  rintro a _ ⟨rfl, hI⟩ KL2 hKL2
  refine .forget (fr' := [(85, some (.int .i64 (a : Int))), (0, some _), (3, some _), (4, some _), (83, some _), (84, some _)]) ⟨rfl, rfl, rfl, rfl, rfl, rfl, trivial⟩ ?_
  obtain ⟨hk2, ha2⟩ := hI
  refine .seq (fun K20 hK20 => ?_)
  refine .region (.m rfl rfl rfl (.cmp rfl rfl rfl) (.nil ?_))
  refine hK20 _ _ ?_
  refine .seq (fun K21 hK21 => ?_)
  refine .cond rfl (fun h86 => ?_) (fun h86 => ?_)
  ·
   simp only [sps] at h86
   have r1 := i3.2 a (by omega)
   have r2 := s6 a
   have r3 := hz.b hC (a := a) (by omega)
   refine .skip ?_
   refine hK21 _ _ ?_
   refine .seq (fun K22 hK22 => ?_)
   refine .block ?_
   refine .seq (fun K23 hK23 => ?_)
   refine .region (.m rfl rfl rfl (.move rfl) ?_)
   refine .m rfl rfl rfl (.idxN sl_34_VZ (Intsss.sl (by assumption)) rfl rfl (by omega)) ?_
   refine .m rfl rfl rfl (.loadRR on_23_B (by assumption) rfl (by omega)) ?_
   refine .m rfl rfl rfl (.assign rfl) (.m rfl rfl rfl (.assign rfl) (.nil ?_))
   refine hK23 _ _ ?_
   refine .seq (fun K24 hK24 => ?_)
   refine .seq (fun K25 hK25 => ?_)
   refine .region (.m rfl rfl rfl (.move rfl) (.m rfl rfl rfl (.len sl_23_B rfl) (.m rfl rfl rfl (.move rfl) ?_)))
   refine .m rfl rfl rfl (.nilCheck rfl) (.m rfl rfl rfl (.fieldAddr fo_27_0_B rfl) ?_)
   refine .m rfl rfl rfl (.load on_2_A rfl (by assumption)) ?_
   refine .m rfl rfl rfl (.cmp rfl rfl rfl) (.nil ?_)
   refine hK25 _ _ ?_
   refine .cond rfl (fun h96 => ?_) (fun h96 => ?_)
   ·
    try simp only [sps] at h96
    refine .seq (fun K26 hK26 => ?_)
    refine .region (.m rfl rfl rfl (.assign rfl) (.nil ?_))
    refine hK26 _ _ ?_
    refine .ret ?_
    refine hret _ _ ?_
    refine ⟨_, rfl, ?_⟩
    first
    | exact ⟨congrArg _ (B_false fun hh => h26 ⟨hh.s, hh.t⟩), hle⟩
    | exact ⟨congrArg _ (B_true ⟨hC, hD, hz, fun a ha => ha2 a (by omega), fun b hb => ha4 b (by omega)⟩), hle⟩
    | exact ⟨congrArg _ (B_false fun hh => h199 ((hh.ok.bh b (by omega)).2 x (by omega))), hle⟩
    | exact ⟨congrArg _ (B_false fun hh => h138 ((hh.ok.be a (by omega)).2 y (by omega))), hle⟩
    | exact ⟨congrArg _ (B_false fun hh => by have := (hh.ok.bh b (by omega)).1; omega), hle⟩
    | exact ⟨congrArg _ (B_false fun hh => by have := (hh.ok.be a (by omega)).1; omega), hle⟩
    | exact ⟨congrArg _ (B_false fun hh => by have := hh.z.row k (by omega); omega), hle⟩
    | exact ⟨congrArg _ (B_false fun hh => by rw [allIn_iff.2 fun y hy => by have := hh.z.rng k (by omega) y (by omega); omega] at h78; cases h78), hle⟩
    | exact ⟨congrArg _ (B_false fun hh => by have := hh.z.sl; omega), hle⟩
    | exact ⟨congrArg _ (B_false fun hh => by have := hh.z.bl; omega), hle⟩
    | exact ⟨congrArg _ (B_false fun hh => by have := hh.z.hl; omega), hle⟩
   try simp only [sps] at h96
   refine .skip ?_
   refine hK24 _ _ ?_
   refine .seq (fun K27 hK27 => ?_)
   refine .region (.m rfl rfl rfl (.move rfl) (.m rfl rfl rfl (.len sl_23_B rfl) (.m rfl rfl rfl (.move rfl) ?_)))
   refine .nil ?_
   refine hK27 _ _ ?_
   refine .block ?_
   refine .loopR (σ := Nat) [(0, some _), (3, some _), (4, some _), (7, some _), (83, some _), (84, some _), (85, some _), (97, some _), (98, some _)] (fun y => [(99, some (.int .i64 (y : Int)))]) (fun y H' => H23 = H' ∧ (y : Int) ≤ (m.be.getD a []).length ∧ ∀ y', y' < y → m.BeOk a y') (fun y => ((m.be.getD a []).length - y : Int).toNat) (0) ⟨rfl, rfl, rfl, rfl, rfl, rfl, rfl, rfl, rfl, trivial⟩ ⟨rfl, trivial⟩ ?_ ?_
   ·
    refine ⟨rfl, ?_⟩
    exact ⟨by omega, fun _ _ => by omega⟩
   rintro y _ ⟨rfl, hI⟩ KL3 hKL3
   refine .forget (fr' := [(99, some (.int .i64 (y : Int))), (0, some _), (3, some _), (4, some _), (7, some _), (83, some _), (84, some _), (85, some _), (97, some _), (98, some _)]) ⟨rfl, rfl, rfl, rfl, rfl, rfl, rfl, rfl, rfl, rfl, trivial⟩ ?_
   obtain ⟨hk3, ha3⟩ := hI
   refine .seq (fun K28 hK28 => ?_)
   refine .region (.m rfl rfl rfl (.cmp rfl rfl rfl) (.nil ?_))
   refine hK28 _ _ ?_
   refine .seq (fun K29 hK29 => ?_)
   refine .cond rfl (fun h100 => ?_) (fun h100 => ?_)
   ·
    simp only [sps] at h100
    have t1 := r1.2 y (by omega)
    have t2 := r2.2 y
    have t3 := i2.2 (m.s.src.getD a 0).toNat (by omega)
    have t4 := i2.2 (m.s.tgt.getD a 0).toNat (by omega)
    have t5 := hz.rng (m.s.src.getD a 0).toNat (by omega) y (by omega)
    refine .skip ?_
    refine hK29 _ _ ?_
    refine .seq (fun K30 hK30 => ?_)
    refine .block ?_
    refine .seq (fun K31 hK31 => ?_)
    refine .region (.m rfl rfl rfl (.move rfl) ?_)
    refine .m rfl rfl rfl (.idxN sl_23_B (Intss.sl (by assumption)) rfl rfl (by omega)) ?_
    refine .m rfl rfl rfl (.loadR on_22_B (by assumption) rfl (by omega)) ?_
    refine .m rfl rfl rfl (.assign rfl) (.m rfl rfl rfl (.assign rfl) (.nil ?_))
    refine hK31 _ _ ?_
    refine .seq (fun K32 hK32 => ?_)
    refine .regionD mixed_orders_B (.q 0 (.q 1 (.q 2 (.q 3 (.q 4 (.q 5 (.q 6 (.q 7 (.q 8 (.q 9 (.q 10 (.q 11 (.q 12 (.q 13 (.q 14 (.q 15 (.q 16 (.q 17 (.q 18 (.q 19 (.q 20 (.q 21 (.q 22 (.q 23 (.q 24 (.q 25 (.q 26 (.q 27 (.q 28 (.q 29 (.q 30 (.q 31 (.q 32 (.c 33 0 (.q 34 (.done)))))))))))))))))))))))))))))))))))) (by kernel_rfl) ?_
    refine .m rfl rfl rfl rfl (.refl _) (.move rfl) (.m rfl rfl rfl rfl (.refl _) (.move rfl) (.m rfl rfl rfl rfl (.refl _) (.nilCheck rfl) (.m rfl rfl rfl rfl (.refl _) (.fieldAddr fo_40_2_VProf rfl) ?_)))
    refine .m rfl rfl rfl rfl (.refl _) (.load on_23_B rfl (by assumption)) ?_
    refine .m rfl rfl rfl rfl (.refl _) (.move rfl) (.m rfl rfl rfl rfl (.refl _) (.nilCheck rfl) (.m rfl rfl rfl rfl (.refl _) (.fieldAddr fo_27_2_B rfl) ?_))
    refine .m rfl rfl rfl rfl (.refl _) (.load on_22_B rfl (by assumption)) ?_
    refine .m rfl rfl rfl rfl (.refl _) (.move rfl) ?_
    refine .m rfl rfl rfl rfl (.refl _) (.idxN sl_22_A (by assumption) rfl rfl (by omega)) ?_
    refine .m rfl rfl rfl rfl (.refl _) (.loadI on_2_A (by assumption) rfl (by omega)) ?_
    refine .m rfl rfl rfl rfl (.refl _) (.idx1 sl_23_B (Intss.sl (by assumption)) rfl rfl (by omega) (by omega)) ?_
    refine .m rfl rfl rfl rfl (.refl _) (.loadR on_22_B (by assumption) rfl (by omega)) ?_
    refine .m rfl rfl rfl rfl (.refl _) (.move rfl) ?_
    refine .m rfl rfl rfl rfl (.refl _) (.idxN sl_22_A (by assumption) rfl rfl (by omega)) ?_
    refine .m rfl rfl rfl rfl (.refl _) (.loadI on_2_A (by assumption) rfl (by omega)) ?_
    refine .m rfl rfl rfl rfl (.refl _) (.move rfl) (.m rfl rfl rfl rfl (.refl _) (.nilCheck rfl) (.m rfl rfl rfl rfl (.refl _) (.fieldAddr fo_40_2_VProf rfl) ?_))
    refine .m rfl rfl rfl rfl (.refl _) (.load on_23_B rfl (by assumption)) ?_
    refine .m rfl rfl rfl rfl (.refl _) (.move rfl) (.m rfl rfl rfl rfl (.refl _) (.nilCheck rfl) (.m rfl rfl rfl rfl (.refl _) (.fieldAddr fo_27_1_B rfl) ?_))
    refine .m rfl rfl rfl rfl (.refl _) (.load on_22_B rfl (by assumption)) ?_
    refine .m rfl rfl rfl rfl (.refl _) (.move rfl) ?_
    refine .m rfl rfl rfl rfl (.refl _) (.idxN sl_22_A (by assumption) rfl rfl (by omega)) ?_
    refine .m rfl rfl rfl rfl (.refl _) (.loadI on_2_A (by assumption) rfl (by omega)) ?_
    refine .m rfl rfl rfl rfl (.refl _) (.idx1 sl_23_B (Intss.sl (by assumption)) rfl rfl (by omega) (by omega)) ?_
    refine .m rfl rfl rfl rfl (.refl _) (.loadR on_22_B (by assumption) rfl (by omega)) ?_
    refine .m rfl rfl rfl rfl (.refl _) (.move rfl) ?_
    refine .m rfl rfl rfl rfl (.refl _) (.idxN sl_22_A (by assumption) rfl rfl (by omega)) ?_
    refine .m rfl rfl rfl rfl (.refl _) (.loadI on_2_A (by assumption) rfl (by omega)) ?_
    refine .callQ0 rfl rfl rfl rfl rfl @Try.call155 rfl (isMapOf_c) ?_
    refine .m rfl rfl rfl rfl (.refl _) (.not rfl) ?_
    refine .done ?_
    refine hK32 _ _ ?_
    refine .cond rfl (fun h138 => ?_) (fun h138 => ?_)
    ·
     simp only [B_iff, B_not, Bool.not_eq_true', Bool.not_eq_false'] at h138
     refine .seq (fun K33 hK33 => ?_)
     refine .region (.m rfl rfl rfl (.assign rfl) (.nil ?_))
     refine hK33 _ _ ?_
     refine .ret ?_
     refine hret _ _ ?_
     refine ⟨_, rfl, ?_⟩
     first
     | exact ⟨congrArg _ (B_false fun hh => h26 ⟨hh.s, hh.t⟩), hle⟩
     | exact ⟨congrArg _ (B_true ⟨hC, hD, hz, fun a ha => ha2 a (by omega), fun b hb => ha4 b (by omega)⟩), hle⟩
     | exact ⟨congrArg _ (B_false fun hh => h199 ((hh.ok.bh b (by omega)).2 x (by omega))), hle⟩
     | exact ⟨congrArg _ (B_false fun hh => h138 ((hh.ok.be a (by omega)).2 y (by omega))), hle⟩
     | exact ⟨congrArg _ (B_false fun hh => by have := (hh.ok.bh b (by omega)).1; omega), hle⟩
     | exact ⟨congrArg _ (B_false fun hh => by have := (hh.ok.be a (by omega)).1; omega), hle⟩
     | exact ⟨congrArg _ (B_false fun hh => by have := hh.z.row k (by omega); omega), hle⟩
     | exact ⟨congrArg _ (B_false fun hh => by rw [allIn_iff.2 fun y hy => by have := hh.z.rng k (by omega) y (by omega); omega] at h78; cases h78), hle⟩
     | exact ⟨congrArg _ (B_false fun hh => by have := hh.z.sl; omega), hle⟩
     | exact ⟨congrArg _ (B_false fun hh => by have := hh.z.bl; omega), hle⟩
     | exact ⟨congrArg _ (B_false fun hh => by have := hh.z.hl; omega), hle⟩
    simp only [B_iff, B_not, Bool.not_eq_true', Bool.not_eq_false'] at h138
    refine .skip ?_
    refine hK30 _ _ ?_
    refine .region ?_
    refine .m rfl rfl rfl (.add rfl rfl rfl (by omega) (by omega)) ?_
    refine .m rfl rfl rfl (.move rfl) (.nil ?_)
    refine hKL3 (y + 1) _ _ ?_ ?_ ⟨rfl, rfl, rfl, rfl, rfl, rfl, rfl, rfl, rfl, rfl, trivial⟩
    ·
     refine ⟨rfl, ?_⟩
     refine ⟨by omega, fun y' hx => ?_⟩
     by_cases hltq : y' < y
     · exact ha3 y' hltq
     · obtain rfl : y' = y := by omega
       exact h138
    omega
   try simp only [sps] at h100
   refine .exit ?_
   refine hK22 _ _ ?_
   refine .region ?_
   refine .m rfl rfl rfl (.add rfl rfl rfl (by omega) (by omega)) ?_
   refine .m rfl rfl rfl (.move rfl) (.nil ?_)
   refine hKL2 (a + 1) _ _ ?_ ?_ ⟨rfl, rfl, rfl, rfl, rfl, rfl, trivial⟩
   ·
    refine ⟨rfl, ?_⟩
    refine ⟨by omega, fun a' hx => ?_⟩
    by_cases hltq : a' < a
    · exact ha2 a' hltq
    · obtain rfl : a' = a := by omega
      exact ⟨h96, fun y hy => ha3 y (by omega)⟩
   omega
  try simp only [sps] at h86
  refine .exit ?_
  refine hK18 _ _ ?_
  refine .seq (fun K34 hK34 => ?_)
  refine .seq (fun K35 hK35 => ?_)
  refine .region (.m rfl rfl rfl (.move rfl) (.m rfl rfl rfl (.nilCheck rfl) (.m rfl rfl rfl (.fieldAddr fo_40_4_VProf rfl) ?_)))
  refine .m rfl rfl rfl (.load on_34_VProf rfl (by assumption)) ?_
  refine .m rfl rfl rfl (.len sl_34_VZ rfl) (.m rfl rfl rfl (.move rfl) (.nil ?_))
  refine hK35 _ _ ?_
  refine .block ?_
  refine .loopR (σ := Nat) [(0, some _), (3, some _), (4, some _), (144, some _), (145, some _)] (fun b => [(146, some (.int .i64 (b : Int)))]) (fun b H' => H23 = H' ∧ (b : Int) ≤ m.bh.length ∧ ∀ b', b' < b → ((m.bh.getD b' []).length : Int) = m.s.obj ∧ ∀ x, x < (m.bh.getD b' []).length → m.BhOk b' x) (fun b => (m.bh.length - b : Int).toNat) (0) ⟨rfl, rfl, rfl, rfl, rfl, trivial⟩ ⟨rfl, trivial⟩ ?_ ?_
  ·
   refine ⟨rfl, ?_⟩
   exact ⟨by omega, fun _ _ => by omega⟩
  rintro b _ ⟨rfl, hI⟩ KL4 hKL4
  refine .forget (fr' := [(146, some (.int .i64 (b : Int))), (0, some _), (3, some _), (4, some _), (144, some _), (145, some _)]) ⟨rfl, rfl, rfl, rfl, rfl, rfl, trivial⟩ ?_
  obtain ⟨hk4, ha4⟩ := hI
  refine .seq (fun K36 hK36 => ?_)
  refine .region (.m rfl rfl rfl (.cmp rfl rfl rfl) (.nil ?_))
  refine hK36 _ _ ?_
  refine .seq (fun K37 hK37 => ?_)
  refine .cond rfl (fun h147 => ?_) (fun h147 => ?_)
  ·
   simp only [sps] at h147
   have r1 := i4.2 b (by omega)
   have r2 := s8 b
   have r3 := hz.h hD (b := b) (by omega)
   refine .skip ?_
   refine hK37 _ _ ?_
   refine .seq (fun K38 hK38 => ?_)
   refine .block ?_
   refine .seq (fun K39 hK39 => ?_)
   refine .region (.m rfl rfl rfl (.move rfl) ?_)
   refine .m rfl rfl rfl (.idxN sl_34_VZ (Intsss.sl (by assumption)) rfl rfl (by omega)) ?_
   refine .m rfl rfl rfl (.loadRR on_23_B (by assumption) rfl (by omega)) ?_
   refine .m rfl rfl rfl (.assign rfl) (.m rfl rfl rfl (.assign rfl) (.nil ?_))
   refine hK39 _ _ ?_
   refine .seq (fun K40 hK40 => ?_)
   refine .seq (fun K41 hK41 => ?_)
   refine .region (.m rfl rfl rfl (.move rfl) (.m rfl rfl rfl (.len sl_23_B rfl) (.m rfl rfl rfl (.move rfl) ?_)))
   refine .m rfl rfl rfl (.nilCheck rfl) (.m rfl rfl rfl (.fieldAddr fo_27_0_B rfl) ?_)
   refine .m rfl rfl rfl (.load on_2_A rfl (by assumption)) ?_
   refine .m rfl rfl rfl (.cmp rfl rfl rfl) (.nil ?_)
   refine hK41 _ _ ?_
   refine .cond rfl (fun h157 => ?_) (fun h157 => ?_)
   ·
    try simp only [sps] at h157
    refine .seq (fun K42 hK42 => ?_)
    refine .region (.m rfl rfl rfl (.assign rfl) (.nil ?_))
    refine hK42 _ _ ?_
    refine .ret ?_
    refine hret _ _ ?_
    refine ⟨_, rfl, ?_⟩
    first
    | exact ⟨congrArg _ (B_false fun hh => h26 ⟨hh.s, hh.t⟩), hle⟩
    | exact ⟨congrArg _ (B_true ⟨hC, hD, hz, fun a ha => ha2 a (by omega), fun b hb => ha4 b (by omega)⟩), hle⟩
    | exact ⟨congrArg _ (B_false fun hh => h199 ((hh.ok.bh b (by omega)).2 x (by omega))), hle⟩
    | exact ⟨congrArg _ (B_false fun hh => h138 ((hh.ok.be a (by omega)).2 y (by omega))), hle⟩
    | exact ⟨congrArg _ (B_false fun hh => by have := (hh.ok.bh b (by omega)).1; omega), hle⟩
    | exact ⟨congrArg _ (B_false fun hh => by have := (hh.ok.be a (by omega)).1; omega), hle⟩
    | exact ⟨congrArg _ (B_false fun hh => by have := hh.z.row k (by omega); omega), hle⟩
    | exact ⟨congrArg _ (B_false fun hh => by rw [allIn_iff.2 fun y hy => by have := hh.z.rng k (by omega) y (by omega); omega] at h78; cases h78), hle⟩
    | exact ⟨congrArg _ (B_false fun hh => by have := hh.z.sl; omega), hle⟩
    | exact ⟨congrArg _ (B_false fun hh => by have := hh.z.bl; omega), hle⟩
    | exact ⟨congrArg _ (B_false fun hh => by have := hh.z.hl; omega), hle⟩
   try simp only [sps] at h157
   refine .skip ?_
   refine hK40 _ _ ?_
   refine .seq (fun K43 hK43 => ?_)
   refine .region (.m rfl rfl rfl (.move rfl) (.m rfl rfl rfl (.len sl_23_B rfl) (.m rfl rfl rfl (.move rfl) ?_)))
   refine .nil ?_
   refine hK43 _ _ ?_
   refine .block ?_
   refine .loopR (σ := Nat) [(0, some _), (3, some _), (4, some _), (11, some _), (144, some _), (145, some _), (146, some _), (158, some _), (159, some _)] (fun x => [(160, some (.int .i64 (x : Int)))]) (fun x H' => H23 = H' ∧ (x : Int) ≤ (m.bh.getD b []).length ∧ ∀ x', x' < x → m.BhOk b x') (fun x => ((m.bh.getD b []).length - x : Int).toNat) (0) ⟨rfl, rfl, rfl, rfl, rfl, rfl, rfl, rfl, rfl, trivial⟩ ⟨rfl, trivial⟩ ?_ ?_
   ·
    refine ⟨rfl, ?_⟩
    exact ⟨by omega, fun _ _ => by omega⟩
   rintro x _ ⟨rfl, hI⟩ KL5 hKL5
   refine .forget (fr' := [(160, some (.int .i64 (x : Int))), (0, some _), (3, some _), (4, some _), (11, some _), (144, some _), (145, some _), (146, some _), (158, some _), (159, some _)]) ⟨rfl, rfl, rfl, rfl, rfl, rfl, rfl, rfl, rfl, rfl, trivial⟩ ?_
   obtain ⟨hk5, ha5⟩ := hI
   refine .seq (fun K44 hK44 => ?_)
   refine .region (.m rfl rfl rfl (.cmp rfl rfl rfl) (.nil ?_))
   refine hK44 _ _ ?_
   refine .seq (fun K45 hK45 => ?_)
   refine .cond rfl (fun h161 => ?_) (fun h161 => ?_)
   ·
    simp only [sps] at h161
    have t1 := r1.2 x (by omega)
    have t2 := r2.2 x
    have t3 := i2.2 x (by omega)
    have t4 := hz.row x (by omega)
    have t5 := hz.rng x (by omega) (m.t.tgt.getD b 0).toNat (by omega)
    refine .skip ?_
    refine hK45 _ _ ?_
    refine .seq (fun K46 hK46 => ?_)
    refine .block ?_
    refine .seq (fun K47 hK47 => ?_)
    refine .region (.m rfl rfl rfl (.move rfl) ?_)
    refine .m rfl rfl rfl (.idxN sl_23_B (Intss.sl (by assumption)) rfl rfl (by omega)) ?_
    refine .m rfl rfl rfl (.loadR on_22_B (by assumption) rfl (by omega)) ?_
    refine .m rfl rfl rfl (.assign rfl) (.m rfl rfl rfl (.assign rfl) (.nil ?_))
    refine hK47 _ _ ?_
    refine .seq (fun K48 hK48 => ?_)
    refine .regionD mixed_orders_B (.q 0 (.q 1 (.q 2 (.q 3 (.q 4 (.q 5 (.q 6 (.q 7 (.q 8 (.q 9 (.q 10 (.q 11 (.q 12 (.q 13 (.q 14 (.q 15 (.q 16 (.q 17 (.q 18 (.q 19 (.q 20 (.q 21 (.q 22 (.q 23 (.q 24 (.q 25 (.q 26 (.q 27 (.q 28 (.q 29 (.q 30 (.q 31 (.q 32 (.c 33 0 (.q 34 (.done)))))))))))))))))))))))))))))))))))) (by kernel_rfl) ?_
    refine .m rfl rfl rfl rfl (.refl _) (.move rfl) (.m rfl rfl rfl rfl (.refl _) (.move rfl) (.m rfl rfl rfl rfl (.refl _) (.nilCheck rfl) (.m rfl rfl rfl rfl (.refl _) (.fieldAddr fo_40_2_VProf rfl) ?_)))
    refine .m rfl rfl rfl rfl (.refl _) (.load on_23_B rfl (by assumption)) ?_
    refine .m rfl rfl rfl rfl (.refl _) (.move rfl) ?_
    refine .m rfl rfl rfl rfl (.refl _) (.idxN sl_23_B (Intss.sl (by assumption)) rfl rfl (by omega)) ?_
    refine .m rfl rfl rfl rfl (.refl _) (.loadR on_22_B (by assumption) rfl (by omega)) ?_
    refine .m rfl rfl rfl rfl (.refl _) (.move rfl) (.m rfl rfl rfl rfl (.refl _) (.nilCheck rfl) (.m rfl rfl rfl rfl (.refl _) (.fieldAddr fo_27_1_B rfl) ?_))
    refine .m rfl rfl rfl rfl (.refl _) (.load on_22_B rfl (by assumption)) ?_
    refine .m rfl rfl rfl rfl (.refl _) (.move rfl) ?_
    refine .m rfl rfl rfl rfl (.refl _) (.idxN sl_22_A (by assumption) rfl rfl (by omega)) ?_
    refine .m rfl rfl rfl rfl (.refl _) (.loadI on_2_A (by assumption) rfl (by omega)) ?_
    refine .m rfl rfl rfl rfl (.refl _) (.idx1 sl_22_A (by assumption) rfl rfl (by omega) (by omega)) ?_
    refine .m rfl rfl rfl rfl (.refl _) (.loadI on_2_A (by assumption) rfl (by omega)) ?_
    refine .m rfl rfl rfl rfl (.refl _) (.move rfl) (.m rfl rfl rfl rfl (.refl _) (.nilCheck rfl) (.m rfl rfl rfl rfl (.refl _) (.fieldAddr fo_40_2_VProf rfl) ?_))
    refine .m rfl rfl rfl rfl (.refl _) (.load on_23_B rfl (by assumption)) ?_
    refine .m rfl rfl rfl rfl (.refl _) (.move rfl) ?_
    refine .m rfl rfl rfl rfl (.refl _) (.idxN sl_23_B (Intss.sl (by assumption)) rfl rfl (by omega)) ?_
    refine .m rfl rfl rfl rfl (.refl _) (.loadR on_22_B (by assumption) rfl (by omega)) ?_
    refine .m rfl rfl rfl rfl (.refl _) (.move rfl) (.m rfl rfl rfl rfl (.refl _) (.nilCheck rfl) (.m rfl rfl rfl rfl (.refl _) (.fieldAddr fo_27_2_B rfl) ?_))
    refine .m rfl rfl rfl rfl (.refl _) (.load on_22_B rfl (by assumption)) ?_
    refine .m rfl rfl rfl rfl (.refl _) (.move rfl) ?_
    refine .m rfl rfl rfl rfl (.refl _) (.idxN sl_22_A (by assumption) rfl rfl (by omega)) ?_
    refine .m rfl rfl rfl rfl (.refl _) (.loadI on_2_A (by assumption) rfl (by omega)) ?_
    refine .m rfl rfl rfl rfl (.refl _) (.idx1 sl_22_A (by assumption) rfl rfl (by omega) (by omega)) ?_
    refine .m rfl rfl rfl rfl (.refl _) (.loadI on_2_A (by assumption) rfl (by omega)) ?_
    refine .callQ0 rfl rfl rfl rfl rfl @Try.call155 rfl (isMapOf_c) ?_
    refine .m rfl rfl rfl rfl (.refl _) (.not rfl) ?_
    refine .done ?_
    refine hK48 _ _ ?_
    refine .cond rfl (fun h199 => ?_) (fun h199 => ?_)
    ·
     simp only [B_iff, B_not, Bool.not_eq_true', Bool.not_eq_false'] at h199
     refine .seq (fun K49 hK49 => ?_)
     refine .region (.m rfl rfl rfl (.assign rfl) (.nil ?_))
     refine hK49 _ _ ?_
     refine .ret ?_
     refine hret _ _ ?_
     refine ⟨_, rfl, ?_⟩
     first
     | exact ⟨congrArg _ (B_false fun hh => h26 ⟨hh.s, hh.t⟩), hle⟩
     | exact ⟨congrArg _ (B_true ⟨hC, hD, hz, fun a ha => ha2 a (by omega), fun b hb => ha4 b (by omega)⟩), hle⟩
     | exact ⟨congrArg _ (B_false fun hh => h199 ((hh.ok.bh b (by omega)).2 x (by omega))), hle⟩
     | exact ⟨congrArg _ (B_false fun hh => h138 ((hh.ok.be a (by omega)).2 y (by omega))), hle⟩
     | exact ⟨congrArg _ (B_false fun hh => by have := (hh.ok.bh b (by omega)).1; omega), hle⟩
     | exact ⟨congrArg _ (B_false fun hh => by have := (hh.ok.be a (by omega)).1; omega), hle⟩
     | exact ⟨congrArg _ (B_false fun hh => by have := hh.z.row k (by omega); omega), hle⟩
     | exact ⟨congrArg _ (B_false fun hh => by rw [allIn_iff.2 fun y hy => by have := hh.z.rng k (by omega) y (by omega); omega] at h78; cases h78), hle⟩
     | exact ⟨congrArg _ (B_false fun hh => by have := hh.z.sl; omega), hle⟩
     | exact ⟨congrArg _ (B_false fun hh => by have := hh.z.bl; omega), hle⟩
     | exact ⟨congrArg _ (B_false fun hh => by have := hh.z.hl; omega), hle⟩
    simp only [B_iff, B_not, Bool.not_eq_true', Bool.not_eq_false'] at h199
    refine .skip ?_
    refine hK46 _ _ ?_
    refine .region ?_
    refine .m rfl rfl rfl (.add rfl rfl rfl (by omega) (by omega)) ?_
    refine .m rfl rfl rfl (.move rfl) (.nil ?_)
    refine hKL5 (x + 1) _ _ ?_ ?_ ⟨rfl, rfl, rfl, rfl, rfl, rfl, rfl, rfl, rfl, rfl, trivial⟩
    ·
     refine ⟨rfl, ?_⟩
     refine ⟨by omega, fun x' hx => ?_⟩
     by_cases hltq : x' < x
     · exact ha5 x' hltq
     · obtain rfl : x' = x := by omega
       exact h199
    omega
   try simp only [sps] at h161
   refine .exit ?_
   refine hK38 _ _ ?_
   refine .region ?_
   refine .m rfl rfl rfl (.add rfl rfl rfl (by omega) (by omega)) ?_
   refine .m rfl rfl rfl (.move rfl) (.nil ?_)
   refine hKL4 (b + 1) _ _ ?_ ?_ ⟨rfl, rfl, rfl, rfl, rfl, rfl, trivial⟩
   ·
    refine ⟨rfl, ?_⟩
    refine ⟨by omega, fun b' hx => ?_⟩
    by_cases hltq : b' < b
    · exact ha4 b' hltq
    · obtain rfl : b' = b := by omega
      exact ⟨h157, fun x hx => ha5 x (by omega)⟩
   omega
  try simp only [sps] at h147
  refine .exit ?_
  refine hK34 _ _ ?_
  refine .seq (fun K50 hK50 => ?_)
  refine .region (.m rfl rfl rfl (.assign rfl) (.nil ?_))
  refine hK50 _ _ ?_
  refine .ret ?_
  refine hret _ _ ?_
  refine ⟨_, rfl, ?_⟩
  first
  | exact ⟨congrArg _ (B_false fun hh => h26 ⟨hh.s, hh.t⟩), hle⟩
  | exact ⟨congrArg _ (B_true ⟨hC, hD, hz, fun a ha => ha2 a (by omega), fun b hb => ha4 b (by omega)⟩), hle⟩
  | exact ⟨congrArg _ (B_false fun hh => h199 ((hh.ok.bh b (by omega)).2 x (by omega))), hle⟩
  | exact ⟨congrArg _ (B_false fun hh => h138 ((hh.ok.be a (by omega)).2 y (by omega))), hle⟩
  | exact ⟨congrArg _ (B_false fun hh => by have := (hh.ok.bh b (by omega)).1; omega), hle⟩
  | exact ⟨congrArg _ (B_false fun hh => by have := (hh.ok.be a (by omega)).1; omega), hle⟩
  | exact ⟨congrArg _ (B_false fun hh => by have := hh.z.row k (by omega); omega), hle⟩
  | exact ⟨congrArg _ (B_false fun hh => by rw [allIn_iff.2 fun y hy => by have := hh.z.rng k (by omega) y (by omega); omega] at h78; cases h78), hle⟩
  | exact ⟨congrArg _ (B_false fun hh => by have := hh.z.sl; omega), hle⟩
  | exact ⟨congrArg _ (B_false fun hh => by have := hh.z.bl; omega), hle⟩
  | exact ⟨congrArg _ (B_false fun hh => by have := hh.z.hl; omega), hle⟩
set_option maxHeartbeats 4000000 in
theorem pfActs_c {g o : Nat} {m : Prof} {p : ProfP} {H : GHeap} (h : Prof.At H g o m p := by assumption) (hS : m.Shape := by assumption) : GCalls Try.prog 114 [.pointer (some ⟨g, o, none⟩)] H (Ret (.bool (B m.Acts)) H) := by
  refine GCalls.ret rfl ?_
  refine GCalls.body (N := 216) (rs := [.tmp 2]) Try.func114 rfl rfl rfl rfl (fun Qx hret hend => ?_)
  refine .forget (fr' := [(0, some _)]) ⟨rfl, trivial⟩ ?_
  have hle := GHeap.Le.refl H
  have base_h := h
  obtain ⟨fs, ft, c10, c11, c12, i2, i3, i4⟩ := h.get
  have hm : MemN _ _ _ _ _ := ⟨rfl, h.1⟩
  have hi := h.2
  have hms : MemN _ _ _ _ _ := ⟨rfl, fs.1⟩
  have his := fs.2
  have hmt : MemN _ _ _ _ _ := ⟨rfl, ft.1⟩
  have hit := ft.2
  obtain ⟨c0, c1, c2, c3, c4, d1, d2, d3, d4⟩ := fs.get
  obtain ⟨x0, x1, x2, x3, x4, y1, y2, y3, y4⟩ := ft.get
  have hC := hS.s.1
  have hD := hS.t.1
  have q1 := hC.il
  have q2 := hD.il
  have q3 := hC.cl
  have q4 := hD.cl
  have q5 := hS.z.sl
  have q6 := hS.z.bl
  have q7 := hS.z.hl
  have q8 := hC.obj
  have q9 := hD.obj
  have q10 := hC.n40
  have q11 := hD.n40
  refine .seq (fun K1 hK1 => ?_)
  refine .region (.m rfl rfl rfl (.assign rfl) (.nil ?_))
  refine hK1 _ _ ?_
  refine .seq (fun K2 hK2 => ?_)
  refine .regionD mixed_orders_B (.q 0 (.q 1 (.q 2 (.q 3 (.q 4 (.q 5 (.q 6 (.q 7 (.done))))))))) (by kernel_rfl) ?_
  refine .m rfl rfl rfl rfl (.refl _) (.move rfl) (.m rfl rfl rfl rfl (.refl _) (.nilCheck rfl) (.m rfl rfl rfl rfl (.refl _) (.fieldAddr fo_40_0_VProf rfl) (.m rfl rfl rfl rfl (.refl _) (.move rfl) ?_)))
  refine .m rfl rfl rfl rfl (.refl _) (.nilCheck rfl) (.m rfl rfl rfl rfl (.refl _) (.fieldAddr fo_40_1_VProf rfl) (.m rfl rfl rfl rfl (.refl _) (.assign rfl) (.m rfl rfl rfl rfl (.refl _) (.assign rfl) ?_)))
  refine .done ?_
  refine hK2 _ _ ?_
  refine .seq (fun K3 hK3 => ?_)
  refine .seq (fun K4 hK4 => ?_)
  refine .region (.m rfl rfl rfl (.assign rfl) (.nil ?_))
  refine hK4 _ _ ?_
  refine .block ?_
  refine .loopR (σ := Nat) [(0, some _), (3, some _), (4, some _)] (fun y => [(5, some (.int .i64 (y : Int)))]) (fun y H' => St [] H H' ∧ (y : Int) ≤ m.t.obj ∧ ∀ y', y' < y → (∀ x : Nat, x < m.s.idn.length → NoMove ((m.be.getD (m.s.idn.getD x 0).toNat []).getD y' []) ∧ NoMove ((m.bh.getD (m.t.idn.getD y' 0).toNat []).getD x [])) ∧ ∀ a : Nat, a < m.s.comp.length → ∀ b : Nat, b < (m.s.comp.getD a []).length → 0 ≤ (m.s.comp.getD a []).getD b 0 → (m.be.getD ((m.s.comp.getD a []).getD b 0).toNat []).getD y' [] = thenL ((m.be.getD b []).getD y' []) ((m.be.getD a []).getD y' [])) (fun y => (m.t.obj - y : Int).toNat) (0) ⟨rfl, rfl, rfl, trivial⟩ ⟨rfl, trivial⟩ ?_ ?_
  ·
   refine ⟨.refl _ _, ?_⟩
   exact ⟨by omega, fun _ _ => by omega⟩
  rintro y HL1 ⟨lst1, hI⟩ KL1 hKL1
  refine .forget (fr' := [(5, some (.int .i64 (y : Int))), (0, some _), (3, some _), (4, some _)]) ⟨rfl, rfl, rfl, rfl, trivial⟩ ?_
  have nx_HL1 := lst1.nx
  replace hle := hle.st lst1 (fun k hk => trivial)
  replace h := base_h.mono hle
  clear fs ft c10 c11 c12 i2 i3 i4 hm hi hms his hmt hit c0 c1 c2 c3 c4 d1 d2 d3 d4 x0 x1 x2 x3 x4 y1 y2 y3 y4
  obtain ⟨fs, ft, c10, c11, c12, i2, i3, i4⟩ := h.get
  have hm : MemN _ _ _ _ _ := ⟨rfl, h.1⟩
  have hi := h.2
  have hms : MemN _ _ _ _ _ := ⟨rfl, fs.1⟩
  have his := fs.2
  have hmt : MemN _ _ _ _ _ := ⟨rfl, ft.1⟩
  have hit := ft.2
  obtain ⟨c0, c1, c2, c3, c4, d1, d2, d3, d4⟩ := fs.get
  obtain ⟨x0, x1, x2, x3, x4, y1, y2, y3, y4⟩ := ft.get
  obtain ⟨hk1, ha1⟩ := hI
  refine .seq (fun K5 hK5 => ?_)
  refine .seq (fun K6 hK6 => ?_)
  refine .region (.m rfl rfl rfl (.move rfl) (.m rfl rfl rfl (.move rfl) (.m rfl rfl rfl (.nilCheck rfl) ?_)))
  refine .m rfl rfl rfl (.fieldAddr fo_27_0_B rfl) ?_
  refine .m rfl rfl rfl (.load on_2_A rfl (by assumption)) ?_
  refine .m rfl rfl rfl (.cmp rfl rfl rfl) (.nil ?_)
  refine hK6 _ _ ?_
  refine .cond rfl (fun h28 => ?_) (fun h28 => ?_)
  ·
   simp only [sps] at h28
   have b1 := hD.idn y (by omega)
   refine .skip ?_
   refine hK5 _ _ ?_
   refine .seq (fun K7 hK7 => ?_)
   refine .block ?_
   refine .seq (fun K8 hK8 => ?_)
   refine .seq (fun K9 hK9 => ?_)
   refine .region (.m rfl rfl rfl (.move rfl) (.m rfl rfl rfl (.nilCheck rfl) (.m rfl rfl rfl (.fieldAddr fo_27_3_B rfl) ?_)))
   refine .m rfl rfl rfl (.load on_22_B rfl (by assumption)) ?_
   refine .m rfl rfl rfl (.len sl_22_A rfl) (.m rfl rfl rfl (.move rfl) (.nil ?_))
   refine hK9 _ _ ?_
   refine .block ?_
   refine .loopR (σ := Nat) [(0, some _), (3, some _), (4, some _), (5, some _), (34, some _), (35, some _)] (fun x => [(36, some (.int .i64 (x : Int)))]) (fun x H' => St [] HL1 H' ∧ (x : Int) ≤ m.s.idn.length ∧ ∀ x', x' < x → NoMove ((m.be.getD (m.s.idn.getD x' 0).toNat []).getD y []) ∧ NoMove ((m.bh.getD (m.t.idn.getD y 0).toNat []).getD x' [])) (fun x => (m.s.idn.length - x : Int).toNat) (0) ⟨rfl, rfl, rfl, rfl, rfl, rfl, trivial⟩ ⟨rfl, trivial⟩ ?_ ?_
   ·
    refine ⟨.refl _ _, ?_⟩
    exact ⟨by omega, fun _ _ => by omega⟩
   rintro x HL2 ⟨lst2, hI⟩ KL2 hKL2
   refine .forget (fr' := [(36, some (.int .i64 (x : Int))), (0, some _), (3, some _), (4, some _), (5, some _), (34, some _), (35, some _)]) ⟨rfl, rfl, rfl, rfl, rfl, rfl, rfl, trivial⟩ ?_
   have nx_HL2 := lst2.nx
   replace hle := hle.st lst2 (fun k hk => trivial)
   replace lst1 := lst1.st lst2 (fun k hk ho => by simp only [out, and_true] at ho ⊢ <;> first | exact ho | exact ho.1 | exact ho.2 | exact ho.2.1 | exact ho.2.2 | exact ho.2.2.1 | exact ho.2.2.2 | omega)
   replace h := base_h.mono hle
   clear fs ft c10 c11 c12 i2 i3 i4 hm hi hms his hmt hit c0 c1 c2 c3 c4 d1 d2 d3 d4 x0 x1 x2 x3 x4 y1 y2 y3 y4
   obtain ⟨fs, ft, c10, c11, c12, i2, i3, i4⟩ := h.get
   have hm : MemN _ _ _ _ _ := ⟨rfl, h.1⟩
   have hi := h.2
   have hms : MemN _ _ _ _ _ := ⟨rfl, fs.1⟩
   have his := fs.2
   have hmt : MemN _ _ _ _ _ := ⟨rfl, ft.1⟩
   have hit := ft.2
   obtain ⟨c0, c1, c2, c3, c4, d1, d2, d3, d4⟩ := fs.get
   obtain ⟨x0, x1, x2, x3, x4, y1, y2, y3, y4⟩ := ft.get
   obtain ⟨hk2, ha2⟩ := hI
   refine .seq (fun K10 hK10 => ?_)
   refine .region (.m rfl rfl rfl (.cmp rfl rfl rfl) (.nil ?_))
   refine hK10 _ _ ?_
   refine .seq (fun K11 hK11 => ?_)
   refine .cond rfl (fun h37 => ?_) (fun h37 => ?_)
   ·
    simp only [sps] at h37
    have r1 := hC.idn x (by omega)
    have r3 := hS.by (a := (m.s.idn.getD x 0).toNat) (y := y) (by omega) (by omega)
    rw [(hC.ids x (by omega)).1, (hC.ids x (by omega)).2, Int.toNat_natCast] at r3
    have s3 := hS.hx (b := (m.t.idn.getD y 0).toNat) (x := x) (by omega) (by omega)
    rw [(hD.ids y (by omega)).1, (hD.ids y (by omega)).2, Int.toNat_natCast] at s3
    have e1 := calm_iff' r3.2.2.2.1
    have e2 := calm_iff' s3.2.2.2.2.1
    have r2 := i3.2 (m.s.idn.getD x 0).toNat (by omega)
    have r4 := r2.2 y (by omega)
    have r5 := i2.2 x (by omega)
    have s2 := i4.2 (m.t.idn.getD y 0).toNat (by omega)
    have s4 := s2.2 x (by omega)
    refine .skip ?_
    refine hK11 _ _ ?_
    refine .seq (fun K12 hK12 => ?_)
    refine .block ?_
    refine .seq (fun K13 hK13 => ?_)
    refine .region (.m rfl rfl rfl (.move rfl) ?_)
    refine .m rfl rfl rfl (.idxN sl_22_A (by assumption) rfl rfl (by omega)) ?_
    refine .m rfl rfl rfl (.loadI on_2_A (by assumption) rfl (by omega)) ?_
    refine .m rfl rfl rfl (.assign rfl) (.m rfl rfl rfl (.assign rfl) (.nil ?_))
    refine hK13 _ _ ?_
    refine .seq (fun K14 hK14 => ?_)
    refine .regionD mixed_orders_B (.q 0 (.q 1 (.q 2 (.q 3 (.q 4 (.q 5 (.q 6 (.q 7 (.q 8 (.q 9 (.q 10 (.q 11 (.q 12 (.q 13 (.q 14 (.q 15 (.q 16 (.q 17 (.q 18 (.q 19 (.c 20 1 (.c 21 0 (.q 22 (.q 23 (.q 24 (.q 25 (.q 26 (.q 27 (.q 28 (.q 29 (.q 30 (.q 31 (.q 32 (.q 33 (.q 34 (.q 35 (.q 36 (.q 37 (.q 38 (.q 39 (.q 40 (.q 41 (.q 42 (.q 43 (.q 44 (.q 45 (.q 46 (.q 47 (.q 48 (.q 49 (.c 50 1 (.c 51 0 (.q 52 (.q 53 (.done))))))))))))))))))))))))))))))))))))))))))))))))))))))) (by kernel_rfl) ?_
    refine .m rfl rfl rfl rfl (.refl _) (.move rfl) (.m rfl rfl rfl rfl (.refl _) (.nilCheck rfl) (.m rfl rfl rfl rfl (.refl _) (.fieldAddr fo_40_3_VProf rfl) ?_))
    refine .m rfl rfl rfl rfl (.refl _) (.load on_34_VProf rfl (by assumption)) ?_
    refine .m rfl rfl rfl rfl (.refl _) (.move rfl) ?_
    refine .m rfl rfl rfl rfl (.refl _) (.idx1 sl_34_VZ (Intsss.sl (by assumption)) rfl rfl (by omega) (by omega)) ?_
    refine .m rfl rfl rfl rfl (.refl _) (.loadRR on_23_B (by assumption) rfl (by omega)) ?_
    refine .m rfl rfl rfl rfl (.refl _) (.move rfl) ?_
    refine .m rfl rfl rfl rfl (.refl _) (.idxN sl_23_B (Intss.sl (by assumption)) rfl rfl (by omega)) ?_
    refine .m rfl rfl rfl rfl (.refl _) (.loadR on_22_B (by assumption) rfl (by omega)) ?_
    refine .m rfl rfl rfl rfl (.refl _) (.move rfl) (.m rfl rfl rfl rfl (.refl _) (.nilCheck rfl) (.m rfl rfl rfl rfl (.refl _) (.fieldAddr fo_40_2_VProf rfl) ?_))
    refine .m rfl rfl rfl rfl (.refl _) (.load on_23_B rfl (by assumption)) ?_
    refine .m rfl rfl rfl rfl (.refl _) (.move rfl) ?_
    refine .m rfl rfl rfl rfl (.refl _) (.idxN sl_23_B (Intss.sl (by assumption)) rfl rfl (by omega)) ?_
    refine .m rfl rfl rfl rfl (.refl _) (.loadR on_22_B (by assumption) rfl (by omega)) ?_
    refine .m rfl rfl rfl rfl (.refl _) (.move rfl) ?_
    refine .m rfl rfl rfl rfl (.refl _) (.idxN sl_22_A (by assumption) rfl rfl (by omega)) ?_
    refine .m rfl rfl rfl rfl (.refl _) (.loadI on_2_A (by assumption) rfl (by omega)) ?_
    refine .call1 rfl rfl rfl rfl rfl @Try.call136 rfl (numbers_c) ?_
    rintro _ H61 ⟨le61, g61, rfl, at61, ge61⟩
    have hbl := le61
    refine ⟨hbl, ?_⟩
    have nx_H61 := le61.1
    replace hle := hle.trans le61
    replace lst1 := lst1.le le61
    replace lst2 := lst2.le le61
    have lt_at61 := GHeap.lt_of_get at61
    replace h := base_h.mono hle
    clear fs ft c10 c11 c12 i2 i3 i4 hm hi hms his hmt hit c0 c1 c2 c3 c4 d1 d2 d3 d4 x0 x1 x2 x3 x4 y1 y2 y3 y4
    obtain ⟨fs, ft, c10, c11, c12, i2, i3, i4⟩ := h.get
    have hm : MemN _ _ _ _ _ := ⟨rfl, h.1⟩
    have hi := h.2
    have hms : MemN _ _ _ _ _ := ⟨rfl, fs.1⟩
    have his := fs.2
    have hmt : MemN _ _ _ _ _ := ⟨rfl, ft.1⟩
    have hit := ft.2
    obtain ⟨c0, c1, c2, c3, c4, d1, d2, d3, d4⟩ := fs.get
    obtain ⟨x0, x1, x2, x3, x4, y1, y2, y3, y4⟩ := ft.get
    clear r2 r4 r5 s2 s4
    have r2 := i3.2 (m.s.idn.getD x 0).toNat (by omega)
    have r4 := r2.2 y (by omega)
    have r5 := i2.2 x (by omega)
    have s2 := i4.2 (m.t.idn.getD y 0).toNat (by omega)
    have s4 := s2.2 x (by omega)
    have i61 := Ints.of_get at61
    refine .callQ0 rfl rfl rfl rfl rfl @Try.call116 rfl (same_c (hy := by rw [length_numsL]; omega)) ?_
    refine .m rfl rfl rfl rfl (.refl _) (.not rfl) (.m rfl rfl rfl rfl (.refl _) (.move rfl) ?_)
    refine .split (fun h64 => ?_) (fun h64 => ?_)
    ·
     simp only [sps, e1] at h64
     refine .sg rfl rfl rfl rfl rfl rfl (.sg rfl rfl rfl rfl rfl rfl (.sg rfl rfl rfl rfl rfl rfl (.sg rfl rfl rfl rfl rfl rfl ?_)))
     refine .sg rfl rfl rfl rfl rfl rfl (.sg rfl rfl rfl rfl rfl rfl (.sg rfl rfl rfl rfl rfl rfl (.sg rfl rfl rfl rfl rfl rfl ?_)))
     refine .sg rfl rfl rfl rfl rfl rfl (.sg rfl rfl rfl rfl rfl rfl (.sg rfl rfl rfl rfl rfl rfl (.sg rfl rfl rfl rfl rfl rfl ?_)))
     refine .sg rfl rfl rfl rfl rfl rfl (.sg rfl rfl rfl rfl rfl rfl (.sg rfl rfl rfl rfl rfl rfl (.sg rfl rfl rfl rfl rfl rfl ?_)))
     refine .sg rfl rfl rfl rfl rfl rfl (.sg rfl rfl rfl rfl rfl rfl (.sg rfl rfl rfl rfl rfl rfl (.sg rfl rfl rfl rfl rfl rfl ?_)))
     refine .sg rfl rfl rfl rfl rfl rfl (.sg rfl rfl rfl rfl rfl rfl (.sg rfl rfl rfl rfl rfl rfl (.sg rfl rfl rfl rfl rfl rfl ?_)))
     refine .sg rfl rfl rfl rfl rfl rfl (.sg rfl rfl rfl rfl rfl rfl (.sgc rfl rfl rfl rfl rfl rfl (.sgc rfl rfl rfl rfl rfl rfl ?_)))
     refine .sg rfl rfl rfl rfl rfl rfl (.m rfl rfl rfl rfl (.refl _) (.pickT rfl rfl) ?_)
     refine .done ?_
     refine hK14 _ _ ?_
     refine .condT rfl ?_
     refine .seq (fun K15 hK15 => ?_)
     refine .region (.m rfl rfl rfl (.assign rfl) (.nil ?_))
     refine hK15 _ _ ?_
     refine .ret ?_
     refine hret _ _ ?_
     refine ⟨_, rfl, ?_⟩
     first
     | exact ⟨congrArg _ (B_true ⟨fun y hy x hx => (ha1 y (by omega)).1 x (by omega), fun y hy a ha b hb => (ha1 y (by omega)).2 a (by omega) b (by have := hC.row a (by omega); omega), fun x hx a ha b hb => ha5 x (by omega) a (by omega) b (by have := hD.row a (by omega); omega)⟩), hle⟩
     | exact ⟨congrArg _ (B_false fun hh => h94 (hh.idb y (by omega) x (by omega)).2), hle⟩
     | exact ⟨congrArg _ (B_false fun hh => h64 (hh.idb y (by omega) x (by omega)).1), hle⟩
     | exact ⟨congrArg _ (B_false fun hh => h149 (hh.thb y (by omega) a (by omega) b (by omega) h115)), hle⟩
     | exact ⟨congrArg _ (B_false fun hh => h213 (hh.thh x (by omega) a (by omega) b (by omega) h179)), hle⟩
    simp only [sps, e1] at h64
    refine .mg rfl rfl rfl rfl rfl rfl (.refl _) (.move rfl) (.mg rfl rfl rfl rfl rfl rfl (.refl _) (.nilCheck rfl) (.mg rfl rfl rfl rfl rfl rfl (.refl _) (.fieldAddr fo_40_4_VProf rfl) ?_))
    refine .mg rfl rfl rfl rfl rfl rfl (.refl _) (.load on_34_VProf rfl (by assumption)) ?_
    refine .mg rfl rfl rfl rfl rfl rfl (.refl _) (.move rfl) (.mg rfl rfl rfl rfl rfl rfl (.refl _) (.nilCheck rfl) (.mg rfl rfl rfl rfl rfl rfl (.refl _) (.fieldAddr fo_27_3_B rfl) ?_))
    refine .mg rfl rfl rfl rfl rfl rfl (.refl _) (.load on_22_B rfl (by assumption)) ?_
    refine .mg rfl rfl rfl rfl rfl rfl (.refl _) (.move rfl) ?_
    refine .mg rfl rfl rfl rfl rfl rfl (.refl _) (.idxN sl_22_A (by assumption) rfl rfl (by omega)) ?_
    refine .mg rfl rfl rfl rfl rfl rfl (.refl _) (.loadI on_2_A (by assumption) rfl (by omega)) ?_
    refine .mg rfl rfl rfl rfl rfl rfl (.refl _) (.idx1 sl_34_VZ (Intsss.sl (by assumption)) rfl rfl (by omega) (by omega)) ?_
    refine .mg rfl rfl rfl rfl rfl rfl (.refl _) (.loadRR on_23_B (by assumption) rfl (by omega)) ?_
    refine .mg rfl rfl rfl rfl rfl rfl (.refl _) (.move rfl) ?_
    refine .mg rfl rfl rfl rfl rfl rfl (.refl _) (.idxN sl_23_B (Intss.sl (by assumption)) rfl rfl (by omega)) ?_
    refine .mg rfl rfl rfl rfl rfl rfl (.refl _) (.loadR on_22_B (by assumption) rfl (by omega)) ?_
    refine .mg rfl rfl rfl rfl rfl rfl (.refl _) (.move rfl) (.mg rfl rfl rfl rfl rfl rfl (.refl _) (.nilCheck rfl) (.mg rfl rfl rfl rfl rfl rfl (.refl _) (.fieldAddr fo_40_2_VProf rfl) ?_))
    refine .mg rfl rfl rfl rfl rfl rfl (.refl _) (.load on_23_B rfl (by assumption)) ?_
    refine .mg rfl rfl rfl rfl rfl rfl (.refl _) (.move rfl) ?_
    refine .mg rfl rfl rfl rfl rfl rfl (.refl _) (.idxN sl_23_B (Intss.sl (by assumption)) rfl rfl (by omega)) ?_
    refine .mg rfl rfl rfl rfl rfl rfl (.refl _) (.loadR on_22_B (by assumption) rfl (by omega)) ?_
    refine .mg rfl rfl rfl rfl rfl rfl (.refl _) (.move rfl) ?_
    refine .mg rfl rfl rfl rfl rfl rfl (.refl _) (.idxN sl_22_A (by assumption) rfl rfl (by omega)) ?_
    refine .mg rfl rfl rfl rfl rfl rfl (.refl _) (.loadI on_2_A (by assumption) rfl (by omega)) ?_
    refine .call1g rfl rfl rfl rfl rfl rfl rfl @Try.call136 rfl (numbers_c) ?_
    rintro _ H91 ⟨le91, g91, rfl, at91, ge91⟩
    have hbl := le91
    refine ⟨hbl, ?_⟩
    have nx_H91 := le91.1
    replace hle := hle.trans le91
    replace lst1 := lst1.le le91
    replace lst2 := lst2.le le91
    replace at61 := le91.2 _ _ at61
    have lt_at91 := GHeap.lt_of_get at91
    replace h := base_h.mono hle
    clear fs ft c10 c11 c12 i2 i3 i4 hm hi hms his hmt hit c0 c1 c2 c3 c4 d1 d2 d3 d4 x0 x1 x2 x3 x4 y1 y2 y3 y4
    obtain ⟨fs, ft, c10, c11, c12, i2, i3, i4⟩ := h.get
    have hm : MemN _ _ _ _ _ := ⟨rfl, h.1⟩
    have hi := h.2
    have hms : MemN _ _ _ _ _ := ⟨rfl, fs.1⟩
    have his := fs.2
    have hmt : MemN _ _ _ _ _ := ⟨rfl, ft.1⟩
    have hit := ft.2
    obtain ⟨c0, c1, c2, c3, c4, d1, d2, d3, d4⟩ := fs.get
    obtain ⟨x0, x1, x2, x3, x4, y1, y2, y3, y4⟩ := ft.get
    clear r2 r4 r5 s2 s4
    have r2 := i3.2 (m.s.idn.getD x 0).toNat (by omega)
    have r4 := r2.2 y (by omega)
    have r5 := i2.2 x (by omega)
    have s2 := i4.2 (m.t.idn.getD y 0).toNat (by omega)
    have s4 := s2.2 x (by omega)
    clear i61
    have i61 := Ints.of_get at61
    have i91 := Ints.of_get at91
    refine .callQ0g rfl rfl rfl rfl rfl rfl rfl @Try.call116 rfl (same_c (hy := by rw [length_numsL]; omega)) ?_
    refine .mg rfl rfl rfl rfl rfl rfl (.refl _) (.not rfl) (.m rfl rfl rfl rfl (.refl _) (.pickF rfl rfl) ?_)
    refine .done ?_
    refine hK14 _ _ ?_
    refine .cond rfl (fun h94 => ?_) (fun h94 => ?_)
    ·
     simp only [sps, e2] at h94
     refine .seq (fun K16 hK16 => ?_)
     refine .region (.m rfl rfl rfl (.assign rfl) (.nil ?_))
     refine hK16 _ _ ?_
     refine .ret ?_
     refine hret _ _ ?_
     refine ⟨_, rfl, ?_⟩
     first
     | exact ⟨congrArg _ (B_true ⟨fun y hy x hx => (ha1 y (by omega)).1 x (by omega), fun y hy a ha b hb => (ha1 y (by omega)).2 a (by omega) b (by have := hC.row a (by omega); omega), fun x hx a ha b hb => ha5 x (by omega) a (by omega) b (by have := hD.row a (by omega); omega)⟩), hle⟩
     | exact ⟨congrArg _ (B_false fun hh => h94 (hh.idb y (by omega) x (by omega)).2), hle⟩
     | exact ⟨congrArg _ (B_false fun hh => h64 (hh.idb y (by omega) x (by omega)).1), hle⟩
     | exact ⟨congrArg _ (B_false fun hh => h149 (hh.thb y (by omega) a (by omega) b (by omega) h115)), hle⟩
     | exact ⟨congrArg _ (B_false fun hh => h213 (hh.thh x (by omega) a (by omega) b (by omega) h179)), hle⟩
    simp only [sps, e2] at h94
    refine .skip ?_
    refine hK12 _ _ ?_
    refine .region ?_
    refine .m rfl rfl rfl (.add rfl rfl rfl (by omega) (by omega)) ?_
    refine .m rfl rfl rfl (.move rfl) (.nil ?_)
    refine hKL2 (x + 1) _ _ ?_ ?_ ⟨rfl, rfl, rfl, rfl, rfl, rfl, rfl, trivial⟩
    ·
     refine ⟨lst2, ?_⟩
     refine ⟨by omega, fun x' hx => ?_⟩
     by_cases hltq : x' < x
     · exact ha2 x' hltq
     · obtain rfl : x' = x := by omega
       exact ⟨h64, h94⟩
    omega
   try simp only [sps] at h37
   refine .exit ?_
   refine hK8 _ _ ?_
   refine .seq (fun K17 hK17 => ?_)
   refine .region (.m rfl rfl rfl (.move rfl) (.m rfl rfl rfl (.nilCheck rfl) (.m rfl rfl rfl (.fieldAddr fo_27_4_B rfl) ?_)))
   refine .m rfl rfl rfl (.load on_23_B rfl (by assumption)) ?_
   refine .m rfl rfl rfl (.len sl_23_B rfl) (.m rfl rfl rfl (.move rfl) (.nil ?_))
   refine hK17 _ _ ?_
   refine .block ?_
   refine .loopR (σ := Nat) [(0, some _), (3, some _), (4, some _), (5, some _), (99, some _), (100, some _)] (fun a => [(101, some (.int .i64 (a : Int)))]) (fun a H' => St [] HL2 H' ∧ (a : Int) ≤ m.s.comp.length ∧ ∀ a', a' < a → ∀ b : Nat, b < (m.s.comp.getD a' []).length → 0 ≤ (m.s.comp.getD a' []).getD b 0 → (m.be.getD ((m.s.comp.getD a' []).getD b 0).toNat []).getD y [] = thenL ((m.be.getD b []).getD y []) ((m.be.getD a' []).getD y [])) (fun a => (m.s.comp.length - a : Int).toNat) (0) ⟨rfl, rfl, rfl, rfl, rfl, rfl, trivial⟩ ⟨rfl, trivial⟩ ?_ ?_
   ·
    refine ⟨.refl _ _, ?_⟩
    exact ⟨by omega, fun _ _ => by omega⟩
   rintro a HL3 ⟨lst3, hI⟩ KL3 hKL3
   refine .forget (fr' := [(101, some (.int .i64 (a : Int))), (0, some _), (3, some _), (4, some _), (5, some _), (99, some _), (100, some _)]) ⟨rfl, rfl, rfl, rfl, rfl, rfl, rfl, trivial⟩ ?_
   have nx_HL3 := lst3.nx
   replace hle := hle.st lst3 (fun k hk => trivial)
   replace lst1 := lst1.st lst3 (fun k hk ho => by simp only [out, and_true] at ho ⊢ <;> first | exact ho | exact ho.1 | exact ho.2 | exact ho.2.1 | exact ho.2.2 | exact ho.2.2.1 | exact ho.2.2.2 | omega)
   replace h := base_h.mono hle
   clear fs ft c10 c11 c12 i2 i3 i4 hm hi hms his hmt hit c0 c1 c2 c3 c4 d1 d2 d3 d4 x0 x1 x2 x3 x4 y1 y2 y3 y4
   obtain ⟨fs, ft, c10, c11, c12, i2, i3, i4⟩ := h.get
   have hm : MemN _ _ _ _ _ := ⟨rfl, h.1⟩
   have hi := h.2
   have hms : MemN _ _ _ _ _ := ⟨rfl, fs.1⟩
   have his := fs.2
   have hmt : MemN _ _ _ _ _ := ⟨rfl, ft.1⟩
   have hit := ft.2
   obtain ⟨c0, c1, c2, c3, c4, d1, d2, d3, d4⟩ := fs.get
   obtain ⟨x0, x1, x2, x3, x4, y1, y2, y3, y4⟩ := ft.get
   obtain ⟨hk3, ha3⟩ := hI
   refine .seq (fun K18 hK18 => ?_)
   refine .region (.m rfl rfl rfl (.cmp rfl rfl rfl) (.nil ?_))
   refine hK18 _ _ ?_
   refine .seq (fun K19 hK19 => ?_)
   refine .cond rfl (fun h102 => ?_) (fun h102 => ?_)
   ·
    simp only [sps] at h102
    have r1 := hC.row a (by omega)
    have r4 := hS.by (a := a) (y := y) (by omega) (by omega)
    have r2 := d4.2 a (by omega)
    have r3 := i3.2 a (by omega)
    have r5 := r3.2 y (by omega)
    refine .skip ?_
    refine hK19 _ _ ?_
    refine .seq (fun K20 hK20 => ?_)
    refine .block ?_
    refine .seq (fun K21 hK21 => ?_)
    refine .region (.m rfl rfl rfl (.move rfl) ?_)
    refine .m rfl rfl rfl (.idxN sl_23_B (Intss.sl (by assumption)) rfl rfl (by omega)) ?_
    refine .m rfl rfl rfl (.loadR on_22_B (by assumption) rfl (by omega)) ?_
    refine .m rfl rfl rfl (.assign rfl) (.m rfl rfl rfl (.assign rfl) (.nil ?_))
    refine hK21 _ _ ?_
    refine .seq (fun K22 hK22 => ?_)
    refine .region (.m rfl rfl rfl (.move rfl) (.m rfl rfl rfl (.len sl_22_A rfl) (.m rfl rfl rfl (.move rfl) ?_)))
    refine .nil ?_
    refine hK22 _ _ ?_
    refine .block ?_
    refine .loopR (σ := Nat) [(0, some _), (3, some _), (4, some _), (5, some _), (8, some _), (99, some _), (100, some _), (101, some _), (106, some _), (107, some _)] (fun b => [(108, some (.int .i64 (b : Int)))]) (fun b H' => St [] HL3 H' ∧ (b : Int) ≤ (m.s.comp.getD a []).length ∧ ∀ b', b' < b → 0 ≤ (m.s.comp.getD a []).getD b' 0 → (m.be.getD ((m.s.comp.getD a []).getD b' 0).toNat []).getD y [] = thenL ((m.be.getD b' []).getD y []) ((m.be.getD a []).getD y [])) (fun b => ((m.s.comp.getD a []).length - b : Int).toNat) (0) ⟨rfl, rfl, rfl, rfl, rfl, rfl, rfl, rfl, rfl, rfl, trivial⟩ ⟨rfl, trivial⟩ ?_ ?_
    ·
     refine ⟨.refl _ _, ?_⟩
     exact ⟨by omega, fun _ _ => by omega⟩
    rintro b HL4 ⟨lst4, hI⟩ KL4 hKL4
    refine .forget (fr' := [(108, some (.int .i64 (b : Int))), (0, some _), (3, some _), (4, some _), (5, some _), (8, some _), (99, some _), (100, some _), (101, some _), (106, some _), (107, some _)]) ⟨rfl, rfl, rfl, rfl, rfl, rfl, rfl, rfl, rfl, rfl, rfl, trivial⟩ ?_
    have nx_HL4 := lst4.nx
    replace hle := hle.st lst4 (fun k hk => trivial)
    replace lst1 := lst1.st lst4 (fun k hk ho => by simp only [out, and_true] at ho ⊢ <;> first | exact ho | exact ho.1 | exact ho.2 | exact ho.2.1 | exact ho.2.2 | exact ho.2.2.1 | exact ho.2.2.2 | omega)
    replace lst3 := lst3.st lst4 (fun k hk ho => by simp only [out, and_true] at ho ⊢ <;> first | exact ho | exact ho.1 | exact ho.2 | exact ho.2.1 | exact ho.2.2 | exact ho.2.2.1 | exact ho.2.2.2 | omega)
    replace h := base_h.mono hle
    clear fs ft c10 c11 c12 i2 i3 i4 hm hi hms his hmt hit c0 c1 c2 c3 c4 d1 d2 d3 d4 x0 x1 x2 x3 x4 y1 y2 y3 y4
    obtain ⟨fs, ft, c10, c11, c12, i2, i3, i4⟩ := h.get
    have hm : MemN _ _ _ _ _ := ⟨rfl, h.1⟩
    have hi := h.2
    have hms : MemN _ _ _ _ _ := ⟨rfl, fs.1⟩
    have his := fs.2
    have hmt : MemN _ _ _ _ _ := ⟨rfl, ft.1⟩
    have hit := ft.2
    obtain ⟨c0, c1, c2, c3, c4, d1, d2, d3, d4⟩ := fs.get
    obtain ⟨x0, x1, x2, x3, x4, y1, y2, y3, y4⟩ := ft.get
    clear r2 r3 r5
    have r2 := d4.2 a (by omega)
    have r3 := i3.2 a (by omega)
    have r5 := r3.2 y (by omega)
    obtain ⟨hk4, ha4⟩ := hI
    refine .seq (fun K23 hK23 => ?_)
    refine .region (.m rfl rfl rfl (.cmp rfl rfl rfl) (.nil ?_))
    refine hK23 _ _ ?_
    refine .seq (fun K24 hK24 => ?_)
    refine .cond rfl (fun h109 => ?_) (fun h109 => ?_)
    ·
     simp only [sps] at h109
     have t4 := hS.by (a := b) (y := y) (by omega) (by omega)
     have t3 := i3.2 b (by omega)
     have t5 := t3.2 y (by omega)
     refine .skip ?_
     refine hK24 _ _ ?_
     refine .seq (fun K25 hK25 => ?_)
     refine .block ?_
     refine .seq (fun K26 hK26 => ?_)
     refine .region (.m rfl rfl rfl (.move rfl) ?_)
     refine .m rfl rfl rfl (.idxN sl_22_A (by assumption) rfl rfl (by omega)) ?_
     refine .m rfl rfl rfl (.loadI on_2_A (by assumption) rfl (by omega)) ?_
     refine .m rfl rfl rfl (.assign rfl) (.m rfl rfl rfl (.assign rfl) (.nil ?_))
     refine hK26 _ _ ?_
     refine .seq (fun K27 hK27 => ?_)
     refine .regionD mixed_orders_B (.q 0 (.q 1 (.q 2 (.q 3 (.q 4 (.q 5 (.q 6 (.q 7 (.q 8 (.q 9 (.q 10 (.q 11 (.q 12 (.q 13 (.q 14 (.q 15 (.q 16 (.q 17 (.q 18 (.q 19 (.q 20 (.q 21 (.q 22 (.q 23 (.q 24 (.q 25 (.q 26 (.q 27 (.q 28 (.q 29 (.q 30 (.q 31 (.q 32 (.c 33 1 (.c 34 0 (.q 35 (.q 36 (.done)))))))))))))))))))))))))))))))))))))) (by kernel_rfl) ?_
     refine .m rfl rfl rfl rfl (.refl _) (.move rfl) (.m rfl rfl rfl rfl (.refl _) (.cmp rfl rfl rfl) (.m rfl rfl rfl rfl (.refl _) (.move rfl) ?_))
     refine .split (fun h115 => ?_) (fun h115 => ?_)
     ·
      simp only [sps] at h115
      have u1 := hC.comp (a := a) (b := b) (by omega) (by omega) h115
      have u4 := hS.by (a := ((m.s.comp.getD a []).getD b 0).toNat) (y := y) (by omega) (by omega)
      have u6 : ∀ i, i < ((m.be.getD b []).getD y []).length → 0 ≤ ((m.be.getD b []).getD y []).getD i 0 ∧ ((m.be.getD b []).getD y []).getD i 0 < ((m.be.getD a []).getD y []).length := fun i hi => by
        have := t4.2.2.2.2.1 i hi
        rw [← u1.1, ← r4.2.2.2.1] at this
        exact this
      have u3 := i3.2 ((m.s.comp.getD a []).getD b 0).toNat (by omega)
      have u5 := u3.2 y (by omega)
      refine .mg rfl rfl rfl rfl rfl rfl (.refl _) (.move rfl) (.mg rfl rfl rfl rfl rfl rfl (.refl _) (.nilCheck rfl) (.mg rfl rfl rfl rfl rfl rfl (.refl _) (.fieldAddr fo_40_3_VProf rfl) ?_))
      refine .mg rfl rfl rfl rfl rfl rfl (.refl _) (.load on_34_VProf rfl (by assumption)) ?_
      refine .mg rfl rfl rfl rfl rfl rfl (.refl _) (.move rfl) ?_
      refine .mg rfl rfl rfl rfl rfl rfl (.refl _) (.idx1 sl_34_VZ (Intsss.sl (by assumption)) rfl rfl (by omega) (by omega)) ?_
      refine .mg rfl rfl rfl rfl rfl rfl (.refl _) (.loadRR on_23_B (by assumption) rfl (by omega)) ?_
      refine .mg rfl rfl rfl rfl rfl rfl (.refl _) (.move rfl) ?_
      refine .mg rfl rfl rfl rfl rfl rfl (.refl _) (.idxN sl_23_B (Intss.sl (by assumption)) rfl rfl (by omega)) ?_
      refine .mg rfl rfl rfl rfl rfl rfl (.refl _) (.loadR on_22_B (by assumption) rfl (by omega)) ?_
      refine .mg rfl rfl rfl rfl rfl rfl (.refl _) (.move rfl) (.mg rfl rfl rfl rfl rfl rfl (.refl _) (.nilCheck rfl) (.mg rfl rfl rfl rfl rfl rfl (.refl _) (.fieldAddr fo_40_3_VProf rfl) ?_))
      refine .mg rfl rfl rfl rfl rfl rfl (.refl _) (.load on_34_VProf rfl (by assumption)) ?_
      refine .mg rfl rfl rfl rfl rfl rfl (.refl _) (.move rfl) ?_
      refine .mg rfl rfl rfl rfl rfl rfl (.refl _) (.idxN sl_34_VZ (Intsss.sl (by assumption)) rfl rfl (by omega)) ?_
      refine .mg rfl rfl rfl rfl rfl rfl (.refl _) (.loadRR on_23_B (by assumption) rfl (by omega)) ?_
      refine .mg rfl rfl rfl rfl rfl rfl (.refl _) (.move rfl) ?_
      refine .mg rfl rfl rfl rfl rfl rfl (.refl _) (.idxN sl_23_B (Intss.sl (by assumption)) rfl rfl (by omega)) ?_
      refine .mg rfl rfl rfl rfl rfl rfl (.refl _) (.loadR on_22_B (by assumption) rfl (by omega)) ?_
      refine .mg rfl rfl rfl rfl rfl rfl (.refl _) (.move rfl) (.mg rfl rfl rfl rfl rfl rfl (.refl _) (.nilCheck rfl) (.mg rfl rfl rfl rfl rfl rfl (.refl _) (.fieldAddr fo_40_3_VProf rfl) ?_))
      refine .mg rfl rfl rfl rfl rfl rfl (.refl _) (.load on_34_VProf rfl (by assumption)) ?_
      refine .mg rfl rfl rfl rfl rfl rfl (.refl _) (.move rfl) ?_
      refine .mg rfl rfl rfl rfl rfl rfl (.refl _) (.idxN sl_34_VZ (Intsss.sl (by assumption)) rfl rfl (by omega)) ?_
      refine .mg rfl rfl rfl rfl rfl rfl (.refl _) (.loadRR on_23_B (by assumption) rfl (by omega)) ?_
      refine .mg rfl rfl rfl rfl rfl rfl (.refl _) (.move rfl) ?_
      refine .mg rfl rfl rfl rfl rfl rfl (.refl _) (.idxN sl_23_B (Intss.sl (by assumption)) rfl rfl (by omega)) ?_
      refine .mg rfl rfl rfl rfl rfl rfl (.refl _) (.loadR on_22_B (by assumption) rfl (by omega)) ?_
      refine .call1g rfl rfl rfl rfl rfl rfl rfl @Try.call115 rfl (implThen_c) ?_
      rintro _ H146 ⟨le146, g146, rfl, at146, ge146⟩
      have hbl := le146
      refine ⟨hbl, ?_⟩
      have nx_H146 := le146.1
      replace hle := hle.trans le146
      replace lst1 := lst1.le le146
      replace lst3 := lst3.le le146
      replace lst4 := lst4.le le146
      have lt_at146 := GHeap.lt_of_get at146
      replace h := base_h.mono hle
      clear fs ft c10 c11 c12 i2 i3 i4 hm hi hms his hmt hit c0 c1 c2 c3 c4 d1 d2 d3 d4 x0 x1 x2 x3 x4 y1 y2 y3 y4
      obtain ⟨fs, ft, c10, c11, c12, i2, i3, i4⟩ := h.get
      have hm : MemN _ _ _ _ _ := ⟨rfl, h.1⟩
      have hi := h.2
      have hms : MemN _ _ _ _ _ := ⟨rfl, fs.1⟩
      have his := fs.2
      have hmt : MemN _ _ _ _ _ := ⟨rfl, ft.1⟩
      have hit := ft.2
      obtain ⟨c0, c1, c2, c3, c4, d1, d2, d3, d4⟩ := fs.get
      obtain ⟨x0, x1, x2, x3, x4, y1, y2, y3, y4⟩ := ft.get
      clear r2 r3 r5
      have r2 := d4.2 a (by omega)
      have r3 := i3.2 a (by omega)
      have r5 := r3.2 y (by omega)
      clear t3 t5
      have t3 := i3.2 b (by omega)
      have t5 := t3.2 y (by omega)
      clear u3 u5
      have u3 := i3.2 ((m.s.comp.getD a []).getD b 0).toNat (by omega)
      have u5 := u3.2 y (by omega)
      have i146 := Ints.of_get at146
      refine .callQ0g rfl rfl rfl rfl rfl rfl rfl @Try.call116 rfl (same_c (hy := by rw [length_thenL]; omega)) ?_
      refine .mg rfl rfl rfl rfl rfl rfl (.refl _) (.not rfl) (.m rfl rfl rfl rfl (.refl _) (.pickT rfl rfl) ?_)
      refine .done ?_
      refine hK27 _ _ ?_
      refine .cond rfl (fun h149 => ?_) (fun h149 => ?_)
      ·
       try simp only [sps] at h149
       refine .seq (fun K28 hK28 => ?_)
       refine .region (.m rfl rfl rfl (.assign rfl) (.nil ?_))
       refine hK28 _ _ ?_
       refine .ret ?_
       refine hret _ _ ?_
       refine ⟨_, rfl, ?_⟩
       first
       | exact ⟨congrArg _ (B_true ⟨fun y hy x hx => (ha1 y (by omega)).1 x (by omega), fun y hy a ha b hb => (ha1 y (by omega)).2 a (by omega) b (by have := hC.row a (by omega); omega), fun x hx a ha b hb => ha5 x (by omega) a (by omega) b (by have := hD.row a (by omega); omega)⟩), hle⟩
       | exact ⟨congrArg _ (B_false fun hh => h94 (hh.idb y (by omega) x (by omega)).2), hle⟩
       | exact ⟨congrArg _ (B_false fun hh => h64 (hh.idb y (by omega) x (by omega)).1), hle⟩
       | exact ⟨congrArg _ (B_false fun hh => h149 (hh.thb y (by omega) a (by omega) b (by omega) h115)), hle⟩
       | exact ⟨congrArg _ (B_false fun hh => h213 (hh.thh x (by omega) a (by omega) b (by omega) h179)), hle⟩
      try simp only [sps] at h149
      refine .skip ?_
      refine hK25 _ _ ?_
      refine .region ?_
      refine .m rfl rfl rfl (.add rfl rfl rfl (by omega) (by omega)) ?_
      refine .m rfl rfl rfl (.move rfl) (.nil ?_)
      refine hKL4 (b + 1) _ _ ?_ ?_ ⟨rfl, rfl, rfl, rfl, rfl, rfl, rfl, rfl, rfl, rfl, rfl, trivial⟩
      ·
       refine ⟨lst4, ?_⟩
       refine ⟨by omega, fun b' hx => ?_⟩
       by_cases hltq : b' < b
       · exact ha4 b' hltq
       · obtain rfl : b' = b := by omega
         first | exact fun _ => h149 | exact fun hp => absurd hp (by omega)
      omega
     try simp only [sps] at h115
     refine .sg rfl rfl rfl rfl rfl rfl (.sg rfl rfl rfl rfl rfl rfl (.sg rfl rfl rfl rfl rfl rfl (.sg rfl rfl rfl rfl rfl rfl ?_)))
     refine .sg rfl rfl rfl rfl rfl rfl (.sg rfl rfl rfl rfl rfl rfl (.sg rfl rfl rfl rfl rfl rfl (.sg rfl rfl rfl rfl rfl rfl ?_)))
     refine .sg rfl rfl rfl rfl rfl rfl (.sg rfl rfl rfl rfl rfl rfl (.sg rfl rfl rfl rfl rfl rfl (.sg rfl rfl rfl rfl rfl rfl ?_)))
     refine .sg rfl rfl rfl rfl rfl rfl (.sg rfl rfl rfl rfl rfl rfl (.sg rfl rfl rfl rfl rfl rfl (.sg rfl rfl rfl rfl rfl rfl ?_)))
     refine .sg rfl rfl rfl rfl rfl rfl (.sg rfl rfl rfl rfl rfl rfl (.sg rfl rfl rfl rfl rfl rfl (.sg rfl rfl rfl rfl rfl rfl ?_)))
     refine .sg rfl rfl rfl rfl rfl rfl (.sg rfl rfl rfl rfl rfl rfl (.sg rfl rfl rfl rfl rfl rfl (.sg rfl rfl rfl rfl rfl rfl ?_)))
     refine .sg rfl rfl rfl rfl rfl rfl (.sg rfl rfl rfl rfl rfl rfl (.sg rfl rfl rfl rfl rfl rfl (.sg rfl rfl rfl rfl rfl rfl ?_)))
     refine .sg rfl rfl rfl rfl rfl rfl (.sg rfl rfl rfl rfl rfl rfl (.sgc rfl rfl rfl rfl rfl rfl (.sgc rfl rfl rfl rfl rfl rfl ?_)))
     refine .sg rfl rfl rfl rfl rfl rfl (.m rfl rfl rfl rfl (.refl _) (.pickF rfl rfl) ?_)
     refine .done ?_
     refine hK27 _ _ ?_
     refine .condF rfl ?_
     refine .skip ?_
     refine hK25 _ _ ?_
     refine .region ?_
     refine .m rfl rfl rfl (.add rfl rfl rfl (by omega) (by omega)) ?_
     refine .m rfl rfl rfl (.move rfl) (.nil ?_)
     refine hKL4 (b + 1) _ _ ?_ ?_ ⟨rfl, rfl, rfl, rfl, rfl, rfl, rfl, rfl, rfl, rfl, rfl, trivial⟩
     ·
      refine ⟨lst4, ?_⟩
      refine ⟨by omega, fun b' hx => ?_⟩
      by_cases hltq : b' < b
      · exact ha4 b' hltq
      · obtain rfl : b' = b := by omega
        first | exact fun _ => h149 | exact fun hp => absurd hp (by omega)
     omega
    try simp only [sps] at h109
    refine .exit ?_
    refine hK20 _ _ ?_
    refine .region ?_
    refine .m rfl rfl rfl (.add rfl rfl rfl (by omega) (by omega)) ?_
    refine .m rfl rfl rfl (.move rfl) (.nil ?_)
    refine hKL3 (a + 1) _ _ ?_ ?_ ⟨rfl, rfl, rfl, rfl, rfl, rfl, rfl, trivial⟩
    ·
     refine ⟨lst3, ?_⟩
     refine ⟨by omega, fun a' hx => ?_⟩
     by_cases hltq : a' < a
     · exact ha3 a' hltq
     · obtain rfl : a' = a := by omega
       exact fun b hb => ha4 b (by omega)
    omega
   try simp only [sps] at h102
   refine .exit ?_
   refine hK7 _ _ ?_
   refine .region (.m rfl rfl rfl (.move rfl) ?_)
   refine .m rfl rfl rfl (.add rfl rfl rfl (by omega) (by omega)) ?_
   refine .m rfl rfl rfl (.assign rfl) (.nil ?_)
   refine hKL1 (y + 1) _ _ ?_ ?_ ⟨rfl, rfl, rfl, rfl, trivial⟩
   ·
    refine ⟨lst1, ?_⟩
    refine ⟨by omega, fun y' hx => ?_⟩
    by_cases hltq : y' < y
    · exact ha1 y' hltq
    · obtain rfl : y' = y := by omega
      exact ⟨fun x hx => ha2 x (by omega), fun a ha => ha3 a (by omega)⟩
   omega
  try simp only [sps] at h28
  refine .exit ?_
  refine hK3 _ _ ?_
  refine .seq (fun K29 hK29 => ?_)
  refine .seq (fun K30 hK30 => ?_)
  refine .region (.m rfl rfl rfl (.assign rfl) (.nil ?_))
  refine hK30 _ _ ?_
  refine .block ?_
  refine .loopR (σ := Nat) [(0, some _), (3, some _), (4, some _)] (fun x => [(12, some (.int .i64 (x : Int)))]) (fun x H' => St [] HL1 H' ∧ (x : Int) ≤ m.s.obj ∧ ∀ x', x' < x → ∀ a : Nat, a < m.t.comp.length → ∀ b : Nat, b < (m.t.comp.getD a []).length → 0 ≤ (m.t.comp.getD a []).getD b 0 → (m.bh.getD ((m.t.comp.getD a []).getD b 0).toNat []).getD x' [] = thenL ((m.bh.getD a []).getD x' []) ((m.bh.getD b []).getD x' [])) (fun x => (m.s.obj - x : Int).toNat) (0) ⟨rfl, rfl, rfl, trivial⟩ ⟨rfl, trivial⟩ ?_ ?_
  ·
   refine ⟨.refl _ _, ?_⟩
   exact ⟨by omega, fun _ _ => by omega⟩
  rintro x HL5 ⟨lst5, hI⟩ KL5 hKL5
  refine .forget (fr' := [(12, some (.int .i64 (x : Int))), (0, some _), (3, some _), (4, some _)]) ⟨rfl, rfl, rfl, rfl, trivial⟩ ?_
  have nx_HL5 := lst5.nx
  replace hle := hle.st lst5 (fun k hk => trivial)
  replace lst1 := lst1.st lst5 (fun k hk ho => by simp only [out, and_true] at ho ⊢ <;> first | exact ho | exact ho.1 | exact ho.2 | exact ho.2.1 | exact ho.2.2 | exact ho.2.2.1 | exact ho.2.2.2 | omega)
  replace h := base_h.mono hle
  clear fs ft c10 c11 c12 i2 i3 i4 hm hi hms his hmt hit c0 c1 c2 c3 c4 d1 d2 d3 d4 x0 x1 x2 x3 x4 y1 y2 y3 y4
  obtain ⟨fs, ft, c10, c11, c12, i2, i3, i4⟩ := h.get
  have hm : MemN _ _ _ _ _ := ⟨rfl, h.1⟩
  have hi := h.2
  have hms : MemN _ _ _ _ _ := ⟨rfl, fs.1⟩
  have his := fs.2
  have hmt : MemN _ _ _ _ _ := ⟨rfl, ft.1⟩
  have hit := ft.2
  obtain ⟨c0, c1, c2, c3, c4, d1, d2, d3, d4⟩ := fs.get
  obtain ⟨x0, x1, x2, x3, x4, y1, y2, y3, y4⟩ := ft.get
  obtain ⟨hk5, ha5⟩ := hI
  refine .seq (fun K31 hK31 => ?_)
  refine .seq (fun K32 hK32 => ?_)
  refine .region (.m rfl rfl rfl (.move rfl) (.m rfl rfl rfl (.move rfl) (.m rfl rfl rfl (.nilCheck rfl) ?_)))
  refine .m rfl rfl rfl (.fieldAddr fo_27_0_B rfl) ?_
  refine .m rfl rfl rfl (.load on_2_A rfl (by assumption)) ?_
  refine .m rfl rfl rfl (.cmp rfl rfl rfl) (.nil ?_)
  refine hK32 _ _ ?_
  refine .cond rfl (fun h157 => ?_) (fun h157 => ?_)
  ·
   simp only [sps] at h157
   refine .skip ?_
   refine hK31 _ _ ?_
   refine .seq (fun K33 hK33 => ?_)
   refine .block ?_
   refine .seq (fun K34 hK34 => ?_)
   refine .region (.m rfl rfl rfl (.move rfl) (.m rfl rfl rfl (.nilCheck rfl) (.m rfl rfl rfl (.fieldAddr fo_27_4_B rfl) ?_)))
   refine .m rfl rfl rfl (.load on_23_B rfl (by assumption)) ?_
   refine .m rfl rfl rfl (.len sl_23_B rfl) (.m rfl rfl rfl (.move rfl) (.nil ?_))
   refine hK34 _ _ ?_
   refine .block ?_
   refine .loopR (σ := Nat) [(0, some _), (3, some _), (4, some _), (12, some _), (163, some _), (164, some _)] (fun a => [(165, some (.int .i64 (a : Int)))]) (fun a H' => St [] HL5 H' ∧ (a : Int) ≤ m.t.comp.length ∧ ∀ a', a' < a → ∀ b : Nat, b < (m.t.comp.getD a' []).length → 0 ≤ (m.t.comp.getD a' []).getD b 0 → (m.bh.getD ((m.t.comp.getD a' []).getD b 0).toNat []).getD x [] = thenL ((m.bh.getD a' []).getD x []) ((m.bh.getD b []).getD x [])) (fun a => (m.t.comp.length - a : Int).toNat) (0) ⟨rfl, rfl, rfl, rfl, rfl, rfl, trivial⟩ ⟨rfl, trivial⟩ ?_ ?_
   ·
    refine ⟨.refl _ _, ?_⟩
    exact ⟨by omega, fun _ _ => by omega⟩
   rintro a HL6 ⟨lst6, hI⟩ KL6 hKL6
   refine .forget (fr' := [(165, some (.int .i64 (a : Int))), (0, some _), (3, some _), (4, some _), (12, some _), (163, some _), (164, some _)]) ⟨rfl, rfl, rfl, rfl, rfl, rfl, rfl, trivial⟩ ?_
   have nx_HL6 := lst6.nx
   replace hle := hle.st lst6 (fun k hk => trivial)
   replace lst1 := lst1.st lst6 (fun k hk ho => by simp only [out, and_true] at ho ⊢ <;> first | exact ho | exact ho.1 | exact ho.2 | exact ho.2.1 | exact ho.2.2 | exact ho.2.2.1 | exact ho.2.2.2 | omega)
   replace lst5 := lst5.st lst6 (fun k hk ho => by simp only [out, and_true] at ho ⊢ <;> first | exact ho | exact ho.1 | exact ho.2 | exact ho.2.1 | exact ho.2.2 | exact ho.2.2.1 | exact ho.2.2.2 | omega)
   replace h := base_h.mono hle
   clear fs ft c10 c11 c12 i2 i3 i4 hm hi hms his hmt hit c0 c1 c2 c3 c4 d1 d2 d3 d4 x0 x1 x2 x3 x4 y1 y2 y3 y4
   obtain ⟨fs, ft, c10, c11, c12, i2, i3, i4⟩ := h.get
   have hm : MemN _ _ _ _ _ := ⟨rfl, h.1⟩
   have hi := h.2
   have hms : MemN _ _ _ _ _ := ⟨rfl, fs.1⟩
   have his := fs.2
   have hmt : MemN _ _ _ _ _ := ⟨rfl, ft.1⟩
   have hit := ft.2
   obtain ⟨c0, c1, c2, c3, c4, d1, d2, d3, d4⟩ := fs.get
   obtain ⟨x0, x1, x2, x3, x4, y1, y2, y3, y4⟩ := ft.get
   obtain ⟨hk6, ha6⟩ := hI
   refine .seq (fun K35 hK35 => ?_)
   refine .region (.m rfl rfl rfl (.cmp rfl rfl rfl) (.nil ?_))
   refine hK35 _ _ ?_
   refine .seq (fun K36 hK36 => ?_)
   refine .cond rfl (fun h166 => ?_) (fun h166 => ?_)
   ·
    simp only [sps] at h166
    have r1 := hD.row a (by omega)
    have r4 := hS.hx (b := a) (x := x) (by omega) (by omega)
    have r2 := y4.2 a (by omega)
    have r3 := i4.2 a (by omega)
    have r5 := r3.2 x (by omega)
    refine .skip ?_
    refine hK36 _ _ ?_
    refine .seq (fun K37 hK37 => ?_)
    refine .block ?_
    refine .seq (fun K38 hK38 => ?_)
    refine .region (.m rfl rfl rfl (.move rfl) ?_)
    refine .m rfl rfl rfl (.idxN sl_23_B (Intss.sl (by assumption)) rfl rfl (by omega)) ?_
    refine .m rfl rfl rfl (.loadR on_22_B (by assumption) rfl (by omega)) ?_
    refine .m rfl rfl rfl (.assign rfl) (.m rfl rfl rfl (.assign rfl) (.nil ?_))
    refine hK38 _ _ ?_
    refine .seq (fun K39 hK39 => ?_)
    refine .region (.m rfl rfl rfl (.move rfl) (.m rfl rfl rfl (.len sl_22_A rfl) (.m rfl rfl rfl (.move rfl) ?_)))
    refine .nil ?_
    refine hK39 _ _ ?_
    refine .block ?_
    refine .loopR (σ := Nat) [(0, some _), (3, some _), (4, some _), (12, some _), (13, some _), (163, some _), (164, some _), (165, some _), (170, some _), (171, some _)] (fun b => [(172, some (.int .i64 (b : Int)))]) (fun b H' => St [] HL6 H' ∧ (b : Int) ≤ (m.t.comp.getD a []).length ∧ ∀ b', b' < b → 0 ≤ (m.t.comp.getD a []).getD b' 0 → (m.bh.getD ((m.t.comp.getD a []).getD b' 0).toNat []).getD x [] = thenL ((m.bh.getD a []).getD x []) ((m.bh.getD b' []).getD x [])) (fun b => ((m.t.comp.getD a []).length - b : Int).toNat) (0) ⟨rfl, rfl, rfl, rfl, rfl, rfl, rfl, rfl, rfl, rfl, trivial⟩ ⟨rfl, trivial⟩ ?_ ?_
    ·
     refine ⟨.refl _ _, ?_⟩
     exact ⟨by omega, fun _ _ => by omega⟩
    rintro b HL7 ⟨lst7, hI⟩ KL7 hKL7
    refine .forget (fr' := [(172, some (.int .i64 (b : Int))), (0, some _), (3, some _), (4, some _), (12, some _), (13, some _), (163, some _), (164, some _), (165, some _), (170, some _), (171, some _)]) ⟨rfl, rfl, rfl, rfl, rfl, rfl, rfl, rfl, rfl, rfl, rfl, trivial⟩ ?_
    have nx_HL7 := lst7.nx
    replace hle := hle.st lst7 (fun k hk => trivial)
    replace lst1 := lst1.st lst7 (fun k hk ho => by simp only [out, and_true] at ho ⊢ <;> first | exact ho | exact ho.1 | exact ho.2 | exact ho.2.1 | exact ho.2.2 | exact ho.2.2.1 | exact ho.2.2.2 | omega)
    replace lst5 := lst5.st lst7 (fun k hk ho => by simp only [out, and_true] at ho ⊢ <;> first | exact ho | exact ho.1 | exact ho.2 | exact ho.2.1 | exact ho.2.2 | exact ho.2.2.1 | exact ho.2.2.2 | omega)
    replace lst6 := lst6.st lst7 (fun k hk ho => by simp only [out, and_true] at ho ⊢ <;> first | exact ho | exact ho.1 | exact ho.2 | exact ho.2.1 | exact ho.2.2 | exact ho.2.2.1 | exact ho.2.2.2 | omega)
    replace h := base_h.mono hle
    clear fs ft c10 c11 c12 i2 i3 i4 hm hi hms his hmt hit c0 c1 c2 c3 c4 d1 d2 d3 d4 x0 x1 x2 x3 x4 y1 y2 y3 y4
    obtain ⟨fs, ft, c10, c11, c12, i2, i3, i4⟩ := h.get
    have hm : MemN _ _ _ _ _ := ⟨rfl, h.1⟩
    have hi := h.2
    have hms : MemN _ _ _ _ _ := ⟨rfl, fs.1⟩
    have his := fs.2
    have hmt : MemN _ _ _ _ _ := ⟨rfl, ft.1⟩
    have hit := ft.2
    obtain ⟨c0, c1, c2, c3, c4, d1, d2, d3, d4⟩ := fs.get
    obtain ⟨x0, x1, x2, x3, x4, y1, y2, y3, y4⟩ := ft.get
    clear r2 r3 r5
    have r2 := y4.2 a (by omega)
    have r3 := i4.2 a (by omega)
    have r5 := r3.2 x (by omega)
    obtain ⟨hk7, ha7⟩ := hI
    refine .seq (fun K40 hK40 => ?_)
    refine .region (.m rfl rfl rfl (.cmp rfl rfl rfl) (.nil ?_))
    refine hK40 _ _ ?_
    refine .seq (fun K41 hK41 => ?_)
    refine .cond rfl (fun h173 => ?_) (fun h173 => ?_)
    ·
     simp only [sps] at h173
     have t4 := hS.hx (b := b) (x := x) (by omega) (by omega)
     have t3 := i4.2 b (by omega)
     have t5 := t3.2 x (by omega)
     refine .skip ?_
     refine hK41 _ _ ?_
     refine .seq (fun K42 hK42 => ?_)
     refine .block ?_
     refine .seq (fun K43 hK43 => ?_)
     refine .region (.m rfl rfl rfl (.move rfl) ?_)
     refine .m rfl rfl rfl (.idxN sl_22_A (by assumption) rfl rfl (by omega)) ?_
     refine .m rfl rfl rfl (.loadI on_2_A (by assumption) rfl (by omega)) ?_
     refine .m rfl rfl rfl (.assign rfl) (.m rfl rfl rfl (.assign rfl) (.nil ?_))
     refine hK43 _ _ ?_
     refine .seq (fun K44 hK44 => ?_)
     refine .regionD mixed_orders_B (.q 0 (.q 1 (.q 2 (.q 3 (.q 4 (.q 5 (.q 6 (.q 7 (.q 8 (.q 9 (.q 10 (.q 11 (.q 12 (.q 13 (.q 14 (.q 15 (.q 16 (.q 17 (.q 18 (.q 19 (.q 20 (.q 21 (.q 22 (.q 23 (.q 24 (.q 25 (.q 26 (.q 27 (.q 28 (.q 29 (.q 30 (.q 31 (.q 32 (.c 33 1 (.c 34 0 (.q 35 (.q 36 (.done)))))))))))))))))))))))))))))))))))))) (by kernel_rfl) ?_
     refine .m rfl rfl rfl rfl (.refl _) (.move rfl) (.m rfl rfl rfl rfl (.refl _) (.cmp rfl rfl rfl) (.m rfl rfl rfl rfl (.refl _) (.move rfl) ?_))
     refine .split (fun h179 => ?_) (fun h179 => ?_)
     ·
      simp only [sps] at h179
      have u1 := hD.comp (a := a) (b := b) (by omega) (by omega) h179
      have u4 := hS.hx (b := ((m.t.comp.getD a []).getD b 0).toNat) (x := x) (by omega) (by omega)
      have u6 : ∀ i, i < ((m.bh.getD a []).getD x []).length → 0 ≤ ((m.bh.getD a []).getD x []).getD i 0 ∧ ((m.bh.getD a []).getD x []).getD i 0 < ((m.bh.getD b []).getD x []).length := fun i hi => by
        have := r4.2.2.2.2.2.1 i hi
        rw [u1.1, ← t4.2.2.2.2.1] at this
        exact this
      have u3 := i4.2 ((m.t.comp.getD a []).getD b 0).toNat (by omega)
      have u5 := u3.2 x (by omega)
      refine .mg rfl rfl rfl rfl rfl rfl (.refl _) (.move rfl) (.mg rfl rfl rfl rfl rfl rfl (.refl _) (.nilCheck rfl) (.mg rfl rfl rfl rfl rfl rfl (.refl _) (.fieldAddr fo_40_4_VProf rfl) ?_))
      refine .mg rfl rfl rfl rfl rfl rfl (.refl _) (.load on_34_VProf rfl (by assumption)) ?_
      refine .mg rfl rfl rfl rfl rfl rfl (.refl _) (.move rfl) ?_
      refine .mg rfl rfl rfl rfl rfl rfl (.refl _) (.idx1 sl_34_VZ (Intsss.sl (by assumption)) rfl rfl (by omega) (by omega)) ?_
      refine .mg rfl rfl rfl rfl rfl rfl (.refl _) (.loadRR on_23_B (by assumption) rfl (by omega)) ?_
      refine .mg rfl rfl rfl rfl rfl rfl (.refl _) (.move rfl) ?_
      refine .mg rfl rfl rfl rfl rfl rfl (.refl _) (.idxN sl_23_B (Intss.sl (by assumption)) rfl rfl (by omega)) ?_
      refine .mg rfl rfl rfl rfl rfl rfl (.refl _) (.loadR on_22_B (by assumption) rfl (by omega)) ?_
      refine .mg rfl rfl rfl rfl rfl rfl (.refl _) (.move rfl) (.mg rfl rfl rfl rfl rfl rfl (.refl _) (.nilCheck rfl) (.mg rfl rfl rfl rfl rfl rfl (.refl _) (.fieldAddr fo_40_4_VProf rfl) ?_))
      refine .mg rfl rfl rfl rfl rfl rfl (.refl _) (.load on_34_VProf rfl (by assumption)) ?_
      refine .mg rfl rfl rfl rfl rfl rfl (.refl _) (.move rfl) ?_
      refine .mg rfl rfl rfl rfl rfl rfl (.refl _) (.idxN sl_34_VZ (Intsss.sl (by assumption)) rfl rfl (by omega)) ?_
      refine .mg rfl rfl rfl rfl rfl rfl (.refl _) (.loadRR on_23_B (by assumption) rfl (by omega)) ?_
      refine .mg rfl rfl rfl rfl rfl rfl (.refl _) (.move rfl) ?_
      refine .mg rfl rfl rfl rfl rfl rfl (.refl _) (.idxN sl_23_B (Intss.sl (by assumption)) rfl rfl (by omega)) ?_
      refine .mg rfl rfl rfl rfl rfl rfl (.refl _) (.loadR on_22_B (by assumption) rfl (by omega)) ?_
      refine .mg rfl rfl rfl rfl rfl rfl (.refl _) (.move rfl) (.mg rfl rfl rfl rfl rfl rfl (.refl _) (.nilCheck rfl) (.mg rfl rfl rfl rfl rfl rfl (.refl _) (.fieldAddr fo_40_4_VProf rfl) ?_))
      refine .mg rfl rfl rfl rfl rfl rfl (.refl _) (.load on_34_VProf rfl (by assumption)) ?_
      refine .mg rfl rfl rfl rfl rfl rfl (.refl _) (.move rfl) ?_
      refine .mg rfl rfl rfl rfl rfl rfl (.refl _) (.idxN sl_34_VZ (Intsss.sl (by assumption)) rfl rfl (by omega)) ?_
      refine .mg rfl rfl rfl rfl rfl rfl (.refl _) (.loadRR on_23_B (by assumption) rfl (by omega)) ?_
      refine .mg rfl rfl rfl rfl rfl rfl (.refl _) (.move rfl) ?_
      refine .mg rfl rfl rfl rfl rfl rfl (.refl _) (.idxN sl_23_B (Intss.sl (by assumption)) rfl rfl (by omega)) ?_
      refine .mg rfl rfl rfl rfl rfl rfl (.refl _) (.loadR on_22_B (by assumption) rfl (by omega)) ?_
      refine .call1g rfl rfl rfl rfl rfl rfl rfl @Try.call115 rfl (implThen_c) ?_
      rintro _ H210 ⟨le210, g210, rfl, at210, ge210⟩
      have hbl := le210
      refine ⟨hbl, ?_⟩
      have nx_H210 := le210.1
      replace hle := hle.trans le210
      replace lst1 := lst1.le le210
      replace lst5 := lst5.le le210
      replace lst6 := lst6.le le210
      replace lst7 := lst7.le le210
      have lt_at210 := GHeap.lt_of_get at210
      replace h := base_h.mono hle
      clear fs ft c10 c11 c12 i2 i3 i4 hm hi hms his hmt hit c0 c1 c2 c3 c4 d1 d2 d3 d4 x0 x1 x2 x3 x4 y1 y2 y3 y4
      obtain ⟨fs, ft, c10, c11, c12, i2, i3, i4⟩ := h.get
      have hm : MemN _ _ _ _ _ := ⟨rfl, h.1⟩
      have hi := h.2
      have hms : MemN _ _ _ _ _ := ⟨rfl, fs.1⟩
      have his := fs.2
      have hmt : MemN _ _ _ _ _ := ⟨rfl, ft.1⟩
      have hit := ft.2
      obtain ⟨c0, c1, c2, c3, c4, d1, d2, d3, d4⟩ := fs.get
      obtain ⟨x0, x1, x2, x3, x4, y1, y2, y3, y4⟩ := ft.get
      clear r2 r3 r5
      have r2 := y4.2 a (by omega)
      have r3 := i4.2 a (by omega)
      have r5 := r3.2 x (by omega)
      clear t3 t5
      have t3 := i4.2 b (by omega)
      have t5 := t3.2 x (by omega)
      clear u3 u5
      have u3 := i4.2 ((m.t.comp.getD a []).getD b 0).toNat (by omega)
      have u5 := u3.2 x (by omega)
      have i210 := Ints.of_get at210
      refine .callQ0g rfl rfl rfl rfl rfl rfl rfl @Try.call116 rfl (same_c (hy := by rw [length_thenL]; omega)) ?_
      refine .mg rfl rfl rfl rfl rfl rfl (.refl _) (.not rfl) (.m rfl rfl rfl rfl (.refl _) (.pickT rfl rfl) ?_)
      refine .done ?_
      refine hK44 _ _ ?_
      refine .cond rfl (fun h213 => ?_) (fun h213 => ?_)
      ·
       try simp only [sps] at h213
       refine .seq (fun K45 hK45 => ?_)
       refine .region (.m rfl rfl rfl (.assign rfl) (.nil ?_))
       refine hK45 _ _ ?_
       refine .ret ?_
       refine hret _ _ ?_
       refine ⟨_, rfl, ?_⟩
       first
       | exact ⟨congrArg _ (B_true ⟨fun y hy x hx => (ha1 y (by omega)).1 x (by omega), fun y hy a ha b hb => (ha1 y (by omega)).2 a (by omega) b (by have := hC.row a (by omega); omega), fun x hx a ha b hb => ha5 x (by omega) a (by omega) b (by have := hD.row a (by omega); omega)⟩), hle⟩
       | exact ⟨congrArg _ (B_false fun hh => h94 (hh.idb y (by omega) x (by omega)).2), hle⟩
       | exact ⟨congrArg _ (B_false fun hh => h64 (hh.idb y (by omega) x (by omega)).1), hle⟩
       | exact ⟨congrArg _ (B_false fun hh => h149 (hh.thb y (by omega) a (by omega) b (by omega) h115)), hle⟩
       | exact ⟨congrArg _ (B_false fun hh => h213 (hh.thh x (by omega) a (by omega) b (by omega) h179)), hle⟩
      try simp only [sps] at h213
      refine .skip ?_
      refine hK42 _ _ ?_
      refine .region ?_
      refine .m rfl rfl rfl (.add rfl rfl rfl (by omega) (by omega)) ?_
      refine .m rfl rfl rfl (.move rfl) (.nil ?_)
      refine hKL7 (b + 1) _ _ ?_ ?_ ⟨rfl, rfl, rfl, rfl, rfl, rfl, rfl, rfl, rfl, rfl, rfl, trivial⟩
      ·
       refine ⟨lst7, ?_⟩
       refine ⟨by omega, fun b' hx => ?_⟩
       by_cases hltq : b' < b
       · exact ha7 b' hltq
       · obtain rfl : b' = b := by omega
         first | exact fun _ => h213 | exact fun hp => absurd hp (by omega)
      omega
     try simp only [sps] at h179
     refine .sg rfl rfl rfl rfl rfl rfl (.sg rfl rfl rfl rfl rfl rfl (.sg rfl rfl rfl rfl rfl rfl (.sg rfl rfl rfl rfl rfl rfl ?_)))
     refine .sg rfl rfl rfl rfl rfl rfl (.sg rfl rfl rfl rfl rfl rfl (.sg rfl rfl rfl rfl rfl rfl (.sg rfl rfl rfl rfl rfl rfl ?_)))
     refine .sg rfl rfl rfl rfl rfl rfl (.sg rfl rfl rfl rfl rfl rfl (.sg rfl rfl rfl rfl rfl rfl (.sg rfl rfl rfl rfl rfl rfl ?_)))
     refine .sg rfl rfl rfl rfl rfl rfl (.sg rfl rfl rfl rfl rfl rfl (.sg rfl rfl rfl rfl rfl rfl (.sg rfl rfl rfl rfl rfl rfl ?_)))
     refine .sg rfl rfl rfl rfl rfl rfl (.sg rfl rfl rfl rfl rfl rfl (.sg rfl rfl rfl rfl rfl rfl (.sg rfl rfl rfl rfl rfl rfl ?_)))
     refine .sg rfl rfl rfl rfl rfl rfl (.sg rfl rfl rfl rfl rfl rfl (.sg rfl rfl rfl rfl rfl rfl (.sg rfl rfl rfl rfl rfl rfl ?_)))
     refine .sg rfl rfl rfl rfl rfl rfl (.sg rfl rfl rfl rfl rfl rfl (.sg rfl rfl rfl rfl rfl rfl (.sg rfl rfl rfl rfl rfl rfl ?_)))
     refine .sg rfl rfl rfl rfl rfl rfl (.sg rfl rfl rfl rfl rfl rfl (.sgc rfl rfl rfl rfl rfl rfl (.sgc rfl rfl rfl rfl rfl rfl ?_)))
     refine .sg rfl rfl rfl rfl rfl rfl (.m rfl rfl rfl rfl (.refl _) (.pickF rfl rfl) ?_)
     refine .done ?_
     refine hK44 _ _ ?_
     refine .condF rfl ?_
     refine .skip ?_
     refine hK42 _ _ ?_
     refine .region ?_
     refine .m rfl rfl rfl (.add rfl rfl rfl (by omega) (by omega)) ?_
     refine .m rfl rfl rfl (.move rfl) (.nil ?_)
     refine hKL7 (b + 1) _ _ ?_ ?_ ⟨rfl, rfl, rfl, rfl, rfl, rfl, rfl, rfl, rfl, rfl, rfl, trivial⟩
     ·
      refine ⟨lst7, ?_⟩
      refine ⟨by omega, fun b' hx => ?_⟩
      by_cases hltq : b' < b
      · exact ha7 b' hltq
      · obtain rfl : b' = b := by omega
        first | exact fun _ => h213 | exact fun hp => absurd hp (by omega)
     omega
    try simp only [sps] at h173
    refine .exit ?_
    refine hK37 _ _ ?_
    refine .region ?_
    refine .m rfl rfl rfl (.add rfl rfl rfl (by omega) (by omega)) ?_
    refine .m rfl rfl rfl (.move rfl) (.nil ?_)
    refine hKL6 (a + 1) _ _ ?_ ?_ ⟨rfl, rfl, rfl, rfl, rfl, rfl, rfl, trivial⟩
    ·
     refine ⟨lst6, ?_⟩
     refine ⟨by omega, fun a' hx => ?_⟩
     by_cases hltq : a' < a
     · exact ha6 a' hltq
     · obtain rfl : a' = a := by omega
       exact fun b hb => ha7 b (by omega)
    omega
   try simp only [sps] at h166
   refine .exit ?_
   refine hK33 _ _ ?_
   refine .region (.m rfl rfl rfl (.move rfl) ?_)
   refine .m rfl rfl rfl (.add rfl rfl rfl (by omega) (by omega)) ?_
   refine .m rfl rfl rfl (.assign rfl) (.nil ?_)
   refine hKL5 (x + 1) _ _ ?_ ?_ ⟨rfl, rfl, rfl, rfl, trivial⟩
   ·
    refine ⟨lst5, ?_⟩
    refine ⟨by omega, fun x' hx => ?_⟩
    by_cases hltq : x' < x
    · exact ha5 x' hltq
    · obtain rfl : x' = x := by omega
      exact fun a ha => ha6 a (by omega)
   omega
  try simp only [sps] at h157
  refine .exit ?_
  refine hK29 _ _ ?_
  refine .seq (fun K46 hK46 => ?_)
  refine .region (.m rfl rfl rfl (.assign rfl) (.nil ?_))
  refine hK46 _ _ ?_
  refine .ret ?_
  refine hret _ _ ?_
  refine ⟨_, rfl, ?_⟩
  first
  | exact ⟨congrArg _ (B_true ⟨fun y hy x hx => (ha1 y (by omega)).1 x (by omega), fun y hy a ha b hb => (ha1 y (by omega)).2 a (by omega) b (by have := hC.row a (by omega); omega), fun x hx a ha b hb => ha5 x (by omega) a (by omega) b (by have := hD.row a (by omega); omega)⟩), hle⟩
  | exact ⟨congrArg _ (B_false fun hh => h94 (hh.idb y (by omega) x (by omega)).2), hle⟩
  | exact ⟨congrArg _ (B_false fun hh => h64 (hh.idb y (by omega) x (by omega)).1), hle⟩
  | exact ⟨congrArg _ (B_false fun hh => h149 (hh.thb y (by omega) a (by omega) b (by omega) h115)), hle⟩
  | exact ⟨congrArg _ (B_false fun hh => h213 (hh.thh x (by omega) a (by omega) b (by omega) h179)), hle⟩
set_option maxHeartbeats 4000000 in
theorem isProfunctor_c {g o : Nat} {m : Prof} {p : ProfP} {H : GHeap} (h : Prof.At H g o m p := by assumption) (hs : m.Small := by assumption) : GCalls Try.prog 57 [.pointer (some ⟨g, o, none⟩)] H (Ret (.bool (B m.Is)) H) := by
  refine GCalls.ret rfl ?_
  refine GCalls.body (N := 111) (rs := [.tmp 2]) Try.func57 rfl rfl rfl rfl (fun Qx hret hend => ?_)
  refine .forget (fr' := [(0, some _)]) ⟨rfl, trivial⟩ ?_
  have hle := GHeap.Le.refl H
  have base_h := h
  obtain ⟨fs, ft, c10, c11, c12, i2, i3, i4⟩ := h.get
  have hm : MemN _ _ _ _ _ := ⟨rfl, h.1⟩
  have hi := h.2
  have hms : MemN _ _ _ _ _ := ⟨rfl, fs.1⟩
  have his := fs.2
  have hmt : MemN _ _ _ _ _ := ⟨rfl, ft.1⟩
  have hit := ft.2
  obtain ⟨c0, c1, c2, c3, c4, d1, d2, d3, d4⟩ := fs.get
  obtain ⟨x0, x1, x2, x3, x4, y1, y2, y3, y4⟩ := ft.get
  refine .seq (fun K1 hK1 => ?_)
  refine .region (.m rfl rfl rfl (.assign rfl) (.nil ?_))
  refine hK1 _ _ ?_
  refine .seq (fun K2 hK2 => ?_)
  refine .seq (fun K3 hK3 => ?_)
  refine .region (.m rfl rfl rfl (.move rfl) ?_)
  refine .callQ rfl rfl rfl rfl @Try.call113 rfl (pfShape_c) ?_
  refine .m rfl rfl rfl (.not rfl) (.m rfl rfl rfl (.move rfl) ?_)
  refine .split (fun h12 => ?_) (fun h12 => ?_)
  ·
   try simp only [sps] at h12
   refine .sg rfl rfl rfl rfl rfl (.sg rfl rfl rfl rfl rfl (.sg rfl rfl rfl rfl rfl (.m rfl rfl rfl (.pickT rfl rfl) ?_)))
   refine .nil ?_
   refine hK3 _ _ ?_
   refine .condT rfl ?_
   refine .seq (fun K4 hK4 => ?_)
   refine .region (.m rfl rfl rfl (.assign rfl) (.nil ?_))
   refine hK4 _ _ ?_
   refine .ret ?_
   refine hret _ _ ?_
   refine ⟨_, rfl, ?_⟩
   first
   | exact ⟨congrArg _ (B_false fun hh => h12 hh.1), hle⟩
   | exact ⟨congrArg _ (B_true ⟨hS, h16, fun a ha b hb => ha1 a (by omega) b (by omega)⟩), hle⟩
   | exact ⟨congrArg _ (B_false fun hh => h16 hh.2.1), hle⟩
   | exact ⟨congrArg _ (B_false fun hh => h108 (hh.2.2 a (by omega) b (by omega))), hle⟩
   | exact ⟨congrArg _ (B_false fun hh => h16 hh.2.1), hle⟩
  simp only [sps] at h12
  have hS := h12
  refine .mg rfl rfl rfl rfl rfl (.move rfl) ?_
  refine .callQg rfl rfl rfl rfl rfl rfl @Try.call114 rfl (pfActs_c) ?_
  refine .mg rfl rfl rfl rfl rfl (.not rfl) (.m rfl rfl rfl (.pickF rfl rfl) (.nil ?_))
  refine hK3 _ _ ?_
  refine .cond rfl (fun h16 => ?_) (fun h16 => ?_)
  ·
   try simp only [sps] at h16
   refine .seq (fun K5 hK5 => ?_)
   refine .region (.m rfl rfl rfl (.assign rfl) (.nil ?_))
   refine hK5 _ _ ?_
   refine .ret ?_
   refine hret _ _ ?_
   refine ⟨_, rfl, ?_⟩
   first
   | exact ⟨congrArg _ (B_false fun hh => h12 hh.1), hle⟩
   | exact ⟨congrArg _ (B_true ⟨hS, h16, fun a ha b hb => ha1 a (by omega) b (by omega)⟩), hle⟩
   | exact ⟨congrArg _ (B_false fun hh => h16 hh.2.1), hle⟩
   | exact ⟨congrArg _ (B_false fun hh => h108 (hh.2.2 a (by omega) b (by omega))), hle⟩
   | exact ⟨congrArg _ (B_false fun hh => h16 hh.2.1), hle⟩
  try simp only [sps] at h16
  refine .skip ?_
  refine hK2 _ _ ?_
  refine .seq (fun K6 hK6 => ?_)
  refine .regionD mixed_orders_B (.q 0 (.q 1 (.q 2 (.q 3 (.q 4 (.q 5 (.q 6 (.q 7 (.done))))))))) (by kernel_rfl) ?_
  refine .m rfl rfl rfl rfl (.refl _) (.move rfl) (.m rfl rfl rfl rfl (.refl _) (.nilCheck rfl) (.m rfl rfl rfl rfl (.refl _) (.fieldAddr fo_40_0_VProf rfl) (.m rfl rfl rfl rfl (.refl _) (.move rfl) ?_)))
  refine .m rfl rfl rfl rfl (.refl _) (.nilCheck rfl) (.m rfl rfl rfl rfl (.refl _) (.fieldAddr fo_40_1_VProf rfl) (.m rfl rfl rfl rfl (.refl _) (.assign rfl) (.m rfl rfl rfl rfl (.refl _) (.assign rfl) ?_)))
  refine .done ?_
  refine hK6 _ _ ?_
  refine .seq (fun K7 hK7 => ?_)
  refine .seq (fun K8 hK8 => ?_)
  refine .region (.m rfl rfl rfl (.move rfl) (.m rfl rfl rfl (.nilCheck rfl) (.m rfl rfl rfl (.fieldAddr fo_40_3_VProf rfl) ?_)))
  refine .m rfl rfl rfl (.load on_34_VProf rfl (by assumption)) ?_
  refine .m rfl rfl rfl (.len sl_34_VZ rfl) (.m rfl rfl rfl (.move rfl) (.nil ?_))
  refine hK8 _ _ ?_
  refine .block ?_
  have hC := hS.s.1
  have hD := hS.t.1
  have q5 := hS.z.sl
  have q6 := hS.z.bl
  have q7 := hS.z.hl
  have q10 := hC.n40
  have q11 := hD.n40
  have q12 := hC.tl
  have q13 := hD.tl
  refine .loopR (σ := Nat) [(0, some _), (3, some _), (4, some _), (27, some _)] (fun a => [(28, some (.int .i64 (a : Int)))]) (fun a H' => St [] H H' ∧ (a : Int) ≤ m.be.length ∧ ∀ a', a' < a → ∀ b, b < m.bh.length → m.MixAt a' b) (fun a => (m.be.length - a : Int).toNat) (0) ⟨rfl, rfl, rfl, rfl, trivial⟩ ⟨rfl, trivial⟩ ?_ ?_
  ·
   refine ⟨.refl _ _, ?_⟩
   exact ⟨by omega, fun _ _ => by omega⟩
  rintro a HL1 ⟨lst1, hI⟩ KL1 hKL1
  refine .forget (fr' := [(28, some (.int .i64 (a : Int))), (0, some _), (3, some _), (4, some _), (27, some _)]) ⟨rfl, rfl, rfl, rfl, rfl, trivial⟩ ?_
  have nx_HL1 := lst1.nx
  replace hle := hle.st lst1 (fun k hk => trivial)
  replace h := base_h.mono hle
  clear fs ft c10 c11 c12 i2 i3 i4 hm hi hms his hmt hit c0 c1 c2 c3 c4 d1 d2 d3 d4 x0 x1 x2 x3 x4 y1 y2 y3 y4
  obtain ⟨fs, ft, c10, c11, c12, i2, i3, i4⟩ := h.get
  have hm : MemN _ _ _ _ _ := ⟨rfl, h.1⟩
  have hi := h.2
  have hms : MemN _ _ _ _ _ := ⟨rfl, fs.1⟩
  have his := fs.2
  have hmt : MemN _ _ _ _ _ := ⟨rfl, ft.1⟩
  have hit := ft.2
  obtain ⟨c0, c1, c2, c3, c4, d1, d2, d3, d4⟩ := fs.get
  obtain ⟨x0, x1, x2, x3, x4, y1, y2, y3, y4⟩ := ft.get
  obtain ⟨hk1, ha1⟩ := hI
  refine .seq (fun K9 hK9 => ?_)
  refine .region (.m rfl rfl rfl (.cmp rfl rfl rfl) (.nil ?_))
  refine hK9 _ _ ?_
  refine .seq (fun K10 hK10 => ?_)
  refine .cond rfl (fun h29 => ?_) (fun h29 => ?_)
  ·
   simp only [sps] at h29
   have r2 := hS.z.b hS.s (a := a) (by omega)
   have r1 := i3.2 a (by omega)
   refine .skip ?_
   refine hK10 _ _ ?_
   refine .seq (fun K11 hK11 => ?_)
   refine .block ?_
   refine .seq (fun K12 hK12 => ?_)
   refine .region (.m rfl rfl rfl (.move rfl) (.m rfl rfl rfl (.assign rfl) (.nil ?_)))
   refine hK12 _ _ ?_
   refine .seq (fun K13 hK13 => ?_)
   refine .region (.m rfl rfl rfl (.move rfl) (.m rfl rfl rfl (.nilCheck rfl) (.m rfl rfl rfl (.fieldAddr fo_40_4_VProf rfl) ?_)))
   refine .m rfl rfl rfl (.load on_34_VProf rfl (by assumption)) ?_
   refine .m rfl rfl rfl (.len sl_34_VZ rfl) (.m rfl rfl rfl (.move rfl) (.nil ?_))
   refine hK13 _ _ ?_
   refine .block ?_
   refine .loopR (σ := Nat) [(0, some _), (3, some _), (4, some _), (5, some _), (27, some _), (28, some _), (35, some _)] (fun b => [(36, some (.int .i64 (b : Int)))]) (fun b H' => St [] HL1 H' ∧ (b : Int) ≤ m.bh.length ∧ ∀ b', b' < b → m.MixAt a b') (fun b => (m.bh.length - b : Int).toNat) (0) ⟨rfl, rfl, rfl, rfl, rfl, rfl, rfl, trivial⟩ ⟨rfl, trivial⟩ ?_ ?_
   ·
    refine ⟨.refl _ _, ?_⟩
    exact ⟨by omega, fun _ _ => by omega⟩
   rintro b HL2 ⟨lst2, hI⟩ KL2 hKL2
   refine .forget (fr' := [(36, some (.int .i64 (b : Int))), (0, some _), (3, some _), (4, some _), (5, some _), (27, some _), (28, some _), (35, some _)]) ⟨rfl, rfl, rfl, rfl, rfl, rfl, rfl, rfl, trivial⟩ ?_
   have nx_HL2 := lst2.nx
   replace hle := hle.st lst2 (fun k hk => trivial)
   replace lst1 := lst1.st lst2 (fun k hk ho => by simp only [out, and_true] at ho ⊢ <;> first | exact ho | exact ho.1 | exact ho.2 | exact ho.2.1 | exact ho.2.2 | exact ho.2.2.1 | exact ho.2.2.2 | omega)
   replace h := base_h.mono hle
   clear fs ft c10 c11 c12 i2 i3 i4 hm hi hms his hmt hit c0 c1 c2 c3 c4 d1 d2 d3 d4 x0 x1 x2 x3 x4 y1 y2 y3 y4
   obtain ⟨fs, ft, c10, c11, c12, i2, i3, i4⟩ := h.get
   have hm : MemN _ _ _ _ _ := ⟨rfl, h.1⟩
   have hi := h.2
   have hms : MemN _ _ _ _ _ := ⟨rfl, fs.1⟩
   have his := fs.2
   have hmt : MemN _ _ _ _ _ := ⟨rfl, ft.1⟩
   have hit := ft.2
   obtain ⟨c0, c1, c2, c3, c4, d1, d2, d3, d4⟩ := fs.get
   obtain ⟨x0, x1, x2, x3, x4, y1, y2, y3, y4⟩ := ft.get
   clear r1
   have r1 := i3.2 a (by omega)
   obtain ⟨hk2, ha2⟩ := hI
   refine .seq (fun K14 hK14 => ?_)
   refine .region (.m rfl rfl rfl (.cmp rfl rfl rfl) (.nil ?_))
   refine hK14 _ _ ?_
   refine .seq (fun K15 hK15 => ?_)
   refine .cond rfl (fun h37 => ?_) (fun h37 => ?_)
   ·
    simp only [sps] at h37
    have t2 := hS.z.h hS.t (b := b) (by omega)
    have v1 := hS.by (a := a) (y := (m.t.src.getD b 0).toNat) (by omega) (by omega)
    have v2 := hS.by (a := a) (y := (m.t.tgt.getD b 0).toNat) (by omega) (by omega)
    have v3 := hS.hx (b := b) (x := (m.s.src.getD a 0).toNat) (by omega) (by omega)
    have v4 := hS.hx (b := b) (x := (m.s.tgt.getD a 0).toNat) (by omega) (by omega)
    have u1 : ∀ i, i < ((m.be.getD a []).getD (m.t.src.getD b 0).toNat []).length → 0 ≤ ((m.be.getD a []).getD (m.t.src.getD b 0).toNat []).getD i 0 ∧ ((m.be.getD a []).getD (m.t.src.getD b 0).toNat []).getD i 0 < ((m.bh.getD b []).getD (m.s.src.getD a 0).toNat []).length := fun i hi => by
      have := v1.2.2.2.2.1 i hi
      rw [← v3.2.2.2.2.1] at this
      exact this
    have u2 : ∀ i, i < ((m.bh.getD b []).getD (m.s.tgt.getD a 0).toNat []).length → 0 ≤ ((m.bh.getD b []).getD (m.s.tgt.getD a 0).toNat []).getD i 0 ∧ ((m.bh.getD b []).getD (m.s.tgt.getD a 0).toNat []).getD i 0 < ((m.be.getD a []).getD (m.t.tgt.getD b 0).toNat []).length := fun i hi => by
      have := v4.2.2.2.2.2.1 i hi
      rw [← v2.2.2.2.1] at this
      exact this
    have t1 := i4.2 b (by omega)
    have w1 := r1.2 (m.t.src.getD b 0).toNat (by omega)
    have w2 := r1.2 (m.t.tgt.getD b 0).toNat (by omega)
    have w3 := t1.2 (m.s.src.getD a 0).toNat (by omega)
    have w4 := t1.2 (m.s.tgt.getD a 0).toNat (by omega)
    refine .skip ?_
    refine hK15 _ _ ?_
    refine .seq (fun K16 hK16 => ?_)
    refine .block ?_
    refine .seq (fun K17 hK17 => ?_)
    refine .region (.m rfl rfl rfl (.move rfl) (.m rfl rfl rfl (.assign rfl) (.nil ?_)))
    refine hK17 _ _ ?_
    refine .seq (fun K18 hK18 => ?_)
    refine .regionD mixed_orders_B (.q 0 (.q 1 (.q 2 (.q 3 (.q 4 (.q 5 (.q 6 (.q 7 (.q 8 (.q 9 (.q 10 (.q 11 (.q 12 (.q 13 (.q 14 (.q 15 (.q 16 (.q 17 (.q 18 (.q 19 (.q 20 (.q 21 (.q 22 (.q 23 (.q 24 (.q 25 (.q 26 (.q 27 (.q 28 (.q 29 (.q 30 (.q 31 (.c 32 0 (.q 33 (.done))))))))))))))))))))))))))))))))))) (by kernel_rfl) ?_
    refine .m rfl rfl rfl rfl (.refl _) (.move rfl) (.m rfl rfl rfl rfl (.refl _) (.nilCheck rfl) (.m rfl rfl rfl rfl (.refl _) (.fieldAddr fo_40_3_VProf rfl) ?_))
    refine .m rfl rfl rfl rfl (.refl _) (.load on_34_VProf rfl (by assumption)) ?_
    refine .m rfl rfl rfl rfl (.refl _) (.move rfl) ?_
    refine .m rfl rfl rfl rfl (.refl _) (.idxN sl_34_VZ (Intsss.sl (by assumption)) rfl rfl (by omega)) ?_
    refine .m rfl rfl rfl rfl (.refl _) (.loadRR on_23_B (by assumption) rfl (by omega)) ?_
    refine .m rfl rfl rfl rfl (.refl _) (.move rfl) (.m rfl rfl rfl rfl (.refl _) (.nilCheck rfl) (.m rfl rfl rfl rfl (.refl _) (.fieldAddr fo_27_1_B rfl) ?_))
    refine .m rfl rfl rfl rfl (.refl _) (.load on_22_B rfl (by assumption)) ?_
    refine .m rfl rfl rfl rfl (.refl _) (.move rfl) ?_
    refine .m rfl rfl rfl rfl (.refl _) (.idxN sl_22_A (by assumption) rfl rfl (by omega)) ?_
    refine .m rfl rfl rfl rfl (.refl _) (.loadI on_2_A (by assumption) rfl (by omega)) ?_
    refine .m rfl rfl rfl rfl (.refl _) (.idx1 sl_23_B (Intss.sl (by assumption)) rfl rfl (by omega) (by omega)) ?_
    refine .m rfl rfl rfl rfl (.refl _) (.loadR on_22_B (by assumption) rfl (by omega)) ?_
    refine .m rfl rfl rfl rfl (.refl _) (.move rfl) (.m rfl rfl rfl rfl (.refl _) (.nilCheck rfl) (.m rfl rfl rfl rfl (.refl _) (.fieldAddr fo_40_4_VProf rfl) ?_))
    refine .m rfl rfl rfl rfl (.refl _) (.load on_34_VProf rfl (by assumption)) ?_
    refine .m rfl rfl rfl rfl (.refl _) (.move rfl) ?_
    refine .m rfl rfl rfl rfl (.refl _) (.idxN sl_34_VZ (Intsss.sl (by assumption)) rfl rfl (by omega)) ?_
    refine .m rfl rfl rfl rfl (.refl _) (.loadRR on_23_B (by assumption) rfl (by omega)) ?_
    refine .m rfl rfl rfl rfl (.refl _) (.move rfl) (.m rfl rfl rfl rfl (.refl _) (.nilCheck rfl) (.m rfl rfl rfl rfl (.refl _) (.fieldAddr fo_27_1_B rfl) ?_))
    refine .m rfl rfl rfl rfl (.refl _) (.load on_22_B rfl (by assumption)) ?_
    refine .m rfl rfl rfl rfl (.refl _) (.move rfl) ?_
    refine .m rfl rfl rfl rfl (.refl _) (.idxN sl_22_A (by assumption) rfl rfl (by omega)) ?_
    refine .m rfl rfl rfl rfl (.refl _) (.loadI on_2_A (by assumption) rfl (by omega)) ?_
    refine .m rfl rfl rfl rfl (.refl _) (.idx1 sl_23_B (Intss.sl (by assumption)) rfl rfl (by omega) (by omega)) ?_
    refine .m rfl rfl rfl rfl (.refl _) (.loadR on_22_B (by assumption) rfl (by omega)) ?_
    refine .call0 rfl rfl rfl rfl rfl @Try.call115 rfl (implThen_c) ?_
    rintro _ H71 ⟨le71, g71, rfl, at71, ge71⟩
    have nx_H71 := le71.1
    replace hle := hle.trans le71
    replace lst1 := lst1.le le71
    replace lst2 := lst2.le le71
    have lt_at71 := GHeap.lt_of_get at71
    replace h := base_h.mono hle
    clear fs ft c10 c11 c12 i2 i3 i4 hm hi hms his hmt hit c0 c1 c2 c3 c4 d1 d2 d3 d4 x0 x1 x2 x3 x4 y1 y2 y3 y4
    obtain ⟨fs, ft, c10, c11, c12, i2, i3, i4⟩ := h.get
    have hm : MemN _ _ _ _ _ := ⟨rfl, h.1⟩
    have hi := h.2
    have hms : MemN _ _ _ _ _ := ⟨rfl, fs.1⟩
    have his := fs.2
    have hmt : MemN _ _ _ _ _ := ⟨rfl, ft.1⟩
    have hit := ft.2
    obtain ⟨c0, c1, c2, c3, c4, d1, d2, d3, d4⟩ := fs.get
    obtain ⟨x0, x1, x2, x3, x4, y1, y2, y3, y4⟩ := ft.get
    clear r1
    have r1 := i3.2 a (by omega)
    clear t1 w1 w2 w3 w4
    have t1 := i4.2 b (by omega)
    have w1 := r1.2 (m.t.src.getD b 0).toNat (by omega)
    have w2 := r1.2 (m.t.tgt.getD b 0).toNat (by omega)
    have w3 := t1.2 (m.s.src.getD a 0).toNat (by omega)
    have w4 := t1.2 (m.s.tgt.getD a 0).toNat (by omega)
    have i71 := Ints.of_get at71
    refine .m rfl rfl rfl rfl (.refl _) (.assign rfl) ?_
    refine .done ?_
    refine hK18 _ _ ?_
    refine .seq (fun K19 hK19 => ?_)
    refine .regionD mixed_orders_B (.q 0 (.q 1 (.q 2 (.q 3 (.q 4 (.q 5 (.q 6 (.q 7 (.q 8 (.q 9 (.q 10 (.q 11 (.q 12 (.q 13 (.q 14 (.q 15 (.q 16 (.q 17 (.q 18 (.q 19 (.q 20 (.q 21 (.q 22 (.q 23 (.q 24 (.q 25 (.q 26 (.q 27 (.q 28 (.q 29 (.q 30 (.q 31 (.c 32 0 (.q 33 (.done))))))))))))))))))))))))))))))))))) (by kernel_rfl) ?_
    refine .m rfl rfl rfl rfl (.refl _) (.move rfl) (.m rfl rfl rfl rfl (.refl _) (.nilCheck rfl) (.m rfl rfl rfl rfl (.refl _) (.fieldAddr fo_40_4_VProf rfl) ?_))
    refine .m rfl rfl rfl rfl (.refl _) (.load on_34_VProf rfl (by assumption)) ?_
    refine .m rfl rfl rfl rfl (.refl _) (.move rfl) ?_
    refine .m rfl rfl rfl rfl (.refl _) (.idxN sl_34_VZ (Intsss.sl (by assumption)) rfl rfl (by omega)) ?_
    refine .m rfl rfl rfl rfl (.refl _) (.loadRR on_23_B (by assumption) rfl (by omega)) ?_
    refine .m rfl rfl rfl rfl (.refl _) (.move rfl) (.m rfl rfl rfl rfl (.refl _) (.nilCheck rfl) (.m rfl rfl rfl rfl (.refl _) (.fieldAddr fo_27_2_B rfl) ?_))
    refine .m rfl rfl rfl rfl (.refl _) (.load on_22_B rfl (by assumption)) ?_
    refine .m rfl rfl rfl rfl (.refl _) (.move rfl) ?_
    refine .m rfl rfl rfl rfl (.refl _) (.idxN sl_22_A (by assumption) rfl rfl (by omega)) ?_
    refine .m rfl rfl rfl rfl (.refl _) (.loadI on_2_A (by assumption) rfl (by omega)) ?_
    refine .m rfl rfl rfl rfl (.refl _) (.idx1 sl_23_B (Intss.sl (by assumption)) rfl rfl (by omega) (by omega)) ?_
    refine .m rfl rfl rfl rfl (.refl _) (.loadR on_22_B (by assumption) rfl (by omega)) ?_
    refine .m rfl rfl rfl rfl (.refl _) (.move rfl) (.m rfl rfl rfl rfl (.refl _) (.nilCheck rfl) (.m rfl rfl rfl rfl (.refl _) (.fieldAddr fo_40_3_VProf rfl) ?_))
    refine .m rfl rfl rfl rfl (.refl _) (.load on_34_VProf rfl (by assumption)) ?_
    refine .m rfl rfl rfl rfl (.refl _) (.move rfl) ?_
    refine .m rfl rfl rfl rfl (.refl _) (.idxN sl_34_VZ (Intsss.sl (by assumption)) rfl rfl (by omega)) ?_
    refine .m rfl rfl rfl rfl (.refl _) (.loadRR on_23_B (by assumption) rfl (by omega)) ?_
    refine .m rfl rfl rfl rfl (.refl _) (.move rfl) (.m rfl rfl rfl rfl (.refl _) (.nilCheck rfl) (.m rfl rfl rfl rfl (.refl _) (.fieldAddr fo_27_2_B rfl) ?_))
    refine .m rfl rfl rfl rfl (.refl _) (.load on_22_B rfl (by assumption)) ?_
    refine .m rfl rfl rfl rfl (.refl _) (.move rfl) ?_
    refine .m rfl rfl rfl rfl (.refl _) (.idxN sl_22_A (by assumption) rfl rfl (by omega)) ?_
    refine .m rfl rfl rfl rfl (.refl _) (.loadI on_2_A (by assumption) rfl (by omega)) ?_
    refine .m rfl rfl rfl rfl (.refl _) (.idx1 sl_23_B (Intss.sl (by assumption)) rfl rfl (by omega) (by omega)) ?_
    refine .m rfl rfl rfl rfl (.refl _) (.loadR on_22_B (by assumption) rfl (by omega)) ?_
    refine .call0 rfl rfl rfl rfl rfl @Try.call115 rfl (implThen_c) ?_
    rintro _ H104 ⟨le104, g104, rfl, at104, ge104⟩
    have nx_H104 := le104.1
    replace hle := hle.trans le104
    replace lst1 := lst1.le le104
    replace lst2 := lst2.le le104
    replace at71 := le104.2 _ _ at71
    have lt_at104 := GHeap.lt_of_get at104
    replace h := base_h.mono hle
    clear fs ft c10 c11 c12 i2 i3 i4 hm hi hms his hmt hit c0 c1 c2 c3 c4 d1 d2 d3 d4 x0 x1 x2 x3 x4 y1 y2 y3 y4
    obtain ⟨fs, ft, c10, c11, c12, i2, i3, i4⟩ := h.get
    have hm : MemN _ _ _ _ _ := ⟨rfl, h.1⟩
    have hi := h.2
    have hms : MemN _ _ _ _ _ := ⟨rfl, fs.1⟩
    have his := fs.2
    have hmt : MemN _ _ _ _ _ := ⟨rfl, ft.1⟩
    have hit := ft.2
    obtain ⟨c0, c1, c2, c3, c4, d1, d2, d3, d4⟩ := fs.get
    obtain ⟨x0, x1, x2, x3, x4, y1, y2, y3, y4⟩ := ft.get
    clear r1
    have r1 := i3.2 a (by omega)
    clear t1 w1 w2 w3 w4
    have t1 := i4.2 b (by omega)
    have w1 := r1.2 (m.t.src.getD b 0).toNat (by omega)
    have w2 := r1.2 (m.t.tgt.getD b 0).toNat (by omega)
    have w3 := t1.2 (m.s.src.getD a 0).toNat (by omega)
    have w4 := t1.2 (m.s.tgt.getD a 0).toNat (by omega)
    clear i71
    have i71 := Ints.of_get at71
    have i104 := Ints.of_get at104
    refine .m rfl rfl rfl rfl (.refl _) (.assign rfl) ?_
    refine .done ?_
    refine hK19 _ _ ?_
    refine .seq (fun K20 hK20 => ?_)
    refine .region (.m rfl rfl rfl (.move rfl) (.m rfl rfl rfl (.move rfl) ?_))
    refine .callQ rfl rfl rfl rfl @Try.call116 rfl (same_c (hx := by rw [length_thenL]; omega) (hy := by rw [length_thenL]; omega)) ?_
    refine .m rfl rfl rfl (.not rfl) (.nil ?_)
    refine hK20 _ _ ?_
    refine .cond rfl (fun h108 => ?_) (fun h108 => ?_)
    ·
     try simp only [sps] at h108
     refine .seq (fun K21 hK21 => ?_)
     refine .region (.m rfl rfl rfl (.assign rfl) (.nil ?_))
     refine hK21 _ _ ?_
     refine .ret ?_
     refine hret _ _ ?_
     refine ⟨_, rfl, ?_⟩
     first
     | exact ⟨congrArg _ (B_false fun hh => h12 hh.1), hle⟩
     | exact ⟨congrArg _ (B_true ⟨hS, h16, fun a ha b hb => ha1 a (by omega) b (by omega)⟩), hle⟩
     | exact ⟨congrArg _ (B_false fun hh => h16 hh.2.1), hle⟩
     | exact ⟨congrArg _ (B_false fun hh => h108 (hh.2.2 a (by omega) b (by omega))), hle⟩
     | exact ⟨congrArg _ (B_false fun hh => h16 hh.2.1), hle⟩
    try simp only [sps] at h108
    refine .skip ?_
    refine hK16 _ _ ?_
    refine .region ?_
    refine .m rfl rfl rfl (.add rfl rfl rfl (by omega) (by omega)) ?_
    refine .m rfl rfl rfl (.move rfl) (.nil ?_)
    refine hKL2 (b + 1) _ _ ?_ ?_ ⟨rfl, rfl, rfl, rfl, rfl, rfl, rfl, rfl, trivial⟩
    ·
     refine ⟨lst2, ?_⟩
     refine ⟨by omega, fun b' hx => ?_⟩
     by_cases hltq : b' < b
     · exact ha2 b' hltq
     · obtain rfl : b' = b := by omega
       exact h108
    omega
   try simp only [sps] at h37
   refine .exit ?_
   refine hK11 _ _ ?_
   refine .region ?_
   refine .m rfl rfl rfl (.add rfl rfl rfl (by omega) (by omega)) ?_
   refine .m rfl rfl rfl (.move rfl) (.nil ?_)
   refine hKL1 (a + 1) _ _ ?_ ?_ ⟨rfl, rfl, rfl, rfl, rfl, trivial⟩
   ·
    refine ⟨lst1, ?_⟩
    refine ⟨by omega, fun a' hx => ?_⟩
    by_cases hltq : a' < a
    · exact ha1 a' hltq
    · obtain rfl : a' = a := by omega
      exact fun b hb => ha2 b (by omega)
   omega
  try simp only [sps] at h29
  refine .exit ?_
  refine hK7 _ _ ?_
  refine .seq (fun K22 hK22 => ?_)
  refine .region (.m rfl rfl rfl (.assign rfl) (.nil ?_))
  refine hK22 _ _ ?_
  refine .ret ?_
  refine hret _ _ ?_
  refine ⟨_, rfl, ?_⟩
  first
  | exact ⟨congrArg _ (B_false fun hh => h12 hh.1), hle⟩
  | exact ⟨congrArg _ (B_true ⟨hS, h16, fun a ha b hb => ha1 a (by omega) b (by omega)⟩), hle⟩
  | exact ⟨congrArg _ (B_false fun hh => h16 hh.2.1), hle⟩
  | exact ⟨congrArg _ (B_false fun hh => h108 (hh.2.2 a (by omega) b (by omega))), hle⟩
  | exact ⟨congrArg _ (B_false fun hh => h16 hh.2.1), hle⟩
end Go.Proofs.Ytgnfekfdmgnhcaa
/- Maps from numbers to numbers, and lists appended to lists, as steps over ghost heaps. No condition. -/
namespace Go.GL
open Go.RowKit
section
variable {P : Program} {B : Nat} {w0 : World} {ρ : Place} {H : GHeap} {w : World} {fr : Slots} {o : Oper} {R : Option Value → GHeap → Prop}
theorem Sim.newMap (hs : Sim P B w0 ρ H w) : Sim P B w0 (place ρ H.next ⟨w.heap.size, 0, 0, 0⟩) (H.push (.map [])) (w.alloc (.map #[] 0)) ∧ Ext ρ (place ρ H.next ⟨w.heap.size, 0, 0, 0⟩) := by
  have hext : Ext ρ (place ρ H.next ⟨w.heap.size, 0, 0, 0⟩) := place_ext (hs.dom _ (Nat.le_refl _))
  refine ⟨⟨fun g hg => ?_, fun g o hg => ?_, fun g g' o o' s s' h1 h2 h3 h4 h5 h6 h7 => ?_, by have := hs.base; simp; omega, hs.below.alloc hs.base _⟩, hext⟩
  · rw [GHeap.next_push] at hg
    simp only [place]
    rw [if_neg (by omega)]
    exact hs.dom g (by omega)
  · rcases Nat.lt_or_ge g H.next with hlt | hge
    · rw [GHeap.get_push_lt hlt] at hg
      exact (hs.live g o hg).keep hext fun s hsp => by
        have hb : s.blk < w.heap.size := by
          cases o with
          | row => obtain ⟨s', C', fz, h1, h2, _⟩ := hs.live g _ hg; rw [hsp] at h1; cases h1; exact (Array.getElem?_eq_some_iff.1 h2).1
          | map => obtain ⟨s', C', fz, h1, h2, _⟩ := hs.live g _ hg; rw [hsp] at h1; cases h1; exact (Array.getElem?_eq_some_iff.1 h2).1
        exact heap_alloc_old w _ hb
    · have hg' : g = H.next := by
        have := GHeap.lt_of_get hg
        simp at this
        omega
      subst hg'
      rw [GHeap.get_push_new] at hg
      cases hg
      exact ⟨_, #[], 0, place_self, heap_alloc_new w _, hs.base, rfl, fun i k v hv => by simp at hv⟩
  · have old : ∀ {k : Nat} {x : GObj} {t : Spot}, (H.push (.map [])).get k = some x → x.isOwn = true → place ρ H.next ⟨w.heap.size, 0, 0, 0⟩ k = some t → k ≠ H.next → ρ k = some t ∧ H.get k = some x ∧ t.blk < w.heap.size := by
      intro k x t hx ho ht hne
      have hlt : k < H.next := by have := GHeap.lt_of_get hx; simp at this; omega
      rw [GHeap.get_push_lt hlt] at hx
      simp only [place, hne, if_false] at ht
      obtain ⟨s0, e0, _, e2⟩ := (hs.live k x hx).own ho
      rw [ht] at e0; cases e0
      exact ⟨ht, hx, e2⟩
    by_cases e1 : g = H.next
    · subst e1
      obtain ⟨_, _, hlt⟩ := old h2 h4 h7 (Ne.symm h5)
      rw [place_self] at h6
      cases h6
      simp only
      omega
    · obtain ⟨r1, r2, r3⟩ := old h1 h3 h6 e1
      by_cases e2 : g' = H.next
      · subst e2
        rw [place_self] at h7
        cases h7
        simp only
        omega
      · obtain ⟨t1, t2, t3⟩ := old h2 h4 h7 e2
        exact hs.apart g g' o o' s s' r2 t2 h3 h4 h5 r1 t1
/-- A map is written: the world has turned at its block alone. -/
theorem Sim.mapTurn (hs : Sim P B w0 ρ H w) {g : Nat} {es es' : List (Value × Value)} (hg : H.get g = some (.map es)) {s : Spot} (hsp : ρ g = some s) {w' : World} {E : Array MapEntry} {clock : Nat}
    (hw : w'.heap[s.blk]? = some (.map E clock)) (hl : es'.length = E.size) (hc : ∀ (i : Nat) (k v : Value), es'[i]? = some (k, v) → ∃ e : MapEntry, E[i]? = some e ∧ VRel ρ k e.key ∧ VRel ρ v e.val)
    (hother : ∀ k, k ≠ s.blk → w'.heap[k]? = w.heap[k]?) (hsize : w'.heap.size = w.heap.size) (hos : w'.os = w.os) (htape : w'.tape = w.tape) (hout : w'.output = w.output) :
    Sim P B w0 ρ (H.set g (some (.map es'))) w' := by
  have hlt := GHeap.lt_of_get hg
  obtain ⟨s0, E0, c0, k1, k2, hB, _⟩ := hs.live _ _ hg
  rw [hsp] at k1
  cases k1
  refine ⟨fun k hk => hs.dom k (by simpa using hk), fun k o hk => ?_, fun k k' o o' t t' h1 h2 h3 h4 h5 h6 h7 => ?_, by rw [hsize]; exact hs.base, ?_⟩
  · by_cases ek : k = g
    · subst ek
      rw [GHeap.get_set_eq hlt] at hk
      cases hk
      exact ⟨s, E, clock, hsp, hw, hB, hl, hc⟩
    · rw [GHeap.get_set_ne (Ne.symm ek)] at hk
      refine (hs.live k o hk).keep (.refl ρ) fun t ht => hother _ ?_
      cases ho : o.isOwn with
      | true => exact hs.apart k g o _ t s hk hg ho rfl ek ht hsp
      | false =>
        cases o with
        | row cells el own =>
          obtain ⟨s', _, _, e1, _, _, _, _, _, e7, _⟩ := hs.live _ _ hk
          rw [ht] at e1; cases e1
          have := e7 ho
          omega
        | map es => cases ho
  · have back : ∀ {k : Nat} {x : GObj}, (H.set g (some (.map es'))).get k = some x → x.isOwn = true → ∃ y, H.get k = some y ∧ y.isOwn = true := by
      intro k x hx ho
      by_cases ek : k = g
      · subst ek; exact ⟨_, hg, rfl⟩
      · rw [GHeap.get_set_ne (Ne.symm ek)] at hx; exact ⟨x, hx, ho⟩
    obtain ⟨y, y1, y2⟩ := back h1 h3
    obtain ⟨z, z1, z2⟩ := back h2 h4
    exact hs.apart k k' y z t t' y1 z1 y2 z2 h5 h6 h7
  · refine hs.below.trans ⟨hos, htape, hout, by omega, fun k hk => hother k (by omega)⟩
theorem CDo.makeMapR {t : TypeId} (ho : o.op = .makeMap t none) :
    CDo P o fr H (fun r H' => ∃ g, r = some (.map (some g)) ∧ H.Le H' ∧ H.next ≤ g ∧ H'.get g = some (.map [])) := .mk fun B w0 ρ a w hs hf next Q hn => by
  obtain ⟨hs', hext⟩ := hs.newMap
  refine upon_value (c := .map (some w.heap.size)) (w' := w.alloc (.map #[] 0)) ?_ (hn _ (some (.map (some H.next))) _ _ _ ⟨H.next, rfl, GHeap.le_push _ _, Nat.le_refl _, GHeap.get_push_new _ _⟩ hext hs' fun y hy => ?_)
  · unfold execOp
    simp only [ho]
    refine v_run' ?_
    simp [Instr.makeMap, newObj, Sem.run]
  · cases hy
    exact .map (s := ⟨w.heap.size, 0, 0, 0⟩) place_self
theorem CDo.lookupR {t e : TypeId} {m k : Operand} {g : Nat} {es : List (Int × Int)} {j : Int} (ho : o.op = .lookup t m k true) (ht : mapIT P t = some e) (hz : zvT P e = some (.int .i64 0)) (hm : ev fr m = some (.map (some g))) (hk : ev fr k = some (.int .i64 j)) (hg : H.get g = some (.map (imap es)))
    (h : R (some (.tuple #[.int .i64 ((lookE es j).getD 0), .bool (lookE es j).isSome])) H) : CDo P o fr H R := .mk fun B w0 ρ a w hs hf next Q hn => by
  rw [ho] at hf
  obtain ⟨s, hsp, em⟩ := (ev_rel hf (x := m) (by simp [Op.operands]) hm).map_inv
  have ek := (ev_rel hf (x := k) (by simp [Op.operands]) hk).int_inv
  obtain ⟨kt, q, hu, hkt⟩ := mapIT_run ht
  obtain ⟨E, clock, hE, hr⟩ := hs.mrel hg hsp
  refine upon_value (c := .tuple #[.int .i64 ((lookE es j).getD 0), .bool (lookE es j).isSome]) (w' := w) ?_ (hn ρ _ _ _ _ h (.refl ρ) hs fun y hy => ?_)
  · unfold execOp
    simp only [ho, em, ek]
    refine v_run' ?_
    have hz' : (zeroValue e).run P w = .ok (.int .i64 0) w := by
      unfold zvT at hz
      simp only [Option.bind_eq_some_iff] at hz
      obtain ⟨i, hi, hz0⟩ := hz
      simp [zeroValue, typeInfo, Sem.run_bind, program, Sem.run, hi, hz0]
    rcases findNow_rel (q := q) (k := j) (E := E.toList) (es := es) (by simpa using hr.1) (fun i e he => by simpa using hr.2 i e he) 0 with ⟨i, v, h1, h2⟩ | ⟨h1, h2⟩
    · simp [Instr.lookup, run_underlying hu, MapKept.run_getObj_map hE, checkKey_int hkt, findKey_now hkt h2, h1, Result.andThen]
    · simp [Instr.lookup, run_underlying hu, MapKept.run_getObj_map hE, checkKey_int hkt, findKey_now hkt h2, h1, hz', Result.andThen]
  · cases hy
    exact .flat rfl
/-- A key that is not there yet. -/
theorem CDo.mapPutR {t e : TypeId} {m k x : Operand} {g : Nat} {es : List (Int × Int)} {j v : Int} (ho : o.op = .mapUpdate t m k x) (ht : mapIT P t = some e) (hm : ev fr m = some (.map (some g))) (hk : ev fr k = some (.int .i64 j)) (hx : ev fr x = some (.int .i64 v)) (hg : H.get g = some (.map (imap es)))
    (hno : lookE es j = none) : CDo P o fr H (fun r H' => r = none ∧ St [g] H H' ∧ H'.get g = some (.map (imap (es ++ [(j, v)])))) := .mk fun B w0 ρ a w hs hf next Q hn => by
  rw [ho] at hf
  obtain ⟨s, hsp, em⟩ := (ev_rel hf (x := m) (by simp [Op.operands]) hm).map_inv
  have ek := (ev_rel hf (x := k) (by simp [Op.operands]) hk).int_inv
  have ex := (ev_rel hf (x := x) (by simp [Op.operands]) hx).int_inv
  obtain ⟨kt, q, hu, hkt⟩ := mapIT_run ht
  obtain ⟨E, clock, hE, hr⟩ := hs.mrel hg hsp
  have hlt := (Array.getElem?_eq_some_iff.1 hE).1
  have hs' := hs.mapTurn hg hsp (w' := { w with heap := w.heap.setIfInBounds s.blk (.map (E.push { key := .int .i64 j, val := .int .i64 v, born := clock }) (clock + 1)) }) (es' := imap (es ++ [(j, v)])) (E := E.push { key := .int .i64 j, val := .int .i64 v, born := clock }) (clock := clock + 1)
    (by simp [hlt]) (by simp [imap, hr.1]) (fun i k' v' hi => by
      simp only [imap, List.map_append, List.map_cons, List.map_nil] at hi
      by_cases hil : i < es.length
      · rw [List.getElem?_append_left (by simpa using hil)] at hi
        simp only [List.getElem?_map, Option.map_eq_some_iff] at hi
        obtain ⟨e1, he1, heq⟩ := hi
        cases heq
        obtain ⟨c, c1, c2, c3⟩ := hr.2 i e1 he1
        exact ⟨c, by rw [Array.getElem?_push]; rw [if_neg (by have := hr.1; omega)]; exact c1, by rw [c2]; exact .int _ _, by rw [c3]; exact .int _ _⟩
      · rw [List.getElem?_append_right (by simpa using Nat.le_of_not_lt hil)] at hi
        simp only [List.length_map] at hi
        have hi0 : i - es.length = 0 := by
          cases hd : i - es.length with
          | zero => rfl
          | succ d => rw [hd] at hi; simp at hi
        rw [hi0] at hi
        simp only [List.getElem?_cons_zero, Option.some.injEq, Prod.mk.injEq] at hi
        obtain ⟨rfl, rfl⟩ := hi
        exact ⟨_, by rw [Array.getElem?_push, if_pos (by have := hr.1; omega)], .int _ _, .int _ _⟩)
    (fun k' hk' => by simp [Array.getElem?_setIfInBounds_ne (Ne.symm hk')]) (by simp) rfl rfl rfl
  refine upon_skip (w' := { w with heap := w.heap.setIfInBounds s.blk (.map (E.push { key := .int .i64 j, val := .int .i64 v, born := clock }) (clock + 1)) }) ?_ (hn ρ none undef _ _ ⟨rfl, .of_set, GHeap.get_set_eq (GHeap.lt_of_get hg)⟩ (.refl ρ) hs' fun y hy => by cases hy)
  unfold execOp
  simp only [ho, em, ek, ex]
  refine u_run' ?_
  rcases findNow_rel (q := q) (k := j) (E := E.toList) (es := es) (by simpa using hr.1) (fun i e he => by simpa using hr.2 i e he) 0 with ⟨i, u, h1, h2⟩ | ⟨h1, h2⟩
  · rw [hno] at h1; cases h1
  · simp [Instr.mapUpdate, run_underlying hu, MapKept.run_getObj_map hE, MapKept.run_setObj_map _ hE, checkKey_int hkt, findKey_now hkt h2, Result.andThen]
/-- A struct that is not there yet. -/
theorem CDo.mapPutT {t kt e : TypeId} {m k x : Operand} {g n : Nat} {es : List (List Int × Int)} {j : List Int} {v : Int} (ho : o.op = .mapUpdate t m k x) (ht : mapTT P t = some (kt, e)) (hkt : KeyT P kt n) (hm : ev fr m = some (.map (some g))) (hk : ev fr k = some (kvT j)) (hx : ev fr x = some (.int .i64 v)) (hj : j.length = n) (hnn : ∀ e ∈ es, e.1.length = n) (hg : H.get g = some (.map (tmap es)))
    (hno : lookT es j = none) : CDo P o fr H (fun r H' => r = none ∧ St [g] H H' ∧ H'.get g = some (.map (tmap (es ++ [(j, v)])))) := .mk fun B w0 ρ a w hs hf next Q hn => by
  rw [ho] at hf
  obtain ⟨s, hsp, em⟩ := (ev_rel hf (x := m) (by simp [Op.operands]) hm).map_inv
  have ek := flatT_inv (ev_rel hf (x := k) (by simp [Op.operands]) hk)
  have ex := (ev_rel hf (x := x) (by simp [Op.operands]) hx).int_inv
  have hu := mapTT_run ht
  obtain ⟨E, clock, hE, hr⟩ := hs.mrelT hg hnn hsp
  have hlt := (Array.getElem?_eq_some_iff.1 hE).1
  have kv : ∀ t : List Int, VRel ρ (kvT t) (kvT t) := fun t => by
    unfold kvT
    refine .agg rfl fun i h1 h2 => ?_
    simp only [List.getElem_toArray, List.getElem_map]
    exact .int _ _
  have hs' := hs.mapTurn hg hsp (w' := { w with heap := w.heap.setIfInBounds s.blk (.map (E.push { key := kvT j, val := .int .i64 v, born := clock }) (clock + 1)) }) (es' := tmap (es ++ [(j, v)])) (E := E.push { key := kvT j, val := .int .i64 v, born := clock }) (clock := clock + 1)
    (by simp [hlt]) (by simp [tmap, hr.1]) (fun i k' v' hi => by
      simp only [tmap, List.map_append, List.map_cons, List.map_nil] at hi
      by_cases hil : i < es.length
      · rw [List.getElem?_append_left (by simpa using hil)] at hi
        simp only [List.getElem?_map, Option.map_eq_some_iff] at hi
        obtain ⟨e1, he1, heq⟩ := hi
        cases heq
        obtain ⟨_, c, c1, c2, c3⟩ := hr.2 i e1 he1
        exact ⟨c, by rw [Array.getElem?_push]; rw [if_neg (by have := hr.1; omega)]; exact c1, by rw [c2]; exact kv _, by rw [c3]; exact .int _ _⟩
      · rw [List.getElem?_append_right (by simpa using Nat.le_of_not_lt hil)] at hi
        simp only [List.length_map] at hi
        have hi0 : i - es.length = 0 := by
          cases hd : i - es.length with
          | zero => rfl
          | succ d => rw [hd] at hi; simp at hi
        rw [hi0] at hi
        simp only [List.getElem?_cons_zero, Option.some.injEq, Prod.mk.injEq] at hi
        obtain ⟨rfl, rfl⟩ := hi
        exact ⟨_, by rw [Array.getElem?_push, if_pos (by have := hr.1; omega)], kv _, .int _ _⟩)
    (fun k' hk' => by simp [Array.getElem?_setIfInBounds_ne (Ne.symm hk')]) (by simp) rfl rfl rfl
  refine upon_skip (w' := { w with heap := w.heap.setIfInBounds s.blk (.map (E.push { key := kvT j, val := .int .i64 v, born := clock }) (clock + 1)) }) ?_ (hn ρ none undef _ _ ⟨rfl, .of_set, GHeap.get_set_eq (GHeap.lt_of_get hg)⟩ (.refl ρ) hs' fun y hy => by cases hy)
  unfold execOp
  simp only [ho, em, ek, ex]
  refine u_run' ?_
  rcases findKeyT hkt hj w (E := E.toList) (es := es) (by simpa using hr.1) (fun i e he => by simpa using hr.2 i e he) with ⟨i, u, h1, h2⟩ | ⟨h1, h2⟩
  · rw [hno] at h1; cases h1
  · simp [Instr.mapUpdate, run_underlying hu, MapKept.run_getObj_map hE, MapKept.run_setObj_map _ hE, hkt.ck _ j hj, h2, Result.andThen]
theorem CDo.lenMap {t e : TypeId} {m : Operand} {g : Nat} {es : List (Int × Int)} (ho : o.op = .call { callee := .builtin .len, args := #[m], argTypes := #[t] }) (ht : mapIT P t = some e) (hm : ev fr m = some (.map (some g))) (hg : H.get g = some (.map (imap es)))
    (h : R (some (.int .i64 (es.length : Int))) H) : CDo P o fr H R := .mk fun B w0 ρ a w hs hf next Q hn => by
  rw [ho] at hf
  obtain ⟨s, hsp, em⟩ := (ev_rel hf (x := m) (by simp [Op.operands, Call.operands]) hm).map_inv
  obtain ⟨kt, q, hu, hkt⟩ := mapIT_run ht
  obtain ⟨E, clock, hE, hr⟩ := hs.mrel hg hsp
  have hrun : (Builtin.len_ #[t] o.type #[.map (some s.blk)]).run P w = .ok (.int .i64 (es.length : Int)) w := by
    simp [Builtin.len_, Sem.run_bind, run_underlying hu, MapKept.run_getObj_map hE, hr.1, goInt, Result.andThen]
  refine upon_value (c := .int .i64 (es.length : Int)) (w' := w) ?_ (hn ρ _ _ _ _ h (.refl ρ) hs fun y hy => ?_)
  · unfold execOp
    simp only [ho, resolve, invoke, builtin, Sem.run_bind, Sem.run_pure, Result.andThen_ok, List.map_toArray, List.map_cons, List.map_nil, em, hrun]
  · cases hy
    exact .int _ _
end
theorem lookT_snoc {es : List (List Int × Int)} {k j : List Int} {v : Int} : lookT (es ++ [(k, v)]) j = (lookT es j).or (if k = j then some v else none) := by
  unfold lookT
  rw [List.find?_append]
  cases es.find? (fun e => e.1 == j) with
  | some e => rfl
  | none =>
    by_cases h : k = j
    · simp [h]
    · simp [h]
end Go.GL
