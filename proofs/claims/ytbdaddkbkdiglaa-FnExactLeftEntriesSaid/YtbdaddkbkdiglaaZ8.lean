/- The laws' helpers for SetFunctor. No condition but those of each statement. -/
import Derived.Test.YtbdaddkbkdiglaaZ7
namespace Go.Proofs.Ytbdaddkbkdiglaa
open Go Go.GL Go.RowKit Go.Proofs
theorem sz_62_VSFun : (Try.prog.info? 62).map (·.size) = some 7 := by kernel_rfl
theorem fo_62_0_VSFun : fieldOff Try.prog 62 0 = some 0 := by kernel_rfl
theorem fo_62_1_VSFun : fieldOff Try.prog 62 1 = some 5 := by kernel_rfl
theorem fo_62_2_VSFun : fieldOff Try.prog 62 2 = some 6 := by kernel_rfl
theorem ze_66_VSFun : zeroT Try.prog 66 = some ([.int .i64 0, .slice none 0 0, .slice none 0 0, .slice none 0 0, .slice none 0 0, .slice none 0 0, .slice none 0 0], 7) := by kernel_rfl
theorem fo_66_0_VSFun : fieldOff Try.prog 66 0 = some 0 := by kernel_rfl
theorem fo_66_1_VSFun : fieldOff Try.prog 66 1 = some 5 := by kernel_rfl
theorem fo_66_2_VSFun : fieldOff Try.prog 66 2 = some 6 := by kernel_rfl
theorem ag_66_VSFun : aggT Try.prog 66 = some 7 := by kernel_rfl
theorem sz_66_VSFun : (Try.prog.info? 66).map (·.size) = some 7 := by kernel_rfl
theorem szSetFunctor_c {c : SFun} {p : SFunP} {left : Int} {H : GHeap} (hin : c.In H p := by assumption) (hw : c.Wide := by assumption) (h0 : 0 ≤ left := by omega) (h1 : left ≤ 1048576 := by omega) :
    GCalls Try.prog 29 [.agg (c.cells p).toArray, .int .i64 left] H (SzR left c.Small H) := by
  refine SzR.of ?_
  obtain ⟨w0, ⟨wa1, _⟩, ⟨wa2, wb2⟩⟩ := hw
  refine GCalls.body (N := 24) (rs := [.tmp 4]) Try.func29 rfl rfl rfl rfl (fun Qx hret hend => ?_)
  refine .forget (fr' := [(0, some _), (1, some _)]) ⟨rfl, rfl, trivial⟩ ?_
  have hle := GHeap.Le.refl H
  have base_hin := hin
  refine .seq (fun K1 hK1 => ?_)
  refine .region ?_
  refine .r rfl rfl rfl (.boxR rfl sz_62_VSFun rfl) ?_
  rintro _ H2 ⟨g2, rfl, le2, ge2, at2⟩
  have nx_H2 := le2.1
  replace hle := hle.trans le2
  have lt_at2 := GHeap.lt_of_get at2
  replace hin := base_hin.mono hle
  have hb2 : SFun.At _ g2 0 c p := ⟨Mem.of_get at2, hin⟩
  obtain ⟨fsh2, c52, c62, i12, i22⟩ := hb2.get
  have hm2 : MemN _ _ _ _ _ := ⟨rfl, hb2.1⟩
  have hi2 := hb2.2
  have hmsh2 : MemN _ _ _ _ _ := ⟨rfl, fsh2.1⟩
  have hish2 := fsh2.2
  refine .m rfl rfl rfl (.assign rfl) ?_
  refine .nil ?_
  refine hK1 _ _ ?_
  refine .seq (fun K2 hK2 => ?_)
  refine .region ?_
  refine .m rfl rfl rfl (.fieldAddr fo_62_0_VSFun rfl) ?_
  refine .m rfl rfl rfl (.loadM ag_25_E rfl (by assumption)) ?_
  refine .m rfl rfl rfl (.move rfl) ?_
  refine .call rfl rfl rfl rfl @Try.call35 rfl (szCategory_c) ?_
  rintro _ _ ⟨heq, lf8, rfl, z18, z28, z38⟩
  obtain rfl := heq.symm
  refine .m rfl rfl rfl (.assign rfl) ?_
  refine .nil ?_
  refine hK2 _ _ ?_
  refine .seq (fun K3 hK3 => ?_)
  refine .seq (fun K4 hK4 => ?_)
  refine .region ?_
  refine .m rfl rfl rfl (.move rfl) ?_
  refine .m rfl rfl rfl (.cmp rfl rfl rfl) ?_
  refine .nil ?_
  refine hK4 _ _ ?_
  refine .cond rfl (fun h10 => ?_) (fun h10 => ?_)
  ·
   try simp only [sps] at h10
   refine .seq (fun K5 hK5 => ?_)
   refine .region ?_
   refine .m rfl rfl rfl (.assign rfl) ?_
   refine .nil ?_
   refine hK5 _ _ ?_
   refine .ret ?_
   -- leaf e1
   refine hret _ _ ?_
   refine ⟨_, rfl, ?_⟩
   first
   | exact ⟨hle, _, rfl, by omega, by omega, fun h => by omega⟩
   | exact ⟨hle, _, rfl, by omega, by omega, fun h => ⟨by assumption, by assumption, by assumption⟩⟩
  ·
   try simp only [sps] at h10
   have hsm8 := z38 (by omega)
   refine .skip ?_
   refine hK3 _ _ ?_
   refine .seq (fun K6 hK6 => ?_)
   refine .region ?_
   refine .m rfl rfl rfl (.fieldAddr fo_62_1_VSFun rfl) ?_
   refine .m rfl rfl rfl (.load on_22_B rfl (by assumption)) ?_
   refine .m rfl rfl rfl (.move rfl) ?_
   refine .call rfl rfl rfl rfl @Try.call43 rfl (szInt64S_s) ?_
   rintro _ _ ⟨heq, lf14, rfl, z114, z214, z314⟩
   obtain rfl := heq.symm
   refine .m rfl rfl rfl (.assign rfl) ?_
   refine .nil ?_
   refine hK6 _ _ ?_
   refine .seq (fun K7 hK7 => ?_)
   refine .seq (fun K8 hK8 => ?_)
   refine .region ?_
   refine .m rfl rfl rfl (.move rfl) ?_
   refine .m rfl rfl rfl (.cmp rfl rfl rfl) ?_
   refine .nil ?_
   refine hK8 _ _ ?_
   refine .cond rfl (fun h16 => ?_) (fun h16 => ?_)
   ·
    try simp only [sps] at h16
    refine .seq (fun K9 hK9 => ?_)
    refine .region ?_
    refine .m rfl rfl rfl (.assign rfl) ?_
    refine .nil ?_
    refine hK9 _ _ ?_
    refine .ret ?_
    -- leaf e2
    refine hret _ _ ?_
    refine ⟨_, rfl, ?_⟩
    first
    | exact ⟨hle, _, rfl, by omega, by omega, fun h => by omega⟩
    | exact ⟨hle, _, rfl, by omega, by omega, fun h => ⟨by assumption, by assumption, by assumption⟩⟩
   ·
    try simp only [sps] at h16
    have hsm14 := z314 (by omega)
    refine .skip ?_
    refine hK7 _ _ ?_
    refine .seq (fun K10 hK10 => ?_)
    refine .region ?_
    refine .m rfl rfl rfl (.fieldAddr fo_62_2_VSFun rfl) ?_
    refine .m rfl rfl rfl (.load on_23_B rfl (by assumption)) ?_
    refine .m rfl rfl rfl (.move rfl) ?_
    refine .call rfl rfl rfl rfl @Try.call50 rfl (szInt64SS_s) ?_
    rintro _ _ ⟨heq, lf20, rfl, z120, z220, z320⟩
    obtain rfl := heq.symm
    refine .m rfl rfl rfl (.assign rfl) ?_
    refine .nil ?_
    refine hK10 _ _ ?_
    refine .seq (fun K11 hK11 => ?_)
    refine .seq (fun K12 hK12 => ?_)
    refine .region ?_
    refine .m rfl rfl rfl (.move rfl) ?_
    refine .m rfl rfl rfl (.cmp rfl rfl rfl) ?_
    refine .nil ?_
    refine hK12 _ _ ?_
    refine .cond rfl (fun h22 => ?_) (fun h22 => ?_)
    ·
     try simp only [sps] at h22
     refine .seq (fun K13 hK13 => ?_)
     refine .region ?_
     refine .m rfl rfl rfl (.assign rfl) ?_
     refine .nil ?_
     refine hK13 _ _ ?_
     refine .ret ?_
     -- leaf e3
     refine hret _ _ ?_
     refine ⟨_, rfl, ?_⟩
     first
     | exact ⟨hle, _, rfl, by omega, by omega, fun h => by omega⟩
     | exact ⟨hle, _, rfl, by omega, by omega, fun h => ⟨by assumption, by assumption, by assumption⟩⟩
    ·
     try simp only [sps] at h22
     have hsm20 := z320 (by omega)
     refine .skip ?_
     refine hK11 _ _ ?_
     refine .seq (fun K14 hK14 => ?_)
     refine .region ?_
     refine .m rfl rfl rfl (.move rfl) ?_
     refine .m rfl rfl rfl (.assign rfl) ?_
     refine .nil ?_
     refine hK14 _ _ ?_
     refine .ret ?_
     -- leaf e4
     refine hret _ _ ?_
     refine ⟨_, rfl, ?_⟩
     first
     | exact ⟨hle, _, rfl, by omega, by omega, fun h => by omega⟩
     | exact ⟨hle, _, rfl, by omega, by omega, fun h => ⟨by assumption, by assumption, by assumption⟩⟩
set_option maxHeartbeats 4000000 in
theorem toSetFunctor_c {c : SFun} {p : SFunP} {H : GHeap} (hin : c.In H p := by assumption) (hs : c.Small := by assumption) : GCalls Try.prog 31 [.agg (c.cells p).toArray] H (NewSFun H c) := by
  obtain ⟨w0, w1, ⟨wa2, wb2⟩⟩ := hs
  refine GCalls.body (N := 17) (rs := [.cell 2 66]) Try.func31 rfl rfl rfl rfl (fun Qx hret hend => ?_)
  refine .forget (fr' := [(0, some _)]) ⟨rfl, trivial⟩ ?_
  have hle := GHeap.Le.refl H
  have base_hin := hin
  refine .seq (fun K1 hK1 => ?_)
  refine .region ?_
  refine .r rfl rfl rfl (.boxR rfl sz_62_VSFun rfl) ?_
  rintro _ H1 ⟨g1, rfl, le1, ge1, at1⟩
  have nx_H1 := le1.1
  replace hle := hle.trans le1
  have lt_at1 := GHeap.lt_of_get at1
  replace hin := base_hin.mono hle
  have hb1 : SFun.At _ g1 0 c p := ⟨Mem.of_get at1, hin⟩
  obtain ⟨fsh1, c51, c61, i11, i21⟩ := hb1.get
  have hm1 : MemN _ _ _ _ _ := ⟨rfl, hb1.1⟩
  have hi1 := hb1.2
  have hmsh1 : MemN _ _ _ _ _ := ⟨rfl, fsh1.1⟩
  have hish1 := fsh1.2
  refine .r rfl rfl rfl (.allocR rfl ze_66_VSFun rfl) ?_
  rintro _ H2 ⟨g2, rfl, le2, ge2, at2⟩
  have nx_H2 := le2.1
  replace hle := hle.trans le2
  replace at1 := le2.2 _ _ at1
  have lt_at2 := GHeap.lt_of_get at2
  replace hin := base_hin.mono hle
  clear hb1 fsh1 c51 c61 i11 i21 hm1 hi1 hmsh1 hish1
  have hb1 : SFun.At _ g1 0 c p := ⟨Mem.of_get at1, hin⟩
  obtain ⟨fsh1, c51, c61, i11, i21⟩ := hb1.get
  have hm1 : MemN _ _ _ _ _ := ⟨rfl, hb1.1⟩
  have hi1 := hb1.2
  have hmsh1 : MemN _ _ _ _ _ := ⟨rfl, fsh1.1⟩
  have hish1 := fsh1.2
  refine .nil ?_
  refine hK1 _ _ ?_
  refine .seq (fun K2 hK2 => ?_)
  refine .region ?_
  refine .r rfl rfl rfl (.allocR rfl ze_66_VSFun rfl) ?_
  rintro _ H3 ⟨g3, rfl, le3, ge3, at3⟩
  have nx_H3 := le3.1
  replace hle := hle.trans le3
  replace at1 := le3.2 _ _ at1
  replace at2 := le3.2 _ _ at2
  have lt_at3 := GHeap.lt_of_get at3
  replace hin := base_hin.mono hle
  clear hb1 fsh1 c51 c61 i11 i21 hm1 hi1 hmsh1 hish1
  have hb1 : SFun.At _ g1 0 c p := ⟨Mem.of_get at1, hin⟩
  obtain ⟨fsh1, c51, c61, i11, i21⟩ := hb1.get
  have hm1 : MemN _ _ _ _ _ := ⟨rfl, hb1.1⟩
  have hi1 := hb1.2
  have hmsh1 : MemN _ _ _ _ _ := ⟨rfl, fsh1.1⟩
  have hish1 := fsh1.2
  refine .nil ?_
  refine hK2 _ _ ?_
  refine .seq (fun K3 hK3 => ?_)
  refine .region ?_
  refine .m rfl rfl rfl (.fieldAddr fo_62_0_VSFun rfl) ?_
  refine .m rfl rfl rfl (.loadM ag_25_E rfl (by assumption)) ?_
  refine .call rfl rfl rfl rfl @Try.call37 rfl (toCategory_c) ?_
  rintro _ H6 ⟨le6, p6, rfl, v6⟩
  have nx_H6 := le6.1
  replace hle := hle.trans le6
  replace at1 := le6.2 _ _ at1
  replace at2 := le6.2 _ _ at2
  replace at3 := le6.2 _ _ at3
  have bs_v6 := v6
  have lv_v6 : Keep H3.next H6 H6 := fun _ _ _ h => h
  replace hin := base_hin.mono hle
  clear hb1 fsh1 c51 c61 i11 i21 hm1 hi1 hmsh1 hish1
  have hb1 : SFun.At _ g1 0 c p := ⟨Mem.of_get at1, hin⟩
  obtain ⟨fsh1, c51, c61, i11, i21⟩ := hb1.get
  have hm1 : MemN _ _ _ _ _ := ⟨rfl, hb1.1⟩
  have hi1 := hb1.2
  have hmsh1 : MemN _ _ _ _ _ := ⟨rfl, fsh1.1⟩
  have hish1 := fsh1.2
  have i6 := v6.inn
  refine .m rfl rfl rfl (.fieldAddr fo_66_0_VSFun rfl) ?_
  refine .r0 rfl rfl (.storeNR rfl sz_34_D rfl rfl rfl rfl (by assumption) (by first | rfl | exact Nat.le_of_ble_eq_true rfl | simp)) ?_
  rintro _ H2004 ⟨rfl, st2004, at2004⟩
  have nx_H2004 := st2004.nx
  replace hle := hle.st st2004 (fun k hk => ⟨by omega, trivial⟩)
  replace at1 := st2004.same _ _ ⟨by omega, trivial⟩ at1
  replace at2 := st2004.same _ _ ⟨by omega, trivial⟩ at2
  replace lv_v6 := Keep.st lv_v6 st2004 (fun k hb hk => ⟨by omega, trivial⟩)
  replace v6 := bs_v6.keep lv_v6 (Nat.le_refl _)
  have lt_at2004 := GHeap.lt_of_get at2004
  replace hin := base_hin.mono hle
  clear hb1 fsh1 c51 c61 i11 i21 hm1 hi1 hmsh1 hish1
  have hb1 : SFun.At _ g1 0 c p := ⟨Mem.of_get at1, hin⟩
  obtain ⟨fsh1, c51, c61, i11, i21⟩ := hb1.get
  have hm1 : MemN _ _ _ _ _ := ⟨rfl, hb1.1⟩
  have hi1 := hb1.2
  have hmsh1 : MemN _ _ _ _ _ := ⟨rfl, fsh1.1⟩
  have hish1 := fsh1.2
  clear i6
  have i6 := v6.inn
  refine .nil ?_
  refine hK3 _ _ ?_
  refine .seq (fun K4 hK4 => ?_)
  refine .region ?_
  refine .m rfl rfl rfl (.fieldAddr fo_62_1_VSFun rfl) ?_
  refine .m rfl rfl rfl (.load on_22_B rfl (by assumption)) ?_
  refine .call rfl rfl rfl rfl @Try.call38 rfl (toInt64S_c) ?_
  rintro _ H10 ⟨le10, g10, rfl, at10, ge10⟩
  have nx_H10 := le10.1
  replace hle := hle.trans le10
  replace at1 := le10.2 _ _ at1
  replace at2 := le10.2 _ _ at2
  replace at2004 := le10.2 _ _ at2004
  replace lv_v6 := Keep.le lv_v6 le10
  replace v6 := bs_v6.keep lv_v6 (Nat.le_refl _)
  have lt_at10 := GHeap.lt_of_get at10
  replace hin := base_hin.mono hle
  clear hb1 fsh1 c51 c61 i11 i21 hm1 hi1 hmsh1 hish1
  have hb1 : SFun.At _ g1 0 c p := ⟨Mem.of_get at1, hin⟩
  obtain ⟨fsh1, c51, c61, i11, i21⟩ := hb1.get
  have hm1 : MemN _ _ _ _ _ := ⟨rfl, hb1.1⟩
  have hi1 := hb1.2
  have hmsh1 : MemN _ _ _ _ _ := ⟨rfl, fsh1.1⟩
  have hish1 := fsh1.2
  clear i6
  have i6 := v6.inn
  have i10 := Ints.of_get at10
  refine .m rfl rfl rfl (.fieldAddr fo_66_1_VSFun rfl) ?_
  refine .r0 rfl rfl (.storeR rfl sz_22_E rfl rfl rfl (by assumption) (by first | exact Nat.le_of_ble_eq_true rfl | simp)) ?_
  rintro _ H3004 ⟨rfl, st3004, at3004⟩
  have nx_H3004 := st3004.nx
  replace hle := hle.st st3004 (fun k hk => ⟨by omega, trivial⟩)
  replace at1 := st3004.same _ _ ⟨by omega, trivial⟩ at1
  replace at2 := st3004.same _ _ ⟨by omega, trivial⟩ at2
  replace at10 := st3004.same _ _ ⟨by omega, trivial⟩ at10
  replace lv_v6 := Keep.st lv_v6 st3004 (fun k hb hk => ⟨by omega, trivial⟩)
  replace v6 := bs_v6.keep lv_v6 (Nat.le_refl _)
  have lt_at3004 := GHeap.lt_of_get at3004
  replace hin := base_hin.mono hle
  clear hb1 fsh1 c51 c61 i11 i21 hm1 hi1 hmsh1 hish1
  have hb1 : SFun.At _ g1 0 c p := ⟨Mem.of_get at1, hin⟩
  obtain ⟨fsh1, c51, c61, i11, i21⟩ := hb1.get
  have hm1 : MemN _ _ _ _ _ := ⟨rfl, hb1.1⟩
  have hi1 := hb1.2
  have hmsh1 : MemN _ _ _ _ _ := ⟨rfl, fsh1.1⟩
  have hish1 := fsh1.2
  clear i6
  have i6 := v6.inn
  clear i10
  have i10 := Ints.of_get at10
  refine .nil ?_
  refine hK4 _ _ ?_
  refine .seq (fun K5 hK5 => ?_)
  refine .region ?_
  refine .m rfl rfl rfl (.fieldAddr fo_62_2_VSFun rfl) ?_
  refine .m rfl rfl rfl (.load on_23_B rfl (by assumption)) ?_
  refine .call rfl rfl rfl rfl @Try.call54 rfl (toInt64SS_c) ?_
  rintro _ H14 ⟨le14, a14, r14, rfl, v14⟩
  have nx_H14 := le14.1
  replace hle := hle.trans le14
  replace at1 := le14.2 _ _ at1
  replace at2 := le14.2 _ _ at2
  replace at10 := le14.2 _ _ at10
  replace at3004 := le14.2 _ _ at3004
  replace lv_v6 := Keep.le lv_v6 le14
  replace v6 := bs_v6.keep lv_v6 (Nat.le_refl _)
  have bs_v14 := v14
  have lv_v14 : Keep H3004.next H14 H14 := fun _ _ _ h => h
  replace hin := base_hin.mono hle
  clear hb1 fsh1 c51 c61 i11 i21 hm1 hi1 hmsh1 hish1
  have hb1 : SFun.At _ g1 0 c p := ⟨Mem.of_get at1, hin⟩
  obtain ⟨fsh1, c51, c61, i11, i21⟩ := hb1.get
  have hm1 : MemN _ _ _ _ _ := ⟨rfl, hb1.1⟩
  have hi1 := hb1.2
  have hmsh1 : MemN _ _ _ _ _ := ⟨rfl, fsh1.1⟩
  have hish1 := fsh1.2
  clear i6
  have i6 := v6.inn
  clear i10
  have i10 := Ints.of_get at10
  have i14 := v14.intss
  refine .m rfl rfl rfl (.fieldAddr fo_66_2_VSFun rfl) ?_
  refine .r0 rfl rfl (.storeR rfl sz_23_E rfl rfl rfl (by assumption) (by first | exact Nat.le_of_ble_eq_true rfl | simp)) ?_
  rintro _ H4004 ⟨rfl, st4004, at4004⟩
  have nx_H4004 := st4004.nx
  replace hle := hle.st st4004 (fun k hk => ⟨by omega, trivial⟩)
  replace at1 := st4004.same _ _ ⟨by omega, trivial⟩ at1
  replace at2 := st4004.same _ _ ⟨by omega, trivial⟩ at2
  replace at10 := st4004.same _ _ ⟨by omega, trivial⟩ at10
  replace lv_v6 := Keep.st lv_v6 st4004 (fun k hb hk => ⟨by omega, trivial⟩)
  replace v6 := bs_v6.keep lv_v6 (Nat.le_refl _)
  replace lv_v14 := Keep.st lv_v14 st4004 (fun k hb hk => ⟨by omega, trivial⟩)
  replace v14 := bs_v14.keep lv_v14 (Nat.le_refl _)
  have lt_at4004 := GHeap.lt_of_get at4004
  replace hin := base_hin.mono hle
  clear hb1 fsh1 c51 c61 i11 i21 hm1 hi1 hmsh1 hish1
  have hb1 : SFun.At _ g1 0 c p := ⟨Mem.of_get at1, hin⟩
  obtain ⟨fsh1, c51, c61, i11, i21⟩ := hb1.get
  have hm1 : MemN _ _ _ _ _ := ⟨rfl, hb1.1⟩
  have hi1 := hb1.2
  have hmsh1 : MemN _ _ _ _ _ := ⟨rfl, fsh1.1⟩
  have hish1 := fsh1.2
  clear i6
  have i6 := v6.inn
  clear i10
  have i10 := Ints.of_get at10
  clear i14
  have i14 := v14.intss
  refine .nil ?_
  refine hK5 _ _ ?_
  refine .seq (fun K6 hK6 => ?_)
  refine .region ?_
  refine .m rfl rfl rfl (.loadM ag_66_VSFun rfl ⟨rfl, Mem.of_get at4004⟩) ?_
  refine .r0 rfl rfl (.fillR rfl sz_66_VSFun rfl rfl rfl rfl (by assumption) (by first | rfl | exact Nat.le_of_ble_eq_true rfl | simp)) ?_
  rintro _ H5001 ⟨rfl, st5001, at5001⟩
  have nx_H5001 := st5001.nx
  replace hle := hle.st st5001 (fun k hk => ⟨by omega, trivial⟩)
  replace at1 := st5001.same _ _ ⟨by omega, trivial⟩ at1
  replace at10 := st5001.same _ _ ⟨by omega, trivial⟩ at10
  replace at4004 := st5001.same _ _ ⟨by omega, trivial⟩ at4004
  replace lv_v6 := Keep.st lv_v6 st5001 (fun k hb hk => ⟨by omega, trivial⟩)
  replace v6 := bs_v6.keep lv_v6 (Nat.le_refl _)
  replace lv_v14 := Keep.st lv_v14 st5001 (fun k hb hk => ⟨by omega, trivial⟩)
  replace v14 := bs_v14.keep lv_v14 (Nat.le_refl _)
  have lt_at5001 := GHeap.lt_of_get at5001
  replace hin := base_hin.mono hle
  clear hb1 fsh1 c51 c61 i11 i21 hm1 hi1 hmsh1 hish1
  have hb1 : SFun.At _ g1 0 c p := ⟨Mem.of_get at1, hin⟩
  obtain ⟨fsh1, c51, c61, i11, i21⟩ := hb1.get
  have hm1 : MemN _ _ _ _ _ := ⟨rfl, hb1.1⟩
  have hi1 := hb1.2
  have hmsh1 : MemN _ _ _ _ _ := ⟨rfl, fsh1.1⟩
  have hish1 := fsh1.2
  clear i6
  have i6 := v6.inn
  clear i10
  have i10 := Ints.of_get at10
  clear i14
  have i14 := v14.intss
  have mm5001 : MemN _ _ _ _ _ := ⟨rfl, Mem.of_get at5001⟩
  refine .nil ?_
  refine hK6 _ _ ?_
  refine .ret ?_
  -- leaf e1
  refine hret _ _ ?_
  refine ⟨_, _, _, _, rfl, ag_66_VSFun, (by rfl), (Mem.of_get at5001), ?_⟩
  exact ⟨hle, ⟨p6, some ⟨g10, 0, none⟩, a14, r14⟩, rfl, ⟨v6.keep (.of_le (.refl _)) (by omega), ⟨g10, _, rfl, by omega, at10⟩, v14.keep (.of_le (.refl _)) (by omega)⟩⟩
set_option maxHeartbeats 4000000 in
theorem eqSetFunctor_c {c : SFun} {p p' : SFunP} {H : GHeap} (hin : c.In H p := by assumption) (hin' : c.In H p' := by assumption) (hs : c.Small := by assumption) : GCalls Try.prog 33 [.agg (c.cells p).toArray, .agg (c.cells p').toArray] H (Ret (.bool true) H) := by
  refine GCalls.ret rfl ?_
  obtain ⟨w0, w1, ⟨wa2, wb2⟩⟩ := hs
  refine GCalls.body (N := 23) (rs := [.tmp 4]) Try.func33 rfl rfl rfl rfl (fun Qx hret hend => ?_)
  refine .forget (fr' := [(0, some _), (1, some _)]) ⟨rfl, rfl, trivial⟩ ?_
  have hle := GHeap.Le.refl H
  have base_hin := hin
  have base_hin' := hin'
  refine .seq (fun K1 hK1 => ?_)
  refine .region ?_
  refine .r rfl rfl rfl (.boxR rfl sz_66_VSFun rfl) ?_
  rintro _ H2 ⟨g2, rfl, le2, ge2, at2⟩
  have nx_H2 := le2.1
  replace hle := hle.trans le2
  have lt_at2 := GHeap.lt_of_get at2
  replace hin := base_hin.mono hle
  replace hin' := base_hin'.mono hle
  have hb2 : SFun.At _ g2 0 c p := ⟨Mem.of_get at2, hin⟩
  obtain ⟨fsh2, c52, c62, i12, i22⟩ := hb2.get
  have hm2 : MemN _ _ _ _ _ := ⟨rfl, hb2.1⟩
  have hi2 := hb2.2
  have hmsh2 : MemN _ _ _ _ _ := ⟨rfl, fsh2.1⟩
  have hish2 := fsh2.2
  refine .r rfl rfl rfl (.boxR rfl sz_66_VSFun rfl) ?_
  rintro _ H3 ⟨g3, rfl, le3, ge3, at3⟩
  have nx_H3 := le3.1
  replace hle := hle.trans le3
  replace at2 := le3.2 _ _ at2
  have lt_at3 := GHeap.lt_of_get at3
  replace hin := base_hin.mono hle
  replace hin' := base_hin'.mono hle
  clear hb2 fsh2 c52 c62 i12 i22 hm2 hi2 hmsh2 hish2
  have hb2 : SFun.At _ g2 0 c p := ⟨Mem.of_get at2, hin⟩
  obtain ⟨fsh2, c52, c62, i12, i22⟩ := hb2.get
  have hm2 : MemN _ _ _ _ _ := ⟨rfl, hb2.1⟩
  have hi2 := hb2.2
  have hmsh2 : MemN _ _ _ _ _ := ⟨rfl, fsh2.1⟩
  have hish2 := fsh2.2
  have hb3 : SFun.At _ g3 0 c p' := ⟨Mem.of_get at3, hin'⟩
  obtain ⟨fsh3, c53, c63, i13, i23⟩ := hb3.get
  have hm3 : MemN _ _ _ _ _ := ⟨rfl, hb3.1⟩
  have hi3 := hb3.2
  have hmsh3 : MemN _ _ _ _ _ := ⟨rfl, fsh3.1⟩
  have hish3 := fsh3.2
  refine .m rfl rfl rfl (.assign rfl) ?_
  refine .nil ?_
  refine hK1 _ _ ?_
  refine .seq (fun K2 hK2 => ?_)
  refine .seq (fun K3 hK3 => ?_)
  refine .region ?_
  refine .m rfl rfl rfl (.fieldAddr fo_66_0_VSFun rfl) ?_
  refine .m rfl rfl rfl (.loadM ag_34_D rfl (by assumption)) ?_
  refine .m rfl rfl rfl (.fieldAddr fo_66_0_VSFun rfl) ?_
  refine .m rfl rfl rfl (.loadM ag_34_D rfl (by assumption)) ?_
  refine .callQ rfl rfl rfl rfl @Try.call40 rfl (eqCategory_c) ?_
  refine .m rfl rfl rfl (.not rfl) ?_
  refine .nil ?_
  refine hK3 _ _ ?_
  refine .cond rfl (fun h10 => ?_) (fun h10 => ?_)
  ·
   try simp only [sps] at h10
   refine .seq (fun K4 hK4 => ?_)
   refine .region ?_
   refine .m rfl rfl rfl (.assign rfl) ?_
   refine .nil ?_
   refine hK4 _ _ ?_
   refine .ret ?_
   -- leaf e1
   refine hret _ _ ?_
   refine ⟨_, rfl, ?_⟩
   first
   | exact ⟨rfl, hle⟩
   | exact absurd trivial (by assumption)
   | contradiction
   | (exfalso; omega)
   | (exfalso; simp_all)
  ·
   try simp only [sps] at h10
   refine .skip ?_
   refine hK2 _ _ ?_
   refine .seq (fun K5 hK5 => ?_)
   refine .seq (fun K6 hK6 => ?_)
   refine .region ?_
   refine .m rfl rfl rfl (.fieldAddr fo_66_1_VSFun rfl) ?_
   refine .m rfl rfl rfl (.load on_22_B rfl (by assumption)) ?_
   refine .m rfl rfl rfl (.fieldAddr fo_66_1_VSFun rfl) ?_
   refine .m rfl rfl rfl (.load on_22_B rfl (by assumption)) ?_
   refine .callQ rfl rfl rfl rfl @Try.call13 rfl (eqInt64S_c) ?_
   refine .m rfl rfl rfl (.not rfl) ?_
   refine .nil ?_
   refine hK6 _ _ ?_
   refine .cond rfl (fun h16 => ?_) (fun h16 => ?_)
   ·
    try simp only [sps] at h16
    refine .seq (fun K7 hK7 => ?_)
    refine .region ?_
    refine .m rfl rfl rfl (.assign rfl) ?_
    refine .nil ?_
    refine hK7 _ _ ?_
    refine .ret ?_
    -- leaf e2
    refine hret _ _ ?_
    refine ⟨_, rfl, ?_⟩
    first
    | exact ⟨rfl, hle⟩
    | exact absurd trivial (by assumption)
    | contradiction
    | (exfalso; omega)
    | (exfalso; simp_all)
   ·
    try simp only [sps] at h16
    refine .skip ?_
    refine hK5 _ _ ?_
    refine .seq (fun K8 hK8 => ?_)
    refine .seq (fun K9 hK9 => ?_)
    refine .region ?_
    refine .m rfl rfl rfl (.fieldAddr fo_66_2_VSFun rfl) ?_
    refine .m rfl rfl rfl (.load on_23_B rfl (by assumption)) ?_
    refine .m rfl rfl rfl (.fieldAddr fo_66_2_VSFun rfl) ?_
    refine .m rfl rfl rfl (.load on_23_B rfl (by assumption)) ?_
    refine .callQ rfl rfl rfl rfl @Try.call24 rfl (eqInt64SS_c) ?_
    refine .m rfl rfl rfl (.not rfl) ?_
    refine .nil ?_
    refine hK9 _ _ ?_
    refine .cond rfl (fun h22 => ?_) (fun h22 => ?_)
    ·
     try simp only [sps] at h22
     refine .seq (fun K10 hK10 => ?_)
     refine .region ?_
     refine .m rfl rfl rfl (.assign rfl) ?_
     refine .nil ?_
     refine hK10 _ _ ?_
     refine .ret ?_
     -- leaf e3
     refine hret _ _ ?_
     refine ⟨_, rfl, ?_⟩
     first
     | exact ⟨rfl, hle⟩
     | exact absurd trivial (by assumption)
     | contradiction
     | (exfalso; omega)
     | (exfalso; simp_all)
    ·
     try simp only [sps] at h22
     refine .skip ?_
     refine hK8 _ _ ?_
     refine .seq (fun K11 hK11 => ?_)
     refine .region ?_
     refine .m rfl rfl rfl (.assign rfl) ?_
     refine .nil ?_
     refine hK11 _ _ ?_
     refine .ret ?_
     -- leaf e4
     refine hret _ _ ?_
     refine ⟨_, rfl, ?_⟩
     first
     | exact ⟨rfl, hle⟩
     | exact absurd trivial (by assumption)
     | contradiction
     | (exfalso; omega)
     | (exfalso; simp_all)
end Go.Proofs.Ytbdaddkbkdiglaa
/- The laws' helpers for SetMap. No condition but those of each statement. -/
namespace Go.Proofs.Ytbdaddkbkdiglaa
open Go Go.GL Go.RowKit Go.Proofs
end Go.Proofs.Ytbdaddkbkdiglaa
/- Maps of set functors. No condition but those of each statement. -/
namespace Go.Proofs.Ytbdaddkbkdiglaa
open Go Go.GL Go.RowKit Go.Proofs
theorem l19Shape_c {f : SFun} {p : SFunP} {H : GHeap} (hin : f.In H p := by assumption) (hs : f.Small := by assumption) : GCalls Try.prog 114 [.agg (f.cells p).toArray] H (Ret (.bool (B f.Shape)) H) := by
  refine GCalls.ret rfl ?_
  refine GCalls.body (N := 85) (rs := [.tmp 2]) Try.func114 rfl rfl rfl rfl (fun Qx hret hend => ?_)
  refine .forget (fr' := [(0, some _)]) ⟨rfl, trivial⟩ ?_
  have hle := GHeap.Le.refl H
  have base_hin := hin
  obtain ⟨s1, s2, s3, s4⟩ := hs
  refine .seq (fun K1 hK1 => ?_)
  refine .region ?_
  refine .r rfl rfl rfl (.boxR rfl sz_66_VSFun rfl) ?_
  rintro _ H1 ⟨g1, rfl, le1, ge1, at1⟩
  have nx_H1 := le1.1
  replace hle := hle.trans le1
  have lt_at1 := GHeap.lt_of_get at1
  replace hin := base_hin.mono hle
  have hb1 : SFun.At _ g1 0 f p := ⟨Mem.of_get at1, hin⟩
  obtain ⟨fsh1, c51, c61, i11, i21⟩ := hb1.get
  have hm1 : MemN _ _ _ _ _ := ⟨rfl, hb1.1⟩
  have hi1 := hb1.2
  have hmsh1 : MemN _ _ _ _ _ := ⟨rfl, fsh1.1⟩
  have hish1 := fsh1.2
  refine .m rfl rfl rfl (.assign rfl) ?_
  refine .nil ?_
  refine hK1 _ _ ?_
  refine .seq (fun K2 hK2 => ?_)
  refine .seq (fun K3 hK3 => ?_)
  refine .region ?_
  obtain ⟨c0, c1, c2, c3, c4, d1, d2, d3, d4⟩ := fsh1.get
  refine .m rfl rfl rfl (.fieldAddr fo_66_0_P rfl) ?_
  refine .m rfl rfl rfl (.loadM ag_34_D rfl (by assumption)) ?_
  refine .callQ rfl rfl rfl rfl @Try.call63 rfl (l02Is_c) ?_
  refine .m rfl rfl rfl (.not rfl) ?_
  refine .m rfl rfl rfl (.move rfl) ?_
  refine .split (fun h9 => ?_) (fun h9 => ?_)
  ·
   try simp only [sps] at h9
   refine .sg rfl rfl rfl rfl rfl ?_
   refine .sg rfl rfl rfl rfl rfl ?_
   refine .sg rfl rfl rfl rfl rfl ?_
   refine .sg rfl rfl rfl rfl rfl ?_
   refine .sg rfl rfl rfl rfl rfl ?_
   refine .sg rfl rfl rfl rfl rfl ?_
   refine .sg rfl rfl rfl rfl rfl ?_
   refine .m rfl rfl rfl (.pickT rfl rfl) ?_
   refine .m rfl rfl rfl (.move rfl) ?_
   refine .sg rfl rfl rfl rfl rfl ?_
   refine .sg rfl rfl rfl rfl rfl ?_
   refine .sg rfl rfl rfl rfl rfl ?_
   refine .sg rfl rfl rfl rfl rfl ?_
   refine .sg rfl rfl rfl rfl rfl ?_
   refine .sg rfl rfl rfl rfl rfl ?_
   refine .sg rfl rfl rfl rfl rfl ?_
   refine .sg rfl rfl rfl rfl rfl ?_
   refine .m rfl rfl rfl (.pickT rfl rfl) ?_
   refine .nil ?_
   refine hK3 _ _ ?_
   refine .condT rfl ?_
   refine .seq (fun K4 hK4 => ?_)
   refine .region ?_
   refine .m rfl rfl rfl (.assign rfl) ?_
   refine .nil ?_
   refine hK4 _ _ ?_
   refine .ret ?_
   -- leaf e1
   refine hret _ _ ?_
   refine ⟨_, rfl, ?_⟩
   exact ⟨congrArg _ (B_false fun hh => h9 hh.c), hle⟩
  ·
   try simp only [sps] at h9
   refine .mg rfl rfl rfl rfl rfl (.fieldAddr fo_66_1_P rfl) ?_
   refine .mg rfl rfl rfl rfl rfl (.load on_22_B rfl (by assumption)) ?_
   refine .mg rfl rfl rfl rfl rfl (.len sl_22_A rfl) ?_
   refine .mg rfl rfl rfl rfl rfl (.fieldAddr fo_66_0_P rfl) ?_
   refine .mg rfl rfl rfl rfl rfl (.fieldAddr fo_34_0_B rfl) ?_
   refine .mg rfl rfl rfl rfl rfl (.load on_2_A rfl (by assumption)) ?_
   refine .mg rfl rfl rfl rfl rfl (.cmp rfl rfl rfl) ?_
   refine .m rfl rfl rfl (.pickF rfl rfl) ?_
   refine .m rfl rfl rfl (.move rfl) ?_
   refine .split (fun h18 => ?_) (fun h18 => ?_)
   ·
    try simp only [sps] at h18
    refine .sg rfl rfl rfl rfl rfl ?_
    refine .sg rfl rfl rfl rfl rfl ?_
    refine .sg rfl rfl rfl rfl rfl ?_
    refine .sg rfl rfl rfl rfl rfl ?_
    refine .sg rfl rfl rfl rfl rfl ?_
    refine .sg rfl rfl rfl rfl rfl ?_
    refine .sg rfl rfl rfl rfl rfl ?_
    refine .sg rfl rfl rfl rfl rfl ?_
    refine .m rfl rfl rfl (.pickT rfl rfl) ?_
    refine .nil ?_
    refine hK3 _ _ ?_
    refine .condT rfl ?_
    refine .seq (fun K5 hK5 => ?_)
    refine .region ?_
    refine .m rfl rfl rfl (.assign rfl) ?_
    refine .nil ?_
    refine hK5 _ _ ?_
    refine .ret ?_
    -- leaf e2
    refine hret _ _ ?_
    refine ⟨_, rfl, ?_⟩
    exact ⟨congrArg _ (B_false fun hh => h18 hh.zl), hle⟩
   ·
    try simp only [sps] at h18
    refine .mg rfl rfl rfl rfl rfl (.fieldAddr fo_66_2_P rfl) ?_
    refine .mg rfl rfl rfl rfl rfl (.load on_23_B rfl (by assumption)) ?_
    refine .mg rfl rfl rfl rfl rfl (.len sl_23_B rfl) ?_
    refine .mg rfl rfl rfl rfl rfl (.fieldAddr fo_66_0_P rfl) ?_
    refine .mg rfl rfl rfl rfl rfl (.fieldAddr fo_34_1_B rfl) ?_
    refine .mg rfl rfl rfl rfl rfl (.load on_22_B rfl (by assumption)) ?_
    refine .mg rfl rfl rfl rfl rfl (.len sl_22_A rfl) ?_
    refine .mg rfl rfl rfl rfl rfl (.cmp rfl rfl rfl) ?_
    refine .m rfl rfl rfl (.pickF rfl rfl) ?_
    refine .nil ?_
    refine hK3 _ _ ?_
    refine .cond rfl (fun h27 => ?_) (fun h27 => ?_)
    ·
     try simp only [sps] at h27
     refine .seq (fun K6 hK6 => ?_)
     refine .region ?_
     refine .m rfl rfl rfl (.assign rfl) ?_
     refine .nil ?_
     refine hK6 _ _ ?_
     refine .ret ?_
     -- leaf e3
     refine hret _ _ ?_
     refine ⟨_, rfl, ?_⟩
     exact ⟨congrArg _ (B_false fun hh => by have := hh.al; omega), hle⟩
    ·
     try simp only [sps] at h27
     refine .skip ?_
     refine hK2 _ _ ?_
     refine .seq (fun K7 hK7 => ?_)
     refine .seq (fun K8 hK8 => ?_)
     refine .region ?_
     refine .m rfl rfl rfl (.assign rfl) ?_
     refine .nil ?_
     refine hK8 _ _ ?_
     refine .block ?_
     have hC := h9
     have hS := hC.1
     have q1 := hS.tl
     have q2 := hS.obj
     refine .loopR (σ := Nat) [(1, some _)] (fun j => [(3, some (.int .i64 (j : Int)))]) (fun j H' => H1 = H' ∧ (j : Int) ≤ f.sz.length ∧ ∀ i, i < j → 0 ≤ f.sz.getD i 0 ∧ f.sz.getD i 0 ≤ 16) (fun j => (f.sz.length - j : Int).toNat) (0) ⟨rfl, trivial⟩ ⟨rfl, trivial⟩ ?_ ?_
     ·
      refine ⟨rfl, ?_⟩
      exact ⟨by omega, fun _ _ => by omega⟩
     ·
      rintro j _ ⟨rfl, hI⟩ KL1 hKL1
      refine .forget (fr' := [(3, some (.int .i64 (j : Int))), (1, some _)]) ⟨rfl, rfl, trivial⟩ ?_
      obtain ⟨hk1, ha1⟩ := hI
      refine .seq (fun K9 hK9 => ?_)
      refine .seq (fun K10 hK10 => ?_)
      refine .region ?_
      refine .m rfl rfl rfl (.move rfl) ?_
      refine .m rfl rfl rfl (.fieldAddr fo_66_1_P rfl) ?_
      refine .m rfl rfl rfl (.load on_22_B rfl (by assumption)) ?_
      refine .m rfl rfl rfl (.len sl_22_A rfl) ?_
      refine .m rfl rfl rfl (.cmp rfl rfl rfl) ?_
      refine .nil ?_
      refine hK10 _ _ ?_
      refine .cond rfl (fun h32 => ?_) (fun h32 => ?_)
      ·
       try simp only [sps] at h32
       refine .skip ?_
       refine hK9 _ _ ?_
       refine .seq (fun K11 hK11 => ?_)
       refine .block ?_
       refine .seq (fun K12 hK12 => ?_)
       refine .region ?_
       refine .m rfl rfl rfl (.fieldAddr fo_66_1_P rfl) ?_
       refine .m rfl rfl rfl (.load on_22_B rfl (by assumption)) ?_
       refine .m rfl rfl rfl (.move rfl) ?_
       refine .m rfl rfl rfl (.idxN sl_22_A (by assumption) rfl rfl (by omega)) ?_
       refine .m rfl rfl rfl (.loadI on_2_A (by assumption) rfl (by omega)) ?_
       refine .callQ rfl rfl rfl rfl @Try.call119 rfl (l01In_c) ?_
       refine .m rfl rfl rfl (.not rfl) ?_
       refine .nil ?_
       refine hK12 _ _ ?_
       refine .cond rfl (fun h41 => ?_) (fun h41 => ?_)
       ·
        try simp only [sps] at h41
        refine .seq (fun K13 hK13 => ?_)
        refine .region ?_
        refine .m rfl rfl rfl (.assign rfl) ?_
        refine .nil ?_
        refine hK13 _ _ ?_
        refine .ret ?_
        -- leaf e4
        refine hret _ _ ?_
        refine ⟨_, rfl, ?_⟩
        exact ⟨congrArg _ (B_false fun hh => by have := hh.sz j (by omega); omega), hle⟩
       ·
        try simp only [sps] at h41
        refine .skip ?_
        refine hK11 _ _ ?_
        refine .region ?_
        refine .m rfl rfl rfl (.move rfl) ?_
        refine .m rfl rfl rfl (.add rfl rfl rfl (by omega) (by omega)) ?_
        refine .m rfl rfl rfl (.assign rfl) ?_
        refine .nil ?_
        refine hKL1 (j + 1) _ _ ?_ ?_ ⟨rfl, rfl, trivial⟩
        ·
         refine ⟨rfl, ?_⟩
         refine ⟨by omega, fun i hx => ?_⟩
         by_cases hltq : i < j
         · exact ha1 i hltq
         · obtain rfl : i = j := by omega
           exact h41
        ·
         omega
      ·
       try simp only [sps] at h32
       refine .exit ?_
       refine hK7 _ _ ?_
       refine .seq (fun K14 hK14 => ?_)
       refine .seq (fun K15 hK15 => ?_)
       refine .region ?_
       refine .m rfl rfl rfl (.assign rfl) ?_
       refine .nil ?_
       refine hK15 _ _ ?_
       refine .block ?_
       refine .loopR (σ := Nat) [(1, some _)] (fun k => [(4, some (.int .i64 (k : Int)))]) (fun k H' => H1 = H' ∧ (k : Int) ≤ f.ac.length ∧ ∀ a, a < k → f.AcOk a) (fun k => (f.ac.length - k : Int).toNat) (0) ⟨rfl, trivial⟩ ⟨rfl, trivial⟩ ?_ ?_
       ·
        refine ⟨rfl, ?_⟩
        exact ⟨by omega, fun _ _ => by omega⟩
       ·
        rintro k _ ⟨rfl, hI⟩ KL2 hKL2
        refine .forget (fr' := [(4, some (.int .i64 (k : Int))), (1, some _)]) ⟨rfl, rfl, trivial⟩ ?_
        obtain ⟨hk2, ha2⟩ := hI
        refine .seq (fun K16 hK16 => ?_)
        refine .seq (fun K17 hK17 => ?_)
        refine .region ?_
        refine .m rfl rfl rfl (.move rfl) ?_
        refine .m rfl rfl rfl (.fieldAddr fo_66_2_P rfl) ?_
        refine .m rfl rfl rfl (.load on_23_B rfl (by assumption)) ?_
        refine .m rfl rfl rfl (.len sl_23_B rfl) ?_
        refine .m rfl rfl rfl (.cmp rfl rfl rfl) ?_
        refine .nil ?_
        refine hK17 _ _ ?_
        refine .cond rfl (fun h46 => ?_) (fun h46 => ?_)
        ·
         simp only [sps] at h46
         have q3 := hS.src k (by omega)
         have q4 := hS.tgt k (by omega)
         have q6 := i21.2 k (by omega)
         have q7 := s4 k
         refine .skip ?_
         refine hK16 _ _ ?_
         refine .seq (fun K18 hK18 => ?_)
         refine .block ?_
         refine .seq (fun K19 hK19 => ?_)
         refine .regionD mixed_orders_B (.q 0 (.q 1 (.q 2 (.q 3 (.q 4 (.q 5 (.q 6 (.q 7 (.q 8 (.q 9 (.q 10 (.q 11 (.q 12 (.q 13 (.q 14 (.q 15 (.q 16 (.q 17 (.q 18 (.q 19 (.q 20 (.q 21 (.q 22 (.q 23 (.q 24 (.q 25 (.q 26 (.q 27 (.q 28 (.q 29 (.q 30 (.q 31 (.q 32 (.c 33 0 (.q 34 (.q 35 (.done))))))))))))))))))))))))))))))))))))) (by kernel_rfl) ?_
         refine .m rfl rfl rfl rfl (.refl _) (.fieldAddr fo_66_2_P rfl) ?_
         refine .m rfl rfl rfl rfl (.refl _) (.load on_23_B rfl (by assumption)) ?_
         refine .m rfl rfl rfl rfl (.refl _) (.move rfl) ?_
         refine .m rfl rfl rfl rfl (.refl _) (.idxN sl_23_B (Intss.sl (by assumption)) rfl rfl (by omega)) ?_
         refine .m rfl rfl rfl rfl (.refl _) (.loadR on_22_B (by assumption) rfl (by omega)) ?_
         refine .m rfl rfl rfl rfl (.refl _) (.len sl_22_A rfl) ?_
         refine .m rfl rfl rfl rfl (.refl _) (.fieldAddr fo_66_1_P rfl) ?_
         refine .m rfl rfl rfl rfl (.refl _) (.load on_22_B rfl (by assumption)) ?_
         refine .m rfl rfl rfl rfl (.refl _) (.fieldAddr fo_66_0_P rfl) ?_
         refine .m rfl rfl rfl rfl (.refl _) (.fieldAddr fo_34_1_B rfl) ?_
         refine .m rfl rfl rfl rfl (.refl _) (.load on_22_B rfl (by assumption)) ?_
         refine .m rfl rfl rfl rfl (.refl _) (.move rfl) ?_
         refine .m rfl rfl rfl rfl (.refl _) (.idxN sl_22_A (by assumption) rfl rfl (by omega)) ?_
         refine .m rfl rfl rfl rfl (.refl _) (.loadI on_2_A (by assumption) rfl (by omega)) ?_
         refine .m rfl rfl rfl rfl (.refl _) (.idx1 sl_22_A (by assumption) rfl rfl (by omega) (by omega)) ?_
         refine .m rfl rfl rfl rfl (.refl _) (.loadI on_2_A (by assumption) rfl (by omega)) ?_
         refine .m rfl rfl rfl rfl (.refl _) (.cmp rfl rfl rfl) ?_
         refine .m rfl rfl rfl rfl (.refl _) (.move rfl) ?_
         refine .split (fun h66 => ?_) (fun h66 => ?_)
         ·
          try simp only [sps] at h66
          refine .sg rfl rfl rfl rfl rfl rfl ?_
          refine .sg rfl rfl rfl rfl rfl rfl ?_
          refine .sg rfl rfl rfl rfl rfl rfl ?_
          refine .sg rfl rfl rfl rfl rfl rfl ?_
          refine .sg rfl rfl rfl rfl rfl rfl ?_
          refine .sg rfl rfl rfl rfl rfl rfl ?_
          refine .sg rfl rfl rfl rfl rfl rfl ?_
          refine .sg rfl rfl rfl rfl rfl rfl ?_
          refine .sg rfl rfl rfl rfl rfl rfl ?_
          refine .sg rfl rfl rfl rfl rfl rfl ?_
          refine .sg rfl rfl rfl rfl rfl rfl ?_
          refine .sg rfl rfl rfl rfl rfl rfl ?_
          refine .sg rfl rfl rfl rfl rfl rfl ?_
          refine .sg rfl rfl rfl rfl rfl rfl ?_
          refine .sg rfl rfl rfl rfl rfl rfl ?_
          refine .sgc rfl rfl rfl rfl rfl rfl ?_
          refine .sg rfl rfl rfl rfl rfl rfl ?_
          refine .m rfl rfl rfl rfl (.refl _) (.pickT rfl rfl) ?_
          refine .done ?_
          refine hK19 _ _ ?_
          refine .condT rfl ?_
          refine .seq (fun K20 hK20 => ?_)
          refine .region ?_
          refine .m rfl rfl rfl (.assign rfl) ?_
          refine .nil ?_
          refine hK20 _ _ ?_
          refine .ret ?_
          -- leaf e5
          refine hret _ _ ?_
          refine ⟨_, rfl, ?_⟩
          exact ⟨congrArg _ (B_false fun hh => h66 (hh.ac k (by omega)).1), hle⟩
         ·
          try simp only [sps] at h66
          refine .mg rfl rfl rfl rfl rfl rfl (.refl _) (.fieldAddr fo_66_1_P rfl) ?_
          refine .mg rfl rfl rfl rfl rfl rfl (.refl _) (.load on_22_B rfl (by assumption)) ?_
          refine .mg rfl rfl rfl rfl rfl rfl (.refl _) (.fieldAddr fo_66_0_P rfl) ?_
          refine .mg rfl rfl rfl rfl rfl rfl (.refl _) (.fieldAddr fo_34_2_B rfl) ?_
          refine .mg rfl rfl rfl rfl rfl rfl (.refl _) (.load on_22_B rfl (by assumption)) ?_
          refine .mg rfl rfl rfl rfl rfl rfl (.refl _) (.move rfl) ?_
          refine .mg rfl rfl rfl rfl rfl rfl (.refl _) (.idxN sl_22_A (by assumption) rfl rfl (by omega)) ?_
          refine .mg rfl rfl rfl rfl rfl rfl (.refl _) (.loadI on_2_A (by assumption) rfl (by omega)) ?_
          refine .mg rfl rfl rfl rfl rfl rfl (.refl _) (.idx1 sl_22_A (by assumption) rfl rfl (by omega) (by omega)) ?_
          refine .mg rfl rfl rfl rfl rfl rfl (.refl _) (.loadI on_2_A (by assumption) rfl (by omega)) ?_
          refine .mg rfl rfl rfl rfl rfl rfl (.refl _) (.fieldAddr fo_66_2_P rfl) ?_
          refine .mg rfl rfl rfl rfl rfl rfl (.refl _) (.load on_23_B rfl (by assumption)) ?_
          refine .mg rfl rfl rfl rfl rfl rfl (.refl _) (.move rfl) ?_
          refine .mg rfl rfl rfl rfl rfl rfl (.refl _) (.idxN sl_23_B (Intss.sl (by assumption)) rfl rfl (by omega)) ?_
          refine .mg rfl rfl rfl rfl rfl rfl (.refl _) (.loadR on_22_B (by assumption) rfl (by omega)) ?_
          refine .callQ0g rfl rfl rfl rfl rfl rfl rfl @Try.call69 rfl (l01Map_c) ?_
          refine .mg rfl rfl rfl rfl rfl rfl (.refl _) (.not rfl) ?_
          refine .m rfl rfl rfl rfl (.refl _) (.pickF rfl rfl) ?_
          refine .done ?_
          refine hK19 _ _ ?_
          refine .cond rfl (fun h84 => ?_) (fun h84 => ?_)
          ·
           simp only [B_iff, B_not, Bool.not_eq_true', Bool.not_eq_false'] at h84
           refine .seq (fun K21 hK21 => ?_)
           refine .region ?_
           refine .m rfl rfl rfl (.assign rfl) ?_
           refine .nil ?_
           refine hK21 _ _ ?_
           refine .ret ?_
           -- leaf e6
           refine hret _ _ ?_
           refine ⟨_, rfl, ?_⟩
           exact ⟨congrArg _ (B_false fun hh => by rw [(hh.ac k (by omega)).2] at h84; cases h84), hle⟩
          ·
           simp only [B_iff, B_not, Bool.not_eq_true', Bool.not_eq_false'] at h84
           refine .skip ?_
           refine hK18 _ _ ?_
           refine .region ?_
           refine .m rfl rfl rfl (.move rfl) ?_
           refine .m rfl rfl rfl (.add rfl rfl rfl (by omega) (by omega)) ?_
           refine .m rfl rfl rfl (.assign rfl) ?_
           refine .nil ?_
           refine hKL2 (k + 1) _ _ ?_ ?_ ⟨rfl, rfl, trivial⟩
           ·
            refine ⟨rfl, ?_⟩
            refine ⟨by omega, fun a hx => ?_⟩
            by_cases hltq : a < k
            · exact ha2 a hltq
            · obtain rfl : a = k := by omega
              exact ⟨by omega, h84⟩
           ·
            omega
        ·
         try simp only [sps] at h46
         refine .exit ?_
         refine hK14 _ _ ?_
         refine .seq (fun K22 hK22 => ?_)
         refine .region ?_
         refine .m rfl rfl rfl (.assign rfl) ?_
         refine .nil ?_
         refine hK22 _ _ ?_
         refine .ret ?_
         -- leaf e7
         refine hret _ _ ?_
         refine ⟨_, rfl, ?_⟩
         exact ⟨congrArg _ (B_true ⟨hC, by omega, fun i hi => ha1 i (by omega), by omega, fun a ha => ha2 a (by omega)⟩), hle⟩
theorem l19Fault_c {f : SFun} {p : SFunP} {H : GHeap} (hin : f.In H p := by assumption) (hS : f.Shape := by assumption) :
    GCalls Try.prog 115 [.agg (f.cells p).toArray] H (fun v H' => ((∃ k x y z, v = .tuple #[.int .i64 k, .int .i64 x, .int .i64 y, .int .i64 z] ∧ (k = 0 ↔ f.Laws)) ∧ flat v = true) ∧ H' = H) := by
  refine (GCalls.quiet (φ := fun v => (∃ k x y z, v = .tuple #[.int .i64 k, .int .i64 x, .int .i64 y, .int .i64 z] ∧ (k = 0 ↔ f.Laws)) ∧ flat v = true) ?_)
  refine GCalls.body (N := 117) (rs := [.tmp 2, .tmp 3, .tmp 4, .tmp 5]) Try.func115 rfl rfl rfl rfl (fun Qx hret hend => ?_)
  refine .forget (fr' := [(0, some _)]) ⟨rfl, trivial⟩ ?_
  have hle := GHeap.Le.refl H
  have base_hin := hin
  have hC := hS.c.1
  have q1 := hC.tl
  have q2 := hC.obj
  have q3 := hC.n40
  have q4 := hC.cl
  have q5 := hC.il
  have q6 := hS.al
  have q7 := hS.zl
  refine .seq (fun K1 hK1 => ?_)
  refine .region ?_
  refine .r rfl rfl rfl (.boxR rfl sz_66_VSFun rfl) ?_
  rintro _ H1 ⟨g1, rfl, le1, ge1, at1⟩
  have nx_H1 := le1.1
  replace hle := hle.trans le1
  have lt_at1 := GHeap.lt_of_get at1
  replace hin := base_hin.mono hle
  have hb1 : SFun.At _ g1 0 f p := ⟨Mem.of_get at1, hin⟩
  obtain ⟨fsh1, c51, c61, i11, i21⟩ := hb1.get
  have hm1 : MemN _ _ _ _ _ := ⟨rfl, hb1.1⟩
  have hi1 := hb1.2
  have hmsh1 : MemN _ _ _ _ _ := ⟨rfl, fsh1.1⟩
  have hish1 := fsh1.2
  refine .m rfl rfl rfl (.assign rfl) ?_
  refine .m rfl rfl rfl (.assign rfl) ?_
  refine .m rfl rfl rfl (.assign rfl) ?_
  refine .m rfl rfl rfl (.assign rfl) ?_
  refine .nil ?_
  refine hK1 _ _ ?_
  refine .seq (fun K2 hK2 => ?_)
  refine .region ?_
  refine .m rfl rfl rfl (.fieldAddr fo_66_0_P rfl) ?_
  refine .m rfl rfl rfl (.loadM ag_34_D rfl (by assumption)) ?_
  refine .r rfl rfl rfl (.allocR rfl ze_34_E rfl) ?_
  rintro _ H6 ⟨g6, rfl, le6, ge6, at6⟩
  have nx_H6 := le6.1
  replace hle := hle.trans le6
  replace at1 := le6.2 _ _ at1
  have lt_at6 := GHeap.lt_of_get at6
  replace hin := base_hin.mono hle
  clear hb1 fsh1 c51 c61 i11 i21 hm1 hi1 hmsh1 hish1
  have hb1 : SFun.At _ g1 0 f p := ⟨Mem.of_get at1, hin⟩
  obtain ⟨fsh1, c51, c61, i11, i21⟩ := hb1.get
  have hm1 : MemN _ _ _ _ _ := ⟨rfl, hb1.1⟩
  have hi1 := hb1.2
  have hmsh1 : MemN _ _ _ _ _ := ⟨rfl, fsh1.1⟩
  have hish1 := fsh1.2
  refine .r0 rfl rfl (.fillR rfl sz_34_D rfl rfl rfl rfl (by assumption) (by first | rfl | exact Nat.le_of_ble_eq_true rfl | simp)) ?_
  rintro _ H1003 ⟨rfl, st1003, at1003⟩
  have nx_H1003 := st1003.nx
  replace hle := hle.st st1003 (fun k hk => ⟨by omega, trivial⟩)
  replace at1 := st1003.same _ _ ⟨by omega, trivial⟩ at1
  have lt_at1003 := GHeap.lt_of_get at1003
  replace hin := base_hin.mono hle
  clear hb1 fsh1 c51 c61 i11 i21 hm1 hi1 hmsh1 hish1
  have hb1 : SFun.At _ g1 0 f p := ⟨Mem.of_get at1, hin⟩
  obtain ⟨fsh1, c51, c61, i11, i21⟩ := hb1.get
  have hm1 : MemN _ _ _ _ _ := ⟨rfl, hb1.1⟩
  have hi1 := hb1.2
  have hmsh1 : MemN _ _ _ _ _ := ⟨rfl, fsh1.1⟩
  have hish1 := fsh1.2
  have mm1003 : MemN _ _ _ _ _ := ⟨rfl, Mem.of_get at1003⟩
  have hb6 : Cat.At _ g6 0 f.sh p.sh := ⟨Mem.of_get at1003, hish1⟩
  obtain ⟨c06, c16, c26, c36, c46, i16, i26, i36, i46⟩ := hb6.get
  have hm6 : MemN _ _ _ _ _ := ⟨rfl, hb6.1⟩
  have hi6 := hb6.2
  refine .nil ?_
  refine hK2 _ _ ?_
  refine .seq (fun K3 hK3 => ?_)
  refine .seq (fun K4 hK4 => ?_)
  refine .region ?_
  refine .m rfl rfl rfl (.assign rfl) ?_
  refine .nil ?_
  refine hK4 _ _ ?_
  refine .block ?_
  refine .loopR (σ := Nat) [(1, some _), (6, some _)] (fun k => [(7, some (.int .i64 (k : Int)))]) (fun k H' => H1003 = H' ∧ (k : Int) ≤ f.sh.obj ∧ ∀ x, x < k → ∀ e : Nat, e < (f.ac.getD (f.sh.idn.getD x 0).toNat []).length → (f.ac.getD (f.sh.idn.getD x 0).toNat []).getD e 0 = e) (fun k => (f.sh.obj - k : Int).toNat) (0) ⟨rfl, rfl, trivial⟩ ⟨rfl, trivial⟩ ?_ ?_
  ·
   refine ⟨rfl, ?_⟩
   exact ⟨by omega, fun _ _ => by omega⟩
  ·
   rintro k _ ⟨rfl, hI⟩ KL1 hKL1
   refine .forget (fr' := [(7, some (.int .i64 (k : Int))), (1, some _), (6, some _)]) ⟨rfl, rfl, rfl, trivial⟩ ?_
   obtain ⟨hk1, ha1⟩ := hI
   refine .seq (fun K5 hK5 => ?_)
   refine .seq (fun K6 hK6 => ?_)
   refine .region ?_
   refine .m rfl rfl rfl (.move rfl) ?_
   refine .m rfl rfl rfl (.fieldAddr fo_34_0_B rfl) ?_
   refine .m rfl rfl rfl (.load on_2_A rfl (by assumption)) ?_
   refine .m rfl rfl rfl (.cmp rfl rfl rfl) ?_
   refine .nil ?_
   refine hK6 _ _ ?_
   refine .cond rfl (fun h17 => ?_) (fun h17 => ?_)
   ·
    simp only [sps] at h17
    have r1 := hC.idn k (by omega)
    have r2 := i21.2 (f.sh.idn.getD k 0).toNat (by omega)
    have r3 := hS.ends (a := (f.sh.idn.getD k 0).toNat) (by omega)
    rw [(hC.ids k (by omega)).1] at r3
    have r4 := hS.sz k (by omega)
    have r5 : ((k : Int)).toNat = k := Int.toNat_natCast k
    rw [r5] at r3
    refine .skip ?_
    refine hK5 _ _ ?_
    refine .seq (fun K7 hK7 => ?_)
    refine .block ?_
    refine .seq (fun K8 hK8 => ?_)
    refine .region ?_
    refine .m rfl rfl rfl (.assign rfl) ?_
    refine .nil ?_
    refine hK8 _ _ ?_
    refine .block ?_
    refine .loopR (σ := Nat) [(1, some _), (6, some _), (7, some _)] (fun l => [(8, some (.int .i64 (l : Int)))]) (fun l H' => H1003 = H' ∧ (l : Int) ≤ (f.ac.getD (f.sh.idn.getD k 0).toNat []).length ∧ ∀ e, e < l → (f.ac.getD (f.sh.idn.getD k 0).toNat []).getD e 0 = e) (fun l => ((f.ac.getD (f.sh.idn.getD k 0).toNat []).length - l : Int).toNat) (0) ⟨rfl, rfl, rfl, trivial⟩ ⟨rfl, trivial⟩ ?_ ?_
    ·
     refine ⟨rfl, ?_⟩
     exact ⟨by omega, fun _ _ => by omega⟩
    ·
     rintro l _ ⟨rfl, hI⟩ KL2 hKL2
     refine .forget (fr' := [(8, some (.int .i64 (l : Int))), (1, some _), (6, some _), (7, some _)]) ⟨rfl, rfl, rfl, rfl, trivial⟩ ?_
     obtain ⟨hk2, ha2⟩ := hI
     refine .seq (fun K9 hK9 => ?_)
     refine .seq (fun K10 hK10 => ?_)
     refine .region ?_
     refine .m rfl rfl rfl (.move rfl) ?_
     refine .m rfl rfl rfl (.fieldAddr fo_66_1_P rfl) ?_
     refine .m rfl rfl rfl (.load on_22_B rfl (by assumption)) ?_
     refine .m rfl rfl rfl (.move rfl) ?_
     refine .m rfl rfl rfl (.idxN sl_22_A (by assumption) rfl rfl (by omega)) ?_
     refine .m rfl rfl rfl (.loadI on_2_A (by assumption) rfl (by omega)) ?_
     refine .m rfl rfl rfl (.cmp rfl rfl rfl) ?_
     refine .nil ?_
     refine hK10 _ _ ?_
     refine .cond rfl (fun h26 => ?_) (fun h26 => ?_)
     ·
      try simp only [sps] at h26
      refine .skip ?_
      refine hK9 _ _ ?_
      refine .seq (fun K11 hK11 => ?_)
      refine .block ?_
      refine .seq (fun K12 hK12 => ?_)
      refine .regionD mixed_orders_B (.q 0 (.q 1 (.q 2 (.q 3 (.q 4 (.q 5 (.q 6 (.q 7 (.q 8 (.q 9 (.q 10 (.q 11 (.q 12 (.q 13 (.done))))))))))))))) (by kernel_rfl) ?_
      refine .m rfl rfl rfl rfl (.refl _) (.fieldAddr fo_66_2_P rfl) ?_
      refine .m rfl rfl rfl rfl (.refl _) (.load on_23_B rfl (by assumption)) ?_
      refine .m rfl rfl rfl rfl (.refl _) (.fieldAddr fo_34_3_B rfl) ?_
      refine .m rfl rfl rfl rfl (.refl _) (.load on_22_B rfl (by assumption)) ?_
      refine .m rfl rfl rfl rfl (.refl _) (.move rfl) ?_
      refine .m rfl rfl rfl rfl (.refl _) (.idxN sl_22_A (by assumption) rfl rfl (by omega)) ?_
      refine .m rfl rfl rfl rfl (.refl _) (.loadI on_2_A (by assumption) rfl (by omega)) ?_
      refine .m rfl rfl rfl rfl (.refl _) (.idx1 sl_23_B (Intss.sl (by assumption)) rfl rfl (by omega) (by omega)) ?_
      refine .m rfl rfl rfl rfl (.refl _) (.loadR on_22_B (by assumption) rfl (by omega)) ?_
      refine .m rfl rfl rfl rfl (.refl _) (.move rfl) ?_
      refine .m rfl rfl rfl rfl (.refl _) (.idxN sl_22_A (by assumption) rfl rfl (by omega)) ?_
      refine .m rfl rfl rfl rfl (.refl _) (.loadI on_2_A (by assumption) rfl (by omega)) ?_
      refine .m rfl rfl rfl rfl (.refl _) (.move rfl) ?_
      refine .m rfl rfl rfl rfl (.refl _) (.cmp rfl rfl rfl) ?_
      refine .done ?_
      refine hK12 _ _ ?_
      refine .cond rfl (fun h42 => ?_) (fun h42 => ?_)
      ·
       try simp only [sps] at h42
       refine .seq (fun K13 hK13 => ?_)
       refine .region ?_
       refine .m rfl rfl rfl (.move rfl) ?_
       refine .m rfl rfl rfl (.move rfl) ?_
       refine .m rfl rfl rfl (.assign rfl) ?_
       refine .m rfl rfl rfl (.assign rfl) ?_
       refine .m rfl rfl rfl (.assign rfl) ?_
       refine .m rfl rfl rfl (.assign rfl) ?_
       refine .nil ?_
       refine hK13 _ _ ?_
       refine .ret ?_
       -- leaf e1
       refine hret _ _ ?_
       refine ⟨_, _, _, _, rfl, rfl, rfl, rfl, ?_⟩
       exact ⟨⟨⟨_, _, _, _, rfl, ⟨fun hh => absurd hh (by decide), fun hL => absurd (hL.ids k (by omega) l (by omega)) h42⟩⟩, rfl⟩, rfl, hle⟩
      ·
       try simp only [sps] at h42
       refine .skip ?_
       refine hK11 _ _ ?_
       refine .region ?_
       refine .m rfl rfl rfl (.move rfl) ?_
       refine .m rfl rfl rfl (.add rfl rfl rfl (by omega) (by omega)) ?_
       refine .m rfl rfl rfl (.assign rfl) ?_
       refine .nil ?_
       refine hKL2 (l + 1) _ _ ?_ ?_ ⟨rfl, rfl, rfl, rfl, trivial⟩
       ·
        refine ⟨rfl, ?_⟩
        refine ⟨by omega, fun e hx => ?_⟩
        by_cases hltq : e < l
        · exact ha2 e hltq
        · obtain rfl : e = l := by omega
          exact h42
       ·
        omega
     ·
      try simp only [sps] at h26
      refine .exit ?_
      refine hK7 _ _ ?_
      refine .region ?_
      refine .m rfl rfl rfl (.move rfl) ?_
      refine .m rfl rfl rfl (.add rfl rfl rfl (by omega) (by omega)) ?_
      refine .m rfl rfl rfl (.assign rfl) ?_
      refine .nil ?_
      refine hKL1 (k + 1) _ _ ?_ ?_ ⟨rfl, rfl, rfl, trivial⟩
      ·
       refine ⟨rfl, ?_⟩
       refine ⟨by omega, fun x hx => ?_⟩
       by_cases hltq : x < k
       · exact ha1 x hltq
       · obtain rfl : x = k := by omega
         exact fun e he => ha2 e (by omega)
      ·
       omega
   ·
    try simp only [sps] at h17
    refine .exit ?_
    refine hK3 _ _ ?_
    refine .seq (fun K14 hK14 => ?_)
    refine .seq (fun K15 hK15 => ?_)
    refine .region ?_
    refine .m rfl rfl rfl (.assign rfl) ?_
    refine .nil ?_
    refine hK15 _ _ ?_
    refine .block ?_
    refine .loopR (σ := Nat) [(1, some _), (6, some _)] (fun a => [(9, some (.int .i64 (a : Int)))]) (fun a H' => H1003 = H' ∧ (a : Int) ≤ f.sh.src.length ∧ ∀ a', a' < a → ∀ b : Nat, b < f.sh.src.length → f.sh.tgt.getD a' 0 = f.sh.src.getD b 0 → ∀ e : Nat, e < (f.ac.getD a' []).length → (f.ac.getD ((f.sh.comp.getD a' []).getD b 0).toNat []).getD e 0 = (f.ac.getD b []).getD ((f.ac.getD a' []).getD e 0).toNat 0) (fun a => (f.sh.src.length - a : Int).toNat) (0) ⟨rfl, rfl, trivial⟩ ⟨rfl, trivial⟩ ?_ ?_
    ·
     refine ⟨rfl, ?_⟩
     exact ⟨by omega, fun _ _ => by omega⟩
    ·
     rintro a _ ⟨rfl, hI⟩ KL3 hKL3
     refine .forget (fr' := [(9, some (.int .i64 (a : Int))), (1, some _), (6, some _)]) ⟨rfl, rfl, rfl, trivial⟩ ?_
     obtain ⟨hk3, ha3⟩ := hI
     refine .seq (fun K16 hK16 => ?_)
     refine .seq (fun K17 hK17 => ?_)
     refine .region ?_
     refine .m rfl rfl rfl (.move rfl) ?_
     refine .m rfl rfl rfl (.fieldAddr fo_34_1_B rfl) ?_
     refine .m rfl rfl rfl (.load on_22_B rfl (by assumption)) ?_
     refine .m rfl rfl rfl (.len sl_22_A rfl) ?_
     refine .m rfl rfl rfl (.cmp rfl rfl rfl) ?_
     refine .nil ?_
     refine hK17 _ _ ?_
     refine .cond rfl (fun h49 => ?_) (fun h49 => ?_)
     ·
      simp only [sps] at h49
      have r1 := hC.row a (by omega)
      have r2 := i46.2 a (by omega)
      have r3 := i21.2 a (by omega)
      have r4 := hS.ends (a := a) (by omega)
      have r5 := hS.sz (f.sh.src.getD a 0).toNat (by omega)
      refine .skip ?_
      refine hK16 _ _ ?_
      refine .seq (fun K18 hK18 => ?_)
      refine .block ?_
      refine .seq (fun K19 hK19 => ?_)
      refine .region ?_
      refine .m rfl rfl rfl (.assign rfl) ?_
      refine .nil ?_
      refine hK19 _ _ ?_
      refine .block ?_
      refine .loopR (σ := Nat) [(1, some _), (6, some _), (9, some _)] (fun b => [(10, some (.int .i64 (b : Int)))]) (fun b H' => H1003 = H' ∧ (b : Int) ≤ f.sh.src.length ∧ ∀ b', b' < b → f.sh.tgt.getD a 0 = f.sh.src.getD b' 0 → ∀ e : Nat, e < (f.ac.getD a []).length → (f.ac.getD ((f.sh.comp.getD a []).getD b' 0).toNat []).getD e 0 = (f.ac.getD b' []).getD ((f.ac.getD a []).getD e 0).toNat 0) (fun b => (f.sh.src.length - b : Int).toNat) (0) ⟨rfl, rfl, rfl, trivial⟩ ⟨rfl, trivial⟩ ?_ ?_
      ·
       refine ⟨rfl, ?_⟩
       exact ⟨by omega, fun _ _ => by omega⟩
      ·
       rintro b _ ⟨rfl, hI⟩ KL4 hKL4
       refine .forget (fr' := [(10, some (.int .i64 (b : Int))), (1, some _), (6, some _), (9, some _)]) ⟨rfl, rfl, rfl, rfl, trivial⟩ ?_
       obtain ⟨hk4, ha4⟩ := hI
       refine .seq (fun K20 hK20 => ?_)
       refine .seq (fun K21 hK21 => ?_)
       refine .region ?_
       refine .m rfl rfl rfl (.move rfl) ?_
       refine .m rfl rfl rfl (.fieldAddr fo_34_1_B rfl) ?_
       refine .m rfl rfl rfl (.load on_22_B rfl (by assumption)) ?_
       refine .m rfl rfl rfl (.len sl_22_A rfl) ?_
       refine .m rfl rfl rfl (.cmp rfl rfl rfl) ?_
       refine .nil ?_
       refine hK21 _ _ ?_
       refine .cond rfl (fun h56 => ?_) (fun h56 => ?_)
       ·
        simp only [sps] at h56
        have t1 := i21.2 b (by omega)
        have t2 := hS.ends (a := b) (by omega)
        refine .skip ?_
        refine hK20 _ _ ?_
        refine .seq (fun K22 hK22 => ?_)
        refine .block ?_
        refine .seq (fun K23 hK23 => ?_)
        refine .seq (fun K24 hK24 => ?_)
        refine .regionD mixed_orders_B (.q 0 (.q 1 (.q 2 (.q 3 (.q 4 (.q 5 (.q 6 (.q 7 (.q 8 (.q 9 (.q 10 (.done)))))))))))) (by kernel_rfl) ?_
        refine .m rfl rfl rfl rfl (.refl _) (.fieldAddr fo_34_2_B rfl) ?_
        refine .m rfl rfl rfl rfl (.refl _) (.load on_22_B rfl (by assumption)) ?_
        refine .m rfl rfl rfl rfl (.refl _) (.move rfl) ?_
        refine .m rfl rfl rfl rfl (.refl _) (.idxN sl_22_A (by assumption) rfl rfl (by omega)) ?_
        refine .m rfl rfl rfl rfl (.refl _) (.loadI on_2_A (by assumption) rfl (by omega)) ?_
        refine .m rfl rfl rfl rfl (.refl _) (.fieldAddr fo_34_1_B rfl) ?_
        refine .m rfl rfl rfl rfl (.refl _) (.load on_22_B rfl (by assumption)) ?_
        refine .m rfl rfl rfl rfl (.refl _) (.move rfl) ?_
        refine .m rfl rfl rfl rfl (.refl _) (.idxN sl_22_A (by assumption) rfl rfl (by omega)) ?_
        refine .m rfl rfl rfl rfl (.refl _) (.loadI on_2_A (by assumption) rfl (by omega)) ?_
        refine .m rfl rfl rfl rfl (.refl _) (.cmp rfl rfl rfl) ?_
        refine .done ?_
        refine hK24 _ _ ?_
        refine .cond rfl (fun h69 => ?_) (fun h69 => ?_)
        ·
         try simp only [sps] at h69
         refine .exit ?_
         refine hK22 _ _ ?_
         refine .region ?_
         refine .m rfl rfl rfl (.move rfl) ?_
         refine .m rfl rfl rfl (.add rfl rfl rfl (by omega) (by omega)) ?_
         refine .m rfl rfl rfl (.assign rfl) ?_
         refine .nil ?_
         refine hKL4 (b + 1) _ _ ?_ ?_ ⟨rfl, rfl, rfl, rfl, trivial⟩
         ·
          refine ⟨rfl, ?_⟩
          refine ⟨by omega, fun b' hx => ?_⟩
          by_cases hltq : b' < b
          · exact ha4 b' hltq
          · obtain rfl : b' = b := by omega
            first | exact fun _ e he => ha5 e (by omega) | exact fun hn => absurd hn h69
         ·
          omega
        ·
         simp only [sps] at h69
         have u1 : f.sh.tgt.getD a 0 = f.sh.src.getD b 0 := h69
         have u2 := (Cat.Cell.pos u1).1 (hC.cell a (by omega) b (by omega))
         have u3 := i21.2 ((f.sh.comp.getD a []).getD b 0).toNat (by omega)
         have u4 := hS.ends (a := ((f.sh.comp.getD a []).getD b 0).toNat) (by omega)
         rw [u2.2.2.1] at u4
         have u5 := t2.2.2.2.2
         rw [← u1] at u5
         refine .skip ?_
         refine hK23 _ _ ?_
         refine .seq (fun K25 hK25 => ?_)
         refine .region ?_
         refine .m rfl rfl rfl (.assign rfl) ?_
         refine .nil ?_
         refine hK25 _ _ ?_
         refine .block ?_
         refine .loopR (σ := Nat) [(1, some _), (6, some _), (9, some _), (10, some _)] (fun e => [(11, some (.int .i64 (e : Int)))]) (fun e H' => H1003 = H' ∧ (e : Int) ≤ (f.ac.getD a []).length ∧ ∀ e', e' < e → (f.ac.getD ((f.sh.comp.getD a []).getD b 0).toNat []).getD e' 0 = (f.ac.getD b []).getD ((f.ac.getD a []).getD e' 0).toNat 0) (fun e => ((f.ac.getD a []).length - e : Int).toNat) (0) ⟨rfl, rfl, rfl, rfl, trivial⟩ ⟨rfl, trivial⟩ ?_ ?_
         ·
          refine ⟨rfl, ?_⟩
          exact ⟨by omega, fun _ _ => by omega⟩
         ·
          rintro e _ ⟨rfl, hI⟩ KL5 hKL5
          refine .forget (fr' := [(11, some (.int .i64 (e : Int))), (1, some _), (6, some _), (9, some _), (10, some _)]) ⟨rfl, rfl, rfl, rfl, rfl, trivial⟩ ?_
          obtain ⟨hk5, ha5⟩ := hI
          refine .seq (fun K26 hK26 => ?_)
          refine .seq (fun K27 hK27 => ?_)
          refine .regionD mixed_orders_B (.q 0 (.q 1 (.q 2 (.q 3 (.q 4 (.q 5 (.q 6 (.q 7 (.q 8 (.q 9 (.q 10 (.done)))))))))))) (by kernel_rfl) ?_
          refine .m rfl rfl rfl rfl (.refl _) (.move rfl) ?_
          refine .m rfl rfl rfl rfl (.refl _) (.fieldAddr fo_66_1_P rfl) ?_
          refine .m rfl rfl rfl rfl (.refl _) (.load on_22_B rfl (by assumption)) ?_
          refine .m rfl rfl rfl rfl (.refl _) (.fieldAddr fo_34_1_B rfl) ?_
          refine .m rfl rfl rfl rfl (.refl _) (.load on_22_B rfl (by assumption)) ?_
          refine .m rfl rfl rfl rfl (.refl _) (.move rfl) ?_
          refine .m rfl rfl rfl rfl (.refl _) (.idxN sl_22_A (by assumption) rfl rfl (by omega)) ?_
          refine .m rfl rfl rfl rfl (.refl _) (.loadI on_2_A (by assumption) rfl (by omega)) ?_
          refine .m rfl rfl rfl rfl (.refl _) (.idx1 sl_22_A (by assumption) rfl rfl (by omega) (by omega)) ?_
          refine .m rfl rfl rfl rfl (.refl _) (.loadI on_2_A (by assumption) rfl (by omega)) ?_
          refine .m rfl rfl rfl rfl (.refl _) (.cmp rfl rfl rfl) ?_
          refine .done ?_
          refine hK27 _ _ ?_
          refine .cond rfl (fun h80 => ?_) (fun h80 => ?_)
          ·
           simp only [sps] at h80
           have v1 := hS.act (a := a) (by omega) (e := e) (by omega)
           refine .skip ?_
           refine hK26 _ _ ?_
           refine .seq (fun K28 hK28 => ?_)
           refine .block ?_
           refine .seq (fun K29 hK29 => ?_)
           refine .regionD mixed_orders_B (.q 0 (.q 1 (.q 2 (.q 3 (.q 4 (.q 5 (.q 6 (.q 7 (.q 8 (.q 9 (.q 10 (.q 11 (.q 12 (.q 13 (.q 14 (.q 15 (.q 16 (.q 17 (.q 18 (.q 19 (.q 20 (.q 21 (.q 22 (.q 23 (.q 24 (.q 25 (.q 26 (.q 27 (.q 28 (.q 29 (.q 30 (.done)))))))))))))))))))))))))))))))) (by kernel_rfl) ?_
           refine .m rfl rfl rfl rfl (.refl _) (.fieldAddr fo_66_2_P rfl) ?_
           refine .m rfl rfl rfl rfl (.refl _) (.load on_23_B rfl (by assumption)) ?_
           refine .m rfl rfl rfl rfl (.refl _) (.fieldAddr fo_34_4_B rfl) ?_
           refine .m rfl rfl rfl rfl (.refl _) (.load on_23_B rfl (by assumption)) ?_
           refine .m rfl rfl rfl rfl (.refl _) (.move rfl) ?_
           refine .m rfl rfl rfl rfl (.refl _) (.idxN sl_23_B (Intss.sl (by assumption)) rfl rfl (by omega)) ?_
           refine .m rfl rfl rfl rfl (.refl _) (.loadR on_22_B (by assumption) rfl (by omega)) ?_
           refine .m rfl rfl rfl rfl (.refl _) (.move rfl) ?_
           refine .m rfl rfl rfl rfl (.refl _) (.idxN sl_22_A (by assumption) rfl rfl (by omega)) ?_
           refine .m rfl rfl rfl rfl (.refl _) (.loadI on_2_A (by assumption) rfl (by omega)) ?_
           refine .m rfl rfl rfl rfl (.refl _) (.idx1 sl_23_B (Intss.sl (by assumption)) rfl rfl (by omega) (by omega)) ?_
           refine .m rfl rfl rfl rfl (.refl _) (.loadR on_22_B (by assumption) rfl (by omega)) ?_
           refine .m rfl rfl rfl rfl (.refl _) (.move rfl) ?_
           refine .m rfl rfl rfl rfl (.refl _) (.idxN sl_22_A (by assumption) rfl rfl (by omega)) ?_
           refine .m rfl rfl rfl rfl (.refl _) (.loadI on_2_A (by assumption) rfl (by omega)) ?_
           refine .m rfl rfl rfl rfl (.refl _) (.fieldAddr fo_66_2_P rfl) ?_
           refine .m rfl rfl rfl rfl (.refl _) (.load on_23_B rfl (by assumption)) ?_
           refine .m rfl rfl rfl rfl (.refl _) (.move rfl) ?_
           refine .m rfl rfl rfl rfl (.refl _) (.idxN sl_23_B (Intss.sl (by assumption)) rfl rfl (by omega)) ?_
           refine .m rfl rfl rfl rfl (.refl _) (.loadR on_22_B (by assumption) rfl (by omega)) ?_
           refine .m rfl rfl rfl rfl (.refl _) (.fieldAddr fo_66_2_P rfl) ?_
           refine .m rfl rfl rfl rfl (.refl _) (.load on_23_B rfl (by assumption)) ?_
           refine .m rfl rfl rfl rfl (.refl _) (.move rfl) ?_
           refine .m rfl rfl rfl rfl (.refl _) (.idxN sl_23_B (Intss.sl (by assumption)) rfl rfl (by omega)) ?_
           refine .m rfl rfl rfl rfl (.refl _) (.loadR on_22_B (by assumption) rfl (by omega)) ?_
           refine .m rfl rfl rfl rfl (.refl _) (.move rfl) ?_
           refine .m rfl rfl rfl rfl (.refl _) (.idxN sl_22_A (by assumption) rfl rfl (by omega)) ?_
           refine .m rfl rfl rfl rfl (.refl _) (.loadI on_2_A (by assumption) rfl (by omega)) ?_
           refine .m rfl rfl rfl rfl (.refl _) (.idx1 sl_22_A (by assumption) rfl rfl (by omega) (by omega)) ?_
           refine .m rfl rfl rfl rfl (.refl _) (.loadI on_2_A (by assumption) rfl (by omega)) ?_
           refine .m rfl rfl rfl rfl (.refl _) (.cmp rfl rfl rfl) ?_
           refine .done ?_
           refine hK29 _ _ ?_
           refine .cond rfl (fun h113 => ?_) (fun h113 => ?_)
           ·
            try simp only [sps] at h113
            refine .seq (fun K30 hK30 => ?_)
            refine .region ?_
            refine .m rfl rfl rfl (.move rfl) ?_
            refine .m rfl rfl rfl (.move rfl) ?_
            refine .m rfl rfl rfl (.move rfl) ?_
            refine .m rfl rfl rfl (.assign rfl) ?_
            refine .m rfl rfl rfl (.assign rfl) ?_
            refine .m rfl rfl rfl (.assign rfl) ?_
            refine .m rfl rfl rfl (.assign rfl) ?_
            refine .nil ?_
            refine hK30 _ _ ?_
            refine .ret ?_
            -- leaf e2
            refine hret _ _ ?_
            refine ⟨_, _, _, _, rfl, rfl, rfl, rfl, ?_⟩
            exact ⟨⟨⟨_, _, _, _, rfl, ⟨fun hh => absurd hh (by decide), fun hL => absurd (hL.th a (by omega) b (by omega) u1 e (by omega)) h113⟩⟩, rfl⟩, rfl, hle⟩
           ·
            try simp only [sps] at h113
            refine .skip ?_
            refine hK28 _ _ ?_
            refine .region ?_
            refine .m rfl rfl rfl (.move rfl) ?_
            refine .m rfl rfl rfl (.add rfl rfl rfl (by omega) (by omega)) ?_
            refine .m rfl rfl rfl (.assign rfl) ?_
            refine .nil ?_
            refine hKL5 (e + 1) _ _ ?_ ?_ ⟨rfl, rfl, rfl, rfl, rfl, trivial⟩
            ·
             refine ⟨rfl, ?_⟩
             refine ⟨by omega, fun e' hx => ?_⟩
             by_cases hltq : e' < e
             · exact ha5 e' hltq
             · obtain rfl : e' = e := by omega
               exact h113
            ·
             omega
          ·
           try simp only [sps] at h80
           refine .exit ?_
           refine hK22 _ _ ?_
           refine .region ?_
           refine .m rfl rfl rfl (.move rfl) ?_
           refine .m rfl rfl rfl (.add rfl rfl rfl (by omega) (by omega)) ?_
           refine .m rfl rfl rfl (.assign rfl) ?_
           refine .nil ?_
           refine hKL4 (b + 1) _ _ ?_ ?_ ⟨rfl, rfl, rfl, rfl, trivial⟩
           ·
            refine ⟨rfl, ?_⟩
            refine ⟨by omega, fun b' hx => ?_⟩
            by_cases hltq : b' < b
            · exact ha4 b' hltq
            · obtain rfl : b' = b := by omega
              first | exact fun _ e he => ha5 e (by omega) | exact fun hn => absurd hn h69
           ·
            omega
       ·
        try simp only [sps] at h56
        refine .exit ?_
        refine hK18 _ _ ?_
        refine .region ?_
        refine .m rfl rfl rfl (.move rfl) ?_
        refine .m rfl rfl rfl (.add rfl rfl rfl (by omega) (by omega)) ?_
        refine .m rfl rfl rfl (.assign rfl) ?_
        refine .nil ?_
        refine hKL3 (a + 1) _ _ ?_ ?_ ⟨rfl, rfl, rfl, trivial⟩
        ·
         refine ⟨rfl, ?_⟩
         refine ⟨by omega, fun a' hx => ?_⟩
         by_cases hltq : a' < a
         · exact ha3 a' hltq
         · obtain rfl : a' = a := by omega
           exact fun b hb => ha4 b (by omega)
        ·
         omega
     ·
      try simp only [sps] at h49
      refine .exit ?_
      refine hK14 _ _ ?_
      refine .seq (fun K31 hK31 => ?_)
      refine .region ?_
      refine .m rfl rfl rfl (.assign rfl) ?_
      refine .m rfl rfl rfl (.assign rfl) ?_
      refine .m rfl rfl rfl (.assign rfl) ?_
      refine .m rfl rfl rfl (.assign rfl) ?_
      refine .nil ?_
      refine hK31 _ _ ?_
      refine .ret ?_
      -- leaf e3
      refine hret _ _ ?_
      refine ⟨_, _, _, _, rfl, rfl, rfl, rfl, ?_⟩
      exact ⟨⟨⟨_, _, _, _, rfl, ⟨fun _ => ⟨fun x hx => ha1 x (by omega), fun a ha => ha3 a (by omega)⟩, fun _ => rfl⟩⟩, rfl⟩, rfl, hle⟩
theorem l19Is_c {f : SFun} {p : SFunP} {H : GHeap} (hin : f.In H p := by assumption) (hs : f.Small := by assumption) : GCalls Try.prog 83 [.agg (f.cells p).toArray] H (Ret (.bool (B f.Is)) H) := by
  refine GCalls.ret rfl ?_
  refine GCalls.body (N := 19) (rs := [.tmp 2]) Try.func83 rfl rfl rfl rfl (fun Qx hret hend => ?_)
  refine .forget (fr' := [(0, some _)]) ⟨rfl, trivial⟩ ?_
  have hle := GHeap.Le.refl H
  have base_hin := hin
  refine .seq (fun K1 hK1 => ?_)
  refine .region ?_
  refine .r rfl rfl rfl (.boxR rfl sz_66_VSFun rfl) ?_
  rintro _ H1 ⟨g1, rfl, le1, ge1, at1⟩
  have nx_H1 := le1.1
  replace hle := hle.trans le1
  have lt_at1 := GHeap.lt_of_get at1
  replace hin := base_hin.mono hle
  have hb1 : SFun.At _ g1 0 f p := ⟨Mem.of_get at1, hin⟩
  obtain ⟨fsh1, c51, c61, i11, i21⟩ := hb1.get
  have hm1 : MemN _ _ _ _ _ := ⟨rfl, hb1.1⟩
  have hi1 := hb1.2
  have hmsh1 : MemN _ _ _ _ _ := ⟨rfl, fsh1.1⟩
  have hish1 := fsh1.2
  refine .m rfl rfl rfl (.assign rfl) ?_
  refine .nil ?_
  refine hK1 _ _ ?_
  refine .seq (fun K2 hK2 => ?_)
  refine .seq (fun K3 hK3 => ?_)
  refine .region ?_
  refine .m rfl rfl rfl (.loadM ag_66_VSFun rfl ⟨rfl, Mem.of_get at1⟩) ?_
  refine .callQ rfl rfl rfl rfl @Try.call114 rfl (l19Shape_c) ?_
  refine .m rfl rfl rfl (.not rfl) ?_
  refine .nil ?_
  refine hK3 _ _ ?_
  refine .cond rfl (fun h9 => ?_) (fun h9 => ?_)
  ·
   try simp only [sps] at h9
   refine .seq (fun K4 hK4 => ?_)
   refine .region ?_
   refine .m rfl rfl rfl (.assign rfl) ?_
   refine .nil ?_
   refine hK4 _ _ ?_
   refine .ret ?_
   -- leaf e1
   refine hret _ _ ?_
   refine ⟨_, rfl, ?_⟩
   exact ⟨congrArg _ (B_false fun hh => h9 hh.1), hle⟩
  ·
   try simp only [sps] at h9
   refine .skip ?_
   refine hK2 _ _ ?_
   refine .seq (fun K5 hK5 => ?_)
   refine .region ?_
   refine .m rfl rfl rfl (.loadM ag_66_VSFun rfl ⟨rfl, Mem.of_get at1⟩) ?_
   refine .call rfl rfl rfl rfl @Try.call115 rfl (l19Fault_c) ?_
   rintro _ _ ⟨⟨⟨k12, x12, y12, z12, rfl, hk12⟩, _⟩, heq⟩
   obtain rfl := heq.symm
   refine .m rfl rfl rfl (.move rfl) ?_
   refine .m rfl rfl rfl (.extract rfl rfl) ?_
   refine .m rfl rfl rfl (.extract rfl rfl) ?_
   refine .m rfl rfl rfl (.extract rfl rfl) ?_
   refine .m rfl rfl rfl (.extract rfl rfl) ?_
   refine .m rfl rfl rfl (.assign rfl) ?_
   refine .m rfl rfl rfl (.assign rfl) ?_
   refine .m rfl rfl rfl (.assign rfl) ?_
   refine .m rfl rfl rfl (.assign rfl) ?_
   refine .nil ?_
   refine hK5 _ _ ?_
   refine .seq (fun K6 hK6 => ?_)
   refine .region ?_
   refine .m rfl rfl rfl (.move rfl) ?_
   refine .m rfl rfl rfl (.cmp rfl rfl rfl) ?_
   refine .m rfl rfl rfl (.assign rfl) ?_
   refine .nil ?_
   refine hK6 _ _ ?_
   refine .ret ?_
   -- leaf e2
   refine hret _ _ ?_
   refine ⟨_, rfl, ?_⟩
   exact ⟨congrArg _ (by rw [Bool.eq_iff_iff, B_iff]; simp only [sps]; rw [hk12]; exact ⟨fun hh => hh.2, fun hh => ⟨h9, hh⟩⟩), hle⟩
end Go.Proofs.Ytbdaddkbkdiglaa
/- Parts of set functors. No condition. -/
namespace Go.GL

def Rising (xs : List Int) : Prop := ∀ i, 1 ≤ i → i < xs.length → xs.getD (i - 1) 0 < xs.getD i 0
/-- The lists are a part of a set functor. -/
structure SFun.Part (f : SFun) (me : List (List Int)) : Prop where
  pl : me.length = f.sz.length
  rs : ∀ x, x < me.length → Rising (me.getD x []) ∧ allIn (me.getD x []) (f.sz.getD x 0) = true
  cl : ∀ a, a < f.ac.length → ∀ i, i < (me.getD (f.sh.src.getD a 0).toNat []).length → (me.getD (f.sh.tgt.getD a 0).toNat []).contains ((f.ac.getD a []).getD ((me.getD (f.sh.src.getD a 0).toNat []).getD i 0).toNat 0) = true
def BelowL (p q : List (List Int)) : Prop := ∀ x, x < p.length → ∀ i, i < (p.getD x []).length → (q.getD x []).contains ((p.getD x []).getD i 0) = true
end Go.GL
/- Marks on set functors, their maps and parts; lists of lists that are made row by row. No condition. -/
namespace Go.GL

def SFun.total (f : SFun) : Nat := f.sh.total + (f.sz.length + sumL f.ac)
def SFunW (lo hi : Nat) (H : GHeap) (f : SFun) (p : SFunP) : Prop := CatW lo hi H f.sh p.sh ∧ IntsW lo hi H p.a1 f.sz.length ∧ IntssW lo hi H p.a2 f.ac p.r2
theorem SFunW.stm {lo hi : Nat} {H H' : GHeap} {c : SFun} {p : SFunP} (h : SFunW lo hi H c p) (s : StM lo hi H H') : SFunW lo hi H' c p := ⟨h.1.stm s, h.2.1.stm s, h.2.2.stm s⟩
theorem SFunW.of_at {b : Nat} {H0 H : GHeap} {c : SFun} {p : SFunP} (h : SFunAt b H0 c p) (k : Keep b H0 H) : SFunW b H0.next H c p := ⟨.of_at h.1 k, .of_at h.2.1 k, .of_at h.2.2 k⟩
def SFun.leaves (f : SFun) (p : SFunP) : List Leaf := f.sh.leaves p.sh ++ ([(p.a1, f.sz.length)] ++ rowsL p.r2 f.ac f.ac.length)
theorem SFun.lvSum_leaves (c : SFun) (p : SFunP) : lvSum (c.leaves p) = c.total := by
  simp only [SFun.leaves, lvSum_append, lvSum, Cat.lvSum_leaves, lvSum_rowsL p.r2 c.ac _ (Nat.le_refl _), List.take_length, SFun.total, Nat.add_zero]
theorem sumL_tot {xss : List (List Int)} (h : xss.length ≤ 1048576) (h' : ∀ i, (xss.getD i []).length ≤ 1048576) : sumL xss ≤ 1048576 * 1048576 := by
  have := sumL_le (m := 1048576) h'
  have h6 : xss.length * 1048576 ≤ 1048576 * 1048576 := Nat.mul_le_mul_right _ h
  exact Nat.le_trans this h6
theorem SFun.Small.tot {c : SFun} (h : c.Small) : c.total ≤ 4 * 1048576 + 2 * 1048576 * 1048576 := by
  obtain ⟨h1, h2, h3, h4⟩ := h
  have := h1.tot
  have := sumL_tot h3 h4
  unfold SFun.total
  omega
def SMap.total (f : SMap) : Nat := f.s.total + (f.t.total + sumL f.pa)
def SMapW (lo hi : Nat) (H : GHeap) (f : SMap) (p : SMapP) : Prop := SFunW lo hi H f.s p.s ∧ SFunW lo hi H f.t p.t ∧ IntssW lo hi H p.a2 f.pa p.r2
theorem SMapW.stm {lo hi : Nat} {H H' : GHeap} {c : SMap} {p : SMapP} (h : SMapW lo hi H c p) (s : StM lo hi H H') : SMapW lo hi H' c p := ⟨h.1.stm s, h.2.1.stm s, h.2.2.stm s⟩
theorem SMapW.of_at {b : Nat} {H0 H : GHeap} {c : SMap} {p : SMapP} (h : SMapAt b H0 c p) (k : Keep b H0 H) : SMapW b H0.next H c p := ⟨.of_at h.1 k, .of_at h.2.1 k, .of_at h.2.2 k⟩
def SMap.leaves (f : SMap) (p : SMapP) : List Leaf := f.s.leaves p.s ++ (f.t.leaves p.t ++ rowsL p.r2 f.pa f.pa.length)
theorem SMap.lvSum_leaves (c : SMap) (p : SMapP) : lvSum (c.leaves p) = c.total := by
  simp only [SMap.leaves, lvSum_append, SFun.lvSum_leaves, lvSum_rowsL p.r2 c.pa _ (Nat.le_refl _), List.take_length, SMap.total]
theorem SMap.Small.tot {c : SMap} (h : c.Small) : c.total ≤ 8 * 1048576 + 5 * 1048576 * 1048576 := by
  obtain ⟨h1, h2, h3, h4⟩ := h
  have := h1.tot
  have := h2.tot
  have := sumL_tot h3 h4
  unfold SMap.total
  omega
def Prt.total (f : Prt) : Nat := sumL f.me
def PrtW (lo hi : Nat) (H : GHeap) (f : Prt) (p : PrtP) : Prop := IntssW lo hi H p.a0 f.me p.r0
theorem PrtW.stm {lo hi : Nat} {H H' : GHeap} {c : Prt} {p : PrtP} (h : PrtW lo hi H c p) (s : StM lo hi H H') : PrtW lo hi H' c p := IntssW.stm h s
theorem PrtW.keep {lo lo' hi : Nat} {H H' : GHeap} {c : Prt} {p : PrtP} (h : PrtW lo hi H c p) (k : Keep lo' H H') (hb : lo' ≤ lo) : PrtW lo hi H' c p := IntssW.keep h k hb
theorem SFunW.keep {lo lo' hi : Nat} {H H' : GHeap} {c : SFun} {p : SFunP} (h : SFunW lo hi H c p) (k : Keep lo' H H') (hb : lo' ≤ lo) : SFunW lo hi H' c p := ⟨h.1.keep k hb, h.2.1.keep k hb, h.2.2.keep k hb⟩
theorem SMapW.keep {lo lo' hi : Nat} {H H' : GHeap} {c : SMap} {p : SMapP} (h : SMapW lo hi H c p) (k : Keep lo' H H') (hb : lo' ≤ lo) : SMapW lo hi H' c p := ⟨h.1.keep k hb, h.2.1.keep k hb, h.2.2.keep k hb⟩
theorem PrtW.of_at {b : Nat} {H0 H : GHeap} {c : Prt} {p : PrtP} (h : PrtAt b H0 c p) (k : Keep b H0 H) : PrtW b H0.next H c p := IntssW.of_at h k
def Prt.leaves (f : Prt) (p : PrtP) : List Leaf := rowsL p.r0 f.me f.me.length
theorem Prt.lvSum_leaves (c : Prt) (p : PrtP) : lvSum (c.leaves p) = c.total := by
  simp only [Prt.leaves, lvSum_rowsL p.r0 c.me _ (Nat.le_refl _), List.take_length, Prt.total]
theorem Prt.Small.tot {c : Prt} (h : c.Small) : c.total ≤ 1048576 * 1048576 := sumL_tot h.1 h.2

/-! ### Lists of lists made row by row. -/
def NoTwo (xss : List (List Int)) (r : Nat → Option Addr) : Prop := (lvBlks (rowsL r xss xss.length)).Nodup
/-- A result's list of lists: none, or rows of its own, no two alike. -/
def IntssR (b : Nat) (H : GHeap) (a : Option Addr) (xss : List (List Int)) (r : Nat → Option Addr) : Prop := ((xss = [] ∧ a = none) ∨ IntssAt b H a xss r) ∧ NoTwo xss r
theorem IntssR.keep {b b' : Nat} {H H' : GHeap} {a : Option Addr} {xs : List (List Int)} {r : Nat → Option Addr} (h : IntssR b H a xs r) (k : Keep b' H H') (hb : b' ≤ b) : IntssR b' H' a xs r := ⟨h.1.imp id fun h => h.keep k hb, h.2⟩
theorem IntssR.intss {b : Nat} {H : GHeap} {a : Option Addr} {xs : List (List Int)} {r : Nat → Option Addr} (h : IntssR b H a xs r) : Intss H a xs r := by
  rcases h.1 with ⟨rfl, rfl⟩ | h
  · exact ⟨.inl rfl, fun i hi => by simp at hi⟩
  · exact h.intss
theorem IntssR.nil (b : Nat) (H : GHeap) (r : Nat → Option Addr) : IntssR b H none [] r := ⟨.inl ⟨rfl, rfl⟩, by simp [NoTwo, lvBlks, rowsL]⟩
def NewIntssR (H : GHeap) (xs : List (List Int)) (v : Value) (H' : GHeap) : Prop := H.Le H' ∧ ∃ a r, v = .slice a xs.length xs.length ∧ IntssR H.next H' a xs r
def PrtR (b : Nat) (H : GHeap) (c : Prt) (p : PrtP) : Prop := IntssR b H p.a0 c.me p.r0
theorem PrtR.keep {b b' : Nat} {H H' : GHeap} {c : Prt} {p : PrtP} (h : PrtR b H c p) (k : Keep b' H H') (hb : b' ≤ b) : PrtR b' H' c p := IntssR.keep h k hb
theorem PrtR.inn {b : Nat} {H : GHeap} {c : Prt} {p : PrtP} (h : PrtR b H c p) : c.In H p := IntssR.intss h
theorem PrtR.nodup {b : Nat} {H : GHeap} {c : Prt} {p : PrtP} (h : PrtR b H c p) : (lvBlks (c.leaves p)).Nodup := h.2
theorem IntssW.of_r {b : Nat} {H0 H : GHeap} {a : Option Addr} {xs : List (List Int)} {r : Nat → Option Addr} (h : IntssR b H0 a xs r) (k : Keep b H0 H) : IntssW b H0.next H a xs r := by
  rcases h.1 with ⟨rfl, rfl⟩ | h
  · exact ⟨.inl rfl, fun i hi => by simp at hi, .inl rfl⟩
  · exact .of_at h k
theorem PrtW.of_r {b : Nat} {H0 H : GHeap} {c : Prt} {p : PrtP} (h : PrtR b H0 c p) (k : Keep b H0 H) : PrtW b H0.next H c p := IntssW.of_r h k

def slsOf (r : Nat → Option Addr) (X : Nat → List Int) (k : Nat) : List Value := (List.range k).map fun i => .slice (r i) (X i).length (X i).length
@[simp] theorem length_slsOf (r : Nat → Option Addr) (X : Nat → List Int) (k : Nat) : (slsOf r X k).length = k := by simp [slsOf]
def upd (r : Nat → Option Addr) (k : Nat) (a : Option Addr) : Nat → Option Addr := fun i => if i = k then a else r i
theorem upd_eq (r : Nat → Option Addr) (k : Nat) (a : Option Addr) : upd r k a k = a := by simp [upd]
theorem upd_ne {r : Nat → Option Addr} {k i : Nat} {a : Option Addr} (h : i ≠ k) : upd r k a i = r i := by simp [upd, h]
theorem slsOf_succ {r : Nat → Option Addr} {X : Nat → List Int} {k : Nat} {a : Option Addr} : slsOf (upd r k a) X (k + 1) = slsOf r X k ++ [.slice a (X k).length (X k).length] := by
  unfold slsOf
  rw [List.range_succ, List.map_append]
  congr 1
  · refine List.map_congr_left fun i hi => ?_
    rw [upd_ne (by have := List.mem_range.1 hi; omega)]
  · simp [upd_eq]
structure OwnRows (b : Nat) (H : GHeap) (e : TypeId) (r : Nat → Option Addr) (X : Nat → List Int) (k : Nat) : Prop where
  row : ∀ i, i < k → ∃ g, r i = some ⟨g, 0, none⟩ ∧ b ≤ g ∧ H.get g = some (.row (ints (X i)) e true)
  inj : ∀ i j, i < k → j < k → r i = r j → i = j
theorem OwnRows.zero (b : Nat) (H : GHeap) (e : TypeId) (r : Nat → Option Addr) (X : Nat → List Int) : OwnRows b H e r X 0 := ⟨fun i hi => by omega, fun i j hi => by omega⟩
/-- Rows of numbers of type e live on. -/
def Lasts (e : TypeId) (H H' : GHeap) : Prop := ∀ x xs, H.get x = some (.row (ints xs) e true) → H'.get x = some (.row (ints xs) e true)
theorem St.lasts1 {g0 : Nat} {H H' : GHeap} {e e' : TypeId} {cs : List Value} (s : St [g0] H H') (h0 : H.get g0 = some (.row cs e' true)) (hne : (e != e') = true) : Lasts e H H' := fun x xs hx => by
  simp only [bne_iff_ne, ne_eq] at hne
  refine s.same x _ ⟨fun ex => ?_, trivial⟩ hx
  subst ex
  rw [h0] at hx
  cases hx
  exact hne rfl
theorem St.lasts2 {g0 g1 : Nat} {H H' : GHeap} {e e' e'' : TypeId} {cs ds : List Value} (s : St [g0, g1] H H') (h0 : H.get g0 = some (.row cs e' true)) (hne : (e != e') = true) (h1 : H.next ≤ g1 ∨ H.get g1 = some (.row ds e'' true)) (hne' : (e != e'') = true) : Lasts e H H' := fun x xs hx => by
  simp only [bne_iff_ne, ne_eq] at hne hne'
  refine s.same x _ ⟨fun ex => ?_, fun ex => ?_, trivial⟩ hx
  · subst ex
    rw [h0] at hx
    cases hx
    exact hne rfl
  · subst ex
    rcases h1 with h1 | h1
    · have := GHeap.lt_of_get hx
      omega
    · rw [h1] at hx
      cases hx
      exact hne' rfl
theorem OwnRows.keep {b k : Nat} {H H' : GHeap} {e : TypeId} {r : Nat → Option Addr} {X : Nat → List Int} (h : OwnRows b H e r X k) (s : Lasts e H H') : OwnRows b H' e r X k := ⟨fun i hi => by
  obtain ⟨x, h1, h2, h3⟩ := h.row i hi
  exact ⟨x, h1, h2, s x _ h3⟩, h.inj⟩
theorem OwnRows.succ' {b g k : Nat} {H H' : GHeap} {e : TypeId} {r : Nat → Option Addr} {X : Nat → List Int} (h : OwnRows b H e r X k) (s : Lasts e H H')
    (hg : H'.get g = some (.row (ints (X k)) e true)) (hn : H.next ≤ g) (hb : b ≤ g) : OwnRows b H' e (upd r k (some ⟨g, 0, none⟩)) X (k + 1) := by
  refine ⟨fun i hi => ?_, fun i j hi hj hij => ?_⟩
  · by_cases ek : i = k
    · subst ek; exact ⟨g, upd_eq _ _ _, hb, hg⟩
    · obtain ⟨x, h1, h2, h3⟩ := h.row i (by omega)
      exact ⟨x, by rw [upd_ne ek]; exact h1, h2, s x _ h3⟩
  · by_cases ei : i = k
    · by_cases ej : j = k
      · omega
      · subst ei
        rw [upd_eq, upd_ne ej] at hij
        obtain ⟨x, h1, _, h3⟩ := h.row j (by omega)
        rw [h1] at hij
        cases hij
        have := GHeap.lt_of_get h3
        omega
    · by_cases ej : j = k
      · subst ej
        rw [upd_eq, upd_ne ei] at hij
        obtain ⟨x, h1, _, h3⟩ := h.row i (by omega)
        rw [h1] at hij
        cases hij
        have := GHeap.lt_of_get h3
        omega
      · rw [upd_ne ei, upd_ne ej] at hij
        exact h.inj i j (by omega) (by omega) hij
theorem OwnRows.succ {b g g0 k : Nat} {H H' : GHeap} {e e' : TypeId} {r : Nat → Option Addr} {X : Nat → List Int} {cs : List Value} (h : OwnRows b H e r X k) (s : St [g0] H H') (h0 : H.get g0 = some (.row cs e' true)) (hne : (e != e') = true)
    (hg : H'.get g = some (.row (ints (X k)) e true)) (hn : H.next ≤ g) (hb : b ≤ g) : OwnRows b H' e (upd r k (some ⟨g, 0, none⟩)) X (k + 1) := h.succ' (s.lasts1 h0 hne) hg hn hb
theorem mem_lvBlk {g n x : Nat} (h : x ∈ lvBlk (some ⟨g, 0, none⟩, n)) : x = g := by
  cases n with
  | zero => simp [lvBlk] at h
  | succ n => simpa [lvBlk] using h
theorem lvBlks_rowsL {r : Nat → Option Addr} {xss : List (List Int)} (hr : ∀ i, i < xss.length → ∃ g, r i = some ⟨g, 0, none⟩) (hi : ∀ i j, i < xss.length → j < xss.length → r i = r j → i = j) : ∀ {n}, n ≤ xss.length →
    (lvBlks (rowsL r xss n)).Nodup ∧ ∀ g ∈ lvBlks (rowsL r xss n), ∃ i, i < n ∧ r i = some ⟨g, 0, none⟩
  | 0, _ => by simp [rowsL, lvBlks]
  | n + 1, hn => by
    obtain ⟨h1, h2⟩ := lvBlks_rowsL hr hi (n := n) (by omega)
    obtain ⟨g, hg⟩ := hr n (by omega)
    have h3 : ∀ x ∈ lvBlk (r n, (xss.getD n []).length), x = g := fun x hx => by rw [hg] at hx; exact mem_lvBlk hx
    have h4 : (lvBlk (r n, (xss.getD n []).length)).Nodup := by unfold lvBlk; split <;> simp
    have e1 : lvBlks (rowsL r xss (n + 1)) = lvBlks (rowsL r xss n) ++ lvBlk (r n, (xss.getD n []).length) := by rw [rowsL_succ, lvBlks_append]; simp [lvBlks]
    rw [e1]
    refine ⟨List.nodup_append.2 ⟨h1, h4, fun x hx y hy hxy => ?_⟩, fun x hx => ?_⟩
    · obtain ⟨i, i1, i2⟩ := h2 x hx
      have := h3 y hy
      subst hxy this
      have := hi i n (by omega) (by omega) (by rw [i2, hg])
      omega
    · rcases List.mem_append.1 hx with hx | hx
      · obtain ⟨i, i1, i2⟩ := h2 x hx
        exact ⟨i, by omega, i2⟩
      · exact ⟨n, by omega, by rw [h3 x hx]; exact hg⟩
def rowsOf (X : Nat → List Int) (n : Nat) : List (List Int) := (List.range n).map X
@[simp] theorem length_rowsOf (X : Nat → List Int) (n : Nat) : (rowsOf X n).length = n := by simp [rowsOf]
theorem rowsOf_get {X : Nat → List Int} {n i : Nat} (h : i < n) : (rowsOf X n).getD i [] = X i := by simp [rowsOf, List.getD_eq_getElem?_getD, h]
theorem OwnRows.done {b g n : Nat} {H : GHeap} {e e' : TypeId} {r : Nat → Option Addr} {X : Nat → List Int} (h : OwnRows b H e r X n) (hg : H.get g = some (.row (slsOf r X n) e' true)) (hb : b ≤ g) : IntssR b H (some ⟨g, 0, none⟩) (rowsOf X n) r := by
  refine ⟨.inr ⟨g, e', slsOf r X n, rfl, hb, hg, by simp, fun i hi => ?_, fun i hi => ?_⟩, ?_⟩
  · rw [length_rowsOf] at hi
    rw [rowsOf_get hi]
    simp [slsOf, hi]
  · rw [length_rowsOf] at hi
    rw [rowsOf_get hi]
    obtain ⟨x, h1, h2, h3⟩ := h.row i hi
    exact ⟨x, e, h1, h2, h3⟩
  · exact (lvBlks_rowsL (fun i hi => by rw [length_rowsOf] at hi; obtain ⟨x, h1, _⟩ := h.row i hi; exact ⟨x, h1⟩) (fun i j hi hj => by rw [length_rowsOf] at hi hj; exact h.inj i j hi hj) (Nat.le_refl _)).1

/-- A list that is nil as long as it is empty. -/
def NilOr (b : Nat) (H : GHeap) (a : Option Addr) (g : Nat) (cs : List Value) (e : TypeId) (k : Nat) : Prop := (a = none ∧ k = 0) ∨ (a = some ⟨g, 0, none⟩ ∧ 0 < k ∧ b ≤ g ∧ H.get g = some (.row cs e true))
theorem NilOr.st {b g g0 k : Nat} {H H' : GHeap} {a : Option Addr} {cs : List Value} {e : TypeId} (h : NilOr b H a g cs e k) (s : St [g0] H H') (hn : g0 < b) : NilOr b H' a g cs e k := h.imp id fun ⟨h1, h0, h2, h3⟩ => ⟨h1, h0, h2, s.same g _ ⟨by omega, trivial⟩ h3⟩
theorem Lasts.trans {e : TypeId} {A B C : GHeap} (h : Lasts e A B) (h' : Lasts e B C) : Lasts e A C := fun x xs hx => h' x xs (h x xs hx)
theorem St.lastsA {g : Nat} {H H' : GHeap} {e e' : TypeId} (s : St [g] H H') (h : H.next ≤ g ∨ ∃ cs, H.get g = some (.row cs e' true)) (hne : (e != e') = true) : Lasts e H H' := fun x xs hx => by
  simp only [bne_iff_ne, ne_eq] at hne
  refine s.same x _ ⟨fun ex => ?_, trivial⟩ hx
  subst ex
  rcases h with h | ⟨cs, h⟩
  · have := GHeap.lt_of_get hx
    omega
  · rw [h] at hx
    cases hx
    exact hne rfl
/-- Where an append writes: a block of its own, or none yet. -/
theorem NilOr.where_ {b g k n : Nat} {H0 H : GHeap} {a : Option Addr} {cs : List Value} {e : TypeId} (h : NilOr b H a g cs e k) (h0 : NilOr b H0 a g cs e k) (hn : H0.next ≤ n) (hb : b ≤ n) (hnn : n ≤ H.next) :
    ∃ gA, (k = 0 ∨ gA = g) ∧ (H.next ≤ gA ∨ ∃ cs, H.get gA = some (.row cs e true)) ∧ b ≤ gA ∧ (gA < n ∨ H.next ≤ gA) := by
  rcases h with ⟨_, hk⟩ | ⟨_, _, h1, h2⟩
  · exact ⟨H.next, .inl hk, .inl (Nat.le_refl _), by omega, .inr (Nat.le_refl _)⟩
  · rcases h0 with ⟨_, hk⟩ | ⟨_, _, _, k2⟩
    · omega
    · exact ⟨g, .inr rfl, .inr ⟨_, h2⟩, h1, .inl (by have := GHeap.lt_of_get k2; omega)⟩
theorem OwnRows.done' {b b' g n : Nat} {a : Option Addr} {H : GHeap} {e e' : TypeId} {r : Nat → Option Addr} {X : Nat → List Int} (h : OwnRows b H e r X n) (hA : NilOr b' H a g (slsOf r X n) e' n) (hb : b ≤ b') : IntssR b H a (rowsOf X n) r := by
  rcases hA with ⟨rfl, rfl⟩ | ⟨rfl, _, h1, h2⟩
  · exact .nil _ _ _
  · exact h.done h2 (by omega)
section
variable {P : Program} {o : Oper} {fr : Slots} {H : GHeap}
theorem CDo.appendVN {t tx e e' : TypeId} {s x : Operand} {a : Option Addr} {b g gB g1 n sz bytes : Nat} {z cs vs : List Value} (ho : o.op = .call { callee := .builtin .append, args := #[s, x], argTypes := #[t, tx] }) (ht : sliceT P t = some (e, sz)) (hz : zeroT P e = some (z, sz)) (hzn : z.length = sz)
    (hb : (P.info? e).map (·.bytes) = some bytes) (htx : sliceT P tx = some (e', sz)) (hsv : ev fr s = some (.slice a n n)) (hx : ev fr x = some (.slice (some ⟨g1, 0, none⟩) 1 1)) (hA : NilOr b H a gB cs e n) (hAg : n = 0 ∨ g = gB) (hg1 : H.get g1 = some (.row vs e' true)) (hend : n * sz = cs.length)
    (hs0 : 0 < sz) (hv : vs.length = sz) (hone : vs.all (·.oneCell') = true) (hN : n + 1 ≤ 16777216) (hB : (n + 1) * bytes ≤ 140737488355328) :
    CDo P o fr H (fun r H' => ∃ g', r = some (.slice (some ⟨g', 0, none⟩) (n + 1) (n + 1)) ∧ St [g] H H' ∧ H.next ≤ g' ∧ H'.get g' = some (.row (cs ++ vs) e true)) := by
  have hsrc : SrcG P fr H sz tx x 1 vs := .slice htx hx (by omega) (fun i v hv => by rw [GHeap.cell_of hg1, Nat.zero_add]; exact hv) (fun v hv => List.all_eq_true.1 hone v hv)
  rcases hA with ⟨rfl, rfl⟩ | ⟨rfl, h0, h1, h2⟩
  · obtain rfl : cs = [] := List.eq_nil_of_length_eq_zero (by omega)
    exact .appendNil ho ht hz hzn hb hsv hsrc (by omega) (by unfold maxLen; omega) (by omega) ⟨_, rfl, .push (.refl _ _), Nat.le_refl _, GHeap.get_push_new _ _⟩
  · obtain rfl : g = gB := by
      rcases hAg with h | h
      · omega
      · exact h
    exact .appendR (cs := cs) (news := vs) ho ht hz hzn hb hsv h2 (by omega) hsrc hN hB
end
/-- Row x of a part drawn back along a map: the elements whose images lie in it. -/
def SMap.backX (m : SMap) (me : List (List Int)) (x : Nat) : List Int := filtN (m.pa.getD x []).length fun e => (me.getD x []).contains ((m.pa.getD x []).getD e 0)
def SMap.backR (m : SMap) (me : List (List Int)) : List (List Int) := rowsOf (m.backX me) m.pa.length
noncomputable def SMap.back (m : SMap) (me : List (List Int)) : Prt := ⟨bif B (m.Is ∧ m.t.Part me) then m.backR me else []⟩
noncomputable def SMap.backC (m : SMap) (me : List (List Int)) : Int := bif B (m.Is ∧ m.t.Part me) then 0 else 1
theorem SMap.back_not {m : SMap} {me : List (List Int)} (h : ¬ (m.Is ∧ m.t.Part me)) : m.back me = ⟨[]⟩ ∧ m.backC me = 1 := by unfold SMap.back SMap.backC; rw [B_false h]; exact ⟨rfl, rfl⟩
theorem SMap.back_ok {m : SMap} {me : List (List Int)} (h : m.Is ∧ m.t.Part me) : m.back me = ⟨m.backR me⟩ ∧ m.backC me = 0 := by unfold SMap.back SMap.backC; rw [B_true h]; exact ⟨rfl, rfl⟩
/-- The part whose row x holds the elements that Y says. -/
def SFun.pick (f : SFun) (Y : Nat → Nat → Bool) : Prt := ⟨rowsOf (fun x => filtN (f.sz.getD x 0).toNat (Y x)) f.sz.length⟩
theorem rowsOf_congr {X Y : Nat → List Int} {n : Nat} (h : ∀ i, i < n → X i = Y i) : rowsOf X n = rowsOf Y n := List.map_congr_left fun i hi => h i (List.mem_range.1 hi)
theorem SMap.pick_eq {m : SMap} {me : List (List Int)} (h : m.Fits) : m.s.pick (fun x e => (me.getD x []).contains ((m.pa.getD x []).getD e 0)) = ⟨m.backR me⟩ := by
  unfold SFun.pick SMap.backR
  rw [← h.pl]
  refine congrArg Prt.mk (rowsOf_congr fun i hi => ?_)
  have := (h.pa i hi).1
  unfold SMap.backX
  rw [← this, Int.toNat_natCast]
theorem SMap.back_small {m : SMap} {me : List (List Int)} (hs : m.Small) : (m.back me).Small := by
  obtain ⟨_, _, h3, h4⟩ := hs
  by_cases h : m.Is ∧ m.t.Part me
  · rw [(SMap.back_ok h).1]
    refine ⟨by simp only [SMap.backR, length_rowsOf]; omega, fun i => ?_⟩
    by_cases hi : i < m.pa.length
    · simp only [SMap.backR]
      rw [rowsOf_get hi]
      exact Nat.le_trans (filtN_le _ _) (h4 i)
    · simp only [SMap.backR]
      rw [List.getD_eq_getElem?_getD, List.getElem?_eq_none (by rw [length_rowsOf]; omega)]
      simp
  · rw [(SMap.back_not h).1]
    exact ⟨by simp, fun i => by simp⟩
end Go.GL
/- Lists of lists that grow row by row; lists made in two nested loops. No condition. -/
namespace Go.GL
def slsL (r : Nat → Option Addr) (xss : List (List Int)) : List Value := slsOf r (fun i => xss.getD i []) xss.length
@[simp] theorem length_slsL (r : Nat → Option Addr) (xss : List (List Int)) : (slsL r xss).length = xss.length := by simp [slsL]
theorem slsOf_congr {r : Nat → Option Addr} {X Y : Nat → List Int} {k : Nat} (h : ∀ i, i < k → X i = Y i) : slsOf r X k = slsOf r Y k := List.map_congr_left fun i hi => by rw [h i (List.mem_range.1 hi)]
theorem getD_snoc {α : Type} {xs : List α} {x d : α} {i : Nat} : (xs ++ [x]).getD i d = if i < xs.length then xs.getD i d else if i = xs.length then x else d := by
  rw [List.getD_eq_getElem?_getD, List.getD_eq_getElem?_getD]
  by_cases h : i < xs.length
  · rw [if_pos h, List.getElem?_append_left h]
  · rw [if_neg h, List.getElem?_append_right (by omega)]
    by_cases e : i = xs.length
    · subst e; simp
    · rw [if_neg e, List.getElem?_eq_none (by simp; omega)]; rfl
theorem slsL_snoc {r : Nat → Option Addr} {xss : List (List Int)} {x : List Int} {a : Option Addr} : slsL (upd r xss.length a) (xss ++ [x]) = slsL r xss ++ [.slice a x.length x.length] := by
  unfold slsL
  rw [List.length_append, List.length_singleton]
  rw [slsOf_succ]
  congr 1
  · refine slsOf_congr fun i hi => ?_
    rw [getD_snoc, if_pos hi]
  · rw [getD_snoc, if_neg (by omega), if_pos rfl]
/-- Rows of their own, no two alike. -/
def OwnL (b : Nat) (H : GHeap) (e : TypeId) (r : Nat → Option Addr) (xss : List (List Int)) : Prop := OwnRows b H e r (fun i => xss.getD i []) xss.length
theorem OwnL.nil (b : Nat) (H : GHeap) (e : TypeId) (r : Nat → Option Addr) : OwnL b H e r [] := OwnRows.zero _ _ _ _ _
theorem OwnRows.congr {b : Nat} {H : GHeap} {e : TypeId} {r : Nat → Option Addr} {X Y : Nat → List Int} {k : Nat} (h : OwnRows b H e r X k) (hx : ∀ i, i < k → X i = Y i) : OwnRows b H e r Y k := ⟨fun i hi => by rw [← hx i hi]; exact h.row i hi, h.inj⟩
theorem OwnL.snoc {b g : Nat} {H H' : GHeap} {e : TypeId} {r : Nat → Option Addr} {xss : List (List Int)} {x : List Int} (h : OwnL b H e r xss) (s : Lasts e H H') (hg : H'.get g = some (.row (ints x) e true)) (hn : H.next ≤ g) (hb : b ≤ g) : OwnL b H' e (upd r xss.length (some ⟨g, 0, none⟩)) (xss ++ [x]) := by
  unfold OwnL at h ⊢
  rw [List.length_append, List.length_singleton]
  have h' : OwnRows b H e r (fun i => (xss ++ [x]).getD i []) xss.length := h.congr fun i hi => by rw [getD_snoc, if_pos hi]
  exact h'.succ' s (by rw [getD_snoc, if_neg (by omega), if_pos rfl]; exact hg) hn hb
theorem OwnL.keep {b : Nat} {H H' : GHeap} {e : TypeId} {r : Nat → Option Addr} {xss : List (List Int)} (h : OwnL b H e r xss) (s : Lasts e H H') : OwnL b H' e r xss := OwnRows.keep h s
theorem rowsOf_self (xss : List (List Int)) : rowsOf (fun i => xss.getD i []) xss.length = xss := by
  apply List.ext_getElem (by simp)
  intro i h1 h2
  simp only [rowsOf, List.getElem_map, List.getElem_range, List.getD_eq_getElem?_getD, List.getElem?_eq_getElem h2, Option.getD_some]
theorem OwnL.done {b g : Nat} {H : GHeap} {e e' : TypeId} {r : Nat → Option Addr} {xss : List (List Int)} (h : OwnL b H e r xss) (hg : H.get g = some (.row (slsL r xss) e' true)) (hb : b ≤ g) : IntssR b H (some ⟨g, 0, none⟩) xss r := by
  have := OwnRows.done (X := fun i => xss.getD i []) h hg hb
  rwa [rowsOf_self] at this
theorem OwnL.intss {b g : Nat} {H : GHeap} {e e' : TypeId} {r : Nat → Option Addr} {xss : List (List Int)} (h : OwnL b H e r xss) (hg : H.get g = some (.row (slsL r xss) e' true)) (hb : b ≤ g) : Intss H (some ⟨g, 0, none⟩) xss r := (h.done hg hb).intss
theorem IntsR.nodup {a : Option Addr} {n : Nat} : (lvBlks [(a, n)]).Nodup := by
  simp only [lvBlks, List.flatMap_cons, List.flatMap_nil, List.append_nil]
  unfold lvBlk
  split <;> simp
theorem IntsR.of_at {b : Nat} {H : GHeap} {g : Nat} {e : TypeId} {xs : List Int} (h : H.get g = some (.row (Go.GL.ints xs) e true)) (hb : b ≤ g) : IntsR b H (some ⟨g, 0, none⟩) xs := .inr ⟨g, e, rfl, hb, h⟩

/-- The rows of two nested loops, up to (k, t). -/
def nestL {α : Type} (pr : Nat → Nat → α) (sz : Nat → Nat) (k t : Nat) : List α := (List.range k).flatMap (fun a => (List.range (sz a)).map (pr a)) ++ (List.range t).map (pr k)
theorem nestL_zero {α : Type} (pr : Nat → Nat → α) (sz : Nat → Nat) : nestL pr sz 0 0 = [] := rfl
theorem nestL_snoc {α : Type} {pr : Nat → Nat → α} {sz : Nat → Nat} {k t : Nat} : nestL pr sz k (t + 1) = nestL pr sz k t ++ [pr k t] := by
  unfold nestL
  rw [List.range_succ, List.map_append, ← List.append_assoc]
  rfl
theorem nestL_next {α : Type} {pr : Nat → Nat → α} {sz : Nat → Nat} {k : Nat} : nestL pr sz (k + 1) 0 = nestL pr sz k (sz k) := by
  unfold nestL
  rw [List.range_succ, List.flatMap_append]
  simp
theorem nestL_mem {α : Type} {pr : Nat → Nat → α} {sz : Nat → Nat} {k : Nat} {x : α} (h : x ∈ nestL pr sz k 0) : ∃ a t, a < k ∧ t < sz a ∧ x = pr a t := by
  simp only [nestL, List.range_zero, List.map_nil, List.append_nil, List.mem_flatMap, List.mem_range, List.mem_map] at h
  obtain ⟨a, ha, t, ht, e⟩ := h
  exact ⟨a, t, ha, ht, e.symm⟩
theorem nestL_length {α : Type} {pr : Nat → Nat → α} {sz : Nat → Nat} {c : Nat} : ∀ {k}, (∀ a, a < k → sz a ≤ c) → (nestL pr sz k 0).length ≤ k * c
  | 0, _ => by simp [nestL]
  | k + 1, h => by
    have ih := nestL_length (pr := pr) (sz := sz) (c := c) (k := k) fun a ha => h a (by omega)
    have := h k (by omega)
    rw [nestL_next]
    simp only [nestL, List.length_append, List.length_map, List.length_range, List.range_zero, List.map_nil, List.append_nil] at ih ⊢
    rw [Nat.add_mul]
    omega
theorem nestL_le {α : Type} {pr : Nat → Nat → α} {sz : Nat → Nat} {c k t n : Nat} (h : ∀ a, a < n → sz a ≤ c) (hk : k < n) (ht : t ≤ sz k) : (nestL pr sz k t).length ≤ n * c := by
  have h1 := nestL_length (pr := pr) (sz := sz) (c := c) (k := k) fun a ha => h a (by omega)
  have h2 := h k hk
  have h3 : (k + 1) * c ≤ n * c := Nat.mul_le_mul_right _ hk
  rw [Nat.add_mul] at h3
  simp only [nestL, List.length_append, List.length_map, List.length_range, List.range_zero, List.map_nil, List.append_nil] at h1 ⊢
  omega
theorem nestL_map {α β : Type} (f : α → β) (pr : Nat → Nat → α) (sz : Nat → Nat) (k t : Nat) : (nestL pr sz k t).map f = nestL (fun a i => f (pr a i)) sz k t := by
  simp [nestL, List.map_flatMap, Function.comp_def]
/-- The rows of three nested loops, up to (k, t, u). -/
def nest3 {α : Type} (pr : Nat → Nat → Nat → α) (s1 : Nat → Nat) (s2 : Nat → Nat → Nat) (k t u : Nat) : List α := (List.range k).flatMap (fun a => nestL (pr a) (s2 a) (s1 a) 0) ++ nestL (pr k) (s2 k) t u
theorem nest3_zero {α : Type} (pr : Nat → Nat → Nat → α) (s1 : Nat → Nat) (s2 : Nat → Nat → Nat) : nest3 pr s1 s2 0 0 0 = [] := rfl
theorem nest3_snoc {α : Type} {pr : Nat → Nat → Nat → α} {s1 : Nat → Nat} {s2 : Nat → Nat → Nat} {k t u : Nat} : nest3 pr s1 s2 k t (u + 1) = nest3 pr s1 s2 k t u ++ [pr k t u] := by
  unfold nest3
  rw [nestL_snoc, List.append_assoc]
theorem nest3_next2 {α : Type} {pr : Nat → Nat → Nat → α} {s1 : Nat → Nat} {s2 : Nat → Nat → Nat} {k t : Nat} : nest3 pr s1 s2 k (t + 1) 0 = nest3 pr s1 s2 k t (s2 k t) := by
  unfold nest3
  rw [nestL_next]
theorem nest3_next1 {α : Type} {pr : Nat → Nat → Nat → α} {s1 : Nat → Nat} {s2 : Nat → Nat → Nat} {k : Nat} : nest3 pr s1 s2 (k + 1) 0 0 = nest3 pr s1 s2 k (s1 k) 0 := by
  unfold nest3
  rw [List.range_succ, List.flatMap_append]
  simp [nestL_zero]
theorem nest3_mem {α : Type} {pr : Nat → Nat → Nat → α} {s1 : Nat → Nat} {s2 : Nat → Nat → Nat} {k : Nat} {x : α} (h : x ∈ nest3 pr s1 s2 k 0 0) : ∃ a b t, a < k ∧ b < s1 a ∧ t < s2 a b ∧ x = pr a b t := by
  unfold nest3 at h
  rw [nestL_zero, List.append_nil, List.mem_flatMap] at h
  obtain ⟨a, ha, hx⟩ := h
  obtain ⟨b, t, hb, ht, e⟩ := nestL_mem hx
  exact ⟨a, b, t, List.mem_range.1 ha, hb, ht, e⟩
theorem flatMap_len {α : Type} {f : Nat → List α} {c : Nat} : ∀ {k}, (∀ a, a < k → (f a).length ≤ c) → ((List.range k).flatMap f).length ≤ k * c
  | 0, _ => by simp
  | k + 1, h => by
    have ih := flatMap_len (f := f) (c := c) (k := k) fun a ha => h a (by omega)
    have := h k (by omega)
    rw [List.range_succ, List.flatMap_append, List.length_append, Nat.add_mul]
    simp only [List.flatMap_cons, List.flatMap_nil, List.append_nil]
    omega
theorem nest3_le {α : Type} {pr : Nat → Nat → Nat → α} {s1 : Nat → Nat} {s2 : Nat → Nat → Nat} {c d k t u n : Nat} (h1 : ∀ a, a < n → s1 a ≤ d) (h2 : ∀ a, a < n → ∀ b, b < s1 a → s2 a b ≤ c) (hk : k < n) (ht : t < s1 k) (hu : u ≤ s2 k t) : (nest3 pr s1 s2 k t u).length ≤ n * (d * c) := by
  unfold nest3
  rw [List.length_append]
  have q1 := flatMap_len (f := fun a => nestL (pr a) (s2 a) (s1 a) 0) (c := d * c) (k := k) fun a ha => by
    have r1 := nestL_length (pr := pr a) (sz := s2 a) (c := c) (k := s1 a) fun b hb => h2 a (by omega) b hb
    exact Nat.le_trans r1 (Nat.mul_le_mul_right _ (h1 a (by omega)))
  have q2 := nestL_le (pr := pr k) (sz := s2 k) (c := c) (k := t) (t := u) (n := s1 k) (fun b hb => h2 k hk b hb) ht hu
  have q3 : s1 k * c ≤ d * c := Nat.mul_le_mul_right _ (h1 k hk)
  have q4 : (k + 1) * (d * c) ≤ n * (d * c) := Nat.mul_le_mul_right _ hk
  rw [Nat.add_mul] at q4
  omega
theorem nest3_all {α : Type} {pr : Nat → Nat → Nat → α} {s1 : Nat → Nat} {s2 : Nat → Nat → Nat} {c d n : Nat} (h1 : ∀ a, a < n → s1 a ≤ d) (h2 : ∀ a, a < n → ∀ b, b < s1 a → s2 a b ≤ c) : (nest3 pr s1 s2 n 0 0).length ≤ n * (d * c) := by
  unfold nest3
  rw [nestL_zero, List.append_nil]
  exact flatMap_len fun a ha => by
    have r1 := nestL_length (pr := pr a) (sz := s2 a) (c := c) (k := s1 a) fun b hb => h2 a ha b hb
    exact Nat.le_trans r1 (Nat.mul_le_mul_right _ (h1 a ha))
theorem getD_mem_list {α : Type} {xs : List α} {d : α} {i : Nat} (h : i < xs.length) : xs.getD i d ∈ xs := by
  rw [List.getD_eq_getElem?_getD, List.getElem?_eq_getElem h]
  exact List.getElem_mem h

/-! ### Categories as results. -/
def CatR (b : Nat) (H : GHeap) (c : Cat) (p : CatP) : Prop := (IntsR b H p.a1 c.src ∧ IntsR b H p.a2 c.tgt ∧ IntsR b H p.a3 c.idn ∧ IntssR b H p.a4 c.comp p.r) ∧ (lvBlks (c.leaves p)).Nodup
theorem CatR.keep {b b' : Nat} {H H' : GHeap} {c : Cat} {p : CatP} (h : CatR b H c p) (k : Keep b' H H') (hb : b' ≤ b) : CatR b' H' c p := ⟨⟨h.1.1.keep k hb, h.1.2.1.keep k hb, h.1.2.2.1.keep k hb, h.1.2.2.2.keep k hb⟩, h.2⟩
theorem CatR.inn {b : Nat} {H : GHeap} {c : Cat} {p : CatP} (h : CatR b H c p) : c.In H p := ⟨h.1.1.ints, h.1.2.1.ints, h.1.2.2.1.ints, h.1.2.2.2.intss⟩
theorem CatW.of_r {b : Nat} {H0 H : GHeap} {c : Cat} {p : CatP} (h : CatR b H0 c p) (k : Keep b H0 H) : CatW b H0.next H c p := ⟨.of_r h.1.1 k, .of_r h.1.2.1 k, .of_r h.1.2.2.1 k, .of_r h.1.2.2.2 k⟩
def Cat.zero : Cat := ⟨0, [], [], [], []⟩
def CatP.zero : CatP := ⟨none, none, none, none, fun _ => none⟩
theorem CatR.zero (b : Nat) (H : GHeap) : CatR b H .zero .zero := ⟨⟨.inl ⟨rfl, rfl⟩, .inl ⟨rfl, rfl⟩, .inl ⟨rfl, rfl⟩, .nil _ _ _⟩, by simp [Cat.leaves, Cat.zero, CatP.zero, lvBlks, lvBlk, rowsL]⟩
theorem mem_lvBlk1 {a : Option Addr} {n x : Nat} (h : x ∈ lvBlk (a, n)) : ∃ o s, a = some ⟨x, o, s⟩ := by
  unfold lvBlk at h
  split at h
  · rename_i a' m e
    cases e
    rw [List.mem_singleton] at h
    subst h
    exact ⟨_, _, rfl⟩
  · cases h
theorem lvBlk_nodup (l : Leaf) : (lvBlk l).Nodup := by unfold lvBlk; split <;> simp
/-- A category whose lists lie in rows of their own. -/
theorem CatR.mk {b : Nat} {H : GHeap} {c : Cat} {p : CatP} (h1 : IntsR b H p.a1 c.src) (h2 : IntsR b H p.a2 c.tgt) (h3 : IntsR b H p.a3 c.idn) (h4 : IntssR b H p.a4 c.comp p.r) {g1 g2 g3 : Nat} (k1 : p.a1 = none ∨ p.a1 = some ⟨g1, 0, none⟩) (k2 : p.a2 = none ∨ p.a2 = some ⟨g2, 0, none⟩) (k3 : p.a3 = none ∨ p.a3 = some ⟨g3, 0, none⟩)
    (n12 : g1 ≠ g2) (n13 : g1 ≠ g3) (n23 : g2 ≠ g3) (n4 : ∀ i, i < c.comp.length → p.r i ≠ some ⟨g1, 0, none⟩ ∧ p.r i ≠ some ⟨g2, 0, none⟩ ∧ p.r i ≠ some ⟨g3, 0, none⟩) : CatR b H c p := by
  have one : ∀ {a : Option Addr} {g n x : Nat}, (a = none ∨ a = some ⟨g, 0, none⟩) → x ∈ lvBlk (a, n) → x = g := by
    intro a g n x hk hx
    obtain ⟨o, s, e⟩ := mem_lvBlk1 hx
    rcases hk with h | h
    · rw [h] at e; cases e
    · rw [h] at e; cases e; rfl
  have rows : ∀ x ∈ lvBlks (rowsL p.r c.comp c.comp.length), x ≠ g1 ∧ x ≠ g2 ∧ x ≠ g3 := by
    intro x hx
    obtain ⟨l, hl, hxl⟩ := List.mem_flatMap.1 hx
    obtain ⟨i, hi, rfl⟩ := List.mem_map.1 hl
    have hi' := List.mem_range.1 hi
    have hlen : 0 < (c.comp.getD i []).length := by
      unfold lvBlk at hxl
      split at hxl
      · rename_i e; have := congrArg Prod.snd e; simp only at this; omega
      · cases hxl
    obtain ⟨o, s, e⟩ := mem_lvBlk1 hxl
    have hrow : ∃ g, p.r i = some ⟨g, 0, none⟩ := by
      rcases h4.1 with ⟨h, _⟩ | ⟨g, e', cs, _, _, _, _, _, h6⟩
      · rw [h] at hi'; simp at hi'
      · obtain ⟨g', _, hg', _⟩ := h6 i hi'
        exact ⟨g', hg'⟩
    obtain ⟨g, hg⟩ := hrow
    rw [hg] at e
    cases e
    obtain ⟨q1, q2, q3⟩ := n4 i hi'
    rw [hg] at q1 q2 q3
    exact ⟨fun h => q1 (by rw [h]), fun h => q2 (by rw [h]), fun h => q3 (by rw [h])⟩
  refine ⟨⟨h1, h2, h3, h4⟩, ?_⟩
  unfold Cat.leaves
  rw [lvBlks_append, lvBlks_append, lvBlks_append]
  have s1 : lvBlks [(p.a1, c.src.length)] = lvBlk (p.a1, c.src.length) := by simp [lvBlks]
  have s2 : lvBlks [(p.a2, c.tgt.length)] = lvBlk (p.a2, c.tgt.length) := by simp [lvBlks]
  have s3 : lvBlks [(p.a3, c.idn.length)] = lvBlk (p.a3, c.idn.length) := by simp [lvBlks]
  rw [s1, s2, s3]
  refine List.nodup_append.2 ⟨lvBlk_nodup _, List.nodup_append.2 ⟨lvBlk_nodup _, List.nodup_append.2 ⟨lvBlk_nodup _, h4.2, ?_⟩, ?_⟩, ?_⟩
  · intro x hx y hy hxy
    have e1 := one k3 hx
    have e2 := rows y hy
    omega
  · intro x hx y hy hxy
    have e1 := one k2 hx
    rcases List.mem_append.1 hy with hy | hy
    · have e2 := one k3 hy; omega
    · have e2 := rows y hy; omega
  · intro x hx y hy hxy
    have e1 := one k1 hx
    rcases List.mem_append.1 hy with hy | hy
    · have e2 := one k2 hy; omega
    · rcases List.mem_append.1 hy with hy | hy
      · have e2 := one k3 hy; omega
      · have e2 := rows y hy; omega
end Go.GL
/- Entries of left extensions. No condition. -/
namespace Go.GL
theorem Lasts.of_le {e : TypeId} {H H' : GHeap} (h : H.Le H') : Lasts e H H' := fun x _ hx => h.2 x _ hx
noncomputable def leCode (k : Fun) (f : SFun) (y : Int) : Int := bif B (k.Is ∧ f.Is) then (bif B (0 ≤ y ∧ y < k.t.obj) then (bif B (f.sh = k.s) then 0 else 5) else 2) else 1
theorem leCode_1 {k : Fun} {f : SFun} {y : Int} (h : ¬ (k.Is ∧ f.Is)) : leCode k f y = 1 := by unfold leCode; rw [B_false h]; rfl
theorem leCode_2 {k : Fun} {f : SFun} {y : Int} (h : k.Is ∧ f.Is) (h' : ¬ (0 ≤ y ∧ y < k.t.obj)) : leCode k f y = 2 := by unfold leCode; rw [B_true h, B_false h']; rfl
theorem leCode_3 {k : Fun} {f : SFun} {y : Int} (h : k.Is ∧ f.Is) (h' : 0 ≤ y ∧ y < k.t.obj) (h'' : ¬ f.sh = k.s) : leCode k f y = 5 := by unfold leCode; rw [B_true h, B_true h', B_false h'']; rfl
theorem leCode_4 {k : Fun} {f : SFun} {y : Int} (h : k.Is ∧ f.Is) (h' : 0 ≤ y ∧ y < k.t.obj) (h'' : f.sh = k.s) : leCode k f y = 0 := by unfold leCode; rw [B_true h, B_true h', B_true h'']; rfl
theorem leCode_0 {k : Fun} {f : SFun} {y : Int} (h : leCode k f y = 0) : k.Is ∧ f.Is ∧ 0 ≤ y ∧ y < k.t.obj ∧ f.sh = k.s := by
  by_cases h1 : k.Is ∧ f.Is
  · by_cases h2 : 0 ≤ y ∧ y < k.t.obj
    · by_cases h3 : f.sh = k.s
      · exact ⟨h1.1, h1.2, h2.1, h2.2, h3⟩
      · rw [leCode_3 h1 h2 h3] at h; omega
    · rw [leCode_2 h1 h2] at h; omega
  · rw [leCode_1 h1] at h; omega
def lePr (k : Fun) (y : Int) (x i e : Nat) : List Int := [(x : Int), (k.t.hom (k.ob.getD x 0) y).getD i 0, (e : Int)]
def leL (k : Fun) (f : SFun) (y : Int) (x i e : Nat) : List (List Int) := nest3 (lePr k y) (fun x => (k.t.hom (k.ob.getD x 0) y).length) (fun x _ => (f.sz.getD x 0).toNat) x i e
theorem leL_snoc {k : Fun} {f : SFun} {y : Int} {x i e : Nat} : leL k f y x i (e + 1) = leL k f y x i e ++ [lePr k y x i e] := nest3_snoc
theorem leL_next2 {k : Fun} {f : SFun} {y : Int} {x i : Nat} : leL k f y x (i + 1) 0 = leL k f y x i (f.sz.getD x 0).toNat := nest3_next2
theorem leL_next1 {k : Fun} {f : SFun} {y : Int} {x : Nat} : leL k f y (x + 1) 0 0 = leL k f y x (k.t.hom (k.ob.getD x 0) y).length 0 := nest3_next1
theorem leL_le {k : Fun} {f : SFun} {y : Int} {x i e : Nat} (hk : k.Is) (hf : f.Is) (hn : f.sz.length = k.ob.length) (hx : x < k.ob.length) (hi : i < (k.t.hom (k.ob.getD x 0) y).length) (he : e ≤ (f.sz.getD x 0).toNat) : (leL k f y x i e).length ≤ 8 * (40 * 16) := by
  have b1 := hk.1.1.obj
  have b2 := hk.2.2.ol
  have b3 := hk.2.1.1.n40
  have := nest3_le (pr := lePr k y) (s1 := fun x => (k.t.hom (k.ob.getD x 0) y).length) (s2 := fun x _ => (f.sz.getD x 0).toNat) (c := 16) (d := 40) (n := k.ob.length)
    (fun a _ => by have := k.t.hom_le (k.ob.getD a 0) y; omega) (fun a ha b _ => by have := hf.1.sz a (by omega); omega) hx hi he
  have h2 : k.ob.length * (40 * 16) ≤ 8 * (40 * 16) := Nat.mul_le_mul_right _ (by omega)
  unfold leL
  exact Nat.le_trans this h2
theorem leL_all {k : Fun} {f : SFun} {y : Int} (hk : k.Is) (hf : f.Is) (hn : f.sz.length = k.ob.length) : (leL k f y k.ob.length 0 0).length ≤ 8 * (40 * 16) := by
  have b1 := hk.1.1.obj
  have b2 := hk.2.2.ol
  have b3 := hk.2.1.1.n40
  have := nest3_all (pr := lePr k y) (s1 := fun x => (k.t.hom (k.ob.getD x 0) y).length) (s2 := fun x _ => (f.sz.getD x 0).toNat) (c := 16) (d := 40) (n := k.ob.length)
    (fun a _ => by have := k.t.hom_le (k.ob.getD a 0) y; omega) (fun a ha b _ => by have := hf.1.sz a (by omega); omega)
  have h2 : k.ob.length * (40 * 16) ≤ 8 * (40 * 16) := Nat.mul_le_mul_right _ (by omega)
  unfold leL
  exact Nat.le_trans this h2
theorem leLen {k : Fun} {f : SFun} (hk : k.Is) (hf : f.Is) (h : f.sh = k.s) : f.sz.length = k.ob.length := by
  have h1 := hf.1.zl
  have h2 := hk.2.2.ol
  rw [h] at h1
  omega
noncomputable def leR (k : Fun) (f : SFun) (y : Int) : List (List Int) := bif B (leCode k f y = 0) then leL k f y k.ob.length 0 0 else []
theorem leR_ok {k : Fun} {f : SFun} {y : Int} (h : leCode k f y = 0) : leR k f y = leL k f y k.ob.length 0 0 := by unfold leR; rw [B_true h]; rfl
theorem leR_not {k : Fun} {f : SFun} {y : Int} (h : ¬ leCode k f y = 0) : leR k f y = [] := by unfold leR; rw [B_false h]; rfl
theorem leR_small (k : Fun) (f : SFun) (y : Int) : (leR k f y).length ≤ 1048576 ∧ ∀ i, ((leR k f y).getD i []).length ≤ 1048576 := by
  by_cases h : leCode k f y = 0
  · obtain ⟨h1, h2, _, _, h5⟩ := leCode_0 h
    have := leL_all (y := y) h1 h2 (leLen h1 h2 h5)
    rw [leR_ok h]
    refine ⟨by omega, fun i => ?_⟩
    by_cases hi : i < (leL k f y k.ob.length 0 0).length
    · obtain ⟨a, b, t, _, _, _, e⟩ := nest3_mem (getD_mem_list (d := []) hi)
      have e' : (leL k f y k.ob.length 0 0).getD i [] = lePr k y a b t := e
      rw [e']
      unfold lePr
      simp
    · rw [List.getD_eq_getElem?_getD, List.getElem?_eq_none (by omega)]; simp
  · rw [leR_not h]; exact ⟨by simp, fun i => by simp⟩
end Go.GL
/- Entries of left extensions. No condition but those of each statement. -/
namespace Go.Proofs.Ytbdaddkbkdiglaa
open Go Go.GL Go.RowKit Go.Proofs
theorem l23Place_c {k : Fun} {p : FunP} {f : SFun} {q : SFunP} {y : Int} {H : GHeap} (hin : k.In H p := by assumption) (hin1 : f.In H q := by assumption) (hs : k.Small := by assumption) (hs1 : f.Small := by assumption) :
    GCalls Try.prog 59 [.agg (k.cells p).toArray, .agg (f.cells q).toArray, .int .i64 y] H (Ret (.int .i64 (leCode k f y)) H) := by
  refine GCalls.ret rfl ?_
  have w1 := hs.1
  have w2 := hs1.1
  refine GCalls.body (N := 26) (rs := [.tmp 6]) Try.func59 rfl rfl rfl rfl (fun Qx hret hend => ?_)
  refine .forget (fr' := [(0, some _), (1, some _), (2, some _)]) ⟨rfl, rfl, rfl, trivial⟩ ?_
  have hle := GHeap.Le.refl H
  have base_hin := hin
  have base_hin1 := hin1
  refine .seq (fun K1 hK1 => ?_)
  refine .region ?_
  refine .r rfl rfl rfl (.boxR rfl sz_36_E rfl) ?_
  rintro _ H3 ⟨g3, rfl, le3, ge3, at3⟩
  have nx_H3 := le3.1
  replace hle := hle.trans le3
  have lt_at3 := GHeap.lt_of_get at3
  replace hin := base_hin.mono hle
  replace hin1 := base_hin1.mono hle
  have hb3 : Fun.At _ g3 0 k p := ⟨Mem.of_get at3, hin⟩
  obtain ⟨fs3, ft3, c103, c113, j13, j23⟩ := hb3.get
  have hm3 : MemN _ _ _ _ _ := ⟨rfl, hb3.1⟩
  have hi3 := hb3.2
  have hms3 : MemN _ _ _ _ _ := ⟨rfl, fs3.1⟩
  have his3 := fs3.2
  have hmt3 : MemN _ _ _ _ _ := ⟨rfl, ft3.1⟩
  have hit3 := ft3.2
  refine .r rfl rfl rfl (.boxR rfl sz_66_VSFun rfl) ?_
  rintro _ H4 ⟨g4, rfl, le4, ge4, at4⟩
  have nx_H4 := le4.1
  replace hle := hle.trans le4
  replace at3 := le4.2 _ _ at3
  have lt_at4 := GHeap.lt_of_get at4
  replace hin := base_hin.mono hle
  replace hin1 := base_hin1.mono hle
  clear hb3 fs3 ft3 c103 c113 j13 j23 hm3 hi3 hms3 his3 hmt3 hit3
  have hb3 : Fun.At _ g3 0 k p := ⟨Mem.of_get at3, hin⟩
  obtain ⟨fs3, ft3, c103, c113, j13, j23⟩ := hb3.get
  have hm3 : MemN _ _ _ _ _ := ⟨rfl, hb3.1⟩
  have hi3 := hb3.2
  have hms3 : MemN _ _ _ _ _ := ⟨rfl, fs3.1⟩
  have his3 := fs3.2
  have hmt3 : MemN _ _ _ _ _ := ⟨rfl, ft3.1⟩
  have hit3 := ft3.2
  have hb4 : SFun.At _ g4 0 f q := ⟨Mem.of_get at4, hin1⟩
  obtain ⟨fsh4, c54, c64, i14, i24⟩ := hb4.get
  have hm4 : MemN _ _ _ _ _ := ⟨rfl, hb4.1⟩
  have hi4 := hb4.2
  have hmsh4 : MemN _ _ _ _ _ := ⟨rfl, fsh4.1⟩
  have hish4 := fsh4.2
  refine .m rfl rfl rfl (.assign rfl) ?_
  refine .nil ?_
  refine hK1 _ _ ?_
  refine .seq (fun K2 hK2 => ?_)
  refine .seq (fun K3 hK3 => ?_)
  refine .region ?_
  refine .m rfl rfl rfl (.loadM ag_36_E rfl ⟨rfl, Mem.of_get at3⟩) ?_
  refine .callQ rfl rfl rfl rfl @Try.call44 rfl (l06Is_c) ?_
  refine .m rfl rfl rfl (.not rfl) ?_
  refine .m rfl rfl rfl (.move rfl) ?_
  refine .split (fun h10 => ?_) (fun h10 => ?_)
  ·
   simp only [sps] at h10
   refine .sg rfl rfl rfl rfl rfl ?_
   refine .sg rfl rfl rfl rfl rfl ?_
   refine .sg rfl rfl rfl rfl rfl ?_
   refine .m rfl rfl rfl (.pickT rfl rfl) ?_
   refine .nil ?_
   refine hK3 _ _ ?_
   refine .condT rfl ?_
   refine .seq (fun K4 hK4 => ?_)
   refine .region ?_
   refine .m rfl rfl rfl (.assign rfl) ?_
   refine .nil ?_
   refine hK4 _ _ ?_
   refine .ret ?_
   -- leaf e1
   refine hret _ _ ?_
   refine ⟨_, rfl, ?_⟩
   first
   | exact ⟨by rw [leCode_4 ⟨by assumption, by assumption⟩ (by assumption) (by assumption)], hle⟩
   | exact ⟨by rw [leCode_3 ⟨by assumption, by assumption⟩ (by assumption) (by assumption)], hle⟩
   | exact ⟨by rw [leCode_2 ⟨by assumption, by assumption⟩ (by assumption)], hle⟩
   | exact ⟨by rw [leCode_1 fun hh => absurd hh.1 (by assumption)], hle⟩
   | exact ⟨by rw [leCode_1 fun hh => absurd hh.2 (by assumption)], hle⟩
  ·
   simp only [sps] at h10
   refine .mg rfl rfl rfl rfl rfl (.loadM ag_66_VSFun rfl ⟨rfl, Mem.of_get at4⟩) ?_
   refine .callQg rfl rfl rfl rfl rfl rfl @Try.call83 rfl (l19Is_c) ?_
   refine .mg rfl rfl rfl rfl rfl (.not rfl) ?_
   refine .m rfl rfl rfl (.pickF rfl rfl) ?_
   refine .nil ?_
   refine hK3 _ _ ?_
   refine .cond rfl (fun h14 => ?_) (fun h14 => ?_)
   ·
    simp only [sps] at h14
    refine .seq (fun K5 hK5 => ?_)
    refine .region ?_
    refine .m rfl rfl rfl (.assign rfl) ?_
    refine .nil ?_
    refine hK5 _ _ ?_
    refine .ret ?_
    -- leaf e2
    refine hret _ _ ?_
    refine ⟨_, rfl, ?_⟩
    first
    | exact ⟨by rw [leCode_4 ⟨by assumption, by assumption⟩ (by assumption) (by assumption)], hle⟩
    | exact ⟨by rw [leCode_3 ⟨by assumption, by assumption⟩ (by assumption) (by assumption)], hle⟩
    | exact ⟨by rw [leCode_2 ⟨by assumption, by assumption⟩ (by assumption)], hle⟩
    | exact ⟨by rw [leCode_1 fun hh => absurd hh.1 (by assumption)], hle⟩
    | exact ⟨by rw [leCode_1 fun hh => absurd hh.2 (by assumption)], hle⟩
   ·
    simp only [sps] at h14
    refine .skip ?_
    refine hK2 _ _ ?_
    refine .seq (fun K6 hK6 => ?_)
    refine .seq (fun K7 hK7 => ?_)
    refine .region ?_
    refine .m rfl rfl rfl (.fieldAddr fo_36_1_E rfl) ?_
    refine .m rfl rfl rfl (.loadM ag_34_D rfl (by assumption)) ?_
    refine .m rfl rfl rfl (.move rfl) ?_
    refine .callQ rfl rfl rfl rfl @Try.call77 rfl (l02Object_c) ?_
    refine .m rfl rfl rfl (.not rfl) ?_
    refine .nil ?_
    refine hK7 _ _ ?_
    refine .cond rfl (fun h19 => ?_) (fun h19 => ?_)
    ·
     simp only [B_iff, B_not, Bool.not_eq_true', Bool.not_eq_false'] at h19
     refine .seq (fun K8 hK8 => ?_)
     refine .region ?_
     refine .m rfl rfl rfl (.assign rfl) ?_
     refine .nil ?_
     refine hK8 _ _ ?_
     refine .ret ?_
     -- leaf e3
     refine hret _ _ ?_
     refine ⟨_, rfl, ?_⟩
     first
     | exact ⟨by rw [leCode_4 ⟨by assumption, by assumption⟩ (by assumption) (by assumption)], hle⟩
     | exact ⟨by rw [leCode_3 ⟨by assumption, by assumption⟩ (by assumption) (by assumption)], hle⟩
     | exact ⟨by rw [leCode_2 ⟨by assumption, by assumption⟩ (by assumption)], hle⟩
     | exact ⟨by rw [leCode_1 fun hh => absurd hh.1 (by assumption)], hle⟩
     | exact ⟨by rw [leCode_1 fun hh => absurd hh.2 (by assumption)], hle⟩
    ·
     simp only [B_iff, B_not, Bool.not_eq_true', Bool.not_eq_false'] at h19
     refine .skip ?_
     refine hK6 _ _ ?_
     refine .seq (fun K9 hK9 => ?_)
     refine .seq (fun K10 hK10 => ?_)
     refine .region ?_
     refine .m rfl rfl rfl (.fieldAddr fo_66_0_P rfl) ?_
     refine .m rfl rfl rfl (.loadM ag_34_D rfl (by assumption)) ?_
     refine .m rfl rfl rfl (.fieldAddr fo_36_0_E rfl) ?_
     refine .m rfl rfl rfl (.loadM ag_34_D rfl (by assumption)) ?_
     refine .callQ rfl rfl rfl rfl @Try.call84 rfl (l02Same_c) ?_
     refine .m rfl rfl rfl (.not rfl) ?_
     refine .nil ?_
     refine hK10 _ _ ?_
     refine .cond rfl (fun h25 => ?_) (fun h25 => ?_)
     ·
      simp only [B_iff, B_not, Bool.not_eq_true', Bool.not_eq_false'] at h25
      refine .seq (fun K11 hK11 => ?_)
      refine .region ?_
      refine .m rfl rfl rfl (.assign rfl) ?_
      refine .nil ?_
      refine hK11 _ _ ?_
      refine .ret ?_
      -- leaf e4
      refine hret _ _ ?_
      refine ⟨_, rfl, ?_⟩
      first
      | exact ⟨by rw [leCode_4 ⟨by assumption, by assumption⟩ (by assumption) (by assumption)], hle⟩
      | exact ⟨by rw [leCode_3 ⟨by assumption, by assumption⟩ (by assumption) (by assumption)], hle⟩
      | exact ⟨by rw [leCode_2 ⟨by assumption, by assumption⟩ (by assumption)], hle⟩
      | exact ⟨by rw [leCode_1 fun hh => absurd hh.1 (by assumption)], hle⟩
      | exact ⟨by rw [leCode_1 fun hh => absurd hh.2 (by assumption)], hle⟩
     ·
      simp only [B_iff, B_not, Bool.not_eq_true', Bool.not_eq_false'] at h25
      refine .skip ?_
      refine hK9 _ _ ?_
      refine .seq (fun K12 hK12 => ?_)
      refine .region ?_
      refine .m rfl rfl rfl (.assign rfl) ?_
      refine .nil ?_
      refine hK12 _ _ ?_
      refine .ret ?_
      -- leaf e5
      refine hret _ _ ?_
      refine ⟨_, rfl, ?_⟩
      first
      | exact ⟨by rw [leCode_4 ⟨by assumption, by assumption⟩ (by assumption) (by assumption)], hle⟩
      | exact ⟨by rw [leCode_3 ⟨by assumption, by assumption⟩ (by assumption) (by assumption)], hle⟩
      | exact ⟨by rw [leCode_2 ⟨by assumption, by assumption⟩ (by assumption)], hle⟩
      | exact ⟨by rw [leCode_1 fun hh => absurd hh.1 (by assumption)], hle⟩
      | exact ⟨by rw [leCode_1 fun hh => absurd hh.2 (by assumption)], hle⟩
theorem baseCode_c {g o g' o' : Nat} {k : Fun} {p : FunP} {f : SFun} {q : SFunP} {H : GHeap} (h : Fun.At H g o k p := by assumption) (h' : SFun.At H g' o' f q := by assumption) (hs : k.Small := by assumption) (hs1 : f.Small := by assumption) (hI : k.Is := by assumption) (hI' : f.Is := by assumption) :
    GCalls Try.prog 86 [.pointer (some ⟨g, o, none⟩), .pointer (some ⟨g', o', none⟩)] H (Ret (.int .i64 (bif B (f.sh = k.s) then 0 else 5)) H) := by
  refine GCalls.ret (by cases B (f.sh = k.s) <;> rfl) ?_
  have w1 := hs.1
  have w2 := hs1.1
  refine GCalls.body (N := 21) (rs := [.tmp 4]) Try.func86 rfl rfl rfl rfl (fun Qx hret hend => ?_)
  refine .forget (fr' := [(0, some _), (1, some _)]) ⟨rfl, rfl, trivial⟩ ?_
  have hle := GHeap.Le.refl H
  have base_h := h
  have base_h' := h'
  obtain ⟨fs, ft, c10, c11, j1, j2⟩ := h.get
  have hm : MemN _ _ _ _ _ := ⟨rfl, h.1⟩
  have hi := h.2
  have hms : MemN _ _ _ _ _ := ⟨rfl, fs.1⟩
  have his := fs.2
  have hmt : MemN _ _ _ _ _ := ⟨rfl, ft.1⟩
  have hit := ft.2
  obtain ⟨fshb, c5b, c6b, i1b, i2b⟩ := h'.get
  have hmb : MemN _ _ _ _ _ := ⟨rfl, h'.1⟩
  have hib := h'.2
  have hmshb : MemN _ _ _ _ _ := ⟨rfl, fshb.1⟩
  have hishb := fshb.2
  refine .seq (fun K1 hK1 => ?_)
  refine .region ?_
  refine .m rfl rfl rfl (.assign rfl) ?_
  refine .nil ?_
  refine hK1 _ _ ?_
  refine .seq (fun K2 hK2 => ?_)
  refine .seq (fun K3 hK3 => ?_)
  refine .region ?_
  refine .m rfl rfl rfl (.move rfl) ?_
  refine .callQ rfl rfl rfl rfl @Try.call47 rfl (isFunctor_c) ?_
  refine .m rfl rfl rfl (.not rfl) ?_
  refine .m rfl rfl rfl (.move rfl) ?_
  refine .split (fun h8 => ?_) (fun h8 => ?_)
  ·
   exact absurd hI (by simpa only [sps] using h8)
  ·
   try simp only [sps] at h8
   refine .mg rfl rfl rfl rfl rfl (.move rfl) ?_
   refine .callQg rfl rfl rfl rfl rfl rfl @Try.call85 rfl (isSetFunctor_c) ?_
   refine .mg rfl rfl rfl rfl rfl (.not rfl) ?_
   refine .m rfl rfl rfl (.pickF rfl rfl) ?_
   refine .nil ?_
   refine hK3 _ _ ?_
   refine .cond rfl (fun h12 => ?_) (fun h12 => ?_)
   ·
    exact absurd hI' (by simpa only [sps] using h12)
   ·
    try simp only [sps] at h12
    refine .skip ?_
    refine hK2 _ _ ?_
    refine .seq (fun K4 hK4 => ?_)
    refine .seq (fun K5 hK5 => ?_)
    refine .regionD mixed_orders_B (.q 0 (.q 1 (.q 2 (.q 3 (.q 4 (.q 5 (.c 6 0 (.q 7 (.done))))))))) (by kernel_rfl) ?_
    refine .m rfl rfl rfl rfl (.refl _) (.move rfl) ?_
    refine .m rfl rfl rfl rfl (.refl _) (.nilCheck rfl) ?_
    refine .m rfl rfl rfl rfl (.refl _) (.fieldAddr fo_36_0_E rfl) ?_
    refine .m rfl rfl rfl rfl (.refl _) (.move rfl) ?_
    refine .m rfl rfl rfl rfl (.refl _) (.nilCheck rfl) ?_
    refine .m rfl rfl rfl rfl (.refl _) (.fieldAddr fo_66_0_P rfl) ?_
    refine .callQ0 rfl rfl rfl rfl rfl @Try.call81 rfl (sameCategory_c) ?_
    refine .m rfl rfl rfl rfl (.refl _) (.not rfl) ?_
    refine .done ?_
    refine hK5 _ _ ?_
    refine .cond rfl (fun h20 => ?_) (fun h20 => ?_)
    ·
     simp only [B_iff, B_not, Bool.not_eq_true', Bool.not_eq_false'] at h20
     refine .seq (fun K6 hK6 => ?_)
     refine .region ?_
     refine .m rfl rfl rfl (.assign rfl) ?_
     refine .nil ?_
     refine hK6 _ _ ?_
     refine .ret ?_
     -- leaf e1
     refine hret _ _ ?_
     refine ⟨_, rfl, ?_⟩
     first
     | exact ⟨by rw [B_true (h20 : k.s = f.sh).symm]; rfl, hle⟩
     | exact ⟨by rw [B_false fun hh => absurd hh.symm (h20 : ¬ k.s = f.sh)]; rfl, hle⟩
     | exact absurd hI (by assumption)
     | exact absurd hI' (by assumption)
    ·
     simp only [B_iff, B_not, Bool.not_eq_true', Bool.not_eq_false'] at h20
     refine .skip ?_
     refine hK4 _ _ ?_
     refine .seq (fun K7 hK7 => ?_)
     refine .region ?_
     refine .m rfl rfl rfl (.assign rfl) ?_
     refine .nil ?_
     refine hK7 _ _ ?_
     refine .ret ?_
     -- leaf e2
     refine hret _ _ ?_
     refine ⟨_, rfl, ?_⟩
     first
     | exact ⟨by rw [B_true (h20 : k.s = f.sh).symm]; rfl, hle⟩
     | exact ⟨by rw [B_false fun hh => absurd hh.symm (h20 : ¬ k.s = f.sh)]; rfl, hle⟩
     | exact absurd hI (by assumption)
     | exact absurd hI' (by assumption)
theorem baseAtCode_c {g o g' o' : Nat} {k : Fun} {p : FunP} {f : SFun} {q : SFunP} {y : Int} {H : GHeap} (h : Fun.At H g o k p := by assumption) (h' : SFun.At H g' o' f q := by assumption) (hs : k.Small := by assumption) (hs1 : f.Small := by assumption) :
    GCalls Try.prog 61 [.pointer (some ⟨g, o, none⟩), .pointer (some ⟨g', o', none⟩), .int .i64 y] H (Ret (.int .i64 (leCode k f y)) H) := by
  refine GCalls.ret rfl ?_
  refine GCalls.body (N := 27) (rs := [.tmp 6]) Try.func61 rfl rfl rfl rfl (fun Qx hret hend => ?_)
  refine .forget (fr' := [(0, some _), (1, some _), (2, some _)]) ⟨rfl, rfl, rfl, trivial⟩ ?_
  have hle := GHeap.Le.refl H
  have base_h := h
  have base_h' := h'
  obtain ⟨fs, ft, c10, c11, j1, j2⟩ := h.get
  have hm : MemN _ _ _ _ _ := ⟨rfl, h.1⟩
  have hi := h.2
  have hms : MemN _ _ _ _ _ := ⟨rfl, fs.1⟩
  have his := fs.2
  have hmt : MemN _ _ _ _ _ := ⟨rfl, ft.1⟩
  have hit := ft.2
  obtain ⟨d0, d1, d2, d3, d4, e1, e2, e3, e4⟩ := ft.get
  refine .seq (fun K1 hK1 => ?_)
  refine .region ?_
  refine .m rfl rfl rfl (.assign rfl) ?_
  refine .nil ?_
  refine hK1 _ _ ?_
  refine .seq (fun K2 hK2 => ?_)
  refine .seq (fun K3 hK3 => ?_)
  refine .region ?_
  refine .m rfl rfl rfl (.move rfl) ?_
  refine .callQ rfl rfl rfl rfl @Try.call47 rfl (isFunctor_c) ?_
  refine .m rfl rfl rfl (.not rfl) ?_
  refine .m rfl rfl rfl (.move rfl) ?_
  refine .split (fun h10 => ?_) (fun h10 => ?_)
  ·
   simp only [sps] at h10
   refine .sg rfl rfl rfl rfl rfl ?_
   refine .sg rfl rfl rfl rfl rfl ?_
   refine .sg rfl rfl rfl rfl rfl ?_
   refine .m rfl rfl rfl (.pickT rfl rfl) ?_
   refine .nil ?_
   refine hK3 _ _ ?_
   refine .condT rfl ?_
   refine .seq (fun K4 hK4 => ?_)
   refine .region ?_
   refine .m rfl rfl rfl (.assign rfl) ?_
   refine .nil ?_
   refine hK4 _ _ ?_
   refine .ret ?_
   -- leaf e1
   refine hret _ _ ?_
   refine ⟨_, rfl, ?_⟩
   first
   | (by_cases hsh : f.sh = k.s
      · exact ⟨by rw [leCode_4 ⟨by assumption, by assumption⟩ ⟨by omega, by omega⟩ hsh, B_true hsh]; rfl, hle⟩
      · exact ⟨by rw [leCode_3 ⟨by assumption, by assumption⟩ ⟨by omega, by omega⟩ hsh, B_false hsh]; rfl, hle⟩)
   | exact ⟨by rw [leCode_2 ⟨by assumption, by assumption⟩ (by omega)], hle⟩
   | exact ⟨by rw [leCode_1 fun hh => absurd hh.1 (by assumption)], hle⟩
   | exact ⟨by rw [leCode_1 fun hh => absurd hh.2 (by assumption)], hle⟩
  ·
   simp only [sps] at h10
   refine .mg rfl rfl rfl rfl rfl (.move rfl) ?_
   refine .callQg rfl rfl rfl rfl rfl rfl @Try.call85 rfl (isSetFunctor_c) ?_
   refine .mg rfl rfl rfl rfl rfl (.not rfl) ?_
   refine .m rfl rfl rfl (.pickF rfl rfl) ?_
   refine .nil ?_
   refine hK3 _ _ ?_
   refine .cond rfl (fun h14 => ?_) (fun h14 => ?_)
   ·
    simp only [sps] at h14
    refine .seq (fun K5 hK5 => ?_)
    refine .region ?_
    refine .m rfl rfl rfl (.assign rfl) ?_
    refine .nil ?_
    refine hK5 _ _ ?_
    refine .ret ?_
    -- leaf e2
    refine hret _ _ ?_
    refine ⟨_, rfl, ?_⟩
    first
    | (by_cases hsh : f.sh = k.s
       · exact ⟨by rw [leCode_4 ⟨by assumption, by assumption⟩ ⟨by omega, by omega⟩ hsh, B_true hsh]; rfl, hle⟩
       · exact ⟨by rw [leCode_3 ⟨by assumption, by assumption⟩ ⟨by omega, by omega⟩ hsh, B_false hsh]; rfl, hle⟩)
    | exact ⟨by rw [leCode_2 ⟨by assumption, by assumption⟩ (by omega)], hle⟩
    | exact ⟨by rw [leCode_1 fun hh => absurd hh.1 (by assumption)], hle⟩
    | exact ⟨by rw [leCode_1 fun hh => absurd hh.2 (by assumption)], hle⟩
   ·
    simp only [sps] at h14
    refine .skip ?_
    refine hK2 _ _ ?_
    refine .seq (fun K6 hK6 => ?_)
    refine .seq (fun K7 hK7 => ?_)
    refine .region ?_
    have hob := h10.2.1.1.obj
    refine .m rfl rfl rfl (.move rfl) ?_
    refine .m rfl rfl rfl (.move rfl) ?_
    refine .m rfl rfl rfl (.nilCheck rfl) ?_
    refine .m rfl rfl rfl (.fieldAddr fo_36_1_E rfl) ?_
    refine .m rfl rfl rfl (.fieldAddr fo_34_0_B rfl) ?_
    refine .m rfl rfl rfl (.load on_2_A rfl (by assumption)) ?_
    refine .m rfl rfl rfl (.sub rfl rfl rfl (by omega) (by omega)) ?_
    refine .callQ rfl rfl rfl rfl @Try.call80 rfl (inRange_c) ?_
    refine .m rfl rfl rfl (.not rfl) ?_
    refine .nil ?_
    refine hK7 _ _ ?_
    refine .cond rfl (fun h23 => ?_) (fun h23 => ?_)
    ·
     simp only [sps] at h23
     refine .seq (fun K8 hK8 => ?_)
     refine .region ?_
     refine .m rfl rfl rfl (.assign rfl) ?_
     refine .nil ?_
     refine hK8 _ _ ?_
     refine .ret ?_
     -- leaf e3
     refine hret _ _ ?_
     refine ⟨_, rfl, ?_⟩
     first
     | (by_cases hsh : f.sh = k.s
        · exact ⟨by rw [leCode_4 ⟨by assumption, by assumption⟩ ⟨by omega, by omega⟩ hsh, B_true hsh]; rfl, hle⟩
        · exact ⟨by rw [leCode_3 ⟨by assumption, by assumption⟩ ⟨by omega, by omega⟩ hsh, B_false hsh]; rfl, hle⟩)
     | exact ⟨by rw [leCode_2 ⟨by assumption, by assumption⟩ (by omega)], hle⟩
     | exact ⟨by rw [leCode_1 fun hh => absurd hh.1 (by assumption)], hle⟩
     | exact ⟨by rw [leCode_1 fun hh => absurd hh.2 (by assumption)], hle⟩
    ·
     simp only [sps] at h23
     refine .skip ?_
     refine hK6 _ _ ?_
     refine .seq (fun K9 hK9 => ?_)
     refine .region ?_
     refine .m rfl rfl rfl (.move rfl) ?_
     refine .m rfl rfl rfl (.move rfl) ?_
     refine .callQ rfl rfl rfl rfl @Try.call86 rfl (baseCode_c) ?_
     refine .m rfl rfl rfl (.assign rfl) ?_
     refine .nil ?_
     refine hK9 _ _ ?_
     refine .ret ?_
     -- leaf e4
     refine hret _ _ ?_
     refine ⟨_, rfl, ?_⟩
     first
     | (by_cases hsh : f.sh = k.s
        · exact ⟨by rw [leCode_4 ⟨by assumption, by assumption⟩ ⟨by omega, by omega⟩ hsh, B_true hsh]; rfl, hle⟩
        · exact ⟨by rw [leCode_3 ⟨by assumption, by assumption⟩ ⟨by omega, by omega⟩ hsh, B_false hsh]; rfl, hle⟩)
     | exact ⟨by rw [leCode_2 ⟨by assumption, by assumption⟩ (by omega)], hle⟩
     | exact ⟨by rw [leCode_1 fun hh => absurd hh.1 (by assumption)], hle⟩
     | exact ⟨by rw [leCode_1 fun hh => absurd hh.2 (by assumption)], hle⟩
set_option maxHeartbeats 4000000 in
theorem l23Entries_c {k : Fun} {p : FunP} {f : SFun} {q : SFunP} {y : Int} {H : GHeap} (hin : k.In H p := by assumption) (hin1 : f.In H q := by assumption) (hI : k.Is := by assumption) (hI' : f.Is := by assumption) (hn : f.sz.length = k.ob.length := by assumption) :
    GCalls Try.prog 60 [.agg (k.cells p).toArray, .agg (f.cells q).toArray, .int .i64 y] H (NewIntssR H (leL k f y k.ob.length 0 0)) := by
  have hKI := hI
  have hS := hI.2.1.1
  have b1 := hI.1.1.obj
  have b2 := hI.2.2.ol
  have b3 := hS.n40
  refine GCalls.body (N := 55) (rs := [.tmp 6]) Try.func60 rfl rfl rfl rfl (fun Qx hret hend => ?_)
  refine .forget (fr' := [(0, some _), (1, some _), (2, some _)]) ⟨rfl, rfl, rfl, trivial⟩ ?_
  have hle := GHeap.Le.refl H
  have base_hin := hin
  have base_hin1 := hin1
  refine .seq (fun K1 hK1 => ?_)
  refine .region ?_
  refine .r rfl rfl rfl (.boxR rfl sz_36_E rfl) ?_
  rintro _ H3 ⟨g3, rfl, le3, ge3, at3⟩
  have nx_H3 := le3.1
  replace hle := hle.trans le3
  have lt_at3 := GHeap.lt_of_get at3
  replace hin := base_hin.mono hle
  replace hin1 := base_hin1.mono hle
  have hb3 : Fun.At _ g3 0 k p := ⟨Mem.of_get at3, hin⟩
  obtain ⟨fs3, ft3, c103, c113, j13, j23⟩ := hb3.get
  have hm3 : MemN _ _ _ _ _ := ⟨rfl, hb3.1⟩
  have hi3 := hb3.2
  have hms3 : MemN _ _ _ _ _ := ⟨rfl, fs3.1⟩
  have his3 := fs3.2
  have hmt3 : MemN _ _ _ _ _ := ⟨rfl, ft3.1⟩
  have hit3 := ft3.2
  refine .r rfl rfl rfl (.boxR rfl sz_66_VSFun rfl) ?_
  rintro _ H4 ⟨g4, rfl, le4, ge4, at4⟩
  have nx_H4 := le4.1
  replace hle := hle.trans le4
  replace at3 := le4.2 _ _ at3
  have lt_at4 := GHeap.lt_of_get at4
  replace hin := base_hin.mono hle
  replace hin1 := base_hin1.mono hle
  clear hb3 fs3 ft3 c103 c113 j13 j23 hm3 hi3 hms3 his3 hmt3 hit3
  have hb3 : Fun.At _ g3 0 k p := ⟨Mem.of_get at3, hin⟩
  obtain ⟨fs3, ft3, c103, c113, j13, j23⟩ := hb3.get
  have hm3 : MemN _ _ _ _ _ := ⟨rfl, hb3.1⟩
  have hi3 := hb3.2
  have hms3 : MemN _ _ _ _ _ := ⟨rfl, fs3.1⟩
  have his3 := fs3.2
  have hmt3 : MemN _ _ _ _ _ := ⟨rfl, ft3.1⟩
  have hit3 := ft3.2
  have hb4 : SFun.At _ g4 0 f q := ⟨Mem.of_get at4, hin1⟩
  obtain ⟨fsh4, c54, c64, i14, i24⟩ := hb4.get
  have hm4 : MemN _ _ _ _ _ := ⟨rfl, hb4.1⟩
  have hi4 := hb4.2
  have hmsh4 : MemN _ _ _ _ _ := ⟨rfl, fsh4.1⟩
  have hish4 := fsh4.2
  refine .m rfl rfl rfl (.assign rfl) ?_
  refine .nil ?_
  refine hK1 _ _ ?_
  refine .seq (fun K2 hK2 => ?_)
  refine .region ?_
  refine .r rfl rfl rfl (.litR rfl sl_23_B ze_22_E rfl rfl (by omega) (by omega) rfl rfl) ?_
  rintro _ H12 ⟨g12, rfl, le12, ge12, at12⟩
  have nx_H12 := le12.1
  replace hle := hle.trans le12
  replace at3 := le12.2 _ _ at3
  replace at4 := le12.2 _ _ at4
  have lt_at12 := GHeap.lt_of_get at12
  replace hin := base_hin.mono hle
  replace hin1 := base_hin1.mono hle
  clear hb3 fs3 ft3 c103 c113 j13 j23 hm3 hi3 hms3 his3 hmt3 hit3
  have hb3 : Fun.At _ g3 0 k p := ⟨Mem.of_get at3, hin⟩
  obtain ⟨fs3, ft3, c103, c113, j13, j23⟩ := hb3.get
  have hm3 : MemN _ _ _ _ _ := ⟨rfl, hb3.1⟩
  have hi3 := hb3.2
  have hms3 : MemN _ _ _ _ _ := ⟨rfl, fs3.1⟩
  have his3 := fs3.2
  have hmt3 : MemN _ _ _ _ _ := ⟨rfl, ft3.1⟩
  have hit3 := ft3.2
  clear hb4 fsh4 c54 c64 i14 i24 hm4 hi4 hmsh4 hish4
  have hb4 : SFun.At _ g4 0 f q := ⟨Mem.of_get at4, hin1⟩
  obtain ⟨fsh4, c54, c64, i14, i24⟩ := hb4.get
  have hm4 : MemN _ _ _ _ _ := ⟨rfl, hb4.1⟩
  have hi4 := hb4.2
  have hmsh4 : MemN _ _ _ _ _ := ⟨rfl, fsh4.1⟩
  have hish4 := fsh4.2
  refine .m rfl rfl rfl (.assign rfl) ?_
  refine .nil ?_
  refine hK2 _ _ ?_
  refine .seq (fun K3 hK3 => ?_)
  refine .seq (fun K4 hK4 => ?_)
  refine .region ?_
  refine .m rfl rfl rfl (.assign rfl) ?_
  refine .nil ?_
  refine hK4 _ _ ?_
  refine .block ?_
  refine .loopR (σ := Nat × (Nat → Option Addr) × Nat × Nat) [(2, some _), (3, some _), (4, some _)] (fun (x, rr, gL7, nL7) => [(8, some (.int .i64 (x : Int))), (7, some (.slice (some ⟨gL7, 0, none⟩) nL7 nL7))]) (fun (x, rr, gL7, nL7) H' => St [g12] H12 H' ∧ H'.get gL7 = some (.row ((slsL rr (leL k f y x 0 0))) 22 true) ∧ (gL7 = g12 ∨ H12.next ≤ gL7) ∧ nL7 = (slsL rr (leL k f y x 0 0)).length ∧ x ≤ k.ob.length ∧ OwnL H.next H' 2 rr (leL k f y x 0 0)) (fun (x, rr, gL7, nL7) => k.ob.length - x) ((0, fun _ => none, _, _)) ⟨rfl, rfl, rfl, trivial⟩ ⟨rfl, rfl, trivial⟩ ?_ ?_
  ·
   refine ⟨.refl _ _, by first | assumption | exact at12 | simpa using at12, .inl rfl, by first | rfl | assumption | simp | omega, ?_⟩
   exact ⟨by omega, .nil _ _ _ _⟩
  ·
   rintro ⟨x, rr, gL7, nL7⟩ HL1 ⟨lst1, at_L7, pl_L7, ln_L7, hI⟩ KL1 hKL1
   refine .forget (fr' := [(8, some (.int .i64 (x : Int))), (7, some (.slice (some ⟨gL7, 0, none⟩) nL7 nL7)), (2, some _), (3, some _), (4, some _)]) ⟨rfl, rfl, rfl, rfl, rfl, trivial⟩ ?_
   have ge_L7 : H.next ≤ gL7 := by omega
   have nx_HL1 := lst1.nx
   replace hle := hle.st lst1 (fun k hk => ⟨by omega, trivial⟩)
   replace at3 := lst1.same _ _ ⟨by omega, trivial⟩ at3
   replace at4 := lst1.same _ _ ⟨by omega, trivial⟩ at4
   have lt_at_L7 := GHeap.lt_of_get at_L7
   replace hin := base_hin.mono hle
   replace hin1 := base_hin1.mono hle
   clear hb3 fs3 ft3 c103 c113 j13 j23 hm3 hi3 hms3 his3 hmt3 hit3
   have hb3 : Fun.At _ g3 0 k p := ⟨Mem.of_get at3, hin⟩
   obtain ⟨fs3, ft3, c103, c113, j13, j23⟩ := hb3.get
   have hm3 : MemN _ _ _ _ _ := ⟨rfl, hb3.1⟩
   have hi3 := hb3.2
   have hms3 : MemN _ _ _ _ _ := ⟨rfl, fs3.1⟩
   have his3 := fs3.2
   have hmt3 : MemN _ _ _ _ _ := ⟨rfl, ft3.1⟩
   have hit3 := ft3.2
   clear hb4 fsh4 c54 c64 i14 i24 hm4 hi4 hmsh4 hish4
   have hb4 : SFun.At _ g4 0 f q := ⟨Mem.of_get at4, hin1⟩
   obtain ⟨fsh4, c54, c64, i14, i24⟩ := hb4.get
   have hm4 : MemN _ _ _ _ _ := ⟨rfl, hb4.1⟩
   have hi4 := hb4.2
   have hmsh4 : MemN _ _ _ _ _ := ⟨rfl, fsh4.1⟩
   have hish4 := fsh4.2
   obtain ⟨hx, hR⟩ := hI
   obtain ⟨d0, d1, d2, d3, d4, e1, e2, e3, e4⟩ := fs3.get
   refine .seq (fun K5 hK5 => ?_)
   refine .seq (fun K6 hK6 => ?_)
   refine .region ?_
   refine .m rfl rfl rfl (.move rfl) ?_
   refine .m rfl rfl rfl (.fieldAddr fo_36_0_E rfl) ?_
   refine .m rfl rfl rfl (.fieldAddr fo_34_0_B rfl) ?_
   refine .m rfl rfl rfl (.load on_2_A rfl (by assumption)) ?_
   refine .m rfl rfl rfl (.cmp rfl rfl rfl) ?_
   refine .nil ?_
   refine hK6 _ _ ?_
   refine .cond rfl (fun h17 => ?_) (fun h17 => ?_)
   ·
    simp only [sps] at h17
    have hz := hI'.1.sz x (by omega)
    have hlh := k.t.hom_le (k.ob.getD x 0) y
    refine .skip ?_
    refine hK5 _ _ ?_
    refine .seq (fun K7 hK7 => ?_)
    refine .block ?_
    refine .seq (fun K8 hK8 => ?_)
    refine .regionD mixed_orders_B (.q 0 (.q 1 (.q 2 (.q 3 (.q 4 (.q 5 (.q 6 (.q 7 (.c 8 0 (.q 9 (.done))))))))))) (by kernel_rfl) ?_
    refine .m rfl rfl rfl rfl (.refl _) (.fieldAddr fo_36_1_E rfl) ?_
    refine .m rfl rfl rfl rfl (.refl _) (.loadM ag_34_D rfl (by assumption)) ?_
    refine .m rfl rfl rfl rfl (.refl _) (.fieldAddr fo_36_2_E rfl) ?_
    refine .m rfl rfl rfl rfl (.refl _) (.load on_22_B rfl (by assumption)) ?_
    refine .m rfl rfl rfl rfl (.refl _) (.move rfl) ?_
    refine .m rfl rfl rfl rfl (.refl _) (.idxN sl_22_A (by assumption) rfl rfl (by omega)) ?_
    refine .m rfl rfl rfl rfl (.refl _) (.loadI on_2_A (by assumption) rfl (by omega)) ?_
    refine .m rfl rfl rfl rfl (.refl _) (.move rfl) ?_
    refine .call0 rfl rfl rfl rfl rfl @Try.call71 rfl (l02Hom_c) ?_
    rintro _ H28 ⟨le28, g28, rfl, at28, ge28⟩
    have nx_H28 := le28.1
    replace hle := hle.trans le28
    replace lst1 := lst1.le le28
    replace at3 := le28.2 _ _ at3
    replace at4 := le28.2 _ _ at4
    replace at_L7 := le28.2 _ _ at_L7
    have lt_at28 := GHeap.lt_of_get at28
    replace hin := base_hin.mono hle
    replace hin1 := base_hin1.mono hle
    clear hb3 fs3 ft3 c103 c113 j13 j23 hm3 hi3 hms3 his3 hmt3 hit3
    have hb3 : Fun.At _ g3 0 k p := ⟨Mem.of_get at3, hin⟩
    obtain ⟨fs3, ft3, c103, c113, j13, j23⟩ := hb3.get
    have hm3 : MemN _ _ _ _ _ := ⟨rfl, hb3.1⟩
    have hi3 := hb3.2
    have hms3 : MemN _ _ _ _ _ := ⟨rfl, fs3.1⟩
    have his3 := fs3.2
    have hmt3 : MemN _ _ _ _ _ := ⟨rfl, ft3.1⟩
    have hit3 := ft3.2
    clear hb4 fsh4 c54 c64 i14 i24 hm4 hi4 hmsh4 hish4
    have hb4 : SFun.At _ g4 0 f q := ⟨Mem.of_get at4, hin1⟩
    obtain ⟨fsh4, c54, c64, i14, i24⟩ := hb4.get
    have hm4 : MemN _ _ _ _ _ := ⟨rfl, hb4.1⟩
    have hi4 := hb4.2
    have hmsh4 : MemN _ _ _ _ _ := ⟨rfl, fsh4.1⟩
    have hish4 := fsh4.2
    have i28 := Ints.of_get at28
    refine .m rfl rfl rfl rfl (.refl _) (.assign rfl) ?_
    refine .done ?_
    refine hK8 _ _ ?_
    refine .seq (fun K9 hK9 => ?_)
    refine .region ?_
    refine .m rfl rfl rfl (.assign rfl) ?_
    refine .nil ?_
    refine hK9 _ _ ?_
    refine .block ?_
    refine .loopR (σ := Nat × (Nat → Option Addr) × Nat × Nat) [(2, some _), (3, some _), (4, some _), (8, some _), (9, some _)] (fun (i, r2, gL7v2, nL7v2) => [(10, some (.int .i64 (i : Int))), (7, some (.slice (some ⟨gL7v2, 0, none⟩) nL7v2 nL7v2))]) (fun (i, r2, gL7v2, nL7v2) H' => St [gL7] H28 H' ∧ H'.get gL7v2 = some (.row ((slsL r2 (leL k f y x i 0))) 22 true) ∧ (gL7v2 = gL7 ∨ H28.next ≤ gL7v2) ∧ nL7v2 = (slsL r2 (leL k f y x i 0)).length ∧ i ≤ (k.t.hom (k.ob.getD x 0) y).length ∧ OwnL H.next H' 2 r2 (leL k f y x i 0)) (fun (i, r2, gL7v2, nL7v2) => (k.t.hom (k.ob.getD x 0) y).length - i) ((0, rr, _, _)) ⟨rfl, rfl, rfl, rfl, rfl, trivial⟩ ⟨rfl, rfl, trivial⟩ ?_ ?_
    ·
     refine ⟨.refl _ _, by first | assumption | exact at_L7 | simpa using at_L7, .inl rfl, by first | rfl | assumption | simp | omega, ?_⟩
     exact ⟨by omega, hR.keep (.of_le le28)⟩
    ·
     rintro ⟨i, r2, gL7v2, nL7v2⟩ HL2 ⟨lst2, at_L7v2, pl_L7v2, ln_L7v2, hI⟩ KL2 hKL2
     refine .forget (fr' := [(10, some (.int .i64 (i : Int))), (7, some (.slice (some ⟨gL7v2, 0, none⟩) nL7v2 nL7v2)), (2, some _), (3, some _), (4, some _), (8, some _), (9, some _)]) ⟨rfl, rfl, rfl, rfl, rfl, rfl, rfl, trivial⟩ ?_
     have ge_L7v2 : H.next ≤ gL7v2 := by omega
     have nx_HL2 := lst2.nx
     replace hle := hle.st lst2 (fun k hk => ⟨by omega, trivial⟩)
     replace lst1 := lst1.st lst2 (fun k hk ho => by simp only [out, and_true] at ho ⊢ <;> omega)
     replace at3 := lst2.same _ _ ⟨by omega, trivial⟩ at3
     replace at4 := lst2.same _ _ ⟨by omega, trivial⟩ at4
     replace at28 := lst2.same _ _ ⟨by omega, trivial⟩ at28
     have lt_at_L7v2 := GHeap.lt_of_get at_L7v2
     replace hin := base_hin.mono hle
     replace hin1 := base_hin1.mono hle
     clear hb3 fs3 ft3 c103 c113 j13 j23 hm3 hi3 hms3 his3 hmt3 hit3
     have hb3 : Fun.At _ g3 0 k p := ⟨Mem.of_get at3, hin⟩
     obtain ⟨fs3, ft3, c103, c113, j13, j23⟩ := hb3.get
     have hm3 : MemN _ _ _ _ _ := ⟨rfl, hb3.1⟩
     have hi3 := hb3.2
     have hms3 : MemN _ _ _ _ _ := ⟨rfl, fs3.1⟩
     have his3 := fs3.2
     have hmt3 : MemN _ _ _ _ _ := ⟨rfl, ft3.1⟩
     have hit3 := ft3.2
     clear hb4 fsh4 c54 c64 i14 i24 hm4 hi4 hmsh4 hish4
     have hb4 : SFun.At _ g4 0 f q := ⟨Mem.of_get at4, hin1⟩
     obtain ⟨fsh4, c54, c64, i14, i24⟩ := hb4.get
     have hm4 : MemN _ _ _ _ _ := ⟨rfl, hb4.1⟩
     have hi4 := hb4.2
     have hmsh4 : MemN _ _ _ _ _ := ⟨rfl, fsh4.1⟩
     have hish4 := fsh4.2
     clear i28
     have i28 := Ints.of_get at28
     obtain ⟨hi, hR⟩ := hI
     refine .seq (fun K10 hK10 => ?_)
     refine .seq (fun K11 hK11 => ?_)
     refine .region ?_
     refine .m rfl rfl rfl (.move rfl) ?_
     refine .m rfl rfl rfl (.move rfl) ?_
     refine .m rfl rfl rfl (.len sl_22_A rfl) ?_
     refine .m rfl rfl rfl (.cmp rfl rfl rfl) ?_
     refine .nil ?_
     refine hK11 _ _ ?_
     refine .cond rfl (fun h32 => ?_) (fun h32 => ?_)
     ·
      simp only [sps] at h32
      obtain ⟨u, hu1, hu2, hu3, hu4⟩ := Cat.hom_get (c := k.t) (x := k.ob.getD x 0) (y := y) (i := i) (by omega)
      refine .skip ?_
      refine hK10 _ _ ?_
      refine .seq (fun K12 hK12 => ?_)
      refine .block ?_
      refine .seq (fun K13 hK13 => ?_)
      refine .region ?_
      refine .m rfl rfl rfl (.assign rfl) ?_
      refine .nil ?_
      refine hK13 _ _ ?_
      refine .block ?_
      refine .loopR (σ := Nat × (Nat → Option Addr) × Nat × Nat) [(2, some _), (3, some _), (4, some _), (8, some _), (9, some _), (10, some _)] (fun (e, r3, gL7v3, nL7v3) => [(11, some (.int .i64 (e : Int))), (7, some (.slice (some ⟨gL7v3, 0, none⟩) nL7v3 nL7v3))]) (fun (e, r3, gL7v3, nL7v3) H' => St [gL7v2] HL2 H' ∧ H'.get gL7v3 = some (.row ((slsL r3 (leL k f y x i e))) 22 true) ∧ (gL7v3 = gL7v2 ∨ HL2.next ≤ gL7v3) ∧ nL7v3 = (slsL r3 (leL k f y x i e)).length ∧ e ≤ (f.sz.getD x 0).toNat ∧ OwnL H.next H' 2 r3 (leL k f y x i e)) (fun (e, r3, gL7v3, nL7v3) => (f.sz.getD x 0).toNat - e) ((0, r2, _, _)) ⟨rfl, rfl, rfl, rfl, rfl, rfl, trivial⟩ ⟨rfl, rfl, trivial⟩ ?_ ?_
      ·
       refine ⟨.refl _ _, by first | assumption | exact at_L7v2 | simpa using at_L7v2, .inl rfl, by first | rfl | assumption | simp | omega, ?_⟩
       exact ⟨by omega, hR⟩
      ·
       rintro ⟨e, r3, gL7v3, nL7v3⟩ HL3 ⟨lst3, at_L7v3, pl_L7v3, ln_L7v3, hI⟩ KL3 hKL3
       refine .forget (fr' := [(11, some (.int .i64 (e : Int))), (7, some (.slice (some ⟨gL7v3, 0, none⟩) nL7v3 nL7v3)), (2, some _), (3, some _), (4, some _), (8, some _), (9, some _), (10, some _)]) ⟨rfl, rfl, rfl, rfl, rfl, rfl, rfl, rfl, trivial⟩ ?_
       have ge_L7v3 : H.next ≤ gL7v3 := by omega
       have nx_HL3 := lst3.nx
       replace hle := hle.st lst3 (fun k hk => ⟨by omega, trivial⟩)
       replace lst1 := lst1.st lst3 (fun k hk ho => by simp only [out, and_true] at ho ⊢ <;> omega)
       replace lst2 := lst2.st lst3 (fun k hk ho => by simp only [out, and_true] at ho ⊢ <;> omega)
       replace at3 := lst3.same _ _ ⟨by omega, trivial⟩ at3
       replace at4 := lst3.same _ _ ⟨by omega, trivial⟩ at4
       replace at28 := lst3.same _ _ ⟨by omega, trivial⟩ at28
       have lt_at_L7v3 := GHeap.lt_of_get at_L7v3
       replace hin := base_hin.mono hle
       replace hin1 := base_hin1.mono hle
       clear hb3 fs3 ft3 c103 c113 j13 j23 hm3 hi3 hms3 his3 hmt3 hit3
       have hb3 : Fun.At _ g3 0 k p := ⟨Mem.of_get at3, hin⟩
       obtain ⟨fs3, ft3, c103, c113, j13, j23⟩ := hb3.get
       have hm3 : MemN _ _ _ _ _ := ⟨rfl, hb3.1⟩
       have hi3 := hb3.2
       have hms3 : MemN _ _ _ _ _ := ⟨rfl, fs3.1⟩
       have his3 := fs3.2
       have hmt3 : MemN _ _ _ _ _ := ⟨rfl, ft3.1⟩
       have hit3 := ft3.2
       clear hb4 fsh4 c54 c64 i14 i24 hm4 hi4 hmsh4 hish4
       have hb4 : SFun.At _ g4 0 f q := ⟨Mem.of_get at4, hin1⟩
       obtain ⟨fsh4, c54, c64, i14, i24⟩ := hb4.get
       have hm4 : MemN _ _ _ _ _ := ⟨rfl, hb4.1⟩
       have hi4 := hb4.2
       have hmsh4 : MemN _ _ _ _ _ := ⟨rfl, fsh4.1⟩
       have hish4 := fsh4.2
       clear i28
       have i28 := Ints.of_get at28
       have rk := St.refl [gL7v3] HL3
       obtain ⟨he, hR⟩ := hI
       have hat7 := at_L7v3
       have hln := leL_le (k := k) (f := f) (y := y) hKI hI' hn (x := x) (i := i) (e := e) (by omega) (by omega) he
       have hfl : (slsL r3 (leL k f y x i e)).length = (leL k f y x i e).length := length_slsL _ _
       refine .seq (fun K14 hK14 => ?_)
       refine .seq (fun K15 hK15 => ?_)
       refine .region ?_
       refine .m rfl rfl rfl (.move rfl) ?_
       refine .m rfl rfl rfl (.fieldAddr fo_66_1_P rfl) ?_
       refine .m rfl rfl rfl (.load on_22_B rfl (by assumption)) ?_
       refine .m rfl rfl rfl (.move rfl) ?_
       refine .m rfl rfl rfl (.idxN sl_22_A (by assumption) rfl rfl (by omega)) ?_
       refine .m rfl rfl rfl (.loadI on_2_A (by assumption) rfl (by omega)) ?_
       refine .m rfl rfl rfl (.cmp rfl rfl rfl) ?_
       refine .nil ?_
       refine hK15 _ _ ?_
       refine .cond rfl (fun h41 => ?_) (fun h41 => ?_)
       ·
        simp only [sps] at h41
        refine .skip ?_
        refine hK14 _ _ ?_
        refine .seq (fun K16 hK16 => ?_)
        refine .block ?_
        refine .region ?_
        refine .m rfl rfl rfl (.move rfl) ?_
        refine .m rfl rfl rfl (.move rfl) ?_
        refine .m rfl rfl rfl (.move rfl) ?_
        refine .m rfl rfl rfl (.move rfl) ?_
        refine .m rfl rfl rfl (.idxN sl_22_A (by assumption) rfl rfl (by omega)) ?_
        refine .m rfl rfl rfl (.loadI on_2_A (by assumption) rfl (by omega)) ?_
        refine .m rfl rfl rfl (.move rfl) ?_
        refine .r rfl rfl rfl (.litR rfl sl_22_A ze_2_E rfl rfl (by omega) (by omega) rfl rfl) ?_
        rintro _ H51 ⟨g51, rfl, le51, ge51, at51⟩
        have nx_H51 := le51.1
        replace hle := hle.trans le51
        replace lst1 := lst1.le le51
        replace lst2 := lst2.le le51
        replace lst3 := lst3.le le51
        replace rk := rk.le le51
        replace at3 := le51.2 _ _ at3
        replace at4 := le51.2 _ _ at4
        replace at28 := le51.2 _ _ at28
        replace at_L7v3 := le51.2 _ _ at_L7v3
        have lt_at51 := GHeap.lt_of_get at51
        replace hin := base_hin.mono hle
        replace hin1 := base_hin1.mono hle
        clear hb3 fs3 ft3 c103 c113 j13 j23 hm3 hi3 hms3 his3 hmt3 hit3
        have hb3 : Fun.At _ g3 0 k p := ⟨Mem.of_get at3, hin⟩
        obtain ⟨fs3, ft3, c103, c113, j13, j23⟩ := hb3.get
        have hm3 : MemN _ _ _ _ _ := ⟨rfl, hb3.1⟩
        have hi3 := hb3.2
        have hms3 : MemN _ _ _ _ _ := ⟨rfl, fs3.1⟩
        have his3 := fs3.2
        have hmt3 : MemN _ _ _ _ _ := ⟨rfl, ft3.1⟩
        have hit3 := ft3.2
        clear hb4 fsh4 c54 c64 i14 i24 hm4 hi4 hmsh4 hish4
        have hb4 : SFun.At _ g4 0 f q := ⟨Mem.of_get at4, hin1⟩
        obtain ⟨fsh4, c54, c64, i14, i24⟩ := hb4.get
        have hm4 : MemN _ _ _ _ _ := ⟨rfl, hb4.1⟩
        have hi4 := hb4.2
        have hmsh4 : MemN _ _ _ _ _ := ⟨rfl, fsh4.1⟩
        have hish4 := fsh4.2
        clear i28
        have i28 := Ints.of_get at28
        refine .r rfl rfl rfl (.litR rfl sl_23_B ze_22_E rfl rfl (by omega) (by omega) rfl rfl) ?_
        rintro _ H52 ⟨g52, rfl, le52, ge52, at52⟩
        have nx_H52 := le52.1
        replace hle := hle.trans le52
        replace lst1 := lst1.le le52
        replace lst2 := lst2.le le52
        replace lst3 := lst3.le le52
        replace rk := rk.le le52
        replace at3 := le52.2 _ _ at3
        replace at4 := le52.2 _ _ at4
        replace at28 := le52.2 _ _ at28
        replace at_L7v3 := le52.2 _ _ at_L7v3
        replace at51 := le52.2 _ _ at51
        have lt_at52 := GHeap.lt_of_get at52
        replace hin := base_hin.mono hle
        replace hin1 := base_hin1.mono hle
        clear hb3 fs3 ft3 c103 c113 j13 j23 hm3 hi3 hms3 his3 hmt3 hit3
        have hb3 : Fun.At _ g3 0 k p := ⟨Mem.of_get at3, hin⟩
        obtain ⟨fs3, ft3, c103, c113, j13, j23⟩ := hb3.get
        have hm3 : MemN _ _ _ _ _ := ⟨rfl, hb3.1⟩
        have hi3 := hb3.2
        have hms3 : MemN _ _ _ _ _ := ⟨rfl, fs3.1⟩
        have his3 := fs3.2
        have hmt3 : MemN _ _ _ _ _ := ⟨rfl, ft3.1⟩
        have hit3 := ft3.2
        clear hb4 fsh4 c54 c64 i14 i24 hm4 hi4 hmsh4 hish4
        have hb4 : SFun.At _ g4 0 f q := ⟨Mem.of_get at4, hin1⟩
        obtain ⟨fsh4, c54, c64, i14, i24⟩ := hb4.get
        have hm4 : MemN _ _ _ _ _ := ⟨rfl, hb4.1⟩
        have hi4 := hb4.2
        have hmsh4 : MemN _ _ _ _ _ := ⟨rfl, fsh4.1⟩
        have hish4 := fsh4.2
        clear i28
        have i28 := Ints.of_get at28
        refine .r rfl rfl rfl (.appendV rfl sl_23_B ze_22_E rfl by_22_E sl_23_B rfl rfl (by assumption) (by assumption) (by first | omega | (simp <;> omega)) rfl rfl (by omega) (by omega)) ?_
        rintro _ H53 ⟨g53, rfl, st53, ge53, at53⟩
        have nx_H53 := st53.nx
        replace hle := hle.st st53 (fun k hk => ⟨by omega, trivial⟩)
        replace lst1 := lst1.st st53 (fun k hk ho => by simp only [out, and_true] at ho ⊢ <;> omega)
        replace lst2 := lst2.st st53 (fun k hk ho => by simp only [out, and_true] at ho ⊢ <;> omega)
        replace lst3 := lst3.st st53 (fun k hk ho => by simp only [out, and_true] at ho ⊢ <;> omega)
        replace rk := rk.st st53 (fun k hk ho => by simp only [out, and_true] at ho ⊢ <;> omega)
        replace at3 := st53.same _ _ ⟨by omega, trivial⟩ at3
        replace at4 := st53.same _ _ ⟨by omega, trivial⟩ at4
        replace at28 := st53.same _ _ ⟨by omega, trivial⟩ at28
        replace at51 := st53.same _ _ ⟨by omega, trivial⟩ at51
        replace at52 := st53.same _ _ ⟨by omega, trivial⟩ at52
        have lt_at53 := GHeap.lt_of_get at53
        replace hin := base_hin.mono hle
        replace hin1 := base_hin1.mono hle
        clear hb3 fs3 ft3 c103 c113 j13 j23 hm3 hi3 hms3 his3 hmt3 hit3
        have hb3 : Fun.At _ g3 0 k p := ⟨Mem.of_get at3, hin⟩
        obtain ⟨fs3, ft3, c103, c113, j13, j23⟩ := hb3.get
        have hm3 : MemN _ _ _ _ _ := ⟨rfl, hb3.1⟩
        have hi3 := hb3.2
        have hms3 : MemN _ _ _ _ _ := ⟨rfl, fs3.1⟩
        have his3 := fs3.2
        have hmt3 : MemN _ _ _ _ _ := ⟨rfl, ft3.1⟩
        have hit3 := ft3.2
        clear hb4 fsh4 c54 c64 i14 i24 hm4 hi4 hmsh4 hish4
        have hb4 : SFun.At _ g4 0 f q := ⟨Mem.of_get at4, hin1⟩
        obtain ⟨fsh4, c54, c64, i14, i24⟩ := hb4.get
        have hm4 : MemN _ _ _ _ _ := ⟨rfl, hb4.1⟩
        have hi4 := hb4.2
        have hmsh4 : MemN _ _ _ _ _ := ⟨rfl, fsh4.1⟩
        have hish4 := fsh4.2
        clear i28
        have i28 := Ints.of_get at28
        refine .m rfl rfl rfl (.assign rfl) ?_
        refine .nil ?_
        refine hK16 _ _ ?_
        refine .region ?_
        refine .m rfl rfl rfl (.move rfl) ?_
        refine .m rfl rfl rfl (.add rfl rfl rfl (by omega) (by omega)) ?_
        refine .m rfl rfl rfl (.assign rfl) ?_
        refine .nil ?_
        refine hKL3 ((e + 1, upd r3 (leL k f y x i e).length (some ⟨g51, 0, none⟩), _, _)) _ _ ?_ ?_ ⟨rfl, rfl, rfl, rfl, rfl, rfl, rfl, rfl, trivial⟩
        ·
         refine ⟨lst3, by first | assumption | (rw [leL_snoc, slsL_snoc]; assumption), by omega, by first | omega | (simp only [List.length_append, List.length_cons, List.length_nil] <;> omega) | (rw [leL_snoc, slsL_snoc] <;> (first | omega | (simp only [List.length_append, List.length_cons, List.length_nil] <;> omega))), ?_⟩
         exact ⟨by omega, by rw [leL_snoc]; exact hR.snoc (x := lePr k y x i e) (rk.lasts1 hat7 rfl) (by assumption) (by omega) (by omega)⟩
        ·
         (dsimp only; omega)
       ·
        try simp only [sps] at h41
        refine .exit ?_
        refine hK12 _ _ ?_
        refine .region ?_
        refine .m rfl rfl rfl (.move rfl) ?_
        refine .m rfl rfl rfl (.add rfl rfl rfl (by omega) (by omega)) ?_
        refine .m rfl rfl rfl (.assign rfl) ?_
        refine .nil ?_
        obtain rfl : e = (f.sz.getD x 0).toNat := by omega
        refine hKL2 ((i + 1, r3, _, _)) _ _ ?_ ?_ ⟨rfl, rfl, rfl, rfl, rfl, rfl, rfl, trivial⟩
        ·
         refine ⟨lst2, by first | assumption | (rw [leL_next2]; assumption), by omega, by first | omega | (simp only [List.length_append, List.length_cons, List.length_nil] <;> omega) | (rw [leL_next2] <;> (first | omega | (simp only [List.length_append, List.length_cons, List.length_nil] <;> omega))), ?_⟩
         exact ⟨by omega, by rw [leL_next2]; exact hR⟩
        ·
         (dsimp only; omega)
     ·
      try simp only [sps] at h32
      refine .exit ?_
      refine hK7 _ _ ?_
      refine .region ?_
      refine .m rfl rfl rfl (.move rfl) ?_
      refine .m rfl rfl rfl (.add rfl rfl rfl (by omega) (by omega)) ?_
      refine .m rfl rfl rfl (.assign rfl) ?_
      refine .nil ?_
      obtain rfl : i = (k.t.hom (k.ob.getD x 0) y).length := by omega
      refine hKL1 ((x + 1, r2, _, _)) _ _ ?_ ?_ ⟨rfl, rfl, rfl, rfl, rfl, trivial⟩
      ·
       refine ⟨lst1, by first | assumption | (rw [leL_next1]; assumption), by omega, by first | omega | (simp only [List.length_append, List.length_cons, List.length_nil] <;> omega) | (rw [leL_next1] <;> (first | omega | (simp only [List.length_append, List.length_cons, List.length_nil] <;> omega))), ?_⟩
       exact ⟨by omega, by rw [leL_next1]; exact hR⟩
      ·
       (dsimp only; omega)
   ·
    try simp only [sps] at h17
    refine .exit ?_
    refine hK3 _ _ ?_
    refine .seq (fun K17 hK17 => ?_)
    refine .region ?_
    refine .m rfl rfl rfl (.move rfl) ?_
    refine .m rfl rfl rfl (.assign rfl) ?_
    refine .nil ?_
    refine hK17 _ _ ?_
    refine .ret ?_
    -- leaf e1
    refine hret _ _ ?_
    refine ⟨_, rfl, ?_⟩
    obtain rfl : x = k.ob.length := by omega
    exact ⟨hle, _, rr, by rw [ln_L7]; simp, hR.done at_L7 (by omega)⟩
set_option maxHeartbeats 4000000 in
theorem leftEntries_c {g o g' o' : Nat} {k : Fun} {p : FunP} {f : SFun} {q : SFunP} {y : Int} {H : GHeap} (h : Fun.At H g o k p := by assumption) (h' : SFun.At H g' o' f q := by assumption) (hI : k.Is := by assumption) (hI' : f.Is := by assumption) (hn : f.sz.length = k.ob.length := by assumption) :
    GCalls Try.prog 62 [.pointer (some ⟨g, o, none⟩), .pointer (some ⟨g', o', none⟩), .int .i64 y] H (NewIntssR H (leL k f y k.ob.length 0 0)) := by
  have hKI := hI
  have hS := hI.2.1.1
  have b1 := hI.1.1.obj
  have b2 := hI.2.2.ol
  have b3 := hS.n40
  refine GCalls.body (N := 56) (rs := [.tmp 6]) Try.func62 rfl rfl rfl rfl (fun Qx hret hend => ?_)
  refine .forget (fr' := [(0, some _), (1, some _), (2, some _)]) ⟨rfl, rfl, rfl, trivial⟩ ?_
  have hle := GHeap.Le.refl H
  have base_h := h
  have base_h' := h'
  obtain ⟨fs, ft, c10, c11, j1, j2⟩ := h.get
  have hm : MemN _ _ _ _ _ := ⟨rfl, h.1⟩
  have hi := h.2
  have hms : MemN _ _ _ _ _ := ⟨rfl, fs.1⟩
  have his := fs.2
  have hmt : MemN _ _ _ _ _ := ⟨rfl, ft.1⟩
  have hit := ft.2
  obtain ⟨fshb, c5b, c6b, i1b, i2b⟩ := h'.get
  have hmb : MemN _ _ _ _ _ := ⟨rfl, h'.1⟩
  have hib := h'.2
  have hmshb : MemN _ _ _ _ _ := ⟨rfl, fshb.1⟩
  have hishb := fshb.2
  refine .seq (fun K1 hK1 => ?_)
  refine .region ?_
  refine .m rfl rfl rfl (.assign rfl) ?_
  refine .nil ?_
  refine hK1 _ _ ?_
  refine .seq (fun K2 hK2 => ?_)
  refine .region ?_
  refine .r rfl rfl rfl (.litR rfl sl_23_B ze_22_E rfl rfl (by omega) (by omega) rfl rfl) ?_
  rintro _ H13 ⟨g13, rfl, le13, ge13, at13⟩
  have nx_H13 := le13.1
  replace hle := hle.trans le13
  have lt_at13 := GHeap.lt_of_get at13
  replace h := base_h.mono hle
  replace h' := base_h'.mono hle
  clear fs ft c10 c11 j1 j2 hm hi hms his hmt hit fshb c5b c6b i1b i2b hmb hib hmshb hishb
  obtain ⟨fs, ft, c10, c11, j1, j2⟩ := h.get
  have hm : MemN _ _ _ _ _ := ⟨rfl, h.1⟩
  have hi := h.2
  have hms : MemN _ _ _ _ _ := ⟨rfl, fs.1⟩
  have his := fs.2
  have hmt : MemN _ _ _ _ _ := ⟨rfl, ft.1⟩
  have hit := ft.2
  obtain ⟨fshb, c5b, c6b, i1b, i2b⟩ := h'.get
  have hmb : MemN _ _ _ _ _ := ⟨rfl, h'.1⟩
  have hib := h'.2
  have hmshb : MemN _ _ _ _ _ := ⟨rfl, fshb.1⟩
  have hishb := fshb.2
  refine .m rfl rfl rfl (.assign rfl) ?_
  refine .nil ?_
  refine hK2 _ _ ?_
  refine .seq (fun K3 hK3 => ?_)
  refine .seq (fun K4 hK4 => ?_)
  refine .region ?_
  refine .m rfl rfl rfl (.move rfl) ?_
  refine .m rfl rfl rfl (.nilCheck rfl) ?_
  refine .m rfl rfl rfl (.fieldAddr fo_36_2_E rfl) ?_
  refine .m rfl rfl rfl (.load on_22_B rfl (by assumption)) ?_
  refine .m rfl rfl rfl (.len sl_22_A rfl) ?_
  refine .m rfl rfl rfl (.move rfl) ?_
  refine .nil ?_
  refine hK4 _ _ ?_
  refine .block ?_
  refine .loopR (σ := Nat × (Nat → Option Addr) × Nat × Nat) [(0, some _), (1, some _), (2, some _), (17, some _), (18, some _)] (fun (x, rr, gL7, nL7) => [(19, some (.int .i64 (x : Int))), (7, some (.slice (some ⟨gL7, 0, none⟩) nL7 nL7))]) (fun (x, rr, gL7, nL7) H' => St [g13] H13 H' ∧ H'.get gL7 = some (.row ((slsL rr (leL k f y x 0 0))) 22 true) ∧ (gL7 = g13 ∨ H13.next ≤ gL7) ∧ nL7 = (slsL rr (leL k f y x 0 0)).length ∧ x ≤ k.ob.length ∧ OwnL H.next H' 2 rr (leL k f y x 0 0)) (fun (x, rr, gL7, nL7) => k.ob.length - x) ((0, fun _ => none, _, _)) ⟨rfl, rfl, rfl, rfl, rfl, trivial⟩ ⟨rfl, rfl, trivial⟩ ?_ ?_
  ·
   refine ⟨.refl _ _, by first | assumption | exact at13 | simpa using at13, .inl rfl, by first | rfl | assumption | simp | omega, ?_⟩
   exact ⟨by omega, .nil _ _ _ _⟩
  ·
   rintro ⟨x, rr, gL7, nL7⟩ HL1 ⟨lst1, at_L7, pl_L7, ln_L7, hI⟩ KL1 hKL1
   refine .forget (fr' := [(19, some (.int .i64 (x : Int))), (7, some (.slice (some ⟨gL7, 0, none⟩) nL7 nL7)), (0, some _), (1, some _), (2, some _), (17, some _), (18, some _)]) ⟨rfl, rfl, rfl, rfl, rfl, rfl, rfl, trivial⟩ ?_
   have ge_L7 : H.next ≤ gL7 := by omega
   have nx_HL1 := lst1.nx
   replace hle := hle.st lst1 (fun k hk => ⟨by omega, trivial⟩)
   have lt_at_L7 := GHeap.lt_of_get at_L7
   replace h := base_h.mono hle
   replace h' := base_h'.mono hle
   clear fs ft c10 c11 j1 j2 hm hi hms his hmt hit fshb c5b c6b i1b i2b hmb hib hmshb hishb
   obtain ⟨fs, ft, c10, c11, j1, j2⟩ := h.get
   have hm : MemN _ _ _ _ _ := ⟨rfl, h.1⟩
   have hi := h.2
   have hms : MemN _ _ _ _ _ := ⟨rfl, fs.1⟩
   have his := fs.2
   have hmt : MemN _ _ _ _ _ := ⟨rfl, ft.1⟩
   have hit := ft.2
   obtain ⟨fshb, c5b, c6b, i1b, i2b⟩ := h'.get
   have hmb : MemN _ _ _ _ _ := ⟨rfl, h'.1⟩
   have hib := h'.2
   have hmshb : MemN _ _ _ _ _ := ⟨rfl, fshb.1⟩
   have hishb := fshb.2
   obtain ⟨hx, hR⟩ := hI
   refine .seq (fun K5 hK5 => ?_)
   refine .region ?_
   refine .m rfl rfl rfl (.cmp rfl rfl rfl) ?_
   refine .nil ?_
   refine hK5 _ _ ?_
   refine .seq (fun K6 hK6 => ?_)
   refine .cond rfl (fun h20 => ?_) (fun h20 => ?_)
   ·
    simp only [sps] at h20
    have hz := hI'.1.sz x (by omega)
    have hlh := k.t.hom_le (k.ob.getD x 0) y
    refine .skip ?_
    refine hK6 _ _ ?_
    refine .seq (fun K7 hK7 => ?_)
    refine .block ?_
    refine .seq (fun K8 hK8 => ?_)
    refine .region ?_
    refine .m rfl rfl rfl (.move rfl) ?_
    refine .m rfl rfl rfl (.idxN sl_22_A (by assumption) rfl rfl (by omega)) ?_
    refine .m rfl rfl rfl (.loadI on_2_A (by assumption) rfl (by omega)) ?_
    refine .m rfl rfl rfl (.assign rfl) ?_
    refine .m rfl rfl rfl (.assign rfl) ?_
    refine .nil ?_
    refine hK8 _ _ ?_
    refine .seq (fun K9 hK9 => ?_)
    refine .region ?_
    refine .m rfl rfl rfl (.move rfl) ?_
    refine .m rfl rfl rfl (.nilCheck rfl) ?_
    refine .m rfl rfl rfl (.fieldAddr fo_36_1_E rfl) ?_
    refine .m rfl rfl rfl (.move rfl) ?_
    refine .m rfl rfl rfl (.move rfl) ?_
    refine .call rfl rfl rfl rfl @Try.call87 rfl (hom_c) ?_
    rintro _ H29 ⟨le29, g29, rfl, at29, ge29⟩
    have nx_H29 := le29.1
    replace hle := hle.trans le29
    replace lst1 := lst1.le le29
    replace at_L7 := le29.2 _ _ at_L7
    have lt_at29 := GHeap.lt_of_get at29
    replace h := base_h.mono hle
    replace h' := base_h'.mono hle
    clear fs ft c10 c11 j1 j2 hm hi hms his hmt hit fshb c5b c6b i1b i2b hmb hib hmshb hishb
    obtain ⟨fs, ft, c10, c11, j1, j2⟩ := h.get
    have hm : MemN _ _ _ _ _ := ⟨rfl, h.1⟩
    have hi := h.2
    have hms : MemN _ _ _ _ _ := ⟨rfl, fs.1⟩
    have his := fs.2
    have hmt : MemN _ _ _ _ _ := ⟨rfl, ft.1⟩
    have hit := ft.2
    obtain ⟨fshb, c5b, c6b, i1b, i2b⟩ := h'.get
    have hmb : MemN _ _ _ _ _ := ⟨rfl, h'.1⟩
    have hib := h'.2
    have hmshb : MemN _ _ _ _ _ := ⟨rfl, fshb.1⟩
    have hishb := fshb.2
    have i29 := Ints.of_get at29
    refine .m rfl rfl rfl (.len sl_22_A rfl) ?_
    refine .m rfl rfl rfl (.move rfl) ?_
    refine .nil ?_
    refine hK9 _ _ ?_
    refine .block ?_
    refine .loopR (σ := Nat × (Nat → Option Addr) × Nat × Nat) [(0, some _), (1, some _), (2, some _), (8, some _), (17, some _), (18, some _), (19, some _), (29, some _), (30, some _)] (fun (i, r2, gL7v2, nL7v2) => [(31, some (.int .i64 (i : Int))), (7, some (.slice (some ⟨gL7v2, 0, none⟩) nL7v2 nL7v2))]) (fun (i, r2, gL7v2, nL7v2) H' => St [gL7] H29 H' ∧ H'.get gL7v2 = some (.row ((slsL r2 (leL k f y x i 0))) 22 true) ∧ (gL7v2 = gL7 ∨ H29.next ≤ gL7v2) ∧ nL7v2 = (slsL r2 (leL k f y x i 0)).length ∧ i ≤ (k.t.hom (k.ob.getD x 0) y).length ∧ OwnL H.next H' 2 r2 (leL k f y x i 0)) (fun (i, r2, gL7v2, nL7v2) => (k.t.hom (k.ob.getD x 0) y).length - i) ((0, rr, _, _)) ⟨rfl, rfl, rfl, rfl, rfl, rfl, rfl, rfl, rfl, trivial⟩ ⟨rfl, rfl, trivial⟩ ?_ ?_
    ·
     refine ⟨.refl _ _, by first | assumption | exact at_L7 | simpa using at_L7, .inl rfl, by first | rfl | assumption | simp | omega, ?_⟩
     exact ⟨by omega, hR.keep (.of_le le29)⟩
    ·
     rintro ⟨i, r2, gL7v2, nL7v2⟩ HL2 ⟨lst2, at_L7v2, pl_L7v2, ln_L7v2, hI⟩ KL2 hKL2
     refine .forget (fr' := [(31, some (.int .i64 (i : Int))), (7, some (.slice (some ⟨gL7v2, 0, none⟩) nL7v2 nL7v2)), (0, some _), (1, some _), (2, some _), (8, some _), (17, some _), (18, some _), (19, some _), (29, some _), (30, some _)]) ⟨rfl, rfl, rfl, rfl, rfl, rfl, rfl, rfl, rfl, rfl, rfl, trivial⟩ ?_
     have ge_L7v2 : H.next ≤ gL7v2 := by omega
     have nx_HL2 := lst2.nx
     replace hle := hle.st lst2 (fun k hk => ⟨by omega, trivial⟩)
     replace lst1 := lst1.st lst2 (fun k hk ho => by simp only [out, and_true] at ho ⊢ <;> omega)
     replace at29 := lst2.same _ _ ⟨by omega, trivial⟩ at29
     have lt_at_L7v2 := GHeap.lt_of_get at_L7v2
     replace h := base_h.mono hle
     replace h' := base_h'.mono hle
     clear fs ft c10 c11 j1 j2 hm hi hms his hmt hit fshb c5b c6b i1b i2b hmb hib hmshb hishb
     obtain ⟨fs, ft, c10, c11, j1, j2⟩ := h.get
     have hm : MemN _ _ _ _ _ := ⟨rfl, h.1⟩
     have hi := h.2
     have hms : MemN _ _ _ _ _ := ⟨rfl, fs.1⟩
     have his := fs.2
     have hmt : MemN _ _ _ _ _ := ⟨rfl, ft.1⟩
     have hit := ft.2
     obtain ⟨fshb, c5b, c6b, i1b, i2b⟩ := h'.get
     have hmb : MemN _ _ _ _ _ := ⟨rfl, h'.1⟩
     have hib := h'.2
     have hmshb : MemN _ _ _ _ _ := ⟨rfl, fshb.1⟩
     have hishb := fshb.2
     clear i29
     have i29 := Ints.of_get at29
     obtain ⟨hi, hR⟩ := hI
     refine .seq (fun K10 hK10 => ?_)
     refine .region ?_
     refine .m rfl rfl rfl (.cmp rfl rfl rfl) ?_
     refine .nil ?_
     refine hK10 _ _ ?_
     refine .seq (fun K11 hK11 => ?_)
     refine .cond rfl (fun h32 => ?_) (fun h32 => ?_)
     ·
      simp only [sps] at h32
      obtain ⟨u, hu1, hu2, hu3, hu4⟩ := Cat.hom_get (c := k.t) (x := k.ob.getD x 0) (y := y) (i := i) (by omega)
      refine .skip ?_
      refine hK11 _ _ ?_
      refine .seq (fun K12 hK12 => ?_)
      refine .block ?_
      refine .seq (fun K13 hK13 => ?_)
      refine .region ?_
      refine .m rfl rfl rfl (.idxN sl_22_A (by assumption) rfl rfl (by omega)) ?_
      refine .m rfl rfl rfl (.loadI on_2_A (by assumption) rfl (by omega)) ?_
      refine .m rfl rfl rfl (.assign rfl) ?_
      refine .nil ?_
      refine hK13 _ _ ?_
      refine .seq (fun K14 hK14 => ?_)
      refine .region ?_
      refine .m rfl rfl rfl (.move rfl) ?_
      refine .m rfl rfl rfl (.nilCheck rfl) ?_
      refine .m rfl rfl rfl (.fieldAddr fo_66_1_P rfl) ?_
      refine .m rfl rfl rfl (.load on_22_B rfl (by assumption)) ?_
      refine .m rfl rfl rfl (.move rfl) ?_
      refine .m rfl rfl rfl (.idxN sl_22_A (by assumption) rfl rfl (by omega)) ?_
      refine .m rfl rfl rfl (.loadI on_2_A (by assumption) rfl (by omega)) ?_
      refine .m rfl rfl rfl (.move rfl) ?_
      refine .nil ?_
      refine hK14 _ _ ?_
      refine .block ?_
      refine .loopR (σ := Nat × (Nat → Option Addr) × Nat × Nat) [(0, some _), (1, some _), (2, some _), (8, some _), (11, some _), (17, some _), (18, some _), (19, some _), (29, some _), (30, some _), (31, some _), (41, some _)] (fun (e, r3, gL7v3, nL7v3) => [(42, some (.int .i64 (e : Int))), (7, some (.slice (some ⟨gL7v3, 0, none⟩) nL7v3 nL7v3))]) (fun (e, r3, gL7v3, nL7v3) H' => St [gL7v2] HL2 H' ∧ H'.get gL7v3 = some (.row ((slsL r3 (leL k f y x i e))) 22 true) ∧ (gL7v3 = gL7v2 ∨ HL2.next ≤ gL7v3) ∧ nL7v3 = (slsL r3 (leL k f y x i e)).length ∧ e ≤ (f.sz.getD x 0).toNat ∧ OwnL H.next H' 2 r3 (leL k f y x i e)) (fun (e, r3, gL7v3, nL7v3) => (f.sz.getD x 0).toNat - e) ((0, r2, _, _)) ⟨rfl, rfl, rfl, rfl, rfl, rfl, rfl, rfl, rfl, rfl, rfl, rfl, trivial⟩ ⟨rfl, rfl, trivial⟩ ?_ ?_
      ·
       refine ⟨.refl _ _, by first | assumption | exact at_L7v2 | simpa using at_L7v2, .inl rfl, by first | rfl | assumption | simp | omega, ?_⟩
       exact ⟨by omega, hR⟩
      ·
       rintro ⟨e, r3, gL7v3, nL7v3⟩ HL3 ⟨lst3, at_L7v3, pl_L7v3, ln_L7v3, hI⟩ KL3 hKL3
       refine .forget (fr' := [(42, some (.int .i64 (e : Int))), (7, some (.slice (some ⟨gL7v3, 0, none⟩) nL7v3 nL7v3)), (0, some _), (1, some _), (2, some _), (8, some _), (11, some _), (17, some _), (18, some _), (19, some _), (29, some _), (30, some _), (31, some _), (41, some _)]) ⟨rfl, rfl, rfl, rfl, rfl, rfl, rfl, rfl, rfl, rfl, rfl, rfl, rfl, rfl, trivial⟩ ?_
       have ge_L7v3 : H.next ≤ gL7v3 := by omega
       have nx_HL3 := lst3.nx
       replace hle := hle.st lst3 (fun k hk => ⟨by omega, trivial⟩)
       replace lst1 := lst1.st lst3 (fun k hk ho => by simp only [out, and_true] at ho ⊢ <;> omega)
       replace lst2 := lst2.st lst3 (fun k hk ho => by simp only [out, and_true] at ho ⊢ <;> omega)
       replace at29 := lst3.same _ _ ⟨by omega, trivial⟩ at29
       have lt_at_L7v3 := GHeap.lt_of_get at_L7v3
       replace h := base_h.mono hle
       replace h' := base_h'.mono hle
       clear fs ft c10 c11 j1 j2 hm hi hms his hmt hit fshb c5b c6b i1b i2b hmb hib hmshb hishb
       obtain ⟨fs, ft, c10, c11, j1, j2⟩ := h.get
       have hm : MemN _ _ _ _ _ := ⟨rfl, h.1⟩
       have hi := h.2
       have hms : MemN _ _ _ _ _ := ⟨rfl, fs.1⟩
       have his := fs.2
       have hmt : MemN _ _ _ _ _ := ⟨rfl, ft.1⟩
       have hit := ft.2
       obtain ⟨fshb, c5b, c6b, i1b, i2b⟩ := h'.get
       have hmb : MemN _ _ _ _ _ := ⟨rfl, h'.1⟩
       have hib := h'.2
       have hmshb : MemN _ _ _ _ _ := ⟨rfl, fshb.1⟩
       have hishb := fshb.2
       clear i29
       have i29 := Ints.of_get at29
       have rk := St.refl [gL7v3] HL3
       obtain ⟨he, hR⟩ := hI
       have hat7 := at_L7v3
       have hln := leL_le (k := k) (f := f) (y := y) hKI hI' hn (x := x) (i := i) (e := e) (by omega) (by omega) he
       have hfl : (slsL r3 (leL k f y x i e)).length = (leL k f y x i e).length := length_slsL _ _
       refine .seq (fun K15 hK15 => ?_)
       refine .region ?_
       refine .m rfl rfl rfl (.cmp rfl rfl rfl) ?_
       refine .nil ?_
       refine hK15 _ _ ?_
       refine .seq (fun K16 hK16 => ?_)
       refine .cond rfl (fun h43 => ?_) (fun h43 => ?_)
       ·
        simp only [sps] at h43
        refine .skip ?_
        refine hK16 _ _ ?_
        refine .seq (fun K17 hK17 => ?_)
        refine .block ?_
        refine .seq (fun K18 hK18 => ?_)
        refine .region ?_
        refine .m rfl rfl rfl (.move rfl) ?_
        refine .m rfl rfl rfl (.assign rfl) ?_
        refine .nil ?_
        refine hK18 _ _ ?_
        refine .region ?_
        refine .m rfl rfl rfl (.move rfl) ?_
        refine .m rfl rfl rfl (.move rfl) ?_
        refine .m rfl rfl rfl (.move rfl) ?_
        refine .m rfl rfl rfl (.move rfl) ?_
        refine .r rfl rfl rfl (.litR rfl sl_22_A ze_2_E rfl rfl (by omega) (by omega) rfl rfl) ?_
        rintro _ H49 ⟨g49, rfl, le49, ge49, at49⟩
        have nx_H49 := le49.1
        replace hle := hle.trans le49
        replace lst1 := lst1.le le49
        replace lst2 := lst2.le le49
        replace lst3 := lst3.le le49
        replace rk := rk.le le49
        replace at29 := le49.2 _ _ at29
        replace at_L7v3 := le49.2 _ _ at_L7v3
        have lt_at49 := GHeap.lt_of_get at49
        replace h := base_h.mono hle
        replace h' := base_h'.mono hle
        clear fs ft c10 c11 j1 j2 hm hi hms his hmt hit fshb c5b c6b i1b i2b hmb hib hmshb hishb
        obtain ⟨fs, ft, c10, c11, j1, j2⟩ := h.get
        have hm : MemN _ _ _ _ _ := ⟨rfl, h.1⟩
        have hi := h.2
        have hms : MemN _ _ _ _ _ := ⟨rfl, fs.1⟩
        have his := fs.2
        have hmt : MemN _ _ _ _ _ := ⟨rfl, ft.1⟩
        have hit := ft.2
        obtain ⟨fshb, c5b, c6b, i1b, i2b⟩ := h'.get
        have hmb : MemN _ _ _ _ _ := ⟨rfl, h'.1⟩
        have hib := h'.2
        have hmshb : MemN _ _ _ _ _ := ⟨rfl, fshb.1⟩
        have hishb := fshb.2
        clear i29
        have i29 := Ints.of_get at29
        refine .r rfl rfl rfl (.litR rfl sl_23_B ze_22_E rfl rfl (by omega) (by omega) rfl rfl) ?_
        rintro _ H50 ⟨g50, rfl, le50, ge50, at50⟩
        have nx_H50 := le50.1
        replace hle := hle.trans le50
        replace lst1 := lst1.le le50
        replace lst2 := lst2.le le50
        replace lst3 := lst3.le le50
        replace rk := rk.le le50
        replace at29 := le50.2 _ _ at29
        replace at_L7v3 := le50.2 _ _ at_L7v3
        replace at49 := le50.2 _ _ at49
        have lt_at50 := GHeap.lt_of_get at50
        replace h := base_h.mono hle
        replace h' := base_h'.mono hle
        clear fs ft c10 c11 j1 j2 hm hi hms his hmt hit fshb c5b c6b i1b i2b hmb hib hmshb hishb
        obtain ⟨fs, ft, c10, c11, j1, j2⟩ := h.get
        have hm : MemN _ _ _ _ _ := ⟨rfl, h.1⟩
        have hi := h.2
        have hms : MemN _ _ _ _ _ := ⟨rfl, fs.1⟩
        have his := fs.2
        have hmt : MemN _ _ _ _ _ := ⟨rfl, ft.1⟩
        have hit := ft.2
        obtain ⟨fshb, c5b, c6b, i1b, i2b⟩ := h'.get
        have hmb : MemN _ _ _ _ _ := ⟨rfl, h'.1⟩
        have hib := h'.2
        have hmshb : MemN _ _ _ _ _ := ⟨rfl, fshb.1⟩
        have hishb := fshb.2
        clear i29
        have i29 := Ints.of_get at29
        refine .r rfl rfl rfl (.appendV rfl sl_23_B ze_22_E rfl by_22_E sl_23_B rfl rfl (by assumption) (by assumption) (by first | omega | (simp <;> omega)) rfl rfl (by omega) (by omega)) ?_
        rintro _ H51 ⟨g51, rfl, st51, ge51, at51⟩
        have nx_H51 := st51.nx
        replace hle := hle.st st51 (fun k hk => ⟨by omega, trivial⟩)
        replace lst1 := lst1.st st51 (fun k hk ho => by simp only [out, and_true] at ho ⊢ <;> omega)
        replace lst2 := lst2.st st51 (fun k hk ho => by simp only [out, and_true] at ho ⊢ <;> omega)
        replace lst3 := lst3.st st51 (fun k hk ho => by simp only [out, and_true] at ho ⊢ <;> omega)
        replace rk := rk.st st51 (fun k hk ho => by simp only [out, and_true] at ho ⊢ <;> omega)
        replace at29 := st51.same _ _ ⟨by omega, trivial⟩ at29
        replace at49 := st51.same _ _ ⟨by omega, trivial⟩ at49
        replace at50 := st51.same _ _ ⟨by omega, trivial⟩ at50
        have lt_at51 := GHeap.lt_of_get at51
        replace h := base_h.mono hle
        replace h' := base_h'.mono hle
        clear fs ft c10 c11 j1 j2 hm hi hms his hmt hit fshb c5b c6b i1b i2b hmb hib hmshb hishb
        obtain ⟨fs, ft, c10, c11, j1, j2⟩ := h.get
        have hm : MemN _ _ _ _ _ := ⟨rfl, h.1⟩
        have hi := h.2
        have hms : MemN _ _ _ _ _ := ⟨rfl, fs.1⟩
        have his := fs.2
        have hmt : MemN _ _ _ _ _ := ⟨rfl, ft.1⟩
        have hit := ft.2
        obtain ⟨fshb, c5b, c6b, i1b, i2b⟩ := h'.get
        have hmb : MemN _ _ _ _ _ := ⟨rfl, h'.1⟩
        have hib := h'.2
        have hmshb : MemN _ _ _ _ _ := ⟨rfl, fshb.1⟩
        have hishb := fshb.2
        clear i29
        have i29 := Ints.of_get at29
        refine .m rfl rfl rfl (.assign rfl) ?_
        refine .nil ?_
        refine hK17 _ _ ?_
        refine .region ?_
        refine .m rfl rfl rfl (.add rfl rfl rfl (by omega) (by omega)) ?_
        refine .m rfl rfl rfl (.move rfl) ?_
        refine .nil ?_
        refine hKL3 ((e + 1, upd r3 (leL k f y x i e).length (some ⟨g49, 0, none⟩), _, _)) _ _ ?_ ?_ ⟨rfl, rfl, rfl, rfl, rfl, rfl, rfl, rfl, rfl, rfl, rfl, rfl, rfl, rfl, trivial⟩
        ·
         refine ⟨lst3, by first | assumption | (rw [leL_snoc, slsL_snoc]; assumption), by omega, by first | omega | (simp only [List.length_append, List.length_cons, List.length_nil] <;> omega) | (rw [leL_snoc, slsL_snoc] <;> (first | omega | (simp only [List.length_append, List.length_cons, List.length_nil] <;> omega))), ?_⟩
         exact ⟨by omega, by rw [leL_snoc]; exact hR.snoc (x := lePr k y x i e) (rk.lasts1 hat7 rfl) (by assumption) (by omega) (by omega)⟩
        ·
         (dsimp only; omega)
       ·
        try simp only [sps] at h43
        refine .exit ?_
        refine hK12 _ _ ?_
        refine .region ?_
        refine .m rfl rfl rfl (.add rfl rfl rfl (by omega) (by omega)) ?_
        refine .m rfl rfl rfl (.move rfl) ?_
        refine .nil ?_
        obtain rfl : e = (f.sz.getD x 0).toNat := by omega
        refine hKL2 ((i + 1, r3, _, _)) _ _ ?_ ?_ ⟨rfl, rfl, rfl, rfl, rfl, rfl, rfl, rfl, rfl, rfl, rfl, trivial⟩
        ·
         refine ⟨lst2, by first | assumption | (rw [leL_next2]; assumption), by omega, by first | omega | (simp only [List.length_append, List.length_cons, List.length_nil] <;> omega) | (rw [leL_next2] <;> (first | omega | (simp only [List.length_append, List.length_cons, List.length_nil] <;> omega))), ?_⟩
         exact ⟨by omega, by rw [leL_next2]; exact hR⟩
        ·
         (dsimp only; omega)
     ·
      try simp only [sps] at h32
      refine .exit ?_
      refine hK7 _ _ ?_
      refine .region ?_
      refine .m rfl rfl rfl (.add rfl rfl rfl (by omega) (by omega)) ?_
      refine .m rfl rfl rfl (.move rfl) ?_
      refine .nil ?_
      obtain rfl : i = (k.t.hom (k.ob.getD x 0) y).length := by omega
      refine hKL1 ((x + 1, r2, _, _)) _ _ ?_ ?_ ⟨rfl, rfl, rfl, rfl, rfl, rfl, rfl, trivial⟩
      ·
       refine ⟨lst1, by first | assumption | (rw [leL_next1]; assumption), by omega, by first | omega | (simp only [List.length_append, List.length_cons, List.length_nil] <;> omega) | (rw [leL_next1] <;> (first | omega | (simp only [List.length_append, List.length_cons, List.length_nil] <;> omega))), ?_⟩
       exact ⟨by omega, by rw [leL_next1]; exact hR⟩
      ·
       (dsimp only; omega)
   ·
    try simp only [sps] at h20
    refine .exit ?_
    refine hK3 _ _ ?_
    refine .seq (fun K19 hK19 => ?_)
    refine .region ?_
    refine .m rfl rfl rfl (.move rfl) ?_
    refine .m rfl rfl rfl (.assign rfl) ?_
    refine .nil ?_
    refine hK19 _ _ ?_
    refine .ret ?_
    -- leaf e1
    refine hret _ _ ?_
    refine ⟨_, rfl, ?_⟩
    obtain rfl : x = k.ob.length := by omega
    exact ⟨hle, _, rr, by rw [ln_L7]; simp, hR.done at_L7 (by omega)⟩
theorem specLeftEntries_c {k : Fun} {p : FunP} {f : SFun} {q : SFunP} {y : Int} {H : GHeap} (hin : k.In H p := by assumption) (hin1 : f.In H q := by assumption) (hs : k.Small := by assumption) (hs1 : f.Small := by assumption) :
    GCalls Try.prog 30 [.agg (k.cells p).toArray, .agg (f.cells q).toArray, .int .i64 y] H (fun v H' => H.Le H' ∧ ∃ a r, v = .tuple #[.slice a (leR k f y).length (leR k f y).length, .int .i64 (leCode k f y)] ∧ IntssR H.next H' a (leR k f y) r) := by
  refine GCalls.body (N := 20) (rs := [.tmp 6, .tmp 7]) Try.func30 rfl rfl rfl rfl (fun Qx hret hend => ?_)
  refine .forget (fr' := [(0, some _), (1, some _), (2, some _)]) ⟨rfl, rfl, rfl, trivial⟩ ?_
  have hle := GHeap.Le.refl H
  have base_hin := hin
  have base_hin1 := hin1
  refine .seq (fun K1 hK1 => ?_)
  refine .region ?_
  refine .r rfl rfl rfl (.boxR rfl sz_36_E rfl) ?_
  rintro _ H3 ⟨g3, rfl, le3, ge3, at3⟩
  have nx_H3 := le3.1
  replace hle := hle.trans le3
  have lt_at3 := GHeap.lt_of_get at3
  replace hin := base_hin.mono hle
  replace hin1 := base_hin1.mono hle
  have hb3 : Fun.At _ g3 0 k p := ⟨Mem.of_get at3, hin⟩
  obtain ⟨fs3, ft3, c103, c113, j13, j23⟩ := hb3.get
  have hm3 : MemN _ _ _ _ _ := ⟨rfl, hb3.1⟩
  have hi3 := hb3.2
  have hms3 : MemN _ _ _ _ _ := ⟨rfl, fs3.1⟩
  have his3 := fs3.2
  have hmt3 : MemN _ _ _ _ _ := ⟨rfl, ft3.1⟩
  have hit3 := ft3.2
  refine .r rfl rfl rfl (.boxR rfl sz_66_VSFun rfl) ?_
  rintro _ H4 ⟨g4, rfl, le4, ge4, at4⟩
  have nx_H4 := le4.1
  replace hle := hle.trans le4
  replace at3 := le4.2 _ _ at3
  have lt_at4 := GHeap.lt_of_get at4
  replace hin := base_hin.mono hle
  replace hin1 := base_hin1.mono hle
  clear hb3 fs3 ft3 c103 c113 j13 j23 hm3 hi3 hms3 his3 hmt3 hit3
  have hb3 : Fun.At _ g3 0 k p := ⟨Mem.of_get at3, hin⟩
  obtain ⟨fs3, ft3, c103, c113, j13, j23⟩ := hb3.get
  have hm3 : MemN _ _ _ _ _ := ⟨rfl, hb3.1⟩
  have hi3 := hb3.2
  have hms3 : MemN _ _ _ _ _ := ⟨rfl, fs3.1⟩
  have his3 := fs3.2
  have hmt3 : MemN _ _ _ _ _ := ⟨rfl, ft3.1⟩
  have hit3 := ft3.2
  have hb4 : SFun.At _ g4 0 f q := ⟨Mem.of_get at4, hin1⟩
  obtain ⟨fsh4, c54, c64, i14, i24⟩ := hb4.get
  have hm4 : MemN _ _ _ _ _ := ⟨rfl, hb4.1⟩
  have hi4 := hb4.2
  have hmsh4 : MemN _ _ _ _ _ := ⟨rfl, fsh4.1⟩
  have hish4 := fsh4.2
  refine .m rfl rfl rfl (.assign rfl) ?_
  refine .m rfl rfl rfl (.assign rfl) ?_
  refine .nil ?_
  refine hK1 _ _ ?_
  refine .seq (fun K2 hK2 => ?_)
  refine .seq (fun K3 hK3 => ?_)
  refine .region ?_
  refine .m rfl rfl rfl (.loadM ag_36_E rfl ⟨rfl, Mem.of_get at3⟩) ?_
  refine .m rfl rfl rfl (.loadM ag_66_VSFun rfl ⟨rfl, Mem.of_get at4⟩) ?_
  refine .m rfl rfl rfl (.move rfl) ?_
  refine .callQ rfl rfl rfl rfl @Try.call59 rfl (l23Place_c) ?_
  refine .m rfl rfl rfl (.assign rfl) ?_
  refine .nil ?_
  refine hK3 _ _ ?_
  refine .seq (fun K4 hK4 => ?_)
  refine .region ?_
  refine .m rfl rfl rfl (.move rfl) ?_
  refine .m rfl rfl rfl (.cmp rfl rfl rfl) ?_
  refine .nil ?_
  refine hK4 _ _ ?_
  refine .cond rfl (fun h14 => ?_) (fun h14 => ?_)
  ·
   simp only [sps] at h14
   refine .seq (fun K5 hK5 => ?_)
   refine .region ?_
   refine .m rfl rfl rfl (.move rfl) ?_
   refine .m rfl rfl rfl (.assign rfl) ?_
   refine .m rfl rfl rfl (.assign rfl) ?_
   refine .nil ?_
   refine hK5 _ _ ?_
   refine .ret ?_
   -- leaf e1
   refine hret _ _ ?_
   refine ⟨_, _, rfl, rfl, ?_⟩
   rw [leR_not h14]
   exact ⟨hle, none, fun _ => none, rfl, .nil _ _ _⟩
  ·
   simp only [sps] at h14
   refine .skip ?_
   refine hK2 _ _ ?_
   refine .seq (fun K6 hK6 => ?_)
   refine .region ?_
   obtain ⟨z1, z2, z3, z4, z5⟩ := leCode_0 h14
   have z6 := leLen z1 z2 z5
   refine .m rfl rfl rfl (.loadM ag_36_E rfl ⟨rfl, Mem.of_get at3⟩) ?_
   refine .m rfl rfl rfl (.loadM ag_66_VSFun rfl ⟨rfl, Mem.of_get at4⟩) ?_
   refine .m rfl rfl rfl (.move rfl) ?_
   refine .call rfl rfl rfl rfl @Try.call60 rfl (l23Entries_c) ?_
   rintro _ H19 ⟨le19, a19, r19, rfl, v19⟩
   have nx_H19 := le19.1
   replace hle := hle.trans le19
   replace at3 := le19.2 _ _ at3
   replace at4 := le19.2 _ _ at4
   have bs_v19 := v19
   have lv_v19 : Keep H4.next H19 H19 := fun _ _ _ h => h
   replace hin := base_hin.mono hle
   replace hin1 := base_hin1.mono hle
   clear hb3 fs3 ft3 c103 c113 j13 j23 hm3 hi3 hms3 his3 hmt3 hit3
   have hb3 : Fun.At _ g3 0 k p := ⟨Mem.of_get at3, hin⟩
   obtain ⟨fs3, ft3, c103, c113, j13, j23⟩ := hb3.get
   have hm3 : MemN _ _ _ _ _ := ⟨rfl, hb3.1⟩
   have hi3 := hb3.2
   have hms3 : MemN _ _ _ _ _ := ⟨rfl, fs3.1⟩
   have his3 := fs3.2
   have hmt3 : MemN _ _ _ _ _ := ⟨rfl, ft3.1⟩
   have hit3 := ft3.2
   clear hb4 fsh4 c54 c64 i14 i24 hm4 hi4 hmsh4 hish4
   have hb4 : SFun.At _ g4 0 f q := ⟨Mem.of_get at4, hin1⟩
   obtain ⟨fsh4, c54, c64, i14, i24⟩ := hb4.get
   have hm4 : MemN _ _ _ _ _ := ⟨rfl, hb4.1⟩
   have hi4 := hb4.2
   have hmsh4 : MemN _ _ _ _ _ := ⟨rfl, fsh4.1⟩
   have hish4 := fsh4.2
   have i19 := v19.intss
   refine .m rfl rfl rfl (.assign rfl) ?_
   refine .m rfl rfl rfl (.assign rfl) ?_
   refine .nil ?_
   refine hK6 _ _ ?_
   refine .ret ?_
   -- leaf e2
   refine hret _ _ ?_
   refine ⟨_, _, rfl, rfl, ?_⟩
   rw [leR_ok h14, h14]
   exact ⟨hle, a19, r19, rfl, v19.keep (.of_le (.refl _)) (by omega)⟩
theorem implLeftEntries_c {k : Fun} {p : FunP} {f : SFun} {q : SFunP} {y : Int} {H : GHeap} (hin : k.In H p := by assumption) (hin1 : f.In H q := by assumption) (hs : k.Small := by assumption) (hs1 : f.Small := by assumption) :
    GCalls Try.prog 32 [.agg (k.cells p).toArray, .agg (f.cells q).toArray, .int .i64 y] H (fun v H' => H.Le H' ∧ ∃ a r, v = .tuple #[.slice a (leR k f y).length (leR k f y).length, .int .i64 (leCode k f y)] ∧ IntssR H.next H' a (leR k f y) r) := by
  refine GCalls.body (N := 16) (rs := [.tmp 6, .tmp 7]) Try.func32 rfl rfl rfl rfl (fun Qx hret hend => ?_)
  refine .forget (fr' := [(0, some _), (1, some _), (2, some _)]) ⟨rfl, rfl, rfl, trivial⟩ ?_
  have hle := GHeap.Le.refl H
  have base_hin := hin
  have base_hin1 := hin1
  refine .seq (fun K1 hK1 => ?_)
  refine .region ?_
  refine .r rfl rfl rfl (.boxR rfl sz_36_E rfl) ?_
  rintro _ H3 ⟨g3, rfl, le3, ge3, at3⟩
  have nx_H3 := le3.1
  replace hle := hle.trans le3
  have lt_at3 := GHeap.lt_of_get at3
  replace hin := base_hin.mono hle
  replace hin1 := base_hin1.mono hle
  have hb3 : Fun.At _ g3 0 k p := ⟨Mem.of_get at3, hin⟩
  obtain ⟨fs3, ft3, c103, c113, j13, j23⟩ := hb3.get
  have hm3 : MemN _ _ _ _ _ := ⟨rfl, hb3.1⟩
  have hi3 := hb3.2
  have hms3 : MemN _ _ _ _ _ := ⟨rfl, fs3.1⟩
  have his3 := fs3.2
  have hmt3 : MemN _ _ _ _ _ := ⟨rfl, ft3.1⟩
  have hit3 := ft3.2
  refine .r rfl rfl rfl (.boxR rfl sz_66_VSFun rfl) ?_
  rintro _ H4 ⟨g4, rfl, le4, ge4, at4⟩
  have nx_H4 := le4.1
  replace hle := hle.trans le4
  replace at3 := le4.2 _ _ at3
  have lt_at4 := GHeap.lt_of_get at4
  replace hin := base_hin.mono hle
  replace hin1 := base_hin1.mono hle
  clear hb3 fs3 ft3 c103 c113 j13 j23 hm3 hi3 hms3 his3 hmt3 hit3
  have hb3 : Fun.At _ g3 0 k p := ⟨Mem.of_get at3, hin⟩
  obtain ⟨fs3, ft3, c103, c113, j13, j23⟩ := hb3.get
  have hm3 : MemN _ _ _ _ _ := ⟨rfl, hb3.1⟩
  have hi3 := hb3.2
  have hms3 : MemN _ _ _ _ _ := ⟨rfl, fs3.1⟩
  have his3 := fs3.2
  have hmt3 : MemN _ _ _ _ _ := ⟨rfl, ft3.1⟩
  have hit3 := ft3.2
  have hb4 : SFun.At _ g4 0 f q := ⟨Mem.of_get at4, hin1⟩
  obtain ⟨fsh4, c54, c64, i14, i24⟩ := hb4.get
  have hm4 : MemN _ _ _ _ _ := ⟨rfl, hb4.1⟩
  have hi4 := hb4.2
  have hmsh4 : MemN _ _ _ _ _ := ⟨rfl, fsh4.1⟩
  have hish4 := fsh4.2
  refine .m rfl rfl rfl (.assign rfl) ?_
  refine .m rfl rfl rfl (.assign rfl) ?_
  refine .nil ?_
  refine hK1 _ _ ?_
  refine .seq (fun K2 hK2 => ?_)
  refine .seq (fun K3 hK3 => ?_)
  refine .region ?_
  refine .m rfl rfl rfl (.move rfl) ?_
  refine .callQ rfl rfl rfl rfl @Try.call61 rfl (baseAtCode_c) ?_
  refine .m rfl rfl rfl (.assign rfl) ?_
  refine .nil ?_
  refine hK3 _ _ ?_
  refine .seq (fun K4 hK4 => ?_)
  refine .region ?_
  refine .m rfl rfl rfl (.move rfl) ?_
  refine .m rfl rfl rfl (.cmp rfl rfl rfl) ?_
  refine .nil ?_
  refine hK4 _ _ ?_
  refine .cond rfl (fun h12 => ?_) (fun h12 => ?_)
  ·
   simp only [sps] at h12
   refine .seq (fun K5 hK5 => ?_)
   refine .region ?_
   refine .m rfl rfl rfl (.move rfl) ?_
   refine .m rfl rfl rfl (.assign rfl) ?_
   refine .m rfl rfl rfl (.assign rfl) ?_
   refine .nil ?_
   refine hK5 _ _ ?_
   refine .ret ?_
   -- leaf e1
   refine hret _ _ ?_
   refine ⟨_, _, rfl, rfl, ?_⟩
   rw [leR_not h12]
   exact ⟨hle, none, fun _ => none, rfl, .nil _ _ _⟩
  ·
   simp only [sps] at h12
   refine .skip ?_
   refine hK2 _ _ ?_
   refine .seq (fun K6 hK6 => ?_)
   refine .region ?_
   obtain ⟨z1, z2, z3, z4, z5⟩ := leCode_0 h12
   have z6 := leLen z1 z2 z5
   refine .m rfl rfl rfl (.move rfl) ?_
   refine .call rfl rfl rfl rfl @Try.call62 rfl (leftEntries_c) ?_
   rintro _ H15 ⟨le15, a15, r15, rfl, v15⟩
   have nx_H15 := le15.1
   replace hle := hle.trans le15
   replace at3 := le15.2 _ _ at3
   replace at4 := le15.2 _ _ at4
   have bs_v15 := v15
   have lv_v15 : Keep H4.next H15 H15 := fun _ _ _ h => h
   replace hin := base_hin.mono hle
   replace hin1 := base_hin1.mono hle
   clear hb3 fs3 ft3 c103 c113 j13 j23 hm3 hi3 hms3 his3 hmt3 hit3
   have hb3 : Fun.At _ g3 0 k p := ⟨Mem.of_get at3, hin⟩
   obtain ⟨fs3, ft3, c103, c113, j13, j23⟩ := hb3.get
   have hm3 : MemN _ _ _ _ _ := ⟨rfl, hb3.1⟩
   have hi3 := hb3.2
   have hms3 : MemN _ _ _ _ _ := ⟨rfl, fs3.1⟩
   have his3 := fs3.2
   have hmt3 : MemN _ _ _ _ _ := ⟨rfl, ft3.1⟩
   have hit3 := ft3.2
   clear hb4 fsh4 c54 c64 i14 i24 hm4 hi4 hmsh4 hish4
   have hb4 : SFun.At _ g4 0 f q := ⟨Mem.of_get at4, hin1⟩
   obtain ⟨fsh4, c54, c64, i14, i24⟩ := hb4.get
   have hm4 : MemN _ _ _ _ _ := ⟨rfl, hb4.1⟩
   have hi4 := hb4.2
   have hmsh4 : MemN _ _ _ _ _ := ⟨rfl, fsh4.1⟩
   have hish4 := fsh4.2
   have i15 := v15.intss
   refine .m rfl rfl rfl (.assign rfl) ?_
   refine .m rfl rfl rfl (.assign rfl) ?_
   refine .nil ?_
   refine hK6 _ _ ?_
   refine .ret ?_
   -- leaf e2
   refine hret _ _ ?_
   refine ⟨_, _, rfl, rfl, ?_⟩
   rw [leR_ok h12, h12]
   exact ⟨hle, a15, r15, rfl, v15.keep (.of_le (.refl _)) (by omega)⟩
end Go.Proofs.Ytbdaddkbkdiglaa
/- The laws' helpers for Part. No condition but those of each statement. -/
namespace Go.Proofs.Ytbdaddkbkdiglaa
open Go Go.GL Go.RowKit Go.Proofs
end Go.Proofs.Ytbdaddkbkdiglaa
/- Parts of set functors. No condition but those of each statement. -/
namespace Go.Proofs.Ytbdaddkbkdiglaa
open Go Go.GL Go.RowKit Go.Proofs
theorem slA_mem1 {H : GHeap} {k n i : Nat} {f : Nat → Value} (h : SlA H (some ⟨k, 0, none⟩) n f) (hi : i < n) : MemN H k (0 + i) 1 [f i] := by
  refine ⟨rfl, fun j v hv => ?_⟩
  rcases h with h | ⟨g, o, e, h⟩
  · omega
  · cases e
    have := h i hi
    match j, hv with
    | 0, hv => simp at hv; subst hv; exact this
end Go.Proofs.Ytbdaddkbkdiglaa
/- Marks on set functors, their maps and parts. No condition but those of each statement. -/
namespace Go.Proofs.Ytbdaddkbkdiglaa
open Go Go.GL Go.RowKit Go.Proofs
theorem markSetFunctor_c {c : SFun} {p : SFunP} {lo hi : Nat} {k : Int} {H : GHeap} (w : SFunW lo hi H c p := by assumption) (hs : c.Small := by assumption) (hk : 0 ≤ k := by omega) (hk' : k + c.total ≤ 4611686018427387904 := by omega) (hhi : hi ≤ H.next := by omega) :
    GCalls Try.prog 34 [.agg (c.cells p).toArray, .int .i64 k] H (fun v H' => v = .int .i64 (k + c.total) ∧ Marked lo hi H H' (c.leaves p) k) := by
  obtain ⟨w1, w2, w3⟩ := w
  have ht : c.total = c.sh.total + (c.sz.length + sumL c.ac) := rfl
  obtain ⟨s1, s2, s3, s4⟩ := hs
  refine GCalls.body (N := 18) (rs := [.tmp 4]) Try.func34 rfl rfl rfl rfl (fun Qx hret hend => ?_)
  refine .forget (fr' := [(0, some _), (1, some _)]) ⟨rfl, rfl, trivial⟩ ?_
  refine .seq (fun K1 hK1 => ?_)
  refine .region ?_
  refine .r rfl rfl rfl (.boxR rfl sz_66_VSFun rfl) ?_
  rintro _ H2 ⟨g2, rfl, le2, ge2, at2⟩
  have nx_H2 := le2.1
  have lt_at2 := GHeap.lt_of_get at2
  have mm2 : MemN _ _ _ _ _ := ⟨rfl, Mem.of_get at2⟩
  replace w1 := w1.stm (.of_le le2)
  replace w2 := w2.stm (.of_le le2)
  replace w3 := w3.stm (.of_le le2)
  refine .m rfl rfl rfl (.assign rfl) ?_
  refine .nil ?_
  refine hK1 _ _ ?_
  refine .seq (fun K2 hK2 => ?_)
  refine .region ?_
  have m1 : MemN H2 g2 (0 + 0) 5 (c.sh.cells p.sh) := ⟨rfl, Mem.left (bs := [.slice p.a1 c.sz.length c.sz.length, .slice p.a2 c.ac.length c.ac.length]) (Mem.of_get at2)⟩
  refine .m rfl rfl rfl (.fieldAddr fo_66_0_P rfl) ?_
  refine .m rfl rfl rfl (.loadM ag_34_D rfl (by assumption)) ?_
  refine .m rfl rfl rfl (.move rfl) ?_
  refine .call rfl rfl rfl rfl @Try.call41 rfl (markCategory_c) ?_
  rintro _ H8 ⟨rfl, mk8⟩
  have sm8 := mk8.stm
  have nx_H8 := sm8.nx
  replace at2 := sm8.same _ _ (by omega) at2
  replace w1 := w1.stm sm8
  replace w2 := w2.stm sm8
  replace w3 := w3.stm sm8
  clear mm2
  have mm2 : MemN _ _ _ _ _ := ⟨rfl, Mem.of_get at2⟩
  refine .m rfl rfl rfl (.assign rfl) ?_
  refine .nil ?_
  refine hK2 _ _ ?_
  refine .seq (fun K3 hK3 => ?_)
  refine .region ?_
  have c1 : H8.cell g2 (0 + 5) = some (.slice p.a1 c.sz.length c.sz.length) := Mem.of_get at2 5 _ rfl
  refine .m rfl rfl rfl (.fieldAddr fo_66_1_P rfl) ?_
  refine .m rfl rfl rfl (.load on_22_B rfl (by assumption)) ?_
  refine .m rfl rfl rfl (.move rfl) ?_
  refine .call rfl rfl rfl rfl @Try.call18 rfl (markInt64S_c) ?_
  rintro _ H12 ⟨rfl, mk12⟩
  have sm12 := mk12.stm
  have nx_H12 := sm12.nx
  replace at2 := sm12.same _ _ (by omega) at2
  replace w1 := w1.stm sm12
  replace w2 := w2.stm sm12
  replace w3 := w3.stm sm12
  clear mm2
  have mm2 : MemN _ _ _ _ _ := ⟨rfl, Mem.of_get at2⟩
  refine .m rfl rfl rfl (.assign rfl) ?_
  refine .nil ?_
  refine hK3 _ _ ?_
  refine .seq (fun K4 hK4 => ?_)
  refine .region ?_
  have c1 : H12.cell g2 (0 + 6) = some (.slice p.a2 c.ac.length c.ac.length) := Mem.of_get at2 6 _ rfl
  refine .m rfl rfl rfl (.fieldAddr fo_66_2_P rfl) ?_
  refine .m rfl rfl rfl (.load on_23_B rfl (by assumption)) ?_
  refine .m rfl rfl rfl (.move rfl) ?_
  refine .call rfl rfl rfl rfl @Try.call27 rfl (markInt64SS_c) ?_
  rintro _ H16 ⟨rfl, mk16⟩
  have sm16 := mk16.stm
  have nx_H16 := sm16.nx
  replace at2 := sm16.same _ _ (by omega) at2
  replace w1 := w1.stm sm16
  replace w2 := w2.stm sm16
  replace w3 := w3.stm sm16
  clear mm2
  have mm2 : MemN _ _ _ _ _ := ⟨rfl, Mem.of_get at2⟩
  refine .m rfl rfl rfl (.assign rfl) ?_
  refine .nil ?_
  refine hK4 _ _ ?_
  refine .seq (fun K5 hK5 => ?_)
  refine .region ?_
  refine .m rfl rfl rfl (.move rfl) ?_
  refine .m rfl rfl rfl (.assign rfl) ?_
  refine .nil ?_
  refine hK5 _ _ ?_
  refine .ret ?_
  -- leaf e1
  refine hret _ _ ?_
  refine ⟨_, rfl, ?_⟩
  exact ⟨by rw [ht]; congr 1; omega, .le_left le2 (mk8.app' (mk12.app' mk16 (by simp [lvSum])) (by rw [Cat.lvSum_leaves]))⟩
end Go.Proofs.Ytbdaddkbkdiglaa
