/- The laws' helpers for SetFunctor. No condition but those of each statement. -/
import Derived.Test.YtbpehbbdodahaaaV0
import Derived.Test.YtbpehbbdodahaaaGlV
namespace Go.Proofs.Ytbpehbbdodahaaa
open Go Go.GL Go.RowKit Go.Proofs
theorem sz_27_VSFun : (Try.prog.info? 27).map (·.size) = some 7 := by kernel_rfl
theorem fo_27_0_VSFun : fieldOff Try.prog 27 0 = some 0 := by kernel_rfl
theorem ag_25_VSFun : aggT Try.prog 25 = some 5 := by kernel_rfl
theorem fo_27_1_VSFun : fieldOff Try.prog 27 1 = some 5 := by kernel_rfl
theorem fo_27_2_VSFun : fieldOff Try.prog 27 2 = some 6 := by kernel_rfl
theorem ze_39_VSFun : zeroT Try.prog 39 = some ([.int .i64 0, .slice none 0 0, .slice none 0 0, .slice none 0 0, .slice none 0 0, .slice none 0 0, .slice none 0 0], 7) := by kernel_rfl
theorem fo_39_0_VSFun : fieldOff Try.prog 39 0 = some 0 := by kernel_rfl
theorem fo_39_1_VSFun : fieldOff Try.prog 39 1 = some 5 := by kernel_rfl
theorem fo_39_2_VSFun : fieldOff Try.prog 39 2 = some 6 := by kernel_rfl
theorem ag_39_VSFun : aggT Try.prog 39 = some 7 := by kernel_rfl
theorem sz_39_VSFun : (Try.prog.info? 39).map (·.size) = some 7 := by kernel_rfl
theorem szSetFunctor_c {c : SFun} {p : SFunP} {left : Int} {H : GHeap} (hin : c.In H p := by assumption) (hw : c.Wide := by assumption) (h0 : 0 ≤ left := by omega) (h1 : left ≤ 1048576 := by omega) :
    GCalls Try.prog 18 [.agg (c.cells p).toArray, .int .i64 left] H (SzR left c.Small H) := by
  refine SzR.of ?_
  obtain ⟨w0, ⟨wa1, _⟩, ⟨wa2, wb2⟩⟩ := hw
  refine GCalls.body (N := 24) (rs := [.tmp 4]) Try.func18 rfl rfl rfl rfl (fun Qx hret hend => ?_)
  refine .forget (fr' := [(0, some _), (1, some _)]) ⟨rfl, rfl, trivial⟩ ?_
  have hle := GHeap.Le.refl H
  have base_hin := hin
  refine .seq (fun K1 hK1 => ?_)
  refine .region ?_
  refine .r rfl rfl rfl (.boxR rfl sz_27_VSFun rfl) ?_
  rintro _ H2 ⟨g2, rfl, le2, ge2, at2⟩
  have nx_H2 := le2.1
  replace hle := hle.trans le2
  have lt_at2 := GHeap.lt_of_get at2
  replace hin := base_hin.mono hle
  have hb2 : SFun.At _ g2 0 c p := ⟨Mem.of_get at2, hin⟩
  obtain ⟨fsh2, c52, c62, i12, i22⟩ := hb2.get
  have hm2 : MemN _ _ _ _ _ := ⟨rfl, hb2.1⟩
  have hi2 := hb2.2
  have hmsh2 : MemN _ _ _ _ _ := ⟨rfl, fsh2.1⟩
  have hish2 := fsh2.2
  refine .m rfl rfl rfl (.assign rfl) ?_
  refine .nil ?_
  refine hK1 _ _ ?_
  refine .seq (fun K2 hK2 => ?_)
  refine .region ?_
  refine .m rfl rfl rfl (.fieldAddr fo_27_0_VSFun rfl) ?_
  refine .m rfl rfl rfl (.loadM ag_25_VSFun rfl (by assumption)) ?_
  refine .m rfl rfl rfl (.move rfl) ?_
  refine .call rfl rfl rfl rfl @Try.call39 rfl (szCategory_c) ?_
  rintro _ _ ⟨heq, lf8, rfl, z18, z28, z38⟩
  obtain rfl := heq.symm
  refine .m rfl rfl rfl (.assign rfl) ?_
  refine .nil ?_
  refine hK2 _ _ ?_
  refine .seq (fun K3 hK3 => ?_)
  refine .seq (fun K4 hK4 => ?_)
  refine .region ?_
  refine .m rfl rfl rfl (.move rfl) ?_
  refine .m rfl rfl rfl (.cmp rfl rfl rfl) ?_
  refine .nil ?_
  refine hK4 _ _ ?_
  refine .cond rfl (fun h10 => ?_) (fun h10 => ?_)
  ·
   try simp only [sps] at h10
   refine .seq (fun K5 hK5 => ?_)
   refine .region ?_
   refine .m rfl rfl rfl (.assign rfl) ?_
   refine .nil ?_
   refine hK5 _ _ ?_
   refine .ret ?_
   -- leaf e1
   refine hret _ _ ?_
   refine ⟨_, rfl, ?_⟩
   first
   | exact ⟨hle, _, rfl, by omega, by omega, fun h => by omega⟩
   | exact ⟨hle, _, rfl, by omega, by omega, fun h => ⟨by assumption, by assumption, by assumption⟩⟩
  ·
   try simp only [sps] at h10
   have hsm8 := z38 (by omega)
   refine .skip ?_
   refine hK3 _ _ ?_
   refine .seq (fun K6 hK6 => ?_)
   refine .region ?_
   refine .m rfl rfl rfl (.fieldAddr fo_27_1_VSFun rfl) ?_
   refine .m rfl rfl rfl (.load on_22_B rfl (by assumption)) ?_
   refine .m rfl rfl rfl (.move rfl) ?_
   refine .call rfl rfl rfl rfl @Try.call40 rfl (szInt64S_s) ?_
   rintro _ _ ⟨heq, lf14, rfl, z114, z214, z314⟩
   obtain rfl := heq.symm
   refine .m rfl rfl rfl (.assign rfl) ?_
   refine .nil ?_
   refine hK6 _ _ ?_
   refine .seq (fun K7 hK7 => ?_)
   refine .seq (fun K8 hK8 => ?_)
   refine .region ?_
   refine .m rfl rfl rfl (.move rfl) ?_
   refine .m rfl rfl rfl (.cmp rfl rfl rfl) ?_
   refine .nil ?_
   refine hK8 _ _ ?_
   refine .cond rfl (fun h16 => ?_) (fun h16 => ?_)
   ·
    try simp only [sps] at h16
    refine .seq (fun K9 hK9 => ?_)
    refine .region ?_
    refine .m rfl rfl rfl (.assign rfl) ?_
    refine .nil ?_
    refine hK9 _ _ ?_
    refine .ret ?_
    -- leaf e2
    refine hret _ _ ?_
    refine ⟨_, rfl, ?_⟩
    first
    | exact ⟨hle, _, rfl, by omega, by omega, fun h => by omega⟩
    | exact ⟨hle, _, rfl, by omega, by omega, fun h => ⟨by assumption, by assumption, by assumption⟩⟩
   ·
    try simp only [sps] at h16
    have hsm14 := z314 (by omega)
    refine .skip ?_
    refine hK7 _ _ ?_
    refine .seq (fun K10 hK10 => ?_)
    refine .region ?_
    refine .m rfl rfl rfl (.fieldAddr fo_27_2_VSFun rfl) ?_
    refine .m rfl rfl rfl (.load on_23_B rfl (by assumption)) ?_
    refine .m rfl rfl rfl (.move rfl) ?_
    refine .call rfl rfl rfl rfl @Try.call28 rfl (szInt64SS_s) ?_
    rintro _ _ ⟨heq, lf20, rfl, z120, z220, z320⟩
    obtain rfl := heq.symm
    refine .m rfl rfl rfl (.assign rfl) ?_
    refine .nil ?_
    refine hK10 _ _ ?_
    refine .seq (fun K11 hK11 => ?_)
    refine .seq (fun K12 hK12 => ?_)
    refine .region ?_
    refine .m rfl rfl rfl (.move rfl) ?_
    refine .m rfl rfl rfl (.cmp rfl rfl rfl) ?_
    refine .nil ?_
    refine hK12 _ _ ?_
    refine .cond rfl (fun h22 => ?_) (fun h22 => ?_)
    ·
     try simp only [sps] at h22
     refine .seq (fun K13 hK13 => ?_)
     refine .region ?_
     refine .m rfl rfl rfl (.assign rfl) ?_
     refine .nil ?_
     refine hK13 _ _ ?_
     refine .ret ?_
     -- leaf e3
     refine hret _ _ ?_
     refine ⟨_, rfl, ?_⟩
     first
     | exact ⟨hle, _, rfl, by omega, by omega, fun h => by omega⟩
     | exact ⟨hle, _, rfl, by omega, by omega, fun h => ⟨by assumption, by assumption, by assumption⟩⟩
    ·
     try simp only [sps] at h22
     have hsm20 := z320 (by omega)
     refine .skip ?_
     refine hK11 _ _ ?_
     refine .seq (fun K14 hK14 => ?_)
     refine .region ?_
     refine .m rfl rfl rfl (.move rfl) ?_
     refine .m rfl rfl rfl (.assign rfl) ?_
     refine .nil ?_
     refine hK14 _ _ ?_
     refine .ret ?_
     -- leaf e4
     refine hret _ _ ?_
     refine ⟨_, rfl, ?_⟩
     first
     | exact ⟨hle, _, rfl, by omega, by omega, fun h => by omega⟩
     | exact ⟨hle, _, rfl, by omega, by omega, fun h => ⟨by assumption, by assumption, by assumption⟩⟩
set_option maxHeartbeats 4000000 in
theorem toSetFunctor_c {c : SFun} {p : SFunP} {H : GHeap} (hin : c.In H p := by assumption) (hs : c.Small := by assumption) : GCalls Try.prog 20 [.agg (c.cells p).toArray] H (NewSFun H c) := by
  obtain ⟨w0, w1, ⟨wa2, wb2⟩⟩ := hs
  refine GCalls.body (N := 17) (rs := [.cell 2 39]) Try.func20 rfl rfl rfl rfl (fun Qx hret hend => ?_)
  refine .forget (fr' := [(0, some _)]) ⟨rfl, trivial⟩ ?_
  have hle := GHeap.Le.refl H
  have base_hin := hin
  refine .seq (fun K1 hK1 => ?_)
  refine .region ?_
  refine .r rfl rfl rfl (.boxR rfl sz_27_VSFun rfl) ?_
  rintro _ H1 ⟨g1, rfl, le1, ge1, at1⟩
  have nx_H1 := le1.1
  replace hle := hle.trans le1
  have lt_at1 := GHeap.lt_of_get at1
  replace hin := base_hin.mono hle
  have hb1 : SFun.At _ g1 0 c p := ⟨Mem.of_get at1, hin⟩
  obtain ⟨fsh1, c51, c61, i11, i21⟩ := hb1.get
  have hm1 : MemN _ _ _ _ _ := ⟨rfl, hb1.1⟩
  have hi1 := hb1.2
  have hmsh1 : MemN _ _ _ _ _ := ⟨rfl, fsh1.1⟩
  have hish1 := fsh1.2
  refine .r rfl rfl rfl (.allocR rfl ze_39_VSFun rfl) ?_
  rintro _ H2 ⟨g2, rfl, le2, ge2, at2⟩
  have nx_H2 := le2.1
  replace hle := hle.trans le2
  replace at1 := le2.2 _ _ at1
  have lt_at2 := GHeap.lt_of_get at2
  replace hin := base_hin.mono hle
  clear hb1 fsh1 c51 c61 i11 i21 hm1 hi1 hmsh1 hish1
  have hb1 : SFun.At _ g1 0 c p := ⟨Mem.of_get at1, hin⟩
  obtain ⟨fsh1, c51, c61, i11, i21⟩ := hb1.get
  have hm1 : MemN _ _ _ _ _ := ⟨rfl, hb1.1⟩
  have hi1 := hb1.2
  have hmsh1 : MemN _ _ _ _ _ := ⟨rfl, fsh1.1⟩
  have hish1 := fsh1.2
  refine .nil ?_
  refine hK1 _ _ ?_
  refine .seq (fun K2 hK2 => ?_)
  refine .region ?_
  refine .r rfl rfl rfl (.allocR rfl ze_39_VSFun rfl) ?_
  rintro _ H3 ⟨g3, rfl, le3, ge3, at3⟩
  have nx_H3 := le3.1
  replace hle := hle.trans le3
  replace at1 := le3.2 _ _ at1
  replace at2 := le3.2 _ _ at2
  have lt_at3 := GHeap.lt_of_get at3
  replace hin := base_hin.mono hle
  clear hb1 fsh1 c51 c61 i11 i21 hm1 hi1 hmsh1 hish1
  have hb1 : SFun.At _ g1 0 c p := ⟨Mem.of_get at1, hin⟩
  obtain ⟨fsh1, c51, c61, i11, i21⟩ := hb1.get
  have hm1 : MemN _ _ _ _ _ := ⟨rfl, hb1.1⟩
  have hi1 := hb1.2
  have hmsh1 : MemN _ _ _ _ _ := ⟨rfl, fsh1.1⟩
  have hish1 := fsh1.2
  refine .nil ?_
  refine hK2 _ _ ?_
  refine .seq (fun K3 hK3 => ?_)
  refine .region ?_
  refine .m rfl rfl rfl (.fieldAddr fo_27_0_VSFun rfl) ?_
  refine .m rfl rfl rfl (.loadM ag_25_VSFun rfl (by assumption)) ?_
  refine .call rfl rfl rfl rfl @Try.call43 rfl (toCategory_c) ?_
  rintro _ H6 ⟨le6, p6, rfl, v6⟩
  have nx_H6 := le6.1
  replace hle := hle.trans le6
  replace at1 := le6.2 _ _ at1
  replace at2 := le6.2 _ _ at2
  replace at3 := le6.2 _ _ at3
  have bs_v6 := v6
  have lv_v6 : Keep H3.next H6 H6 := fun _ _ _ h => h
  replace hin := base_hin.mono hle
  clear hb1 fsh1 c51 c61 i11 i21 hm1 hi1 hmsh1 hish1
  have hb1 : SFun.At _ g1 0 c p := ⟨Mem.of_get at1, hin⟩
  obtain ⟨fsh1, c51, c61, i11, i21⟩ := hb1.get
  have hm1 : MemN _ _ _ _ _ := ⟨rfl, hb1.1⟩
  have hi1 := hb1.2
  have hmsh1 : MemN _ _ _ _ _ := ⟨rfl, fsh1.1⟩
  have hish1 := fsh1.2
  have i6 := v6.inn
  refine .m rfl rfl rfl (.fieldAddr fo_39_0_VSFun rfl) ?_
  refine .r0 rfl rfl (.storeNR rfl sz_37_D rfl rfl rfl rfl (by assumption) (by first | rfl | exact Nat.le_of_ble_eq_true rfl | simp)) ?_
  rintro _ H2004 ⟨rfl, st2004, at2004⟩
  have nx_H2004 := st2004.nx
  replace hle := hle.st st2004 (fun k hk => ⟨by omega, trivial⟩)
  replace at1 := st2004.same _ _ ⟨by omega, trivial⟩ at1
  replace at2 := st2004.same _ _ ⟨by omega, trivial⟩ at2
  replace lv_v6 := Keep.st lv_v6 st2004 (fun k hb hk => ⟨by omega, trivial⟩)
  replace v6 := bs_v6.keep lv_v6 (Nat.le_refl _)
  have lt_at2004 := GHeap.lt_of_get at2004
  replace hin := base_hin.mono hle
  clear hb1 fsh1 c51 c61 i11 i21 hm1 hi1 hmsh1 hish1
  have hb1 : SFun.At _ g1 0 c p := ⟨Mem.of_get at1, hin⟩
  obtain ⟨fsh1, c51, c61, i11, i21⟩ := hb1.get
  have hm1 : MemN _ _ _ _ _ := ⟨rfl, hb1.1⟩
  have hi1 := hb1.2
  have hmsh1 : MemN _ _ _ _ _ := ⟨rfl, fsh1.1⟩
  have hish1 := fsh1.2
  clear i6
  have i6 := v6.inn
  refine .nil ?_
  refine hK3 _ _ ?_
  refine .seq (fun K4 hK4 => ?_)
  refine .region ?_
  refine .m rfl rfl rfl (.fieldAddr fo_27_1_VSFun rfl) ?_
  refine .m rfl rfl rfl (.load on_22_B rfl (by assumption)) ?_
  refine .call rfl rfl rfl rfl @Try.call44 rfl (toInt64S_c) ?_
  rintro _ H10 ⟨le10, g10, rfl, at10, ge10⟩
  have nx_H10 := le10.1
  replace hle := hle.trans le10
  replace at1 := le10.2 _ _ at1
  replace at2 := le10.2 _ _ at2
  replace at2004 := le10.2 _ _ at2004
  replace lv_v6 := Keep.le lv_v6 le10
  replace v6 := bs_v6.keep lv_v6 (Nat.le_refl _)
  have lt_at10 := GHeap.lt_of_get at10
  replace hin := base_hin.mono hle
  clear hb1 fsh1 c51 c61 i11 i21 hm1 hi1 hmsh1 hish1
  have hb1 : SFun.At _ g1 0 c p := ⟨Mem.of_get at1, hin⟩
  obtain ⟨fsh1, c51, c61, i11, i21⟩ := hb1.get
  have hm1 : MemN _ _ _ _ _ := ⟨rfl, hb1.1⟩
  have hi1 := hb1.2
  have hmsh1 : MemN _ _ _ _ _ := ⟨rfl, fsh1.1⟩
  have hish1 := fsh1.2
  clear i6
  have i6 := v6.inn
  have i10 := Ints.of_get at10
  refine .m rfl rfl rfl (.fieldAddr fo_39_1_VSFun rfl) ?_
  refine .r0 rfl rfl (.storeR rfl sz_22_E rfl rfl rfl (by assumption) (by first | exact Nat.le_of_ble_eq_true rfl | simp)) ?_
  rintro _ H3004 ⟨rfl, st3004, at3004⟩
  have nx_H3004 := st3004.nx
  replace hle := hle.st st3004 (fun k hk => ⟨by omega, trivial⟩)
  replace at1 := st3004.same _ _ ⟨by omega, trivial⟩ at1
  replace at2 := st3004.same _ _ ⟨by omega, trivial⟩ at2
  replace at10 := st3004.same _ _ ⟨by omega, trivial⟩ at10
  replace lv_v6 := Keep.st lv_v6 st3004 (fun k hb hk => ⟨by omega, trivial⟩)
  replace v6 := bs_v6.keep lv_v6 (Nat.le_refl _)
  have lt_at3004 := GHeap.lt_of_get at3004
  replace hin := base_hin.mono hle
  clear hb1 fsh1 c51 c61 i11 i21 hm1 hi1 hmsh1 hish1
  have hb1 : SFun.At _ g1 0 c p := ⟨Mem.of_get at1, hin⟩
  obtain ⟨fsh1, c51, c61, i11, i21⟩ := hb1.get
  have hm1 : MemN _ _ _ _ _ := ⟨rfl, hb1.1⟩
  have hi1 := hb1.2
  have hmsh1 : MemN _ _ _ _ _ := ⟨rfl, fsh1.1⟩
  have hish1 := fsh1.2
  clear i6
  have i6 := v6.inn
  clear i10
  have i10 := Ints.of_get at10
  refine .nil ?_
  refine hK4 _ _ ?_
  refine .seq (fun K5 hK5 => ?_)
  refine .region ?_
  refine .m rfl rfl rfl (.fieldAddr fo_27_2_VSFun rfl) ?_
  refine .m rfl rfl rfl (.load on_23_B rfl (by assumption)) ?_
  refine .call rfl rfl rfl rfl @Try.call32 rfl (toInt64SS_c) ?_
  rintro _ H14 ⟨le14, a14, r14, rfl, v14⟩
  have nx_H14 := le14.1
  replace hle := hle.trans le14
  replace at1 := le14.2 _ _ at1
  replace at2 := le14.2 _ _ at2
  replace at10 := le14.2 _ _ at10
  replace at3004 := le14.2 _ _ at3004
  replace lv_v6 := Keep.le lv_v6 le14
  replace v6 := bs_v6.keep lv_v6 (Nat.le_refl _)
  have bs_v14 := v14
  have lv_v14 : Keep H3004.next H14 H14 := fun _ _ _ h => h
  replace hin := base_hin.mono hle
  clear hb1 fsh1 c51 c61 i11 i21 hm1 hi1 hmsh1 hish1
  have hb1 : SFun.At _ g1 0 c p := ⟨Mem.of_get at1, hin⟩
  obtain ⟨fsh1, c51, c61, i11, i21⟩ := hb1.get
  have hm1 : MemN _ _ _ _ _ := ⟨rfl, hb1.1⟩
  have hi1 := hb1.2
  have hmsh1 : MemN _ _ _ _ _ := ⟨rfl, fsh1.1⟩
  have hish1 := fsh1.2
  clear i6
  have i6 := v6.inn
  clear i10
  have i10 := Ints.of_get at10
  have i14 := v14.intss
  refine .m rfl rfl rfl (.fieldAddr fo_39_2_VSFun rfl) ?_
  refine .r0 rfl rfl (.storeR rfl sz_23_E rfl rfl rfl (by assumption) (by first | exact Nat.le_of_ble_eq_true rfl | simp)) ?_
  rintro _ H4004 ⟨rfl, st4004, at4004⟩
  have nx_H4004 := st4004.nx
  replace hle := hle.st st4004 (fun k hk => ⟨by omega, trivial⟩)
  replace at1 := st4004.same _ _ ⟨by omega, trivial⟩ at1
  replace at2 := st4004.same _ _ ⟨by omega, trivial⟩ at2
  replace at10 := st4004.same _ _ ⟨by omega, trivial⟩ at10
  replace lv_v6 := Keep.st lv_v6 st4004 (fun k hb hk => ⟨by omega, trivial⟩)
  replace v6 := bs_v6.keep lv_v6 (Nat.le_refl _)
  replace lv_v14 := Keep.st lv_v14 st4004 (fun k hb hk => ⟨by omega, trivial⟩)
  replace v14 := bs_v14.keep lv_v14 (Nat.le_refl _)
  have lt_at4004 := GHeap.lt_of_get at4004
  replace hin := base_hin.mono hle
  clear hb1 fsh1 c51 c61 i11 i21 hm1 hi1 hmsh1 hish1
  have hb1 : SFun.At _ g1 0 c p := ⟨Mem.of_get at1, hin⟩
  obtain ⟨fsh1, c51, c61, i11, i21⟩ := hb1.get
  have hm1 : MemN _ _ _ _ _ := ⟨rfl, hb1.1⟩
  have hi1 := hb1.2
  have hmsh1 : MemN _ _ _ _ _ := ⟨rfl, fsh1.1⟩
  have hish1 := fsh1.2
  clear i6
  have i6 := v6.inn
  clear i10
  have i10 := Ints.of_get at10
  clear i14
  have i14 := v14.intss
  refine .nil ?_
  refine hK5 _ _ ?_
  refine .seq (fun K6 hK6 => ?_)
  refine .region ?_
  refine .m rfl rfl rfl (.loadM ag_39_VSFun rfl ⟨rfl, Mem.of_get at4004⟩) ?_
  refine .r0 rfl rfl (.fillR rfl sz_39_VSFun rfl rfl rfl rfl (by assumption) (by first | rfl | exact Nat.le_of_ble_eq_true rfl | simp)) ?_
  rintro _ H5001 ⟨rfl, st5001, at5001⟩
  have nx_H5001 := st5001.nx
  replace hle := hle.st st5001 (fun k hk => ⟨by omega, trivial⟩)
  replace at1 := st5001.same _ _ ⟨by omega, trivial⟩ at1
  replace at10 := st5001.same _ _ ⟨by omega, trivial⟩ at10
  replace at4004 := st5001.same _ _ ⟨by omega, trivial⟩ at4004
  replace lv_v6 := Keep.st lv_v6 st5001 (fun k hb hk => ⟨by omega, trivial⟩)
  replace v6 := bs_v6.keep lv_v6 (Nat.le_refl _)
  replace lv_v14 := Keep.st lv_v14 st5001 (fun k hb hk => ⟨by omega, trivial⟩)
  replace v14 := bs_v14.keep lv_v14 (Nat.le_refl _)
  have lt_at5001 := GHeap.lt_of_get at5001
  replace hin := base_hin.mono hle
  clear hb1 fsh1 c51 c61 i11 i21 hm1 hi1 hmsh1 hish1
  have hb1 : SFun.At _ g1 0 c p := ⟨Mem.of_get at1, hin⟩
  obtain ⟨fsh1, c51, c61, i11, i21⟩ := hb1.get
  have hm1 : MemN _ _ _ _ _ := ⟨rfl, hb1.1⟩
  have hi1 := hb1.2
  have hmsh1 : MemN _ _ _ _ _ := ⟨rfl, fsh1.1⟩
  have hish1 := fsh1.2
  clear i6
  have i6 := v6.inn
  clear i10
  have i10 := Ints.of_get at10
  clear i14
  have i14 := v14.intss
  have mm5001 : MemN _ _ _ _ _ := ⟨rfl, Mem.of_get at5001⟩
  refine .nil ?_
  refine hK6 _ _ ?_
  refine .ret ?_
  -- leaf e1
  refine hret _ _ ?_
  refine ⟨_, _, _, _, rfl, ag_39_VSFun, (by rfl), (Mem.of_get at5001), ?_⟩
  exact ⟨hle, ⟨p6, some ⟨g10, 0, none⟩, a14, r14⟩, rfl, ⟨v6.keep (.of_le (.refl _)) (by omega), ⟨g10, _, rfl, by omega, at10⟩, v14.keep (.of_le (.refl _)) (by omega)⟩⟩
set_option maxHeartbeats 4000000 in
theorem eqSetFunctor_c {c : SFun} {p p' : SFunP} {H : GHeap} (hin : c.In H p := by assumption) (hin' : c.In H p' := by assumption) (hs : c.Small := by assumption) : GCalls Try.prog 22 [.agg (c.cells p).toArray, .agg (c.cells p').toArray] H (Ret (.bool true) H) := by
  refine GCalls.ret rfl ?_
  obtain ⟨w0, w1, ⟨wa2, wb2⟩⟩ := hs
  refine GCalls.body (N := 23) (rs := [.tmp 4]) Try.func22 rfl rfl rfl rfl (fun Qx hret hend => ?_)
  refine .forget (fr' := [(0, some _), (1, some _)]) ⟨rfl, rfl, trivial⟩ ?_
  have hle := GHeap.Le.refl H
  have base_hin := hin
  have base_hin' := hin'
  refine .seq (fun K1 hK1 => ?_)
  refine .region ?_
  refine .r rfl rfl rfl (.boxR rfl sz_39_VSFun rfl) ?_
  rintro _ H2 ⟨g2, rfl, le2, ge2, at2⟩
  have nx_H2 := le2.1
  replace hle := hle.trans le2
  have lt_at2 := GHeap.lt_of_get at2
  replace hin := base_hin.mono hle
  replace hin' := base_hin'.mono hle
  have hb2 : SFun.At _ g2 0 c p := ⟨Mem.of_get at2, hin⟩
  obtain ⟨fsh2, c52, c62, i12, i22⟩ := hb2.get
  have hm2 : MemN _ _ _ _ _ := ⟨rfl, hb2.1⟩
  have hi2 := hb2.2
  have hmsh2 : MemN _ _ _ _ _ := ⟨rfl, fsh2.1⟩
  have hish2 := fsh2.2
  refine .r rfl rfl rfl (.boxR rfl sz_39_VSFun rfl) ?_
  rintro _ H3 ⟨g3, rfl, le3, ge3, at3⟩
  have nx_H3 := le3.1
  replace hle := hle.trans le3
  replace at2 := le3.2 _ _ at2
  have lt_at3 := GHeap.lt_of_get at3
  replace hin := base_hin.mono hle
  replace hin' := base_hin'.mono hle
  clear hb2 fsh2 c52 c62 i12 i22 hm2 hi2 hmsh2 hish2
  have hb2 : SFun.At _ g2 0 c p := ⟨Mem.of_get at2, hin⟩
  obtain ⟨fsh2, c52, c62, i12, i22⟩ := hb2.get
  have hm2 : MemN _ _ _ _ _ := ⟨rfl, hb2.1⟩
  have hi2 := hb2.2
  have hmsh2 : MemN _ _ _ _ _ := ⟨rfl, fsh2.1⟩
  have hish2 := fsh2.2
  have hb3 : SFun.At _ g3 0 c p' := ⟨Mem.of_get at3, hin'⟩
  obtain ⟨fsh3, c53, c63, i13, i23⟩ := hb3.get
  have hm3 : MemN _ _ _ _ _ := ⟨rfl, hb3.1⟩
  have hi3 := hb3.2
  have hmsh3 : MemN _ _ _ _ _ := ⟨rfl, fsh3.1⟩
  have hish3 := fsh3.2
  refine .m rfl rfl rfl (.assign rfl) ?_
  refine .nil ?_
  refine hK1 _ _ ?_
  refine .seq (fun K2 hK2 => ?_)
  refine .seq (fun K3 hK3 => ?_)
  refine .region ?_
  refine .m rfl rfl rfl (.fieldAddr fo_39_0_VSFun rfl) ?_
  refine .m rfl rfl rfl (.loadM ag_37_D rfl (by assumption)) ?_
  refine .m rfl rfl rfl (.fieldAddr fo_39_0_VSFun rfl) ?_
  refine .m rfl rfl rfl (.loadM ag_37_D rfl (by assumption)) ?_
  refine .callQ rfl rfl rfl rfl @Try.call47 rfl (eqCategory_c) ?_
  refine .m rfl rfl rfl (.not rfl) ?_
  refine .nil ?_
  refine hK3 _ _ ?_
  refine .cond rfl (fun h10 => ?_) (fun h10 => ?_)
  ·
   try simp only [sps] at h10
   refine .seq (fun K4 hK4 => ?_)
   refine .region ?_
   refine .m rfl rfl rfl (.assign rfl) ?_
   refine .nil ?_
   refine hK4 _ _ ?_
   refine .ret ?_
   -- leaf e1
   refine hret _ _ ?_
   refine ⟨_, rfl, ?_⟩
   first
   | exact ⟨rfl, hle⟩
   | exact absurd trivial (by assumption)
   | contradiction
   | (exfalso; omega)
   | (exfalso; simp_all)
  ·
   try simp only [sps] at h10
   refine .skip ?_
   refine hK2 _ _ ?_
   refine .seq (fun K5 hK5 => ?_)
   refine .seq (fun K6 hK6 => ?_)
   refine .region ?_
   refine .m rfl rfl rfl (.fieldAddr fo_39_1_VSFun rfl) ?_
   refine .m rfl rfl rfl (.load on_22_B rfl (by assumption)) ?_
   refine .m rfl rfl rfl (.fieldAddr fo_39_1_VSFun rfl) ?_
   refine .m rfl rfl rfl (.load on_22_B rfl (by assumption)) ?_
   refine .callQ rfl rfl rfl rfl @Try.call48 rfl (eqInt64S_c) ?_
   refine .m rfl rfl rfl (.not rfl) ?_
   refine .nil ?_
   refine hK6 _ _ ?_
   refine .cond rfl (fun h16 => ?_) (fun h16 => ?_)
   ·
    try simp only [sps] at h16
    refine .seq (fun K7 hK7 => ?_)
    refine .region ?_
    refine .m rfl rfl rfl (.assign rfl) ?_
    refine .nil ?_
    refine hK7 _ _ ?_
    refine .ret ?_
    -- leaf e2
    refine hret _ _ ?_
    refine ⟨_, rfl, ?_⟩
    first
    | exact ⟨rfl, hle⟩
    | exact absurd trivial (by assumption)
    | contradiction
    | (exfalso; omega)
    | (exfalso; simp_all)
   ·
    try simp only [sps] at h16
    refine .skip ?_
    refine hK5 _ _ ?_
    refine .seq (fun K8 hK8 => ?_)
    refine .seq (fun K9 hK9 => ?_)
    refine .region ?_
    refine .m rfl rfl rfl (.fieldAddr fo_39_2_VSFun rfl) ?_
    refine .m rfl rfl rfl (.load on_23_B rfl (by assumption)) ?_
    refine .m rfl rfl rfl (.fieldAddr fo_39_2_VSFun rfl) ?_
    refine .m rfl rfl rfl (.load on_23_B rfl (by assumption)) ?_
    refine .callQ rfl rfl rfl rfl @Try.call36 rfl (eqInt64SS_c) ?_
    refine .m rfl rfl rfl (.not rfl) ?_
    refine .nil ?_
    refine hK9 _ _ ?_
    refine .cond rfl (fun h22 => ?_) (fun h22 => ?_)
    ·
     try simp only [sps] at h22
     refine .seq (fun K10 hK10 => ?_)
     refine .region ?_
     refine .m rfl rfl rfl (.assign rfl) ?_
     refine .nil ?_
     refine hK10 _ _ ?_
     refine .ret ?_
     -- leaf e3
     refine hret _ _ ?_
     refine ⟨_, rfl, ?_⟩
     first
     | exact ⟨rfl, hle⟩
     | exact absurd trivial (by assumption)
     | contradiction
     | (exfalso; omega)
     | (exfalso; simp_all)
    ·
     try simp only [sps] at h22
     refine .skip ?_
     refine hK8 _ _ ?_
     refine .seq (fun K11 hK11 => ?_)
     refine .region ?_
     refine .m rfl rfl rfl (.assign rfl) ?_
     refine .nil ?_
     refine hK11 _ _ ?_
     refine .ret ?_
     -- leaf e4
     refine hret _ _ ?_
     refine ⟨_, rfl, ?_⟩
     first
     | exact ⟨rfl, hle⟩
     | exact absurd trivial (by assumption)
     | contradiction
     | (exfalso; omega)
     | (exfalso; simp_all)
end Go.Proofs.Ytbpehbbdodahaaa
