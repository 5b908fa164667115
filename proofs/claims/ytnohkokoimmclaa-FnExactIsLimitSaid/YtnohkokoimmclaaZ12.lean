/- The law of IsLimit. No condition but those of each statement. -/
import Derived.Test.YtnohkokoimmclaaZ11
namespace Go.Proofs.Ytnohkokoimmclaa
open Go Go.GL Go.RowKit Go.Proofs
theorem ag_27_LIsLimit : aggT Try.prog 27 = some 12 := by kernel_rfl
theorem ag_51_LIsLimit : aggT Try.prog 51 = some 2 := by kernel_rfl
theorem bo_4_LIsLimit : isBoolT Try.prog 4 = true := by kernel_rfl
set_option maxHeartbeats 40000000 in
theorem lawIsLimit_c {d : Fun} {p : FunP} {m : Con} {q : ConP} {H : GHeap} (h0 : d.In H p) (w0 : d.Wide) (h1 : m.In H q) (w1 : m.Wide) :
    GCalls Try.prog 6 [.agg (d.cells p).toArray, .agg (m.cells q).toArray] H (fun v _ => v = .bool true) := by
  refine GCalls.body (N := 58) (rs := [.tmp 4]) Try.func6 rfl rfl rfl rfl (fun Qx hret hend => ?_)
  refine .forget (fr' := [(0, some _), (1, some _)]) ⟨rfl, rfl, trivial⟩ ?_
  have hle := GHeap.Le.refl H
  have base_h0 := h0
  have base_h1 := h1
  refine .seq (fun K1 hK1 => ?_)
  refine .region ?_
  refine .r rfl rfl rfl (.boxR rfl sz_27_E rfl) ?_
  rintro _ H2 ⟨g2, rfl, le2, ge2, at2⟩
  have nx_H2 := le2.1
  replace hle := hle.trans le2
  have lt_at2 := GHeap.lt_of_get at2
  replace h0 := base_h0.mono hle
  replace h1 := base_h1.mono hle
  have hb2 : Fun.At _ g2 0 d p := ⟨Mem.of_get at2, h0⟩
  obtain ⟨fs2, ft2, c102, c112, j12, j22⟩ := hb2.get
  have hm2 : MemN _ _ _ _ _ := ⟨rfl, hb2.1⟩
  have hi2 := hb2.2
  have hms2 : MemN _ _ _ _ _ := ⟨rfl, fs2.1⟩
  have his2 := fs2.2
  have hmt2 : MemN _ _ _ _ _ := ⟨rfl, ft2.1⟩
  have hit2 := ft2.2
  refine .r rfl rfl rfl (.boxR rfl sz_51_VCon rfl) ?_
  rintro _ H3 ⟨g3, rfl, le3, ge3, at3⟩
  have nx_H3 := le3.1
  replace hle := hle.trans le3
  replace at2 := le3.2 _ _ at2
  have lt_at3 := GHeap.lt_of_get at3
  replace h0 := base_h0.mono hle
  replace h1 := base_h1.mono hle
  clear hb2 fs2 ft2 c102 c112 j12 j22 hm2 hi2 hms2 his2 hmt2 hit2
  have hb2 : Fun.At _ g2 0 d p := ⟨Mem.of_get at2, h0⟩
  obtain ⟨fs2, ft2, c102, c112, j12, j22⟩ := hb2.get
  have hm2 : MemN _ _ _ _ _ := ⟨rfl, hb2.1⟩
  have hi2 := hb2.2
  have hms2 : MemN _ _ _ _ _ := ⟨rfl, fs2.1⟩
  have his2 := fs2.2
  have hmt2 : MemN _ _ _ _ _ := ⟨rfl, ft2.1⟩
  have hit2 := ft2.2
  have hb3 : Con.At _ g3 0 m q := ⟨Mem.of_get at3, h1⟩
  obtain ⟨c03, c13, i13⟩ := hb3.get
  have hm3 : MemN _ _ _ _ _ := ⟨rfl, hb3.1⟩
  have hi3 := hb3.2
  refine .m rfl rfl rfl (.assign rfl) (.nil ?_)
  refine hK1 _ _ ?_
  refine .seq (fun K2 hK2 => ?_)
  refine .region (.m rfl rfl rfl (.assign rfl) (.nil ?_))
  refine hK2 _ _ ?_
  refine .seq (fun K3 hK3 => ?_)
  refine .region ?_
  refine .m rfl rfl rfl (.loadM ag_27_LIsLimit rfl ⟨rfl, Mem.of_get at2⟩) ?_
  refine .m rfl rfl rfl (.move rfl) ?_
  refine .call rfl rfl rfl rfl @Try.call7 rfl (szFunctor_c) ?_
  rintro _ _ ⟨heq, lf14, rfl, z114, z214, z314⟩
  obtain rfl := heq.symm
  refine .m rfl rfl rfl (.assign rfl) (.nil ?_)
  refine hK3 _ _ ?_
  refine .seq (fun K4 hK4 => ?_)
  refine .seq (fun K5 hK5 => ?_)
  refine .region (.m rfl rfl rfl (.move rfl) (.m rfl rfl rfl (.cmp rfl rfl rfl) (.nil ?_)))
  refine hK5 _ _ ?_
  refine .cond rfl (fun h16 => ?_) (fun h16 => ?_)
  ·
   try simp only [sps] at h16
   refine .seq (fun K6 hK6 => ?_)
   refine .region (.m rfl rfl rfl (.assign rfl) (.nil ?_))
   refine hK6 _ _ ?_
   refine .ret ?_
   refine hret _ _ ?_
   refine ⟨_, rfl, ?_⟩
   first
   | exact rfl
   | exact absurd trivial (by assumption)
   | contradiction
   | (exfalso; omega)
  try simp only [sps] at h16
  have hsm14 := z314 (by omega)
  have tb14 := hsm14.tot
  refine .skip ?_
  refine hK4 _ _ ?_
  refine .seq (fun K7 hK7 => ?_)
  refine .region ?_
  refine .m rfl rfl rfl (.loadM ag_51_LIsLimit rfl ⟨rfl, Mem.of_get at3⟩) ?_
  refine .m rfl rfl rfl (.move rfl) ?_
  refine .call rfl rfl rfl rfl @Try.call26 rfl (szCone_c) ?_
  rintro _ _ ⟨heq, lf19, rfl, z119, z219, z319⟩
  obtain rfl := heq.symm
  refine .m rfl rfl rfl (.assign rfl) (.nil ?_)
  refine hK7 _ _ ?_
  refine .seq (fun K8 hK8 => ?_)
  refine .seq (fun K9 hK9 => ?_)
  refine .region (.m rfl rfl rfl (.move rfl) (.m rfl rfl rfl (.cmp rfl rfl rfl) (.nil ?_)))
  refine hK9 _ _ ?_
  refine .cond rfl (fun h21 => ?_) (fun h21 => ?_)
  ·
   try simp only [sps] at h21
   refine .seq (fun K10 hK10 => ?_)
   refine .region (.m rfl rfl rfl (.assign rfl) (.nil ?_))
   refine hK10 _ _ ?_
   refine .ret ?_
   refine hret _ _ ?_
   refine ⟨_, rfl, ?_⟩
   first
   | exact rfl
   | exact absurd trivial (by assumption)
   | contradiction
   | (exfalso; omega)
  try simp only [sps] at h21
  have hsm19 := z319 (by omega)
  have tb19 := hsm19.tot
  refine .skip ?_
  refine hK8 _ _ ?_
  refine .seq (fun K11 hK11 => ?_)
  refine .regionD mixed_orders_B (.q 0 (.q 2 (.c 1 1 (.c 3 0 (.c 4 0 (.q 5 (.q 6 (.q 7 (.q 8 (.q 9 (.done))))))))))) (by kernel_rfl) ?_
  refine .m rfl rfl rfl rfl (.refl _) (.loadM ag_27_LIsLimit rfl ⟨rfl, Mem.of_get at2⟩) ?_
  refine .m rfl rfl rfl rfl (.refl _) (.loadM ag_51_LIsLimit rfl ⟨rfl, Mem.of_get at3⟩) ?_
  refine .call1 rfl rfl rfl rfl rfl @Try.call9 rfl (toFunctor_c) ?_
  rintro _ H24 ⟨le24, p24, rfl, v24⟩
  have hbl := le24
  refine ⟨hbl, ?_⟩
  have nx_H24 := le24.1
  replace hle := hle.trans le24
  replace at2 := le24.2 _ _ at2
  replace at3 := le24.2 _ _ at3
  have bs_v24 := v24
  have lv_v24 : Keep H3.next H24 H24 := fun _ _ _ h => h
  replace h0 := base_h0.mono hle
  replace h1 := base_h1.mono hle
  clear hb2 fs2 ft2 c102 c112 j12 j22 hm2 hi2 hms2 his2 hmt2 hit2
  have hb2 : Fun.At _ g2 0 d p := ⟨Mem.of_get at2, h0⟩
  obtain ⟨fs2, ft2, c102, c112, j12, j22⟩ := hb2.get
  have hm2 : MemN _ _ _ _ _ := ⟨rfl, hb2.1⟩
  have hi2 := hb2.2
  have hms2 : MemN _ _ _ _ _ := ⟨rfl, fs2.1⟩
  have his2 := fs2.2
  have hmt2 : MemN _ _ _ _ _ := ⟨rfl, ft2.1⟩
  have hit2 := ft2.2
  clear hb3 c03 c13 i13 hm3 hi3
  have hb3 : Con.At _ g3 0 m q := ⟨Mem.of_get at3, h1⟩
  obtain ⟨c03, c13, i13⟩ := hb3.get
  have hm3 : MemN _ _ _ _ _ := ⟨rfl, hb3.1⟩
  have hi3 := hb3.2
  have i24 := v24.inn
  refine .call0 rfl rfl rfl rfl rfl @Try.call28 rfl (toCone_c) ?_
  rintro _ H26 ⟨le26, p26, rfl, v26⟩
  have nx_H26 := le26.1
  replace hle := hle.trans le26
  replace at2 := le26.2 _ _ at2
  replace at3 := le26.2 _ _ at3
  replace lv_v24 := Keep.le lv_v24 le26
  replace v24 := bs_v24.keep lv_v24 (Nat.le_refl _)
  have bs_v26 := v26
  have lv_v26 : Keep H24.next H26 H26 := fun _ _ _ h => h
  replace h0 := base_h0.mono hle
  replace h1 := base_h1.mono hle
  clear hb2 fs2 ft2 c102 c112 j12 j22 hm2 hi2 hms2 his2 hmt2 hit2
  have hb2 : Fun.At _ g2 0 d p := ⟨Mem.of_get at2, h0⟩
  obtain ⟨fs2, ft2, c102, c112, j12, j22⟩ := hb2.get
  have hm2 : MemN _ _ _ _ _ := ⟨rfl, hb2.1⟩
  have hi2 := hb2.2
  have hms2 : MemN _ _ _ _ _ := ⟨rfl, fs2.1⟩
  have his2 := fs2.2
  have hmt2 : MemN _ _ _ _ _ := ⟨rfl, ft2.1⟩
  have hit2 := ft2.2
  clear hb3 c03 c13 i13 hm3 hi3
  have hb3 : Con.At _ g3 0 m q := ⟨Mem.of_get at3, h1⟩
  obtain ⟨c03, c13, i13⟩ := hb3.get
  have hm3 : MemN _ _ _ _ _ := ⟨rfl, hb3.1⟩
  have hi3 := hb3.2
  clear i24
  have i24 := v24.inn
  have i26 := v26.inn
  refine .callQ0 rfl rfl rfl rfl rfl @Try.call27 rfl (specIsLimit_c) ?_
  refine .m rfl rfl rfl rfl (.refl _) (.move rfl) (.m rfl rfl rfl rfl (.refl _) (.extract rfl rfl) (.m rfl rfl rfl rfl (.refl _) (.extract rfl rfl) (.m rfl rfl rfl rfl (.refl _) (.assign rfl) ?_)))
  refine .m rfl rfl rfl rfl (.refl _) (.assign rfl) ?_
  refine .done ?_
  refine hK11 _ _ ?_
  refine .seq (fun K12 hK12 => ?_)
  refine .region ?_
  refine .m rfl rfl rfl (.loadM ag_27_LIsLimit rfl ⟨rfl, Mem.of_get at2⟩) ?_
  refine .call rfl rfl rfl rfl @Try.call9 rfl (toFunctor_c) ?_
  rintro _ H31 ⟨le31, p31, rfl, v31⟩
  have nx_H31 := le31.1
  replace hle := hle.trans le31
  replace at2 := le31.2 _ _ at2
  replace at3 := le31.2 _ _ at3
  replace lv_v24 := Keep.le lv_v24 le31
  replace v24 := bs_v24.keep lv_v24 (Nat.le_refl _)
  replace lv_v26 := Keep.le lv_v26 le31
  replace v26 := bs_v26.keep lv_v26 (Nat.le_refl _)
  have bs_v31 := v31
  have lv_v31 : Keep H26.next H31 H31 := fun _ _ _ h => h
  replace h0 := base_h0.mono hle
  replace h1 := base_h1.mono hle
  clear hb2 fs2 ft2 c102 c112 j12 j22 hm2 hi2 hms2 his2 hmt2 hit2
  have hb2 : Fun.At _ g2 0 d p := ⟨Mem.of_get at2, h0⟩
  obtain ⟨fs2, ft2, c102, c112, j12, j22⟩ := hb2.get
  have hm2 : MemN _ _ _ _ _ := ⟨rfl, hb2.1⟩
  have hi2 := hb2.2
  have hms2 : MemN _ _ _ _ _ := ⟨rfl, fs2.1⟩
  have his2 := fs2.2
  have hmt2 : MemN _ _ _ _ _ := ⟨rfl, ft2.1⟩
  have hit2 := ft2.2
  clear hb3 c03 c13 i13 hm3 hi3
  have hb3 : Con.At _ g3 0 m q := ⟨Mem.of_get at3, h1⟩
  obtain ⟨c03, c13, i13⟩ := hb3.get
  have hm3 : MemN _ _ _ _ _ := ⟨rfl, hb3.1⟩
  have hi3 := hb3.2
  clear i24
  have i24 := v24.inn
  clear i26
  have i26 := v26.inn
  have i31 := v31.inn
  refine .r rfl rfl rfl (.allocR rfl ze_33_E rfl) ?_
  rintro _ H8 ⟨g8, rfl, le8, ge8, at8⟩
  have nx_H8 := le8.1
  replace hle := hle.trans le8
  replace at2 := le8.2 _ _ at2
  replace at3 := le8.2 _ _ at3
  replace lv_v24 := Keep.le lv_v24 le8
  replace v24 := bs_v24.keep lv_v24 (Nat.le_refl _)
  replace lv_v26 := Keep.le lv_v26 le8
  replace v26 := bs_v26.keep lv_v26 (Nat.le_refl _)
  replace lv_v31 := Keep.le lv_v31 le8
  replace v31 := bs_v31.keep lv_v31 (Nat.le_refl _)
  have lt_at8 := GHeap.lt_of_get at8
  replace h0 := base_h0.mono hle
  replace h1 := base_h1.mono hle
  clear hb2 fs2 ft2 c102 c112 j12 j22 hm2 hi2 hms2 his2 hmt2 hit2
  have hb2 : Fun.At _ g2 0 d p := ⟨Mem.of_get at2, h0⟩
  obtain ⟨fs2, ft2, c102, c112, j12, j22⟩ := hb2.get
  have hm2 : MemN _ _ _ _ _ := ⟨rfl, hb2.1⟩
  have hi2 := hb2.2
  have hms2 : MemN _ _ _ _ _ := ⟨rfl, fs2.1⟩
  have his2 := fs2.2
  have hmt2 : MemN _ _ _ _ _ := ⟨rfl, ft2.1⟩
  have hit2 := ft2.2
  clear hb3 c03 c13 i13 hm3 hi3
  have hb3 : Con.At _ g3 0 m q := ⟨Mem.of_get at3, h1⟩
  obtain ⟨c03, c13, i13⟩ := hb3.get
  have hm3 : MemN _ _ _ _ _ := ⟨rfl, hb3.1⟩
  have hi3 := hb3.2
  clear i24
  have i24 := v24.inn
  clear i26
  have i26 := v26.inn
  clear i31
  have i31 := v31.inn
  refine .r0 rfl rfl (.fillR rfl sz_33_E rfl rfl rfl rfl (by assumption) (by first | rfl | exact Nat.le_of_ble_eq_true rfl | simp)) ?_
  rintro _ H9003 ⟨rfl, st9003, at9003⟩
  have nx_H9003 := st9003.nx
  replace hle := hle.st st9003 (fun k hk => ⟨by omega, trivial⟩)
  replace at2 := st9003.same _ _ ⟨by omega, trivial⟩ at2
  replace at3 := st9003.same _ _ ⟨by omega, trivial⟩ at3
  replace lv_v24 := Keep.st lv_v24 st9003 (fun k hb hk => ⟨by omega, trivial⟩)
  replace v24 := bs_v24.keep lv_v24 (Nat.le_refl _)
  replace lv_v26 := Keep.st lv_v26 st9003 (fun k hb hk => ⟨by omega, trivial⟩)
  replace v26 := bs_v26.keep lv_v26 (Nat.le_refl _)
  replace lv_v31 := Keep.st lv_v31 st9003 (fun k hb hk => ⟨by omega, trivial⟩)
  replace v31 := bs_v31.keep lv_v31 (Nat.le_refl _)
  have lt_at9003 := GHeap.lt_of_get at9003
  replace h0 := base_h0.mono hle
  replace h1 := base_h1.mono hle
  clear hb2 fs2 ft2 c102 c112 j12 j22 hm2 hi2 hms2 his2 hmt2 hit2
  have hb2 : Fun.At _ g2 0 d p := ⟨Mem.of_get at2, h0⟩
  obtain ⟨fs2, ft2, c102, c112, j12, j22⟩ := hb2.get
  have hm2 : MemN _ _ _ _ _ := ⟨rfl, hb2.1⟩
  have hi2 := hb2.2
  have hms2 : MemN _ _ _ _ _ := ⟨rfl, fs2.1⟩
  have his2 := fs2.2
  have hmt2 : MemN _ _ _ _ _ := ⟨rfl, ft2.1⟩
  have hit2 := ft2.2
  clear hb3 c03 c13 i13 hm3 hi3
  have hb3 : Con.At _ g3 0 m q := ⟨Mem.of_get at3, h1⟩
  obtain ⟨c03, c13, i13⟩ := hb3.get
  have hm3 : MemN _ _ _ _ _ := ⟨rfl, hb3.1⟩
  have hi3 := hb3.2
  clear i24
  have i24 := v24.inn
  clear i26
  have i26 := v26.inn
  clear i31
  have i31 := v31.inn
  have mm9003 : MemN _ _ _ _ _ := ⟨rfl, Mem.of_get at9003⟩
  refine .nil ?_
  refine hK12 _ _ ?_
  refine .seq (fun K13 hK13 => ?_)
  refine .region ?_
  refine .m rfl rfl rfl (.loadM ag_51_LIsLimit rfl ⟨rfl, Mem.of_get at3⟩) ?_
  refine .call rfl rfl rfl rfl @Try.call28 rfl (toCone_c) ?_
  rintro _ H33 ⟨le33, p33, rfl, v33⟩
  have nx_H33 := le33.1
  replace hle := hle.trans le33
  replace at2 := le33.2 _ _ at2
  replace at3 := le33.2 _ _ at3
  replace at9003 := le33.2 _ _ at9003
  replace lv_v24 := Keep.le lv_v24 le33
  replace v24 := bs_v24.keep lv_v24 (Nat.le_refl _)
  replace lv_v26 := Keep.le lv_v26 le33
  replace v26 := bs_v26.keep lv_v26 (Nat.le_refl _)
  replace lv_v31 := Keep.le lv_v31 le33
  replace v31 := bs_v31.keep lv_v31 (Nat.le_refl _)
  have bs_v33 := v33
  have lv_v33 : Keep H9003.next H33 H33 := fun _ _ _ h => h
  replace h0 := base_h0.mono hle
  replace h1 := base_h1.mono hle
  clear hb2 fs2 ft2 c102 c112 j12 j22 hm2 hi2 hms2 his2 hmt2 hit2
  have hb2 : Fun.At _ g2 0 d p := ⟨Mem.of_get at2, h0⟩
  obtain ⟨fs2, ft2, c102, c112, j12, j22⟩ := hb2.get
  have hm2 : MemN _ _ _ _ _ := ⟨rfl, hb2.1⟩
  have hi2 := hb2.2
  have hms2 : MemN _ _ _ _ _ := ⟨rfl, fs2.1⟩
  have his2 := fs2.2
  have hmt2 : MemN _ _ _ _ _ := ⟨rfl, ft2.1⟩
  have hit2 := ft2.2
  clear hb3 c03 c13 i13 hm3 hi3
  have hb3 : Con.At _ g3 0 m q := ⟨Mem.of_get at3, h1⟩
  obtain ⟨c03, c13, i13⟩ := hb3.get
  have hm3 : MemN _ _ _ _ _ := ⟨rfl, hb3.1⟩
  have hi3 := hb3.2
  clear i24
  have i24 := v24.inn
  clear i26
  have i26 := v26.inn
  clear i31
  have i31 := v31.inn
  clear mm9003
  have mm9003 : MemN _ _ _ _ _ := ⟨rfl, Mem.of_get at9003⟩
  have i33 := v33.inn
  refine .r rfl rfl rfl (.allocR rfl ze_55_VCon rfl) ?_
  rintro _ H9 ⟨g9, rfl, le9, ge9, at9⟩
  have nx_H9 := le9.1
  replace hle := hle.trans le9
  replace at2 := le9.2 _ _ at2
  replace at3 := le9.2 _ _ at3
  replace at9003 := le9.2 _ _ at9003
  replace lv_v24 := Keep.le lv_v24 le9
  replace v24 := bs_v24.keep lv_v24 (Nat.le_refl _)
  replace lv_v26 := Keep.le lv_v26 le9
  replace v26 := bs_v26.keep lv_v26 (Nat.le_refl _)
  replace lv_v31 := Keep.le lv_v31 le9
  replace v31 := bs_v31.keep lv_v31 (Nat.le_refl _)
  replace lv_v33 := Keep.le lv_v33 le9
  replace v33 := bs_v33.keep lv_v33 (Nat.le_refl _)
  have lt_at9 := GHeap.lt_of_get at9
  replace h0 := base_h0.mono hle
  replace h1 := base_h1.mono hle
  clear hb2 fs2 ft2 c102 c112 j12 j22 hm2 hi2 hms2 his2 hmt2 hit2
  have hb2 : Fun.At _ g2 0 d p := ⟨Mem.of_get at2, h0⟩
  obtain ⟨fs2, ft2, c102, c112, j12, j22⟩ := hb2.get
  have hm2 : MemN _ _ _ _ _ := ⟨rfl, hb2.1⟩
  have hi2 := hb2.2
  have hms2 : MemN _ _ _ _ _ := ⟨rfl, fs2.1⟩
  have his2 := fs2.2
  have hmt2 : MemN _ _ _ _ _ := ⟨rfl, ft2.1⟩
  have hit2 := ft2.2
  clear hb3 c03 c13 i13 hm3 hi3
  have hb3 : Con.At _ g3 0 m q := ⟨Mem.of_get at3, h1⟩
  obtain ⟨c03, c13, i13⟩ := hb3.get
  have hm3 : MemN _ _ _ _ _ := ⟨rfl, hb3.1⟩
  have hi3 := hb3.2
  clear i24
  have i24 := v24.inn
  clear i26
  have i26 := v26.inn
  clear i31
  have i31 := v31.inn
  clear mm9003
  have mm9003 : MemN _ _ _ _ _ := ⟨rfl, Mem.of_get at9003⟩
  clear i33
  have i33 := v33.inn
  refine .r0 rfl rfl (.fillR rfl sz_55_VCon rfl rfl rfl rfl (by assumption) (by first | rfl | exact Nat.le_of_ble_eq_true rfl | simp)) ?_
  rintro _ H10003 ⟨rfl, st10003, at10003⟩
  have nx_H10003 := st10003.nx
  replace hle := hle.st st10003 (fun k hk => ⟨by omega, trivial⟩)
  replace at2 := st10003.same _ _ ⟨by omega, trivial⟩ at2
  replace at3 := st10003.same _ _ ⟨by omega, trivial⟩ at3
  replace at9003 := st10003.same _ _ ⟨by omega, trivial⟩ at9003
  replace lv_v24 := Keep.st lv_v24 st10003 (fun k hb hk => ⟨by omega, trivial⟩)
  replace v24 := bs_v24.keep lv_v24 (Nat.le_refl _)
  replace lv_v26 := Keep.st lv_v26 st10003 (fun k hb hk => ⟨by omega, trivial⟩)
  replace v26 := bs_v26.keep lv_v26 (Nat.le_refl _)
  replace lv_v31 := Keep.st lv_v31 st10003 (fun k hb hk => ⟨by omega, trivial⟩)
  replace v31 := bs_v31.keep lv_v31 (Nat.le_refl _)
  replace lv_v33 := Keep.st lv_v33 st10003 (fun k hb hk => ⟨by omega, trivial⟩)
  replace v33 := bs_v33.keep lv_v33 (Nat.le_refl _)
  have lt_at10003 := GHeap.lt_of_get at10003
  replace h0 := base_h0.mono hle
  replace h1 := base_h1.mono hle
  clear hb2 fs2 ft2 c102 c112 j12 j22 hm2 hi2 hms2 his2 hmt2 hit2
  have hb2 : Fun.At _ g2 0 d p := ⟨Mem.of_get at2, h0⟩
  obtain ⟨fs2, ft2, c102, c112, j12, j22⟩ := hb2.get
  have hm2 : MemN _ _ _ _ _ := ⟨rfl, hb2.1⟩
  have hi2 := hb2.2
  have hms2 : MemN _ _ _ _ _ := ⟨rfl, fs2.1⟩
  have his2 := fs2.2
  have hmt2 : MemN _ _ _ _ _ := ⟨rfl, ft2.1⟩
  have hit2 := ft2.2
  clear hb3 c03 c13 i13 hm3 hi3
  have hb3 : Con.At _ g3 0 m q := ⟨Mem.of_get at3, h1⟩
  obtain ⟨c03, c13, i13⟩ := hb3.get
  have hm3 : MemN _ _ _ _ _ := ⟨rfl, hb3.1⟩
  have hi3 := hb3.2
  clear i24
  have i24 := v24.inn
  clear i26
  have i26 := v26.inn
  clear i31
  have i31 := v31.inn
  clear mm9003
  have mm9003 : MemN _ _ _ _ _ := ⟨rfl, Mem.of_get at9003⟩
  clear i33
  have i33 := v33.inn
  have mm10003 : MemN _ _ _ _ _ := ⟨rfl, Mem.of_get at10003⟩
  refine .nil ?_
  refine hK13 _ _ ?_
  refine .seq (fun K14 hK14 => ?_)
  refine .region ?_
  refine .m rfl rfl rfl (.loadM ag_33_E rfl ⟨rfl, Mem.of_get at9003⟩) ?_
  refine .m rfl rfl rfl (.loadM ag_55_VCon rfl ⟨rfl, Mem.of_get at10003⟩) ?_
  refine .callQ rfl rfl rfl rfl @Try.call29 rfl (implIsLimit_c) ?_
  refine .m rfl rfl rfl (.move rfl) (.m rfl rfl rfl (.extract rfl rfl) (.m rfl rfl rfl (.extract rfl rfl) (.m rfl rfl rfl (.assign rfl) ?_)))
  refine .m rfl rfl rfl (.assign rfl) (.nil ?_)
  refine hK14 _ _ ?_
  refine .seq (fun K15 hK15 => ?_)
  refine .seq (fun K16 hK16 => ?_)
  refine .region (.m rfl rfl rfl (.move rfl) (.m rfl rfl rfl (.move rfl) (.m rfl rfl rfl (.boolNe bo_4_LIsLimit rfl rfl) ?_)))
  refine .m rfl rfl rfl (.move rfl) ?_
  refine .split (fun h43 => ?_) (fun h43 => ?_)
  ·
   try simp only [sps] at h43
   refine .sg rfl rfl rfl rfl rfl (.sg rfl rfl rfl rfl rfl (.sg rfl rfl rfl rfl rfl (.m rfl rfl rfl (.pickT rfl rfl) ?_)))
   refine .nil ?_
   refine hK16 _ _ ?_
   refine .condT rfl ?_
   refine .seq (fun K17 hK17 => ?_)
   refine .region (.m rfl rfl rfl (.assign rfl) (.nil ?_))
   refine hK17 _ _ ?_
   refine .ret ?_
   refine hret _ _ ?_
   refine ⟨_, rfl, ?_⟩
   first
   | exact rfl
   | exact absurd trivial (by assumption)
   | contradiction
   | (exfalso; omega)
  try simp only [sps] at h43
  refine .mg rfl rfl rfl rfl rfl (.move rfl) (.mg rfl rfl rfl rfl rfl (.move rfl) (.mg rfl rfl rfl rfl rfl (.cmp rfl rfl rfl) (.m rfl rfl rfl (.pickF rfl rfl) ?_)))
  refine .nil ?_
  refine hK16 _ _ ?_
  refine .cond rfl (fun h47 => ?_) (fun h47 => ?_)
  ·
   try simp only [sps] at h47
   refine .seq (fun K18 hK18 => ?_)
   refine .region (.m rfl rfl rfl (.assign rfl) (.nil ?_))
   refine hK18 _ _ ?_
   refine .ret ?_
   refine hret _ _ ?_
   refine ⟨_, rfl, ?_⟩
   first
   | exact rfl
   | exact absurd trivial (by assumption)
   | contradiction
   | (exfalso; omega)
  try simp only [sps] at h47
  refine .skip ?_
  refine hK15 _ _ ?_
  refine .seq (fun K19 hK19 => ?_)
  refine .seq (fun K20 hK20 => ?_)
  refine .regionD mixed_orders_B (.q 0 (.q 1 (.c 2 1 (.c 3 0 (.q 4 (.done)))))) (by kernel_rfl) ?_
  refine .m rfl rfl rfl rfl (.refl _) (.loadM ag_33_E rfl ⟨rfl, Mem.of_get at9003⟩) ?_
  refine .m rfl rfl rfl rfl (.refl _) (.loadM ag_27_LIsLimit rfl ⟨rfl, Mem.of_get at2⟩) ?_
  refine .call1 rfl rfl rfl rfl rfl @Try.call9 rfl (toFunctor_c) ?_
  rintro _ H50 ⟨le50, p50, rfl, v50⟩
  have hbl := le50
  refine ⟨hbl, ?_⟩
  have nx_H50 := le50.1
  replace hle := hle.trans le50
  replace at2 := le50.2 _ _ at2
  replace at3 := le50.2 _ _ at3
  replace at9003 := le50.2 _ _ at9003
  replace at10003 := le50.2 _ _ at10003
  replace lv_v24 := Keep.le lv_v24 le50
  replace v24 := bs_v24.keep lv_v24 (Nat.le_refl _)
  replace lv_v26 := Keep.le lv_v26 le50
  replace v26 := bs_v26.keep lv_v26 (Nat.le_refl _)
  replace lv_v31 := Keep.le lv_v31 le50
  replace v31 := bs_v31.keep lv_v31 (Nat.le_refl _)
  replace lv_v33 := Keep.le lv_v33 le50
  replace v33 := bs_v33.keep lv_v33 (Nat.le_refl _)
  have bs_v50 := v50
  have lv_v50 : Keep H10003.next H50 H50 := fun _ _ _ h => h
  replace h0 := base_h0.mono hle
  replace h1 := base_h1.mono hle
  clear hb2 fs2 ft2 c102 c112 j12 j22 hm2 hi2 hms2 his2 hmt2 hit2
  have hb2 : Fun.At _ g2 0 d p := ⟨Mem.of_get at2, h0⟩
  obtain ⟨fs2, ft2, c102, c112, j12, j22⟩ := hb2.get
  have hm2 : MemN _ _ _ _ _ := ⟨rfl, hb2.1⟩
  have hi2 := hb2.2
  have hms2 : MemN _ _ _ _ _ := ⟨rfl, fs2.1⟩
  have his2 := fs2.2
  have hmt2 : MemN _ _ _ _ _ := ⟨rfl, ft2.1⟩
  have hit2 := ft2.2
  clear hb3 c03 c13 i13 hm3 hi3
  have hb3 : Con.At _ g3 0 m q := ⟨Mem.of_get at3, h1⟩
  obtain ⟨c03, c13, i13⟩ := hb3.get
  have hm3 : MemN _ _ _ _ _ := ⟨rfl, hb3.1⟩
  have hi3 := hb3.2
  clear i24
  have i24 := v24.inn
  clear i26
  have i26 := v26.inn
  clear i31
  have i31 := v31.inn
  clear mm9003
  have mm9003 : MemN _ _ _ _ _ := ⟨rfl, Mem.of_get at9003⟩
  clear i33
  have i33 := v33.inn
  clear mm10003
  have mm10003 : MemN _ _ _ _ _ := ⟨rfl, Mem.of_get at10003⟩
  have i50 := v50.inn
  refine .callQ0 rfl rfl rfl rfl rfl @Try.call12 rfl (eqFunctor_c) ?_
  refine .m rfl rfl rfl rfl (.refl _) (.not rfl) ?_
  refine .done ?_
  refine hK20 _ _ ?_
  refine .cond rfl (fun h52 => ?_) (fun h52 => ?_)
  ·
   try simp only [sps] at h52
   refine .seq (fun K21 hK21 => ?_)
   refine .region (.m rfl rfl rfl (.assign rfl) (.nil ?_))
   refine hK21 _ _ ?_
   refine .ret ?_
   refine hret _ _ ?_
   refine ⟨_, rfl, ?_⟩
   first
   | exact rfl
   | exact absurd trivial (by assumption)
   | contradiction
   | (exfalso; omega)
  try simp only [sps] at h52
  refine .skip ?_
  refine hK19 _ _ ?_
  refine .seq (fun K22 hK22 => ?_)
  refine .seq (fun K23 hK23 => ?_)
  refine .regionD mixed_orders_B (.q 0 (.q 1 (.c 2 1 (.c 3 0 (.q 4 (.done)))))) (by kernel_rfl) ?_
  refine .m rfl rfl rfl rfl (.refl _) (.loadM ag_55_VCon rfl ⟨rfl, Mem.of_get at10003⟩) ?_
  refine .m rfl rfl rfl rfl (.refl _) (.loadM ag_51_LIsLimit rfl ⟨rfl, Mem.of_get at3⟩) ?_
  refine .call1 rfl rfl rfl rfl rfl @Try.call28 rfl (toCone_c) ?_
  rintro _ H55 ⟨le55, p55, rfl, v55⟩
  have hbl := le55
  refine ⟨hbl, ?_⟩
  have nx_H55 := le55.1
  replace hle := hle.trans le55
  replace at2 := le55.2 _ _ at2
  replace at3 := le55.2 _ _ at3
  replace at9003 := le55.2 _ _ at9003
  replace at10003 := le55.2 _ _ at10003
  replace lv_v24 := Keep.le lv_v24 le55
  replace v24 := bs_v24.keep lv_v24 (Nat.le_refl _)
  replace lv_v26 := Keep.le lv_v26 le55
  replace v26 := bs_v26.keep lv_v26 (Nat.le_refl _)
  replace lv_v31 := Keep.le lv_v31 le55
  replace v31 := bs_v31.keep lv_v31 (Nat.le_refl _)
  replace lv_v33 := Keep.le lv_v33 le55
  replace v33 := bs_v33.keep lv_v33 (Nat.le_refl _)
  replace lv_v50 := Keep.le lv_v50 le55
  replace v50 := bs_v50.keep lv_v50 (Nat.le_refl _)
  have bs_v55 := v55
  have lv_v55 : Keep H50.next H55 H55 := fun _ _ _ h => h
  replace h0 := base_h0.mono hle
  replace h1 := base_h1.mono hle
  clear hb2 fs2 ft2 c102 c112 j12 j22 hm2 hi2 hms2 his2 hmt2 hit2
  have hb2 : Fun.At _ g2 0 d p := ⟨Mem.of_get at2, h0⟩
  obtain ⟨fs2, ft2, c102, c112, j12, j22⟩ := hb2.get
  have hm2 : MemN _ _ _ _ _ := ⟨rfl, hb2.1⟩
  have hi2 := hb2.2
  have hms2 : MemN _ _ _ _ _ := ⟨rfl, fs2.1⟩
  have his2 := fs2.2
  have hmt2 : MemN _ _ _ _ _ := ⟨rfl, ft2.1⟩
  have hit2 := ft2.2
  clear hb3 c03 c13 i13 hm3 hi3
  have hb3 : Con.At _ g3 0 m q := ⟨Mem.of_get at3, h1⟩
  obtain ⟨c03, c13, i13⟩ := hb3.get
  have hm3 : MemN _ _ _ _ _ := ⟨rfl, hb3.1⟩
  have hi3 := hb3.2
  clear i24
  have i24 := v24.inn
  clear i26
  have i26 := v26.inn
  clear i31
  have i31 := v31.inn
  clear mm9003
  have mm9003 : MemN _ _ _ _ _ := ⟨rfl, Mem.of_get at9003⟩
  clear i33
  have i33 := v33.inn
  clear mm10003
  have mm10003 : MemN _ _ _ _ _ := ⟨rfl, Mem.of_get at10003⟩
  clear i50
  have i50 := v50.inn
  have i55 := v55.inn
  refine .callQ0 rfl rfl rfl rfl rfl @Try.call30 rfl (eqCone_c) ?_
  refine .m rfl rfl rfl rfl (.refl _) (.not rfl) ?_
  refine .done ?_
  refine hK23 _ _ ?_
  refine .cond rfl (fun h57 => ?_) (fun h57 => ?_)
  ·
   try simp only [sps] at h57
   refine .seq (fun K24 hK24 => ?_)
   refine .region (.m rfl rfl rfl (.assign rfl) (.nil ?_))
   refine hK24 _ _ ?_
   refine .ret ?_
   refine hret _ _ ?_
   refine ⟨_, rfl, ?_⟩
   first
   | exact rfl
   | exact absurd trivial (by assumption)
   | contradiction
   | (exfalso; omega)
  try simp only [sps] at h57
  refine .skip ?_
  refine hK22 _ _ ?_
  refine .seq (fun K25 hK25 => ?_)
  refine .region (.m rfl rfl rfl (.assign rfl) (.nil ?_))
  refine hK25 _ _ ?_
  refine .ret ?_
  refine hret _ _ ?_
  refine ⟨_, rfl, ?_⟩
  first
  | exact rfl
  | exact absurd trivial (by assumption)
  | contradiction
  | (exfalso; omega)
end Go.Proofs.Ytnohkokoimmclaa
/- The call of a law, whatever it takes: the arguments brought in one by one. No condition. -/
namespace Go.GL
open Go.RowKit Go.WideShapes Go.ChangeShapes Go.Deep

/-- An argument of type t may be brought in so that R holds of what stands for it. -/
structure Imp1 (P : Program) (t : TypeId) (R : GHeap → Value → Prop) : Prop where
  mono : ∀ {H H' : GHeap} {g : Value}, H.Le H' → R H g → R H' g
  imp : ∀ {T : Type} {enc : TypeId × Value → T} {B : Nat} {w0 : World} {ρ : Place} {H : GHeap} {w : World} {held : Bool} {base fuel : Nat} {v : Value} {x : DataW T × List MemPlace}, Sim P B w0 ρ H w → w.heap.size ≤ B →
    DataW.trod enc P w 0 (fun _ => true) held fuel t v.cells.toList = some x → Value.okWide P w .any base t v → ∃ ρ' H' g, Sim P B w0 ρ' H' w ∧ Ext ρ ρ' ∧ H.Le H' ∧ VRel ρ' g v ∧ R H' g

def structT (P : Program) (t : TypeId) : Bool := match P.underlying t with | some (.struct _) => true | _ => false
theorem imp1_struct {P : Program} {t : TypeId} {α β : Type} {cells : α → β → List Value} {I : GHeap → α → β → Prop} {W : α → Prop} (hm : ∀ {H H' : GHeap} {c : α} {p : β}, I H c p → H.Le H' → I H' c p)
    (hI : Imports P t (fun ρ H cs => ∃ (c : α) (p : β), LRel ρ (cells c p) cs ∧ I H c p ∧ W c)) (hst : structT P t = true) : Imp1 P t (fun H g => ∃ (c : α) (p : β), g = .agg (cells c p).toArray ∧ I H c p ∧ W c) where
  mono h := fun ⟨c, p, h1, h2, h3⟩ => ⟨c, p, h1, hm h2 h, h3⟩
  imp := by
    intro T enc B w0 ρ H w held base fuel v x hs hB h hv
    have hagg : ∃ cs, v = .agg cs := by
      unfold Value.okWide at hv
      unfold structT at hst
      split at hst
      · rename_i fs hu
        rw [hu] at hv
        obtain ⟨cs, h, _⟩ := hv
        exact ⟨cs, h⟩
      · cases hst
    obtain ⟨cs, rfl⟩ := hagg
    obtain ⟨ρ', H', h1, h2, h3, c, p, h4, h5, h6⟩ := hI hs hB h
    exact ⟨ρ', H', _, h1, h2, h3, by have := VRel.agg_of h4; simpa [Value.cells] using this, c, p, rfl, h5, h6⟩
theorem imp1_int {P : Program} {t : TypeId} (ht : i64T P t = true) : Imp1 P t (fun _ g => ∃ n, g = .int .i64 n ∧ I64 n) where
  mono _ := id
  imp := by
    intro T enc B w0 ρ H w held base fuel v x hs hB h hv
    obtain ⟨n, rfl⟩ := okWide_int (i64T_run ht) hv
    obtain ⟨ρ', H', h1, h2, h3, m, h4, h5⟩ := import_int ht hs hB h
    have : n = m := by simpa [Value.cells] using h4
    subst this
    exact ⟨ρ', H', _, h1, h2, h3, .int _ _, n, rfl, h5⟩
theorem imp1_ints {P : Program} {t : TypeId} (ht : intsT P t = true) : Imp1 P t (fun H g => ∃ a xs, g = .slice a xs.length xs.length ∧ Ints H a xs ∧ I64s xs) where
  mono h := fun ⟨a, xs, h1, h2, h3⟩ => ⟨a, xs, h1, h2.mono h, h3⟩
  imp := by
    intro T enc B w0 ρ H w held base fuel v x hs hB h hv
    obtain ⟨e, hu, _⟩ := intsT_run ht
    obtain ⟨a, l, c, rfl⟩ := okWide_slice hu hv
    obtain ⟨ρ', H', h1, h2, h3, a', xs, c', h4, h5, h6, h7⟩ := import_ints ht hs hB h
    have : Value.slice a l c = c' := by simpa [Value.cells] using h4
    subst this
    exact ⟨ρ', H', _, h1, h2, h3, h5, a', xs, rfl, h6, h7⟩
theorem imp1_intss {P : Program} {t : TypeId} (ht : intssT P t = true) : Imp1 P t (fun H g => ∃ a xss r, g = .slice a xss.length xss.length ∧ Intss H a xss r ∧ xss.length ≤ 9223372036854775807 ∧ ∀ i, I64s (xss.getD i [])) where
  mono h := fun ⟨a, xs, r, h1, h2, h3⟩ => ⟨a, xs, r, h1, h2.mono h, h3⟩
  imp := by
    intro T enc B w0 ρ H w held base fuel v x hs hB h hv
    obtain ⟨e, hu, _⟩ := intssT_run ht
    obtain ⟨a, l, c, rfl⟩ := okWide_slice hu hv
    obtain ⟨ρ', H', h1, h2, h3, a', xs, r, c', h4, h5, h6, h7⟩ := import_intss ht hs hB h
    have : Value.slice a l c = c' := by simpa [Value.cells] using h4
    subst this
    exact ⟨ρ', H', _, h1, h2, h3, h5, a', xs, r, rfl, h6, h7⟩
theorem imp1_intsss {P : Program} {t : TypeId} (ht : intsssT P t = true) : Imp1 P t (fun H g => ∃ a x r s, g = .slice a x.length x.length ∧ Intsss H a x r s ∧ Wd3 x) where
  mono h := fun ⟨a, xs, r, s, h1, h2, h3⟩ => ⟨a, xs, r, s, h1, h2.mono h, h3⟩
  imp := by
    intro T enc B w0 ρ H w held base fuel v x hs hB h hv
    obtain ⟨e, hu, _⟩ := intsssT_run ht
    obtain ⟨a, l, c, rfl⟩ := okWide_slice hu hv
    obtain ⟨ρ', H', h1, h2, h3, a', xs, r, s, c', h4, h5, h6, h7⟩ := import_intsss ht hs hB h
    have : Value.slice a l c = c' := by simpa [Value.cells] using h4
    subst this
    exact ⟨ρ', H', _, h1, h2, h3, h5, a', xs, r, s, rfl, h6, h7⟩

/-- Arguments of types ts may be brought in so that R holds of what stands for them. -/
structure ImpAll (P : Program) (ts : List TypeId) (R : GHeap → List Value → Prop) : Prop where
  imp : ∀ {T : Type} {enc : TypeId × Value → T} {B : Nat} {w0 : World} {ρ : Place} {H : GHeap} {w : World} {base : Nat} {vs : List Value} {ds : List (DataW T)} {ps : List MemPlace}, Sim P B w0 ρ H w → w.heap.size ≤ B →
    DataW.TrodAll enc P w 0 (fun _ => true) true ts vs ds ps → (∀ (j : Nat) t v, ts[j]? = some t → vs[j]? = some v → Value.okWide P w .any base t v) → ds.length = ts.length ∧ ∃ ρ' H' gs, Sim P B w0 ρ' H' w ∧ Ext ρ ρ' ∧ H.Le H' ∧ LRel ρ' gs vs ∧ R H' gs
theorem ImpAll.nil {P : Program} : ImpAll P [] (fun _ gs => gs = []) where
  imp := by
    intro T enc B w0 ρ H w base vs ds ps hs hB h hv
    obtain ⟨rfl, rfl, rfl⟩ := trodAll_nil h
    exact ⟨rfl, ρ, H, [], hs, .refl ρ, .refl H, .nil ρ, rfl⟩
theorem ImpAll.cons {P : Program} {t : TypeId} {ts : List TypeId} {R1 : GHeap → Value → Prop} {R : GHeap → List Value → Prop} (h1 : Imp1 P t R1) (h2 : ImpAll P ts R) : ImpAll P (t :: ts) (fun H gs => ∃ g r, gs = g :: r ∧ R1 H g ∧ R H r) where
  imp := by
    intro T enc B w0 ρ H w base vs ds ps hs hB h hv
    obtain ⟨v, vs, d, ds, p, q, rfl, rfl, rfl, ⟨fuel, k1⟩, k2⟩ := trodAll_cons h
    obtain ⟨ρ1, H1, g, s1, e1, l1, v1, r1⟩ := h1.imp hs hB k1 (hv 0 t v rfl rfl)
    obtain ⟨hl, ρ2, H2, gs, s2, e2, l2, v2, r2⟩ := h2.imp s1 hB k2 (fun j t v ht hj => hv (j + 1) t v (by simpa using ht) (by simpa using hj))
    exact ⟨by simp [hl], ρ2, H2, g :: gs, s2, e1.trans e2, l1.trans l2, .cons (v1.mono e2) v2, g, gs, rfl, h1.mono l2 r1, r2⟩

/-- The call of a law. -/
theorem law_calls {P : Program} {f : FuncId} {fn : Func} {ts : List TypeId} {tb : TypeId} {R : GHeap → List Value → Prop} (hI : ImpAll P ts R) (hp : fn.params = ts.toArray)
    (hc : ∀ H gs, R H gs → GCalls P f gs H fun v _ => v = .bool true)
    {T : Type} {enc : TypeId × Value → T} {W : World} {base : Nat} {args : Array Value} {s : ChangeSpec} {apart fresh handsOn again : Bool} {ds gs : List (DataW T)} {before : List MemPlace}
    (hval : ∀ (j : Nat) t v, fn.params[j]? = some t → args[j]? = some v → Value.okWide P W .any base t v)
    (hW : DataW.Whole enc P fn.params.toList s.vars apart W args.toList ds gs before)
    (hl : laidOutB P = true) (hr : readB P fn.params.toList = true) (hv : s.vars = []) (hrt : fn.resultTypes = #[tb]) (htb : P.underlying tb = some .bool)
    (hs : ∀ ds : List (DataW T), ds.length = ts.length → (s.fn T ds).results = [.lit (.bool true)] ∧ (s.fn T ds).args = ds ∧ (s.fn T ds).vars = []) :
    Calls P f args W fun e W' => ∃ v, e = .returned v ∧ s.post enc P fn apart fresh handsOn again W args v W' := by
  have hWW := hW
  obtain ⟨p, q, hA, _⟩ := hW
  rw [hp] at hA
  obtain ⟨hlen, ρ, H, gs', hs', _, _, hrel, hR⟩ := hI.imp (base := base) (Sim.start P W) (Nat.le_refl _) (by simpa using hA) (fun j t v ht hj => hval j t v (by rw [hp]; simpa using ht) (by simpa using hj))
  have := (hc H gs' hR) _ _ ρ args.toList W hs' hrel
  rw [Array.toArray_toList] at this
  refine this.mono fun e W' ⟨v, c, ρ', H', he, hv', _, hsim, hrv⟩ => ?_
  subst hv'
  cases hrv
  exact ⟨_, he, law_post hl hr hv hrt htb hWW (hs ds hlen).1 (hs ds hlen).2.1 (hs ds hlen).2.2 hsim.below⟩
end Go.GL
