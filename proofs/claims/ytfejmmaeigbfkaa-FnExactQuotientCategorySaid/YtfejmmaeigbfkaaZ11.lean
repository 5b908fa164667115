/- The law of QuotientCategory. No condition but those of each statement. -/
import Derived.Test.YtfejmmaeigbfkaaZ10
namespace Go.Proofs.Ytfejmmaeigbfkaa
open Go Go.GL Go.RowKit Go.Proofs
theorem ag_25_LQuotientCategory : aggT Try.prog 25 = some 5 := by kernel_rfl
set_option maxHeartbeats 40000000 in
theorem lawQuotientCategory_c {c : Cat} {p : CatP} {xs : List Int} {a : Option Addr} {H : GHeap} (h0 : c.In H p) (w0 : c.Wide) (h1 : Ints H a xs) (w1 : I64s xs) :
    GCalls Try.prog 3 [.agg (c.cells p).toArray, .slice a xs.length xs.length] H (fun v _ => v = .bool true) := by
  refine GCalls.body (N := 117) (rs := [.tmp 4]) Try.func3 rfl rfl rfl rfl (fun Qx hret hend => ?_)
  refine .forget (fr' := [(0, some _), (1, some _)]) ⟨rfl, rfl, trivial⟩ ?_
  have hle := GHeap.Le.refl H
  have base_h0 := h0
  have base_h1 := h1
  refine .seq (fun K1 hK1 => ?_)
  refine .region ?_
  refine .r rfl rfl rfl (.boxR rfl sz_25_E rfl) ?_
  rintro _ H2 ⟨g2, rfl, le2, ge2, at2⟩
  have nx_H2 := le2.1
  replace hle := hle.trans le2
  have lt_at2 := GHeap.lt_of_get at2
  replace h0 := base_h0.mono hle
  replace h1 := base_h1.mono hle
  have hb2 : Cat.At _ g2 0 c p := ⟨Mem.of_get at2, h0⟩
  obtain ⟨c02, c12, c22, c32, c42, i12, i22, i32, i42⟩ := hb2.get
  have hm2 : MemN _ _ _ _ _ := ⟨rfl, hb2.1⟩
  have hi2 := hb2.2
  refine .m rfl rfl rfl (.assign rfl) ?_
  refine .nil ?_
  refine hK1 _ _ ?_
  refine .seq (fun K2 hK2 => ?_)
  refine .seq (fun K3 hK3 => ?_)
  refine .region ?_
  refine .m rfl rfl rfl (.move rfl) ?_
  refine .m rfl rfl rfl (.len sl_22_A rfl) ?_
  refine .m rfl rfl rfl (.cmp rfl rfl rfl) ?_
  refine .nil ?_
  refine hK3 _ _ ?_
  refine .cond rfl (fun h19 => ?_) (fun h19 => ?_)
  ·
   try simp only [sps] at h19
   refine .seq (fun K4 hK4 => ?_)
   refine .region ?_
   refine .m rfl rfl rfl (.assign rfl) ?_
   refine .nil ?_
   refine hK4 _ _ ?_
   refine .ret ?_
   -- leaf e1
   refine hret _ _ ?_
   refine ⟨_, rfl, ?_⟩
   first
   | exact rfl
   | exact absurd trivial (by assumption)
   | contradiction
   | (exfalso; omega)
  ·
   simp only [sps] at h19
   have hsR := Cat.quo_small (c := c) (xs := xs)
   have htR := hsR.tot
   refine .skip ?_
   refine hK2 _ _ ?_
   refine .seq (fun K5 hK5 => ?_)
   refine .region ?_
   refine .m rfl rfl rfl (.assign rfl) ?_
   refine .nil ?_
   refine hK5 _ _ ?_
   refine .seq (fun K6 hK6 => ?_)
   refine .region ?_
   refine .m rfl rfl rfl (.loadM ag_25_LQuotientCategory rfl ⟨rfl, Mem.of_get at2⟩) ?_
   refine .m rfl rfl rfl (.move rfl) ?_
   refine .call rfl rfl rfl rfl @Try.call7 rfl (szCategory_c) ?_
   rintro _ _ ⟨heq, lf22, rfl, z122, z222, z322⟩
   obtain rfl := heq.symm
   refine .m rfl rfl rfl (.assign rfl) ?_
   refine .nil ?_
   refine hK6 _ _ ?_
   refine .seq (fun K7 hK7 => ?_)
   refine .seq (fun K8 hK8 => ?_)
   refine .region ?_
   refine .m rfl rfl rfl (.move rfl) ?_
   refine .m rfl rfl rfl (.cmp rfl rfl rfl) ?_
   refine .nil ?_
   refine hK8 _ _ ?_
   refine .cond rfl (fun h24 => ?_) (fun h24 => ?_)
   ·
    try simp only [sps] at h24
    refine .seq (fun K9 hK9 => ?_)
    refine .region ?_
    refine .m rfl rfl rfl (.assign rfl) ?_
    refine .nil ?_
    refine hK9 _ _ ?_
    refine .ret ?_
    -- leaf e2
    refine hret _ _ ?_
    refine ⟨_, rfl, ?_⟩
    first
    | exact rfl
    | exact absurd trivial (by assumption)
    | contradiction
    | (exfalso; omega)
   ·
    try simp only [sps] at h24
    have hsm22 := z322 (by omega)
    have tb22 := hsm22.tot
    refine .skip ?_
    refine hK7 _ _ ?_
    refine .seq (fun K10 hK10 => ?_)
    refine .region ?_
    refine .m rfl rfl rfl (.loadM ag_25_LQuotientCategory rfl ⟨rfl, Mem.of_get at2⟩) ?_
    refine .call rfl rfl rfl rfl @Try.call9 rfl (toCategory_c) ?_
    rintro _ H27 ⟨le27, p27, rfl, v27⟩
    have nx_H27 := le27.1
    replace hle := hle.trans le27
    replace at2 := le27.2 _ _ at2
    have bs_v27 := v27
    have lv_v27 : Keep H2.next H27 H27 := fun _ _ _ h => h
    replace h0 := base_h0.mono hle
    replace h1 := base_h1.mono hle
    clear hb2 c02 c12 c22 c32 c42 i12 i22 i32 i42 hm2 hi2
    have hb2 : Cat.At _ g2 0 c p := ⟨Mem.of_get at2, h0⟩
    obtain ⟨c02, c12, c22, c32, c42, i12, i22, i32, i42⟩ := hb2.get
    have hm2 : MemN _ _ _ _ _ := ⟨rfl, hb2.1⟩
    have hi2 := hb2.2
    have i27 := v27.inn
    refine .m rfl rfl rfl (.move rfl) ?_
    refine .call rfl rfl rfl rfl @Try.call10 rfl (toInt64S_c) ?_
    rintro _ H29 ⟨le29, g29, rfl, at29, ge29⟩
    have v29 : IntsAt _ H29 _ _ := ⟨g29, _, rfl, ge29, at29⟩
    have nx_H29 := le29.1
    replace hle := hle.trans le29
    replace at2 := le29.2 _ _ at2
    replace lv_v27 := Keep.le lv_v27 le29
    replace v27 := bs_v27.keep lv_v27 (Nat.le_refl _)
    have bs_v29 := v29
    have lv_v29 : Keep H27.next H29 H29 := fun _ _ _ h => h
    replace h0 := base_h0.mono hle
    replace h1 := base_h1.mono hle
    clear hb2 c02 c12 c22 c32 c42 i12 i22 i32 i42 hm2 hi2
    have hb2 : Cat.At _ g2 0 c p := ⟨Mem.of_get at2, h0⟩
    obtain ⟨c02, c12, c22, c32, c42, i12, i22, i32, i42⟩ := hb2.get
    have hm2 : MemN _ _ _ _ _ := ⟨rfl, hb2.1⟩
    have hi2 := hb2.2
    clear i27
    have i27 := v27.inn
    have i29 := v29.ints
    refine .call rfl rfl rfl rfl @Try.call8 rfl (specQuotientCategory_c) ?_
    rintro _ H30 ⟨le30, p30, rfl, v30⟩
    have nx_H30 := le30.1
    replace hle := hle.trans le30
    replace at2 := le30.2 _ _ at2
    replace lv_v27 := Keep.le lv_v27 le30
    replace v27 := bs_v27.keep lv_v27 (Nat.le_refl _)
    replace lv_v29 := Keep.le lv_v29 le30
    replace v29 := bs_v29.keep lv_v29 (Nat.le_refl _)
    have bs_v30 := v30
    have lv_v30 : Keep H29.next H30 H30 := fun _ _ _ h => h
    replace h0 := base_h0.mono hle
    replace h1 := base_h1.mono hle
    clear hb2 c02 c12 c22 c32 c42 i12 i22 i32 i42 hm2 hi2
    have hb2 : Cat.At _ g2 0 c p := ⟨Mem.of_get at2, h0⟩
    obtain ⟨c02, c12, c22, c32, c42, i12, i22, i32, i42⟩ := hb2.get
    have hm2 : MemN _ _ _ _ _ := ⟨rfl, hb2.1⟩
    have hi2 := hb2.2
    clear i27
    have i27 := v27.inn
    clear i29
    have i29 := v29.ints
    have i30 := v30.inn
    refine .m rfl rfl rfl (.move rfl) ?_
    refine .m rfl rfl rfl (.extract rfl rfl) ?_
    refine .m rfl rfl rfl (.extract rfl rfl) ?_
    refine .r rfl rfl rfl (.allocR rfl ze_27_E rfl) ?_
    rintro _ H6 ⟨g6, rfl, le6, ge6, at6⟩
    have nx_H6 := le6.1
    replace hle := hle.trans le6
    replace at2 := le6.2 _ _ at2
    replace lv_v27 := Keep.le lv_v27 le6
    replace v27 := bs_v27.keep lv_v27 (Nat.le_refl _)
    replace lv_v29 := Keep.le lv_v29 le6
    replace v29 := bs_v29.keep lv_v29 (Nat.le_refl _)
    replace lv_v30 := Keep.le lv_v30 le6
    replace v30 := bs_v30.keep lv_v30 (Nat.le_refl _)
    have lt_at6 := GHeap.lt_of_get at6
    replace h0 := base_h0.mono hle
    replace h1 := base_h1.mono hle
    clear hb2 c02 c12 c22 c32 c42 i12 i22 i32 i42 hm2 hi2
    have hb2 : Cat.At _ g2 0 c p := ⟨Mem.of_get at2, h0⟩
    obtain ⟨c02, c12, c22, c32, c42, i12, i22, i32, i42⟩ := hb2.get
    have hm2 : MemN _ _ _ _ _ := ⟨rfl, hb2.1⟩
    have hi2 := hb2.2
    clear i27
    have i27 := v27.inn
    clear i29
    have i29 := v29.ints
    clear i30
    have i30 := v30.inn
    refine .r0 rfl rfl (.fillR rfl sz_27_D rfl rfl rfl rfl (by assumption) (by first | rfl | exact Nat.le_of_ble_eq_true rfl | simp)) ?_
    rintro _ H7009 ⟨rfl, st7009, at7009⟩
    have nx_H7009 := st7009.nx
    replace hle := hle.st st7009 (fun k hk => ⟨by omega, trivial⟩)
    replace at2 := st7009.same _ _ ⟨by omega, trivial⟩ at2
    replace lv_v27 := Keep.st lv_v27 st7009 (fun k hb hk => ⟨by omega, trivial⟩)
    replace v27 := bs_v27.keep lv_v27 (Nat.le_refl _)
    replace lv_v29 := Keep.st lv_v29 st7009 (fun k hb hk => ⟨by omega, trivial⟩)
    replace v29 := bs_v29.keep lv_v29 (Nat.le_refl _)
    replace lv_v30 := Keep.st lv_v30 st7009 (fun k hb hk => ⟨by omega, trivial⟩)
    replace v30 := bs_v30.keep lv_v30 (Nat.le_refl _)
    have lt_at7009 := GHeap.lt_of_get at7009
    replace h0 := base_h0.mono hle
    replace h1 := base_h1.mono hle
    clear hb2 c02 c12 c22 c32 c42 i12 i22 i32 i42 hm2 hi2
    have hb2 : Cat.At _ g2 0 c p := ⟨Mem.of_get at2, h0⟩
    obtain ⟨c02, c12, c22, c32, c42, i12, i22, i32, i42⟩ := hb2.get
    have hm2 : MemN _ _ _ _ _ := ⟨rfl, hb2.1⟩
    have hi2 := hb2.2
    clear i27
    have i27 := v27.inn
    clear i29
    have i29 := v29.ints
    clear i30
    have i30 := v30.inn
    have mm7009 : MemN _ _ _ _ _ := ⟨rfl, Mem.of_get at7009⟩
    refine .m rfl rfl rfl (.assign rfl) ?_
    refine .nil ?_
    refine hK10 _ _ ?_
    refine .seq (fun K11 hK11 => ?_)
    refine .region ?_
    refine .m rfl rfl rfl (.loadM ag_25_LQuotientCategory rfl ⟨rfl, Mem.of_get at2⟩) ?_
    refine .call rfl rfl rfl rfl @Try.call9 rfl (toCategory_c) ?_
    rintro _ H34 ⟨le34, p34, rfl, v34⟩
    have nx_H34 := le34.1
    replace hle := hle.trans le34
    replace at2 := le34.2 _ _ at2
    replace at7009 := le34.2 _ _ at7009
    replace lv_v27 := Keep.le lv_v27 le34
    replace v27 := bs_v27.keep lv_v27 (Nat.le_refl _)
    replace lv_v29 := Keep.le lv_v29 le34
    replace v29 := bs_v29.keep lv_v29 (Nat.le_refl _)
    replace lv_v30 := Keep.le lv_v30 le34
    replace v30 := bs_v30.keep lv_v30 (Nat.le_refl _)
    have bs_v34 := v34
    have lv_v34 : Keep H7009.next H34 H34 := fun _ _ _ h => h
    replace h0 := base_h0.mono hle
    replace h1 := base_h1.mono hle
    clear hb2 c02 c12 c22 c32 c42 i12 i22 i32 i42 hm2 hi2
    have hb2 : Cat.At _ g2 0 c p := ⟨Mem.of_get at2, h0⟩
    obtain ⟨c02, c12, c22, c32, c42, i12, i22, i32, i42⟩ := hb2.get
    have hm2 : MemN _ _ _ _ _ := ⟨rfl, hb2.1⟩
    have hi2 := hb2.2
    clear i27
    have i27 := v27.inn
    clear i29
    have i29 := v29.ints
    clear i30
    have i30 := v30.inn
    clear mm7009
    have mm7009 : MemN _ _ _ _ _ := ⟨rfl, Mem.of_get at7009⟩
    have i34 := v34.inn
    refine .r rfl rfl rfl (.allocR rfl ze_27_E rfl) ?_
    rintro _ H8 ⟨g8, rfl, le8, ge8, at8⟩
    have nx_H8 := le8.1
    replace hle := hle.trans le8
    replace at2 := le8.2 _ _ at2
    replace at7009 := le8.2 _ _ at7009
    replace lv_v27 := Keep.le lv_v27 le8
    replace v27 := bs_v27.keep lv_v27 (Nat.le_refl _)
    replace lv_v29 := Keep.le lv_v29 le8
    replace v29 := bs_v29.keep lv_v29 (Nat.le_refl _)
    replace lv_v30 := Keep.le lv_v30 le8
    replace v30 := bs_v30.keep lv_v30 (Nat.le_refl _)
    replace lv_v34 := Keep.le lv_v34 le8
    replace v34 := bs_v34.keep lv_v34 (Nat.le_refl _)
    have lt_at8 := GHeap.lt_of_get at8
    replace h0 := base_h0.mono hle
    replace h1 := base_h1.mono hle
    clear hb2 c02 c12 c22 c32 c42 i12 i22 i32 i42 hm2 hi2
    have hb2 : Cat.At _ g2 0 c p := ⟨Mem.of_get at2, h0⟩
    obtain ⟨c02, c12, c22, c32, c42, i12, i22, i32, i42⟩ := hb2.get
    have hm2 : MemN _ _ _ _ _ := ⟨rfl, hb2.1⟩
    have hi2 := hb2.2
    clear i27
    have i27 := v27.inn
    clear i29
    have i29 := v29.ints
    clear i30
    have i30 := v30.inn
    clear mm7009
    have mm7009 : MemN _ _ _ _ _ := ⟨rfl, Mem.of_get at7009⟩
    clear i34
    have i34 := v34.inn
    refine .r0 rfl rfl (.fillR rfl sz_27_D rfl rfl rfl rfl (by assumption) (by first | rfl | exact Nat.le_of_ble_eq_true rfl | simp)) ?_
    rintro _ H8003 ⟨rfl, st8003, at8003⟩
    have nx_H8003 := st8003.nx
    replace hle := hle.st st8003 (fun k hk => ⟨by omega, trivial⟩)
    replace at2 := st8003.same _ _ ⟨by omega, trivial⟩ at2
    replace at7009 := st8003.same _ _ ⟨by omega, trivial⟩ at7009
    replace lv_v27 := Keep.st lv_v27 st8003 (fun k hb hk => ⟨by omega, trivial⟩)
    replace v27 := bs_v27.keep lv_v27 (Nat.le_refl _)
    replace lv_v29 := Keep.st lv_v29 st8003 (fun k hb hk => ⟨by omega, trivial⟩)
    replace v29 := bs_v29.keep lv_v29 (Nat.le_refl _)
    replace lv_v30 := Keep.st lv_v30 st8003 (fun k hb hk => ⟨by omega, trivial⟩)
    replace v30 := bs_v30.keep lv_v30 (Nat.le_refl _)
    replace lv_v34 := Keep.st lv_v34 st8003 (fun k hb hk => ⟨by omega, trivial⟩)
    replace v34 := bs_v34.keep lv_v34 (Nat.le_refl _)
    have lt_at8003 := GHeap.lt_of_get at8003
    replace h0 := base_h0.mono hle
    replace h1 := base_h1.mono hle
    clear hb2 c02 c12 c22 c32 c42 i12 i22 i32 i42 hm2 hi2
    have hb2 : Cat.At _ g2 0 c p := ⟨Mem.of_get at2, h0⟩
    obtain ⟨c02, c12, c22, c32, c42, i12, i22, i32, i42⟩ := hb2.get
    have hm2 : MemN _ _ _ _ _ := ⟨rfl, hb2.1⟩
    have hi2 := hb2.2
    clear i27
    have i27 := v27.inn
    clear i29
    have i29 := v29.ints
    clear i30
    have i30 := v30.inn
    clear mm7009
    have mm7009 : MemN _ _ _ _ _ := ⟨rfl, Mem.of_get at7009⟩
    clear i34
    have i34 := v34.inn
    have mm8003 : MemN _ _ _ _ _ := ⟨rfl, Mem.of_get at8003⟩
    refine .nil ?_
    refine hK11 _ _ ?_
    refine .seq (fun K12 hK12 => ?_)
    refine .region ?_
    refine .m rfl rfl rfl (.move rfl) ?_
    refine .call rfl rfl rfl rfl @Try.call10 rfl (toInt64S_c) ?_
    rintro _ H36 ⟨le36, g36, rfl, at36, ge36⟩
    have v36 : IntsAt _ H36 _ _ := ⟨g36, _, rfl, ge36, at36⟩
    have nx_H36 := le36.1
    replace hle := hle.trans le36
    replace at2 := le36.2 _ _ at2
    replace at7009 := le36.2 _ _ at7009
    replace at8003 := le36.2 _ _ at8003
    replace lv_v27 := Keep.le lv_v27 le36
    replace v27 := bs_v27.keep lv_v27 (Nat.le_refl _)
    replace lv_v29 := Keep.le lv_v29 le36
    replace v29 := bs_v29.keep lv_v29 (Nat.le_refl _)
    replace lv_v30 := Keep.le lv_v30 le36
    replace v30 := bs_v30.keep lv_v30 (Nat.le_refl _)
    replace lv_v34 := Keep.le lv_v34 le36
    replace v34 := bs_v34.keep lv_v34 (Nat.le_refl _)
    have bs_v36 := v36
    have lv_v36 : Keep H8003.next H36 H36 := fun _ _ _ h => h
    replace h0 := base_h0.mono hle
    replace h1 := base_h1.mono hle
    clear hb2 c02 c12 c22 c32 c42 i12 i22 i32 i42 hm2 hi2
    have hb2 : Cat.At _ g2 0 c p := ⟨Mem.of_get at2, h0⟩
    obtain ⟨c02, c12, c22, c32, c42, i12, i22, i32, i42⟩ := hb2.get
    have hm2 : MemN _ _ _ _ _ := ⟨rfl, hb2.1⟩
    have hi2 := hb2.2
    clear i27
    have i27 := v27.inn
    clear i29
    have i29 := v29.ints
    clear i30
    have i30 := v30.inn
    clear mm7009
    have mm7009 : MemN _ _ _ _ _ := ⟨rfl, Mem.of_get at7009⟩
    clear i34
    have i34 := v34.inn
    clear mm8003
    have mm8003 : MemN _ _ _ _ _ := ⟨rfl, Mem.of_get at8003⟩
    have i36 := v36.ints
    refine .m rfl rfl rfl (.assign rfl) ?_
    refine .nil ?_
    refine hK12 _ _ ?_
    refine .seq (fun K13 hK13 => ?_)
    refine .region ?_
    refine .m rfl rfl rfl (.loadM ag_27_D rfl ⟨rfl, Mem.of_get at8003⟩) ?_
    refine .m rfl rfl rfl (.move rfl) ?_
    refine .call rfl rfl rfl rfl @Try.call11 rfl (implQuotientCategory_c) ?_
    rintro _ H40 ⟨le40, p40, rfl, v40⟩
    have nx_H40 := le40.1
    replace hle := hle.trans le40
    replace at2 := le40.2 _ _ at2
    replace at7009 := le40.2 _ _ at7009
    replace at8003 := le40.2 _ _ at8003
    replace lv_v27 := Keep.le lv_v27 le40
    replace v27 := bs_v27.keep lv_v27 (Nat.le_refl _)
    replace lv_v29 := Keep.le lv_v29 le40
    replace v29 := bs_v29.keep lv_v29 (Nat.le_refl _)
    replace lv_v30 := Keep.le lv_v30 le40
    replace v30 := bs_v30.keep lv_v30 (Nat.le_refl _)
    replace lv_v34 := Keep.le lv_v34 le40
    replace v34 := bs_v34.keep lv_v34 (Nat.le_refl _)
    replace lv_v36 := Keep.le lv_v36 le40
    replace v36 := bs_v36.keep lv_v36 (Nat.le_refl _)
    have bs_v40 := v40
    have lv_v40 : Keep H36.next H40 H40 := fun _ _ _ h => h
    replace h0 := base_h0.mono hle
    replace h1 := base_h1.mono hle
    clear hb2 c02 c12 c22 c32 c42 i12 i22 i32 i42 hm2 hi2
    have hb2 : Cat.At _ g2 0 c p := ⟨Mem.of_get at2, h0⟩
    obtain ⟨c02, c12, c22, c32, c42, i12, i22, i32, i42⟩ := hb2.get
    have hm2 : MemN _ _ _ _ _ := ⟨rfl, hb2.1⟩
    have hi2 := hb2.2
    clear i27
    have i27 := v27.inn
    clear i29
    have i29 := v29.ints
    clear i30
    have i30 := v30.inn
    clear mm7009
    have mm7009 : MemN _ _ _ _ _ := ⟨rfl, Mem.of_get at7009⟩
    clear i34
    have i34 := v34.inn
    clear mm8003
    have mm8003 : MemN _ _ _ _ _ := ⟨rfl, Mem.of_get at8003⟩
    clear i36
    have i36 := v36.ints
    have i40 := v40.inn
    refine .m rfl rfl rfl (.move rfl) ?_
    refine .m rfl rfl rfl (.extract rfl rfl) ?_
    refine .m rfl rfl rfl (.extract rfl rfl) ?_
    refine .r rfl rfl rfl (.allocR rfl ze_27_E rfl) ?_
    rintro _ H10 ⟨g10, rfl, le10, ge10, at10⟩
    have nx_H10 := le10.1
    replace hle := hle.trans le10
    replace at2 := le10.2 _ _ at2
    replace at7009 := le10.2 _ _ at7009
    replace at8003 := le10.2 _ _ at8003
    replace lv_v27 := Keep.le lv_v27 le10
    replace v27 := bs_v27.keep lv_v27 (Nat.le_refl _)
    replace lv_v29 := Keep.le lv_v29 le10
    replace v29 := bs_v29.keep lv_v29 (Nat.le_refl _)
    replace lv_v30 := Keep.le lv_v30 le10
    replace v30 := bs_v30.keep lv_v30 (Nat.le_refl _)
    replace lv_v34 := Keep.le lv_v34 le10
    replace v34 := bs_v34.keep lv_v34 (Nat.le_refl _)
    replace lv_v36 := Keep.le lv_v36 le10
    replace v36 := bs_v36.keep lv_v36 (Nat.le_refl _)
    replace lv_v40 := Keep.le lv_v40 le10
    replace v40 := bs_v40.keep lv_v40 (Nat.le_refl _)
    have lt_at10 := GHeap.lt_of_get at10
    replace h0 := base_h0.mono hle
    replace h1 := base_h1.mono hle
    clear hb2 c02 c12 c22 c32 c42 i12 i22 i32 i42 hm2 hi2
    have hb2 : Cat.At _ g2 0 c p := ⟨Mem.of_get at2, h0⟩
    obtain ⟨c02, c12, c22, c32, c42, i12, i22, i32, i42⟩ := hb2.get
    have hm2 : MemN _ _ _ _ _ := ⟨rfl, hb2.1⟩
    have hi2 := hb2.2
    clear i27
    have i27 := v27.inn
    clear i29
    have i29 := v29.ints
    clear i30
    have i30 := v30.inn
    clear mm7009
    have mm7009 : MemN _ _ _ _ _ := ⟨rfl, Mem.of_get at7009⟩
    clear i34
    have i34 := v34.inn
    clear mm8003
    have mm8003 : MemN _ _ _ _ _ := ⟨rfl, Mem.of_get at8003⟩
    clear i36
    have i36 := v36.ints
    clear i40
    have i40 := v40.inn
    refine .r0 rfl rfl (.fillR rfl sz_27_D rfl rfl rfl rfl (by assumption) (by first | rfl | exact Nat.le_of_ble_eq_true rfl | simp)) ?_
    rintro _ H10007 ⟨rfl, st10007, at10007⟩
    have nx_H10007 := st10007.nx
    replace hle := hle.st st10007 (fun k hk => ⟨by omega, trivial⟩)
    replace at2 := st10007.same _ _ ⟨by omega, trivial⟩ at2
    replace at7009 := st10007.same _ _ ⟨by omega, trivial⟩ at7009
    replace at8003 := st10007.same _ _ ⟨by omega, trivial⟩ at8003
    replace lv_v27 := Keep.st lv_v27 st10007 (fun k hb hk => ⟨by omega, trivial⟩)
    replace v27 := bs_v27.keep lv_v27 (Nat.le_refl _)
    replace lv_v29 := Keep.st lv_v29 st10007 (fun k hb hk => ⟨by omega, trivial⟩)
    replace v29 := bs_v29.keep lv_v29 (Nat.le_refl _)
    replace lv_v30 := Keep.st lv_v30 st10007 (fun k hb hk => ⟨by omega, trivial⟩)
    replace v30 := bs_v30.keep lv_v30 (Nat.le_refl _)
    replace lv_v34 := Keep.st lv_v34 st10007 (fun k hb hk => ⟨by omega, trivial⟩)
    replace v34 := bs_v34.keep lv_v34 (Nat.le_refl _)
    replace lv_v36 := Keep.st lv_v36 st10007 (fun k hb hk => ⟨by omega, trivial⟩)
    replace v36 := bs_v36.keep lv_v36 (Nat.le_refl _)
    replace lv_v40 := Keep.st lv_v40 st10007 (fun k hb hk => ⟨by omega, trivial⟩)
    replace v40 := bs_v40.keep lv_v40 (Nat.le_refl _)
    have lt_at10007 := GHeap.lt_of_get at10007
    replace h0 := base_h0.mono hle
    replace h1 := base_h1.mono hle
    clear hb2 c02 c12 c22 c32 c42 i12 i22 i32 i42 hm2 hi2
    have hb2 : Cat.At _ g2 0 c p := ⟨Mem.of_get at2, h0⟩
    obtain ⟨c02, c12, c22, c32, c42, i12, i22, i32, i42⟩ := hb2.get
    have hm2 : MemN _ _ _ _ _ := ⟨rfl, hb2.1⟩
    have hi2 := hb2.2
    clear i27
    have i27 := v27.inn
    clear i29
    have i29 := v29.ints
    clear i30
    have i30 := v30.inn
    clear mm7009
    have mm7009 : MemN _ _ _ _ _ := ⟨rfl, Mem.of_get at7009⟩
    clear i34
    have i34 := v34.inn
    clear mm8003
    have mm8003 : MemN _ _ _ _ _ := ⟨rfl, Mem.of_get at8003⟩
    clear i36
    have i36 := v36.ints
    clear i40
    have i40 := v40.inn
    have mm10007 : MemN _ _ _ _ _ := ⟨rfl, Mem.of_get at10007⟩
    refine .m rfl rfl rfl (.assign rfl) ?_
    refine .nil ?_
    refine hK13 _ _ ?_
    refine .seq (fun K14 hK14 => ?_)
    refine .seq (fun K15 hK15 => ?_)
    refine .region ?_
    refine .m rfl rfl rfl (.loadM ag_27_D rfl ⟨rfl, Mem.of_get at10007⟩) ?_
    refine .m rfl rfl rfl (.loadM ag_27_D rfl ⟨rfl, Mem.of_get at7009⟩) ?_
    refine .callQ rfl rfl rfl rfl @Try.call12 rfl (eqCategory_c) ?_
    refine .m rfl rfl rfl (.not rfl) ?_
    refine .m rfl rfl rfl (.move rfl) ?_
    refine .split (fun h47 => ?_) (fun h47 => ?_)
    ·
     try simp only [sps] at h47
     refine .sg rfl rfl rfl rfl rfl ?_
     refine .sg rfl rfl rfl rfl rfl ?_
     refine .sg rfl rfl rfl rfl rfl ?_
     refine .m rfl rfl rfl (.pickT rfl rfl) ?_
     refine .nil ?_
     refine hK15 _ _ ?_
     refine .condT rfl ?_
     refine .seq (fun K16 hK16 => ?_)
     refine .region ?_
     refine .m rfl rfl rfl (.assign rfl) ?_
     refine .nil ?_
     refine hK16 _ _ ?_
     refine .ret ?_
     -- leaf e3
     refine hret _ _ ?_
     refine ⟨_, rfl, ?_⟩
     first
     | exact rfl
     | exact absurd trivial (by assumption)
     | contradiction
     | (exfalso; omega)
    ·
     try simp only [sps] at h47
     refine .mg rfl rfl rfl rfl rfl (.move rfl) ?_
     refine .mg rfl rfl rfl rfl rfl (.move rfl) ?_
     refine .mg rfl rfl rfl rfl rfl (.cmp rfl rfl rfl) ?_
     refine .m rfl rfl rfl (.pickF rfl rfl) ?_
     refine .nil ?_
     refine hK15 _ _ ?_
     refine .cond rfl (fun h51 => ?_) (fun h51 => ?_)
     ·
      try simp only [sps] at h51
      refine .seq (fun K17 hK17 => ?_)
      refine .region ?_
      refine .m rfl rfl rfl (.assign rfl) ?_
      refine .nil ?_
      refine hK17 _ _ ?_
      refine .ret ?_
      -- leaf e4
      refine hret _ _ ?_
      refine ⟨_, rfl, ?_⟩
      first
      | exact rfl
      | exact absurd trivial (by assumption)
      | contradiction
      | (exfalso; omega)
     ·
      try simp only [sps] at h51
      refine .skip ?_
      refine hK14 _ _ ?_
      refine .seq (fun K18 hK18 => ?_)
      refine .seq (fun K19 hK19 => ?_)
      refine .regionD mixed_orders_B (.q 0 (.q 1 (.c 2 1 (.c 3 0 (.q 4 (.done)))))) (by kernel_rfl) ?_
      refine .m rfl rfl rfl rfl (.refl _) (.loadM ag_27_D rfl ⟨rfl, Mem.of_get at8003⟩) ?_
      refine .m rfl rfl rfl rfl (.refl _) (.loadM ag_25_LQuotientCategory rfl ⟨rfl, Mem.of_get at2⟩) ?_
      refine .call1 rfl rfl rfl rfl rfl @Try.call9 rfl (toCategory_c) ?_
      rintro _ H54 ⟨le54, p54, rfl, v54⟩
      have hbl := le54
      refine ⟨hbl, ?_⟩
      have nx_H54 := le54.1
      replace hle := hle.trans le54
      replace at2 := le54.2 _ _ at2
      replace at7009 := le54.2 _ _ at7009
      replace at8003 := le54.2 _ _ at8003
      replace at10007 := le54.2 _ _ at10007
      replace lv_v27 := Keep.le lv_v27 le54
      replace v27 := bs_v27.keep lv_v27 (Nat.le_refl _)
      replace lv_v29 := Keep.le lv_v29 le54
      replace v29 := bs_v29.keep lv_v29 (Nat.le_refl _)
      replace lv_v30 := Keep.le lv_v30 le54
      replace v30 := bs_v30.keep lv_v30 (Nat.le_refl _)
      replace lv_v34 := Keep.le lv_v34 le54
      replace v34 := bs_v34.keep lv_v34 (Nat.le_refl _)
      replace lv_v36 := Keep.le lv_v36 le54
      replace v36 := bs_v36.keep lv_v36 (Nat.le_refl _)
      replace lv_v40 := Keep.le lv_v40 le54
      replace v40 := bs_v40.keep lv_v40 (Nat.le_refl _)
      have bs_v54 := v54
      have lv_v54 : Keep H10007.next H54 H54 := fun _ _ _ h => h
      replace h0 := base_h0.mono hle
      replace h1 := base_h1.mono hle
      clear hb2 c02 c12 c22 c32 c42 i12 i22 i32 i42 hm2 hi2
      have hb2 : Cat.At _ g2 0 c p := ⟨Mem.of_get at2, h0⟩
      obtain ⟨c02, c12, c22, c32, c42, i12, i22, i32, i42⟩ := hb2.get
      have hm2 : MemN _ _ _ _ _ := ⟨rfl, hb2.1⟩
      have hi2 := hb2.2
      clear i27
      have i27 := v27.inn
      clear i29
      have i29 := v29.ints
      clear i30
      have i30 := v30.inn
      clear mm7009
      have mm7009 : MemN _ _ _ _ _ := ⟨rfl, Mem.of_get at7009⟩
      clear i34
      have i34 := v34.inn
      clear mm8003
      have mm8003 : MemN _ _ _ _ _ := ⟨rfl, Mem.of_get at8003⟩
      clear i36
      have i36 := v36.ints
      clear i40
      have i40 := v40.inn
      clear mm10007
      have mm10007 : MemN _ _ _ _ _ := ⟨rfl, Mem.of_get at10007⟩
      have i54 := v54.inn
      refine .callQ0 rfl rfl rfl rfl rfl @Try.call12 rfl (eqCategory_c) ?_
      refine .m rfl rfl rfl rfl (.refl _) (.not rfl) ?_
      refine .done ?_
      refine hK19 _ _ ?_
      refine .cond rfl (fun h56 => ?_) (fun h56 => ?_)
      ·
       try simp only [sps] at h56
       refine .seq (fun K20 hK20 => ?_)
       refine .region ?_
       refine .m rfl rfl rfl (.assign rfl) ?_
       refine .nil ?_
       refine hK20 _ _ ?_
       refine .ret ?_
       -- leaf e5
       refine hret _ _ ?_
       refine ⟨_, rfl, ?_⟩
       first
       | exact rfl
       | exact absurd trivial (by assumption)
       | contradiction
       | (exfalso; omega)
      ·
       try simp only [sps] at h56
       refine .skip ?_
       refine hK18 _ _ ?_
       refine .seq (fun K21 hK21 => ?_)
       refine .seq (fun K22 hK22 => ?_)
       refine .region ?_
       refine .m rfl rfl rfl (.move rfl) ?_
       refine .m rfl rfl rfl (.move rfl) ?_
       refine .call rfl rfl rfl rfl @Try.call10 rfl (toInt64S_c) ?_
       rintro _ H59 ⟨le59, g59, rfl, at59, ge59⟩
       have v59 : IntsAt _ H59 _ _ := ⟨g59, _, rfl, ge59, at59⟩
       have nx_H59 := le59.1
       replace hle := hle.trans le59
       replace at2 := le59.2 _ _ at2
       replace at7009 := le59.2 _ _ at7009
       replace at8003 := le59.2 _ _ at8003
       replace at10007 := le59.2 _ _ at10007
       replace lv_v27 := Keep.le lv_v27 le59
       replace v27 := bs_v27.keep lv_v27 (Nat.le_refl _)
       replace lv_v29 := Keep.le lv_v29 le59
       replace v29 := bs_v29.keep lv_v29 (Nat.le_refl _)
       replace lv_v30 := Keep.le lv_v30 le59
       replace v30 := bs_v30.keep lv_v30 (Nat.le_refl _)
       replace lv_v34 := Keep.le lv_v34 le59
       replace v34 := bs_v34.keep lv_v34 (Nat.le_refl _)
       replace lv_v36 := Keep.le lv_v36 le59
       replace v36 := bs_v36.keep lv_v36 (Nat.le_refl _)
       replace lv_v40 := Keep.le lv_v40 le59
       replace v40 := bs_v40.keep lv_v40 (Nat.le_refl _)
       replace lv_v54 := Keep.le lv_v54 le59
       replace v54 := bs_v54.keep lv_v54 (Nat.le_refl _)
       have bs_v59 := v59
       have lv_v59 : Keep H54.next H59 H59 := fun _ _ _ h => h
       replace h0 := base_h0.mono hle
       replace h1 := base_h1.mono hle
       clear hb2 c02 c12 c22 c32 c42 i12 i22 i32 i42 hm2 hi2
       have hb2 : Cat.At _ g2 0 c p := ⟨Mem.of_get at2, h0⟩
       obtain ⟨c02, c12, c22, c32, c42, i12, i22, i32, i42⟩ := hb2.get
       have hm2 : MemN _ _ _ _ _ := ⟨rfl, hb2.1⟩
       have hi2 := hb2.2
       clear i27
       have i27 := v27.inn
       clear i29
       have i29 := v29.ints
       clear i30
       have i30 := v30.inn
       clear mm7009
       have mm7009 : MemN _ _ _ _ _ := ⟨rfl, Mem.of_get at7009⟩
       clear i34
       have i34 := v34.inn
       clear mm8003
       have mm8003 : MemN _ _ _ _ _ := ⟨rfl, Mem.of_get at8003⟩
       clear i36
       have i36 := v36.ints
       clear i40
       have i40 := v40.inn
       clear mm10007
       have mm10007 : MemN _ _ _ _ _ := ⟨rfl, Mem.of_get at10007⟩
       clear i54
       have i54 := v54.inn
       have i59 := v59.ints
       refine .callQ rfl rfl rfl rfl @Try.call13 rfl (eqInt64S_c) ?_
       refine .m rfl rfl rfl (.not rfl) ?_
       refine .nil ?_
       refine hK22 _ _ ?_
       refine .cond rfl (fun h61 => ?_) (fun h61 => ?_)
       ·
        try simp only [sps] at h61
        refine .seq (fun K23 hK23 => ?_)
        refine .region ?_
        refine .m rfl rfl rfl (.assign rfl) ?_
        refine .nil ?_
        refine hK23 _ _ ?_
        refine .ret ?_
        -- leaf e6
        refine hret _ _ ?_
        refine ⟨_, rfl, ?_⟩
        first
        | exact rfl
        | exact absurd trivial (by assumption)
        | contradiction
        | (exfalso; omega)
       ·
        try simp only [sps] at h61
        refine .skip ?_
        refine hK21 _ _ ?_
        refine .seq (fun K24 hK24 => ?_)
        refine .region ?_
        refine .m rfl rfl rfl (.assign rfl) ?_
        refine .nil ?_
        refine hK24 _ _ ?_
        refine .seq (fun K25 hK25 => ?_)
        refine .region ?_
        refine .m rfl rfl rfl (.loadM ag_27_D rfl ⟨rfl, Mem.of_get at8003⟩) ?_
        refine .m rfl rfl rfl (.move rfl) ?_
        have w_v34 := CatW.of_at bs_v34 lv_v34
        refine .call rfl rfl rfl rfl @Try.call14 rfl (markCategory_c) ?_
        rintro _ H64 ⟨rfl, mk64⟩
        have sm64 := mk64.stm
        have nx_H64 := sm64.nx
        replace hle := StM.le_left hle sm64 (by omega)
        replace at2 := sm64.same _ _ (by omega) at2
        replace at7009 := sm64.same _ _ (by omega) at7009
        replace at8003 := sm64.same _ _ (by omega) at8003
        replace at10007 := sm64.same _ _ (by omega) at10007
        replace lv_v27 := Keep.stM lv_v27 sm64 (fun k hb hk => by omega)
        replace v27 := bs_v27.keep lv_v27 (Nat.le_refl _)
        replace lv_v29 := Keep.stM lv_v29 sm64 (fun k hb hk => by omega)
        replace v29 := bs_v29.keep lv_v29 (Nat.le_refl _)
        replace lv_v30 := Keep.stM lv_v30 sm64 (fun k hb hk => by omega)
        replace v30 := bs_v30.keep lv_v30 (Nat.le_refl _)
        replace lv_v36 := Keep.stM lv_v36 sm64 (fun k hb hk => by omega)
        replace v36 := bs_v36.keep lv_v36 (Nat.le_refl _)
        replace lv_v40 := Keep.stM lv_v40 sm64 (fun k hb hk => by omega)
        replace v40 := bs_v40.keep lv_v40 (Nat.le_refl _)
        replace lv_v54 := Keep.stM lv_v54 sm64 (fun k hb hk => by omega)
        replace v54 := bs_v54.keep lv_v54 (Nat.le_refl _)
        replace lv_v59 := Keep.stM lv_v59 sm64 (fun k hb hk => by omega)
        replace v59 := bs_v59.keep lv_v59 (Nat.le_refl _)
        replace h0 := base_h0.mono hle
        replace h1 := base_h1.mono hle
        clear hb2 c02 c12 c22 c32 c42 i12 i22 i32 i42 hm2 hi2
        have hb2 : Cat.At _ g2 0 c p := ⟨Mem.of_get at2, h0⟩
        obtain ⟨c02, c12, c22, c32, c42, i12, i22, i32, i42⟩ := hb2.get
        have hm2 : MemN _ _ _ _ _ := ⟨rfl, hb2.1⟩
        have hi2 := hb2.2
        clear i27
        have i27 := v27.inn
        clear i29
        have i29 := v29.ints
        clear i30
        have i30 := v30.inn
        clear mm7009
        have mm7009 : MemN _ _ _ _ _ := ⟨rfl, Mem.of_get at7009⟩
        clear mm8003
        have mm8003 : MemN _ _ _ _ _ := ⟨rfl, Mem.of_get at8003⟩
        clear i36
        have i36 := v36.ints
        clear i40
        have i40 := v40.inn
        clear mm10007
        have mm10007 : MemN _ _ _ _ _ := ⟨rfl, Mem.of_get at10007⟩
        clear i54
        have i54 := v54.inn
        clear i59
        have i59 := v59.ints
        refine .m rfl rfl rfl (.assign rfl) ?_
        refine .nil ?_
        refine hK25 _ _ ?_
        refine .seq (fun K26 hK26 => ?_)
        refine .region ?_
        refine .m rfl rfl rfl (.move rfl) ?_
        refine .m rfl rfl rfl (.move rfl) ?_
        have w_v36 := IntsW.of_at bs_v36 lv_v36
        refine .call rfl rfl rfl rfl @Try.call15 rfl (markInt64S_c) ?_
        rintro _ H67 ⟨rfl, mk67⟩
        have sm67 := mk67.stm
        have nx_H67 := sm67.nx
        replace hle := StM.le_left hle sm67 (by omega)
        replace at2 := sm67.same _ _ (by omega) at2
        replace at7009 := sm67.same _ _ (by omega) at7009
        replace at8003 := sm67.same _ _ (by omega) at8003
        replace at10007 := sm67.same _ _ (by omega) at10007
        replace lv_v27 := Keep.stM lv_v27 sm67 (fun k hb hk => by omega)
        replace v27 := bs_v27.keep lv_v27 (Nat.le_refl _)
        replace lv_v29 := Keep.stM lv_v29 sm67 (fun k hb hk => by omega)
        replace v29 := bs_v29.keep lv_v29 (Nat.le_refl _)
        replace lv_v30 := Keep.stM lv_v30 sm67 (fun k hb hk => by omega)
        replace v30 := bs_v30.keep lv_v30 (Nat.le_refl _)
        replace lv_v40 := Keep.stM lv_v40 sm67 (fun k hb hk => by omega)
        replace v40 := bs_v40.keep lv_v40 (Nat.le_refl _)
        replace lv_v54 := Keep.stM lv_v54 sm67 (fun k hb hk => by omega)
        replace v54 := bs_v54.keep lv_v54 (Nat.le_refl _)
        replace lv_v59 := Keep.stM lv_v59 sm67 (fun k hb hk => by omega)
        replace v59 := bs_v59.keep lv_v59 (Nat.le_refl _)
        replace h0 := base_h0.mono hle
        replace h1 := base_h1.mono hle
        clear hb2 c02 c12 c22 c32 c42 i12 i22 i32 i42 hm2 hi2
        have hb2 : Cat.At _ g2 0 c p := ⟨Mem.of_get at2, h0⟩
        obtain ⟨c02, c12, c22, c32, c42, i12, i22, i32, i42⟩ := hb2.get
        have hm2 : MemN _ _ _ _ _ := ⟨rfl, hb2.1⟩
        have hi2 := hb2.2
        clear i27
        have i27 := v27.inn
        clear i29
        have i29 := v29.ints
        clear i30
        have i30 := v30.inn
        clear mm7009
        have mm7009 : MemN _ _ _ _ _ := ⟨rfl, Mem.of_get at7009⟩
        clear mm8003
        have mm8003 : MemN _ _ _ _ _ := ⟨rfl, Mem.of_get at8003⟩
        clear i40
        have i40 := v40.inn
        clear mm10007
        have mm10007 : MemN _ _ _ _ _ := ⟨rfl, Mem.of_get at10007⟩
        clear i54
        have i54 := v54.inn
        clear i59
        have i59 := v59.ints
        refine .m rfl rfl rfl (.assign rfl) ?_
        refine .nil ?_
        refine hK26 _ _ ?_
        refine .seq (fun K27 hK27 => ?_)
        refine .seq (fun K28 hK28 => ?_)
        refine .region ?_
        refine .m rfl rfl rfl (.move rfl) ?_
        refine .m rfl rfl rfl (.cmp rfl rfl rfl) ?_
        refine .m rfl rfl rfl (.move rfl) ?_
        refine .split (fun h70 => ?_) (fun h70 => ?_)
        ·
         try simp only [sps] at h70
         refine .sg rfl rfl rfl rfl rfl ?_
         refine .sg rfl rfl rfl rfl rfl ?_
         refine .sg rfl rfl rfl rfl rfl ?_
         refine .sg rfl rfl rfl rfl rfl ?_
         refine .m rfl rfl rfl (.pickT rfl rfl) ?_
         refine .m rfl rfl rfl (.move rfl) ?_
         refine .sg rfl rfl rfl rfl rfl ?_
         refine .sg rfl rfl rfl rfl rfl ?_
         refine .sg rfl rfl rfl rfl rfl ?_
         refine .m rfl rfl rfl (.pickT rfl rfl) ?_
         refine .nil ?_
         refine hK28 _ _ ?_
         refine .condT rfl ?_
         refine .seq (fun K29 hK29 => ?_)
         refine .region ?_
         refine .m rfl rfl rfl (.assign rfl) ?_
         refine .nil ?_
         refine hK29 _ _ ?_
         refine .ret ?_
         -- leaf e7
         refine hret _ _ ?_
         refine ⟨_, rfl, ?_⟩
         first
         | exact rfl
         | exact absurd trivial (by assumption)
         | contradiction
         | (exfalso; omega)
        ·
         try simp only [sps] at h70
         refine .mg rfl rfl rfl rfl rfl (.loadM ag_27_D rfl ⟨rfl, Mem.of_get at10007⟩) ?_
         refine .mg rfl rfl rfl rfl rfl (.loadM ag_27_D rfl ⟨rfl, Mem.of_get at7009⟩) ?_
         refine .callQg rfl rfl rfl rfl rfl rfl @Try.call12 rfl (eqCategory_c) ?_
         refine .mg rfl rfl rfl rfl rfl (.not rfl) ?_
         refine .m rfl rfl rfl (.pickF rfl rfl) ?_
         refine .m rfl rfl rfl (.move rfl) ?_
         refine .split (fun h76 => ?_) (fun h76 => ?_)
         ·
          try simp only [sps] at h76
          refine .sg rfl rfl rfl rfl rfl ?_
          refine .sg rfl rfl rfl rfl rfl ?_
          refine .sg rfl rfl rfl rfl rfl ?_
          refine .m rfl rfl rfl (.pickT rfl rfl) ?_
          refine .nil ?_
          refine hK28 _ _ ?_
          refine .condT rfl ?_
          refine .seq (fun K30 hK30 => ?_)
          refine .region ?_
          refine .m rfl rfl rfl (.assign rfl) ?_
          refine .nil ?_
          refine hK30 _ _ ?_
          refine .ret ?_
          -- leaf e8
          refine hret _ _ ?_
          refine ⟨_, rfl, ?_⟩
          first
          | exact rfl
          | exact absurd trivial (by assumption)
          | contradiction
          | (exfalso; omega)
         ·
          try simp only [sps] at h76
          refine .mg rfl rfl rfl rfl rfl (.move rfl) ?_
          refine .mg rfl rfl rfl rfl rfl (.move rfl) ?_
          refine .mg rfl rfl rfl rfl rfl (.cmp rfl rfl rfl) ?_
          refine .m rfl rfl rfl (.pickF rfl rfl) ?_
          refine .nil ?_
          refine hK28 _ _ ?_
          refine .cond rfl (fun h80 => ?_) (fun h80 => ?_)
          ·
           try simp only [sps] at h80
           refine .seq (fun K31 hK31 => ?_)
           refine .region ?_
           refine .m rfl rfl rfl (.assign rfl) ?_
           refine .nil ?_
           refine hK31 _ _ ?_
           refine .ret ?_
           -- leaf e9
           refine hret _ _ ?_
           refine ⟨_, rfl, ?_⟩
           first
           | exact rfl
           | exact absurd trivial (by assumption)
           | contradiction
           | (exfalso; omega)
          ·
           try simp only [sps] at h80
           refine .skip ?_
           refine hK27 _ _ ?_
           refine .seq (fun K32 hK32 => ?_)
           refine .region ?_
           refine .m rfl rfl rfl (.assign rfl) ?_
           refine .nil ?_
           refine hK32 _ _ ?_
           refine .seq (fun K33 hK33 => ?_)
           refine .region ?_
           refine .m rfl rfl rfl (.loadM ag_27_D rfl ⟨rfl, Mem.of_get at10007⟩) ?_
           refine .m rfl rfl rfl (.move rfl) ?_
           have w_v40 := CatW.of_r bs_v40 lv_v40
           refine .call rfl rfl rfl rfl @Try.call14 rfl (markCategory_c) ?_
           rintro _ H83 ⟨rfl, mk83⟩
           have sm83 := mk83.stm
           have nx_H83 := sm83.nx
           replace hle := StM.le_left hle sm83 (by omega)
           replace at2 := sm83.same _ _ (by omega) at2
           replace at7009 := sm83.same _ _ (by omega) at7009
           replace at8003 := sm83.same _ _ (by omega) at8003
           replace at10007 := sm83.same _ _ (by omega) at10007
           replace lv_v27 := Keep.stM lv_v27 sm83 (fun k hb hk => by omega)
           replace v27 := bs_v27.keep lv_v27 (Nat.le_refl _)
           replace lv_v29 := Keep.stM lv_v29 sm83 (fun k hb hk => by omega)
           replace v29 := bs_v29.keep lv_v29 (Nat.le_refl _)
           replace lv_v30 := Keep.stM lv_v30 sm83 (fun k hb hk => by omega)
           replace v30 := bs_v30.keep lv_v30 (Nat.le_refl _)
           replace lv_v54 := Keep.stM lv_v54 sm83 (fun k hb hk => by omega)
           replace v54 := bs_v54.keep lv_v54 (Nat.le_refl _)
           replace lv_v59 := Keep.stM lv_v59 sm83 (fun k hb hk => by omega)
           replace v59 := bs_v59.keep lv_v59 (Nat.le_refl _)
           replace h0 := base_h0.mono hle
           replace h1 := base_h1.mono hle
           clear hb2 c02 c12 c22 c32 c42 i12 i22 i32 i42 hm2 hi2
           have hb2 : Cat.At _ g2 0 c p := ⟨Mem.of_get at2, h0⟩
           obtain ⟨c02, c12, c22, c32, c42, i12, i22, i32, i42⟩ := hb2.get
           have hm2 : MemN _ _ _ _ _ := ⟨rfl, hb2.1⟩
           have hi2 := hb2.2
           clear i27
           have i27 := v27.inn
           clear i29
           have i29 := v29.ints
           clear i30
           have i30 := v30.inn
           clear mm7009
           have mm7009 : MemN _ _ _ _ _ := ⟨rfl, Mem.of_get at7009⟩
           clear mm8003
           have mm8003 : MemN _ _ _ _ _ := ⟨rfl, Mem.of_get at8003⟩
           clear mm10007
           have mm10007 : MemN _ _ _ _ _ := ⟨rfl, Mem.of_get at10007⟩
           clear i54
           have i54 := v54.inn
           clear i59
           have i59 := v59.ints
           have hd83 := mk83.held (v40.2)
           have wd83 := w_v40.stm sm83
           have bs_hd83 := hd83
           have lv_hd83 : Keep H36.next H83 H83 := fun _ _ _ h => h
           have bs_wd83 := wd83
           have lv_wd83 : Keep H36.next H83 H83 := fun _ _ _ h => h
           refine .m rfl rfl rfl (.assign rfl) ?_
           refine .nil ?_
           refine hK33 _ _ ?_
           refine .seq (fun K34 hK34 => ?_)
           refine .region ?_
           refine .m rfl rfl rfl (.assign rfl) ?_
           refine .nil ?_
           refine hK34 _ _ ?_
           refine .seq (fun K35 hK35 => ?_)
           refine .region ?_
           refine .m rfl rfl rfl (.loadM ag_27_D rfl ⟨rfl, Mem.of_get at10007⟩) ?_
           refine .m rfl rfl rfl (.move rfl) ?_
           refine .callQ rfl rfl rfl rfl @Try.call16 rfl (heldCategory_c) ?_
           refine .m rfl rfl rfl (.assign rfl) ?_
           refine .nil ?_
           refine hK35 _ _ ?_
           refine .seq (fun K36 hK36 => ?_)
           refine .seq (fun K37 hK37 => ?_)
           refine .region ?_
           refine .m rfl rfl rfl (.move rfl) ?_
           refine .m rfl rfl rfl (.cmp rfl rfl rfl) ?_
           refine .nil ?_
           refine hK37 _ _ ?_
           refine .cond rfl (fun h88 => ?_) (fun h88 => ?_)
           ·
            try simp only [sps] at h88
            refine .seq (fun K38 hK38 => ?_)
            refine .region ?_
            refine .m rfl rfl rfl (.assign rfl) ?_
            refine .nil ?_
            refine hK38 _ _ ?_
            refine .ret ?_
            -- leaf e10
            refine hret _ _ ?_
            refine ⟨_, rfl, ?_⟩
            first
            | exact rfl
            | exact absurd trivial (by assumption)
            | contradiction
            | (exfalso; omega)
           ·
            try simp only [sps] at h88
            refine .skip ?_
            refine hK36 _ _ ?_
            refine .seq (fun K39 hK39 => ?_)
            refine .seq (fun K40 hK40 => ?_)
            refine .region ?_
            refine .m rfl rfl rfl (.move rfl) ?_
            refine .m rfl rfl rfl (.move rfl) ?_
            refine .m rfl rfl rfl (.cmp rfl rfl rfl) ?_
            refine .nil ?_
            refine hK40 _ _ ?_
            refine .cond rfl (fun h91 => ?_) (fun h91 => ?_)
            ·
             try simp only [sps] at h91
             refine .seq (fun K41 hK41 => ?_)
             refine .region ?_
             refine .m rfl rfl rfl (.assign rfl) ?_
             refine .nil ?_
             refine hK41 _ _ ?_
             refine .ret ?_
             -- leaf e11
             refine hret _ _ ?_
             refine ⟨_, rfl, ?_⟩
             first
             | exact rfl
             | exact absurd trivial (by assumption)
             | contradiction
             | (exfalso; omega)
            ·
             try simp only [sps] at h91
             refine .skip ?_
             refine hK39 _ _ ?_
             refine .seq (fun K42 hK42 => ?_)
             refine .region ?_
             refine .m rfl rfl rfl (.loadM ag_25_LQuotientCategory rfl ⟨rfl, Mem.of_get at2⟩) ?_
             refine .call rfl rfl rfl rfl @Try.call9 rfl (toCategory_c) ?_
             rintro _ H94 ⟨le94, p94, rfl, v94⟩
             have nx_H94 := le94.1
             replace hle := hle.trans le94
             replace at2 := le94.2 _ _ at2
             replace at7009 := le94.2 _ _ at7009
             replace at8003 := le94.2 _ _ at8003
             replace at10007 := le94.2 _ _ at10007
             replace lv_v27 := Keep.le lv_v27 le94
             replace v27 := bs_v27.keep lv_v27 (Nat.le_refl _)
             replace lv_v29 := Keep.le lv_v29 le94
             replace v29 := bs_v29.keep lv_v29 (Nat.le_refl _)
             replace lv_v30 := Keep.le lv_v30 le94
             replace v30 := bs_v30.keep lv_v30 (Nat.le_refl _)
             replace lv_v54 := Keep.le lv_v54 le94
             replace v54 := bs_v54.keep lv_v54 (Nat.le_refl _)
             replace lv_v59 := Keep.le lv_v59 le94
             replace v59 := bs_v59.keep lv_v59 (Nat.le_refl _)
             replace lv_hd83 := Keep.le lv_hd83 le94
             replace hd83 := bs_hd83.keep lv_hd83 (Nat.le_refl _)
             replace lv_wd83 := Keep.le lv_wd83 le94
             replace wd83 := bs_wd83.keep lv_wd83 (Nat.le_refl _)
             have bs_v94 := v94
             have lv_v94 : Keep H83.next H94 H94 := fun _ _ _ h => h
             replace h0 := base_h0.mono hle
             replace h1 := base_h1.mono hle
             clear hb2 c02 c12 c22 c32 c42 i12 i22 i32 i42 hm2 hi2
             have hb2 : Cat.At _ g2 0 c p := ⟨Mem.of_get at2, h0⟩
             obtain ⟨c02, c12, c22, c32, c42, i12, i22, i32, i42⟩ := hb2.get
             have hm2 : MemN _ _ _ _ _ := ⟨rfl, hb2.1⟩
             have hi2 := hb2.2
             clear i27
             have i27 := v27.inn
             clear i29
             have i29 := v29.ints
             clear i30
             have i30 := v30.inn
             clear mm7009
             have mm7009 : MemN _ _ _ _ _ := ⟨rfl, Mem.of_get at7009⟩
             clear mm8003
             have mm8003 : MemN _ _ _ _ _ := ⟨rfl, Mem.of_get at8003⟩
             clear mm10007
             have mm10007 : MemN _ _ _ _ _ := ⟨rfl, Mem.of_get at10007⟩
             clear i54
             have i54 := v54.inn
             clear i59
             have i59 := v59.ints
             have i94 := v94.inn
             refine .m rfl rfl rfl (.move rfl) ?_
             refine .call rfl rfl rfl rfl @Try.call10 rfl (toInt64S_c) ?_
             rintro _ H96 ⟨le96, g96, rfl, at96, ge96⟩
             have v96 : IntsAt _ H96 _ _ := ⟨g96, _, rfl, ge96, at96⟩
             have nx_H96 := le96.1
             replace hle := hle.trans le96
             replace at2 := le96.2 _ _ at2
             replace at7009 := le96.2 _ _ at7009
             replace at8003 := le96.2 _ _ at8003
             replace at10007 := le96.2 _ _ at10007
             replace lv_v27 := Keep.le lv_v27 le96
             replace v27 := bs_v27.keep lv_v27 (Nat.le_refl _)
             replace lv_v29 := Keep.le lv_v29 le96
             replace v29 := bs_v29.keep lv_v29 (Nat.le_refl _)
             replace lv_v30 := Keep.le lv_v30 le96
             replace v30 := bs_v30.keep lv_v30 (Nat.le_refl _)
             replace lv_v54 := Keep.le lv_v54 le96
             replace v54 := bs_v54.keep lv_v54 (Nat.le_refl _)
             replace lv_v59 := Keep.le lv_v59 le96
             replace v59 := bs_v59.keep lv_v59 (Nat.le_refl _)
             replace lv_hd83 := Keep.le lv_hd83 le96
             replace hd83 := bs_hd83.keep lv_hd83 (Nat.le_refl _)
             replace lv_wd83 := Keep.le lv_wd83 le96
             replace wd83 := bs_wd83.keep lv_wd83 (Nat.le_refl _)
             replace lv_v94 := Keep.le lv_v94 le96
             replace v94 := bs_v94.keep lv_v94 (Nat.le_refl _)
             have bs_v96 := v96
             have lv_v96 : Keep H94.next H96 H96 := fun _ _ _ h => h
             replace h0 := base_h0.mono hle
             replace h1 := base_h1.mono hle
             clear hb2 c02 c12 c22 c32 c42 i12 i22 i32 i42 hm2 hi2
             have hb2 : Cat.At _ g2 0 c p := ⟨Mem.of_get at2, h0⟩
             obtain ⟨c02, c12, c22, c32, c42, i12, i22, i32, i42⟩ := hb2.get
             have hm2 : MemN _ _ _ _ _ := ⟨rfl, hb2.1⟩
             have hi2 := hb2.2
             clear i27
             have i27 := v27.inn
             clear i29
             have i29 := v29.ints
             clear i30
             have i30 := v30.inn
             clear mm7009
             have mm7009 : MemN _ _ _ _ _ := ⟨rfl, Mem.of_get at7009⟩
             clear mm8003
             have mm8003 : MemN _ _ _ _ _ := ⟨rfl, Mem.of_get at8003⟩
             clear mm10007
             have mm10007 : MemN _ _ _ _ _ := ⟨rfl, Mem.of_get at10007⟩
             clear i54
             have i54 := v54.inn
             clear i59
             have i59 := v59.ints
             clear i94
             have i94 := v94.inn
             have i96 := v96.ints
             refine .call rfl rfl rfl rfl @Try.call11 rfl (implQuotientCategory_c) ?_
             rintro _ H97 ⟨le97, p97, rfl, v97⟩
             have nx_H97 := le97.1
             replace hle := hle.trans le97
             replace at2 := le97.2 _ _ at2
             replace at7009 := le97.2 _ _ at7009
             replace at8003 := le97.2 _ _ at8003
             replace at10007 := le97.2 _ _ at10007
             replace lv_v27 := Keep.le lv_v27 le97
             replace v27 := bs_v27.keep lv_v27 (Nat.le_refl _)
             replace lv_v29 := Keep.le lv_v29 le97
             replace v29 := bs_v29.keep lv_v29 (Nat.le_refl _)
             replace lv_v30 := Keep.le lv_v30 le97
             replace v30 := bs_v30.keep lv_v30 (Nat.le_refl _)
             replace lv_v54 := Keep.le lv_v54 le97
             replace v54 := bs_v54.keep lv_v54 (Nat.le_refl _)
             replace lv_v59 := Keep.le lv_v59 le97
             replace v59 := bs_v59.keep lv_v59 (Nat.le_refl _)
             replace lv_hd83 := Keep.le lv_hd83 le97
             replace hd83 := bs_hd83.keep lv_hd83 (Nat.le_refl _)
             replace lv_wd83 := Keep.le lv_wd83 le97
             replace wd83 := bs_wd83.keep lv_wd83 (Nat.le_refl _)
             replace lv_v94 := Keep.le lv_v94 le97
             replace v94 := bs_v94.keep lv_v94 (Nat.le_refl _)
             replace lv_v96 := Keep.le lv_v96 le97
             replace v96 := bs_v96.keep lv_v96 (Nat.le_refl _)
             have bs_v97 := v97
             have lv_v97 : Keep H96.next H97 H97 := fun _ _ _ h => h
             replace h0 := base_h0.mono hle
             replace h1 := base_h1.mono hle
             clear hb2 c02 c12 c22 c32 c42 i12 i22 i32 i42 hm2 hi2
             have hb2 : Cat.At _ g2 0 c p := ⟨Mem.of_get at2, h0⟩
             obtain ⟨c02, c12, c22, c32, c42, i12, i22, i32, i42⟩ := hb2.get
             have hm2 : MemN _ _ _ _ _ := ⟨rfl, hb2.1⟩
             have hi2 := hb2.2
             clear i27
             have i27 := v27.inn
             clear i29
             have i29 := v29.ints
             clear i30
             have i30 := v30.inn
             clear mm7009
             have mm7009 : MemN _ _ _ _ _ := ⟨rfl, Mem.of_get at7009⟩
             clear mm8003
             have mm8003 : MemN _ _ _ _ _ := ⟨rfl, Mem.of_get at8003⟩
             clear mm10007
             have mm10007 : MemN _ _ _ _ _ := ⟨rfl, Mem.of_get at10007⟩
             clear i54
             have i54 := v54.inn
             clear i59
             have i59 := v59.ints
             clear i94
             have i94 := v94.inn
             clear i96
             have i96 := v96.ints
             have i97 := v97.inn
             refine .m rfl rfl rfl (.move rfl) ?_
             refine .m rfl rfl rfl (.extract rfl rfl) ?_
             refine .m rfl rfl rfl (.extract rfl rfl) ?_
             refine .r rfl rfl rfl (.allocR rfl ze_27_E rfl) ?_
             rintro _ H15 ⟨g15, rfl, le15, ge15, at15⟩
             have nx_H15 := le15.1
             replace hle := hle.trans le15
             replace at2 := le15.2 _ _ at2
             replace at7009 := le15.2 _ _ at7009
             replace at8003 := le15.2 _ _ at8003
             replace at10007 := le15.2 _ _ at10007
             replace lv_v27 := Keep.le lv_v27 le15
             replace v27 := bs_v27.keep lv_v27 (Nat.le_refl _)
             replace lv_v29 := Keep.le lv_v29 le15
             replace v29 := bs_v29.keep lv_v29 (Nat.le_refl _)
             replace lv_v30 := Keep.le lv_v30 le15
             replace v30 := bs_v30.keep lv_v30 (Nat.le_refl _)
             replace lv_v54 := Keep.le lv_v54 le15
             replace v54 := bs_v54.keep lv_v54 (Nat.le_refl _)
             replace lv_v59 := Keep.le lv_v59 le15
             replace v59 := bs_v59.keep lv_v59 (Nat.le_refl _)
             replace lv_hd83 := Keep.le lv_hd83 le15
             replace hd83 := bs_hd83.keep lv_hd83 (Nat.le_refl _)
             replace lv_wd83 := Keep.le lv_wd83 le15
             replace wd83 := bs_wd83.keep lv_wd83 (Nat.le_refl _)
             replace lv_v94 := Keep.le lv_v94 le15
             replace v94 := bs_v94.keep lv_v94 (Nat.le_refl _)
             replace lv_v96 := Keep.le lv_v96 le15
             replace v96 := bs_v96.keep lv_v96 (Nat.le_refl _)
             replace lv_v97 := Keep.le lv_v97 le15
             replace v97 := bs_v97.keep lv_v97 (Nat.le_refl _)
             have lt_at15 := GHeap.lt_of_get at15
             replace h0 := base_h0.mono hle
             replace h1 := base_h1.mono hle
             clear hb2 c02 c12 c22 c32 c42 i12 i22 i32 i42 hm2 hi2
             have hb2 : Cat.At _ g2 0 c p := ⟨Mem.of_get at2, h0⟩
             obtain ⟨c02, c12, c22, c32, c42, i12, i22, i32, i42⟩ := hb2.get
             have hm2 : MemN _ _ _ _ _ := ⟨rfl, hb2.1⟩
             have hi2 := hb2.2
             clear i27
             have i27 := v27.inn
             clear i29
             have i29 := v29.ints
             clear i30
             have i30 := v30.inn
             clear mm7009
             have mm7009 : MemN _ _ _ _ _ := ⟨rfl, Mem.of_get at7009⟩
             clear mm8003
             have mm8003 : MemN _ _ _ _ _ := ⟨rfl, Mem.of_get at8003⟩
             clear mm10007
             have mm10007 : MemN _ _ _ _ _ := ⟨rfl, Mem.of_get at10007⟩
             clear i54
             have i54 := v54.inn
             clear i59
             have i59 := v59.ints
             clear i94
             have i94 := v94.inn
             clear i96
             have i96 := v96.ints
             clear i97
             have i97 := v97.inn
             refine .r0 rfl rfl (.fillR rfl sz_27_D rfl rfl rfl rfl (by assumption) (by first | rfl | exact Nat.le_of_ble_eq_true rfl | simp)) ?_
             rintro _ H30009 ⟨rfl, st30009, at30009⟩
             have nx_H30009 := st30009.nx
             replace hle := hle.st st30009 (fun k hk => ⟨by omega, trivial⟩)
             replace at2 := st30009.same _ _ ⟨by omega, trivial⟩ at2
             replace at7009 := st30009.same _ _ ⟨by omega, trivial⟩ at7009
             replace at8003 := st30009.same _ _ ⟨by omega, trivial⟩ at8003
             replace at10007 := st30009.same _ _ ⟨by omega, trivial⟩ at10007
             replace lv_v27 := Keep.st lv_v27 st30009 (fun k hb hk => ⟨by omega, trivial⟩)
             replace v27 := bs_v27.keep lv_v27 (Nat.le_refl _)
             replace lv_v29 := Keep.st lv_v29 st30009 (fun k hb hk => ⟨by omega, trivial⟩)
             replace v29 := bs_v29.keep lv_v29 (Nat.le_refl _)
             replace lv_v30 := Keep.st lv_v30 st30009 (fun k hb hk => ⟨by omega, trivial⟩)
             replace v30 := bs_v30.keep lv_v30 (Nat.le_refl _)
             replace lv_v54 := Keep.st lv_v54 st30009 (fun k hb hk => ⟨by omega, trivial⟩)
             replace v54 := bs_v54.keep lv_v54 (Nat.le_refl _)
             replace lv_v59 := Keep.st lv_v59 st30009 (fun k hb hk => ⟨by omega, trivial⟩)
             replace v59 := bs_v59.keep lv_v59 (Nat.le_refl _)
             replace lv_hd83 := Keep.st lv_hd83 st30009 (fun k hb hk => ⟨by omega, trivial⟩)
             replace hd83 := bs_hd83.keep lv_hd83 (Nat.le_refl _)
             replace lv_wd83 := Keep.st lv_wd83 st30009 (fun k hb hk => ⟨by omega, trivial⟩)
             replace wd83 := bs_wd83.keep lv_wd83 (Nat.le_refl _)
             replace lv_v94 := Keep.st lv_v94 st30009 (fun k hb hk => ⟨by omega, trivial⟩)
             replace v94 := bs_v94.keep lv_v94 (Nat.le_refl _)
             replace lv_v96 := Keep.st lv_v96 st30009 (fun k hb hk => ⟨by omega, trivial⟩)
             replace v96 := bs_v96.keep lv_v96 (Nat.le_refl _)
             replace lv_v97 := Keep.st lv_v97 st30009 (fun k hb hk => ⟨by omega, trivial⟩)
             replace v97 := bs_v97.keep lv_v97 (Nat.le_refl _)
             have lt_at30009 := GHeap.lt_of_get at30009
             replace h0 := base_h0.mono hle
             replace h1 := base_h1.mono hle
             clear hb2 c02 c12 c22 c32 c42 i12 i22 i32 i42 hm2 hi2
             have hb2 : Cat.At _ g2 0 c p := ⟨Mem.of_get at2, h0⟩
             obtain ⟨c02, c12, c22, c32, c42, i12, i22, i32, i42⟩ := hb2.get
             have hm2 : MemN _ _ _ _ _ := ⟨rfl, hb2.1⟩
             have hi2 := hb2.2
             clear i27
             have i27 := v27.inn
             clear i29
             have i29 := v29.ints
             clear i30
             have i30 := v30.inn
             clear mm7009
             have mm7009 : MemN _ _ _ _ _ := ⟨rfl, Mem.of_get at7009⟩
             clear mm8003
             have mm8003 : MemN _ _ _ _ _ := ⟨rfl, Mem.of_get at8003⟩
             clear mm10007
             have mm10007 : MemN _ _ _ _ _ := ⟨rfl, Mem.of_get at10007⟩
             clear i54
             have i54 := v54.inn
             clear i59
             have i59 := v59.ints
             clear i94
             have i94 := v94.inn
             clear i96
             have i96 := v96.ints
             clear i97
             have i97 := v97.inn
             have mm30009 : MemN _ _ _ _ _ := ⟨rfl, Mem.of_get at30009⟩
             refine .m rfl rfl rfl (.assign rfl) ?_
             refine .nil ?_
             refine hK42 _ _ ?_
             refine .seq (fun K43 hK43 => ?_)
             refine .seq (fun K44 hK44 => ?_)
             refine .region ?_
             refine .m rfl rfl rfl (.loadM ag_27_D rfl ⟨rfl, Mem.of_get at30009⟩) ?_
             refine .m rfl rfl rfl (.loadM ag_27_D rfl ⟨rfl, Mem.of_get at7009⟩) ?_
             refine .callQ rfl rfl rfl rfl @Try.call12 rfl (eqCategory_c) ?_
             refine .m rfl rfl rfl (.not rfl) ?_
             refine .m rfl rfl rfl (.move rfl) ?_
             refine .split (fun h104 => ?_) (fun h104 => ?_)
             ·
              try simp only [sps] at h104
              refine .sg rfl rfl rfl rfl rfl ?_
              refine .sg rfl rfl rfl rfl rfl ?_
              refine .sg rfl rfl rfl rfl rfl ?_
              refine .m rfl rfl rfl (.pickT rfl rfl) ?_
              refine .nil ?_
              refine hK44 _ _ ?_
              refine .condT rfl ?_
              refine .seq (fun K45 hK45 => ?_)
              refine .region ?_
              refine .m rfl rfl rfl (.assign rfl) ?_
              refine .nil ?_
              refine hK45 _ _ ?_
              refine .ret ?_
              -- leaf e12
              refine hret _ _ ?_
              refine ⟨_, rfl, ?_⟩
              first
              | exact rfl
              | exact absurd trivial (by assumption)
              | contradiction
              | (exfalso; omega)
             ·
              try simp only [sps] at h104
              refine .mg rfl rfl rfl rfl rfl (.move rfl) ?_
              refine .mg rfl rfl rfl rfl rfl (.move rfl) ?_
              refine .mg rfl rfl rfl rfl rfl (.cmp rfl rfl rfl) ?_
              refine .m rfl rfl rfl (.pickF rfl rfl) ?_
              refine .nil ?_
              refine hK44 _ _ ?_
              refine .cond rfl (fun h108 => ?_) (fun h108 => ?_)
              ·
               try simp only [sps] at h108
               refine .seq (fun K46 hK46 => ?_)
               refine .region ?_
               refine .m rfl rfl rfl (.assign rfl) ?_
               refine .nil ?_
               refine hK46 _ _ ?_
               refine .ret ?_
               -- leaf e13
               refine hret _ _ ?_
               refine ⟨_, rfl, ?_⟩
               first
               | exact rfl
               | exact absurd trivial (by assumption)
               | contradiction
               | (exfalso; omega)
              ·
               try simp only [sps] at h108
               refine .skip ?_
               refine hK43 _ _ ?_
               refine .seq (fun K47 hK47 => ?_)
               refine .region ?_
               refine .m rfl rfl rfl (.assign rfl) ?_
               refine .nil ?_
               refine hK47 _ _ ?_
               refine .seq (fun K48 hK48 => ?_)
               refine .region ?_
               refine .m rfl rfl rfl (.loadM ag_27_D rfl ⟨rfl, Mem.of_get at10007⟩) ?_
               refine .m rfl rfl rfl (.move rfl) ?_
               refine .callQ rfl rfl rfl rfl @Try.call16 rfl (heldCategory_c) ?_
               refine .m rfl rfl rfl (.assign rfl) ?_
               refine .nil ?_
               refine hK48 _ _ ?_
               refine .seq (fun K49 hK49 => ?_)
               refine .seq (fun K50 hK50 => ?_)
               refine .region ?_
               refine .m rfl rfl rfl (.move rfl) ?_
               refine .m rfl rfl rfl (.cmp rfl rfl rfl) ?_
               refine .nil ?_
               refine hK50 _ _ ?_
               refine .cond rfl (fun h113 => ?_) (fun h113 => ?_)
               ·
                try simp only [sps] at h113
                refine .seq (fun K51 hK51 => ?_)
                refine .region ?_
                refine .m rfl rfl rfl (.assign rfl) ?_
                refine .nil ?_
                refine hK51 _ _ ?_
                refine .ret ?_
                -- leaf e14
                refine hret _ _ ?_
                refine ⟨_, rfl, ?_⟩
                first
                | exact rfl
                | exact absurd trivial (by assumption)
                | contradiction
                | (exfalso; omega)
               ·
                try simp only [sps] at h113
                refine .skip ?_
                refine hK49 _ _ ?_
                refine .seq (fun K52 hK52 => ?_)
                refine .seq (fun K53 hK53 => ?_)
                refine .region ?_
                refine .m rfl rfl rfl (.move rfl) ?_
                refine .m rfl rfl rfl (.move rfl) ?_
                refine .m rfl rfl rfl (.cmp rfl rfl rfl) ?_
                refine .nil ?_
                refine hK53 _ _ ?_
                refine .cond rfl (fun h116 => ?_) (fun h116 => ?_)
                ·
                 try simp only [sps] at h116
                 refine .seq (fun K54 hK54 => ?_)
                 refine .region ?_
                 refine .m rfl rfl rfl (.assign rfl) ?_
                 refine .nil ?_
                 refine hK54 _ _ ?_
                 refine .ret ?_
                 -- leaf e15
                 refine hret _ _ ?_
                 refine ⟨_, rfl, ?_⟩
                 first
                 | exact rfl
                 | exact absurd trivial (by assumption)
                 | contradiction
                 | (exfalso; omega)
                ·
                 try simp only [sps] at h116
                 refine .skip ?_
                 refine hK52 _ _ ?_
                 refine .seq (fun K55 hK55 => ?_)
                 refine .region ?_
                 refine .m rfl rfl rfl (.assign rfl) ?_
                 refine .nil ?_
                 refine hK55 _ _ ?_
                 refine .ret ?_
                 -- leaf e16
                 refine hret _ _ ?_
                 refine ⟨_, rfl, ?_⟩
                 first
                 | exact rfl
                 | exact absurd trivial (by assumption)
                 | contradiction
                 | (exfalso; omega)
end Go.Proofs.Ytfejmmaeigbfkaa
/- The call of a law, whatever it takes: the arguments brought in one by one. No condition. -/
namespace Go.GL
open Go.RowKit Go.WideShapes Go.ChangeShapes Go.Deep

/-- An argument of type t may be brought in so that R holds of what stands for it. -/
structure Imp1 (P : Program) (t : TypeId) (R : GHeap → Value → Prop) : Prop where
  mono : ∀ {H H' : GHeap} {g : Value}, H.Le H' → R H g → R H' g
  imp : ∀ {T : Type} {enc : TypeId × Value → T} {B : Nat} {w0 : World} {ρ : Place} {H : GHeap} {w : World} {held : Bool} {base fuel : Nat} {v : Value} {x : DataW T × List MemPlace}, Sim P B w0 ρ H w → w.heap.size ≤ B →
    DataW.trod enc P w 0 (fun _ => true) held fuel t v.cells.toList = some x → Value.okWide P w .any base t v → ∃ ρ' H' g, Sim P B w0 ρ' H' w ∧ Ext ρ ρ' ∧ H.Le H' ∧ VRel ρ' g v ∧ R H' g

def structT (P : Program) (t : TypeId) : Bool := match P.underlying t with | some (.struct _) => true | _ => false
theorem imp1_struct {P : Program} {t : TypeId} {α β : Type} {cells : α → β → List Value} {I : GHeap → α → β → Prop} {W : α → Prop} (hm : ∀ {H H' : GHeap} {c : α} {p : β}, I H c p → H.Le H' → I H' c p)
    (hI : Imports P t (fun ρ H cs => ∃ (c : α) (p : β), LRel ρ (cells c p) cs ∧ I H c p ∧ W c)) (hst : structT P t = true) : Imp1 P t (fun H g => ∃ (c : α) (p : β), g = .agg (cells c p).toArray ∧ I H c p ∧ W c) where
  mono h := fun ⟨c, p, h1, h2, h3⟩ => ⟨c, p, h1, hm h2 h, h3⟩
  imp := by
    intro T enc B w0 ρ H w held base fuel v x hs hB h hv
    have hagg : ∃ cs, v = .agg cs := by
      unfold Value.okWide at hv
      unfold structT at hst
      split at hst
      · rename_i fs hu
        rw [hu] at hv
        obtain ⟨cs, h, _⟩ := hv
        exact ⟨cs, h⟩
      · cases hst
    obtain ⟨cs, rfl⟩ := hagg
    obtain ⟨ρ', H', h1, h2, h3, c, p, h4, h5, h6⟩ := hI hs hB h
    exact ⟨ρ', H', _, h1, h2, h3, by have := VRel.agg_of h4; simpa [Value.cells] using this, c, p, rfl, h5, h6⟩
theorem imp1_int {P : Program} {t : TypeId} (ht : i64T P t = true) : Imp1 P t (fun _ g => ∃ n, g = .int .i64 n ∧ I64 n) where
  mono _ := id
  imp := by
    intro T enc B w0 ρ H w held base fuel v x hs hB h hv
    obtain ⟨n, rfl⟩ := okWide_int (i64T_run ht) hv
    obtain ⟨ρ', H', h1, h2, h3, m, h4, h5⟩ := import_int ht hs hB h
    have : n = m := by simpa [Value.cells] using h4
    subst this
    exact ⟨ρ', H', _, h1, h2, h3, .int _ _, n, rfl, h5⟩
theorem imp1_ints {P : Program} {t : TypeId} (ht : intsT P t = true) : Imp1 P t (fun H g => ∃ a xs, g = .slice a xs.length xs.length ∧ Ints H a xs ∧ I64s xs) where
  mono h := fun ⟨a, xs, h1, h2, h3⟩ => ⟨a, xs, h1, h2.mono h, h3⟩
  imp := by
    intro T enc B w0 ρ H w held base fuel v x hs hB h hv
    obtain ⟨e, hu, _⟩ := intsT_run ht
    obtain ⟨a, l, c, rfl⟩ := okWide_slice hu hv
    obtain ⟨ρ', H', h1, h2, h3, a', xs, c', h4, h5, h6, h7⟩ := import_ints ht hs hB h
    have : Value.slice a l c = c' := by simpa [Value.cells] using h4
    subst this
    exact ⟨ρ', H', _, h1, h2, h3, h5, a', xs, rfl, h6, h7⟩
theorem imp1_intss {P : Program} {t : TypeId} (ht : intssT P t = true) : Imp1 P t (fun H g => ∃ a xss r, g = .slice a xss.length xss.length ∧ Intss H a xss r ∧ xss.length ≤ 9223372036854775807 ∧ ∀ i, I64s (xss.getD i [])) where
  mono h := fun ⟨a, xs, r, h1, h2, h3⟩ => ⟨a, xs, r, h1, h2.mono h, h3⟩
  imp := by
    intro T enc B w0 ρ H w held base fuel v x hs hB h hv
    obtain ⟨e, hu, _⟩ := intssT_run ht
    obtain ⟨a, l, c, rfl⟩ := okWide_slice hu hv
    obtain ⟨ρ', H', h1, h2, h3, a', xs, r, c', h4, h5, h6, h7⟩ := import_intss ht hs hB h
    have : Value.slice a l c = c' := by simpa [Value.cells] using h4
    subst this
    exact ⟨ρ', H', _, h1, h2, h3, h5, a', xs, r, rfl, h6, h7⟩
theorem imp1_intsss {P : Program} {t : TypeId} (ht : intsssT P t = true) : Imp1 P t (fun H g => ∃ a x r s, g = .slice a x.length x.length ∧ Intsss H a x r s ∧ Wd3 x) where
  mono h := fun ⟨a, xs, r, s, h1, h2, h3⟩ => ⟨a, xs, r, s, h1, h2.mono h, h3⟩
  imp := by
    intro T enc B w0 ρ H w held base fuel v x hs hB h hv
    obtain ⟨e, hu, _⟩ := intsssT_run ht
    obtain ⟨a, l, c, rfl⟩ := okWide_slice hu hv
    obtain ⟨ρ', H', h1, h2, h3, a', xs, r, s, c', h4, h5, h6, h7⟩ := import_intsss ht hs hB h
    have : Value.slice a l c = c' := by simpa [Value.cells] using h4
    subst this
    exact ⟨ρ', H', _, h1, h2, h3, h5, a', xs, r, s, rfl, h6, h7⟩

/-- Arguments of types ts may be brought in so that R holds of what stands for them. -/
structure ImpAll (P : Program) (ts : List TypeId) (R : GHeap → List Value → Prop) : Prop where
  imp : ∀ {T : Type} {enc : TypeId × Value → T} {B : Nat} {w0 : World} {ρ : Place} {H : GHeap} {w : World} {base : Nat} {vs : List Value} {ds : List (DataW T)} {ps : List MemPlace}, Sim P B w0 ρ H w → w.heap.size ≤ B →
    DataW.TrodAll enc P w 0 (fun _ => true) true ts vs ds ps → (∀ (j : Nat) t v, ts[j]? = some t → vs[j]? = some v → Value.okWide P w .any base t v) → ds.length = ts.length ∧ ∃ ρ' H' gs, Sim P B w0 ρ' H' w ∧ Ext ρ ρ' ∧ H.Le H' ∧ LRel ρ' gs vs ∧ R H' gs
theorem ImpAll.nil {P : Program} : ImpAll P [] (fun _ gs => gs = []) where
  imp := by
    intro T enc B w0 ρ H w base vs ds ps hs hB h hv
    obtain ⟨rfl, rfl, rfl⟩ := trodAll_nil h
    exact ⟨rfl, ρ, H, [], hs, .refl ρ, .refl H, .nil ρ, rfl⟩
theorem ImpAll.cons {P : Program} {t : TypeId} {ts : List TypeId} {R1 : GHeap → Value → Prop} {R : GHeap → List Value → Prop} (h1 : Imp1 P t R1) (h2 : ImpAll P ts R) : ImpAll P (t :: ts) (fun H gs => ∃ g r, gs = g :: r ∧ R1 H g ∧ R H r) where
  imp := by
    intro T enc B w0 ρ H w base vs ds ps hs hB h hv
    obtain ⟨v, vs, d, ds, p, q, rfl, rfl, rfl, ⟨fuel, k1⟩, k2⟩ := trodAll_cons h
    obtain ⟨ρ1, H1, g, s1, e1, l1, v1, r1⟩ := h1.imp hs hB k1 (hv 0 t v rfl rfl)
    obtain ⟨hl, ρ2, H2, gs, s2, e2, l2, v2, r2⟩ := h2.imp s1 hB k2 (fun j t v ht hj => hv (j + 1) t v (by simpa using ht) (by simpa using hj))
    exact ⟨by simp [hl], ρ2, H2, g :: gs, s2, e1.trans e2, l1.trans l2, .cons (v1.mono e2) v2, g, gs, rfl, h1.mono l2 r1, r2⟩

/-- The call of a law. -/
theorem law_calls {P : Program} {f : FuncId} {fn : Func} {ts : List TypeId} {tb : TypeId} {R : GHeap → List Value → Prop} (hI : ImpAll P ts R) (hp : fn.params = ts.toArray)
    (hc : ∀ H gs, R H gs → GCalls P f gs H fun v _ => v = .bool true)
    {T : Type} {enc : TypeId × Value → T} {W : World} {base : Nat} {args : Array Value} {s : ChangeSpec} {apart fresh handsOn again : Bool} {ds gs : List (DataW T)} {before : List MemPlace}
    (hval : ∀ (j : Nat) t v, fn.params[j]? = some t → args[j]? = some v → Value.okWide P W .any base t v)
    (hW : DataW.Whole enc P fn.params.toList s.vars apart W args.toList ds gs before)
    (hl : laidOutB P = true) (hr : readB P fn.params.toList = true) (hv : s.vars = []) (hrt : fn.resultTypes = #[tb]) (htb : P.underlying tb = some .bool)
    (hs : ∀ ds : List (DataW T), ds.length = ts.length → (s.fn T ds).results = [.lit (.bool true)] ∧ (s.fn T ds).args = ds ∧ (s.fn T ds).vars = []) :
    Calls P f args W fun e W' => ∃ v, e = .returned v ∧ s.post enc P fn apart fresh handsOn again W args v W' := by
  have hWW := hW
  obtain ⟨p, q, hA, _⟩ := hW
  rw [hp] at hA
  obtain ⟨hlen, ρ, H, gs', hs', _, _, hrel, hR⟩ := hI.imp (base := base) (Sim.start P W) (Nat.le_refl _) (by simpa using hA) (fun j t v ht hj => hval j t v (by rw [hp]; simpa using ht) (by simpa using hj))
  have := (hc H gs' hR) _ _ ρ args.toList W hs' hrel
  rw [Array.toArray_toList] at this
  refine this.mono fun e W' ⟨v, c, ρ', H', he, hv', _, hsim, hrv⟩ => ?_
  subst hv'
  cases hrv
  exact ⟨_, he, law_post hl hr hv hrt htb hWW (hs ds hlen).1 (hs ds hlen).2.1 (hs ds hlen).2.2 hsim.below⟩
end Go.GL
