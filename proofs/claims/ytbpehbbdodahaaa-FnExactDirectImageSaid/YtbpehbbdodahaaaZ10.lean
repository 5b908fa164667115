/- The law of DirectImage. No condition but those of each statement. -/
import Derived.Test.YtbpehbbdodahaaaZ9
namespace Go.Proofs.Ytbpehbbdodahaaa
open Go Go.GL Go.RowKit Go.Proofs
theorem ag_29_LDirectImage : aggT Try.prog 29 = some 15 := by kernel_rfl
theorem ag_31_LDirectImage : aggT Try.prog 31 = some 1 := by kernel_rfl
set_option maxHeartbeats 40000000 in
theorem lawDirectImage_c {m : SMap} {p : SMapP} {c : Prt} {q : PrtP} {H : GHeap} (h0 : m.In H p) (w0 : m.Wide) (h1 : c.In H q) (w1 : c.Wide) :
    GCalls Try.prog 6 [.agg (m.cells p).toArray, .agg (c.cells q).toArray] H (fun v _ => v = .bool true) := by
  refine GCalls.body (N := 119) (rs := [.tmp 4]) Try.func6 rfl rfl rfl rfl (fun Qx hret hend => ?_)
  refine .forget (fr' := [(0, some _), (1, some _)]) ⟨rfl, rfl, trivial⟩ ?_
  have hle := GHeap.Le.refl H
  have base_h0 := h0
  have base_h1 := h1
  refine .seq (fun K1 hK1 => ?_)
  refine .region ?_
  refine .r rfl rfl rfl (.boxR rfl sz_29_VSMap rfl) ?_
  rintro _ H2 ⟨g2, rfl, le2, ge2, at2⟩
  have nx_H2 := le2.1
  replace hle := hle.trans le2
  have lt_at2 := GHeap.lt_of_get at2
  replace h0 := base_h0.mono hle
  replace h1 := base_h1.mono hle
  have hb2 : SMap.At _ g2 0 m p := ⟨Mem.of_get at2, h0⟩
  obtain ⟨fs2, ft2, c142, i22⟩ := hb2.get
  have hm2 : MemN _ _ _ _ _ := ⟨rfl, hb2.1⟩
  have hi2 := hb2.2
  have hms2 : MemN _ _ _ _ _ := ⟨rfl, fs2.1⟩
  have his2 := fs2.2
  have hmt2 : MemN _ _ _ _ _ := ⟨rfl, ft2.1⟩
  have hit2 := ft2.2
  refine .r rfl rfl rfl (.boxR rfl sz_31_VPrt rfl) ?_
  rintro _ H3 ⟨g3, rfl, le3, ge3, at3⟩
  have nx_H3 := le3.1
  replace hle := hle.trans le3
  replace at2 := le3.2 _ _ at2
  have lt_at3 := GHeap.lt_of_get at3
  replace h0 := base_h0.mono hle
  replace h1 := base_h1.mono hle
  clear hb2 fs2 ft2 c142 i22 hm2 hi2 hms2 his2 hmt2 hit2
  have hb2 : SMap.At _ g2 0 m p := ⟨Mem.of_get at2, h0⟩
  obtain ⟨fs2, ft2, c142, i22⟩ := hb2.get
  have hm2 : MemN _ _ _ _ _ := ⟨rfl, hb2.1⟩
  have hi2 := hb2.2
  have hms2 : MemN _ _ _ _ _ := ⟨rfl, fs2.1⟩
  have his2 := fs2.2
  have hmt2 : MemN _ _ _ _ _ := ⟨rfl, ft2.1⟩
  have hit2 := ft2.2
  have hb3 : Prt.At _ g3 0 c q := ⟨Mem.of_get at3, h1⟩
  obtain ⟨c03, i03⟩ := hb3.get
  have hm3 : MemN _ _ _ _ _ := ⟨rfl, hb3.1⟩
  have hi3 := hb3.2
  refine .m rfl rfl rfl (.assign rfl) ?_
  refine .nil ?_
  refine hK1 _ _ ?_
  refine .seq (fun K2 hK2 => ?_)
  refine .region ?_
  refine .m rfl rfl rfl (.assign rfl) ?_
  refine .nil ?_
  refine hK2 _ _ ?_
  refine .seq (fun K3 hK3 => ?_)
  refine .region ?_
  refine .m rfl rfl rfl (.loadM ag_29_LDirectImage rfl ⟨rfl, Mem.of_get at2⟩) ?_
  refine .m rfl rfl rfl (.move rfl) ?_
  refine .call rfl rfl rfl rfl @Try.call7 rfl (szSetMap_c) ?_
  rintro _ _ ⟨heq, lf19, rfl, z119, z219, z319⟩
  obtain rfl := heq.symm
  refine .m rfl rfl rfl (.assign rfl) ?_
  refine .nil ?_
  refine hK3 _ _ ?_
  refine .seq (fun K4 hK4 => ?_)
  refine .seq (fun K5 hK5 => ?_)
  refine .region ?_
  refine .m rfl rfl rfl (.move rfl) ?_
  refine .m rfl rfl rfl (.cmp rfl rfl rfl) ?_
  refine .nil ?_
  refine hK5 _ _ ?_
  refine .cond rfl (fun h21 => ?_) (fun h21 => ?_)
  ·
   try simp only [sps] at h21
   refine .seq (fun K6 hK6 => ?_)
   refine .region ?_
   refine .m rfl rfl rfl (.assign rfl) ?_
   refine .nil ?_
   refine hK6 _ _ ?_
   refine .ret ?_
   -- leaf e1
   refine hret _ _ ?_
   refine ⟨_, rfl, ?_⟩
   first
   | exact rfl
   | exact absurd trivial (by assumption)
   | contradiction
   | (exfalso; omega)
  ·
   try simp only [sps] at h21
   have hsm19 := z319 (by omega)
   have tb19 := hsm19.tot
   refine .skip ?_
   refine hK4 _ _ ?_
   refine .seq (fun K7 hK7 => ?_)
   refine .region ?_
   refine .m rfl rfl rfl (.loadM ag_31_LDirectImage rfl ⟨rfl, Mem.of_get at3⟩) ?_
   refine .m rfl rfl rfl (.move rfl) ?_
   refine .call rfl rfl rfl rfl @Try.call8 rfl (szPart_c) ?_
   rintro _ _ ⟨heq, lf24, rfl, z124, z224, z324⟩
   obtain rfl := heq.symm
   refine .m rfl rfl rfl (.assign rfl) ?_
   refine .nil ?_
   refine hK7 _ _ ?_
   refine .seq (fun K8 hK8 => ?_)
   refine .seq (fun K9 hK9 => ?_)
   refine .region ?_
   refine .m rfl rfl rfl (.move rfl) ?_
   refine .m rfl rfl rfl (.cmp rfl rfl rfl) ?_
   refine .nil ?_
   refine hK9 _ _ ?_
   refine .cond rfl (fun h26 => ?_) (fun h26 => ?_)
   ·
    try simp only [sps] at h26
    refine .seq (fun K10 hK10 => ?_)
    refine .region ?_
    refine .m rfl rfl rfl (.assign rfl) ?_
    refine .nil ?_
    refine hK10 _ _ ?_
    refine .ret ?_
    -- leaf e2
    refine hret _ _ ?_
    refine ⟨_, rfl, ?_⟩
    first
    | exact rfl
    | exact absurd trivial (by assumption)
    | contradiction
    | (exfalso; omega)
   ·
    simp only [sps] at h26
    have hsR := SMap.dir_small (m := m) (p := c.me) hsm19
    have htR := hsR.tot
    have hsm24 := z324 (by omega)
    have tb24 := hsm24.tot
    refine .skip ?_
    refine hK8 _ _ ?_
    refine .seq (fun K11 hK11 => ?_)
    refine .regionD mixed_orders_B (.q 0 (.q 2 (.or (.c 8 1 (.c 1 1 (.c 3 1 (.c 4 1 (.q 5 (.q 6 (.q 7 (.c 9 1 (.q 10 (.done)))))))))) (.c 1 1 (.or (.c 8 1 (.c 3 1 (.c 4 1 (.q 5 (.q 6 (.q 7 (.c 9 1 (.q 10 (.done))))))))) (.c 3 1 (.or (.c 8 1 (.c 4 1 (.q 5 (.q 6 (.q 7 (.c 9 1 (.q 10 (.done)))))))) (.c 4 1 (.q 5 (.q 6 (.q 7 (.c 8 1 (.c 9 1 (.q 10 (.done))))))))))))))) (by kernel_rfl) ?_
    refine .cut [(0, some _), (1, some _), (2, some _), (3, some _), (4, some _), (5, some _), (17, some _), (18, some _), (19, some _), (20, some _), (21, some _), (22, some _), (23, some _), (24, some _), (25, some _), (26, some _)] ⟨rfl, rfl, rfl, rfl, rfl, rfl, rfl, rfl, rfl, rfl, rfl, rfl, rfl, rfl, rfl, rfl, trivial⟩ (fun rest fr' H' => ∃ gf pf, Sub ((6, some (.pointer (some ⟨gf, 0, none⟩))) :: (7, some (.int .i64 (m.dirC c.me))) :: rest) fr' ∧ H3.Le H' ∧ H3.next ≤ gf ∧ H'.get gf = some (.row ((m.dir c.me).cells pf) 34 true) ∧ PrtR H3.next H' (m.dir c.me) pf) ?_ ?_
    ·
     have hf0 := GHeap.Le.refl H3
     refine .m rfl rfl rfl rfl (.refl _) (.loadM ag_29_LDirectImage rfl ⟨rfl, Mem.of_get at2⟩) ?_
     refine .m rfl rfl rfl rfl (.refl _) (.loadM ag_31_LDirectImage rfl ⟨rfl, Mem.of_get at3⟩) ?_
     refine .orI ?_ ?_
     ·
      refine .c1 rfl rfl rfl rfl (.allocR rfl ze_34_VPrt rfl) ?_
      rintro _ H6 ⟨g6, rfl, le6, ge6, at6⟩
      have hbl := le6
      refine ⟨hbl, ?_⟩
      have nx_H6 := le6.1
      replace hle := hle.trans le6
      replace at2 := le6.2 _ _ at2
      replace at3 := le6.2 _ _ at3
      have lt_at6 := GHeap.lt_of_get at6
      replace h0 := base_h0.mono hle
      replace h1 := base_h1.mono hle
      clear hb2 fs2 ft2 c142 i22 hm2 hi2 hms2 his2 hmt2 hit2
      have hb2 : SMap.At _ g2 0 m p := ⟨Mem.of_get at2, h0⟩
      obtain ⟨fs2, ft2, c142, i22⟩ := hb2.get
      have hm2 : MemN _ _ _ _ _ := ⟨rfl, hb2.1⟩
      have hi2 := hb2.2
      have hms2 : MemN _ _ _ _ _ := ⟨rfl, fs2.1⟩
      have his2 := fs2.2
      have hmt2 : MemN _ _ _ _ _ := ⟨rfl, ft2.1⟩
      have hit2 := ft2.2
      clear hb3 c03 i03 hm3 hi3
      have hb3 : Prt.At _ g3 0 c q := ⟨Mem.of_get at3, h1⟩
      obtain ⟨c03, i03⟩ := hb3.get
      have hm3 : MemN _ _ _ _ _ := ⟨rfl, hb3.1⟩
      have hi3 := hb3.2
      replace hf0 := hf0.trans le6
      refine .call1 rfl rfl rfl rfl rfl @Try.call10 rfl (toSetMap_c) ?_
      rintro _ H29 ⟨le29, p29, rfl, v29⟩
      replace hbl := hbl.trans le29
      refine ⟨hbl, ?_⟩
      have nx_H29 := le29.1
      replace hle := hle.trans le29
      replace at2 := le29.2 _ _ at2
      replace at3 := le29.2 _ _ at3
      replace at6 := le29.2 _ _ at6
      have bs_v29 := v29
      have lv_v29 : Keep H6.next H29 H29 := fun _ _ _ h => h
      replace h0 := base_h0.mono hle
      replace h1 := base_h1.mono hle
      clear hb2 fs2 ft2 c142 i22 hm2 hi2 hms2 his2 hmt2 hit2
      have hb2 : SMap.At _ g2 0 m p := ⟨Mem.of_get at2, h0⟩
      obtain ⟨fs2, ft2, c142, i22⟩ := hb2.get
      have hm2 : MemN _ _ _ _ _ := ⟨rfl, hb2.1⟩
      have hi2 := hb2.2
      have hms2 : MemN _ _ _ _ _ := ⟨rfl, fs2.1⟩
      have his2 := fs2.2
      have hmt2 : MemN _ _ _ _ _ := ⟨rfl, ft2.1⟩
      have hit2 := ft2.2
      clear hb3 c03 i03 hm3 hi3
      have hb3 : Prt.At _ g3 0 c q := ⟨Mem.of_get at3, h1⟩
      obtain ⟨c03, i03⟩ := hb3.get
      have hm3 : MemN _ _ _ _ _ := ⟨rfl, hb3.1⟩
      have hi3 := hb3.2
      have i29 := v29.inn
      replace hf0 := hf0.trans le29
      refine .call1 rfl rfl rfl rfl rfl @Try.call11 rfl (toPart_c) ?_
      rintro _ H31 ⟨le31, p31, rfl, v31⟩
      replace hbl := hbl.trans le31
      refine ⟨hbl, ?_⟩
      have nx_H31 := le31.1
      replace hle := hle.trans le31
      replace at2 := le31.2 _ _ at2
      replace at3 := le31.2 _ _ at3
      replace at6 := le31.2 _ _ at6
      replace lv_v29 := Keep.le lv_v29 le31
      replace v29 := bs_v29.keep lv_v29 (Nat.le_refl _)
      have bs_v31 := v31
      have lv_v31 : Keep H29.next H31 H31 := fun _ _ _ h => h
      replace h0 := base_h0.mono hle
      replace h1 := base_h1.mono hle
      clear hb2 fs2 ft2 c142 i22 hm2 hi2 hms2 his2 hmt2 hit2
      have hb2 : SMap.At _ g2 0 m p := ⟨Mem.of_get at2, h0⟩
      obtain ⟨fs2, ft2, c142, i22⟩ := hb2.get
      have hm2 : MemN _ _ _ _ _ := ⟨rfl, hb2.1⟩
      have hi2 := hb2.2
      have hms2 : MemN _ _ _ _ _ := ⟨rfl, fs2.1⟩
      have his2 := fs2.2
      have hmt2 : MemN _ _ _ _ _ := ⟨rfl, ft2.1⟩
      have hit2 := ft2.2
      clear hb3 c03 i03 hm3 hi3
      have hb3 : Prt.At _ g3 0 c q := ⟨Mem.of_get at3, h1⟩
      obtain ⟨c03, i03⟩ := hb3.get
      have hm3 : MemN _ _ _ _ _ := ⟨rfl, hb3.1⟩
      have hi3 := hb3.2
      clear i29
      have i29 := v29.inn
      have i31 := v31.inn
      replace hf0 := hf0.trans le31
      refine .call1 rfl rfl rfl rfl rfl @Try.call26 rfl (specDirectImage_c) ?_
      rintro _ H32 ⟨le32, p32, rfl, v32⟩
      replace hbl := hbl.trans le32
      refine ⟨hbl, ?_⟩
      have nx_H32 := le32.1
      replace hle := hle.trans le32
      replace at2 := le32.2 _ _ at2
      replace at3 := le32.2 _ _ at3
      replace at6 := le32.2 _ _ at6
      replace lv_v29 := Keep.le lv_v29 le32
      replace v29 := bs_v29.keep lv_v29 (Nat.le_refl _)
      replace lv_v31 := Keep.le lv_v31 le32
      replace v31 := bs_v31.keep lv_v31 (Nat.le_refl _)
      have bs_v32 := v32
      have lv_v32 : Keep H31.next H32 H32 := fun _ _ _ h => h
      replace h0 := base_h0.mono hle
      replace h1 := base_h1.mono hle
      clear hb2 fs2 ft2 c142 i22 hm2 hi2 hms2 his2 hmt2 hit2
      have hb2 : SMap.At _ g2 0 m p := ⟨Mem.of_get at2, h0⟩
      obtain ⟨fs2, ft2, c142, i22⟩ := hb2.get
      have hm2 : MemN _ _ _ _ _ := ⟨rfl, hb2.1⟩
      have hi2 := hb2.2
      have hms2 : MemN _ _ _ _ _ := ⟨rfl, fs2.1⟩
      have his2 := fs2.2
      have hmt2 : MemN _ _ _ _ _ := ⟨rfl, ft2.1⟩
      have hit2 := ft2.2
      clear hb3 c03 i03 hm3 hi3
      have hb3 : Prt.At _ g3 0 c q := ⟨Mem.of_get at3, h1⟩
      obtain ⟨c03, i03⟩ := hb3.get
      have hm3 : MemN _ _ _ _ _ := ⟨rfl, hb3.1⟩
      have hi3 := hb3.2
      clear i29
      have i29 := v29.inn
      clear i31
      have i31 := v31.inn
      have i32 := v32.inn
      replace hf0 := hf0.trans le32
      refine .mB rfl rfl rfl rfl hbl (.move rfl) ?_
      refine .mB rfl rfl rfl rfl hbl (.extract rfl rfl) ?_
      refine .mB rfl rfl rfl rfl hbl (.extract rfl rfl) ?_
      refine .r1 rfl rfl rfl (.fillR rfl sz_34_VPrt rfl rfl rfl rfl (by assumption) (by first | rfl | exact Nat.le_of_ble_eq_true rfl | simp)) ?_
      rintro _ H8009 ⟨rfl, st8009, at8009⟩
      replace hbl := hbl.st st8009 (fun k hk => ⟨by omega, trivial⟩)
      refine ⟨hbl, ?_⟩
      have nx_H8009 := st8009.nx
      replace hle := hle.st st8009 (fun k hk => ⟨by omega, trivial⟩)
      replace at2 := st8009.same _ _ ⟨by omega, trivial⟩ at2
      replace at3 := st8009.same _ _ ⟨by omega, trivial⟩ at3
      replace lv_v29 := Keep.st lv_v29 st8009 (fun k hb hk => ⟨by omega, trivial⟩)
      replace v29 := bs_v29.keep lv_v29 (Nat.le_refl _)
      replace lv_v31 := Keep.st lv_v31 st8009 (fun k hb hk => ⟨by omega, trivial⟩)
      replace v31 := bs_v31.keep lv_v31 (Nat.le_refl _)
      replace lv_v32 := Keep.st lv_v32 st8009 (fun k hb hk => ⟨by omega, trivial⟩)
      replace v32 := bs_v32.keep lv_v32 (Nat.le_refl _)
      have lt_at8009 := GHeap.lt_of_get at8009
      replace h0 := base_h0.mono hle
      replace h1 := base_h1.mono hle
      clear hb2 fs2 ft2 c142 i22 hm2 hi2 hms2 his2 hmt2 hit2
      have hb2 : SMap.At _ g2 0 m p := ⟨Mem.of_get at2, h0⟩
      obtain ⟨fs2, ft2, c142, i22⟩ := hb2.get
      have hm2 : MemN _ _ _ _ _ := ⟨rfl, hb2.1⟩
      have hi2 := hb2.2
      have hms2 : MemN _ _ _ _ _ := ⟨rfl, fs2.1⟩
      have his2 := fs2.2
      have hmt2 : MemN _ _ _ _ _ := ⟨rfl, ft2.1⟩
      have hit2 := ft2.2
      clear hb3 c03 i03 hm3 hi3
      have hb3 : Prt.At _ g3 0 c q := ⟨Mem.of_get at3, h1⟩
      obtain ⟨c03, i03⟩ := hb3.get
      have hm3 : MemN _ _ _ _ _ := ⟨rfl, hb3.1⟩
      have hi3 := hb3.2
      clear i29
      have i29 := v29.inn
      clear i31
      have i31 := v31.inn
      clear i32
      have i32 := v32.inn
      have mm8009 : MemN _ _ _ _ _ := ⟨rfl, Mem.of_get at8009⟩
      replace hf0 := hf0.st st8009 (fun k hk => ⟨by omega, trivial⟩)
      refine .mB rfl rfl rfl rfl hbl (.assign rfl) ?_
      refine .done ?_
      exact ⟨_, p32, ⟨rfl, rfl, rfl, rfl, rfl, rfl, rfl, rfl, rfl, rfl, rfl, rfl, rfl, rfl, rfl, rfl, rfl, rfl, trivial⟩, hf0, by omega, at8009, v32.keep (.of_le (.refl _)) (by omega)⟩
     ·
      refine .call1 rfl rfl rfl rfl rfl @Try.call10 rfl (toSetMap_c) ?_
      rintro _ H29x2 ⟨le29x2, p29x2, rfl, v29x2⟩
      have hbl := le29x2
      refine ⟨hbl, ?_⟩
      have nx_H29x2 := le29x2.1
      replace hle := hle.trans le29x2
      replace at2 := le29x2.2 _ _ at2
      replace at3 := le29x2.2 _ _ at3
      have bs_v29x2 := v29x2
      have lv_v29x2 : Keep H3.next H29x2 H29x2 := fun _ _ _ h => h
      replace h0 := base_h0.mono hle
      replace h1 := base_h1.mono hle
      clear hb2 fs2 ft2 c142 i22 hm2 hi2 hms2 his2 hmt2 hit2
      have hb2 : SMap.At _ g2 0 m p := ⟨Mem.of_get at2, h0⟩
      obtain ⟨fs2, ft2, c142, i22⟩ := hb2.get
      have hm2 : MemN _ _ _ _ _ := ⟨rfl, hb2.1⟩
      have hi2 := hb2.2
      have hms2 : MemN _ _ _ _ _ := ⟨rfl, fs2.1⟩
      have his2 := fs2.2
      have hmt2 : MemN _ _ _ _ _ := ⟨rfl, ft2.1⟩
      have hit2 := ft2.2
      clear hb3 c03 i03 hm3 hi3
      have hb3 : Prt.At _ g3 0 c q := ⟨Mem.of_get at3, h1⟩
      obtain ⟨c03, i03⟩ := hb3.get
      have hm3 : MemN _ _ _ _ _ := ⟨rfl, hb3.1⟩
      have hi3 := hb3.2
      have i29x2 := v29x2.inn
      replace hf0 := hf0.trans le29x2
      refine .orI ?_ ?_
      ·
       refine .c1 rfl rfl rfl rfl (.allocR rfl ze_34_VPrt rfl) ?_
       rintro _ H6x2 ⟨g6x2, rfl, le6x2, ge6x2, at6x2⟩
       replace hbl := hbl.trans le6x2
       refine ⟨hbl, ?_⟩
       have nx_H6x2 := le6x2.1
       replace hle := hle.trans le6x2
       replace at2 := le6x2.2 _ _ at2
       replace at3 := le6x2.2 _ _ at3
       replace lv_v29x2 := Keep.le lv_v29x2 le6x2
       replace v29x2 := bs_v29x2.keep lv_v29x2 (Nat.le_refl _)
       have lt_at6x2 := GHeap.lt_of_get at6x2
       replace h0 := base_h0.mono hle
       replace h1 := base_h1.mono hle
       clear hb2 fs2 ft2 c142 i22 hm2 hi2 hms2 his2 hmt2 hit2
       have hb2 : SMap.At _ g2 0 m p := ⟨Mem.of_get at2, h0⟩
       obtain ⟨fs2, ft2, c142, i22⟩ := hb2.get
       have hm2 : MemN _ _ _ _ _ := ⟨rfl, hb2.1⟩
       have hi2 := hb2.2
       have hms2 : MemN _ _ _ _ _ := ⟨rfl, fs2.1⟩
       have his2 := fs2.2
       have hmt2 : MemN _ _ _ _ _ := ⟨rfl, ft2.1⟩
       have hit2 := ft2.2
       clear hb3 c03 i03 hm3 hi3
       have hb3 : Prt.At _ g3 0 c q := ⟨Mem.of_get at3, h1⟩
       obtain ⟨c03, i03⟩ := hb3.get
       have hm3 : MemN _ _ _ _ _ := ⟨rfl, hb3.1⟩
       have hi3 := hb3.2
       clear i29x2
       have i29x2 := v29x2.inn
       replace hf0 := hf0.trans le6x2
       refine .call1 rfl rfl rfl rfl rfl @Try.call11 rfl (toPart_c) ?_
       rintro _ H31x2 ⟨le31x2, p31x2, rfl, v31x2⟩
       replace hbl := hbl.trans le31x2
       refine ⟨hbl, ?_⟩
       have nx_H31x2 := le31x2.1
       replace hle := hle.trans le31x2
       replace at2 := le31x2.2 _ _ at2
       replace at3 := le31x2.2 _ _ at3
       replace at6x2 := le31x2.2 _ _ at6x2
       replace lv_v29x2 := Keep.le lv_v29x2 le31x2
       replace v29x2 := bs_v29x2.keep lv_v29x2 (Nat.le_refl _)
       have bs_v31x2 := v31x2
       have lv_v31x2 : Keep H6x2.next H31x2 H31x2 := fun _ _ _ h => h
       replace h0 := base_h0.mono hle
       replace h1 := base_h1.mono hle
       clear hb2 fs2 ft2 c142 i22 hm2 hi2 hms2 his2 hmt2 hit2
       have hb2 : SMap.At _ g2 0 m p := ⟨Mem.of_get at2, h0⟩
       obtain ⟨fs2, ft2, c142, i22⟩ := hb2.get
       have hm2 : MemN _ _ _ _ _ := ⟨rfl, hb2.1⟩
       have hi2 := hb2.2
       have hms2 : MemN _ _ _ _ _ := ⟨rfl, fs2.1⟩
       have his2 := fs2.2
       have hmt2 : MemN _ _ _ _ _ := ⟨rfl, ft2.1⟩
       have hit2 := ft2.2
       clear hb3 c03 i03 hm3 hi3
       have hb3 : Prt.At _ g3 0 c q := ⟨Mem.of_get at3, h1⟩
       obtain ⟨c03, i03⟩ := hb3.get
       have hm3 : MemN _ _ _ _ _ := ⟨rfl, hb3.1⟩
       have hi3 := hb3.2
       clear i29x2
       have i29x2 := v29x2.inn
       have i31x2 := v31x2.inn
       replace hf0 := hf0.trans le31x2
       refine .call1 rfl rfl rfl rfl rfl @Try.call26 rfl (specDirectImage_c) ?_
       rintro _ H32x2 ⟨le32x2, p32x2, rfl, v32x2⟩
       replace hbl := hbl.trans le32x2
       refine ⟨hbl, ?_⟩
       have nx_H32x2 := le32x2.1
       replace hle := hle.trans le32x2
       replace at2 := le32x2.2 _ _ at2
       replace at3 := le32x2.2 _ _ at3
       replace at6x2 := le32x2.2 _ _ at6x2
       replace lv_v29x2 := Keep.le lv_v29x2 le32x2
       replace v29x2 := bs_v29x2.keep lv_v29x2 (Nat.le_refl _)
       replace lv_v31x2 := Keep.le lv_v31x2 le32x2
       replace v31x2 := bs_v31x2.keep lv_v31x2 (Nat.le_refl _)
       have bs_v32x2 := v32x2
       have lv_v32x2 : Keep H31x2.next H32x2 H32x2 := fun _ _ _ h => h
       replace h0 := base_h0.mono hle
       replace h1 := base_h1.mono hle
       clear hb2 fs2 ft2 c142 i22 hm2 hi2 hms2 his2 hmt2 hit2
       have hb2 : SMap.At _ g2 0 m p := ⟨Mem.of_get at2, h0⟩
       obtain ⟨fs2, ft2, c142, i22⟩ := hb2.get
       have hm2 : MemN _ _ _ _ _ := ⟨rfl, hb2.1⟩
       have hi2 := hb2.2
       have hms2 : MemN _ _ _ _ _ := ⟨rfl, fs2.1⟩
       have his2 := fs2.2
       have hmt2 : MemN _ _ _ _ _ := ⟨rfl, ft2.1⟩
       have hit2 := ft2.2
       clear hb3 c03 i03 hm3 hi3
       have hb3 : Prt.At _ g3 0 c q := ⟨Mem.of_get at3, h1⟩
       obtain ⟨c03, i03⟩ := hb3.get
       have hm3 : MemN _ _ _ _ _ := ⟨rfl, hb3.1⟩
       have hi3 := hb3.2
       clear i29x2
       have i29x2 := v29x2.inn
       clear i31x2
       have i31x2 := v31x2.inn
       have i32x2 := v32x2.inn
       replace hf0 := hf0.trans le32x2
       refine .mB rfl rfl rfl rfl hbl (.move rfl) ?_
       refine .mB rfl rfl rfl rfl hbl (.extract rfl rfl) ?_
       refine .mB rfl rfl rfl rfl hbl (.extract rfl rfl) ?_
       refine .r1 rfl rfl rfl (.fillR rfl sz_34_VPrt rfl rfl rfl rfl (by assumption) (by first | rfl | exact Nat.le_of_ble_eq_true rfl | simp)) ?_
       rintro _ H8009x2 ⟨rfl, st8009x2, at8009x2⟩
       replace hbl := hbl.st st8009x2 (fun k hk => ⟨by omega, trivial⟩)
       refine ⟨hbl, ?_⟩
       have nx_H8009x2 := st8009x2.nx
       replace hle := hle.st st8009x2 (fun k hk => ⟨by omega, trivial⟩)
       replace at2 := st8009x2.same _ _ ⟨by omega, trivial⟩ at2
       replace at3 := st8009x2.same _ _ ⟨by omega, trivial⟩ at3
       replace lv_v29x2 := Keep.st lv_v29x2 st8009x2 (fun k hb hk => ⟨by omega, trivial⟩)
       replace v29x2 := bs_v29x2.keep lv_v29x2 (Nat.le_refl _)
       replace lv_v31x2 := Keep.st lv_v31x2 st8009x2 (fun k hb hk => ⟨by omega, trivial⟩)
       replace v31x2 := bs_v31x2.keep lv_v31x2 (Nat.le_refl _)
       replace lv_v32x2 := Keep.st lv_v32x2 st8009x2 (fun k hb hk => ⟨by omega, trivial⟩)
       replace v32x2 := bs_v32x2.keep lv_v32x2 (Nat.le_refl _)
       have lt_at8009x2 := GHeap.lt_of_get at8009x2
       replace h0 := base_h0.mono hle
       replace h1 := base_h1.mono hle
       clear hb2 fs2 ft2 c142 i22 hm2 hi2 hms2 his2 hmt2 hit2
       have hb2 : SMap.At _ g2 0 m p := ⟨Mem.of_get at2, h0⟩
       obtain ⟨fs2, ft2, c142, i22⟩ := hb2.get
       have hm2 : MemN _ _ _ _ _ := ⟨rfl, hb2.1⟩
       have hi2 := hb2.2
       have hms2 : MemN _ _ _ _ _ := ⟨rfl, fs2.1⟩
       have his2 := fs2.2
       have hmt2 : MemN _ _ _ _ _ := ⟨rfl, ft2.1⟩
       have hit2 := ft2.2
       clear hb3 c03 i03 hm3 hi3
       have hb3 : Prt.At _ g3 0 c q := ⟨Mem.of_get at3, h1⟩
       obtain ⟨c03, i03⟩ := hb3.get
       have hm3 : MemN _ _ _ _ _ := ⟨rfl, hb3.1⟩
       have hi3 := hb3.2
       clear i29x2
       have i29x2 := v29x2.inn
       clear i31x2
       have i31x2 := v31x2.inn
       clear i32x2
       have i32x2 := v32x2.inn
       have mm8009x2 : MemN _ _ _ _ _ := ⟨rfl, Mem.of_get at8009x2⟩
       replace hf0 := hf0.st st8009x2 (fun k hk => ⟨by omega, trivial⟩)
       refine .mB rfl rfl rfl rfl hbl (.assign rfl) ?_
       refine .done ?_
       exact ⟨_, p32x2, ⟨rfl, rfl, rfl, rfl, rfl, rfl, rfl, rfl, rfl, rfl, rfl, rfl, rfl, rfl, rfl, rfl, rfl, rfl, trivial⟩, hf0, by omega, at8009x2, v32x2.keep (.of_le (.refl _)) (by omega)⟩
      ·
       refine .call1 rfl rfl rfl rfl rfl @Try.call11 rfl (toPart_c) ?_
       rintro _ H31x3 ⟨le31x3, p31x3, rfl, v31x3⟩
       replace hbl := hbl.trans le31x3
       refine ⟨hbl, ?_⟩
       have nx_H31x3 := le31x3.1
       replace hle := hle.trans le31x3
       replace at2 := le31x3.2 _ _ at2
       replace at3 := le31x3.2 _ _ at3
       replace lv_v29x2 := Keep.le lv_v29x2 le31x3
       replace v29x2 := bs_v29x2.keep lv_v29x2 (Nat.le_refl _)
       have bs_v31x3 := v31x3
       have lv_v31x3 : Keep H29x2.next H31x3 H31x3 := fun _ _ _ h => h
       replace h0 := base_h0.mono hle
       replace h1 := base_h1.mono hle
       clear hb2 fs2 ft2 c142 i22 hm2 hi2 hms2 his2 hmt2 hit2
       have hb2 : SMap.At _ g2 0 m p := ⟨Mem.of_get at2, h0⟩
       obtain ⟨fs2, ft2, c142, i22⟩ := hb2.get
       have hm2 : MemN _ _ _ _ _ := ⟨rfl, hb2.1⟩
       have hi2 := hb2.2
       have hms2 : MemN _ _ _ _ _ := ⟨rfl, fs2.1⟩
       have his2 := fs2.2
       have hmt2 : MemN _ _ _ _ _ := ⟨rfl, ft2.1⟩
       have hit2 := ft2.2
       clear hb3 c03 i03 hm3 hi3
       have hb3 : Prt.At _ g3 0 c q := ⟨Mem.of_get at3, h1⟩
       obtain ⟨c03, i03⟩ := hb3.get
       have hm3 : MemN _ _ _ _ _ := ⟨rfl, hb3.1⟩
       have hi3 := hb3.2
       clear i29x2
       have i29x2 := v29x2.inn
       have i31x3 := v31x3.inn
       replace hf0 := hf0.trans le31x3
       refine .orI ?_ ?_
       ·
        refine .c1 rfl rfl rfl rfl (.allocR rfl ze_34_VPrt rfl) ?_
        rintro _ H6x3 ⟨g6x3, rfl, le6x3, ge6x3, at6x3⟩
        replace hbl := hbl.trans le6x3
        refine ⟨hbl, ?_⟩
        have nx_H6x3 := le6x3.1
        replace hle := hle.trans le6x3
        replace at2 := le6x3.2 _ _ at2
        replace at3 := le6x3.2 _ _ at3
        replace lv_v29x2 := Keep.le lv_v29x2 le6x3
        replace v29x2 := bs_v29x2.keep lv_v29x2 (Nat.le_refl _)
        replace lv_v31x3 := Keep.le lv_v31x3 le6x3
        replace v31x3 := bs_v31x3.keep lv_v31x3 (Nat.le_refl _)
        have lt_at6x3 := GHeap.lt_of_get at6x3
        replace h0 := base_h0.mono hle
        replace h1 := base_h1.mono hle
        clear hb2 fs2 ft2 c142 i22 hm2 hi2 hms2 his2 hmt2 hit2
        have hb2 : SMap.At _ g2 0 m p := ⟨Mem.of_get at2, h0⟩
        obtain ⟨fs2, ft2, c142, i22⟩ := hb2.get
        have hm2 : MemN _ _ _ _ _ := ⟨rfl, hb2.1⟩
        have hi2 := hb2.2
        have hms2 : MemN _ _ _ _ _ := ⟨rfl, fs2.1⟩
        have his2 := fs2.2
        have hmt2 : MemN _ _ _ _ _ := ⟨rfl, ft2.1⟩
        have hit2 := ft2.2
        clear hb3 c03 i03 hm3 hi3
        have hb3 : Prt.At _ g3 0 c q := ⟨Mem.of_get at3, h1⟩
        obtain ⟨c03, i03⟩ := hb3.get
        have hm3 : MemN _ _ _ _ _ := ⟨rfl, hb3.1⟩
        have hi3 := hb3.2
        clear i29x2
        have i29x2 := v29x2.inn
        clear i31x3
        have i31x3 := v31x3.inn
        replace hf0 := hf0.trans le6x3
        refine .call1 rfl rfl rfl rfl rfl @Try.call26 rfl (specDirectImage_c) ?_
        rintro _ H32x3 ⟨le32x3, p32x3, rfl, v32x3⟩
        replace hbl := hbl.trans le32x3
        refine ⟨hbl, ?_⟩
        have nx_H32x3 := le32x3.1
        replace hle := hle.trans le32x3
        replace at2 := le32x3.2 _ _ at2
        replace at3 := le32x3.2 _ _ at3
        replace at6x3 := le32x3.2 _ _ at6x3
        replace lv_v29x2 := Keep.le lv_v29x2 le32x3
        replace v29x2 := bs_v29x2.keep lv_v29x2 (Nat.le_refl _)
        replace lv_v31x3 := Keep.le lv_v31x3 le32x3
        replace v31x3 := bs_v31x3.keep lv_v31x3 (Nat.le_refl _)
        have bs_v32x3 := v32x3
        have lv_v32x3 : Keep H6x3.next H32x3 H32x3 := fun _ _ _ h => h
        replace h0 := base_h0.mono hle
        replace h1 := base_h1.mono hle
        clear hb2 fs2 ft2 c142 i22 hm2 hi2 hms2 his2 hmt2 hit2
        have hb2 : SMap.At _ g2 0 m p := ⟨Mem.of_get at2, h0⟩
        obtain ⟨fs2, ft2, c142, i22⟩ := hb2.get
        have hm2 : MemN _ _ _ _ _ := ⟨rfl, hb2.1⟩
        have hi2 := hb2.2
        have hms2 : MemN _ _ _ _ _ := ⟨rfl, fs2.1⟩
        have his2 := fs2.2
        have hmt2 : MemN _ _ _ _ _ := ⟨rfl, ft2.1⟩
        have hit2 := ft2.2
        clear hb3 c03 i03 hm3 hi3
        have hb3 : Prt.At _ g3 0 c q := ⟨Mem.of_get at3, h1⟩
        obtain ⟨c03, i03⟩ := hb3.get
        have hm3 : MemN _ _ _ _ _ := ⟨rfl, hb3.1⟩
        have hi3 := hb3.2
        clear i29x2
        have i29x2 := v29x2.inn
        clear i31x3
        have i31x3 := v31x3.inn
        have i32x3 := v32x3.inn
        replace hf0 := hf0.trans le32x3
        refine .mB rfl rfl rfl rfl hbl (.move rfl) ?_
        refine .mB rfl rfl rfl rfl hbl (.extract rfl rfl) ?_
        refine .mB rfl rfl rfl rfl hbl (.extract rfl rfl) ?_
        refine .r1 rfl rfl rfl (.fillR rfl sz_34_VPrt rfl rfl rfl rfl (by assumption) (by first | rfl | exact Nat.le_of_ble_eq_true rfl | simp)) ?_
        rintro _ H8009x3 ⟨rfl, st8009x3, at8009x3⟩
        replace hbl := hbl.st st8009x3 (fun k hk => ⟨by omega, trivial⟩)
        refine ⟨hbl, ?_⟩
        have nx_H8009x3 := st8009x3.nx
        replace hle := hle.st st8009x3 (fun k hk => ⟨by omega, trivial⟩)
        replace at2 := st8009x3.same _ _ ⟨by omega, trivial⟩ at2
        replace at3 := st8009x3.same _ _ ⟨by omega, trivial⟩ at3
        replace lv_v29x2 := Keep.st lv_v29x2 st8009x3 (fun k hb hk => ⟨by omega, trivial⟩)
        replace v29x2 := bs_v29x2.keep lv_v29x2 (Nat.le_refl _)
        replace lv_v31x3 := Keep.st lv_v31x3 st8009x3 (fun k hb hk => ⟨by omega, trivial⟩)
        replace v31x3 := bs_v31x3.keep lv_v31x3 (Nat.le_refl _)
        replace lv_v32x3 := Keep.st lv_v32x3 st8009x3 (fun k hb hk => ⟨by omega, trivial⟩)
        replace v32x3 := bs_v32x3.keep lv_v32x3 (Nat.le_refl _)
        have lt_at8009x3 := GHeap.lt_of_get at8009x3
        replace h0 := base_h0.mono hle
        replace h1 := base_h1.mono hle
        clear hb2 fs2 ft2 c142 i22 hm2 hi2 hms2 his2 hmt2 hit2
        have hb2 : SMap.At _ g2 0 m p := ⟨Mem.of_get at2, h0⟩
        obtain ⟨fs2, ft2, c142, i22⟩ := hb2.get
        have hm2 : MemN _ _ _ _ _ := ⟨rfl, hb2.1⟩
        have hi2 := hb2.2
        have hms2 : MemN _ _ _ _ _ := ⟨rfl, fs2.1⟩
        have his2 := fs2.2
        have hmt2 : MemN _ _ _ _ _ := ⟨rfl, ft2.1⟩
        have hit2 := ft2.2
        clear hb3 c03 i03 hm3 hi3
        have hb3 : Prt.At _ g3 0 c q := ⟨Mem.of_get at3, h1⟩
        obtain ⟨c03, i03⟩ := hb3.get
        have hm3 : MemN _ _ _ _ _ := ⟨rfl, hb3.1⟩
        have hi3 := hb3.2
        clear i29x2
        have i29x2 := v29x2.inn
        clear i31x3
        have i31x3 := v31x3.inn
        clear i32x3
        have i32x3 := v32x3.inn
        have mm8009x3 : MemN _ _ _ _ _ := ⟨rfl, Mem.of_get at8009x3⟩
        replace hf0 := hf0.st st8009x3 (fun k hk => ⟨by omega, trivial⟩)
        refine .mB rfl rfl rfl rfl hbl (.assign rfl) ?_
        refine .done ?_
        exact ⟨_, p32x3, ⟨rfl, rfl, rfl, rfl, rfl, rfl, rfl, rfl, rfl, rfl, rfl, rfl, rfl, rfl, rfl, rfl, rfl, rfl, trivial⟩, hf0, by omega, at8009x3, v32x3.keep (.of_le (.refl _)) (by omega)⟩
       ·
        refine .call1 rfl rfl rfl rfl rfl @Try.call26 rfl (specDirectImage_c) ?_
        rintro _ H32x4 ⟨le32x4, p32x4, rfl, v32x4⟩
        replace hbl := hbl.trans le32x4
        refine ⟨hbl, ?_⟩
        have nx_H32x4 := le32x4.1
        replace hle := hle.trans le32x4
        replace at2 := le32x4.2 _ _ at2
        replace at3 := le32x4.2 _ _ at3
        replace lv_v29x2 := Keep.le lv_v29x2 le32x4
        replace v29x2 := bs_v29x2.keep lv_v29x2 (Nat.le_refl _)
        replace lv_v31x3 := Keep.le lv_v31x3 le32x4
        replace v31x3 := bs_v31x3.keep lv_v31x3 (Nat.le_refl _)
        have bs_v32x4 := v32x4
        have lv_v32x4 : Keep H31x3.next H32x4 H32x4 := fun _ _ _ h => h
        replace h0 := base_h0.mono hle
        replace h1 := base_h1.mono hle
        clear hb2 fs2 ft2 c142 i22 hm2 hi2 hms2 his2 hmt2 hit2
        have hb2 : SMap.At _ g2 0 m p := ⟨Mem.of_get at2, h0⟩
        obtain ⟨fs2, ft2, c142, i22⟩ := hb2.get
        have hm2 : MemN _ _ _ _ _ := ⟨rfl, hb2.1⟩
        have hi2 := hb2.2
        have hms2 : MemN _ _ _ _ _ := ⟨rfl, fs2.1⟩
        have his2 := fs2.2
        have hmt2 : MemN _ _ _ _ _ := ⟨rfl, ft2.1⟩
        have hit2 := ft2.2
        clear hb3 c03 i03 hm3 hi3
        have hb3 : Prt.At _ g3 0 c q := ⟨Mem.of_get at3, h1⟩
        obtain ⟨c03, i03⟩ := hb3.get
        have hm3 : MemN _ _ _ _ _ := ⟨rfl, hb3.1⟩
        have hi3 := hb3.2
        clear i29x2
        have i29x2 := v29x2.inn
        clear i31x3
        have i31x3 := v31x3.inn
        have i32x4 := v32x4.inn
        replace hf0 := hf0.trans le32x4
        refine .mB rfl rfl rfl rfl hbl (.move rfl) ?_
        refine .mB rfl rfl rfl rfl hbl (.extract rfl rfl) ?_
        refine .mB rfl rfl rfl rfl hbl (.extract rfl rfl) ?_
        refine .c1 rfl rfl rfl rfl (.allocR rfl ze_34_VPrt rfl) ?_
        rintro _ H6x4 ⟨g6x4, rfl, le6x4, ge6x4, at6x4⟩
        replace hbl := hbl.trans le6x4
        refine ⟨hbl, ?_⟩
        have nx_H6x4 := le6x4.1
        replace hle := hle.trans le6x4
        replace at2 := le6x4.2 _ _ at2
        replace at3 := le6x4.2 _ _ at3
        replace lv_v29x2 := Keep.le lv_v29x2 le6x4
        replace v29x2 := bs_v29x2.keep lv_v29x2 (Nat.le_refl _)
        replace lv_v31x3 := Keep.le lv_v31x3 le6x4
        replace v31x3 := bs_v31x3.keep lv_v31x3 (Nat.le_refl _)
        replace lv_v32x4 := Keep.le lv_v32x4 le6x4
        replace v32x4 := bs_v32x4.keep lv_v32x4 (Nat.le_refl _)
        have lt_at6x4 := GHeap.lt_of_get at6x4
        replace h0 := base_h0.mono hle
        replace h1 := base_h1.mono hle
        clear hb2 fs2 ft2 c142 i22 hm2 hi2 hms2 his2 hmt2 hit2
        have hb2 : SMap.At _ g2 0 m p := ⟨Mem.of_get at2, h0⟩
        obtain ⟨fs2, ft2, c142, i22⟩ := hb2.get
        have hm2 : MemN _ _ _ _ _ := ⟨rfl, hb2.1⟩
        have hi2 := hb2.2
        have hms2 : MemN _ _ _ _ _ := ⟨rfl, fs2.1⟩
        have his2 := fs2.2
        have hmt2 : MemN _ _ _ _ _ := ⟨rfl, ft2.1⟩
        have hit2 := ft2.2
        clear hb3 c03 i03 hm3 hi3
        have hb3 : Prt.At _ g3 0 c q := ⟨Mem.of_get at3, h1⟩
        obtain ⟨c03, i03⟩ := hb3.get
        have hm3 : MemN _ _ _ _ _ := ⟨rfl, hb3.1⟩
        have hi3 := hb3.2
        clear i29x2
        have i29x2 := v29x2.inn
        clear i31x3
        have i31x3 := v31x3.inn
        clear i32x4
        have i32x4 := v32x4.inn
        replace hf0 := hf0.trans le6x4
        refine .r1 rfl rfl rfl (.fillR rfl sz_34_VPrt rfl rfl rfl rfl (by assumption) (by first | rfl | exact Nat.le_of_ble_eq_true rfl | simp)) ?_
        rintro _ H8009x4 ⟨rfl, st8009x4, at8009x4⟩
        replace hbl := hbl.st st8009x4 (fun k hk => ⟨by omega, trivial⟩)
        refine ⟨hbl, ?_⟩
        have nx_H8009x4 := st8009x4.nx
        replace hle := hle.st st8009x4 (fun k hk => ⟨by omega, trivial⟩)
        replace at2 := st8009x4.same _ _ ⟨by omega, trivial⟩ at2
        replace at3 := st8009x4.same _ _ ⟨by omega, trivial⟩ at3
        replace lv_v29x2 := Keep.st lv_v29x2 st8009x4 (fun k hb hk => ⟨by omega, trivial⟩)
        replace v29x2 := bs_v29x2.keep lv_v29x2 (Nat.le_refl _)
        replace lv_v31x3 := Keep.st lv_v31x3 st8009x4 (fun k hb hk => ⟨by omega, trivial⟩)
        replace v31x3 := bs_v31x3.keep lv_v31x3 (Nat.le_refl _)
        replace lv_v32x4 := Keep.st lv_v32x4 st8009x4 (fun k hb hk => ⟨by omega, trivial⟩)
        replace v32x4 := bs_v32x4.keep lv_v32x4 (Nat.le_refl _)
        have lt_at8009x4 := GHeap.lt_of_get at8009x4
        replace h0 := base_h0.mono hle
        replace h1 := base_h1.mono hle
        clear hb2 fs2 ft2 c142 i22 hm2 hi2 hms2 his2 hmt2 hit2
        have hb2 : SMap.At _ g2 0 m p := ⟨Mem.of_get at2, h0⟩
        obtain ⟨fs2, ft2, c142, i22⟩ := hb2.get
        have hm2 : MemN _ _ _ _ _ := ⟨rfl, hb2.1⟩
        have hi2 := hb2.2
        have hms2 : MemN _ _ _ _ _ := ⟨rfl, fs2.1⟩
        have his2 := fs2.2
        have hmt2 : MemN _ _ _ _ _ := ⟨rfl, ft2.1⟩
        have hit2 := ft2.2
        clear hb3 c03 i03 hm3 hi3
        have hb3 : Prt.At _ g3 0 c q := ⟨Mem.of_get at3, h1⟩
        obtain ⟨c03, i03⟩ := hb3.get
        have hm3 : MemN _ _ _ _ _ := ⟨rfl, hb3.1⟩
        have hi3 := hb3.2
        clear i29x2
        have i29x2 := v29x2.inn
        clear i31x3
        have i31x3 := v31x3.inn
        clear i32x4
        have i32x4 := v32x4.inn
        have mm8009x4 : MemN _ _ _ _ _ := ⟨rfl, Mem.of_get at8009x4⟩
        replace hf0 := hf0.st st8009x4 (fun k hk => ⟨by omega, trivial⟩)
        refine .mB rfl rfl rfl rfl hbl (.assign rfl) ?_
        refine .done ?_
        exact ⟨_, p32x4, ⟨rfl, rfl, rfl, rfl, rfl, rfl, rfl, rfl, rfl, rfl, rfl, rfl, rfl, rfl, rfl, rfl, rfl, rfl, trivial⟩, hf0, by omega, at8009x4, v32x4.keep (.of_le (.refl _)) (by omega)⟩
    ·
     rintro fr6x5 H6x5 ⟨g6x5, p6x5, hsub6x5, le6x5, ge6x5, at6x5, v6x5⟩
     have nx_H6x5 := le6x5.1
     replace hle := hle.trans le6x5
     replace at2 := le6x5.2 _ _ at2
     replace at3 := le6x5.2 _ _ at3
     have lt_at6x5 := GHeap.lt_of_get at6x5
     have bs_v6x5 := v6x5
     have lv_v6x5 : Keep H3.next H6x5 H6x5 := fun _ _ _ h => h
     replace h0 := base_h0.mono hle
     replace h1 := base_h1.mono hle
     clear hb2 fs2 ft2 c142 i22 hm2 hi2 hms2 his2 hmt2 hit2
     have hb2 : SMap.At _ g2 0 m p := ⟨Mem.of_get at2, h0⟩
     obtain ⟨fs2, ft2, c142, i22⟩ := hb2.get
     have hm2 : MemN _ _ _ _ _ := ⟨rfl, hb2.1⟩
     have hi2 := hb2.2
     have hms2 : MemN _ _ _ _ _ := ⟨rfl, fs2.1⟩
     have his2 := fs2.2
     have hmt2 : MemN _ _ _ _ _ := ⟨rfl, ft2.1⟩
     have hit2 := ft2.2
     clear hb3 c03 i03 hm3 hi3
     have hb3 : Prt.At _ g3 0 c q := ⟨Mem.of_get at3, h1⟩
     obtain ⟨c03, i03⟩ := hb3.get
     have hm3 : MemN _ _ _ _ _ := ⟨rfl, hb3.1⟩
     have hi3 := hb3.2
     have i6x5 := v6x5.inn
     have mm6x5 : MemN _ _ _ _ _ := ⟨rfl, Mem.of_get at6x5⟩
     refine hK11 _ _ ?_
     refine .forget hsub6x5 ?_
     refine .seq (fun K12 hK12 => ?_)
     refine .region ?_
     refine .m rfl rfl rfl (.loadM ag_29_LDirectImage rfl ⟨rfl, Mem.of_get at2⟩) ?_
     refine .call rfl rfl rfl rfl @Try.call10 rfl (toSetMap_c) ?_
     rintro _ H36 ⟨le36, p36, rfl, v36⟩
     have nx_H36 := le36.1
     replace hle := hle.trans le36
     replace at2 := le36.2 _ _ at2
     replace at3 := le36.2 _ _ at3
     replace at6x5 := le36.2 _ _ at6x5
     replace lv_v6x5 := Keep.le lv_v6x5 le36
     replace v6x5 := bs_v6x5.keep lv_v6x5 (Nat.le_refl _)
     have bs_v36 := v36
     have lv_v36 : Keep H6x5.next H36 H36 := fun _ _ _ h => h
     replace h0 := base_h0.mono hle
     replace h1 := base_h1.mono hle
     clear hb2 fs2 ft2 c142 i22 hm2 hi2 hms2 his2 hmt2 hit2
     have hb2 : SMap.At _ g2 0 m p := ⟨Mem.of_get at2, h0⟩
     obtain ⟨fs2, ft2, c142, i22⟩ := hb2.get
     have hm2 : MemN _ _ _ _ _ := ⟨rfl, hb2.1⟩
     have hi2 := hb2.2
     have hms2 : MemN _ _ _ _ _ := ⟨rfl, fs2.1⟩
     have his2 := fs2.2
     have hmt2 : MemN _ _ _ _ _ := ⟨rfl, ft2.1⟩
     have hit2 := ft2.2
     clear hb3 c03 i03 hm3 hi3
     have hb3 : Prt.At _ g3 0 c q := ⟨Mem.of_get at3, h1⟩
     obtain ⟨c03, i03⟩ := hb3.get
     have hm3 : MemN _ _ _ _ _ := ⟨rfl, hb3.1⟩
     have hi3 := hb3.2
     clear i6x5
     have i6x5 := v6x5.inn
     clear mm6x5
     have mm6x5 : MemN _ _ _ _ _ := ⟨rfl, Mem.of_get at6x5⟩
     have i36 := v36.inn
     refine .r rfl rfl rfl (.allocR rfl ze_41_VSMap rfl) ?_
     rintro _ H8 ⟨g8, rfl, le8, ge8, at8⟩
     have nx_H8 := le8.1
     replace hle := hle.trans le8
     replace at2 := le8.2 _ _ at2
     replace at3 := le8.2 _ _ at3
     replace at6x5 := le8.2 _ _ at6x5
     replace lv_v6x5 := Keep.le lv_v6x5 le8
     replace v6x5 := bs_v6x5.keep lv_v6x5 (Nat.le_refl _)
     replace lv_v36 := Keep.le lv_v36 le8
     replace v36 := bs_v36.keep lv_v36 (Nat.le_refl _)
     have lt_at8 := GHeap.lt_of_get at8
     replace h0 := base_h0.mono hle
     replace h1 := base_h1.mono hle
     clear hb2 fs2 ft2 c142 i22 hm2 hi2 hms2 his2 hmt2 hit2
     have hb2 : SMap.At _ g2 0 m p := ⟨Mem.of_get at2, h0⟩
     obtain ⟨fs2, ft2, c142, i22⟩ := hb2.get
     have hm2 : MemN _ _ _ _ _ := ⟨rfl, hb2.1⟩
     have hi2 := hb2.2
     have hms2 : MemN _ _ _ _ _ := ⟨rfl, fs2.1⟩
     have his2 := fs2.2
     have hmt2 : MemN _ _ _ _ _ := ⟨rfl, ft2.1⟩
     have hit2 := ft2.2
     clear hb3 c03 i03 hm3 hi3
     have hb3 : Prt.At _ g3 0 c q := ⟨Mem.of_get at3, h1⟩
     obtain ⟨c03, i03⟩ := hb3.get
     have hm3 : MemN _ _ _ _ _ := ⟨rfl, hb3.1⟩
     have hi3 := hb3.2
     clear i6x5
     have i6x5 := v6x5.inn
     clear mm6x5
     have mm6x5 : MemN _ _ _ _ _ := ⟨rfl, Mem.of_get at6x5⟩
     clear i36
     have i36 := v36.inn
     refine .r0 rfl rfl (.fillR rfl sz_41_VSMap rfl rfl rfl rfl (by assumption) (by first | rfl | exact Nat.le_of_ble_eq_true rfl | simp)) ?_
     rintro _ H9003 ⟨rfl, st9003, at9003⟩
     have nx_H9003 := st9003.nx
     replace hle := hle.st st9003 (fun k hk => ⟨by omega, trivial⟩)
     replace at2 := st9003.same _ _ ⟨by omega, trivial⟩ at2
     replace at3 := st9003.same _ _ ⟨by omega, trivial⟩ at3
     replace at6x5 := st9003.same _ _ ⟨by omega, trivial⟩ at6x5
     replace lv_v6x5 := Keep.st lv_v6x5 st9003 (fun k hb hk => ⟨by omega, trivial⟩)
     replace v6x5 := bs_v6x5.keep lv_v6x5 (Nat.le_refl _)
     replace lv_v36 := Keep.st lv_v36 st9003 (fun k hb hk => ⟨by omega, trivial⟩)
     replace v36 := bs_v36.keep lv_v36 (Nat.le_refl _)
     have lt_at9003 := GHeap.lt_of_get at9003
     replace h0 := base_h0.mono hle
     replace h1 := base_h1.mono hle
     clear hb2 fs2 ft2 c142 i22 hm2 hi2 hms2 his2 hmt2 hit2
     have hb2 : SMap.At _ g2 0 m p := ⟨Mem.of_get at2, h0⟩
     obtain ⟨fs2, ft2, c142, i22⟩ := hb2.get
     have hm2 : MemN _ _ _ _ _ := ⟨rfl, hb2.1⟩
     have hi2 := hb2.2
     have hms2 : MemN _ _ _ _ _ := ⟨rfl, fs2.1⟩
     have his2 := fs2.2
     have hmt2 : MemN _ _ _ _ _ := ⟨rfl, ft2.1⟩
     have hit2 := ft2.2
     clear hb3 c03 i03 hm3 hi3
     have hb3 : Prt.At _ g3 0 c q := ⟨Mem.of_get at3, h1⟩
     obtain ⟨c03, i03⟩ := hb3.get
     have hm3 : MemN _ _ _ _ _ := ⟨rfl, hb3.1⟩
     have hi3 := hb3.2
     clear i6x5
     have i6x5 := v6x5.inn
     clear mm6x5
     have mm6x5 : MemN _ _ _ _ _ := ⟨rfl, Mem.of_get at6x5⟩
     clear i36
     have i36 := v36.inn
     have mm9003 : MemN _ _ _ _ _ := ⟨rfl, Mem.of_get at9003⟩
     refine .nil ?_
     refine hK12 _ _ ?_
     refine .seq (fun K13 hK13 => ?_)
     refine .region ?_
     refine .m rfl rfl rfl (.loadM ag_31_LDirectImage rfl ⟨rfl, Mem.of_get at3⟩) ?_
     refine .call rfl rfl rfl rfl @Try.call11 rfl (toPart_c) ?_
     rintro _ H38 ⟨le38, p38, rfl, v38⟩
     have nx_H38 := le38.1
     replace hle := hle.trans le38
     replace at2 := le38.2 _ _ at2
     replace at3 := le38.2 _ _ at3
     replace at6x5 := le38.2 _ _ at6x5
     replace at9003 := le38.2 _ _ at9003
     replace lv_v6x5 := Keep.le lv_v6x5 le38
     replace v6x5 := bs_v6x5.keep lv_v6x5 (Nat.le_refl _)
     replace lv_v36 := Keep.le lv_v36 le38
     replace v36 := bs_v36.keep lv_v36 (Nat.le_refl _)
     have bs_v38 := v38
     have lv_v38 : Keep H9003.next H38 H38 := fun _ _ _ h => h
     replace h0 := base_h0.mono hle
     replace h1 := base_h1.mono hle
     clear hb2 fs2 ft2 c142 i22 hm2 hi2 hms2 his2 hmt2 hit2
     have hb2 : SMap.At _ g2 0 m p := ⟨Mem.of_get at2, h0⟩
     obtain ⟨fs2, ft2, c142, i22⟩ := hb2.get
     have hm2 : MemN _ _ _ _ _ := ⟨rfl, hb2.1⟩
     have hi2 := hb2.2
     have hms2 : MemN _ _ _ _ _ := ⟨rfl, fs2.1⟩
     have his2 := fs2.2
     have hmt2 : MemN _ _ _ _ _ := ⟨rfl, ft2.1⟩
     have hit2 := ft2.2
     clear hb3 c03 i03 hm3 hi3
     have hb3 : Prt.At _ g3 0 c q := ⟨Mem.of_get at3, h1⟩
     obtain ⟨c03, i03⟩ := hb3.get
     have hm3 : MemN _ _ _ _ _ := ⟨rfl, hb3.1⟩
     have hi3 := hb3.2
     clear i6x5
     have i6x5 := v6x5.inn
     clear mm6x5
     have mm6x5 : MemN _ _ _ _ _ := ⟨rfl, Mem.of_get at6x5⟩
     clear i36
     have i36 := v36.inn
     clear mm9003
     have mm9003 : MemN _ _ _ _ _ := ⟨rfl, Mem.of_get at9003⟩
     have i38 := v38.inn
     refine .r rfl rfl rfl (.allocR rfl ze_34_VPrt rfl) ?_
     rintro _ H9 ⟨g9, rfl, le9, ge9, at9⟩
     have nx_H9 := le9.1
     replace hle := hle.trans le9
     replace at2 := le9.2 _ _ at2
     replace at3 := le9.2 _ _ at3
     replace at6x5 := le9.2 _ _ at6x5
     replace at9003 := le9.2 _ _ at9003
     replace lv_v6x5 := Keep.le lv_v6x5 le9
     replace v6x5 := bs_v6x5.keep lv_v6x5 (Nat.le_refl _)
     replace lv_v36 := Keep.le lv_v36 le9
     replace v36 := bs_v36.keep lv_v36 (Nat.le_refl _)
     replace lv_v38 := Keep.le lv_v38 le9
     replace v38 := bs_v38.keep lv_v38 (Nat.le_refl _)
     have lt_at9 := GHeap.lt_of_get at9
     replace h0 := base_h0.mono hle
     replace h1 := base_h1.mono hle
     clear hb2 fs2 ft2 c142 i22 hm2 hi2 hms2 his2 hmt2 hit2
     have hb2 : SMap.At _ g2 0 m p := ⟨Mem.of_get at2, h0⟩
     obtain ⟨fs2, ft2, c142, i22⟩ := hb2.get
     have hm2 : MemN _ _ _ _ _ := ⟨rfl, hb2.1⟩
     have hi2 := hb2.2
     have hms2 : MemN _ _ _ _ _ := ⟨rfl, fs2.1⟩
     have his2 := fs2.2
     have hmt2 : MemN _ _ _ _ _ := ⟨rfl, ft2.1⟩
     have hit2 := ft2.2
     clear hb3 c03 i03 hm3 hi3
     have hb3 : Prt.At _ g3 0 c q := ⟨Mem.of_get at3, h1⟩
     obtain ⟨c03, i03⟩ := hb3.get
     have hm3 : MemN _ _ _ _ _ := ⟨rfl, hb3.1⟩
     have hi3 := hb3.2
     clear i6x5
     have i6x5 := v6x5.inn
     clear mm6x5
     have mm6x5 : MemN _ _ _ _ _ := ⟨rfl, Mem.of_get at6x5⟩
     clear i36
     have i36 := v36.inn
     clear mm9003
     have mm9003 : MemN _ _ _ _ _ := ⟨rfl, Mem.of_get at9003⟩
     clear i38
     have i38 := v38.inn
     refine .r0 rfl rfl (.fillR rfl sz_34_VPrt rfl rfl rfl rfl (by assumption) (by first | rfl | exact Nat.le_of_ble_eq_true rfl | simp)) ?_
     rintro _ H10003 ⟨rfl, st10003, at10003⟩
     have nx_H10003 := st10003.nx
     replace hle := hle.st st10003 (fun k hk => ⟨by omega, trivial⟩)
     replace at2 := st10003.same _ _ ⟨by omega, trivial⟩ at2
     replace at3 := st10003.same _ _ ⟨by omega, trivial⟩ at3
     replace at6x5 := st10003.same _ _ ⟨by omega, trivial⟩ at6x5
     replace at9003 := st10003.same _ _ ⟨by omega, trivial⟩ at9003
     replace lv_v6x5 := Keep.st lv_v6x5 st10003 (fun k hb hk => ⟨by omega, trivial⟩)
     replace v6x5 := bs_v6x5.keep lv_v6x5 (Nat.le_refl _)
     replace lv_v36 := Keep.st lv_v36 st10003 (fun k hb hk => ⟨by omega, trivial⟩)
     replace v36 := bs_v36.keep lv_v36 (Nat.le_refl _)
     replace lv_v38 := Keep.st lv_v38 st10003 (fun k hb hk => ⟨by omega, trivial⟩)
     replace v38 := bs_v38.keep lv_v38 (Nat.le_refl _)
     have lt_at10003 := GHeap.lt_of_get at10003
     replace h0 := base_h0.mono hle
     replace h1 := base_h1.mono hle
     clear hb2 fs2 ft2 c142 i22 hm2 hi2 hms2 his2 hmt2 hit2
     have hb2 : SMap.At _ g2 0 m p := ⟨Mem.of_get at2, h0⟩
     obtain ⟨fs2, ft2, c142, i22⟩ := hb2.get
     have hm2 : MemN _ _ _ _ _ := ⟨rfl, hb2.1⟩
     have hi2 := hb2.2
     have hms2 : MemN _ _ _ _ _ := ⟨rfl, fs2.1⟩
     have his2 := fs2.2
     have hmt2 : MemN _ _ _ _ _ := ⟨rfl, ft2.1⟩
     have hit2 := ft2.2
     clear hb3 c03 i03 hm3 hi3
     have hb3 : Prt.At _ g3 0 c q := ⟨Mem.of_get at3, h1⟩
     obtain ⟨c03, i03⟩ := hb3.get
     have hm3 : MemN _ _ _ _ _ := ⟨rfl, hb3.1⟩
     have hi3 := hb3.2
     clear i6x5
     have i6x5 := v6x5.inn
     clear mm6x5
     have mm6x5 : MemN _ _ _ _ _ := ⟨rfl, Mem.of_get at6x5⟩
     clear i36
     have i36 := v36.inn
     clear mm9003
     have mm9003 : MemN _ _ _ _ _ := ⟨rfl, Mem.of_get at9003⟩
     clear i38
     have i38 := v38.inn
     have mm10003 : MemN _ _ _ _ _ := ⟨rfl, Mem.of_get at10003⟩
     refine .nil ?_
     refine hK13 _ _ ?_
     refine .seq (fun K14 hK14 => ?_)
     refine .region ?_
     refine .m rfl rfl rfl (.loadM ag_41_VSMap rfl ⟨rfl, Mem.of_get at9003⟩) ?_
     refine .m rfl rfl rfl (.loadM ag_34_VPrt rfl ⟨rfl, Mem.of_get at10003⟩) ?_
     refine .call rfl rfl rfl rfl @Try.call27 rfl (implDirectImage_c) ?_
     rintro _ H42 ⟨le42, p42, rfl, v42⟩
     have nx_H42 := le42.1
     replace hle := hle.trans le42
     replace at2 := le42.2 _ _ at2
     replace at3 := le42.2 _ _ at3
     replace at6x5 := le42.2 _ _ at6x5
     replace at9003 := le42.2 _ _ at9003
     replace at10003 := le42.2 _ _ at10003
     replace lv_v6x5 := Keep.le lv_v6x5 le42
     replace v6x5 := bs_v6x5.keep lv_v6x5 (Nat.le_refl _)
     replace lv_v36 := Keep.le lv_v36 le42
     replace v36 := bs_v36.keep lv_v36 (Nat.le_refl _)
     replace lv_v38 := Keep.le lv_v38 le42
     replace v38 := bs_v38.keep lv_v38 (Nat.le_refl _)
     have bs_v42 := v42
     have lv_v42 : Keep H10003.next H42 H42 := fun _ _ _ h => h
     replace h0 := base_h0.mono hle
     replace h1 := base_h1.mono hle
     clear hb2 fs2 ft2 c142 i22 hm2 hi2 hms2 his2 hmt2 hit2
     have hb2 : SMap.At _ g2 0 m p := ⟨Mem.of_get at2, h0⟩
     obtain ⟨fs2, ft2, c142, i22⟩ := hb2.get
     have hm2 : MemN _ _ _ _ _ := ⟨rfl, hb2.1⟩
     have hi2 := hb2.2
     have hms2 : MemN _ _ _ _ _ := ⟨rfl, fs2.1⟩
     have his2 := fs2.2
     have hmt2 : MemN _ _ _ _ _ := ⟨rfl, ft2.1⟩
     have hit2 := ft2.2
     clear hb3 c03 i03 hm3 hi3
     have hb3 : Prt.At _ g3 0 c q := ⟨Mem.of_get at3, h1⟩
     obtain ⟨c03, i03⟩ := hb3.get
     have hm3 : MemN _ _ _ _ _ := ⟨rfl, hb3.1⟩
     have hi3 := hb3.2
     clear i6x5
     have i6x5 := v6x5.inn
     clear mm6x5
     have mm6x5 : MemN _ _ _ _ _ := ⟨rfl, Mem.of_get at6x5⟩
     clear i36
     have i36 := v36.inn
     clear mm9003
     have mm9003 : MemN _ _ _ _ _ := ⟨rfl, Mem.of_get at9003⟩
     clear i38
     have i38 := v38.inn
     clear mm10003
     have mm10003 : MemN _ _ _ _ _ := ⟨rfl, Mem.of_get at10003⟩
     have i42 := v42.inn
     refine .m rfl rfl rfl (.move rfl) ?_
     refine .m rfl rfl rfl (.extract rfl rfl) ?_
     refine .m rfl rfl rfl (.extract rfl rfl) ?_
     refine .r rfl rfl rfl (.allocR rfl ze_34_VPrt rfl) ?_
     rintro _ H10 ⟨g10, rfl, le10, ge10, at10⟩
     have nx_H10 := le10.1
     replace hle := hle.trans le10
     replace at2 := le10.2 _ _ at2
     replace at3 := le10.2 _ _ at3
     replace at6x5 := le10.2 _ _ at6x5
     replace at9003 := le10.2 _ _ at9003
     replace at10003 := le10.2 _ _ at10003
     replace lv_v6x5 := Keep.le lv_v6x5 le10
     replace v6x5 := bs_v6x5.keep lv_v6x5 (Nat.le_refl _)
     replace lv_v36 := Keep.le lv_v36 le10
     replace v36 := bs_v36.keep lv_v36 (Nat.le_refl _)
     replace lv_v38 := Keep.le lv_v38 le10
     replace v38 := bs_v38.keep lv_v38 (Nat.le_refl _)
     replace lv_v42 := Keep.le lv_v42 le10
     replace v42 := bs_v42.keep lv_v42 (Nat.le_refl _)
     have lt_at10 := GHeap.lt_of_get at10
     replace h0 := base_h0.mono hle
     replace h1 := base_h1.mono hle
     clear hb2 fs2 ft2 c142 i22 hm2 hi2 hms2 his2 hmt2 hit2
     have hb2 : SMap.At _ g2 0 m p := ⟨Mem.of_get at2, h0⟩
     obtain ⟨fs2, ft2, c142, i22⟩ := hb2.get
     have hm2 : MemN _ _ _ _ _ := ⟨rfl, hb2.1⟩
     have hi2 := hb2.2
     have hms2 : MemN _ _ _ _ _ := ⟨rfl, fs2.1⟩
     have his2 := fs2.2
     have hmt2 : MemN _ _ _ _ _ := ⟨rfl, ft2.1⟩
     have hit2 := ft2.2
     clear hb3 c03 i03 hm3 hi3
     have hb3 : Prt.At _ g3 0 c q := ⟨Mem.of_get at3, h1⟩
     obtain ⟨c03, i03⟩ := hb3.get
     have hm3 : MemN _ _ _ _ _ := ⟨rfl, hb3.1⟩
     have hi3 := hb3.2
     clear i6x5
     have i6x5 := v6x5.inn
     clear mm6x5
     have mm6x5 : MemN _ _ _ _ _ := ⟨rfl, Mem.of_get at6x5⟩
     clear i36
     have i36 := v36.inn
     clear mm9003
     have mm9003 : MemN _ _ _ _ _ := ⟨rfl, Mem.of_get at9003⟩
     clear i38
     have i38 := v38.inn
     clear mm10003
     have mm10003 : MemN _ _ _ _ _ := ⟨rfl, Mem.of_get at10003⟩
     clear i42
     have i42 := v42.inn
     refine .r0 rfl rfl (.fillR rfl sz_34_VPrt rfl rfl rfl rfl (by assumption) (by first | rfl | exact Nat.le_of_ble_eq_true rfl | simp)) ?_
     rintro _ H11007 ⟨rfl, st11007, at11007⟩
     have nx_H11007 := st11007.nx
     replace hle := hle.st st11007 (fun k hk => ⟨by omega, trivial⟩)
     replace at2 := st11007.same _ _ ⟨by omega, trivial⟩ at2
     replace at3 := st11007.same _ _ ⟨by omega, trivial⟩ at3
     replace at6x5 := st11007.same _ _ ⟨by omega, trivial⟩ at6x5
     replace at9003 := st11007.same _ _ ⟨by omega, trivial⟩ at9003
     replace at10003 := st11007.same _ _ ⟨by omega, trivial⟩ at10003
     replace lv_v6x5 := Keep.st lv_v6x5 st11007 (fun k hb hk => ⟨by omega, trivial⟩)
     replace v6x5 := bs_v6x5.keep lv_v6x5 (Nat.le_refl _)
     replace lv_v36 := Keep.st lv_v36 st11007 (fun k hb hk => ⟨by omega, trivial⟩)
     replace v36 := bs_v36.keep lv_v36 (Nat.le_refl _)
     replace lv_v38 := Keep.st lv_v38 st11007 (fun k hb hk => ⟨by omega, trivial⟩)
     replace v38 := bs_v38.keep lv_v38 (Nat.le_refl _)
     replace lv_v42 := Keep.st lv_v42 st11007 (fun k hb hk => ⟨by omega, trivial⟩)
     replace v42 := bs_v42.keep lv_v42 (Nat.le_refl _)
     have lt_at11007 := GHeap.lt_of_get at11007
     replace h0 := base_h0.mono hle
     replace h1 := base_h1.mono hle
     clear hb2 fs2 ft2 c142 i22 hm2 hi2 hms2 his2 hmt2 hit2
     have hb2 : SMap.At _ g2 0 m p := ⟨Mem.of_get at2, h0⟩
     obtain ⟨fs2, ft2, c142, i22⟩ := hb2.get
     have hm2 : MemN _ _ _ _ _ := ⟨rfl, hb2.1⟩
     have hi2 := hb2.2
     have hms2 : MemN _ _ _ _ _ := ⟨rfl, fs2.1⟩
     have his2 := fs2.2
     have hmt2 : MemN _ _ _ _ _ := ⟨rfl, ft2.1⟩
     have hit2 := ft2.2
     clear hb3 c03 i03 hm3 hi3
     have hb3 : Prt.At _ g3 0 c q := ⟨Mem.of_get at3, h1⟩
     obtain ⟨c03, i03⟩ := hb3.get
     have hm3 : MemN _ _ _ _ _ := ⟨rfl, hb3.1⟩
     have hi3 := hb3.2
     clear i6x5
     have i6x5 := v6x5.inn
     clear mm6x5
     have mm6x5 : MemN _ _ _ _ _ := ⟨rfl, Mem.of_get at6x5⟩
     clear i36
     have i36 := v36.inn
     clear mm9003
     have mm9003 : MemN _ _ _ _ _ := ⟨rfl, Mem.of_get at9003⟩
     clear i38
     have i38 := v38.inn
     clear mm10003
     have mm10003 : MemN _ _ _ _ _ := ⟨rfl, Mem.of_get at10003⟩
     clear i42
     have i42 := v42.inn
     have mm11007 : MemN _ _ _ _ _ := ⟨rfl, Mem.of_get at11007⟩
     refine .m rfl rfl rfl (.assign rfl) ?_
     refine .nil ?_
     refine hK14 _ _ ?_
     refine .seq (fun K15 hK15 => ?_)
     refine .seq (fun K16 hK16 => ?_)
     refine .region ?_
     refine .m rfl rfl rfl (.loadM ag_34_VPrt rfl ⟨rfl, Mem.of_get at11007⟩) ?_
     refine .m rfl rfl rfl (.loadM ag_34_VPrt rfl ⟨rfl, Mem.of_get at6x5⟩) ?_
     refine .callQ rfl rfl rfl rfl @Try.call13 rfl (eqPart_c) ?_
     refine .m rfl rfl rfl (.not rfl) ?_
     refine .m rfl rfl rfl (.move rfl) ?_
     refine .split (fun h49 => ?_) (fun h49 => ?_)
     ·
      try simp only [sps] at h49
      refine .sg rfl rfl rfl rfl rfl ?_
      refine .sg rfl rfl rfl rfl rfl ?_
      refine .sg rfl rfl rfl rfl rfl ?_
      refine .m rfl rfl rfl (.pickT rfl rfl) ?_
      refine .nil ?_
      refine hK16 _ _ ?_
      refine .condT rfl ?_
      refine .seq (fun K17 hK17 => ?_)
      refine .region ?_
      refine .m rfl rfl rfl (.assign rfl) ?_
      refine .nil ?_
      refine hK17 _ _ ?_
      refine .ret ?_
      -- leaf e3
      refine hret _ _ ?_
      refine ⟨_, rfl, ?_⟩
      first
      | exact rfl
      | exact absurd trivial (by assumption)
      | contradiction
      | (exfalso; omega)
     ·
      try simp only [sps] at h49
      refine .mg rfl rfl rfl rfl rfl (.move rfl) ?_
      refine .mg rfl rfl rfl rfl rfl (.move rfl) ?_
      refine .mg rfl rfl rfl rfl rfl (.cmp rfl rfl rfl) ?_
      refine .m rfl rfl rfl (.pickF rfl rfl) ?_
      refine .nil ?_
      refine hK16 _ _ ?_
      refine .cond rfl (fun h53 => ?_) (fun h53 => ?_)
      ·
       try simp only [sps] at h53
       refine .seq (fun K18 hK18 => ?_)
       refine .region ?_
       refine .m rfl rfl rfl (.assign rfl) ?_
       refine .nil ?_
       refine hK18 _ _ ?_
       refine .ret ?_
       -- leaf e4
       refine hret _ _ ?_
       refine ⟨_, rfl, ?_⟩
       first
       | exact rfl
       | exact absurd trivial (by assumption)
       | contradiction
       | (exfalso; omega)
      ·
       try simp only [sps] at h53
       refine .skip ?_
       refine hK15 _ _ ?_
       refine .seq (fun K19 hK19 => ?_)
       refine .seq (fun K20 hK20 => ?_)
       refine .regionD mixed_orders_B (.q 0 (.q 1 (.c 2 1 (.c 3 0 (.q 4 (.done)))))) (by kernel_rfl) ?_
       refine .m rfl rfl rfl rfl (.refl _) (.loadM ag_41_VSMap rfl ⟨rfl, Mem.of_get at9003⟩) ?_
       refine .m rfl rfl rfl rfl (.refl _) (.loadM ag_29_LDirectImage rfl ⟨rfl, Mem.of_get at2⟩) ?_
       refine .call1 rfl rfl rfl rfl rfl @Try.call10 rfl (toSetMap_c) ?_
       rintro _ H56 ⟨le56, p56, rfl, v56⟩
       have hbl := le56
       refine ⟨hbl, ?_⟩
       have nx_H56 := le56.1
       replace hle := hle.trans le56
       replace at2 := le56.2 _ _ at2
       replace at3 := le56.2 _ _ at3
       replace at6x5 := le56.2 _ _ at6x5
       replace at9003 := le56.2 _ _ at9003
       replace at10003 := le56.2 _ _ at10003
       replace at11007 := le56.2 _ _ at11007
       replace lv_v6x5 := Keep.le lv_v6x5 le56
       replace v6x5 := bs_v6x5.keep lv_v6x5 (Nat.le_refl _)
       replace lv_v36 := Keep.le lv_v36 le56
       replace v36 := bs_v36.keep lv_v36 (Nat.le_refl _)
       replace lv_v38 := Keep.le lv_v38 le56
       replace v38 := bs_v38.keep lv_v38 (Nat.le_refl _)
       replace lv_v42 := Keep.le lv_v42 le56
       replace v42 := bs_v42.keep lv_v42 (Nat.le_refl _)
       have bs_v56 := v56
       have lv_v56 : Keep H11007.next H56 H56 := fun _ _ _ h => h
       replace h0 := base_h0.mono hle
       replace h1 := base_h1.mono hle
       clear hb2 fs2 ft2 c142 i22 hm2 hi2 hms2 his2 hmt2 hit2
       have hb2 : SMap.At _ g2 0 m p := ⟨Mem.of_get at2, h0⟩
       obtain ⟨fs2, ft2, c142, i22⟩ := hb2.get
       have hm2 : MemN _ _ _ _ _ := ⟨rfl, hb2.1⟩
       have hi2 := hb2.2
       have hms2 : MemN _ _ _ _ _ := ⟨rfl, fs2.1⟩
       have his2 := fs2.2
       have hmt2 : MemN _ _ _ _ _ := ⟨rfl, ft2.1⟩
       have hit2 := ft2.2
       clear hb3 c03 i03 hm3 hi3
       have hb3 : Prt.At _ g3 0 c q := ⟨Mem.of_get at3, h1⟩
       obtain ⟨c03, i03⟩ := hb3.get
       have hm3 : MemN _ _ _ _ _ := ⟨rfl, hb3.1⟩
       have hi3 := hb3.2
       clear i6x5
       have i6x5 := v6x5.inn
       clear mm6x5
       have mm6x5 : MemN _ _ _ _ _ := ⟨rfl, Mem.of_get at6x5⟩
       clear i36
       have i36 := v36.inn
       clear mm9003
       have mm9003 : MemN _ _ _ _ _ := ⟨rfl, Mem.of_get at9003⟩
       clear i38
       have i38 := v38.inn
       clear mm10003
       have mm10003 : MemN _ _ _ _ _ := ⟨rfl, Mem.of_get at10003⟩
       clear i42
       have i42 := v42.inn
       clear mm11007
       have mm11007 : MemN _ _ _ _ _ := ⟨rfl, Mem.of_get at11007⟩
       have i56 := v56.inn
       refine .callQ0 rfl rfl rfl rfl rfl @Try.call14 rfl (eqSetMap_c) ?_
       refine .m rfl rfl rfl rfl (.refl _) (.not rfl) ?_
       refine .done ?_
       refine hK20 _ _ ?_
       refine .cond rfl (fun h58 => ?_) (fun h58 => ?_)
       ·
        try simp only [sps] at h58
        refine .seq (fun K21 hK21 => ?_)
        refine .region ?_
        refine .m rfl rfl rfl (.assign rfl) ?_
        refine .nil ?_
        refine hK21 _ _ ?_
        refine .ret ?_
        -- leaf e5
        refine hret _ _ ?_
        refine ⟨_, rfl, ?_⟩
        first
        | exact rfl
        | exact absurd trivial (by assumption)
        | contradiction
        | (exfalso; omega)
       ·
        try simp only [sps] at h58
        refine .skip ?_
        refine hK19 _ _ ?_
        refine .seq (fun K22 hK22 => ?_)
        refine .seq (fun K23 hK23 => ?_)
        refine .regionD mixed_orders_B (.q 0 (.q 1 (.c 2 1 (.c 3 0 (.q 4 (.done)))))) (by kernel_rfl) ?_
        refine .m rfl rfl rfl rfl (.refl _) (.loadM ag_34_VPrt rfl ⟨rfl, Mem.of_get at10003⟩) ?_
        refine .m rfl rfl rfl rfl (.refl _) (.loadM ag_31_LDirectImage rfl ⟨rfl, Mem.of_get at3⟩) ?_
        refine .call1 rfl rfl rfl rfl rfl @Try.call11 rfl (toPart_c) ?_
        rintro _ H61 ⟨le61, p61, rfl, v61⟩
        have hbl := le61
        refine ⟨hbl, ?_⟩
        have nx_H61 := le61.1
        replace hle := hle.trans le61
        replace at2 := le61.2 _ _ at2
        replace at3 := le61.2 _ _ at3
        replace at6x5 := le61.2 _ _ at6x5
        replace at9003 := le61.2 _ _ at9003
        replace at10003 := le61.2 _ _ at10003
        replace at11007 := le61.2 _ _ at11007
        replace lv_v6x5 := Keep.le lv_v6x5 le61
        replace v6x5 := bs_v6x5.keep lv_v6x5 (Nat.le_refl _)
        replace lv_v36 := Keep.le lv_v36 le61
        replace v36 := bs_v36.keep lv_v36 (Nat.le_refl _)
        replace lv_v38 := Keep.le lv_v38 le61
        replace v38 := bs_v38.keep lv_v38 (Nat.le_refl _)
        replace lv_v42 := Keep.le lv_v42 le61
        replace v42 := bs_v42.keep lv_v42 (Nat.le_refl _)
        replace lv_v56 := Keep.le lv_v56 le61
        replace v56 := bs_v56.keep lv_v56 (Nat.le_refl _)
        have bs_v61 := v61
        have lv_v61 : Keep H56.next H61 H61 := fun _ _ _ h => h
        replace h0 := base_h0.mono hle
        replace h1 := base_h1.mono hle
        clear hb2 fs2 ft2 c142 i22 hm2 hi2 hms2 his2 hmt2 hit2
        have hb2 : SMap.At _ g2 0 m p := ⟨Mem.of_get at2, h0⟩
        obtain ⟨fs2, ft2, c142, i22⟩ := hb2.get
        have hm2 : MemN _ _ _ _ _ := ⟨rfl, hb2.1⟩
        have hi2 := hb2.2
        have hms2 : MemN _ _ _ _ _ := ⟨rfl, fs2.1⟩
        have his2 := fs2.2
        have hmt2 : MemN _ _ _ _ _ := ⟨rfl, ft2.1⟩
        have hit2 := ft2.2
        clear hb3 c03 i03 hm3 hi3
        have hb3 : Prt.At _ g3 0 c q := ⟨Mem.of_get at3, h1⟩
        obtain ⟨c03, i03⟩ := hb3.get
        have hm3 : MemN _ _ _ _ _ := ⟨rfl, hb3.1⟩
        have hi3 := hb3.2
        clear i6x5
        have i6x5 := v6x5.inn
        clear mm6x5
        have mm6x5 : MemN _ _ _ _ _ := ⟨rfl, Mem.of_get at6x5⟩
        clear i36
        have i36 := v36.inn
        clear mm9003
        have mm9003 : MemN _ _ _ _ _ := ⟨rfl, Mem.of_get at9003⟩
        clear i38
        have i38 := v38.inn
        clear mm10003
        have mm10003 : MemN _ _ _ _ _ := ⟨rfl, Mem.of_get at10003⟩
        clear i42
        have i42 := v42.inn
        clear mm11007
        have mm11007 : MemN _ _ _ _ _ := ⟨rfl, Mem.of_get at11007⟩
        clear i56
        have i56 := v56.inn
        have i61 := v61.inn
        refine .callQ0 rfl rfl rfl rfl rfl @Try.call13 rfl (eqPart_c) ?_
        refine .m rfl rfl rfl rfl (.refl _) (.not rfl) ?_
        refine .done ?_
        refine hK23 _ _ ?_
        refine .cond rfl (fun h63 => ?_) (fun h63 => ?_)
        ·
         try simp only [sps] at h63
         refine .seq (fun K24 hK24 => ?_)
         refine .region ?_
         refine .m rfl rfl rfl (.assign rfl) ?_
         refine .nil ?_
         refine hK24 _ _ ?_
         refine .ret ?_
         -- leaf e6
         refine hret _ _ ?_
         refine ⟨_, rfl, ?_⟩
         first
         | exact rfl
         | exact absurd trivial (by assumption)
         | contradiction
         | (exfalso; omega)
        ·
         try simp only [sps] at h63
         refine .skip ?_
         refine hK22 _ _ ?_
         refine .seq (fun K25 hK25 => ?_)
         refine .region ?_
         refine .m rfl rfl rfl (.assign rfl) ?_
         refine .nil ?_
         refine hK25 _ _ ?_
         refine .seq (fun K26 hK26 => ?_)
         refine .region ?_
         refine .m rfl rfl rfl (.loadM ag_41_VSMap rfl ⟨rfl, Mem.of_get at9003⟩) ?_
         refine .m rfl rfl rfl (.move rfl) ?_
         have w_v36 := SMapW.of_at bs_v36 lv_v36
         refine .call rfl rfl rfl rfl @Try.call15 rfl (markSetMap_c) ?_
         rintro _ H66 ⟨rfl, mk66⟩
         have sm66 := mk66.stm
         have nx_H66 := sm66.nx
         replace hle := StM.le_left hle sm66 (by omega)
         replace at2 := sm66.same _ _ (by omega) at2
         replace at3 := sm66.same _ _ (by omega) at3
         replace at6x5 := sm66.same _ _ (by omega) at6x5
         replace at9003 := sm66.same _ _ (by omega) at9003
         replace at10003 := sm66.same _ _ (by omega) at10003
         replace at11007 := sm66.same _ _ (by omega) at11007
         replace lv_v6x5 := Keep.stM lv_v6x5 sm66 (fun k hb hk => by omega)
         replace v6x5 := bs_v6x5.keep lv_v6x5 (Nat.le_refl _)
         replace lv_v38 := Keep.stM lv_v38 sm66 (fun k hb hk => by omega)
         replace v38 := bs_v38.keep lv_v38 (Nat.le_refl _)
         replace lv_v42 := Keep.stM lv_v42 sm66 (fun k hb hk => by omega)
         replace v42 := bs_v42.keep lv_v42 (Nat.le_refl _)
         replace lv_v56 := Keep.stM lv_v56 sm66 (fun k hb hk => by omega)
         replace v56 := bs_v56.keep lv_v56 (Nat.le_refl _)
         replace lv_v61 := Keep.stM lv_v61 sm66 (fun k hb hk => by omega)
         replace v61 := bs_v61.keep lv_v61 (Nat.le_refl _)
         replace h0 := base_h0.mono hle
         replace h1 := base_h1.mono hle
         clear hb2 fs2 ft2 c142 i22 hm2 hi2 hms2 his2 hmt2 hit2
         have hb2 : SMap.At _ g2 0 m p := ⟨Mem.of_get at2, h0⟩
         obtain ⟨fs2, ft2, c142, i22⟩ := hb2.get
         have hm2 : MemN _ _ _ _ _ := ⟨rfl, hb2.1⟩
         have hi2 := hb2.2
         have hms2 : MemN _ _ _ _ _ := ⟨rfl, fs2.1⟩
         have his2 := fs2.2
         have hmt2 : MemN _ _ _ _ _ := ⟨rfl, ft2.1⟩
         have hit2 := ft2.2
         clear hb3 c03 i03 hm3 hi3
         have hb3 : Prt.At _ g3 0 c q := ⟨Mem.of_get at3, h1⟩
         obtain ⟨c03, i03⟩ := hb3.get
         have hm3 : MemN _ _ _ _ _ := ⟨rfl, hb3.1⟩
         have hi3 := hb3.2
         clear i6x5
         have i6x5 := v6x5.inn
         clear mm6x5
         have mm6x5 : MemN _ _ _ _ _ := ⟨rfl, Mem.of_get at6x5⟩
         clear mm9003
         have mm9003 : MemN _ _ _ _ _ := ⟨rfl, Mem.of_get at9003⟩
         clear i38
         have i38 := v38.inn
         clear mm10003
         have mm10003 : MemN _ _ _ _ _ := ⟨rfl, Mem.of_get at10003⟩
         clear i42
         have i42 := v42.inn
         clear mm11007
         have mm11007 : MemN _ _ _ _ _ := ⟨rfl, Mem.of_get at11007⟩
         clear i56
         have i56 := v56.inn
         clear i61
         have i61 := v61.inn
         refine .m rfl rfl rfl (.assign rfl) ?_
         refine .nil ?_
         refine hK26 _ _ ?_
         refine .seq (fun K27 hK27 => ?_)
         refine .region ?_
         refine .m rfl rfl rfl (.loadM ag_34_VPrt rfl ⟨rfl, Mem.of_get at10003⟩) ?_
         refine .m rfl rfl rfl (.move rfl) ?_
         have w_v38 := PrtW.of_at bs_v38 lv_v38
         refine .call rfl rfl rfl rfl @Try.call16 rfl (markPart_c) ?_
         rintro _ H69 ⟨rfl, mk69⟩
         have sm69 := mk69.stm
         have nx_H69 := sm69.nx
         replace hle := StM.le_left hle sm69 (by omega)
         replace at2 := sm69.same _ _ (by omega) at2
         replace at3 := sm69.same _ _ (by omega) at3
         replace at6x5 := sm69.same _ _ (by omega) at6x5
         replace at9003 := sm69.same _ _ (by omega) at9003
         replace at10003 := sm69.same _ _ (by omega) at10003
         replace at11007 := sm69.same _ _ (by omega) at11007
         replace lv_v6x5 := Keep.stM lv_v6x5 sm69 (fun k hb hk => by omega)
         replace v6x5 := bs_v6x5.keep lv_v6x5 (Nat.le_refl _)
         replace lv_v42 := Keep.stM lv_v42 sm69 (fun k hb hk => by omega)
         replace v42 := bs_v42.keep lv_v42 (Nat.le_refl _)
         replace lv_v56 := Keep.stM lv_v56 sm69 (fun k hb hk => by omega)
         replace v56 := bs_v56.keep lv_v56 (Nat.le_refl _)
         replace lv_v61 := Keep.stM lv_v61 sm69 (fun k hb hk => by omega)
         replace v61 := bs_v61.keep lv_v61 (Nat.le_refl _)
         replace h0 := base_h0.mono hle
         replace h1 := base_h1.mono hle
         clear hb2 fs2 ft2 c142 i22 hm2 hi2 hms2 his2 hmt2 hit2
         have hb2 : SMap.At _ g2 0 m p := ⟨Mem.of_get at2, h0⟩
         obtain ⟨fs2, ft2, c142, i22⟩ := hb2.get
         have hm2 : MemN _ _ _ _ _ := ⟨rfl, hb2.1⟩
         have hi2 := hb2.2
         have hms2 : MemN _ _ _ _ _ := ⟨rfl, fs2.1⟩
         have his2 := fs2.2
         have hmt2 : MemN _ _ _ _ _ := ⟨rfl, ft2.1⟩
         have hit2 := ft2.2
         clear hb3 c03 i03 hm3 hi3
         have hb3 : Prt.At _ g3 0 c q := ⟨Mem.of_get at3, h1⟩
         obtain ⟨c03, i03⟩ := hb3.get
         have hm3 : MemN _ _ _ _ _ := ⟨rfl, hb3.1⟩
         have hi3 := hb3.2
         clear i6x5
         have i6x5 := v6x5.inn
         clear mm6x5
         have mm6x5 : MemN _ _ _ _ _ := ⟨rfl, Mem.of_get at6x5⟩
         clear mm9003
         have mm9003 : MemN _ _ _ _ _ := ⟨rfl, Mem.of_get at9003⟩
         clear mm10003
         have mm10003 : MemN _ _ _ _ _ := ⟨rfl, Mem.of_get at10003⟩
         clear i42
         have i42 := v42.inn
         clear mm11007
         have mm11007 : MemN _ _ _ _ _ := ⟨rfl, Mem.of_get at11007⟩
         clear i56
         have i56 := v56.inn
         clear i61
         have i61 := v61.inn
         refine .m rfl rfl rfl (.assign rfl) ?_
         refine .nil ?_
         refine hK27 _ _ ?_
         refine .seq (fun K28 hK28 => ?_)
         refine .seq (fun K29 hK29 => ?_)
         refine .region ?_
         refine .m rfl rfl rfl (.move rfl) ?_
         refine .m rfl rfl rfl (.cmp rfl rfl rfl) ?_
         refine .m rfl rfl rfl (.move rfl) ?_
         refine .split (fun h72 => ?_) (fun h72 => ?_)
         ·
          try simp only [sps] at h72
          refine .sg rfl rfl rfl rfl rfl ?_
          refine .sg rfl rfl rfl rfl rfl ?_
          refine .sg rfl rfl rfl rfl rfl ?_
          refine .sg rfl rfl rfl rfl rfl ?_
          refine .m rfl rfl rfl (.pickT rfl rfl) ?_
          refine .m rfl rfl rfl (.move rfl) ?_
          refine .sg rfl rfl rfl rfl rfl ?_
          refine .sg rfl rfl rfl rfl rfl ?_
          refine .sg rfl rfl rfl rfl rfl ?_
          refine .m rfl rfl rfl (.pickT rfl rfl) ?_
          refine .nil ?_
          refine hK29 _ _ ?_
          refine .condT rfl ?_
          refine .seq (fun K30 hK30 => ?_)
          refine .region ?_
          refine .m rfl rfl rfl (.assign rfl) ?_
          refine .nil ?_
          refine hK30 _ _ ?_
          refine .ret ?_
          -- leaf e7
          refine hret _ _ ?_
          refine ⟨_, rfl, ?_⟩
          first
          | exact rfl
          | exact absurd trivial (by assumption)
          | contradiction
          | (exfalso; omega)
         ·
          try simp only [sps] at h72
          refine .mg rfl rfl rfl rfl rfl (.loadM ag_34_VPrt rfl ⟨rfl, Mem.of_get at11007⟩) ?_
          refine .mg rfl rfl rfl rfl rfl (.loadM ag_34_VPrt rfl ⟨rfl, Mem.of_get at6x5⟩) ?_
          refine .callQg rfl rfl rfl rfl rfl rfl @Try.call13 rfl (eqPart_c) ?_
          refine .mg rfl rfl rfl rfl rfl (.not rfl) ?_
          refine .m rfl rfl rfl (.pickF rfl rfl) ?_
          refine .m rfl rfl rfl (.move rfl) ?_
          refine .split (fun h78 => ?_) (fun h78 => ?_)
          ·
           try simp only [sps] at h78
           refine .sg rfl rfl rfl rfl rfl ?_
           refine .sg rfl rfl rfl rfl rfl ?_
           refine .sg rfl rfl rfl rfl rfl ?_
           refine .m rfl rfl rfl (.pickT rfl rfl) ?_
           refine .nil ?_
           refine hK29 _ _ ?_
           refine .condT rfl ?_
           refine .seq (fun K31 hK31 => ?_)
           refine .region ?_
           refine .m rfl rfl rfl (.assign rfl) ?_
           refine .nil ?_
           refine hK31 _ _ ?_
           refine .ret ?_
           -- leaf e8
           refine hret _ _ ?_
           refine ⟨_, rfl, ?_⟩
           first
           | exact rfl
           | exact absurd trivial (by assumption)
           | contradiction
           | (exfalso; omega)
          ·
           try simp only [sps] at h78
           refine .mg rfl rfl rfl rfl rfl (.move rfl) ?_
           refine .mg rfl rfl rfl rfl rfl (.move rfl) ?_
           refine .mg rfl rfl rfl rfl rfl (.cmp rfl rfl rfl) ?_
           refine .m rfl rfl rfl (.pickF rfl rfl) ?_
           refine .nil ?_
           refine hK29 _ _ ?_
           refine .cond rfl (fun h82 => ?_) (fun h82 => ?_)
           ·
            try simp only [sps] at h82
            refine .seq (fun K32 hK32 => ?_)
            refine .region ?_
            refine .m rfl rfl rfl (.assign rfl) ?_
            refine .nil ?_
            refine hK32 _ _ ?_
            refine .ret ?_
            -- leaf e9
            refine hret _ _ ?_
            refine ⟨_, rfl, ?_⟩
            first
            | exact rfl
            | exact absurd trivial (by assumption)
            | contradiction
            | (exfalso; omega)
           ·
            try simp only [sps] at h82
            refine .skip ?_
            refine hK28 _ _ ?_
            refine .seq (fun K33 hK33 => ?_)
            refine .region ?_
            refine .m rfl rfl rfl (.assign rfl) ?_
            refine .nil ?_
            refine hK33 _ _ ?_
            refine .seq (fun K34 hK34 => ?_)
            refine .region ?_
            refine .m rfl rfl rfl (.loadM ag_34_VPrt rfl ⟨rfl, Mem.of_get at11007⟩) ?_
            refine .m rfl rfl rfl (.move rfl) ?_
            have w_v42 := PrtW.of_r bs_v42 lv_v42
            refine .call rfl rfl rfl rfl @Try.call16 rfl (markPart_c) ?_
            rintro _ H85 ⟨rfl, mk85⟩
            have sm85 := mk85.stm
            have nx_H85 := sm85.nx
            replace hle := StM.le_left hle sm85 (by omega)
            replace at2 := sm85.same _ _ (by omega) at2
            replace at3 := sm85.same _ _ (by omega) at3
            replace at6x5 := sm85.same _ _ (by omega) at6x5
            replace at9003 := sm85.same _ _ (by omega) at9003
            replace at10003 := sm85.same _ _ (by omega) at10003
            replace at11007 := sm85.same _ _ (by omega) at11007
            replace lv_v6x5 := Keep.stM lv_v6x5 sm85 (fun k hb hk => by omega)
            replace v6x5 := bs_v6x5.keep lv_v6x5 (Nat.le_refl _)
            replace lv_v56 := Keep.stM lv_v56 sm85 (fun k hb hk => by omega)
            replace v56 := bs_v56.keep lv_v56 (Nat.le_refl _)
            replace lv_v61 := Keep.stM lv_v61 sm85 (fun k hb hk => by omega)
            replace v61 := bs_v61.keep lv_v61 (Nat.le_refl _)
            replace h0 := base_h0.mono hle
            replace h1 := base_h1.mono hle
            clear hb2 fs2 ft2 c142 i22 hm2 hi2 hms2 his2 hmt2 hit2
            have hb2 : SMap.At _ g2 0 m p := ⟨Mem.of_get at2, h0⟩
            obtain ⟨fs2, ft2, c142, i22⟩ := hb2.get
            have hm2 : MemN _ _ _ _ _ := ⟨rfl, hb2.1⟩
            have hi2 := hb2.2
            have hms2 : MemN _ _ _ _ _ := ⟨rfl, fs2.1⟩
            have his2 := fs2.2
            have hmt2 : MemN _ _ _ _ _ := ⟨rfl, ft2.1⟩
            have hit2 := ft2.2
            clear hb3 c03 i03 hm3 hi3
            have hb3 : Prt.At _ g3 0 c q := ⟨Mem.of_get at3, h1⟩
            obtain ⟨c03, i03⟩ := hb3.get
            have hm3 : MemN _ _ _ _ _ := ⟨rfl, hb3.1⟩
            have hi3 := hb3.2
            clear i6x5
            have i6x5 := v6x5.inn
            clear mm6x5
            have mm6x5 : MemN _ _ _ _ _ := ⟨rfl, Mem.of_get at6x5⟩
            clear mm9003
            have mm9003 : MemN _ _ _ _ _ := ⟨rfl, Mem.of_get at9003⟩
            clear mm10003
            have mm10003 : MemN _ _ _ _ _ := ⟨rfl, Mem.of_get at10003⟩
            clear mm11007
            have mm11007 : MemN _ _ _ _ _ := ⟨rfl, Mem.of_get at11007⟩
            clear i56
            have i56 := v56.inn
            clear i61
            have i61 := v61.inn
            have hd85 := mk85.held (v42.nodup)
            have wd85 := w_v42.stm sm85
            have bs_hd85 := hd85
            have lv_hd85 : Keep H10003.next H85 H85 := fun _ _ _ h => h
            have bs_wd85 := wd85
            have lv_wd85 : Keep H10003.next H85 H85 := fun _ _ _ h => h
            refine .m rfl rfl rfl (.assign rfl) ?_
            refine .nil ?_
            refine hK34 _ _ ?_
            refine .seq (fun K35 hK35 => ?_)
            refine .region ?_
            refine .m rfl rfl rfl (.assign rfl) ?_
            refine .nil ?_
            refine hK35 _ _ ?_
            refine .seq (fun K36 hK36 => ?_)
            refine .region ?_
            refine .m rfl rfl rfl (.loadM ag_34_VPrt rfl ⟨rfl, Mem.of_get at11007⟩) ?_
            refine .m rfl rfl rfl (.move rfl) ?_
            refine .callQ rfl rfl rfl rfl @Try.call17 rfl (heldPart_c) ?_
            refine .m rfl rfl rfl (.assign rfl) ?_
            refine .nil ?_
            refine hK36 _ _ ?_
            refine .seq (fun K37 hK37 => ?_)
            refine .seq (fun K38 hK38 => ?_)
            refine .region ?_
            refine .m rfl rfl rfl (.move rfl) ?_
            refine .m rfl rfl rfl (.cmp rfl rfl rfl) ?_
            refine .nil ?_
            refine hK38 _ _ ?_
            refine .cond rfl (fun h90 => ?_) (fun h90 => ?_)
            ·
             try simp only [sps] at h90
             refine .seq (fun K39 hK39 => ?_)
             refine .region ?_
             refine .m rfl rfl rfl (.assign rfl) ?_
             refine .nil ?_
             refine hK39 _ _ ?_
             refine .ret ?_
             -- leaf e10
             refine hret _ _ ?_
             refine ⟨_, rfl, ?_⟩
             first
             | exact rfl
             | exact absurd trivial (by assumption)
             | contradiction
             | (exfalso; omega)
            ·
             try simp only [sps] at h90
             refine .skip ?_
             refine hK37 _ _ ?_
             refine .seq (fun K40 hK40 => ?_)
             refine .seq (fun K41 hK41 => ?_)
             refine .region ?_
             refine .m rfl rfl rfl (.move rfl) ?_
             refine .m rfl rfl rfl (.move rfl) ?_
             refine .m rfl rfl rfl (.cmp rfl rfl rfl) ?_
             refine .nil ?_
             refine hK41 _ _ ?_
             refine .cond rfl (fun h93 => ?_) (fun h93 => ?_)
             ·
              try simp only [sps] at h93
              refine .seq (fun K42 hK42 => ?_)
              refine .region ?_
              refine .m rfl rfl rfl (.assign rfl) ?_
              refine .nil ?_
              refine hK42 _ _ ?_
              refine .ret ?_
              -- leaf e11
              refine hret _ _ ?_
              refine ⟨_, rfl, ?_⟩
              first
              | exact rfl
              | exact absurd trivial (by assumption)
              | contradiction
              | (exfalso; omega)
             ·
              try simp only [sps] at h93
              refine .skip ?_
              refine hK40 _ _ ?_
              refine .seq (fun K43 hK43 => ?_)
              refine .regionD mixed_orders_B (.q 0 (.q 2 (.or (.c 8 1 (.c 1 1 (.c 3 1 (.c 4 1 (.q 5 (.q 6 (.q 7 (.c 9 1 (.q 10 (.done)))))))))) (.c 1 1 (.or (.c 8 1 (.c 3 1 (.c 4 1 (.q 5 (.q 6 (.q 7 (.c 9 1 (.q 10 (.done))))))))) (.c 3 1 (.or (.c 8 1 (.c 4 1 (.q 5 (.q 6 (.q 7 (.c 9 1 (.q 10 (.done)))))))) (.c 4 1 (.q 5 (.q 6 (.q 7 (.c 8 1 (.c 9 1 (.q 10 (.done))))))))))))))) (by kernel_rfl) ?_
              refine .cut [(0, some _), (1, some _), (2, some _), (3, some _), (4, some _), (5, some _), (6, some _), (7, some _), (8, some _), (9, some _), (10, some _), (11, some _), (12, some _), (13, some _), (14, some _), (17, some _), (18, some _), (19, some _), (20, some _), (21, some _), (22, some _), (23, some _), (24, some _), (25, some _), (26, some _), (35, some _), (36, some _), (37, some _), (38, some _), (39, some _), (40, some _), (41, some _), (42, some _), (43, some _), (44, some _), (45, some _), (46, some _), (47, some _), (48, some _), (49, some _), (50, some _), (51, some _), (52, some _), (53, some _), (54, some _), (55, some _), (56, some _), (57, some _), (58, some _), (59, some _), (60, some _), (61, some _), (62, some _), (63, some _), (64, some _), (65, some _), (66, some _), (67, some _), (68, some _), (69, some _), (70, some _), (71, some _), (72, some _), (73, some _), (74, some _), (75, some _), (76, some _), (77, some _), (78, some _), (79, some _), (80, some _), (81, some _), (82, some _), (83, some _), (84, some _), (85, some _), (86, some _), (87, some _), (88, some _), (89, some _), (90, some _), (91, some _), (92, some _), (93, some _)] ⟨rfl, rfl, rfl, rfl, rfl, rfl, rfl, rfl, rfl, rfl, rfl, rfl, rfl, rfl, rfl, rfl, rfl, rfl, rfl, rfl, rfl, rfl, rfl, rfl, rfl, rfl, rfl, rfl, rfl, rfl, rfl, rfl, rfl, rfl, rfl, rfl, rfl, rfl, rfl, rfl, rfl, rfl, rfl, rfl, rfl, rfl, rfl, rfl, rfl, rfl, rfl, rfl, rfl, rfl, rfl, rfl, rfl, rfl, rfl, rfl, rfl, rfl, rfl, rfl, rfl, rfl, rfl, rfl, rfl, rfl, rfl, rfl, rfl, rfl, rfl, rfl, rfl, rfl, rfl, rfl, rfl, rfl, rfl, rfl, trivial⟩ (fun rest fr' H' => ∃ gf pf, Sub ((15, some (.pointer (some ⟨gf, 0, none⟩))) :: (16, some (.int .i64 (m.dirC c.me))) :: rest) fr' ∧ H85.Le H' ∧ H85.next ≤ gf ∧ H'.get gf = some (.row ((m.dir c.me).cells pf) 34 true) ∧ PrtR H85.next H' (m.dir c.me) pf) ?_ ?_
              ·
               have hf0 := GHeap.Le.refl H85
               refine .m rfl rfl rfl rfl (.refl _) (.loadM ag_29_LDirectImage rfl ⟨rfl, Mem.of_get at2⟩) ?_
               refine .m rfl rfl rfl rfl (.refl _) (.loadM ag_31_LDirectImage rfl ⟨rfl, Mem.of_get at3⟩) ?_
               refine .orI ?_ ?_
               ·
                refine .c1 rfl rfl rfl rfl (.allocR rfl ze_34_VPrt rfl) ?_
                rintro _ H15 ⟨g15, rfl, le15, ge15, at15⟩
                have hbl := le15
                refine ⟨hbl, ?_⟩
                have nx_H15 := le15.1
                replace hle := hle.trans le15
                replace at2 := le15.2 _ _ at2
                replace at3 := le15.2 _ _ at3
                replace at6x5 := le15.2 _ _ at6x5
                replace at9003 := le15.2 _ _ at9003
                replace at10003 := le15.2 _ _ at10003
                replace at11007 := le15.2 _ _ at11007
                replace lv_v6x5 := Keep.le lv_v6x5 le15
                replace v6x5 := bs_v6x5.keep lv_v6x5 (Nat.le_refl _)
                replace lv_v56 := Keep.le lv_v56 le15
                replace v56 := bs_v56.keep lv_v56 (Nat.le_refl _)
                replace lv_v61 := Keep.le lv_v61 le15
                replace v61 := bs_v61.keep lv_v61 (Nat.le_refl _)
                replace lv_hd85 := Keep.le lv_hd85 le15
                replace hd85 := bs_hd85.keep lv_hd85 (Nat.le_refl _)
                replace lv_wd85 := Keep.le lv_wd85 le15
                replace wd85 := bs_wd85.keep lv_wd85 (Nat.le_refl _)
                have lt_at15 := GHeap.lt_of_get at15
                replace h0 := base_h0.mono hle
                replace h1 := base_h1.mono hle
                clear hb2 fs2 ft2 c142 i22 hm2 hi2 hms2 his2 hmt2 hit2
                have hb2 : SMap.At _ g2 0 m p := ⟨Mem.of_get at2, h0⟩
                obtain ⟨fs2, ft2, c142, i22⟩ := hb2.get
                have hm2 : MemN _ _ _ _ _ := ⟨rfl, hb2.1⟩
                have hi2 := hb2.2
                have hms2 : MemN _ _ _ _ _ := ⟨rfl, fs2.1⟩
                have his2 := fs2.2
                have hmt2 : MemN _ _ _ _ _ := ⟨rfl, ft2.1⟩
                have hit2 := ft2.2
                clear hb3 c03 i03 hm3 hi3
                have hb3 : Prt.At _ g3 0 c q := ⟨Mem.of_get at3, h1⟩
                obtain ⟨c03, i03⟩ := hb3.get
                have hm3 : MemN _ _ _ _ _ := ⟨rfl, hb3.1⟩
                have hi3 := hb3.2
                clear i6x5
                have i6x5 := v6x5.inn
                clear mm6x5
                have mm6x5 : MemN _ _ _ _ _ := ⟨rfl, Mem.of_get at6x5⟩
                clear mm9003
                have mm9003 : MemN _ _ _ _ _ := ⟨rfl, Mem.of_get at9003⟩
                clear mm10003
                have mm10003 : MemN _ _ _ _ _ := ⟨rfl, Mem.of_get at10003⟩
                clear mm11007
                have mm11007 : MemN _ _ _ _ _ := ⟨rfl, Mem.of_get at11007⟩
                clear i56
                have i56 := v56.inn
                clear i61
                have i61 := v61.inn
                replace hf0 := hf0.trans le15
                refine .call1 rfl rfl rfl rfl rfl @Try.call10 rfl (toSetMap_c) ?_
                rintro _ H96 ⟨le96, p96, rfl, v96⟩
                replace hbl := hbl.trans le96
                refine ⟨hbl, ?_⟩
                have nx_H96 := le96.1
                replace hle := hle.trans le96
                replace at2 := le96.2 _ _ at2
                replace at3 := le96.2 _ _ at3
                replace at6x5 := le96.2 _ _ at6x5
                replace at9003 := le96.2 _ _ at9003
                replace at10003 := le96.2 _ _ at10003
                replace at11007 := le96.2 _ _ at11007
                replace at15 := le96.2 _ _ at15
                replace lv_v6x5 := Keep.le lv_v6x5 le96
                replace v6x5 := bs_v6x5.keep lv_v6x5 (Nat.le_refl _)
                replace lv_v56 := Keep.le lv_v56 le96
                replace v56 := bs_v56.keep lv_v56 (Nat.le_refl _)
                replace lv_v61 := Keep.le lv_v61 le96
                replace v61 := bs_v61.keep lv_v61 (Nat.le_refl _)
                replace lv_hd85 := Keep.le lv_hd85 le96
                replace hd85 := bs_hd85.keep lv_hd85 (Nat.le_refl _)
                replace lv_wd85 := Keep.le lv_wd85 le96
                replace wd85 := bs_wd85.keep lv_wd85 (Nat.le_refl _)
                have bs_v96 := v96
                have lv_v96 : Keep H15.next H96 H96 := fun _ _ _ h => h
                replace h0 := base_h0.mono hle
                replace h1 := base_h1.mono hle
                clear hb2 fs2 ft2 c142 i22 hm2 hi2 hms2 his2 hmt2 hit2
                have hb2 : SMap.At _ g2 0 m p := ⟨Mem.of_get at2, h0⟩
                obtain ⟨fs2, ft2, c142, i22⟩ := hb2.get
                have hm2 : MemN _ _ _ _ _ := ⟨rfl, hb2.1⟩
                have hi2 := hb2.2
                have hms2 : MemN _ _ _ _ _ := ⟨rfl, fs2.1⟩
                have his2 := fs2.2
                have hmt2 : MemN _ _ _ _ _ := ⟨rfl, ft2.1⟩
                have hit2 := ft2.2
                clear hb3 c03 i03 hm3 hi3
                have hb3 : Prt.At _ g3 0 c q := ⟨Mem.of_get at3, h1⟩
                obtain ⟨c03, i03⟩ := hb3.get
                have hm3 : MemN _ _ _ _ _ := ⟨rfl, hb3.1⟩
                have hi3 := hb3.2
                clear i6x5
                have i6x5 := v6x5.inn
                clear mm6x5
                have mm6x5 : MemN _ _ _ _ _ := ⟨rfl, Mem.of_get at6x5⟩
                clear mm9003
                have mm9003 : MemN _ _ _ _ _ := ⟨rfl, Mem.of_get at9003⟩
                clear mm10003
                have mm10003 : MemN _ _ _ _ _ := ⟨rfl, Mem.of_get at10003⟩
                clear mm11007
                have mm11007 : MemN _ _ _ _ _ := ⟨rfl, Mem.of_get at11007⟩
                clear i56
                have i56 := v56.inn
                clear i61
                have i61 := v61.inn
                have i96 := v96.inn
                replace hf0 := hf0.trans le96
                refine .call1 rfl rfl rfl rfl rfl @Try.call11 rfl (toPart_c) ?_
                rintro _ H98 ⟨le98, p98, rfl, v98⟩
                replace hbl := hbl.trans le98
                refine ⟨hbl, ?_⟩
                have nx_H98 := le98.1
                replace hle := hle.trans le98
                replace at2 := le98.2 _ _ at2
                replace at3 := le98.2 _ _ at3
                replace at6x5 := le98.2 _ _ at6x5
                replace at9003 := le98.2 _ _ at9003
                replace at10003 := le98.2 _ _ at10003
                replace at11007 := le98.2 _ _ at11007
                replace at15 := le98.2 _ _ at15
                replace lv_v6x5 := Keep.le lv_v6x5 le98
                replace v6x5 := bs_v6x5.keep lv_v6x5 (Nat.le_refl _)
                replace lv_v56 := Keep.le lv_v56 le98
                replace v56 := bs_v56.keep lv_v56 (Nat.le_refl _)
                replace lv_v61 := Keep.le lv_v61 le98
                replace v61 := bs_v61.keep lv_v61 (Nat.le_refl _)
                replace lv_hd85 := Keep.le lv_hd85 le98
                replace hd85 := bs_hd85.keep lv_hd85 (Nat.le_refl _)
                replace lv_wd85 := Keep.le lv_wd85 le98
                replace wd85 := bs_wd85.keep lv_wd85 (Nat.le_refl _)
                replace lv_v96 := Keep.le lv_v96 le98
                replace v96 := bs_v96.keep lv_v96 (Nat.le_refl _)
                have bs_v98 := v98
                have lv_v98 : Keep H96.next H98 H98 := fun _ _ _ h => h
                replace h0 := base_h0.mono hle
                replace h1 := base_h1.mono hle
                clear hb2 fs2 ft2 c142 i22 hm2 hi2 hms2 his2 hmt2 hit2
                have hb2 : SMap.At _ g2 0 m p := ⟨Mem.of_get at2, h0⟩
                obtain ⟨fs2, ft2, c142, i22⟩ := hb2.get
                have hm2 : MemN _ _ _ _ _ := ⟨rfl, hb2.1⟩
                have hi2 := hb2.2
                have hms2 : MemN _ _ _ _ _ := ⟨rfl, fs2.1⟩
                have his2 := fs2.2
                have hmt2 : MemN _ _ _ _ _ := ⟨rfl, ft2.1⟩
                have hit2 := ft2.2
                clear hb3 c03 i03 hm3 hi3
                have hb3 : Prt.At _ g3 0 c q := ⟨Mem.of_get at3, h1⟩
                obtain ⟨c03, i03⟩ := hb3.get
                have hm3 : MemN _ _ _ _ _ := ⟨rfl, hb3.1⟩
                have hi3 := hb3.2
                clear i6x5
                have i6x5 := v6x5.inn
                clear mm6x5
                have mm6x5 : MemN _ _ _ _ _ := ⟨rfl, Mem.of_get at6x5⟩
                clear mm9003
                have mm9003 : MemN _ _ _ _ _ := ⟨rfl, Mem.of_get at9003⟩
                clear mm10003
                have mm10003 : MemN _ _ _ _ _ := ⟨rfl, Mem.of_get at10003⟩
                clear mm11007
                have mm11007 : MemN _ _ _ _ _ := ⟨rfl, Mem.of_get at11007⟩
                clear i56
                have i56 := v56.inn
                clear i61
                have i61 := v61.inn
                clear i96
                have i96 := v96.inn
                have i98 := v98.inn
                replace hf0 := hf0.trans le98
                refine .call1 rfl rfl rfl rfl rfl @Try.call27 rfl (implDirectImage_c) ?_
                rintro _ H99 ⟨le99, p99, rfl, v99⟩
                replace hbl := hbl.trans le99
                refine ⟨hbl, ?_⟩
                have nx_H99 := le99.1
                replace hle := hle.trans le99
                replace at2 := le99.2 _ _ at2
                replace at3 := le99.2 _ _ at3
                replace at6x5 := le99.2 _ _ at6x5
                replace at9003 := le99.2 _ _ at9003
                replace at10003 := le99.2 _ _ at10003
                replace at11007 := le99.2 _ _ at11007
                replace at15 := le99.2 _ _ at15
                replace lv_v6x5 := Keep.le lv_v6x5 le99
                replace v6x5 := bs_v6x5.keep lv_v6x5 (Nat.le_refl _)
                replace lv_v56 := Keep.le lv_v56 le99
                replace v56 := bs_v56.keep lv_v56 (Nat.le_refl _)
                replace lv_v61 := Keep.le lv_v61 le99
                replace v61 := bs_v61.keep lv_v61 (Nat.le_refl _)
                replace lv_hd85 := Keep.le lv_hd85 le99
                replace hd85 := bs_hd85.keep lv_hd85 (Nat.le_refl _)
                replace lv_wd85 := Keep.le lv_wd85 le99
                replace wd85 := bs_wd85.keep lv_wd85 (Nat.le_refl _)
                replace lv_v96 := Keep.le lv_v96 le99
                replace v96 := bs_v96.keep lv_v96 (Nat.le_refl _)
                replace lv_v98 := Keep.le lv_v98 le99
                replace v98 := bs_v98.keep lv_v98 (Nat.le_refl _)
                have bs_v99 := v99
                have lv_v99 : Keep H98.next H99 H99 := fun _ _ _ h => h
                replace h0 := base_h0.mono hle
                replace h1 := base_h1.mono hle
                clear hb2 fs2 ft2 c142 i22 hm2 hi2 hms2 his2 hmt2 hit2
                have hb2 : SMap.At _ g2 0 m p := ⟨Mem.of_get at2, h0⟩
                obtain ⟨fs2, ft2, c142, i22⟩ := hb2.get
                have hm2 : MemN _ _ _ _ _ := ⟨rfl, hb2.1⟩
                have hi2 := hb2.2
                have hms2 : MemN _ _ _ _ _ := ⟨rfl, fs2.1⟩
                have his2 := fs2.2
                have hmt2 : MemN _ _ _ _ _ := ⟨rfl, ft2.1⟩
                have hit2 := ft2.2
                clear hb3 c03 i03 hm3 hi3
                have hb3 : Prt.At _ g3 0 c q := ⟨Mem.of_get at3, h1⟩
                obtain ⟨c03, i03⟩ := hb3.get
                have hm3 : MemN _ _ _ _ _ := ⟨rfl, hb3.1⟩
                have hi3 := hb3.2
                clear i6x5
                have i6x5 := v6x5.inn
                clear mm6x5
                have mm6x5 : MemN _ _ _ _ _ := ⟨rfl, Mem.of_get at6x5⟩
                clear mm9003
                have mm9003 : MemN _ _ _ _ _ := ⟨rfl, Mem.of_get at9003⟩
                clear mm10003
                have mm10003 : MemN _ _ _ _ _ := ⟨rfl, Mem.of_get at10003⟩
                clear mm11007
                have mm11007 : MemN _ _ _ _ _ := ⟨rfl, Mem.of_get at11007⟩
                clear i56
                have i56 := v56.inn
                clear i61
                have i61 := v61.inn
                clear i96
                have i96 := v96.inn
                clear i98
                have i98 := v98.inn
                have i99 := v99.inn
                replace hf0 := hf0.trans le99
                refine .mB rfl rfl rfl rfl hbl (.move rfl) ?_
                refine .mB rfl rfl rfl rfl hbl (.extract rfl rfl) ?_
                refine .mB rfl rfl rfl rfl hbl (.extract rfl rfl) ?_
                refine .r1 rfl rfl rfl (.fillR rfl sz_34_VPrt rfl rfl rfl rfl (by assumption) (by first | rfl | exact Nat.le_of_ble_eq_true rfl | simp)) ?_
                rintro _ H31009 ⟨rfl, st31009, at31009⟩
                replace hbl := hbl.st st31009 (fun k hk => ⟨by omega, trivial⟩)
                refine ⟨hbl, ?_⟩
                have nx_H31009 := st31009.nx
                replace hle := hle.st st31009 (fun k hk => ⟨by omega, trivial⟩)
                replace at2 := st31009.same _ _ ⟨by omega, trivial⟩ at2
                replace at3 := st31009.same _ _ ⟨by omega, trivial⟩ at3
                replace at6x5 := st31009.same _ _ ⟨by omega, trivial⟩ at6x5
                replace at9003 := st31009.same _ _ ⟨by omega, trivial⟩ at9003
                replace at10003 := st31009.same _ _ ⟨by omega, trivial⟩ at10003
                replace at11007 := st31009.same _ _ ⟨by omega, trivial⟩ at11007
                replace lv_v6x5 := Keep.st lv_v6x5 st31009 (fun k hb hk => ⟨by omega, trivial⟩)
                replace v6x5 := bs_v6x5.keep lv_v6x5 (Nat.le_refl _)
                replace lv_v56 := Keep.st lv_v56 st31009 (fun k hb hk => ⟨by omega, trivial⟩)
                replace v56 := bs_v56.keep lv_v56 (Nat.le_refl _)
                replace lv_v61 := Keep.st lv_v61 st31009 (fun k hb hk => ⟨by omega, trivial⟩)
                replace v61 := bs_v61.keep lv_v61 (Nat.le_refl _)
                replace lv_hd85 := Keep.st lv_hd85 st31009 (fun k hb hk => ⟨by omega, trivial⟩)
                replace hd85 := bs_hd85.keep lv_hd85 (Nat.le_refl _)
                replace lv_wd85 := Keep.st lv_wd85 st31009 (fun k hb hk => ⟨by omega, trivial⟩)
                replace wd85 := bs_wd85.keep lv_wd85 (Nat.le_refl _)
                replace lv_v96 := Keep.st lv_v96 st31009 (fun k hb hk => ⟨by omega, trivial⟩)
                replace v96 := bs_v96.keep lv_v96 (Nat.le_refl _)
                replace lv_v98 := Keep.st lv_v98 st31009 (fun k hb hk => ⟨by omega, trivial⟩)
                replace v98 := bs_v98.keep lv_v98 (Nat.le_refl _)
                replace lv_v99 := Keep.st lv_v99 st31009 (fun k hb hk => ⟨by omega, trivial⟩)
                replace v99 := bs_v99.keep lv_v99 (Nat.le_refl _)
                have lt_at31009 := GHeap.lt_of_get at31009
                replace h0 := base_h0.mono hle
                replace h1 := base_h1.mono hle
                clear hb2 fs2 ft2 c142 i22 hm2 hi2 hms2 his2 hmt2 hit2
                have hb2 : SMap.At _ g2 0 m p := ⟨Mem.of_get at2, h0⟩
                obtain ⟨fs2, ft2, c142, i22⟩ := hb2.get
                have hm2 : MemN _ _ _ _ _ := ⟨rfl, hb2.1⟩
                have hi2 := hb2.2
                have hms2 : MemN _ _ _ _ _ := ⟨rfl, fs2.1⟩
                have his2 := fs2.2
                have hmt2 : MemN _ _ _ _ _ := ⟨rfl, ft2.1⟩
                have hit2 := ft2.2
                clear hb3 c03 i03 hm3 hi3
                have hb3 : Prt.At _ g3 0 c q := ⟨Mem.of_get at3, h1⟩
                obtain ⟨c03, i03⟩ := hb3.get
                have hm3 : MemN _ _ _ _ _ := ⟨rfl, hb3.1⟩
                have hi3 := hb3.2
                clear i6x5
                have i6x5 := v6x5.inn
                clear mm6x5
                have mm6x5 : MemN _ _ _ _ _ := ⟨rfl, Mem.of_get at6x5⟩
                clear mm9003
                have mm9003 : MemN _ _ _ _ _ := ⟨rfl, Mem.of_get at9003⟩
                clear mm10003
                have mm10003 : MemN _ _ _ _ _ := ⟨rfl, Mem.of_get at10003⟩
                clear mm11007
                have mm11007 : MemN _ _ _ _ _ := ⟨rfl, Mem.of_get at11007⟩
                clear i56
                have i56 := v56.inn
                clear i61
                have i61 := v61.inn
                clear i96
                have i96 := v96.inn
                clear i98
                have i98 := v98.inn
                clear i99
                have i99 := v99.inn
                have mm31009 : MemN _ _ _ _ _ := ⟨rfl, Mem.of_get at31009⟩
                replace hf0 := hf0.st st31009 (fun k hk => ⟨by omega, trivial⟩)
                refine .mB rfl rfl rfl rfl hbl (.assign rfl) ?_
                refine .done ?_
                exact ⟨_, p99, ⟨rfl, rfl, rfl, rfl, rfl, rfl, rfl, rfl, rfl, rfl, rfl, rfl, rfl, rfl, rfl, rfl, rfl, rfl, rfl, rfl, rfl, rfl, rfl, rfl, rfl, rfl, rfl, rfl, rfl, rfl, rfl, rfl, rfl, rfl, rfl, rfl, rfl, rfl, rfl, rfl, rfl, rfl, rfl, rfl, rfl, rfl, rfl, rfl, rfl, rfl, rfl, rfl, rfl, rfl, rfl, rfl, rfl, rfl, rfl, rfl, rfl, rfl, rfl, rfl, rfl, rfl, rfl, rfl, rfl, rfl, rfl, rfl, rfl, rfl, rfl, rfl, rfl, rfl, rfl, rfl, rfl, rfl, rfl, rfl, rfl, rfl, trivial⟩, hf0, by omega, at31009, v99.keep (.of_le (.refl _)) (by omega)⟩
               ·
                refine .call1 rfl rfl rfl rfl rfl @Try.call10 rfl (toSetMap_c) ?_
                rintro _ H96x2 ⟨le96x2, p96x2, rfl, v96x2⟩
                have hbl := le96x2
                refine ⟨hbl, ?_⟩
                have nx_H96x2 := le96x2.1
                replace hle := hle.trans le96x2
                replace at2 := le96x2.2 _ _ at2
                replace at3 := le96x2.2 _ _ at3
                replace at6x5 := le96x2.2 _ _ at6x5
                replace at9003 := le96x2.2 _ _ at9003
                replace at10003 := le96x2.2 _ _ at10003
                replace at11007 := le96x2.2 _ _ at11007
                replace lv_v6x5 := Keep.le lv_v6x5 le96x2
                replace v6x5 := bs_v6x5.keep lv_v6x5 (Nat.le_refl _)
                replace lv_v56 := Keep.le lv_v56 le96x2
                replace v56 := bs_v56.keep lv_v56 (Nat.le_refl _)
                replace lv_v61 := Keep.le lv_v61 le96x2
                replace v61 := bs_v61.keep lv_v61 (Nat.le_refl _)
                replace lv_hd85 := Keep.le lv_hd85 le96x2
                replace hd85 := bs_hd85.keep lv_hd85 (Nat.le_refl _)
                replace lv_wd85 := Keep.le lv_wd85 le96x2
                replace wd85 := bs_wd85.keep lv_wd85 (Nat.le_refl _)
                have bs_v96x2 := v96x2
                have lv_v96x2 : Keep H85.next H96x2 H96x2 := fun _ _ _ h => h
                replace h0 := base_h0.mono hle
                replace h1 := base_h1.mono hle
                clear hb2 fs2 ft2 c142 i22 hm2 hi2 hms2 his2 hmt2 hit2
                have hb2 : SMap.At _ g2 0 m p := ⟨Mem.of_get at2, h0⟩
                obtain ⟨fs2, ft2, c142, i22⟩ := hb2.get
                have hm2 : MemN _ _ _ _ _ := ⟨rfl, hb2.1⟩
                have hi2 := hb2.2
                have hms2 : MemN _ _ _ _ _ := ⟨rfl, fs2.1⟩
                have his2 := fs2.2
                have hmt2 : MemN _ _ _ _ _ := ⟨rfl, ft2.1⟩
                have hit2 := ft2.2
                clear hb3 c03 i03 hm3 hi3
                have hb3 : Prt.At _ g3 0 c q := ⟨Mem.of_get at3, h1⟩
                obtain ⟨c03, i03⟩ := hb3.get
                have hm3 : MemN _ _ _ _ _ := ⟨rfl, hb3.1⟩
                have hi3 := hb3.2
                clear i6x5
                have i6x5 := v6x5.inn
                clear mm6x5
                have mm6x5 : MemN _ _ _ _ _ := ⟨rfl, Mem.of_get at6x5⟩
                clear mm9003
                have mm9003 : MemN _ _ _ _ _ := ⟨rfl, Mem.of_get at9003⟩
                clear mm10003
                have mm10003 : MemN _ _ _ _ _ := ⟨rfl, Mem.of_get at10003⟩
                clear mm11007
                have mm11007 : MemN _ _ _ _ _ := ⟨rfl, Mem.of_get at11007⟩
                clear i56
                have i56 := v56.inn
                clear i61
                have i61 := v61.inn
                have i96x2 := v96x2.inn
                replace hf0 := hf0.trans le96x2
                refine .orI ?_ ?_
                ·
                 refine .c1 rfl rfl rfl rfl (.allocR rfl ze_34_VPrt rfl) ?_
                 rintro _ H15x2 ⟨g15x2, rfl, le15x2, ge15x2, at15x2⟩
                 replace hbl := hbl.trans le15x2
                 refine ⟨hbl, ?_⟩
                 have nx_H15x2 := le15x2.1
                 replace hle := hle.trans le15x2
                 replace at2 := le15x2.2 _ _ at2
                 replace at3 := le15x2.2 _ _ at3
                 replace at6x5 := le15x2.2 _ _ at6x5
                 replace at9003 := le15x2.2 _ _ at9003
                 replace at10003 := le15x2.2 _ _ at10003
                 replace at11007 := le15x2.2 _ _ at11007
                 replace lv_v6x5 := Keep.le lv_v6x5 le15x2
                 replace v6x5 := bs_v6x5.keep lv_v6x5 (Nat.le_refl _)
                 replace lv_v56 := Keep.le lv_v56 le15x2
                 replace v56 := bs_v56.keep lv_v56 (Nat.le_refl _)
                 replace lv_v61 := Keep.le lv_v61 le15x2
                 replace v61 := bs_v61.keep lv_v61 (Nat.le_refl _)
                 replace lv_hd85 := Keep.le lv_hd85 le15x2
                 replace hd85 := bs_hd85.keep lv_hd85 (Nat.le_refl _)
                 replace lv_wd85 := Keep.le lv_wd85 le15x2
                 replace wd85 := bs_wd85.keep lv_wd85 (Nat.le_refl _)
                 replace lv_v96x2 := Keep.le lv_v96x2 le15x2
                 replace v96x2 := bs_v96x2.keep lv_v96x2 (Nat.le_refl _)
                 have lt_at15x2 := GHeap.lt_of_get at15x2
                 replace h0 := base_h0.mono hle
                 replace h1 := base_h1.mono hle
                 clear hb2 fs2 ft2 c142 i22 hm2 hi2 hms2 his2 hmt2 hit2
                 have hb2 : SMap.At _ g2 0 m p := ⟨Mem.of_get at2, h0⟩
                 obtain ⟨fs2, ft2, c142, i22⟩ := hb2.get
                 have hm2 : MemN _ _ _ _ _ := ⟨rfl, hb2.1⟩
                 have hi2 := hb2.2
                 have hms2 : MemN _ _ _ _ _ := ⟨rfl, fs2.1⟩
                 have his2 := fs2.2
                 have hmt2 : MemN _ _ _ _ _ := ⟨rfl, ft2.1⟩
                 have hit2 := ft2.2
                 clear hb3 c03 i03 hm3 hi3
                 have hb3 : Prt.At _ g3 0 c q := ⟨Mem.of_get at3, h1⟩
                 obtain ⟨c03, i03⟩ := hb3.get
                 have hm3 : MemN _ _ _ _ _ := ⟨rfl, hb3.1⟩
                 have hi3 := hb3.2
                 clear i6x5
                 have i6x5 := v6x5.inn
                 clear mm6x5
                 have mm6x5 : MemN _ _ _ _ _ := ⟨rfl, Mem.of_get at6x5⟩
                 clear mm9003
                 have mm9003 : MemN _ _ _ _ _ := ⟨rfl, Mem.of_get at9003⟩
                 clear mm10003
                 have mm10003 : MemN _ _ _ _ _ := ⟨rfl, Mem.of_get at10003⟩
                 clear mm11007
                 have mm11007 : MemN _ _ _ _ _ := ⟨rfl, Mem.of_get at11007⟩
                 clear i56
                 have i56 := v56.inn
                 clear i61
                 have i61 := v61.inn
                 clear i96x2
                 have i96x2 := v96x2.inn
                 replace hf0 := hf0.trans le15x2
                 refine .call1 rfl rfl rfl rfl rfl @Try.call11 rfl (toPart_c) ?_
                 rintro _ H98x2 ⟨le98x2, p98x2, rfl, v98x2⟩
                 replace hbl := hbl.trans le98x2
                 refine ⟨hbl, ?_⟩
                 have nx_H98x2 := le98x2.1
                 replace hle := hle.trans le98x2
                 replace at2 := le98x2.2 _ _ at2
                 replace at3 := le98x2.2 _ _ at3
                 replace at6x5 := le98x2.2 _ _ at6x5
                 replace at9003 := le98x2.2 _ _ at9003
                 replace at10003 := le98x2.2 _ _ at10003
                 replace at11007 := le98x2.2 _ _ at11007
                 replace at15x2 := le98x2.2 _ _ at15x2
                 replace lv_v6x5 := Keep.le lv_v6x5 le98x2
                 replace v6x5 := bs_v6x5.keep lv_v6x5 (Nat.le_refl _)
                 replace lv_v56 := Keep.le lv_v56 le98x2
                 replace v56 := bs_v56.keep lv_v56 (Nat.le_refl _)
                 replace lv_v61 := Keep.le lv_v61 le98x2
                 replace v61 := bs_v61.keep lv_v61 (Nat.le_refl _)
                 replace lv_hd85 := Keep.le lv_hd85 le98x2
                 replace hd85 := bs_hd85.keep lv_hd85 (Nat.le_refl _)
                 replace lv_wd85 := Keep.le lv_wd85 le98x2
                 replace wd85 := bs_wd85.keep lv_wd85 (Nat.le_refl _)
                 replace lv_v96x2 := Keep.le lv_v96x2 le98x2
                 replace v96x2 := bs_v96x2.keep lv_v96x2 (Nat.le_refl _)
                 have bs_v98x2 := v98x2
                 have lv_v98x2 : Keep H15x2.next H98x2 H98x2 := fun _ _ _ h => h
                 replace h0 := base_h0.mono hle
                 replace h1 := base_h1.mono hle
                 clear hb2 fs2 ft2 c142 i22 hm2 hi2 hms2 his2 hmt2 hit2
                 have hb2 : SMap.At _ g2 0 m p := ⟨Mem.of_get at2, h0⟩
                 obtain ⟨fs2, ft2, c142, i22⟩ := hb2.get
                 have hm2 : MemN _ _ _ _ _ := ⟨rfl, hb2.1⟩
                 have hi2 := hb2.2
                 have hms2 : MemN _ _ _ _ _ := ⟨rfl, fs2.1⟩
                 have his2 := fs2.2
                 have hmt2 : MemN _ _ _ _ _ := ⟨rfl, ft2.1⟩
                 have hit2 := ft2.2
                 clear hb3 c03 i03 hm3 hi3
                 have hb3 : Prt.At _ g3 0 c q := ⟨Mem.of_get at3, h1⟩
                 obtain ⟨c03, i03⟩ := hb3.get
                 have hm3 : MemN _ _ _ _ _ := ⟨rfl, hb3.1⟩
                 have hi3 := hb3.2
                 clear i6x5
                 have i6x5 := v6x5.inn
                 clear mm6x5
                 have mm6x5 : MemN _ _ _ _ _ := ⟨rfl, Mem.of_get at6x5⟩
                 clear mm9003
                 have mm9003 : MemN _ _ _ _ _ := ⟨rfl, Mem.of_get at9003⟩
                 clear mm10003
                 have mm10003 : MemN _ _ _ _ _ := ⟨rfl, Mem.of_get at10003⟩
                 clear mm11007
                 have mm11007 : MemN _ _ _ _ _ := ⟨rfl, Mem.of_get at11007⟩
                 clear i56
                 have i56 := v56.inn
                 clear i61
                 have i61 := v61.inn
                 clear i96x2
                 have i96x2 := v96x2.inn
                 have i98x2 := v98x2.inn
                 replace hf0 := hf0.trans le98x2
                 refine .call1 rfl rfl rfl rfl rfl @Try.call27 rfl (implDirectImage_c) ?_
                 rintro _ H99x2 ⟨le99x2, p99x2, rfl, v99x2⟩
                 replace hbl := hbl.trans le99x2
                 refine ⟨hbl, ?_⟩
                 have nx_H99x2 := le99x2.1
                 replace hle := hle.trans le99x2
                 replace at2 := le99x2.2 _ _ at2
                 replace at3 := le99x2.2 _ _ at3
                 replace at6x5 := le99x2.2 _ _ at6x5
                 replace at9003 := le99x2.2 _ _ at9003
                 replace at10003 := le99x2.2 _ _ at10003
                 replace at11007 := le99x2.2 _ _ at11007
                 replace at15x2 := le99x2.2 _ _ at15x2
                 replace lv_v6x5 := Keep.le lv_v6x5 le99x2
                 replace v6x5 := bs_v6x5.keep lv_v6x5 (Nat.le_refl _)
                 replace lv_v56 := Keep.le lv_v56 le99x2
                 replace v56 := bs_v56.keep lv_v56 (Nat.le_refl _)
                 replace lv_v61 := Keep.le lv_v61 le99x2
                 replace v61 := bs_v61.keep lv_v61 (Nat.le_refl _)
                 replace lv_hd85 := Keep.le lv_hd85 le99x2
                 replace hd85 := bs_hd85.keep lv_hd85 (Nat.le_refl _)
                 replace lv_wd85 := Keep.le lv_wd85 le99x2
                 replace wd85 := bs_wd85.keep lv_wd85 (Nat.le_refl _)
                 replace lv_v96x2 := Keep.le lv_v96x2 le99x2
                 replace v96x2 := bs_v96x2.keep lv_v96x2 (Nat.le_refl _)
                 replace lv_v98x2 := Keep.le lv_v98x2 le99x2
                 replace v98x2 := bs_v98x2.keep lv_v98x2 (Nat.le_refl _)
                 have bs_v99x2 := v99x2
                 have lv_v99x2 : Keep H98x2.next H99x2 H99x2 := fun _ _ _ h => h
                 replace h0 := base_h0.mono hle
                 replace h1 := base_h1.mono hle
                 clear hb2 fs2 ft2 c142 i22 hm2 hi2 hms2 his2 hmt2 hit2
                 have hb2 : SMap.At _ g2 0 m p := ⟨Mem.of_get at2, h0⟩
                 obtain ⟨fs2, ft2, c142, i22⟩ := hb2.get
                 have hm2 : MemN _ _ _ _ _ := ⟨rfl, hb2.1⟩
                 have hi2 := hb2.2
                 have hms2 : MemN _ _ _ _ _ := ⟨rfl, fs2.1⟩
                 have his2 := fs2.2
                 have hmt2 : MemN _ _ _ _ _ := ⟨rfl, ft2.1⟩
                 have hit2 := ft2.2
                 clear hb3 c03 i03 hm3 hi3
                 have hb3 : Prt.At _ g3 0 c q := ⟨Mem.of_get at3, h1⟩
                 obtain ⟨c03, i03⟩ := hb3.get
                 have hm3 : MemN _ _ _ _ _ := ⟨rfl, hb3.1⟩
                 have hi3 := hb3.2
                 clear i6x5
                 have i6x5 := v6x5.inn
                 clear mm6x5
                 have mm6x5 : MemN _ _ _ _ _ := ⟨rfl, Mem.of_get at6x5⟩
                 clear mm9003
                 have mm9003 : MemN _ _ _ _ _ := ⟨rfl, Mem.of_get at9003⟩
                 clear mm10003
                 have mm10003 : MemN _ _ _ _ _ := ⟨rfl, Mem.of_get at10003⟩
                 clear mm11007
                 have mm11007 : MemN _ _ _ _ _ := ⟨rfl, Mem.of_get at11007⟩
                 clear i56
                 have i56 := v56.inn
                 clear i61
                 have i61 := v61.inn
                 clear i96x2
                 have i96x2 := v96x2.inn
                 clear i98x2
                 have i98x2 := v98x2.inn
                 have i99x2 := v99x2.inn
                 replace hf0 := hf0.trans le99x2
                 refine .mB rfl rfl rfl rfl hbl (.move rfl) ?_
                 refine .mB rfl rfl rfl rfl hbl (.extract rfl rfl) ?_
                 refine .mB rfl rfl rfl rfl hbl (.extract rfl rfl) ?_
                 refine .r1 rfl rfl rfl (.fillR rfl sz_34_VPrt rfl rfl rfl rfl (by assumption) (by first | rfl | exact Nat.le_of_ble_eq_true rfl | simp)) ?_
                 rintro _ H31009x2 ⟨rfl, st31009x2, at31009x2⟩
                 replace hbl := hbl.st st31009x2 (fun k hk => ⟨by omega, trivial⟩)
                 refine ⟨hbl, ?_⟩
                 have nx_H31009x2 := st31009x2.nx
                 replace hle := hle.st st31009x2 (fun k hk => ⟨by omega, trivial⟩)
                 replace at2 := st31009x2.same _ _ ⟨by omega, trivial⟩ at2
                 replace at3 := st31009x2.same _ _ ⟨by omega, trivial⟩ at3
                 replace at6x5 := st31009x2.same _ _ ⟨by omega, trivial⟩ at6x5
                 replace at9003 := st31009x2.same _ _ ⟨by omega, trivial⟩ at9003
                 replace at10003 := st31009x2.same _ _ ⟨by omega, trivial⟩ at10003
                 replace at11007 := st31009x2.same _ _ ⟨by omega, trivial⟩ at11007
                 replace lv_v6x5 := Keep.st lv_v6x5 st31009x2 (fun k hb hk => ⟨by omega, trivial⟩)
                 replace v6x5 := bs_v6x5.keep lv_v6x5 (Nat.le_refl _)
                 replace lv_v56 := Keep.st lv_v56 st31009x2 (fun k hb hk => ⟨by omega, trivial⟩)
                 replace v56 := bs_v56.keep lv_v56 (Nat.le_refl _)
                 replace lv_v61 := Keep.st lv_v61 st31009x2 (fun k hb hk => ⟨by omega, trivial⟩)
                 replace v61 := bs_v61.keep lv_v61 (Nat.le_refl _)
                 replace lv_hd85 := Keep.st lv_hd85 st31009x2 (fun k hb hk => ⟨by omega, trivial⟩)
                 replace hd85 := bs_hd85.keep lv_hd85 (Nat.le_refl _)
                 replace lv_wd85 := Keep.st lv_wd85 st31009x2 (fun k hb hk => ⟨by omega, trivial⟩)
                 replace wd85 := bs_wd85.keep lv_wd85 (Nat.le_refl _)
                 replace lv_v96x2 := Keep.st lv_v96x2 st31009x2 (fun k hb hk => ⟨by omega, trivial⟩)
                 replace v96x2 := bs_v96x2.keep lv_v96x2 (Nat.le_refl _)
                 replace lv_v98x2 := Keep.st lv_v98x2 st31009x2 (fun k hb hk => ⟨by omega, trivial⟩)
                 replace v98x2 := bs_v98x2.keep lv_v98x2 (Nat.le_refl _)
                 replace lv_v99x2 := Keep.st lv_v99x2 st31009x2 (fun k hb hk => ⟨by omega, trivial⟩)
                 replace v99x2 := bs_v99x2.keep lv_v99x2 (Nat.le_refl _)
                 have lt_at31009x2 := GHeap.lt_of_get at31009x2
                 replace h0 := base_h0.mono hle
                 replace h1 := base_h1.mono hle
                 clear hb2 fs2 ft2 c142 i22 hm2 hi2 hms2 his2 hmt2 hit2
                 have hb2 : SMap.At _ g2 0 m p := ⟨Mem.of_get at2, h0⟩
                 obtain ⟨fs2, ft2, c142, i22⟩ := hb2.get
                 have hm2 : MemN _ _ _ _ _ := ⟨rfl, hb2.1⟩
                 have hi2 := hb2.2
                 have hms2 : MemN _ _ _ _ _ := ⟨rfl, fs2.1⟩
                 have his2 := fs2.2
                 have hmt2 : MemN _ _ _ _ _ := ⟨rfl, ft2.1⟩
                 have hit2 := ft2.2
                 clear hb3 c03 i03 hm3 hi3
                 have hb3 : Prt.At _ g3 0 c q := ⟨Mem.of_get at3, h1⟩
                 obtain ⟨c03, i03⟩ := hb3.get
                 have hm3 : MemN _ _ _ _ _ := ⟨rfl, hb3.1⟩
                 have hi3 := hb3.2
                 clear i6x5
                 have i6x5 := v6x5.inn
                 clear mm6x5
                 have mm6x5 : MemN _ _ _ _ _ := ⟨rfl, Mem.of_get at6x5⟩
                 clear mm9003
                 have mm9003 : MemN _ _ _ _ _ := ⟨rfl, Mem.of_get at9003⟩
                 clear mm10003
                 have mm10003 : MemN _ _ _ _ _ := ⟨rfl, Mem.of_get at10003⟩
                 clear mm11007
                 have mm11007 : MemN _ _ _ _ _ := ⟨rfl, Mem.of_get at11007⟩
                 clear i56
                 have i56 := v56.inn
                 clear i61
                 have i61 := v61.inn
                 clear i96x2
                 have i96x2 := v96x2.inn
                 clear i98x2
                 have i98x2 := v98x2.inn
                 clear i99x2
                 have i99x2 := v99x2.inn
                 have mm31009x2 : MemN _ _ _ _ _ := ⟨rfl, Mem.of_get at31009x2⟩
                 replace hf0 := hf0.st st31009x2 (fun k hk => ⟨by omega, trivial⟩)
                 refine .mB rfl rfl rfl rfl hbl (.assign rfl) ?_
                 refine .done ?_
                 exact ⟨_, p99x2, ⟨rfl, rfl, rfl, rfl, rfl, rfl, rfl, rfl, rfl, rfl, rfl, rfl, rfl, rfl, rfl, rfl, rfl, rfl, rfl, rfl, rfl, rfl, rfl, rfl, rfl, rfl, rfl, rfl, rfl, rfl, rfl, rfl, rfl, rfl, rfl, rfl, rfl, rfl, rfl, rfl, rfl, rfl, rfl, rfl, rfl, rfl, rfl, rfl, rfl, rfl, rfl, rfl, rfl, rfl, rfl, rfl, rfl, rfl, rfl, rfl, rfl, rfl, rfl, rfl, rfl, rfl, rfl, rfl, rfl, rfl, rfl, rfl, rfl, rfl, rfl, rfl, rfl, rfl, rfl, rfl, rfl, rfl, rfl, rfl, rfl, rfl, trivial⟩, hf0, by omega, at31009x2, v99x2.keep (.of_le (.refl _)) (by omega)⟩
                ·
                 refine .call1 rfl rfl rfl rfl rfl @Try.call11 rfl (toPart_c) ?_
                 rintro _ H98x3 ⟨le98x3, p98x3, rfl, v98x3⟩
                 replace hbl := hbl.trans le98x3
                 refine ⟨hbl, ?_⟩
                 have nx_H98x3 := le98x3.1
                 replace hle := hle.trans le98x3
                 replace at2 := le98x3.2 _ _ at2
                 replace at3 := le98x3.2 _ _ at3
                 replace at6x5 := le98x3.2 _ _ at6x5
                 replace at9003 := le98x3.2 _ _ at9003
                 replace at10003 := le98x3.2 _ _ at10003
                 replace at11007 := le98x3.2 _ _ at11007
                 replace lv_v6x5 := Keep.le lv_v6x5 le98x3
                 replace v6x5 := bs_v6x5.keep lv_v6x5 (Nat.le_refl _)
                 replace lv_v56 := Keep.le lv_v56 le98x3
                 replace v56 := bs_v56.keep lv_v56 (Nat.le_refl _)
                 replace lv_v61 := Keep.le lv_v61 le98x3
                 replace v61 := bs_v61.keep lv_v61 (Nat.le_refl _)
                 replace lv_hd85 := Keep.le lv_hd85 le98x3
                 replace hd85 := bs_hd85.keep lv_hd85 (Nat.le_refl _)
                 replace lv_wd85 := Keep.le lv_wd85 le98x3
                 replace wd85 := bs_wd85.keep lv_wd85 (Nat.le_refl _)
                 replace lv_v96x2 := Keep.le lv_v96x2 le98x3
                 replace v96x2 := bs_v96x2.keep lv_v96x2 (Nat.le_refl _)
                 have bs_v98x3 := v98x3
                 have lv_v98x3 : Keep H96x2.next H98x3 H98x3 := fun _ _ _ h => h
                 replace h0 := base_h0.mono hle
                 replace h1 := base_h1.mono hle
                 clear hb2 fs2 ft2 c142 i22 hm2 hi2 hms2 his2 hmt2 hit2
                 have hb2 : SMap.At _ g2 0 m p := ⟨Mem.of_get at2, h0⟩
                 obtain ⟨fs2, ft2, c142, i22⟩ := hb2.get
                 have hm2 : MemN _ _ _ _ _ := ⟨rfl, hb2.1⟩
                 have hi2 := hb2.2
                 have hms2 : MemN _ _ _ _ _ := ⟨rfl, fs2.1⟩
                 have his2 := fs2.2
                 have hmt2 : MemN _ _ _ _ _ := ⟨rfl, ft2.1⟩
                 have hit2 := ft2.2
                 clear hb3 c03 i03 hm3 hi3
                 have hb3 : Prt.At _ g3 0 c q := ⟨Mem.of_get at3, h1⟩
                 obtain ⟨c03, i03⟩ := hb3.get
                 have hm3 : MemN _ _ _ _ _ := ⟨rfl, hb3.1⟩
                 have hi3 := hb3.2
                 clear i6x5
                 have i6x5 := v6x5.inn
                 clear mm6x5
                 have mm6x5 : MemN _ _ _ _ _ := ⟨rfl, Mem.of_get at6x5⟩
                 clear mm9003
                 have mm9003 : MemN _ _ _ _ _ := ⟨rfl, Mem.of_get at9003⟩
                 clear mm10003
                 have mm10003 : MemN _ _ _ _ _ := ⟨rfl, Mem.of_get at10003⟩
                 clear mm11007
                 have mm11007 : MemN _ _ _ _ _ := ⟨rfl, Mem.of_get at11007⟩
                 clear i56
                 have i56 := v56.inn
                 clear i61
                 have i61 := v61.inn
                 clear i96x2
                 have i96x2 := v96x2.inn
                 have i98x3 := v98x3.inn
                 replace hf0 := hf0.trans le98x3
                 refine .orI ?_ ?_
                 ·
                  refine .c1 rfl rfl rfl rfl (.allocR rfl ze_34_VPrt rfl) ?_
                  rintro _ H15x3 ⟨g15x3, rfl, le15x3, ge15x3, at15x3⟩
                  replace hbl := hbl.trans le15x3
                  refine ⟨hbl, ?_⟩
                  have nx_H15x3 := le15x3.1
                  replace hle := hle.trans le15x3
                  replace at2 := le15x3.2 _ _ at2
                  replace at3 := le15x3.2 _ _ at3
                  replace at6x5 := le15x3.2 _ _ at6x5
                  replace at9003 := le15x3.2 _ _ at9003
                  replace at10003 := le15x3.2 _ _ at10003
                  replace at11007 := le15x3.2 _ _ at11007
                  replace lv_v6x5 := Keep.le lv_v6x5 le15x3
                  replace v6x5 := bs_v6x5.keep lv_v6x5 (Nat.le_refl _)
                  replace lv_v56 := Keep.le lv_v56 le15x3
                  replace v56 := bs_v56.keep lv_v56 (Nat.le_refl _)
                  replace lv_v61 := Keep.le lv_v61 le15x3
                  replace v61 := bs_v61.keep lv_v61 (Nat.le_refl _)
                  replace lv_hd85 := Keep.le lv_hd85 le15x3
                  replace hd85 := bs_hd85.keep lv_hd85 (Nat.le_refl _)
                  replace lv_wd85 := Keep.le lv_wd85 le15x3
                  replace wd85 := bs_wd85.keep lv_wd85 (Nat.le_refl _)
                  replace lv_v96x2 := Keep.le lv_v96x2 le15x3
                  replace v96x2 := bs_v96x2.keep lv_v96x2 (Nat.le_refl _)
                  replace lv_v98x3 := Keep.le lv_v98x3 le15x3
                  replace v98x3 := bs_v98x3.keep lv_v98x3 (Nat.le_refl _)
                  have lt_at15x3 := GHeap.lt_of_get at15x3
                  replace h0 := base_h0.mono hle
                  replace h1 := base_h1.mono hle
                  clear hb2 fs2 ft2 c142 i22 hm2 hi2 hms2 his2 hmt2 hit2
                  have hb2 : SMap.At _ g2 0 m p := ⟨Mem.of_get at2, h0⟩
                  obtain ⟨fs2, ft2, c142, i22⟩ := hb2.get
                  have hm2 : MemN _ _ _ _ _ := ⟨rfl, hb2.1⟩
                  have hi2 := hb2.2
                  have hms2 : MemN _ _ _ _ _ := ⟨rfl, fs2.1⟩
                  have his2 := fs2.2
                  have hmt2 : MemN _ _ _ _ _ := ⟨rfl, ft2.1⟩
                  have hit2 := ft2.2
                  clear hb3 c03 i03 hm3 hi3
                  have hb3 : Prt.At _ g3 0 c q := ⟨Mem.of_get at3, h1⟩
                  obtain ⟨c03, i03⟩ := hb3.get
                  have hm3 : MemN _ _ _ _ _ := ⟨rfl, hb3.1⟩
                  have hi3 := hb3.2
                  clear i6x5
                  have i6x5 := v6x5.inn
                  clear mm6x5
                  have mm6x5 : MemN _ _ _ _ _ := ⟨rfl, Mem.of_get at6x5⟩
                  clear mm9003
                  have mm9003 : MemN _ _ _ _ _ := ⟨rfl, Mem.of_get at9003⟩
                  clear mm10003
                  have mm10003 : MemN _ _ _ _ _ := ⟨rfl, Mem.of_get at10003⟩
                  clear mm11007
                  have mm11007 : MemN _ _ _ _ _ := ⟨rfl, Mem.of_get at11007⟩
                  clear i56
                  have i56 := v56.inn
                  clear i61
                  have i61 := v61.inn
                  clear i96x2
                  have i96x2 := v96x2.inn
                  clear i98x3
                  have i98x3 := v98x3.inn
                  replace hf0 := hf0.trans le15x3
                  refine .call1 rfl rfl rfl rfl rfl @Try.call27 rfl (implDirectImage_c) ?_
                  rintro _ H99x3 ⟨le99x3, p99x3, rfl, v99x3⟩
                  replace hbl := hbl.trans le99x3
                  refine ⟨hbl, ?_⟩
                  have nx_H99x3 := le99x3.1
                  replace hle := hle.trans le99x3
                  replace at2 := le99x3.2 _ _ at2
                  replace at3 := le99x3.2 _ _ at3
                  replace at6x5 := le99x3.2 _ _ at6x5
                  replace at9003 := le99x3.2 _ _ at9003
                  replace at10003 := le99x3.2 _ _ at10003
                  replace at11007 := le99x3.2 _ _ at11007
                  replace at15x3 := le99x3.2 _ _ at15x3
                  replace lv_v6x5 := Keep.le lv_v6x5 le99x3
                  replace v6x5 := bs_v6x5.keep lv_v6x5 (Nat.le_refl _)
                  replace lv_v56 := Keep.le lv_v56 le99x3
                  replace v56 := bs_v56.keep lv_v56 (Nat.le_refl _)
                  replace lv_v61 := Keep.le lv_v61 le99x3
                  replace v61 := bs_v61.keep lv_v61 (Nat.le_refl _)
                  replace lv_hd85 := Keep.le lv_hd85 le99x3
                  replace hd85 := bs_hd85.keep lv_hd85 (Nat.le_refl _)
                  replace lv_wd85 := Keep.le lv_wd85 le99x3
                  replace wd85 := bs_wd85.keep lv_wd85 (Nat.le_refl _)
                  replace lv_v96x2 := Keep.le lv_v96x2 le99x3
                  replace v96x2 := bs_v96x2.keep lv_v96x2 (Nat.le_refl _)
                  replace lv_v98x3 := Keep.le lv_v98x3 le99x3
                  replace v98x3 := bs_v98x3.keep lv_v98x3 (Nat.le_refl _)
                  have bs_v99x3 := v99x3
                  have lv_v99x3 : Keep H15x3.next H99x3 H99x3 := fun _ _ _ h => h
                  replace h0 := base_h0.mono hle
                  replace h1 := base_h1.mono hle
                  clear hb2 fs2 ft2 c142 i22 hm2 hi2 hms2 his2 hmt2 hit2
                  have hb2 : SMap.At _ g2 0 m p := ⟨Mem.of_get at2, h0⟩
                  obtain ⟨fs2, ft2, c142, i22⟩ := hb2.get
                  have hm2 : MemN _ _ _ _ _ := ⟨rfl, hb2.1⟩
                  have hi2 := hb2.2
                  have hms2 : MemN _ _ _ _ _ := ⟨rfl, fs2.1⟩
                  have his2 := fs2.2
                  have hmt2 : MemN _ _ _ _ _ := ⟨rfl, ft2.1⟩
                  have hit2 := ft2.2
                  clear hb3 c03 i03 hm3 hi3
                  have hb3 : Prt.At _ g3 0 c q := ⟨Mem.of_get at3, h1⟩
                  obtain ⟨c03, i03⟩ := hb3.get
                  have hm3 : MemN _ _ _ _ _ := ⟨rfl, hb3.1⟩
                  have hi3 := hb3.2
                  clear i6x5
                  have i6x5 := v6x5.inn
                  clear mm6x5
                  have mm6x5 : MemN _ _ _ _ _ := ⟨rfl, Mem.of_get at6x5⟩
                  clear mm9003
                  have mm9003 : MemN _ _ _ _ _ := ⟨rfl, Mem.of_get at9003⟩
                  clear mm10003
                  have mm10003 : MemN _ _ _ _ _ := ⟨rfl, Mem.of_get at10003⟩
                  clear mm11007
                  have mm11007 : MemN _ _ _ _ _ := ⟨rfl, Mem.of_get at11007⟩
                  clear i56
                  have i56 := v56.inn
                  clear i61
                  have i61 := v61.inn
                  clear i96x2
                  have i96x2 := v96x2.inn
                  clear i98x3
                  have i98x3 := v98x3.inn
                  have i99x3 := v99x3.inn
                  replace hf0 := hf0.trans le99x3
                  refine .mB rfl rfl rfl rfl hbl (.move rfl) ?_
                  refine .mB rfl rfl rfl rfl hbl (.extract rfl rfl) ?_
                  refine .mB rfl rfl rfl rfl hbl (.extract rfl rfl) ?_
                  refine .r1 rfl rfl rfl (.fillR rfl sz_34_VPrt rfl rfl rfl rfl (by assumption) (by first | rfl | exact Nat.le_of_ble_eq_true rfl | simp)) ?_
                  rintro _ H31009x3 ⟨rfl, st31009x3, at31009x3⟩
                  replace hbl := hbl.st st31009x3 (fun k hk => ⟨by omega, trivial⟩)
                  refine ⟨hbl, ?_⟩
                  have nx_H31009x3 := st31009x3.nx
                  replace hle := hle.st st31009x3 (fun k hk => ⟨by omega, trivial⟩)
                  replace at2 := st31009x3.same _ _ ⟨by omega, trivial⟩ at2
                  replace at3 := st31009x3.same _ _ ⟨by omega, trivial⟩ at3
                  replace at6x5 := st31009x3.same _ _ ⟨by omega, trivial⟩ at6x5
                  replace at9003 := st31009x3.same _ _ ⟨by omega, trivial⟩ at9003
                  replace at10003 := st31009x3.same _ _ ⟨by omega, trivial⟩ at10003
                  replace at11007 := st31009x3.same _ _ ⟨by omega, trivial⟩ at11007
                  replace lv_v6x5 := Keep.st lv_v6x5 st31009x3 (fun k hb hk => ⟨by omega, trivial⟩)
                  replace v6x5 := bs_v6x5.keep lv_v6x5 (Nat.le_refl _)
                  replace lv_v56 := Keep.st lv_v56 st31009x3 (fun k hb hk => ⟨by omega, trivial⟩)
                  replace v56 := bs_v56.keep lv_v56 (Nat.le_refl _)
                  replace lv_v61 := Keep.st lv_v61 st31009x3 (fun k hb hk => ⟨by omega, trivial⟩)
                  replace v61 := bs_v61.keep lv_v61 (Nat.le_refl _)
                  replace lv_hd85 := Keep.st lv_hd85 st31009x3 (fun k hb hk => ⟨by omega, trivial⟩)
                  replace hd85 := bs_hd85.keep lv_hd85 (Nat.le_refl _)
                  replace lv_wd85 := Keep.st lv_wd85 st31009x3 (fun k hb hk => ⟨by omega, trivial⟩)
                  replace wd85 := bs_wd85.keep lv_wd85 (Nat.le_refl _)
                  replace lv_v96x2 := Keep.st lv_v96x2 st31009x3 (fun k hb hk => ⟨by omega, trivial⟩)
                  replace v96x2 := bs_v96x2.keep lv_v96x2 (Nat.le_refl _)
                  replace lv_v98x3 := Keep.st lv_v98x3 st31009x3 (fun k hb hk => ⟨by omega, trivial⟩)
                  replace v98x3 := bs_v98x3.keep lv_v98x3 (Nat.le_refl _)
                  replace lv_v99x3 := Keep.st lv_v99x3 st31009x3 (fun k hb hk => ⟨by omega, trivial⟩)
                  replace v99x3 := bs_v99x3.keep lv_v99x3 (Nat.le_refl _)
                  have lt_at31009x3 := GHeap.lt_of_get at31009x3
                  replace h0 := base_h0.mono hle
                  replace h1 := base_h1.mono hle
                  clear hb2 fs2 ft2 c142 i22 hm2 hi2 hms2 his2 hmt2 hit2
                  have hb2 : SMap.At _ g2 0 m p := ⟨Mem.of_get at2, h0⟩
                  obtain ⟨fs2, ft2, c142, i22⟩ := hb2.get
                  have hm2 : MemN _ _ _ _ _ := ⟨rfl, hb2.1⟩
                  have hi2 := hb2.2
                  have hms2 : MemN _ _ _ _ _ := ⟨rfl, fs2.1⟩
                  have his2 := fs2.2
                  have hmt2 : MemN _ _ _ _ _ := ⟨rfl, ft2.1⟩
                  have hit2 := ft2.2
                  clear hb3 c03 i03 hm3 hi3
                  have hb3 : Prt.At _ g3 0 c q := ⟨Mem.of_get at3, h1⟩
                  obtain ⟨c03, i03⟩ := hb3.get
                  have hm3 : MemN _ _ _ _ _ := ⟨rfl, hb3.1⟩
                  have hi3 := hb3.2
                  clear i6x5
                  have i6x5 := v6x5.inn
                  clear mm6x5
                  have mm6x5 : MemN _ _ _ _ _ := ⟨rfl, Mem.of_get at6x5⟩
                  clear mm9003
                  have mm9003 : MemN _ _ _ _ _ := ⟨rfl, Mem.of_get at9003⟩
                  clear mm10003
                  have mm10003 : MemN _ _ _ _ _ := ⟨rfl, Mem.of_get at10003⟩
                  clear mm11007
                  have mm11007 : MemN _ _ _ _ _ := ⟨rfl, Mem.of_get at11007⟩
                  clear i56
                  have i56 := v56.inn
                  clear i61
                  have i61 := v61.inn
                  clear i96x2
                  have i96x2 := v96x2.inn
                  clear i98x3
                  have i98x3 := v98x3.inn
                  clear i99x3
                  have i99x3 := v99x3.inn
                  have mm31009x3 : MemN _ _ _ _ _ := ⟨rfl, Mem.of_get at31009x3⟩
                  replace hf0 := hf0.st st31009x3 (fun k hk => ⟨by omega, trivial⟩)
                  refine .mB rfl rfl rfl rfl hbl (.assign rfl) ?_
                  refine .done ?_
                  exact ⟨_, p99x3, ⟨rfl, rfl, rfl, rfl, rfl, rfl, rfl, rfl, rfl, rfl, rfl, rfl, rfl, rfl, rfl, rfl, rfl, rfl, rfl, rfl, rfl, rfl, rfl, rfl, rfl, rfl, rfl, rfl, rfl, rfl, rfl, rfl, rfl, rfl, rfl, rfl, rfl, rfl, rfl, rfl, rfl, rfl, rfl, rfl, rfl, rfl, rfl, rfl, rfl, rfl, rfl, rfl, rfl, rfl, rfl, rfl, rfl, rfl, rfl, rfl, rfl, rfl, rfl, rfl, rfl, rfl, rfl, rfl, rfl, rfl, rfl, rfl, rfl, rfl, rfl, rfl, rfl, rfl, rfl, rfl, rfl, rfl, rfl, rfl, rfl, rfl, trivial⟩, hf0, by omega, at31009x3, v99x3.keep (.of_le (.refl _)) (by omega)⟩
                 ·
                  refine .call1 rfl rfl rfl rfl rfl @Try.call27 rfl (implDirectImage_c) ?_
                  rintro _ H99x4 ⟨le99x4, p99x4, rfl, v99x4⟩
                  replace hbl := hbl.trans le99x4
                  refine ⟨hbl, ?_⟩
                  have nx_H99x4 := le99x4.1
                  replace hle := hle.trans le99x4
                  replace at2 := le99x4.2 _ _ at2
                  replace at3 := le99x4.2 _ _ at3
                  replace at6x5 := le99x4.2 _ _ at6x5
                  replace at9003 := le99x4.2 _ _ at9003
                  replace at10003 := le99x4.2 _ _ at10003
                  replace at11007 := le99x4.2 _ _ at11007
                  replace lv_v6x5 := Keep.le lv_v6x5 le99x4
                  replace v6x5 := bs_v6x5.keep lv_v6x5 (Nat.le_refl _)
                  replace lv_v56 := Keep.le lv_v56 le99x4
                  replace v56 := bs_v56.keep lv_v56 (Nat.le_refl _)
                  replace lv_v61 := Keep.le lv_v61 le99x4
                  replace v61 := bs_v61.keep lv_v61 (Nat.le_refl _)
                  replace lv_hd85 := Keep.le lv_hd85 le99x4
                  replace hd85 := bs_hd85.keep lv_hd85 (Nat.le_refl _)
                  replace lv_wd85 := Keep.le lv_wd85 le99x4
                  replace wd85 := bs_wd85.keep lv_wd85 (Nat.le_refl _)
                  replace lv_v96x2 := Keep.le lv_v96x2 le99x4
                  replace v96x2 := bs_v96x2.keep lv_v96x2 (Nat.le_refl _)
                  replace lv_v98x3 := Keep.le lv_v98x3 le99x4
                  replace v98x3 := bs_v98x3.keep lv_v98x3 (Nat.le_refl _)
                  have bs_v99x4 := v99x4
                  have lv_v99x4 : Keep H98x3.next H99x4 H99x4 := fun _ _ _ h => h
                  replace h0 := base_h0.mono hle
                  replace h1 := base_h1.mono hle
                  clear hb2 fs2 ft2 c142 i22 hm2 hi2 hms2 his2 hmt2 hit2
                  have hb2 : SMap.At _ g2 0 m p := ⟨Mem.of_get at2, h0⟩
                  obtain ⟨fs2, ft2, c142, i22⟩ := hb2.get
                  have hm2 : MemN _ _ _ _ _ := ⟨rfl, hb2.1⟩
                  have hi2 := hb2.2
                  have hms2 : MemN _ _ _ _ _ := ⟨rfl, fs2.1⟩
                  have his2 := fs2.2
                  have hmt2 : MemN _ _ _ _ _ := ⟨rfl, ft2.1⟩
                  have hit2 := ft2.2
                  clear hb3 c03 i03 hm3 hi3
                  have hb3 : Prt.At _ g3 0 c q := ⟨Mem.of_get at3, h1⟩
                  obtain ⟨c03, i03⟩ := hb3.get
                  have hm3 : MemN _ _ _ _ _ := ⟨rfl, hb3.1⟩
                  have hi3 := hb3.2
                  clear i6x5
                  have i6x5 := v6x5.inn
                  clear mm6x5
                  have mm6x5 : MemN _ _ _ _ _ := ⟨rfl, Mem.of_get at6x5⟩
                  clear mm9003
                  have mm9003 : MemN _ _ _ _ _ := ⟨rfl, Mem.of_get at9003⟩
                  clear mm10003
                  have mm10003 : MemN _ _ _ _ _ := ⟨rfl, Mem.of_get at10003⟩
                  clear mm11007
                  have mm11007 : MemN _ _ _ _ _ := ⟨rfl, Mem.of_get at11007⟩
                  clear i56
                  have i56 := v56.inn
                  clear i61
                  have i61 := v61.inn
                  clear i96x2
                  have i96x2 := v96x2.inn
                  clear i98x3
                  have i98x3 := v98x3.inn
                  have i99x4 := v99x4.inn
                  replace hf0 := hf0.trans le99x4
                  refine .mB rfl rfl rfl rfl hbl (.move rfl) ?_
                  refine .mB rfl rfl rfl rfl hbl (.extract rfl rfl) ?_
                  refine .mB rfl rfl rfl rfl hbl (.extract rfl rfl) ?_
                  refine .c1 rfl rfl rfl rfl (.allocR rfl ze_34_VPrt rfl) ?_
                  rintro _ H15x4 ⟨g15x4, rfl, le15x4, ge15x4, at15x4⟩
                  replace hbl := hbl.trans le15x4
                  refine ⟨hbl, ?_⟩
                  have nx_H15x4 := le15x4.1
                  replace hle := hle.trans le15x4
                  replace at2 := le15x4.2 _ _ at2
                  replace at3 := le15x4.2 _ _ at3
                  replace at6x5 := le15x4.2 _ _ at6x5
                  replace at9003 := le15x4.2 _ _ at9003
                  replace at10003 := le15x4.2 _ _ at10003
                  replace at11007 := le15x4.2 _ _ at11007
                  replace lv_v6x5 := Keep.le lv_v6x5 le15x4
                  replace v6x5 := bs_v6x5.keep lv_v6x5 (Nat.le_refl _)
                  replace lv_v56 := Keep.le lv_v56 le15x4
                  replace v56 := bs_v56.keep lv_v56 (Nat.le_refl _)
                  replace lv_v61 := Keep.le lv_v61 le15x4
                  replace v61 := bs_v61.keep lv_v61 (Nat.le_refl _)
                  replace lv_hd85 := Keep.le lv_hd85 le15x4
                  replace hd85 := bs_hd85.keep lv_hd85 (Nat.le_refl _)
                  replace lv_wd85 := Keep.le lv_wd85 le15x4
                  replace wd85 := bs_wd85.keep lv_wd85 (Nat.le_refl _)
                  replace lv_v96x2 := Keep.le lv_v96x2 le15x4
                  replace v96x2 := bs_v96x2.keep lv_v96x2 (Nat.le_refl _)
                  replace lv_v98x3 := Keep.le lv_v98x3 le15x4
                  replace v98x3 := bs_v98x3.keep lv_v98x3 (Nat.le_refl _)
                  replace lv_v99x4 := Keep.le lv_v99x4 le15x4
                  replace v99x4 := bs_v99x4.keep lv_v99x4 (Nat.le_refl _)
                  have lt_at15x4 := GHeap.lt_of_get at15x4
                  replace h0 := base_h0.mono hle
                  replace h1 := base_h1.mono hle
                  clear hb2 fs2 ft2 c142 i22 hm2 hi2 hms2 his2 hmt2 hit2
                  have hb2 : SMap.At _ g2 0 m p := ⟨Mem.of_get at2, h0⟩
                  obtain ⟨fs2, ft2, c142, i22⟩ := hb2.get
                  have hm2 : MemN _ _ _ _ _ := ⟨rfl, hb2.1⟩
                  have hi2 := hb2.2
                  have hms2 : MemN _ _ _ _ _ := ⟨rfl, fs2.1⟩
                  have his2 := fs2.2
                  have hmt2 : MemN _ _ _ _ _ := ⟨rfl, ft2.1⟩
                  have hit2 := ft2.2
                  clear hb3 c03 i03 hm3 hi3
                  have hb3 : Prt.At _ g3 0 c q := ⟨Mem.of_get at3, h1⟩
                  obtain ⟨c03, i03⟩ := hb3.get
                  have hm3 : MemN _ _ _ _ _ := ⟨rfl, hb3.1⟩
                  have hi3 := hb3.2
                  clear i6x5
                  have i6x5 := v6x5.inn
                  clear mm6x5
                  have mm6x5 : MemN _ _ _ _ _ := ⟨rfl, Mem.of_get at6x5⟩
                  clear mm9003
                  have mm9003 : MemN _ _ _ _ _ := ⟨rfl, Mem.of_get at9003⟩
                  clear mm10003
                  have mm10003 : MemN _ _ _ _ _ := ⟨rfl, Mem.of_get at10003⟩
                  clear mm11007
                  have mm11007 : MemN _ _ _ _ _ := ⟨rfl, Mem.of_get at11007⟩
                  clear i56
                  have i56 := v56.inn
                  clear i61
                  have i61 := v61.inn
                  clear i96x2
                  have i96x2 := v96x2.inn
                  clear i98x3
                  have i98x3 := v98x3.inn
                  clear i99x4
                  have i99x4 := v99x4.inn
                  replace hf0 := hf0.trans le15x4
                  refine .r1 rfl rfl rfl (.fillR rfl sz_34_VPrt rfl rfl rfl rfl (by assumption) (by first | rfl | exact Nat.le_of_ble_eq_true rfl | simp)) ?_
                  rintro _ H31009x4 ⟨rfl, st31009x4, at31009x4⟩
                  replace hbl := hbl.st st31009x4 (fun k hk => ⟨by omega, trivial⟩)
                  refine ⟨hbl, ?_⟩
                  have nx_H31009x4 := st31009x4.nx
                  replace hle := hle.st st31009x4 (fun k hk => ⟨by omega, trivial⟩)
                  replace at2 := st31009x4.same _ _ ⟨by omega, trivial⟩ at2
                  replace at3 := st31009x4.same _ _ ⟨by omega, trivial⟩ at3
                  replace at6x5 := st31009x4.same _ _ ⟨by omega, trivial⟩ at6x5
                  replace at9003 := st31009x4.same _ _ ⟨by omega, trivial⟩ at9003
                  replace at10003 := st31009x4.same _ _ ⟨by omega, trivial⟩ at10003
                  replace at11007 := st31009x4.same _ _ ⟨by omega, trivial⟩ at11007
                  replace lv_v6x5 := Keep.st lv_v6x5 st31009x4 (fun k hb hk => ⟨by omega, trivial⟩)
                  replace v6x5 := bs_v6x5.keep lv_v6x5 (Nat.le_refl _)
                  replace lv_v56 := Keep.st lv_v56 st31009x4 (fun k hb hk => ⟨by omega, trivial⟩)
                  replace v56 := bs_v56.keep lv_v56 (Nat.le_refl _)
                  replace lv_v61 := Keep.st lv_v61 st31009x4 (fun k hb hk => ⟨by omega, trivial⟩)
                  replace v61 := bs_v61.keep lv_v61 (Nat.le_refl _)
                  replace lv_hd85 := Keep.st lv_hd85 st31009x4 (fun k hb hk => ⟨by omega, trivial⟩)
                  replace hd85 := bs_hd85.keep lv_hd85 (Nat.le_refl _)
                  replace lv_wd85 := Keep.st lv_wd85 st31009x4 (fun k hb hk => ⟨by omega, trivial⟩)
                  replace wd85 := bs_wd85.keep lv_wd85 (Nat.le_refl _)
                  replace lv_v96x2 := Keep.st lv_v96x2 st31009x4 (fun k hb hk => ⟨by omega, trivial⟩)
                  replace v96x2 := bs_v96x2.keep lv_v96x2 (Nat.le_refl _)
                  replace lv_v98x3 := Keep.st lv_v98x3 st31009x4 (fun k hb hk => ⟨by omega, trivial⟩)
                  replace v98x3 := bs_v98x3.keep lv_v98x3 (Nat.le_refl _)
                  replace lv_v99x4 := Keep.st lv_v99x4 st31009x4 (fun k hb hk => ⟨by omega, trivial⟩)
                  replace v99x4 := bs_v99x4.keep lv_v99x4 (Nat.le_refl _)
                  have lt_at31009x4 := GHeap.lt_of_get at31009x4
                  replace h0 := base_h0.mono hle
                  replace h1 := base_h1.mono hle
                  clear hb2 fs2 ft2 c142 i22 hm2 hi2 hms2 his2 hmt2 hit2
                  have hb2 : SMap.At _ g2 0 m p := ⟨Mem.of_get at2, h0⟩
                  obtain ⟨fs2, ft2, c142, i22⟩ := hb2.get
                  have hm2 : MemN _ _ _ _ _ := ⟨rfl, hb2.1⟩
                  have hi2 := hb2.2
                  have hms2 : MemN _ _ _ _ _ := ⟨rfl, fs2.1⟩
                  have his2 := fs2.2
                  have hmt2 : MemN _ _ _ _ _ := ⟨rfl, ft2.1⟩
                  have hit2 := ft2.2
                  clear hb3 c03 i03 hm3 hi3
                  have hb3 : Prt.At _ g3 0 c q := ⟨Mem.of_get at3, h1⟩
                  obtain ⟨c03, i03⟩ := hb3.get
                  have hm3 : MemN _ _ _ _ _ := ⟨rfl, hb3.1⟩
                  have hi3 := hb3.2
                  clear i6x5
                  have i6x5 := v6x5.inn
                  clear mm6x5
                  have mm6x5 : MemN _ _ _ _ _ := ⟨rfl, Mem.of_get at6x5⟩
                  clear mm9003
                  have mm9003 : MemN _ _ _ _ _ := ⟨rfl, Mem.of_get at9003⟩
                  clear mm10003
                  have mm10003 : MemN _ _ _ _ _ := ⟨rfl, Mem.of_get at10003⟩
                  clear mm11007
                  have mm11007 : MemN _ _ _ _ _ := ⟨rfl, Mem.of_get at11007⟩
                  clear i56
                  have i56 := v56.inn
                  clear i61
                  have i61 := v61.inn
                  clear i96x2
                  have i96x2 := v96x2.inn
                  clear i98x3
                  have i98x3 := v98x3.inn
                  clear i99x4
                  have i99x4 := v99x4.inn
                  have mm31009x4 : MemN _ _ _ _ _ := ⟨rfl, Mem.of_get at31009x4⟩
                  replace hf0 := hf0.st st31009x4 (fun k hk => ⟨by omega, trivial⟩)
                  refine .mB rfl rfl rfl rfl hbl (.assign rfl) ?_
                  refine .done ?_
                  exact ⟨_, p99x4, ⟨rfl, rfl, rfl, rfl, rfl, rfl, rfl, rfl, rfl, rfl, rfl, rfl, rfl, rfl, rfl, rfl, rfl, rfl, rfl, rfl, rfl, rfl, rfl, rfl, rfl, rfl, rfl, rfl, rfl, rfl, rfl, rfl, rfl, rfl, rfl, rfl, rfl, rfl, rfl, rfl, rfl, rfl, rfl, rfl, rfl, rfl, rfl, rfl, rfl, rfl, rfl, rfl, rfl, rfl, rfl, rfl, rfl, rfl, rfl, rfl, rfl, rfl, rfl, rfl, rfl, rfl, rfl, rfl, rfl, rfl, rfl, rfl, rfl, rfl, rfl, rfl, rfl, rfl, rfl, rfl, rfl, rfl, rfl, rfl, rfl, rfl, trivial⟩, hf0, by omega, at31009x4, v99x4.keep (.of_le (.refl _)) (by omega)⟩
              ·
               rintro fr15x5 H15x5 ⟨g15x5, p15x5, hsub15x5, le15x5, ge15x5, at15x5, v15x5⟩
               have nx_H15x5 := le15x5.1
               replace hle := hle.trans le15x5
               replace at2 := le15x5.2 _ _ at2
               replace at3 := le15x5.2 _ _ at3
               replace at6x5 := le15x5.2 _ _ at6x5
               replace at9003 := le15x5.2 _ _ at9003
               replace at10003 := le15x5.2 _ _ at10003
               replace at11007 := le15x5.2 _ _ at11007
               replace lv_v6x5 := Keep.le lv_v6x5 le15x5
               replace v6x5 := bs_v6x5.keep lv_v6x5 (Nat.le_refl _)
               replace lv_v56 := Keep.le lv_v56 le15x5
               replace v56 := bs_v56.keep lv_v56 (Nat.le_refl _)
               replace lv_v61 := Keep.le lv_v61 le15x5
               replace v61 := bs_v61.keep lv_v61 (Nat.le_refl _)
               replace lv_hd85 := Keep.le lv_hd85 le15x5
               replace hd85 := bs_hd85.keep lv_hd85 (Nat.le_refl _)
               replace lv_wd85 := Keep.le lv_wd85 le15x5
               replace wd85 := bs_wd85.keep lv_wd85 (Nat.le_refl _)
               have lt_at15x5 := GHeap.lt_of_get at15x5
               have bs_v15x5 := v15x5
               have lv_v15x5 : Keep H85.next H15x5 H15x5 := fun _ _ _ h => h
               replace h0 := base_h0.mono hle
               replace h1 := base_h1.mono hle
               clear hb2 fs2 ft2 c142 i22 hm2 hi2 hms2 his2 hmt2 hit2
               have hb2 : SMap.At _ g2 0 m p := ⟨Mem.of_get at2, h0⟩
               obtain ⟨fs2, ft2, c142, i22⟩ := hb2.get
               have hm2 : MemN _ _ _ _ _ := ⟨rfl, hb2.1⟩
               have hi2 := hb2.2
               have hms2 : MemN _ _ _ _ _ := ⟨rfl, fs2.1⟩
               have his2 := fs2.2
               have hmt2 : MemN _ _ _ _ _ := ⟨rfl, ft2.1⟩
               have hit2 := ft2.2
               clear hb3 c03 i03 hm3 hi3
               have hb3 : Prt.At _ g3 0 c q := ⟨Mem.of_get at3, h1⟩
               obtain ⟨c03, i03⟩ := hb3.get
               have hm3 : MemN _ _ _ _ _ := ⟨rfl, hb3.1⟩
               have hi3 := hb3.2
               clear i6x5
               have i6x5 := v6x5.inn
               clear mm6x5
               have mm6x5 : MemN _ _ _ _ _ := ⟨rfl, Mem.of_get at6x5⟩
               clear mm9003
               have mm9003 : MemN _ _ _ _ _ := ⟨rfl, Mem.of_get at9003⟩
               clear mm10003
               have mm10003 : MemN _ _ _ _ _ := ⟨rfl, Mem.of_get at10003⟩
               clear mm11007
               have mm11007 : MemN _ _ _ _ _ := ⟨rfl, Mem.of_get at11007⟩
               clear i56
               have i56 := v56.inn
               clear i61
               have i61 := v61.inn
               have i15x5 := v15x5.inn
               have mm15x5 : MemN _ _ _ _ _ := ⟨rfl, Mem.of_get at15x5⟩
               refine hK43 _ _ ?_
               refine .forget hsub15x5 ?_
               refine .seq (fun K44 hK44 => ?_)
               refine .seq (fun K45 hK45 => ?_)
               refine .region ?_
               refine .m rfl rfl rfl (.loadM ag_34_VPrt rfl ⟨rfl, Mem.of_get at15x5⟩) ?_
               refine .m rfl rfl rfl (.loadM ag_34_VPrt rfl ⟨rfl, Mem.of_get at6x5⟩) ?_
               refine .callQ rfl rfl rfl rfl @Try.call13 rfl (eqPart_c) ?_
               refine .m rfl rfl rfl (.not rfl) ?_
               refine .m rfl rfl rfl (.move rfl) ?_
               refine .split (fun h106 => ?_) (fun h106 => ?_)
               ·
                try simp only [sps] at h106
                refine .sg rfl rfl rfl rfl rfl ?_
                refine .sg rfl rfl rfl rfl rfl ?_
                refine .sg rfl rfl rfl rfl rfl ?_
                refine .m rfl rfl rfl (.pickT rfl rfl) ?_
                refine .nil ?_
                refine hK45 _ _ ?_
                refine .condT rfl ?_
                refine .seq (fun K46 hK46 => ?_)
                refine .region ?_
                refine .m rfl rfl rfl (.assign rfl) ?_
                refine .nil ?_
                refine hK46 _ _ ?_
                refine .ret ?_
                -- leaf e12
                refine hret _ _ ?_
                refine ⟨_, rfl, ?_⟩
                first
                | exact rfl
                | exact absurd trivial (by assumption)
                | contradiction
                | (exfalso; omega)
               ·
                try simp only [sps] at h106
                refine .mg rfl rfl rfl rfl rfl (.move rfl) ?_
                refine .mg rfl rfl rfl rfl rfl (.move rfl) ?_
                refine .mg rfl rfl rfl rfl rfl (.cmp rfl rfl rfl) ?_
                refine .m rfl rfl rfl (.pickF rfl rfl) ?_
                refine .nil ?_
                refine hK45 _ _ ?_
                refine .cond rfl (fun h110 => ?_) (fun h110 => ?_)
                ·
                 try simp only [sps] at h110
                 refine .seq (fun K47 hK47 => ?_)
                 refine .region ?_
                 refine .m rfl rfl rfl (.assign rfl) ?_
                 refine .nil ?_
                 refine hK47 _ _ ?_
                 refine .ret ?_
                 -- leaf e13
                 refine hret _ _ ?_
                 refine ⟨_, rfl, ?_⟩
                 first
                 | exact rfl
                 | exact absurd trivial (by assumption)
                 | contradiction
                 | (exfalso; omega)
                ·
                 try simp only [sps] at h110
                 refine .skip ?_
                 refine hK44 _ _ ?_
                 refine .seq (fun K48 hK48 => ?_)
                 refine .region ?_
                 refine .m rfl rfl rfl (.assign rfl) ?_
                 refine .nil ?_
                 refine hK48 _ _ ?_
                 refine .seq (fun K49 hK49 => ?_)
                 refine .region ?_
                 refine .m rfl rfl rfl (.loadM ag_34_VPrt rfl ⟨rfl, Mem.of_get at11007⟩) ?_
                 refine .m rfl rfl rfl (.move rfl) ?_
                 refine .callQ rfl rfl rfl rfl @Try.call17 rfl (heldPart_c) ?_
                 refine .m rfl rfl rfl (.assign rfl) ?_
                 refine .nil ?_
                 refine hK49 _ _ ?_
                 refine .seq (fun K50 hK50 => ?_)
                 refine .seq (fun K51 hK51 => ?_)
                 refine .region ?_
                 refine .m rfl rfl rfl (.move rfl) ?_
                 refine .m rfl rfl rfl (.cmp rfl rfl rfl) ?_
                 refine .nil ?_
                 refine hK51 _ _ ?_
                 refine .cond rfl (fun h115 => ?_) (fun h115 => ?_)
                 ·
                  try simp only [sps] at h115
                  refine .seq (fun K52 hK52 => ?_)
                  refine .region ?_
                  refine .m rfl rfl rfl (.assign rfl) ?_
                  refine .nil ?_
                  refine hK52 _ _ ?_
                  refine .ret ?_
                  -- leaf e14
                  refine hret _ _ ?_
                  refine ⟨_, rfl, ?_⟩
                  first
                  | exact rfl
                  | exact absurd trivial (by assumption)
                  | contradiction
                  | (exfalso; omega)
                 ·
                  try simp only [sps] at h115
                  refine .skip ?_
                  refine hK50 _ _ ?_
                  refine .seq (fun K53 hK53 => ?_)
                  refine .seq (fun K54 hK54 => ?_)
                  refine .region ?_
                  refine .m rfl rfl rfl (.move rfl) ?_
                  refine .m rfl rfl rfl (.move rfl) ?_
                  refine .m rfl rfl rfl (.cmp rfl rfl rfl) ?_
                  refine .nil ?_
                  refine hK54 _ _ ?_
                  refine .cond rfl (fun h118 => ?_) (fun h118 => ?_)
                  ·
                   try simp only [sps] at h118
                   refine .seq (fun K55 hK55 => ?_)
                   refine .region ?_
                   refine .m rfl rfl rfl (.assign rfl) ?_
                   refine .nil ?_
                   refine hK55 _ _ ?_
                   refine .ret ?_
                   -- leaf e15
                   refine hret _ _ ?_
                   refine ⟨_, rfl, ?_⟩
                   first
                   | exact rfl
                   | exact absurd trivial (by assumption)
                   | contradiction
                   | (exfalso; omega)
                  ·
                   try simp only [sps] at h118
                   refine .skip ?_
                   refine hK53 _ _ ?_
                   refine .seq (fun K56 hK56 => ?_)
                   refine .region ?_
                   refine .m rfl rfl rfl (.assign rfl) ?_
                   refine .nil ?_
                   refine hK56 _ _ ?_
                   refine .ret ?_
                   -- leaf e16
                   refine hret _ _ ?_
                   refine ⟨_, rfl, ?_⟩
                   first
                   | exact rfl
                   | exact absurd trivial (by assumption)
                   | contradiction
                   | (exfalso; omega)
end Go.Proofs.Ytbpehbbdodahaaa
/- The call of a law, whatever it takes: the arguments brought in one by one. No condition. -/
namespace Go.GL
open Go.RowKit Go.WideShapes Go.ChangeShapes Go.Deep

/-- An argument of type t may be brought in so that R holds of what stands for it. -/
structure Imp1 (P : Program) (t : TypeId) (R : GHeap → Value → Prop) : Prop where
  mono : ∀ {H H' : GHeap} {g : Value}, H.Le H' → R H g → R H' g
  imp : ∀ {T : Type} {enc : TypeId × Value → T} {B : Nat} {w0 : World} {ρ : Place} {H : GHeap} {w : World} {held : Bool} {base fuel : Nat} {v : Value} {x : DataW T × List MemPlace}, Sim P B w0 ρ H w → w.heap.size ≤ B →
    DataW.trod enc P w 0 (fun _ => true) held fuel t v.cells.toList = some x → Value.okWide P w .any base t v → ∃ ρ' H' g, Sim P B w0 ρ' H' w ∧ Ext ρ ρ' ∧ H.Le H' ∧ VRel ρ' g v ∧ R H' g

def structT (P : Program) (t : TypeId) : Bool := match P.underlying t with | some (.struct _) => true | _ => false
theorem imp1_struct {P : Program} {t : TypeId} {α β : Type} {cells : α → β → List Value} {I : GHeap → α → β → Prop} {W : α → Prop} (hm : ∀ {H H' : GHeap} {c : α} {p : β}, I H c p → H.Le H' → I H' c p)
    (hI : Imports P t (fun ρ H cs => ∃ (c : α) (p : β), LRel ρ (cells c p) cs ∧ I H c p ∧ W c)) (hst : structT P t = true) : Imp1 P t (fun H g => ∃ (c : α) (p : β), g = .agg (cells c p).toArray ∧ I H c p ∧ W c) where
  mono h := fun ⟨c, p, h1, h2, h3⟩ => ⟨c, p, h1, hm h2 h, h3⟩
  imp := by
    intro T enc B w0 ρ H w held base fuel v x hs hB h hv
    have hagg : ∃ cs, v = .agg cs := by
      unfold Value.okWide at hv
      unfold structT at hst
      split at hst
      · rename_i fs hu
        rw [hu] at hv
        obtain ⟨cs, h, _⟩ := hv
        exact ⟨cs, h⟩
      · cases hst
    obtain ⟨cs, rfl⟩ := hagg
    obtain ⟨ρ', H', h1, h2, h3, c, p, h4, h5, h6⟩ := hI hs hB h
    exact ⟨ρ', H', _, h1, h2, h3, by have := VRel.agg_of h4; simpa [Value.cells] using this, c, p, rfl, h5, h6⟩
theorem imp1_int {P : Program} {t : TypeId} (ht : i64T P t = true) : Imp1 P t (fun _ g => ∃ n, g = .int .i64 n ∧ I64 n) where
  mono _ := id
  imp := by
    intro T enc B w0 ρ H w held base fuel v x hs hB h hv
    obtain ⟨n, rfl⟩ := okWide_int (i64T_run ht) hv
    obtain ⟨ρ', H', h1, h2, h3, m, h4, h5⟩ := import_int ht hs hB h
    have : n = m := by simpa [Value.cells] using h4
    subst this
    exact ⟨ρ', H', _, h1, h2, h3, .int _ _, n, rfl, h5⟩
theorem imp1_ints {P : Program} {t : TypeId} (ht : intsT P t = true) : Imp1 P t (fun H g => ∃ a xs, g = .slice a xs.length xs.length ∧ Ints H a xs ∧ I64s xs) where
  mono h := fun ⟨a, xs, h1, h2, h3⟩ => ⟨a, xs, h1, h2.mono h, h3⟩
  imp := by
    intro T enc B w0 ρ H w held base fuel v x hs hB h hv
    obtain ⟨e, hu, _⟩ := intsT_run ht
    obtain ⟨a, l, c, rfl⟩ := okWide_slice hu hv
    obtain ⟨ρ', H', h1, h2, h3, a', xs, c', h4, h5, h6, h7⟩ := import_ints ht hs hB h
    have : Value.slice a l c = c' := by simpa [Value.cells] using h4
    subst this
    exact ⟨ρ', H', _, h1, h2, h3, h5, a', xs, rfl, h6, h7⟩
theorem imp1_intss {P : Program} {t : TypeId} (ht : intssT P t = true) : Imp1 P t (fun H g => ∃ a xss r, g = .slice a xss.length xss.length ∧ Intss H a xss r ∧ xss.length ≤ 9223372036854775807 ∧ ∀ i, I64s (xss.getD i [])) where
  mono h := fun ⟨a, xs, r, h1, h2, h3⟩ => ⟨a, xs, r, h1, h2.mono h, h3⟩
  imp := by
    intro T enc B w0 ρ H w held base fuel v x hs hB h hv
    obtain ⟨e, hu, _⟩ := intssT_run ht
    obtain ⟨a, l, c, rfl⟩ := okWide_slice hu hv
    obtain ⟨ρ', H', h1, h2, h3, a', xs, r, c', h4, h5, h6, h7⟩ := import_intss ht hs hB h
    have : Value.slice a l c = c' := by simpa [Value.cells] using h4
    subst this
    exact ⟨ρ', H', _, h1, h2, h3, h5, a', xs, r, rfl, h6, h7⟩
theorem imp1_intsss {P : Program} {t : TypeId} (ht : intsssT P t = true) : Imp1 P t (fun H g => ∃ a x r s, g = .slice a x.length x.length ∧ Intsss H a x r s ∧ Wd3 x) where
  mono h := fun ⟨a, xs, r, s, h1, h2, h3⟩ => ⟨a, xs, r, s, h1, h2.mono h, h3⟩
  imp := by
    intro T enc B w0 ρ H w held base fuel v x hs hB h hv
    obtain ⟨e, hu, _⟩ := intsssT_run ht
    obtain ⟨a, l, c, rfl⟩ := okWide_slice hu hv
    obtain ⟨ρ', H', h1, h2, h3, a', xs, r, s, c', h4, h5, h6, h7⟩ := import_intsss ht hs hB h
    have : Value.slice a l c = c' := by simpa [Value.cells] using h4
    subst this
    exact ⟨ρ', H', _, h1, h2, h3, h5, a', xs, r, s, rfl, h6, h7⟩

/-- Arguments of types ts may be brought in so that R holds of what stands for them. -/
structure ImpAll (P : Program) (ts : List TypeId) (R : GHeap → List Value → Prop) : Prop where
  imp : ∀ {T : Type} {enc : TypeId × Value → T} {B : Nat} {w0 : World} {ρ : Place} {H : GHeap} {w : World} {base : Nat} {vs : List Value} {ds : List (DataW T)} {ps : List MemPlace}, Sim P B w0 ρ H w → w.heap.size ≤ B →
    DataW.TrodAll enc P w 0 (fun _ => true) true ts vs ds ps → (∀ (j : Nat) t v, ts[j]? = some t → vs[j]? = some v → Value.okWide P w .any base t v) → ds.length = ts.length ∧ ∃ ρ' H' gs, Sim P B w0 ρ' H' w ∧ Ext ρ ρ' ∧ H.Le H' ∧ LRel ρ' gs vs ∧ R H' gs
theorem ImpAll.nil {P : Program} : ImpAll P [] (fun _ gs => gs = []) where
  imp := by
    intro T enc B w0 ρ H w base vs ds ps hs hB h hv
    obtain ⟨rfl, rfl, rfl⟩ := trodAll_nil h
    exact ⟨rfl, ρ, H, [], hs, .refl ρ, .refl H, .nil ρ, rfl⟩
theorem ImpAll.cons {P : Program} {t : TypeId} {ts : List TypeId} {R1 : GHeap → Value → Prop} {R : GHeap → List Value → Prop} (h1 : Imp1 P t R1) (h2 : ImpAll P ts R) : ImpAll P (t :: ts) (fun H gs => ∃ g r, gs = g :: r ∧ R1 H g ∧ R H r) where
  imp := by
    intro T enc B w0 ρ H w base vs ds ps hs hB h hv
    obtain ⟨v, vs, d, ds, p, q, rfl, rfl, rfl, ⟨fuel, k1⟩, k2⟩ := trodAll_cons h
    obtain ⟨ρ1, H1, g, s1, e1, l1, v1, r1⟩ := h1.imp hs hB k1 (hv 0 t v rfl rfl)
    obtain ⟨hl, ρ2, H2, gs, s2, e2, l2, v2, r2⟩ := h2.imp s1 hB k2 (fun j t v ht hj => hv (j + 1) t v (by simpa using ht) (by simpa using hj))
    exact ⟨by simp [hl], ρ2, H2, g :: gs, s2, e1.trans e2, l1.trans l2, .cons (v1.mono e2) v2, g, gs, rfl, h1.mono l2 r1, r2⟩

/-- The call of a law. -/
theorem law_calls {P : Program} {f : FuncId} {fn : Func} {ts : List TypeId} {tb : TypeId} {R : GHeap → List Value → Prop} (hI : ImpAll P ts R) (hp : fn.params = ts.toArray)
    (hc : ∀ H gs, R H gs → GCalls P f gs H fun v _ => v = .bool true)
    {T : Type} {enc : TypeId × Value → T} {W : World} {base : Nat} {args : Array Value} {s : ChangeSpec} {apart fresh handsOn again : Bool} {ds gs : List (DataW T)} {before : List MemPlace}
    (hval : ∀ (j : Nat) t v, fn.params[j]? = some t → args[j]? = some v → Value.okWide P W .any base t v)
    (hW : DataW.Whole enc P fn.params.toList s.vars apart W args.toList ds gs before)
    (hl : laidOutB P = true) (hr : readB P fn.params.toList = true) (hv : s.vars = []) (hrt : fn.resultTypes = #[tb]) (htb : P.underlying tb = some .bool)
    (hs : ∀ ds : List (DataW T), ds.length = ts.length → (s.fn T ds).results = [.lit (.bool true)] ∧ (s.fn T ds).args = ds ∧ (s.fn T ds).vars = []) :
    Calls P f args W fun e W' => ∃ v, e = .returned v ∧ s.post enc P fn apart fresh handsOn again W args v W' := by
  have hWW := hW
  obtain ⟨p, q, hA, _⟩ := hW
  rw [hp] at hA
  obtain ⟨hlen, ρ, H, gs', hs', _, _, hrel, hR⟩ := hI.imp (base := base) (Sim.start P W) (Nat.le_refl _) (by simpa using hA) (fun j t v ht hj => hval j t v (by rw [hp]; simpa using ht) (by simpa using hj))
  have := (hc H gs' hR) _ _ ρ args.toList W hs' hrel
  rw [Array.toArray_toList] at this
  refine this.mono fun e W' ⟨v, c, ρ', H', he, hv', _, hsim, hrv⟩ => ?_
  subst hv'
  cases hrv
  exact ⟨_, he, law_post hl hr hv hrt htb hWW (hs ds hlen).1 (hs ds hlen).2.1 (hs ds hlen).2.2 hsim.below⟩
end Go.GL
