/- The law of JoinParts. No condition but those of each statement. -/
import Derived.Test.YtbpehbbdodahaaaZ8
namespace Go.Proofs.Ytbpehbbdodahaaa
open Go Go.GL Go.RowKit Go.Proofs
theorem ag_27_LJoinParts : aggT Try.prog 27 = some 7 := by kernel_rfl
theorem ag_31_LJoinParts : aggT Try.prog 31 = some 1 := by kernel_rfl
set_option maxHeartbeats 40000000 in
theorem lawJoinParts_c {f : SFun} {p : SFunP} {m : Prt} {q : PrtP} {m' : Prt} {q' : PrtP} {H : GHeap} (h0 : f.In H p) (w0 : f.Wide) (h1 : m.In H q) (w1 : m.Wide) (h2 : m'.In H q') (w2 : m'.Wide) :
    GCalls Try.prog 5 [.agg (f.cells p).toArray, .agg (m.cells q).toArray, .agg (m'.cells q').toArray] H (fun v _ => v = .bool true) := by
  refine GCalls.body (N := 142) (rs := [.tmp 6]) Try.func5 rfl rfl rfl rfl (fun Qx hret hend => ?_)
  refine .forget (fr' := [(0, some _), (1, some _), (2, some _)]) ⟨rfl, rfl, rfl, trivial⟩ ?_
  have hle := GHeap.Le.refl H
  have base_h0 := h0
  have base_h1 := h1
  have base_h2 := h2
  refine .seq (fun K1 hK1 => ?_)
  refine .region ?_
  refine .r rfl rfl rfl (.boxR rfl sz_27_VSFun rfl) ?_
  rintro _ H3 ⟨g3, rfl, le3, ge3, at3⟩
  have nx_H3 := le3.1
  replace hle := hle.trans le3
  have lt_at3 := GHeap.lt_of_get at3
  replace h0 := base_h0.mono hle
  replace h1 := base_h1.mono hle
  replace h2 := base_h2.mono hle
  have hb3 : SFun.At _ g3 0 f p := ⟨Mem.of_get at3, h0⟩
  obtain ⟨fsh3, c53, c63, i13, i23⟩ := hb3.get
  have hm3 : MemN _ _ _ _ _ := ⟨rfl, hb3.1⟩
  have hi3 := hb3.2
  have hmsh3 : MemN _ _ _ _ _ := ⟨rfl, fsh3.1⟩
  have hish3 := fsh3.2
  refine .r rfl rfl rfl (.boxR rfl sz_31_VPrt rfl) ?_
  rintro _ H4 ⟨g4, rfl, le4, ge4, at4⟩
  have nx_H4 := le4.1
  replace hle := hle.trans le4
  replace at3 := le4.2 _ _ at3
  have lt_at4 := GHeap.lt_of_get at4
  replace h0 := base_h0.mono hle
  replace h1 := base_h1.mono hle
  replace h2 := base_h2.mono hle
  clear hb3 fsh3 c53 c63 i13 i23 hm3 hi3 hmsh3 hish3
  have hb3 : SFun.At _ g3 0 f p := ⟨Mem.of_get at3, h0⟩
  obtain ⟨fsh3, c53, c63, i13, i23⟩ := hb3.get
  have hm3 : MemN _ _ _ _ _ := ⟨rfl, hb3.1⟩
  have hi3 := hb3.2
  have hmsh3 : MemN _ _ _ _ _ := ⟨rfl, fsh3.1⟩
  have hish3 := fsh3.2
  have hb4 : Prt.At _ g4 0 m q := ⟨Mem.of_get at4, h1⟩
  obtain ⟨c04, i04⟩ := hb4.get
  have hm4 : MemN _ _ _ _ _ := ⟨rfl, hb4.1⟩
  have hi4 := hb4.2
  refine .r rfl rfl rfl (.boxR rfl sz_31_VPrt rfl) ?_
  rintro _ H5 ⟨g5, rfl, le5, ge5, at5⟩
  have nx_H5 := le5.1
  replace hle := hle.trans le5
  replace at3 := le5.2 _ _ at3
  replace at4 := le5.2 _ _ at4
  have lt_at5 := GHeap.lt_of_get at5
  replace h0 := base_h0.mono hle
  replace h1 := base_h1.mono hle
  replace h2 := base_h2.mono hle
  clear hb3 fsh3 c53 c63 i13 i23 hm3 hi3 hmsh3 hish3
  have hb3 : SFun.At _ g3 0 f p := ⟨Mem.of_get at3, h0⟩
  obtain ⟨fsh3, c53, c63, i13, i23⟩ := hb3.get
  have hm3 : MemN _ _ _ _ _ := ⟨rfl, hb3.1⟩
  have hi3 := hb3.2
  have hmsh3 : MemN _ _ _ _ _ := ⟨rfl, fsh3.1⟩
  have hish3 := fsh3.2
  clear hb4 c04 i04 hm4 hi4
  have hb4 : Prt.At _ g4 0 m q := ⟨Mem.of_get at4, h1⟩
  obtain ⟨c04, i04⟩ := hb4.get
  have hm4 : MemN _ _ _ _ _ := ⟨rfl, hb4.1⟩
  have hi4 := hb4.2
  have hb5 : Prt.At _ g5 0 m' q' := ⟨Mem.of_get at5, h2⟩
  obtain ⟨c05, i05⟩ := hb5.get
  have hm5 : MemN _ _ _ _ _ := ⟨rfl, hb5.1⟩
  have hi5 := hb5.2
  refine .m rfl rfl rfl (.assign rfl) ?_
  refine .nil ?_
  refine hK1 _ _ ?_
  refine .seq (fun K2 hK2 => ?_)
  refine .region ?_
  refine .m rfl rfl rfl (.assign rfl) ?_
  refine .nil ?_
  refine hK2 _ _ ?_
  refine .seq (fun K3 hK3 => ?_)
  refine .region ?_
  refine .m rfl rfl rfl (.loadM ag_27_LJoinParts rfl ⟨rfl, Mem.of_get at3⟩) ?_
  refine .m rfl rfl rfl (.move rfl) ?_
  refine .call rfl rfl rfl rfl @Try.call18 rfl (szSetFunctor_c) ?_
  rintro _ _ ⟨heq, lf22, rfl, z122, z222, z322⟩
  obtain rfl := heq.symm
  refine .m rfl rfl rfl (.assign rfl) ?_
  refine .nil ?_
  refine hK3 _ _ ?_
  refine .seq (fun K4 hK4 => ?_)
  refine .seq (fun K5 hK5 => ?_)
  refine .region ?_
  refine .m rfl rfl rfl (.move rfl) ?_
  refine .m rfl rfl rfl (.cmp rfl rfl rfl) ?_
  refine .nil ?_
  refine hK5 _ _ ?_
  refine .cond rfl (fun h24 => ?_) (fun h24 => ?_)
  ·
   try simp only [sps] at h24
   refine .seq (fun K6 hK6 => ?_)
   refine .region ?_
   refine .m rfl rfl rfl (.assign rfl) ?_
   refine .nil ?_
   refine hK6 _ _ ?_
   refine .ret ?_
   -- leaf e1
   refine hret _ _ ?_
   refine ⟨_, rfl, ?_⟩
   first
   | exact rfl
   | exact absurd trivial (by assumption)
   | contradiction
   | (exfalso; omega)
  ·
   try simp only [sps] at h24
   have hsm22 := z322 (by omega)
   have tb22 := hsm22.tot
   refine .skip ?_
   refine hK4 _ _ ?_
   refine .seq (fun K7 hK7 => ?_)
   refine .region ?_
   refine .m rfl rfl rfl (.loadM ag_31_LJoinParts rfl ⟨rfl, Mem.of_get at4⟩) ?_
   refine .m rfl rfl rfl (.move rfl) ?_
   refine .call rfl rfl rfl rfl @Try.call8 rfl (szPart_c) ?_
   rintro _ _ ⟨heq, lf27, rfl, z127, z227, z327⟩
   obtain rfl := heq.symm
   refine .m rfl rfl rfl (.assign rfl) ?_
   refine .nil ?_
   refine hK7 _ _ ?_
   refine .seq (fun K8 hK8 => ?_)
   refine .seq (fun K9 hK9 => ?_)
   refine .region ?_
   refine .m rfl rfl rfl (.move rfl) ?_
   refine .m rfl rfl rfl (.cmp rfl rfl rfl) ?_
   refine .nil ?_
   refine hK9 _ _ ?_
   refine .cond rfl (fun h29 => ?_) (fun h29 => ?_)
   ·
    try simp only [sps] at h29
    refine .seq (fun K10 hK10 => ?_)
    refine .region ?_
    refine .m rfl rfl rfl (.assign rfl) ?_
    refine .nil ?_
    refine hK10 _ _ ?_
    refine .ret ?_
    -- leaf e2
    refine hret _ _ ?_
    refine ⟨_, rfl, ?_⟩
    first
    | exact rfl
    | exact absurd trivial (by assumption)
    | contradiction
    | (exfalso; omega)
   ·
    try simp only [sps] at h29
    have hsm27 := z327 (by omega)
    have tb27 := hsm27.tot
    refine .skip ?_
    refine hK8 _ _ ?_
    refine .seq (fun K11 hK11 => ?_)
    refine .region ?_
    refine .m rfl rfl rfl (.loadM ag_31_LJoinParts rfl ⟨rfl, Mem.of_get at5⟩) ?_
    refine .m rfl rfl rfl (.move rfl) ?_
    refine .call rfl rfl rfl rfl @Try.call8 rfl (szPart_c) ?_
    rintro _ _ ⟨heq, lf32, rfl, z132, z232, z332⟩
    obtain rfl := heq.symm
    refine .m rfl rfl rfl (.assign rfl) ?_
    refine .nil ?_
    refine hK11 _ _ ?_
    refine .seq (fun K12 hK12 => ?_)
    refine .seq (fun K13 hK13 => ?_)
    refine .region ?_
    refine .m rfl rfl rfl (.move rfl) ?_
    refine .m rfl rfl rfl (.cmp rfl rfl rfl) ?_
    refine .nil ?_
    refine hK13 _ _ ?_
    refine .cond rfl (fun h34 => ?_) (fun h34 => ?_)
    ·
     try simp only [sps] at h34
     refine .seq (fun K14 hK14 => ?_)
     refine .region ?_
     refine .m rfl rfl rfl (.assign rfl) ?_
     refine .nil ?_
     refine hK14 _ _ ?_
     refine .ret ?_
     -- leaf e3
     refine hret _ _ ?_
     refine ⟨_, rfl, ?_⟩
     first
     | exact rfl
     | exact absurd trivial (by assumption)
     | contradiction
     | (exfalso; omega)
    ·
     simp only [sps] at h34
     have hsR := SFun.con_small (f := f) (op := (· || ·)) (p := m.me) (q := m'.me) hsm22
     have htR := hsR.tot
     have hsm32 := z332 (by omega)
     have tb32 := hsm32.tot
     refine .skip ?_
     refine hK12 _ _ ?_
     refine .seq (fun K15 hK15 => ?_)
     refine .regionD mixed_orders_B (.q 0 (.q 2 (.q 4 (.or (.c 10 1 (.c 1 1 (.c 3 1 (.c 5 1 (.c 6 1 (.q 7 (.q 8 (.q 9 (.c 11 1 (.q 12 (.done))))))))))) (.c 1 1 (.or (.c 10 1 (.c 3 1 (.c 5 1 (.c 6 1 (.q 7 (.q 8 (.q 9 (.c 11 1 (.q 12 (.done)))))))))) (.c 3 1 (.or (.c 10 1 (.c 5 1 (.c 6 1 (.q 7 (.q 8 (.q 9 (.c 11 1 (.q 12 (.done))))))))) (.c 5 1 (.or (.c 10 1 (.c 6 1 (.q 7 (.q 8 (.q 9 (.c 11 1 (.q 12 (.done)))))))) (.c 6 1 (.q 7 (.q 8 (.q 9 (.c 10 1 (.c 11 1 (.q 12 (.done)))))))))))))))))) (by kernel_rfl) ?_
     refine .cut [(0, some _), (1, some _), (2, some _), (3, some _), (4, some _), (5, some _), (6, some _), (7, some _), (20, some _), (21, some _), (22, some _), (23, some _), (24, some _), (25, some _), (26, some _), (27, some _), (28, some _), (29, some _), (30, some _), (31, some _), (32, some _), (33, some _), (34, some _)] ⟨rfl, rfl, rfl, rfl, rfl, rfl, rfl, rfl, rfl, rfl, rfl, rfl, rfl, rfl, rfl, rfl, rfl, rfl, rfl, rfl, rfl, rfl, rfl, trivial⟩ (fun rest fr' H' => ∃ gf pf, Sub ((8, some (.pointer (some ⟨gf, 0, none⟩))) :: (9, some (.int .i64 (f.conC m.me m'.me))) :: rest) fr' ∧ H5.Le H' ∧ H5.next ≤ gf ∧ H'.get gf = some (.row ((f.con (· || ·) m.me m'.me).cells pf) 34 true) ∧ PrtR H5.next H' (f.con (· || ·) m.me m'.me) pf) ?_ ?_
     ·
      have hf0 := GHeap.Le.refl H5
      refine .m rfl rfl rfl rfl (.refl _) (.loadM ag_27_LJoinParts rfl ⟨rfl, Mem.of_get at3⟩) ?_
      refine .m rfl rfl rfl rfl (.refl _) (.loadM ag_31_LJoinParts rfl ⟨rfl, Mem.of_get at4⟩) ?_
      refine .m rfl rfl rfl rfl (.refl _) (.loadM ag_31_LJoinParts rfl ⟨rfl, Mem.of_get at5⟩) ?_
      refine .orI ?_ ?_
      ·
       refine .c1 rfl rfl rfl rfl (.allocR rfl ze_34_VPrt rfl) ?_
       rintro _ H8 ⟨g8, rfl, le8, ge8, at8⟩
       have hbl := le8
       refine ⟨hbl, ?_⟩
       have nx_H8 := le8.1
       replace hle := hle.trans le8
       replace at3 := le8.2 _ _ at3
       replace at4 := le8.2 _ _ at4
       replace at5 := le8.2 _ _ at5
       have lt_at8 := GHeap.lt_of_get at8
       replace h0 := base_h0.mono hle
       replace h1 := base_h1.mono hle
       replace h2 := base_h2.mono hle
       clear hb3 fsh3 c53 c63 i13 i23 hm3 hi3 hmsh3 hish3
       have hb3 : SFun.At _ g3 0 f p := ⟨Mem.of_get at3, h0⟩
       obtain ⟨fsh3, c53, c63, i13, i23⟩ := hb3.get
       have hm3 : MemN _ _ _ _ _ := ⟨rfl, hb3.1⟩
       have hi3 := hb3.2
       have hmsh3 : MemN _ _ _ _ _ := ⟨rfl, fsh3.1⟩
       have hish3 := fsh3.2
       clear hb4 c04 i04 hm4 hi4
       have hb4 : Prt.At _ g4 0 m q := ⟨Mem.of_get at4, h1⟩
       obtain ⟨c04, i04⟩ := hb4.get
       have hm4 : MemN _ _ _ _ _ := ⟨rfl, hb4.1⟩
       have hi4 := hb4.2
       clear hb5 c05 i05 hm5 hi5
       have hb5 : Prt.At _ g5 0 m' q' := ⟨Mem.of_get at5, h2⟩
       obtain ⟨c05, i05⟩ := hb5.get
       have hm5 : MemN _ _ _ _ _ := ⟨rfl, hb5.1⟩
       have hi5 := hb5.2
       replace hf0 := hf0.trans le8
       refine .call1 rfl rfl rfl rfl rfl @Try.call20 rfl (toSetFunctor_c) ?_
       rintro _ H37 ⟨le37, p37, rfl, v37⟩
       replace hbl := hbl.trans le37
       refine ⟨hbl, ?_⟩
       have nx_H37 := le37.1
       replace hle := hle.trans le37
       replace at3 := le37.2 _ _ at3
       replace at4 := le37.2 _ _ at4
       replace at5 := le37.2 _ _ at5
       replace at8 := le37.2 _ _ at8
       have bs_v37 := v37
       have lv_v37 : Keep H8.next H37 H37 := fun _ _ _ h => h
       replace h0 := base_h0.mono hle
       replace h1 := base_h1.mono hle
       replace h2 := base_h2.mono hle
       clear hb3 fsh3 c53 c63 i13 i23 hm3 hi3 hmsh3 hish3
       have hb3 : SFun.At _ g3 0 f p := ⟨Mem.of_get at3, h0⟩
       obtain ⟨fsh3, c53, c63, i13, i23⟩ := hb3.get
       have hm3 : MemN _ _ _ _ _ := ⟨rfl, hb3.1⟩
       have hi3 := hb3.2
       have hmsh3 : MemN _ _ _ _ _ := ⟨rfl, fsh3.1⟩
       have hish3 := fsh3.2
       clear hb4 c04 i04 hm4 hi4
       have hb4 : Prt.At _ g4 0 m q := ⟨Mem.of_get at4, h1⟩
       obtain ⟨c04, i04⟩ := hb4.get
       have hm4 : MemN _ _ _ _ _ := ⟨rfl, hb4.1⟩
       have hi4 := hb4.2
       clear hb5 c05 i05 hm5 hi5
       have hb5 : Prt.At _ g5 0 m' q' := ⟨Mem.of_get at5, h2⟩
       obtain ⟨c05, i05⟩ := hb5.get
       have hm5 : MemN _ _ _ _ _ := ⟨rfl, hb5.1⟩
       have hi5 := hb5.2
       have i37 := v37.inn
       replace hf0 := hf0.trans le37
       refine .call1 rfl rfl rfl rfl rfl @Try.call11 rfl (toPart_c) ?_
       rintro _ H39 ⟨le39, p39, rfl, v39⟩
       replace hbl := hbl.trans le39
       refine ⟨hbl, ?_⟩
       have nx_H39 := le39.1
       replace hle := hle.trans le39
       replace at3 := le39.2 _ _ at3
       replace at4 := le39.2 _ _ at4
       replace at5 := le39.2 _ _ at5
       replace at8 := le39.2 _ _ at8
       replace lv_v37 := Keep.le lv_v37 le39
       replace v37 := bs_v37.keep lv_v37 (Nat.le_refl _)
       have bs_v39 := v39
       have lv_v39 : Keep H37.next H39 H39 := fun _ _ _ h => h
       replace h0 := base_h0.mono hle
       replace h1 := base_h1.mono hle
       replace h2 := base_h2.mono hle
       clear hb3 fsh3 c53 c63 i13 i23 hm3 hi3 hmsh3 hish3
       have hb3 : SFun.At _ g3 0 f p := ⟨Mem.of_get at3, h0⟩
       obtain ⟨fsh3, c53, c63, i13, i23⟩ := hb3.get
       have hm3 : MemN _ _ _ _ _ := ⟨rfl, hb3.1⟩
       have hi3 := hb3.2
       have hmsh3 : MemN _ _ _ _ _ := ⟨rfl, fsh3.1⟩
       have hish3 := fsh3.2
       clear hb4 c04 i04 hm4 hi4
       have hb4 : Prt.At _ g4 0 m q := ⟨Mem.of_get at4, h1⟩
       obtain ⟨c04, i04⟩ := hb4.get
       have hm4 : MemN _ _ _ _ _ := ⟨rfl, hb4.1⟩
       have hi4 := hb4.2
       clear hb5 c05 i05 hm5 hi5
       have hb5 : Prt.At _ g5 0 m' q' := ⟨Mem.of_get at5, h2⟩
       obtain ⟨c05, i05⟩ := hb5.get
       have hm5 : MemN _ _ _ _ _ := ⟨rfl, hb5.1⟩
       have hi5 := hb5.2
       clear i37
       have i37 := v37.inn
       have i39 := v39.inn
       replace hf0 := hf0.trans le39
       refine .call1 rfl rfl rfl rfl rfl @Try.call11 rfl (toPart_c) ?_
       rintro _ H41 ⟨le41, p41, rfl, v41⟩
       replace hbl := hbl.trans le41
       refine ⟨hbl, ?_⟩
       have nx_H41 := le41.1
       replace hle := hle.trans le41
       replace at3 := le41.2 _ _ at3
       replace at4 := le41.2 _ _ at4
       replace at5 := le41.2 _ _ at5
       replace at8 := le41.2 _ _ at8
       replace lv_v37 := Keep.le lv_v37 le41
       replace v37 := bs_v37.keep lv_v37 (Nat.le_refl _)
       replace lv_v39 := Keep.le lv_v39 le41
       replace v39 := bs_v39.keep lv_v39 (Nat.le_refl _)
       have bs_v41 := v41
       have lv_v41 : Keep H39.next H41 H41 := fun _ _ _ h => h
       replace h0 := base_h0.mono hle
       replace h1 := base_h1.mono hle
       replace h2 := base_h2.mono hle
       clear hb3 fsh3 c53 c63 i13 i23 hm3 hi3 hmsh3 hish3
       have hb3 : SFun.At _ g3 0 f p := ⟨Mem.of_get at3, h0⟩
       obtain ⟨fsh3, c53, c63, i13, i23⟩ := hb3.get
       have hm3 : MemN _ _ _ _ _ := ⟨rfl, hb3.1⟩
       have hi3 := hb3.2
       have hmsh3 : MemN _ _ _ _ _ := ⟨rfl, fsh3.1⟩
       have hish3 := fsh3.2
       clear hb4 c04 i04 hm4 hi4
       have hb4 : Prt.At _ g4 0 m q := ⟨Mem.of_get at4, h1⟩
       obtain ⟨c04, i04⟩ := hb4.get
       have hm4 : MemN _ _ _ _ _ := ⟨rfl, hb4.1⟩
       have hi4 := hb4.2
       clear hb5 c05 i05 hm5 hi5
       have hb5 : Prt.At _ g5 0 m' q' := ⟨Mem.of_get at5, h2⟩
       obtain ⟨c05, i05⟩ := hb5.get
       have hm5 : MemN _ _ _ _ _ := ⟨rfl, hb5.1⟩
       have hi5 := hb5.2
       clear i37
       have i37 := v37.inn
       clear i39
       have i39 := v39.inn
       have i41 := v41.inn
       replace hf0 := hf0.trans le41
       refine .call1 rfl rfl rfl rfl rfl @Try.call24 rfl (specJoinParts_c) ?_
       rintro _ H42 ⟨le42, p42, rfl, v42⟩
       replace hbl := hbl.trans le42
       refine ⟨hbl, ?_⟩
       have nx_H42 := le42.1
       replace hle := hle.trans le42
       replace at3 := le42.2 _ _ at3
       replace at4 := le42.2 _ _ at4
       replace at5 := le42.2 _ _ at5
       replace at8 := le42.2 _ _ at8
       replace lv_v37 := Keep.le lv_v37 le42
       replace v37 := bs_v37.keep lv_v37 (Nat.le_refl _)
       replace lv_v39 := Keep.le lv_v39 le42
       replace v39 := bs_v39.keep lv_v39 (Nat.le_refl _)
       replace lv_v41 := Keep.le lv_v41 le42
       replace v41 := bs_v41.keep lv_v41 (Nat.le_refl _)
       have bs_v42 := v42
       have lv_v42 : Keep H41.next H42 H42 := fun _ _ _ h => h
       replace h0 := base_h0.mono hle
       replace h1 := base_h1.mono hle
       replace h2 := base_h2.mono hle
       clear hb3 fsh3 c53 c63 i13 i23 hm3 hi3 hmsh3 hish3
       have hb3 : SFun.At _ g3 0 f p := ⟨Mem.of_get at3, h0⟩
       obtain ⟨fsh3, c53, c63, i13, i23⟩ := hb3.get
       have hm3 : MemN _ _ _ _ _ := ⟨rfl, hb3.1⟩
       have hi3 := hb3.2
       have hmsh3 : MemN _ _ _ _ _ := ⟨rfl, fsh3.1⟩
       have hish3 := fsh3.2
       clear hb4 c04 i04 hm4 hi4
       have hb4 : Prt.At _ g4 0 m q := ⟨Mem.of_get at4, h1⟩
       obtain ⟨c04, i04⟩ := hb4.get
       have hm4 : MemN _ _ _ _ _ := ⟨rfl, hb4.1⟩
       have hi4 := hb4.2
       clear hb5 c05 i05 hm5 hi5
       have hb5 : Prt.At _ g5 0 m' q' := ⟨Mem.of_get at5, h2⟩
       obtain ⟨c05, i05⟩ := hb5.get
       have hm5 : MemN _ _ _ _ _ := ⟨rfl, hb5.1⟩
       have hi5 := hb5.2
       clear i37
       have i37 := v37.inn
       clear i39
       have i39 := v39.inn
       clear i41
       have i41 := v41.inn
       have i42 := v42.inn
       replace hf0 := hf0.trans le42
       refine .mB rfl rfl rfl rfl hbl (.move rfl) ?_
       refine .mB rfl rfl rfl rfl hbl (.extract rfl rfl) ?_
       refine .mB rfl rfl rfl rfl hbl (.extract rfl rfl) ?_
       refine .r1 rfl rfl rfl (.fillR rfl sz_34_VPrt rfl rfl rfl rfl (by assumption) (by first | rfl | exact Nat.le_of_ble_eq_true rfl | simp)) ?_
       rintro _ H11011 ⟨rfl, st11011, at11011⟩
       replace hbl := hbl.st st11011 (fun k hk => ⟨by omega, trivial⟩)
       refine ⟨hbl, ?_⟩
       have nx_H11011 := st11011.nx
       replace hle := hle.st st11011 (fun k hk => ⟨by omega, trivial⟩)
       replace at3 := st11011.same _ _ ⟨by omega, trivial⟩ at3
       replace at4 := st11011.same _ _ ⟨by omega, trivial⟩ at4
       replace at5 := st11011.same _ _ ⟨by omega, trivial⟩ at5
       replace lv_v37 := Keep.st lv_v37 st11011 (fun k hb hk => ⟨by omega, trivial⟩)
       replace v37 := bs_v37.keep lv_v37 (Nat.le_refl _)
       replace lv_v39 := Keep.st lv_v39 st11011 (fun k hb hk => ⟨by omega, trivial⟩)
       replace v39 := bs_v39.keep lv_v39 (Nat.le_refl _)
       replace lv_v41 := Keep.st lv_v41 st11011 (fun k hb hk => ⟨by omega, trivial⟩)
       replace v41 := bs_v41.keep lv_v41 (Nat.le_refl _)
       replace lv_v42 := Keep.st lv_v42 st11011 (fun k hb hk => ⟨by omega, trivial⟩)
       replace v42 := bs_v42.keep lv_v42 (Nat.le_refl _)
       have lt_at11011 := GHeap.lt_of_get at11011
       replace h0 := base_h0.mono hle
       replace h1 := base_h1.mono hle
       replace h2 := base_h2.mono hle
       clear hb3 fsh3 c53 c63 i13 i23 hm3 hi3 hmsh3 hish3
       have hb3 : SFun.At _ g3 0 f p := ⟨Mem.of_get at3, h0⟩
       obtain ⟨fsh3, c53, c63, i13, i23⟩ := hb3.get
       have hm3 : MemN _ _ _ _ _ := ⟨rfl, hb3.1⟩
       have hi3 := hb3.2
       have hmsh3 : MemN _ _ _ _ _ := ⟨rfl, fsh3.1⟩
       have hish3 := fsh3.2
       clear hb4 c04 i04 hm4 hi4
       have hb4 : Prt.At _ g4 0 m q := ⟨Mem.of_get at4, h1⟩
       obtain ⟨c04, i04⟩ := hb4.get
       have hm4 : MemN _ _ _ _ _ := ⟨rfl, hb4.1⟩
       have hi4 := hb4.2
       clear hb5 c05 i05 hm5 hi5
       have hb5 : Prt.At _ g5 0 m' q' := ⟨Mem.of_get at5, h2⟩
       obtain ⟨c05, i05⟩ := hb5.get
       have hm5 : MemN _ _ _ _ _ := ⟨rfl, hb5.1⟩
       have hi5 := hb5.2
       clear i37
       have i37 := v37.inn
       clear i39
       have i39 := v39.inn
       clear i41
       have i41 := v41.inn
       clear i42
       have i42 := v42.inn
       have mm11011 : MemN _ _ _ _ _ := ⟨rfl, Mem.of_get at11011⟩
       replace hf0 := hf0.st st11011 (fun k hk => ⟨by omega, trivial⟩)
       refine .mB rfl rfl rfl rfl hbl (.assign rfl) ?_
       refine .done ?_
       exact ⟨_, p42, ⟨rfl, rfl, rfl, rfl, rfl, rfl, rfl, rfl, rfl, rfl, rfl, rfl, rfl, rfl, rfl, rfl, rfl, rfl, rfl, rfl, rfl, rfl, rfl, rfl, rfl, trivial⟩, hf0, by omega, at11011, v42.keep (.of_le (.refl _)) (by omega)⟩
      ·
       refine .call1 rfl rfl rfl rfl rfl @Try.call20 rfl (toSetFunctor_c) ?_
       rintro _ H37x2 ⟨le37x2, p37x2, rfl, v37x2⟩
       have hbl := le37x2
       refine ⟨hbl, ?_⟩
       have nx_H37x2 := le37x2.1
       replace hle := hle.trans le37x2
       replace at3 := le37x2.2 _ _ at3
       replace at4 := le37x2.2 _ _ at4
       replace at5 := le37x2.2 _ _ at5
       have bs_v37x2 := v37x2
       have lv_v37x2 : Keep H5.next H37x2 H37x2 := fun _ _ _ h => h
       replace h0 := base_h0.mono hle
       replace h1 := base_h1.mono hle
       replace h2 := base_h2.mono hle
       clear hb3 fsh3 c53 c63 i13 i23 hm3 hi3 hmsh3 hish3
       have hb3 : SFun.At _ g3 0 f p := ⟨Mem.of_get at3, h0⟩
       obtain ⟨fsh3, c53, c63, i13, i23⟩ := hb3.get
       have hm3 : MemN _ _ _ _ _ := ⟨rfl, hb3.1⟩
       have hi3 := hb3.2
       have hmsh3 : MemN _ _ _ _ _ := ⟨rfl, fsh3.1⟩
       have hish3 := fsh3.2
       clear hb4 c04 i04 hm4 hi4
       have hb4 : Prt.At _ g4 0 m q := ⟨Mem.of_get at4, h1⟩
       obtain ⟨c04, i04⟩ := hb4.get
       have hm4 : MemN _ _ _ _ _ := ⟨rfl, hb4.1⟩
       have hi4 := hb4.2
       clear hb5 c05 i05 hm5 hi5
       have hb5 : Prt.At _ g5 0 m' q' := ⟨Mem.of_get at5, h2⟩
       obtain ⟨c05, i05⟩ := hb5.get
       have hm5 : MemN _ _ _ _ _ := ⟨rfl, hb5.1⟩
       have hi5 := hb5.2
       have i37x2 := v37x2.inn
       replace hf0 := hf0.trans le37x2
       refine .orI ?_ ?_
       ·
        refine .c1 rfl rfl rfl rfl (.allocR rfl ze_34_VPrt rfl) ?_
        rintro _ H8x2 ⟨g8x2, rfl, le8x2, ge8x2, at8x2⟩
        replace hbl := hbl.trans le8x2
        refine ⟨hbl, ?_⟩
        have nx_H8x2 := le8x2.1
        replace hle := hle.trans le8x2
        replace at3 := le8x2.2 _ _ at3
        replace at4 := le8x2.2 _ _ at4
        replace at5 := le8x2.2 _ _ at5
        replace lv_v37x2 := Keep.le lv_v37x2 le8x2
        replace v37x2 := bs_v37x2.keep lv_v37x2 (Nat.le_refl _)
        have lt_at8x2 := GHeap.lt_of_get at8x2
        replace h0 := base_h0.mono hle
        replace h1 := base_h1.mono hle
        replace h2 := base_h2.mono hle
        clear hb3 fsh3 c53 c63 i13 i23 hm3 hi3 hmsh3 hish3
        have hb3 : SFun.At _ g3 0 f p := ⟨Mem.of_get at3, h0⟩
        obtain ⟨fsh3, c53, c63, i13, i23⟩ := hb3.get
        have hm3 : MemN _ _ _ _ _ := ⟨rfl, hb3.1⟩
        have hi3 := hb3.2
        have hmsh3 : MemN _ _ _ _ _ := ⟨rfl, fsh3.1⟩
        have hish3 := fsh3.2
        clear hb4 c04 i04 hm4 hi4
        have hb4 : Prt.At _ g4 0 m q := ⟨Mem.of_get at4, h1⟩
        obtain ⟨c04, i04⟩ := hb4.get
        have hm4 : MemN _ _ _ _ _ := ⟨rfl, hb4.1⟩
        have hi4 := hb4.2
        clear hb5 c05 i05 hm5 hi5
        have hb5 : Prt.At _ g5 0 m' q' := ⟨Mem.of_get at5, h2⟩
        obtain ⟨c05, i05⟩ := hb5.get
        have hm5 : MemN _ _ _ _ _ := ⟨rfl, hb5.1⟩
        have hi5 := hb5.2
        clear i37x2
        have i37x2 := v37x2.inn
        replace hf0 := hf0.trans le8x2
        refine .call1 rfl rfl rfl rfl rfl @Try.call11 rfl (toPart_c) ?_
        rintro _ H39x2 ⟨le39x2, p39x2, rfl, v39x2⟩
        replace hbl := hbl.trans le39x2
        refine ⟨hbl, ?_⟩
        have nx_H39x2 := le39x2.1
        replace hle := hle.trans le39x2
        replace at3 := le39x2.2 _ _ at3
        replace at4 := le39x2.2 _ _ at4
        replace at5 := le39x2.2 _ _ at5
        replace at8x2 := le39x2.2 _ _ at8x2
        replace lv_v37x2 := Keep.le lv_v37x2 le39x2
        replace v37x2 := bs_v37x2.keep lv_v37x2 (Nat.le_refl _)
        have bs_v39x2 := v39x2
        have lv_v39x2 : Keep H8x2.next H39x2 H39x2 := fun _ _ _ h => h
        replace h0 := base_h0.mono hle
        replace h1 := base_h1.mono hle
        replace h2 := base_h2.mono hle
        clear hb3 fsh3 c53 c63 i13 i23 hm3 hi3 hmsh3 hish3
        have hb3 : SFun.At _ g3 0 f p := ⟨Mem.of_get at3, h0⟩
        obtain ⟨fsh3, c53, c63, i13, i23⟩ := hb3.get
        have hm3 : MemN _ _ _ _ _ := ⟨rfl, hb3.1⟩
        have hi3 := hb3.2
        have hmsh3 : MemN _ _ _ _ _ := ⟨rfl, fsh3.1⟩
        have hish3 := fsh3.2
        clear hb4 c04 i04 hm4 hi4
        have hb4 : Prt.At _ g4 0 m q := ⟨Mem.of_get at4, h1⟩
        obtain ⟨c04, i04⟩ := hb4.get
        have hm4 : MemN _ _ _ _ _ := ⟨rfl, hb4.1⟩
        have hi4 := hb4.2
        clear hb5 c05 i05 hm5 hi5
        have hb5 : Prt.At _ g5 0 m' q' := ⟨Mem.of_get at5, h2⟩
        obtain ⟨c05, i05⟩ := hb5.get
        have hm5 : MemN _ _ _ _ _ := ⟨rfl, hb5.1⟩
        have hi5 := hb5.2
        clear i37x2
        have i37x2 := v37x2.inn
        have i39x2 := v39x2.inn
        replace hf0 := hf0.trans le39x2
        refine .call1 rfl rfl rfl rfl rfl @Try.call11 rfl (toPart_c) ?_
        rintro _ H41x2 ⟨le41x2, p41x2, rfl, v41x2⟩
        replace hbl := hbl.trans le41x2
        refine ⟨hbl, ?_⟩
        have nx_H41x2 := le41x2.1
        replace hle := hle.trans le41x2
        replace at3 := le41x2.2 _ _ at3
        replace at4 := le41x2.2 _ _ at4
        replace at5 := le41x2.2 _ _ at5
        replace at8x2 := le41x2.2 _ _ at8x2
        replace lv_v37x2 := Keep.le lv_v37x2 le41x2
        replace v37x2 := bs_v37x2.keep lv_v37x2 (Nat.le_refl _)
        replace lv_v39x2 := Keep.le lv_v39x2 le41x2
        replace v39x2 := bs_v39x2.keep lv_v39x2 (Nat.le_refl _)
        have bs_v41x2 := v41x2
        have lv_v41x2 : Keep H39x2.next H41x2 H41x2 := fun _ _ _ h => h
        replace h0 := base_h0.mono hle
        replace h1 := base_h1.mono hle
        replace h2 := base_h2.mono hle
        clear hb3 fsh3 c53 c63 i13 i23 hm3 hi3 hmsh3 hish3
        have hb3 : SFun.At _ g3 0 f p := ⟨Mem.of_get at3, h0⟩
        obtain ⟨fsh3, c53, c63, i13, i23⟩ := hb3.get
        have hm3 : MemN _ _ _ _ _ := ⟨rfl, hb3.1⟩
        have hi3 := hb3.2
        have hmsh3 : MemN _ _ _ _ _ := ⟨rfl, fsh3.1⟩
        have hish3 := fsh3.2
        clear hb4 c04 i04 hm4 hi4
        have hb4 : Prt.At _ g4 0 m q := ⟨Mem.of_get at4, h1⟩
        obtain ⟨c04, i04⟩ := hb4.get
        have hm4 : MemN _ _ _ _ _ := ⟨rfl, hb4.1⟩
        have hi4 := hb4.2
        clear hb5 c05 i05 hm5 hi5
        have hb5 : Prt.At _ g5 0 m' q' := ⟨Mem.of_get at5, h2⟩
        obtain ⟨c05, i05⟩ := hb5.get
        have hm5 : MemN _ _ _ _ _ := ⟨rfl, hb5.1⟩
        have hi5 := hb5.2
        clear i37x2
        have i37x2 := v37x2.inn
        clear i39x2
        have i39x2 := v39x2.inn
        have i41x2 := v41x2.inn
        replace hf0 := hf0.trans le41x2
        refine .call1 rfl rfl rfl rfl rfl @Try.call24 rfl (specJoinParts_c) ?_
        rintro _ H42x2 ⟨le42x2, p42x2, rfl, v42x2⟩
        replace hbl := hbl.trans le42x2
        refine ⟨hbl, ?_⟩
        have nx_H42x2 := le42x2.1
        replace hle := hle.trans le42x2
        replace at3 := le42x2.2 _ _ at3
        replace at4 := le42x2.2 _ _ at4
        replace at5 := le42x2.2 _ _ at5
        replace at8x2 := le42x2.2 _ _ at8x2
        replace lv_v37x2 := Keep.le lv_v37x2 le42x2
        replace v37x2 := bs_v37x2.keep lv_v37x2 (Nat.le_refl _)
        replace lv_v39x2 := Keep.le lv_v39x2 le42x2
        replace v39x2 := bs_v39x2.keep lv_v39x2 (Nat.le_refl _)
        replace lv_v41x2 := Keep.le lv_v41x2 le42x2
        replace v41x2 := bs_v41x2.keep lv_v41x2 (Nat.le_refl _)
        have bs_v42x2 := v42x2
        have lv_v42x2 : Keep H41x2.next H42x2 H42x2 := fun _ _ _ h => h
        replace h0 := base_h0.mono hle
        replace h1 := base_h1.mono hle
        replace h2 := base_h2.mono hle
        clear hb3 fsh3 c53 c63 i13 i23 hm3 hi3 hmsh3 hish3
        have hb3 : SFun.At _ g3 0 f p := ⟨Mem.of_get at3, h0⟩
        obtain ⟨fsh3, c53, c63, i13, i23⟩ := hb3.get
        have hm3 : MemN _ _ _ _ _ := ⟨rfl, hb3.1⟩
        have hi3 := hb3.2
        have hmsh3 : MemN _ _ _ _ _ := ⟨rfl, fsh3.1⟩
        have hish3 := fsh3.2
        clear hb4 c04 i04 hm4 hi4
        have hb4 : Prt.At _ g4 0 m q := ⟨Mem.of_get at4, h1⟩
        obtain ⟨c04, i04⟩ := hb4.get
        have hm4 : MemN _ _ _ _ _ := ⟨rfl, hb4.1⟩
        have hi4 := hb4.2
        clear hb5 c05 i05 hm5 hi5
        have hb5 : Prt.At _ g5 0 m' q' := ⟨Mem.of_get at5, h2⟩
        obtain ⟨c05, i05⟩ := hb5.get
        have hm5 : MemN _ _ _ _ _ := ⟨rfl, hb5.1⟩
        have hi5 := hb5.2
        clear i37x2
        have i37x2 := v37x2.inn
        clear i39x2
        have i39x2 := v39x2.inn
        clear i41x2
        have i41x2 := v41x2.inn
        have i42x2 := v42x2.inn
        replace hf0 := hf0.trans le42x2
        refine .mB rfl rfl rfl rfl hbl (.move rfl) ?_
        refine .mB rfl rfl rfl rfl hbl (.extract rfl rfl) ?_
        refine .mB rfl rfl rfl rfl hbl (.extract rfl rfl) ?_
        refine .r1 rfl rfl rfl (.fillR rfl sz_34_VPrt rfl rfl rfl rfl (by assumption) (by first | rfl | exact Nat.le_of_ble_eq_true rfl | simp)) ?_
        rintro _ H11011x2 ⟨rfl, st11011x2, at11011x2⟩
        replace hbl := hbl.st st11011x2 (fun k hk => ⟨by omega, trivial⟩)
        refine ⟨hbl, ?_⟩
        have nx_H11011x2 := st11011x2.nx
        replace hle := hle.st st11011x2 (fun k hk => ⟨by omega, trivial⟩)
        replace at3 := st11011x2.same _ _ ⟨by omega, trivial⟩ at3
        replace at4 := st11011x2.same _ _ ⟨by omega, trivial⟩ at4
        replace at5 := st11011x2.same _ _ ⟨by omega, trivial⟩ at5
        replace lv_v37x2 := Keep.st lv_v37x2 st11011x2 (fun k hb hk => ⟨by omega, trivial⟩)
        replace v37x2 := bs_v37x2.keep lv_v37x2 (Nat.le_refl _)
        replace lv_v39x2 := Keep.st lv_v39x2 st11011x2 (fun k hb hk => ⟨by omega, trivial⟩)
        replace v39x2 := bs_v39x2.keep lv_v39x2 (Nat.le_refl _)
        replace lv_v41x2 := Keep.st lv_v41x2 st11011x2 (fun k hb hk => ⟨by omega, trivial⟩)
        replace v41x2 := bs_v41x2.keep lv_v41x2 (Nat.le_refl _)
        replace lv_v42x2 := Keep.st lv_v42x2 st11011x2 (fun k hb hk => ⟨by omega, trivial⟩)
        replace v42x2 := bs_v42x2.keep lv_v42x2 (Nat.le_refl _)
        have lt_at11011x2 := GHeap.lt_of_get at11011x2
        replace h0 := base_h0.mono hle
        replace h1 := base_h1.mono hle
        replace h2 := base_h2.mono hle
        clear hb3 fsh3 c53 c63 i13 i23 hm3 hi3 hmsh3 hish3
        have hb3 : SFun.At _ g3 0 f p := ⟨Mem.of_get at3, h0⟩
        obtain ⟨fsh3, c53, c63, i13, i23⟩ := hb3.get
        have hm3 : MemN _ _ _ _ _ := ⟨rfl, hb3.1⟩
        have hi3 := hb3.2
        have hmsh3 : MemN _ _ _ _ _ := ⟨rfl, fsh3.1⟩
        have hish3 := fsh3.2
        clear hb4 c04 i04 hm4 hi4
        have hb4 : Prt.At _ g4 0 m q := ⟨Mem.of_get at4, h1⟩
        obtain ⟨c04, i04⟩ := hb4.get
        have hm4 : MemN _ _ _ _ _ := ⟨rfl, hb4.1⟩
        have hi4 := hb4.2
        clear hb5 c05 i05 hm5 hi5
        have hb5 : Prt.At _ g5 0 m' q' := ⟨Mem.of_get at5, h2⟩
        obtain ⟨c05, i05⟩ := hb5.get
        have hm5 : MemN _ _ _ _ _ := ⟨rfl, hb5.1⟩
        have hi5 := hb5.2
        clear i37x2
        have i37x2 := v37x2.inn
        clear i39x2
        have i39x2 := v39x2.inn
        clear i41x2
        have i41x2 := v41x2.inn
        clear i42x2
        have i42x2 := v42x2.inn
        have mm11011x2 : MemN _ _ _ _ _ := ⟨rfl, Mem.of_get at11011x2⟩
        replace hf0 := hf0.st st11011x2 (fun k hk => ⟨by omega, trivial⟩)
        refine .mB rfl rfl rfl rfl hbl (.assign rfl) ?_
        refine .done ?_
        exact ⟨_, p42x2, ⟨rfl, rfl, rfl, rfl, rfl, rfl, rfl, rfl, rfl, rfl, rfl, rfl, rfl, rfl, rfl, rfl, rfl, rfl, rfl, rfl, rfl, rfl, rfl, rfl, rfl, trivial⟩, hf0, by omega, at11011x2, v42x2.keep (.of_le (.refl _)) (by omega)⟩
       ·
        refine .call1 rfl rfl rfl rfl rfl @Try.call11 rfl (toPart_c) ?_
        rintro _ H39x3 ⟨le39x3, p39x3, rfl, v39x3⟩
        replace hbl := hbl.trans le39x3
        refine ⟨hbl, ?_⟩
        have nx_H39x3 := le39x3.1
        replace hle := hle.trans le39x3
        replace at3 := le39x3.2 _ _ at3
        replace at4 := le39x3.2 _ _ at4
        replace at5 := le39x3.2 _ _ at5
        replace lv_v37x2 := Keep.le lv_v37x2 le39x3
        replace v37x2 := bs_v37x2.keep lv_v37x2 (Nat.le_refl _)
        have bs_v39x3 := v39x3
        have lv_v39x3 : Keep H37x2.next H39x3 H39x3 := fun _ _ _ h => h
        replace h0 := base_h0.mono hle
        replace h1 := base_h1.mono hle
        replace h2 := base_h2.mono hle
        clear hb3 fsh3 c53 c63 i13 i23 hm3 hi3 hmsh3 hish3
        have hb3 : SFun.At _ g3 0 f p := ⟨Mem.of_get at3, h0⟩
        obtain ⟨fsh3, c53, c63, i13, i23⟩ := hb3.get
        have hm3 : MemN _ _ _ _ _ := ⟨rfl, hb3.1⟩
        have hi3 := hb3.2
        have hmsh3 : MemN _ _ _ _ _ := ⟨rfl, fsh3.1⟩
        have hish3 := fsh3.2
        clear hb4 c04 i04 hm4 hi4
        have hb4 : Prt.At _ g4 0 m q := ⟨Mem.of_get at4, h1⟩
        obtain ⟨c04, i04⟩ := hb4.get
        have hm4 : MemN _ _ _ _ _ := ⟨rfl, hb4.1⟩
        have hi4 := hb4.2
        clear hb5 c05 i05 hm5 hi5
        have hb5 : Prt.At _ g5 0 m' q' := ⟨Mem.of_get at5, h2⟩
        obtain ⟨c05, i05⟩ := hb5.get
        have hm5 : MemN _ _ _ _ _ := ⟨rfl, hb5.1⟩
        have hi5 := hb5.2
        clear i37x2
        have i37x2 := v37x2.inn
        have i39x3 := v39x3.inn
        replace hf0 := hf0.trans le39x3
        refine .orI ?_ ?_
        ·
         refine .c1 rfl rfl rfl rfl (.allocR rfl ze_34_VPrt rfl) ?_
         rintro _ H8x3 ⟨g8x3, rfl, le8x3, ge8x3, at8x3⟩
         replace hbl := hbl.trans le8x3
         refine ⟨hbl, ?_⟩
         have nx_H8x3 := le8x3.1
         replace hle := hle.trans le8x3
         replace at3 := le8x3.2 _ _ at3
         replace at4 := le8x3.2 _ _ at4
         replace at5 := le8x3.2 _ _ at5
         replace lv_v37x2 := Keep.le lv_v37x2 le8x3
         replace v37x2 := bs_v37x2.keep lv_v37x2 (Nat.le_refl _)
         replace lv_v39x3 := Keep.le lv_v39x3 le8x3
         replace v39x3 := bs_v39x3.keep lv_v39x3 (Nat.le_refl _)
         have lt_at8x3 := GHeap.lt_of_get at8x3
         replace h0 := base_h0.mono hle
         replace h1 := base_h1.mono hle
         replace h2 := base_h2.mono hle
         clear hb3 fsh3 c53 c63 i13 i23 hm3 hi3 hmsh3 hish3
         have hb3 : SFun.At _ g3 0 f p := ⟨Mem.of_get at3, h0⟩
         obtain ⟨fsh3, c53, c63, i13, i23⟩ := hb3.get
         have hm3 : MemN _ _ _ _ _ := ⟨rfl, hb3.1⟩
         have hi3 := hb3.2
         have hmsh3 : MemN _ _ _ _ _ := ⟨rfl, fsh3.1⟩
         have hish3 := fsh3.2
         clear hb4 c04 i04 hm4 hi4
         have hb4 : Prt.At _ g4 0 m q := ⟨Mem.of_get at4, h1⟩
         obtain ⟨c04, i04⟩ := hb4.get
         have hm4 : MemN _ _ _ _ _ := ⟨rfl, hb4.1⟩
         have hi4 := hb4.2
         clear hb5 c05 i05 hm5 hi5
         have hb5 : Prt.At _ g5 0 m' q' := ⟨Mem.of_get at5, h2⟩
         obtain ⟨c05, i05⟩ := hb5.get
         have hm5 : MemN _ _ _ _ _ := ⟨rfl, hb5.1⟩
         have hi5 := hb5.2
         clear i37x2
         have i37x2 := v37x2.inn
         clear i39x3
         have i39x3 := v39x3.inn
         replace hf0 := hf0.trans le8x3
         refine .call1 rfl rfl rfl rfl rfl @Try.call11 rfl (toPart_c) ?_
         rintro _ H41x3 ⟨le41x3, p41x3, rfl, v41x3⟩
         replace hbl := hbl.trans le41x3
         refine ⟨hbl, ?_⟩
         have nx_H41x3 := le41x3.1
         replace hle := hle.trans le41x3
         replace at3 := le41x3.2 _ _ at3
         replace at4 := le41x3.2 _ _ at4
         replace at5 := le41x3.2 _ _ at5
         replace at8x3 := le41x3.2 _ _ at8x3
         replace lv_v37x2 := Keep.le lv_v37x2 le41x3
         replace v37x2 := bs_v37x2.keep lv_v37x2 (Nat.le_refl _)
         replace lv_v39x3 := Keep.le lv_v39x3 le41x3
         replace v39x3 := bs_v39x3.keep lv_v39x3 (Nat.le_refl _)
         have bs_v41x3 := v41x3
         have lv_v41x3 : Keep H8x3.next H41x3 H41x3 := fun _ _ _ h => h
         replace h0 := base_h0.mono hle
         replace h1 := base_h1.mono hle
         replace h2 := base_h2.mono hle
         clear hb3 fsh3 c53 c63 i13 i23 hm3 hi3 hmsh3 hish3
         have hb3 : SFun.At _ g3 0 f p := ⟨Mem.of_get at3, h0⟩
         obtain ⟨fsh3, c53, c63, i13, i23⟩ := hb3.get
         have hm3 : MemN _ _ _ _ _ := ⟨rfl, hb3.1⟩
         have hi3 := hb3.2
         have hmsh3 : MemN _ _ _ _ _ := ⟨rfl, fsh3.1⟩
         have hish3 := fsh3.2
         clear hb4 c04 i04 hm4 hi4
         have hb4 : Prt.At _ g4 0 m q := ⟨Mem.of_get at4, h1⟩
         obtain ⟨c04, i04⟩ := hb4.get
         have hm4 : MemN _ _ _ _ _ := ⟨rfl, hb4.1⟩
         have hi4 := hb4.2
         clear hb5 c05 i05 hm5 hi5
         have hb5 : Prt.At _ g5 0 m' q' := ⟨Mem.of_get at5, h2⟩
         obtain ⟨c05, i05⟩ := hb5.get
         have hm5 : MemN _ _ _ _ _ := ⟨rfl, hb5.1⟩
         have hi5 := hb5.2
         clear i37x2
         have i37x2 := v37x2.inn
         clear i39x3
         have i39x3 := v39x3.inn
         have i41x3 := v41x3.inn
         replace hf0 := hf0.trans le41x3
         refine .call1 rfl rfl rfl rfl rfl @Try.call24 rfl (specJoinParts_c) ?_
         rintro _ H42x3 ⟨le42x3, p42x3, rfl, v42x3⟩
         replace hbl := hbl.trans le42x3
         refine ⟨hbl, ?_⟩
         have nx_H42x3 := le42x3.1
         replace hle := hle.trans le42x3
         replace at3 := le42x3.2 _ _ at3
         replace at4 := le42x3.2 _ _ at4
         replace at5 := le42x3.2 _ _ at5
         replace at8x3 := le42x3.2 _ _ at8x3
         replace lv_v37x2 := Keep.le lv_v37x2 le42x3
         replace v37x2 := bs_v37x2.keep lv_v37x2 (Nat.le_refl _)
         replace lv_v39x3 := Keep.le lv_v39x3 le42x3
         replace v39x3 := bs_v39x3.keep lv_v39x3 (Nat.le_refl _)
         replace lv_v41x3 := Keep.le lv_v41x3 le42x3
         replace v41x3 := bs_v41x3.keep lv_v41x3 (Nat.le_refl _)
         have bs_v42x3 := v42x3
         have lv_v42x3 : Keep H41x3.next H42x3 H42x3 := fun _ _ _ h => h
         replace h0 := base_h0.mono hle
         replace h1 := base_h1.mono hle
         replace h2 := base_h2.mono hle
         clear hb3 fsh3 c53 c63 i13 i23 hm3 hi3 hmsh3 hish3
         have hb3 : SFun.At _ g3 0 f p := ⟨Mem.of_get at3, h0⟩
         obtain ⟨fsh3, c53, c63, i13, i23⟩ := hb3.get
         have hm3 : MemN _ _ _ _ _ := ⟨rfl, hb3.1⟩
         have hi3 := hb3.2
         have hmsh3 : MemN _ _ _ _ _ := ⟨rfl, fsh3.1⟩
         have hish3 := fsh3.2
         clear hb4 c04 i04 hm4 hi4
         have hb4 : Prt.At _ g4 0 m q := ⟨Mem.of_get at4, h1⟩
         obtain ⟨c04, i04⟩ := hb4.get
         have hm4 : MemN _ _ _ _ _ := ⟨rfl, hb4.1⟩
         have hi4 := hb4.2
         clear hb5 c05 i05 hm5 hi5
         have hb5 : Prt.At _ g5 0 m' q' := ⟨Mem.of_get at5, h2⟩
         obtain ⟨c05, i05⟩ := hb5.get
         have hm5 : MemN _ _ _ _ _ := ⟨rfl, hb5.1⟩
         have hi5 := hb5.2
         clear i37x2
         have i37x2 := v37x2.inn
         clear i39x3
         have i39x3 := v39x3.inn
         clear i41x3
         have i41x3 := v41x3.inn
         have i42x3 := v42x3.inn
         replace hf0 := hf0.trans le42x3
         refine .mB rfl rfl rfl rfl hbl (.move rfl) ?_
         refine .mB rfl rfl rfl rfl hbl (.extract rfl rfl) ?_
         refine .mB rfl rfl rfl rfl hbl (.extract rfl rfl) ?_
         refine .r1 rfl rfl rfl (.fillR rfl sz_34_VPrt rfl rfl rfl rfl (by assumption) (by first | rfl | exact Nat.le_of_ble_eq_true rfl | simp)) ?_
         rintro _ H11011x3 ⟨rfl, st11011x3, at11011x3⟩
         replace hbl := hbl.st st11011x3 (fun k hk => ⟨by omega, trivial⟩)
         refine ⟨hbl, ?_⟩
         have nx_H11011x3 := st11011x3.nx
         replace hle := hle.st st11011x3 (fun k hk => ⟨by omega, trivial⟩)
         replace at3 := st11011x3.same _ _ ⟨by omega, trivial⟩ at3
         replace at4 := st11011x3.same _ _ ⟨by omega, trivial⟩ at4
         replace at5 := st11011x3.same _ _ ⟨by omega, trivial⟩ at5
         replace lv_v37x2 := Keep.st lv_v37x2 st11011x3 (fun k hb hk => ⟨by omega, trivial⟩)
         replace v37x2 := bs_v37x2.keep lv_v37x2 (Nat.le_refl _)
         replace lv_v39x3 := Keep.st lv_v39x3 st11011x3 (fun k hb hk => ⟨by omega, trivial⟩)
         replace v39x3 := bs_v39x3.keep lv_v39x3 (Nat.le_refl _)
         replace lv_v41x3 := Keep.st lv_v41x3 st11011x3 (fun k hb hk => ⟨by omega, trivial⟩)
         replace v41x3 := bs_v41x3.keep lv_v41x3 (Nat.le_refl _)
         replace lv_v42x3 := Keep.st lv_v42x3 st11011x3 (fun k hb hk => ⟨by omega, trivial⟩)
         replace v42x3 := bs_v42x3.keep lv_v42x3 (Nat.le_refl _)
         have lt_at11011x3 := GHeap.lt_of_get at11011x3
         replace h0 := base_h0.mono hle
         replace h1 := base_h1.mono hle
         replace h2 := base_h2.mono hle
         clear hb3 fsh3 c53 c63 i13 i23 hm3 hi3 hmsh3 hish3
         have hb3 : SFun.At _ g3 0 f p := ⟨Mem.of_get at3, h0⟩
         obtain ⟨fsh3, c53, c63, i13, i23⟩ := hb3.get
         have hm3 : MemN _ _ _ _ _ := ⟨rfl, hb3.1⟩
         have hi3 := hb3.2
         have hmsh3 : MemN _ _ _ _ _ := ⟨rfl, fsh3.1⟩
         have hish3 := fsh3.2
         clear hb4 c04 i04 hm4 hi4
         have hb4 : Prt.At _ g4 0 m q := ⟨Mem.of_get at4, h1⟩
         obtain ⟨c04, i04⟩ := hb4.get
         have hm4 : MemN _ _ _ _ _ := ⟨rfl, hb4.1⟩
         have hi4 := hb4.2
         clear hb5 c05 i05 hm5 hi5
         have hb5 : Prt.At _ g5 0 m' q' := ⟨Mem.of_get at5, h2⟩
         obtain ⟨c05, i05⟩ := hb5.get
         have hm5 : MemN _ _ _ _ _ := ⟨rfl, hb5.1⟩
         have hi5 := hb5.2
         clear i37x2
         have i37x2 := v37x2.inn
         clear i39x3
         have i39x3 := v39x3.inn
         clear i41x3
         have i41x3 := v41x3.inn
         clear i42x3
         have i42x3 := v42x3.inn
         have mm11011x3 : MemN _ _ _ _ _ := ⟨rfl, Mem.of_get at11011x3⟩
         replace hf0 := hf0.st st11011x3 (fun k hk => ⟨by omega, trivial⟩)
         refine .mB rfl rfl rfl rfl hbl (.assign rfl) ?_
         refine .done ?_
         exact ⟨_, p42x3, ⟨rfl, rfl, rfl, rfl, rfl, rfl, rfl, rfl, rfl, rfl, rfl, rfl, rfl, rfl, rfl, rfl, rfl, rfl, rfl, rfl, rfl, rfl, rfl, rfl, rfl, trivial⟩, hf0, by omega, at11011x3, v42x3.keep (.of_le (.refl _)) (by omega)⟩
        ·
         refine .call1 rfl rfl rfl rfl rfl @Try.call11 rfl (toPart_c) ?_
         rintro _ H41x4 ⟨le41x4, p41x4, rfl, v41x4⟩
         replace hbl := hbl.trans le41x4
         refine ⟨hbl, ?_⟩
         have nx_H41x4 := le41x4.1
         replace hle := hle.trans le41x4
         replace at3 := le41x4.2 _ _ at3
         replace at4 := le41x4.2 _ _ at4
         replace at5 := le41x4.2 _ _ at5
         replace lv_v37x2 := Keep.le lv_v37x2 le41x4
         replace v37x2 := bs_v37x2.keep lv_v37x2 (Nat.le_refl _)
         replace lv_v39x3 := Keep.le lv_v39x3 le41x4
         replace v39x3 := bs_v39x3.keep lv_v39x3 (Nat.le_refl _)
         have bs_v41x4 := v41x4
         have lv_v41x4 : Keep H39x3.next H41x4 H41x4 := fun _ _ _ h => h
         replace h0 := base_h0.mono hle
         replace h1 := base_h1.mono hle
         replace h2 := base_h2.mono hle
         clear hb3 fsh3 c53 c63 i13 i23 hm3 hi3 hmsh3 hish3
         have hb3 : SFun.At _ g3 0 f p := ⟨Mem.of_get at3, h0⟩
         obtain ⟨fsh3, c53, c63, i13, i23⟩ := hb3.get
         have hm3 : MemN _ _ _ _ _ := ⟨rfl, hb3.1⟩
         have hi3 := hb3.2
         have hmsh3 : MemN _ _ _ _ _ := ⟨rfl, fsh3.1⟩
         have hish3 := fsh3.2
         clear hb4 c04 i04 hm4 hi4
         have hb4 : Prt.At _ g4 0 m q := ⟨Mem.of_get at4, h1⟩
         obtain ⟨c04, i04⟩ := hb4.get
         have hm4 : MemN _ _ _ _ _ := ⟨rfl, hb4.1⟩
         have hi4 := hb4.2
         clear hb5 c05 i05 hm5 hi5
         have hb5 : Prt.At _ g5 0 m' q' := ⟨Mem.of_get at5, h2⟩
         obtain ⟨c05, i05⟩ := hb5.get
         have hm5 : MemN _ _ _ _ _ := ⟨rfl, hb5.1⟩
         have hi5 := hb5.2
         clear i37x2
         have i37x2 := v37x2.inn
         clear i39x3
         have i39x3 := v39x3.inn
         have i41x4 := v41x4.inn
         replace hf0 := hf0.trans le41x4
         refine .orI ?_ ?_
         ·
          refine .c1 rfl rfl rfl rfl (.allocR rfl ze_34_VPrt rfl) ?_
          rintro _ H8x4 ⟨g8x4, rfl, le8x4, ge8x4, at8x4⟩
          replace hbl := hbl.trans le8x4
          refine ⟨hbl, ?_⟩
          have nx_H8x4 := le8x4.1
          replace hle := hle.trans le8x4
          replace at3 := le8x4.2 _ _ at3
          replace at4 := le8x4.2 _ _ at4
          replace at5 := le8x4.2 _ _ at5
          replace lv_v37x2 := Keep.le lv_v37x2 le8x4
          replace v37x2 := bs_v37x2.keep lv_v37x2 (Nat.le_refl _)
          replace lv_v39x3 := Keep.le lv_v39x3 le8x4
          replace v39x3 := bs_v39x3.keep lv_v39x3 (Nat.le_refl _)
          replace lv_v41x4 := Keep.le lv_v41x4 le8x4
          replace v41x4 := bs_v41x4.keep lv_v41x4 (Nat.le_refl _)
          have lt_at8x4 := GHeap.lt_of_get at8x4
          replace h0 := base_h0.mono hle
          replace h1 := base_h1.mono hle
          replace h2 := base_h2.mono hle
          clear hb3 fsh3 c53 c63 i13 i23 hm3 hi3 hmsh3 hish3
          have hb3 : SFun.At _ g3 0 f p := ⟨Mem.of_get at3, h0⟩
          obtain ⟨fsh3, c53, c63, i13, i23⟩ := hb3.get
          have hm3 : MemN _ _ _ _ _ := ⟨rfl, hb3.1⟩
          have hi3 := hb3.2
          have hmsh3 : MemN _ _ _ _ _ := ⟨rfl, fsh3.1⟩
          have hish3 := fsh3.2
          clear hb4 c04 i04 hm4 hi4
          have hb4 : Prt.At _ g4 0 m q := ⟨Mem.of_get at4, h1⟩
          obtain ⟨c04, i04⟩ := hb4.get
          have hm4 : MemN _ _ _ _ _ := ⟨rfl, hb4.1⟩
          have hi4 := hb4.2
          clear hb5 c05 i05 hm5 hi5
          have hb5 : Prt.At _ g5 0 m' q' := ⟨Mem.of_get at5, h2⟩
          obtain ⟨c05, i05⟩ := hb5.get
          have hm5 : MemN _ _ _ _ _ := ⟨rfl, hb5.1⟩
          have hi5 := hb5.2
          clear i37x2
          have i37x2 := v37x2.inn
          clear i39x3
          have i39x3 := v39x3.inn
          clear i41x4
          have i41x4 := v41x4.inn
          replace hf0 := hf0.trans le8x4
          refine .call1 rfl rfl rfl rfl rfl @Try.call24 rfl (specJoinParts_c) ?_
          rintro _ H42x4 ⟨le42x4, p42x4, rfl, v42x4⟩
          replace hbl := hbl.trans le42x4
          refine ⟨hbl, ?_⟩
          have nx_H42x4 := le42x4.1
          replace hle := hle.trans le42x4
          replace at3 := le42x4.2 _ _ at3
          replace at4 := le42x4.2 _ _ at4
          replace at5 := le42x4.2 _ _ at5
          replace at8x4 := le42x4.2 _ _ at8x4
          replace lv_v37x2 := Keep.le lv_v37x2 le42x4
          replace v37x2 := bs_v37x2.keep lv_v37x2 (Nat.le_refl _)
          replace lv_v39x3 := Keep.le lv_v39x3 le42x4
          replace v39x3 := bs_v39x3.keep lv_v39x3 (Nat.le_refl _)
          replace lv_v41x4 := Keep.le lv_v41x4 le42x4
          replace v41x4 := bs_v41x4.keep lv_v41x4 (Nat.le_refl _)
          have bs_v42x4 := v42x4
          have lv_v42x4 : Keep H8x4.next H42x4 H42x4 := fun _ _ _ h => h
          replace h0 := base_h0.mono hle
          replace h1 := base_h1.mono hle
          replace h2 := base_h2.mono hle
          clear hb3 fsh3 c53 c63 i13 i23 hm3 hi3 hmsh3 hish3
          have hb3 : SFun.At _ g3 0 f p := ⟨Mem.of_get at3, h0⟩
          obtain ⟨fsh3, c53, c63, i13, i23⟩ := hb3.get
          have hm3 : MemN _ _ _ _ _ := ⟨rfl, hb3.1⟩
          have hi3 := hb3.2
          have hmsh3 : MemN _ _ _ _ _ := ⟨rfl, fsh3.1⟩
          have hish3 := fsh3.2
          clear hb4 c04 i04 hm4 hi4
          have hb4 : Prt.At _ g4 0 m q := ⟨Mem.of_get at4, h1⟩
          obtain ⟨c04, i04⟩ := hb4.get
          have hm4 : MemN _ _ _ _ _ := ⟨rfl, hb4.1⟩
          have hi4 := hb4.2
          clear hb5 c05 i05 hm5 hi5
          have hb5 : Prt.At _ g5 0 m' q' := ⟨Mem.of_get at5, h2⟩
          obtain ⟨c05, i05⟩ := hb5.get
          have hm5 : MemN _ _ _ _ _ := ⟨rfl, hb5.1⟩
          have hi5 := hb5.2
          clear i37x2
          have i37x2 := v37x2.inn
          clear i39x3
          have i39x3 := v39x3.inn
          clear i41x4
          have i41x4 := v41x4.inn
          have i42x4 := v42x4.inn
          replace hf0 := hf0.trans le42x4
          refine .mB rfl rfl rfl rfl hbl (.move rfl) ?_
          refine .mB rfl rfl rfl rfl hbl (.extract rfl rfl) ?_
          refine .mB rfl rfl rfl rfl hbl (.extract rfl rfl) ?_
          refine .r1 rfl rfl rfl (.fillR rfl sz_34_VPrt rfl rfl rfl rfl (by assumption) (by first | rfl | exact Nat.le_of_ble_eq_true rfl | simp)) ?_
          rintro _ H11011x4 ⟨rfl, st11011x4, at11011x4⟩
          replace hbl := hbl.st st11011x4 (fun k hk => ⟨by omega, trivial⟩)
          refine ⟨hbl, ?_⟩
          have nx_H11011x4 := st11011x4.nx
          replace hle := hle.st st11011x4 (fun k hk => ⟨by omega, trivial⟩)
          replace at3 := st11011x4.same _ _ ⟨by omega, trivial⟩ at3
          replace at4 := st11011x4.same _ _ ⟨by omega, trivial⟩ at4
          replace at5 := st11011x4.same _ _ ⟨by omega, trivial⟩ at5
          replace lv_v37x2 := Keep.st lv_v37x2 st11011x4 (fun k hb hk => ⟨by omega, trivial⟩)
          replace v37x2 := bs_v37x2.keep lv_v37x2 (Nat.le_refl _)
          replace lv_v39x3 := Keep.st lv_v39x3 st11011x4 (fun k hb hk => ⟨by omega, trivial⟩)
          replace v39x3 := bs_v39x3.keep lv_v39x3 (Nat.le_refl _)
          replace lv_v41x4 := Keep.st lv_v41x4 st11011x4 (fun k hb hk => ⟨by omega, trivial⟩)
          replace v41x4 := bs_v41x4.keep lv_v41x4 (Nat.le_refl _)
          replace lv_v42x4 := Keep.st lv_v42x4 st11011x4 (fun k hb hk => ⟨by omega, trivial⟩)
          replace v42x4 := bs_v42x4.keep lv_v42x4 (Nat.le_refl _)
          have lt_at11011x4 := GHeap.lt_of_get at11011x4
          replace h0 := base_h0.mono hle
          replace h1 := base_h1.mono hle
          replace h2 := base_h2.mono hle
          clear hb3 fsh3 c53 c63 i13 i23 hm3 hi3 hmsh3 hish3
          have hb3 : SFun.At _ g3 0 f p := ⟨Mem.of_get at3, h0⟩
          obtain ⟨fsh3, c53, c63, i13, i23⟩ := hb3.get
          have hm3 : MemN _ _ _ _ _ := ⟨rfl, hb3.1⟩
          have hi3 := hb3.2
          have hmsh3 : MemN _ _ _ _ _ := ⟨rfl, fsh3.1⟩
          have hish3 := fsh3.2
          clear hb4 c04 i04 hm4 hi4
          have hb4 : Prt.At _ g4 0 m q := ⟨Mem.of_get at4, h1⟩
          obtain ⟨c04, i04⟩ := hb4.get
          have hm4 : MemN _ _ _ _ _ := ⟨rfl, hb4.1⟩
          have hi4 := hb4.2
          clear hb5 c05 i05 hm5 hi5
          have hb5 : Prt.At _ g5 0 m' q' := ⟨Mem.of_get at5, h2⟩
          obtain ⟨c05, i05⟩ := hb5.get
          have hm5 : MemN _ _ _ _ _ := ⟨rfl, hb5.1⟩
          have hi5 := hb5.2
          clear i37x2
          have i37x2 := v37x2.inn
          clear i39x3
          have i39x3 := v39x3.inn
          clear i41x4
          have i41x4 := v41x4.inn
          clear i42x4
          have i42x4 := v42x4.inn
          have mm11011x4 : MemN _ _ _ _ _ := ⟨rfl, Mem.of_get at11011x4⟩
          replace hf0 := hf0.st st11011x4 (fun k hk => ⟨by omega, trivial⟩)
          refine .mB rfl rfl rfl rfl hbl (.assign rfl) ?_
          refine .done ?_
          exact ⟨_, p42x4, ⟨rfl, rfl, rfl, rfl, rfl, rfl, rfl, rfl, rfl, rfl, rfl, rfl, rfl, rfl, rfl, rfl, rfl, rfl, rfl, rfl, rfl, rfl, rfl, rfl, rfl, trivial⟩, hf0, by omega, at11011x4, v42x4.keep (.of_le (.refl _)) (by omega)⟩
         ·
          refine .call1 rfl rfl rfl rfl rfl @Try.call24 rfl (specJoinParts_c) ?_
          rintro _ H42x5 ⟨le42x5, p42x5, rfl, v42x5⟩
          replace hbl := hbl.trans le42x5
          refine ⟨hbl, ?_⟩
          have nx_H42x5 := le42x5.1
          replace hle := hle.trans le42x5
          replace at3 := le42x5.2 _ _ at3
          replace at4 := le42x5.2 _ _ at4
          replace at5 := le42x5.2 _ _ at5
          replace lv_v37x2 := Keep.le lv_v37x2 le42x5
          replace v37x2 := bs_v37x2.keep lv_v37x2 (Nat.le_refl _)
          replace lv_v39x3 := Keep.le lv_v39x3 le42x5
          replace v39x3 := bs_v39x3.keep lv_v39x3 (Nat.le_refl _)
          replace lv_v41x4 := Keep.le lv_v41x4 le42x5
          replace v41x4 := bs_v41x4.keep lv_v41x4 (Nat.le_refl _)
          have bs_v42x5 := v42x5
          have lv_v42x5 : Keep H41x4.next H42x5 H42x5 := fun _ _ _ h => h
          replace h0 := base_h0.mono hle
          replace h1 := base_h1.mono hle
          replace h2 := base_h2.mono hle
          clear hb3 fsh3 c53 c63 i13 i23 hm3 hi3 hmsh3 hish3
          have hb3 : SFun.At _ g3 0 f p := ⟨Mem.of_get at3, h0⟩
          obtain ⟨fsh3, c53, c63, i13, i23⟩ := hb3.get
          have hm3 : MemN _ _ _ _ _ := ⟨rfl, hb3.1⟩
          have hi3 := hb3.2
          have hmsh3 : MemN _ _ _ _ _ := ⟨rfl, fsh3.1⟩
          have hish3 := fsh3.2
          clear hb4 c04 i04 hm4 hi4
          have hb4 : Prt.At _ g4 0 m q := ⟨Mem.of_get at4, h1⟩
          obtain ⟨c04, i04⟩ := hb4.get
          have hm4 : MemN _ _ _ _ _ := ⟨rfl, hb4.1⟩
          have hi4 := hb4.2
          clear hb5 c05 i05 hm5 hi5
          have hb5 : Prt.At _ g5 0 m' q' := ⟨Mem.of_get at5, h2⟩
          obtain ⟨c05, i05⟩ := hb5.get
          have hm5 : MemN _ _ _ _ _ := ⟨rfl, hb5.1⟩
          have hi5 := hb5.2
          clear i37x2
          have i37x2 := v37x2.inn
          clear i39x3
          have i39x3 := v39x3.inn
          clear i41x4
          have i41x4 := v41x4.inn
          have i42x5 := v42x5.inn
          replace hf0 := hf0.trans le42x5
          refine .mB rfl rfl rfl rfl hbl (.move rfl) ?_
          refine .mB rfl rfl rfl rfl hbl (.extract rfl rfl) ?_
          refine .mB rfl rfl rfl rfl hbl (.extract rfl rfl) ?_
          refine .c1 rfl rfl rfl rfl (.allocR rfl ze_34_VPrt rfl) ?_
          rintro _ H8x5 ⟨g8x5, rfl, le8x5, ge8x5, at8x5⟩
          replace hbl := hbl.trans le8x5
          refine ⟨hbl, ?_⟩
          have nx_H8x5 := le8x5.1
          replace hle := hle.trans le8x5
          replace at3 := le8x5.2 _ _ at3
          replace at4 := le8x5.2 _ _ at4
          replace at5 := le8x5.2 _ _ at5
          replace lv_v37x2 := Keep.le lv_v37x2 le8x5
          replace v37x2 := bs_v37x2.keep lv_v37x2 (Nat.le_refl _)
          replace lv_v39x3 := Keep.le lv_v39x3 le8x5
          replace v39x3 := bs_v39x3.keep lv_v39x3 (Nat.le_refl _)
          replace lv_v41x4 := Keep.le lv_v41x4 le8x5
          replace v41x4 := bs_v41x4.keep lv_v41x4 (Nat.le_refl _)
          replace lv_v42x5 := Keep.le lv_v42x5 le8x5
          replace v42x5 := bs_v42x5.keep lv_v42x5 (Nat.le_refl _)
          have lt_at8x5 := GHeap.lt_of_get at8x5
          replace h0 := base_h0.mono hle
          replace h1 := base_h1.mono hle
          replace h2 := base_h2.mono hle
          clear hb3 fsh3 c53 c63 i13 i23 hm3 hi3 hmsh3 hish3
          have hb3 : SFun.At _ g3 0 f p := ⟨Mem.of_get at3, h0⟩
          obtain ⟨fsh3, c53, c63, i13, i23⟩ := hb3.get
          have hm3 : MemN _ _ _ _ _ := ⟨rfl, hb3.1⟩
          have hi3 := hb3.2
          have hmsh3 : MemN _ _ _ _ _ := ⟨rfl, fsh3.1⟩
          have hish3 := fsh3.2
          clear hb4 c04 i04 hm4 hi4
          have hb4 : Prt.At _ g4 0 m q := ⟨Mem.of_get at4, h1⟩
          obtain ⟨c04, i04⟩ := hb4.get
          have hm4 : MemN _ _ _ _ _ := ⟨rfl, hb4.1⟩
          have hi4 := hb4.2
          clear hb5 c05 i05 hm5 hi5
          have hb5 : Prt.At _ g5 0 m' q' := ⟨Mem.of_get at5, h2⟩
          obtain ⟨c05, i05⟩ := hb5.get
          have hm5 : MemN _ _ _ _ _ := ⟨rfl, hb5.1⟩
          have hi5 := hb5.2
          clear i37x2
          have i37x2 := v37x2.inn
          clear i39x3
          have i39x3 := v39x3.inn
          clear i41x4
          have i41x4 := v41x4.inn
          clear i42x5
          have i42x5 := v42x5.inn
          replace hf0 := hf0.trans le8x5
          refine .r1 rfl rfl rfl (.fillR rfl sz_34_VPrt rfl rfl rfl rfl (by assumption) (by first | rfl | exact Nat.le_of_ble_eq_true rfl | simp)) ?_
          rintro _ H11011x5 ⟨rfl, st11011x5, at11011x5⟩
          replace hbl := hbl.st st11011x5 (fun k hk => ⟨by omega, trivial⟩)
          refine ⟨hbl, ?_⟩
          have nx_H11011x5 := st11011x5.nx
          replace hle := hle.st st11011x5 (fun k hk => ⟨by omega, trivial⟩)
          replace at3 := st11011x5.same _ _ ⟨by omega, trivial⟩ at3
          replace at4 := st11011x5.same _ _ ⟨by omega, trivial⟩ at4
          replace at5 := st11011x5.same _ _ ⟨by omega, trivial⟩ at5
          replace lv_v37x2 := Keep.st lv_v37x2 st11011x5 (fun k hb hk => ⟨by omega, trivial⟩)
          replace v37x2 := bs_v37x2.keep lv_v37x2 (Nat.le_refl _)
          replace lv_v39x3 := Keep.st lv_v39x3 st11011x5 (fun k hb hk => ⟨by omega, trivial⟩)
          replace v39x3 := bs_v39x3.keep lv_v39x3 (Nat.le_refl _)
          replace lv_v41x4 := Keep.st lv_v41x4 st11011x5 (fun k hb hk => ⟨by omega, trivial⟩)
          replace v41x4 := bs_v41x4.keep lv_v41x4 (Nat.le_refl _)
          replace lv_v42x5 := Keep.st lv_v42x5 st11011x5 (fun k hb hk => ⟨by omega, trivial⟩)
          replace v42x5 := bs_v42x5.keep lv_v42x5 (Nat.le_refl _)
          have lt_at11011x5 := GHeap.lt_of_get at11011x5
          replace h0 := base_h0.mono hle
          replace h1 := base_h1.mono hle
          replace h2 := base_h2.mono hle
          clear hb3 fsh3 c53 c63 i13 i23 hm3 hi3 hmsh3 hish3
          have hb3 : SFun.At _ g3 0 f p := ⟨Mem.of_get at3, h0⟩
          obtain ⟨fsh3, c53, c63, i13, i23⟩ := hb3.get
          have hm3 : MemN _ _ _ _ _ := ⟨rfl, hb3.1⟩
          have hi3 := hb3.2
          have hmsh3 : MemN _ _ _ _ _ := ⟨rfl, fsh3.1⟩
          have hish3 := fsh3.2
          clear hb4 c04 i04 hm4 hi4
          have hb4 : Prt.At _ g4 0 m q := ⟨Mem.of_get at4, h1⟩
          obtain ⟨c04, i04⟩ := hb4.get
          have hm4 : MemN _ _ _ _ _ := ⟨rfl, hb4.1⟩
          have hi4 := hb4.2
          clear hb5 c05 i05 hm5 hi5
          have hb5 : Prt.At _ g5 0 m' q' := ⟨Mem.of_get at5, h2⟩
          obtain ⟨c05, i05⟩ := hb5.get
          have hm5 : MemN _ _ _ _ _ := ⟨rfl, hb5.1⟩
          have hi5 := hb5.2
          clear i37x2
          have i37x2 := v37x2.inn
          clear i39x3
          have i39x3 := v39x3.inn
          clear i41x4
          have i41x4 := v41x4.inn
          clear i42x5
          have i42x5 := v42x5.inn
          have mm11011x5 : MemN _ _ _ _ _ := ⟨rfl, Mem.of_get at11011x5⟩
          replace hf0 := hf0.st st11011x5 (fun k hk => ⟨by omega, trivial⟩)
          refine .mB rfl rfl rfl rfl hbl (.assign rfl) ?_
          refine .done ?_
          exact ⟨_, p42x5, ⟨rfl, rfl, rfl, rfl, rfl, rfl, rfl, rfl, rfl, rfl, rfl, rfl, rfl, rfl, rfl, rfl, rfl, rfl, rfl, rfl, rfl, rfl, rfl, rfl, rfl, trivial⟩, hf0, by omega, at11011x5, v42x5.keep (.of_le (.refl _)) (by omega)⟩
     ·
      rintro fr8x6 H8x6 ⟨g8x6, p8x6, hsub8x6, le8x6, ge8x6, at8x6, v8x6⟩
      have nx_H8x6 := le8x6.1
      replace hle := hle.trans le8x6
      replace at3 := le8x6.2 _ _ at3
      replace at4 := le8x6.2 _ _ at4
      replace at5 := le8x6.2 _ _ at5
      have lt_at8x6 := GHeap.lt_of_get at8x6
      have bs_v8x6 := v8x6
      have lv_v8x6 : Keep H5.next H8x6 H8x6 := fun _ _ _ h => h
      replace h0 := base_h0.mono hle
      replace h1 := base_h1.mono hle
      replace h2 := base_h2.mono hle
      clear hb3 fsh3 c53 c63 i13 i23 hm3 hi3 hmsh3 hish3
      have hb3 : SFun.At _ g3 0 f p := ⟨Mem.of_get at3, h0⟩
      obtain ⟨fsh3, c53, c63, i13, i23⟩ := hb3.get
      have hm3 : MemN _ _ _ _ _ := ⟨rfl, hb3.1⟩
      have hi3 := hb3.2
      have hmsh3 : MemN _ _ _ _ _ := ⟨rfl, fsh3.1⟩
      have hish3 := fsh3.2
      clear hb4 c04 i04 hm4 hi4
      have hb4 : Prt.At _ g4 0 m q := ⟨Mem.of_get at4, h1⟩
      obtain ⟨c04, i04⟩ := hb4.get
      have hm4 : MemN _ _ _ _ _ := ⟨rfl, hb4.1⟩
      have hi4 := hb4.2
      clear hb5 c05 i05 hm5 hi5
      have hb5 : Prt.At _ g5 0 m' q' := ⟨Mem.of_get at5, h2⟩
      obtain ⟨c05, i05⟩ := hb5.get
      have hm5 : MemN _ _ _ _ _ := ⟨rfl, hb5.1⟩
      have hi5 := hb5.2
      have i8x6 := v8x6.inn
      have mm8x6 : MemN _ _ _ _ _ := ⟨rfl, Mem.of_get at8x6⟩
      refine hK15 _ _ ?_
      refine .forget hsub8x6 ?_
      refine .seq (fun K16 hK16 => ?_)
      refine .region ?_
      refine .m rfl rfl rfl (.loadM ag_27_LJoinParts rfl ⟨rfl, Mem.of_get at3⟩) ?_
      refine .call rfl rfl rfl rfl @Try.call20 rfl (toSetFunctor_c) ?_
      rintro _ H46 ⟨le46, p46, rfl, v46⟩
      have nx_H46 := le46.1
      replace hle := hle.trans le46
      replace at3 := le46.2 _ _ at3
      replace at4 := le46.2 _ _ at4
      replace at5 := le46.2 _ _ at5
      replace at8x6 := le46.2 _ _ at8x6
      replace lv_v8x6 := Keep.le lv_v8x6 le46
      replace v8x6 := bs_v8x6.keep lv_v8x6 (Nat.le_refl _)
      have bs_v46 := v46
      have lv_v46 : Keep H8x6.next H46 H46 := fun _ _ _ h => h
      replace h0 := base_h0.mono hle
      replace h1 := base_h1.mono hle
      replace h2 := base_h2.mono hle
      clear hb3 fsh3 c53 c63 i13 i23 hm3 hi3 hmsh3 hish3
      have hb3 : SFun.At _ g3 0 f p := ⟨Mem.of_get at3, h0⟩
      obtain ⟨fsh3, c53, c63, i13, i23⟩ := hb3.get
      have hm3 : MemN _ _ _ _ _ := ⟨rfl, hb3.1⟩
      have hi3 := hb3.2
      have hmsh3 : MemN _ _ _ _ _ := ⟨rfl, fsh3.1⟩
      have hish3 := fsh3.2
      clear hb4 c04 i04 hm4 hi4
      have hb4 : Prt.At _ g4 0 m q := ⟨Mem.of_get at4, h1⟩
      obtain ⟨c04, i04⟩ := hb4.get
      have hm4 : MemN _ _ _ _ _ := ⟨rfl, hb4.1⟩
      have hi4 := hb4.2
      clear hb5 c05 i05 hm5 hi5
      have hb5 : Prt.At _ g5 0 m' q' := ⟨Mem.of_get at5, h2⟩
      obtain ⟨c05, i05⟩ := hb5.get
      have hm5 : MemN _ _ _ _ _ := ⟨rfl, hb5.1⟩
      have hi5 := hb5.2
      clear i8x6
      have i8x6 := v8x6.inn
      clear mm8x6
      have mm8x6 : MemN _ _ _ _ _ := ⟨rfl, Mem.of_get at8x6⟩
      have i46 := v46.inn
      refine .r rfl rfl rfl (.allocR rfl ze_39_VSFun rfl) ?_
      rintro _ H10 ⟨g10, rfl, le10, ge10, at10⟩
      have nx_H10 := le10.1
      replace hle := hle.trans le10
      replace at3 := le10.2 _ _ at3
      replace at4 := le10.2 _ _ at4
      replace at5 := le10.2 _ _ at5
      replace at8x6 := le10.2 _ _ at8x6
      replace lv_v8x6 := Keep.le lv_v8x6 le10
      replace v8x6 := bs_v8x6.keep lv_v8x6 (Nat.le_refl _)
      replace lv_v46 := Keep.le lv_v46 le10
      replace v46 := bs_v46.keep lv_v46 (Nat.le_refl _)
      have lt_at10 := GHeap.lt_of_get at10
      replace h0 := base_h0.mono hle
      replace h1 := base_h1.mono hle
      replace h2 := base_h2.mono hle
      clear hb3 fsh3 c53 c63 i13 i23 hm3 hi3 hmsh3 hish3
      have hb3 : SFun.At _ g3 0 f p := ⟨Mem.of_get at3, h0⟩
      obtain ⟨fsh3, c53, c63, i13, i23⟩ := hb3.get
      have hm3 : MemN _ _ _ _ _ := ⟨rfl, hb3.1⟩
      have hi3 := hb3.2
      have hmsh3 : MemN _ _ _ _ _ := ⟨rfl, fsh3.1⟩
      have hish3 := fsh3.2
      clear hb4 c04 i04 hm4 hi4
      have hb4 : Prt.At _ g4 0 m q := ⟨Mem.of_get at4, h1⟩
      obtain ⟨c04, i04⟩ := hb4.get
      have hm4 : MemN _ _ _ _ _ := ⟨rfl, hb4.1⟩
      have hi4 := hb4.2
      clear hb5 c05 i05 hm5 hi5
      have hb5 : Prt.At _ g5 0 m' q' := ⟨Mem.of_get at5, h2⟩
      obtain ⟨c05, i05⟩ := hb5.get
      have hm5 : MemN _ _ _ _ _ := ⟨rfl, hb5.1⟩
      have hi5 := hb5.2
      clear i8x6
      have i8x6 := v8x6.inn
      clear mm8x6
      have mm8x6 : MemN _ _ _ _ _ := ⟨rfl, Mem.of_get at8x6⟩
      clear i46
      have i46 := v46.inn
      refine .r0 rfl rfl (.fillR rfl sz_39_VSFun rfl rfl rfl rfl (by assumption) (by first | rfl | exact Nat.le_of_ble_eq_true rfl | simp)) ?_
      rintro _ H12003 ⟨rfl, st12003, at12003⟩
      have nx_H12003 := st12003.nx
      replace hle := hle.st st12003 (fun k hk => ⟨by omega, trivial⟩)
      replace at3 := st12003.same _ _ ⟨by omega, trivial⟩ at3
      replace at4 := st12003.same _ _ ⟨by omega, trivial⟩ at4
      replace at5 := st12003.same _ _ ⟨by omega, trivial⟩ at5
      replace at8x6 := st12003.same _ _ ⟨by omega, trivial⟩ at8x6
      replace lv_v8x6 := Keep.st lv_v8x6 st12003 (fun k hb hk => ⟨by omega, trivial⟩)
      replace v8x6 := bs_v8x6.keep lv_v8x6 (Nat.le_refl _)
      replace lv_v46 := Keep.st lv_v46 st12003 (fun k hb hk => ⟨by omega, trivial⟩)
      replace v46 := bs_v46.keep lv_v46 (Nat.le_refl _)
      have lt_at12003 := GHeap.lt_of_get at12003
      replace h0 := base_h0.mono hle
      replace h1 := base_h1.mono hle
      replace h2 := base_h2.mono hle
      clear hb3 fsh3 c53 c63 i13 i23 hm3 hi3 hmsh3 hish3
      have hb3 : SFun.At _ g3 0 f p := ⟨Mem.of_get at3, h0⟩
      obtain ⟨fsh3, c53, c63, i13, i23⟩ := hb3.get
      have hm3 : MemN _ _ _ _ _ := ⟨rfl, hb3.1⟩
      have hi3 := hb3.2
      have hmsh3 : MemN _ _ _ _ _ := ⟨rfl, fsh3.1⟩
      have hish3 := fsh3.2
      clear hb4 c04 i04 hm4 hi4
      have hb4 : Prt.At _ g4 0 m q := ⟨Mem.of_get at4, h1⟩
      obtain ⟨c04, i04⟩ := hb4.get
      have hm4 : MemN _ _ _ _ _ := ⟨rfl, hb4.1⟩
      have hi4 := hb4.2
      clear hb5 c05 i05 hm5 hi5
      have hb5 : Prt.At _ g5 0 m' q' := ⟨Mem.of_get at5, h2⟩
      obtain ⟨c05, i05⟩ := hb5.get
      have hm5 : MemN _ _ _ _ _ := ⟨rfl, hb5.1⟩
      have hi5 := hb5.2
      clear i8x6
      have i8x6 := v8x6.inn
      clear mm8x6
      have mm8x6 : MemN _ _ _ _ _ := ⟨rfl, Mem.of_get at8x6⟩
      clear i46
      have i46 := v46.inn
      have mm12003 : MemN _ _ _ _ _ := ⟨rfl, Mem.of_get at12003⟩
      refine .nil ?_
      refine hK16 _ _ ?_
      refine .seq (fun K17 hK17 => ?_)
      refine .region ?_
      refine .m rfl rfl rfl (.loadM ag_31_LJoinParts rfl ⟨rfl, Mem.of_get at4⟩) ?_
      refine .call rfl rfl rfl rfl @Try.call11 rfl (toPart_c) ?_
      rintro _ H48 ⟨le48, p48, rfl, v48⟩
      have nx_H48 := le48.1
      replace hle := hle.trans le48
      replace at3 := le48.2 _ _ at3
      replace at4 := le48.2 _ _ at4
      replace at5 := le48.2 _ _ at5
      replace at8x6 := le48.2 _ _ at8x6
      replace at12003 := le48.2 _ _ at12003
      replace lv_v8x6 := Keep.le lv_v8x6 le48
      replace v8x6 := bs_v8x6.keep lv_v8x6 (Nat.le_refl _)
      replace lv_v46 := Keep.le lv_v46 le48
      replace v46 := bs_v46.keep lv_v46 (Nat.le_refl _)
      have bs_v48 := v48
      have lv_v48 : Keep H12003.next H48 H48 := fun _ _ _ h => h
      replace h0 := base_h0.mono hle
      replace h1 := base_h1.mono hle
      replace h2 := base_h2.mono hle
      clear hb3 fsh3 c53 c63 i13 i23 hm3 hi3 hmsh3 hish3
      have hb3 : SFun.At _ g3 0 f p := ⟨Mem.of_get at3, h0⟩
      obtain ⟨fsh3, c53, c63, i13, i23⟩ := hb3.get
      have hm3 : MemN _ _ _ _ _ := ⟨rfl, hb3.1⟩
      have hi3 := hb3.2
      have hmsh3 : MemN _ _ _ _ _ := ⟨rfl, fsh3.1⟩
      have hish3 := fsh3.2
      clear hb4 c04 i04 hm4 hi4
      have hb4 : Prt.At _ g4 0 m q := ⟨Mem.of_get at4, h1⟩
      obtain ⟨c04, i04⟩ := hb4.get
      have hm4 : MemN _ _ _ _ _ := ⟨rfl, hb4.1⟩
      have hi4 := hb4.2
      clear hb5 c05 i05 hm5 hi5
      have hb5 : Prt.At _ g5 0 m' q' := ⟨Mem.of_get at5, h2⟩
      obtain ⟨c05, i05⟩ := hb5.get
      have hm5 : MemN _ _ _ _ _ := ⟨rfl, hb5.1⟩
      have hi5 := hb5.2
      clear i8x6
      have i8x6 := v8x6.inn
      clear mm8x6
      have mm8x6 : MemN _ _ _ _ _ := ⟨rfl, Mem.of_get at8x6⟩
      clear i46
      have i46 := v46.inn
      clear mm12003
      have mm12003 : MemN _ _ _ _ _ := ⟨rfl, Mem.of_get at12003⟩
      have i48 := v48.inn
      refine .r rfl rfl rfl (.allocR rfl ze_34_VPrt rfl) ?_
      rintro _ H11 ⟨g11, rfl, le11, ge11, at11⟩
      have nx_H11 := le11.1
      replace hle := hle.trans le11
      replace at3 := le11.2 _ _ at3
      replace at4 := le11.2 _ _ at4
      replace at5 := le11.2 _ _ at5
      replace at8x6 := le11.2 _ _ at8x6
      replace at12003 := le11.2 _ _ at12003
      replace lv_v8x6 := Keep.le lv_v8x6 le11
      replace v8x6 := bs_v8x6.keep lv_v8x6 (Nat.le_refl _)
      replace lv_v46 := Keep.le lv_v46 le11
      replace v46 := bs_v46.keep lv_v46 (Nat.le_refl _)
      replace lv_v48 := Keep.le lv_v48 le11
      replace v48 := bs_v48.keep lv_v48 (Nat.le_refl _)
      have lt_at11 := GHeap.lt_of_get at11
      replace h0 := base_h0.mono hle
      replace h1 := base_h1.mono hle
      replace h2 := base_h2.mono hle
      clear hb3 fsh3 c53 c63 i13 i23 hm3 hi3 hmsh3 hish3
      have hb3 : SFun.At _ g3 0 f p := ⟨Mem.of_get at3, h0⟩
      obtain ⟨fsh3, c53, c63, i13, i23⟩ := hb3.get
      have hm3 : MemN _ _ _ _ _ := ⟨rfl, hb3.1⟩
      have hi3 := hb3.2
      have hmsh3 : MemN _ _ _ _ _ := ⟨rfl, fsh3.1⟩
      have hish3 := fsh3.2
      clear hb4 c04 i04 hm4 hi4
      have hb4 : Prt.At _ g4 0 m q := ⟨Mem.of_get at4, h1⟩
      obtain ⟨c04, i04⟩ := hb4.get
      have hm4 : MemN _ _ _ _ _ := ⟨rfl, hb4.1⟩
      have hi4 := hb4.2
      clear hb5 c05 i05 hm5 hi5
      have hb5 : Prt.At _ g5 0 m' q' := ⟨Mem.of_get at5, h2⟩
      obtain ⟨c05, i05⟩ := hb5.get
      have hm5 : MemN _ _ _ _ _ := ⟨rfl, hb5.1⟩
      have hi5 := hb5.2
      clear i8x6
      have i8x6 := v8x6.inn
      clear mm8x6
      have mm8x6 : MemN _ _ _ _ _ := ⟨rfl, Mem.of_get at8x6⟩
      clear i46
      have i46 := v46.inn
      clear mm12003
      have mm12003 : MemN _ _ _ _ _ := ⟨rfl, Mem.of_get at12003⟩
      clear i48
      have i48 := v48.inn
      refine .r0 rfl rfl (.fillR rfl sz_34_VPrt rfl rfl rfl rfl (by assumption) (by first | rfl | exact Nat.le_of_ble_eq_true rfl | simp)) ?_
      rintro _ H13003 ⟨rfl, st13003, at13003⟩
      have nx_H13003 := st13003.nx
      replace hle := hle.st st13003 (fun k hk => ⟨by omega, trivial⟩)
      replace at3 := st13003.same _ _ ⟨by omega, trivial⟩ at3
      replace at4 := st13003.same _ _ ⟨by omega, trivial⟩ at4
      replace at5 := st13003.same _ _ ⟨by omega, trivial⟩ at5
      replace at8x6 := st13003.same _ _ ⟨by omega, trivial⟩ at8x6
      replace at12003 := st13003.same _ _ ⟨by omega, trivial⟩ at12003
      replace lv_v8x6 := Keep.st lv_v8x6 st13003 (fun k hb hk => ⟨by omega, trivial⟩)
      replace v8x6 := bs_v8x6.keep lv_v8x6 (Nat.le_refl _)
      replace lv_v46 := Keep.st lv_v46 st13003 (fun k hb hk => ⟨by omega, trivial⟩)
      replace v46 := bs_v46.keep lv_v46 (Nat.le_refl _)
      replace lv_v48 := Keep.st lv_v48 st13003 (fun k hb hk => ⟨by omega, trivial⟩)
      replace v48 := bs_v48.keep lv_v48 (Nat.le_refl _)
      have lt_at13003 := GHeap.lt_of_get at13003
      replace h0 := base_h0.mono hle
      replace h1 := base_h1.mono hle
      replace h2 := base_h2.mono hle
      clear hb3 fsh3 c53 c63 i13 i23 hm3 hi3 hmsh3 hish3
      have hb3 : SFun.At _ g3 0 f p := ⟨Mem.of_get at3, h0⟩
      obtain ⟨fsh3, c53, c63, i13, i23⟩ := hb3.get
      have hm3 : MemN _ _ _ _ _ := ⟨rfl, hb3.1⟩
      have hi3 := hb3.2
      have hmsh3 : MemN _ _ _ _ _ := ⟨rfl, fsh3.1⟩
      have hish3 := fsh3.2
      clear hb4 c04 i04 hm4 hi4
      have hb4 : Prt.At _ g4 0 m q := ⟨Mem.of_get at4, h1⟩
      obtain ⟨c04, i04⟩ := hb4.get
      have hm4 : MemN _ _ _ _ _ := ⟨rfl, hb4.1⟩
      have hi4 := hb4.2
      clear hb5 c05 i05 hm5 hi5
      have hb5 : Prt.At _ g5 0 m' q' := ⟨Mem.of_get at5, h2⟩
      obtain ⟨c05, i05⟩ := hb5.get
      have hm5 : MemN _ _ _ _ _ := ⟨rfl, hb5.1⟩
      have hi5 := hb5.2
      clear i8x6
      have i8x6 := v8x6.inn
      clear mm8x6
      have mm8x6 : MemN _ _ _ _ _ := ⟨rfl, Mem.of_get at8x6⟩
      clear i46
      have i46 := v46.inn
      clear mm12003
      have mm12003 : MemN _ _ _ _ _ := ⟨rfl, Mem.of_get at12003⟩
      clear i48
      have i48 := v48.inn
      have mm13003 : MemN _ _ _ _ _ := ⟨rfl, Mem.of_get at13003⟩
      refine .nil ?_
      refine hK17 _ _ ?_
      refine .seq (fun K18 hK18 => ?_)
      refine .region ?_
      refine .m rfl rfl rfl (.loadM ag_31_LJoinParts rfl ⟨rfl, Mem.of_get at5⟩) ?_
      refine .call rfl rfl rfl rfl @Try.call11 rfl (toPart_c) ?_
      rintro _ H50 ⟨le50, p50, rfl, v50⟩
      have nx_H50 := le50.1
      replace hle := hle.trans le50
      replace at3 := le50.2 _ _ at3
      replace at4 := le50.2 _ _ at4
      replace at5 := le50.2 _ _ at5
      replace at8x6 := le50.2 _ _ at8x6
      replace at12003 := le50.2 _ _ at12003
      replace at13003 := le50.2 _ _ at13003
      replace lv_v8x6 := Keep.le lv_v8x6 le50
      replace v8x6 := bs_v8x6.keep lv_v8x6 (Nat.le_refl _)
      replace lv_v46 := Keep.le lv_v46 le50
      replace v46 := bs_v46.keep lv_v46 (Nat.le_refl _)
      replace lv_v48 := Keep.le lv_v48 le50
      replace v48 := bs_v48.keep lv_v48 (Nat.le_refl _)
      have bs_v50 := v50
      have lv_v50 : Keep H13003.next H50 H50 := fun _ _ _ h => h
      replace h0 := base_h0.mono hle
      replace h1 := base_h1.mono hle
      replace h2 := base_h2.mono hle
      clear hb3 fsh3 c53 c63 i13 i23 hm3 hi3 hmsh3 hish3
      have hb3 : SFun.At _ g3 0 f p := ⟨Mem.of_get at3, h0⟩
      obtain ⟨fsh3, c53, c63, i13, i23⟩ := hb3.get
      have hm3 : MemN _ _ _ _ _ := ⟨rfl, hb3.1⟩
      have hi3 := hb3.2
      have hmsh3 : MemN _ _ _ _ _ := ⟨rfl, fsh3.1⟩
      have hish3 := fsh3.2
      clear hb4 c04 i04 hm4 hi4
      have hb4 : Prt.At _ g4 0 m q := ⟨Mem.of_get at4, h1⟩
      obtain ⟨c04, i04⟩ := hb4.get
      have hm4 : MemN _ _ _ _ _ := ⟨rfl, hb4.1⟩
      have hi4 := hb4.2
      clear hb5 c05 i05 hm5 hi5
      have hb5 : Prt.At _ g5 0 m' q' := ⟨Mem.of_get at5, h2⟩
      obtain ⟨c05, i05⟩ := hb5.get
      have hm5 : MemN _ _ _ _ _ := ⟨rfl, hb5.1⟩
      have hi5 := hb5.2
      clear i8x6
      have i8x6 := v8x6.inn
      clear mm8x6
      have mm8x6 : MemN _ _ _ _ _ := ⟨rfl, Mem.of_get at8x6⟩
      clear i46
      have i46 := v46.inn
      clear mm12003
      have mm12003 : MemN _ _ _ _ _ := ⟨rfl, Mem.of_get at12003⟩
      clear i48
      have i48 := v48.inn
      clear mm13003
      have mm13003 : MemN _ _ _ _ _ := ⟨rfl, Mem.of_get at13003⟩
      have i50 := v50.inn
      refine .r rfl rfl rfl (.allocR rfl ze_34_VPrt rfl) ?_
      rintro _ H12 ⟨g12, rfl, le12, ge12, at12⟩
      have nx_H12 := le12.1
      replace hle := hle.trans le12
      replace at3 := le12.2 _ _ at3
      replace at4 := le12.2 _ _ at4
      replace at5 := le12.2 _ _ at5
      replace at8x6 := le12.2 _ _ at8x6
      replace at12003 := le12.2 _ _ at12003
      replace at13003 := le12.2 _ _ at13003
      replace lv_v8x6 := Keep.le lv_v8x6 le12
      replace v8x6 := bs_v8x6.keep lv_v8x6 (Nat.le_refl _)
      replace lv_v46 := Keep.le lv_v46 le12
      replace v46 := bs_v46.keep lv_v46 (Nat.le_refl _)
      replace lv_v48 := Keep.le lv_v48 le12
      replace v48 := bs_v48.keep lv_v48 (Nat.le_refl _)
      replace lv_v50 := Keep.le lv_v50 le12
      replace v50 := bs_v50.keep lv_v50 (Nat.le_refl _)
      have lt_at12 := GHeap.lt_of_get at12
      replace h0 := base_h0.mono hle
      replace h1 := base_h1.mono hle
      replace h2 := base_h2.mono hle
      clear hb3 fsh3 c53 c63 i13 i23 hm3 hi3 hmsh3 hish3
      have hb3 : SFun.At _ g3 0 f p := ⟨Mem.of_get at3, h0⟩
      obtain ⟨fsh3, c53, c63, i13, i23⟩ := hb3.get
      have hm3 : MemN _ _ _ _ _ := ⟨rfl, hb3.1⟩
      have hi3 := hb3.2
      have hmsh3 : MemN _ _ _ _ _ := ⟨rfl, fsh3.1⟩
      have hish3 := fsh3.2
      clear hb4 c04 i04 hm4 hi4
      have hb4 : Prt.At _ g4 0 m q := ⟨Mem.of_get at4, h1⟩
      obtain ⟨c04, i04⟩ := hb4.get
      have hm4 : MemN _ _ _ _ _ := ⟨rfl, hb4.1⟩
      have hi4 := hb4.2
      clear hb5 c05 i05 hm5 hi5
      have hb5 : Prt.At _ g5 0 m' q' := ⟨Mem.of_get at5, h2⟩
      obtain ⟨c05, i05⟩ := hb5.get
      have hm5 : MemN _ _ _ _ _ := ⟨rfl, hb5.1⟩
      have hi5 := hb5.2
      clear i8x6
      have i8x6 := v8x6.inn
      clear mm8x6
      have mm8x6 : MemN _ _ _ _ _ := ⟨rfl, Mem.of_get at8x6⟩
      clear i46
      have i46 := v46.inn
      clear mm12003
      have mm12003 : MemN _ _ _ _ _ := ⟨rfl, Mem.of_get at12003⟩
      clear i48
      have i48 := v48.inn
      clear mm13003
      have mm13003 : MemN _ _ _ _ _ := ⟨rfl, Mem.of_get at13003⟩
      clear i50
      have i50 := v50.inn
      refine .r0 rfl rfl (.fillR rfl sz_34_VPrt rfl rfl rfl rfl (by assumption) (by first | rfl | exact Nat.le_of_ble_eq_true rfl | simp)) ?_
      rintro _ H14003 ⟨rfl, st14003, at14003⟩
      have nx_H14003 := st14003.nx
      replace hle := hle.st st14003 (fun k hk => ⟨by omega, trivial⟩)
      replace at3 := st14003.same _ _ ⟨by omega, trivial⟩ at3
      replace at4 := st14003.same _ _ ⟨by omega, trivial⟩ at4
      replace at5 := st14003.same _ _ ⟨by omega, trivial⟩ at5
      replace at8x6 := st14003.same _ _ ⟨by omega, trivial⟩ at8x6
      replace at12003 := st14003.same _ _ ⟨by omega, trivial⟩ at12003
      replace at13003 := st14003.same _ _ ⟨by omega, trivial⟩ at13003
      replace lv_v8x6 := Keep.st lv_v8x6 st14003 (fun k hb hk => ⟨by omega, trivial⟩)
      replace v8x6 := bs_v8x6.keep lv_v8x6 (Nat.le_refl _)
      replace lv_v46 := Keep.st lv_v46 st14003 (fun k hb hk => ⟨by omega, trivial⟩)
      replace v46 := bs_v46.keep lv_v46 (Nat.le_refl _)
      replace lv_v48 := Keep.st lv_v48 st14003 (fun k hb hk => ⟨by omega, trivial⟩)
      replace v48 := bs_v48.keep lv_v48 (Nat.le_refl _)
      replace lv_v50 := Keep.st lv_v50 st14003 (fun k hb hk => ⟨by omega, trivial⟩)
      replace v50 := bs_v50.keep lv_v50 (Nat.le_refl _)
      have lt_at14003 := GHeap.lt_of_get at14003
      replace h0 := base_h0.mono hle
      replace h1 := base_h1.mono hle
      replace h2 := base_h2.mono hle
      clear hb3 fsh3 c53 c63 i13 i23 hm3 hi3 hmsh3 hish3
      have hb3 : SFun.At _ g3 0 f p := ⟨Mem.of_get at3, h0⟩
      obtain ⟨fsh3, c53, c63, i13, i23⟩ := hb3.get
      have hm3 : MemN _ _ _ _ _ := ⟨rfl, hb3.1⟩
      have hi3 := hb3.2
      have hmsh3 : MemN _ _ _ _ _ := ⟨rfl, fsh3.1⟩
      have hish3 := fsh3.2
      clear hb4 c04 i04 hm4 hi4
      have hb4 : Prt.At _ g4 0 m q := ⟨Mem.of_get at4, h1⟩
      obtain ⟨c04, i04⟩ := hb4.get
      have hm4 : MemN _ _ _ _ _ := ⟨rfl, hb4.1⟩
      have hi4 := hb4.2
      clear hb5 c05 i05 hm5 hi5
      have hb5 : Prt.At _ g5 0 m' q' := ⟨Mem.of_get at5, h2⟩
      obtain ⟨c05, i05⟩ := hb5.get
      have hm5 : MemN _ _ _ _ _ := ⟨rfl, hb5.1⟩
      have hi5 := hb5.2
      clear i8x6
      have i8x6 := v8x6.inn
      clear mm8x6
      have mm8x6 : MemN _ _ _ _ _ := ⟨rfl, Mem.of_get at8x6⟩
      clear i46
      have i46 := v46.inn
      clear mm12003
      have mm12003 : MemN _ _ _ _ _ := ⟨rfl, Mem.of_get at12003⟩
      clear i48
      have i48 := v48.inn
      clear mm13003
      have mm13003 : MemN _ _ _ _ _ := ⟨rfl, Mem.of_get at13003⟩
      clear i50
      have i50 := v50.inn
      have mm14003 : MemN _ _ _ _ _ := ⟨rfl, Mem.of_get at14003⟩
      refine .nil ?_
      refine hK18 _ _ ?_
      refine .seq (fun K19 hK19 => ?_)
      refine .region ?_
      refine .m rfl rfl rfl (.loadM ag_39_VSFun rfl ⟨rfl, Mem.of_get at12003⟩) ?_
      refine .m rfl rfl rfl (.loadM ag_34_VPrt rfl ⟨rfl, Mem.of_get at13003⟩) ?_
      refine .m rfl rfl rfl (.loadM ag_34_VPrt rfl ⟨rfl, Mem.of_get at14003⟩) ?_
      refine .call rfl rfl rfl rfl @Try.call25 rfl (implJoinParts_c) ?_
      rintro _ H55 ⟨le55, p55, rfl, v55⟩
      have nx_H55 := le55.1
      replace hle := hle.trans le55
      replace at3 := le55.2 _ _ at3
      replace at4 := le55.2 _ _ at4
      replace at5 := le55.2 _ _ at5
      replace at8x6 := le55.2 _ _ at8x6
      replace at12003 := le55.2 _ _ at12003
      replace at13003 := le55.2 _ _ at13003
      replace at14003 := le55.2 _ _ at14003
      replace lv_v8x6 := Keep.le lv_v8x6 le55
      replace v8x6 := bs_v8x6.keep lv_v8x6 (Nat.le_refl _)
      replace lv_v46 := Keep.le lv_v46 le55
      replace v46 := bs_v46.keep lv_v46 (Nat.le_refl _)
      replace lv_v48 := Keep.le lv_v48 le55
      replace v48 := bs_v48.keep lv_v48 (Nat.le_refl _)
      replace lv_v50 := Keep.le lv_v50 le55
      replace v50 := bs_v50.keep lv_v50 (Nat.le_refl _)
      have bs_v55 := v55
      have lv_v55 : Keep H14003.next H55 H55 := fun _ _ _ h => h
      replace h0 := base_h0.mono hle
      replace h1 := base_h1.mono hle
      replace h2 := base_h2.mono hle
      clear hb3 fsh3 c53 c63 i13 i23 hm3 hi3 hmsh3 hish3
      have hb3 : SFun.At _ g3 0 f p := ⟨Mem.of_get at3, h0⟩
      obtain ⟨fsh3, c53, c63, i13, i23⟩ := hb3.get
      have hm3 : MemN _ _ _ _ _ := ⟨rfl, hb3.1⟩
      have hi3 := hb3.2
      have hmsh3 : MemN _ _ _ _ _ := ⟨rfl, fsh3.1⟩
      have hish3 := fsh3.2
      clear hb4 c04 i04 hm4 hi4
      have hb4 : Prt.At _ g4 0 m q := ⟨Mem.of_get at4, h1⟩
      obtain ⟨c04, i04⟩ := hb4.get
      have hm4 : MemN _ _ _ _ _ := ⟨rfl, hb4.1⟩
      have hi4 := hb4.2
      clear hb5 c05 i05 hm5 hi5
      have hb5 : Prt.At _ g5 0 m' q' := ⟨Mem.of_get at5, h2⟩
      obtain ⟨c05, i05⟩ := hb5.get
      have hm5 : MemN _ _ _ _ _ := ⟨rfl, hb5.1⟩
      have hi5 := hb5.2
      clear i8x6
      have i8x6 := v8x6.inn
      clear mm8x6
      have mm8x6 : MemN _ _ _ _ _ := ⟨rfl, Mem.of_get at8x6⟩
      clear i46
      have i46 := v46.inn
      clear mm12003
      have mm12003 : MemN _ _ _ _ _ := ⟨rfl, Mem.of_get at12003⟩
      clear i48
      have i48 := v48.inn
      clear mm13003
      have mm13003 : MemN _ _ _ _ _ := ⟨rfl, Mem.of_get at13003⟩
      clear i50
      have i50 := v50.inn
      clear mm14003
      have mm14003 : MemN _ _ _ _ _ := ⟨rfl, Mem.of_get at14003⟩
      have i55 := v55.inn
      refine .m rfl rfl rfl (.move rfl) ?_
      refine .m rfl rfl rfl (.extract rfl rfl) ?_
      refine .m rfl rfl rfl (.extract rfl rfl) ?_
      refine .r rfl rfl rfl (.allocR rfl ze_34_VPrt rfl) ?_
      rintro _ H13 ⟨g13, rfl, le13, ge13, at13⟩
      have nx_H13 := le13.1
      replace hle := hle.trans le13
      replace at3 := le13.2 _ _ at3
      replace at4 := le13.2 _ _ at4
      replace at5 := le13.2 _ _ at5
      replace at8x6 := le13.2 _ _ at8x6
      replace at12003 := le13.2 _ _ at12003
      replace at13003 := le13.2 _ _ at13003
      replace at14003 := le13.2 _ _ at14003
      replace lv_v8x6 := Keep.le lv_v8x6 le13
      replace v8x6 := bs_v8x6.keep lv_v8x6 (Nat.le_refl _)
      replace lv_v46 := Keep.le lv_v46 le13
      replace v46 := bs_v46.keep lv_v46 (Nat.le_refl _)
      replace lv_v48 := Keep.le lv_v48 le13
      replace v48 := bs_v48.keep lv_v48 (Nat.le_refl _)
      replace lv_v50 := Keep.le lv_v50 le13
      replace v50 := bs_v50.keep lv_v50 (Nat.le_refl _)
      replace lv_v55 := Keep.le lv_v55 le13
      replace v55 := bs_v55.keep lv_v55 (Nat.le_refl _)
      have lt_at13 := GHeap.lt_of_get at13
      replace h0 := base_h0.mono hle
      replace h1 := base_h1.mono hle
      replace h2 := base_h2.mono hle
      clear hb3 fsh3 c53 c63 i13 i23 hm3 hi3 hmsh3 hish3
      have hb3 : SFun.At _ g3 0 f p := ⟨Mem.of_get at3, h0⟩
      obtain ⟨fsh3, c53, c63, i13, i23⟩ := hb3.get
      have hm3 : MemN _ _ _ _ _ := ⟨rfl, hb3.1⟩
      have hi3 := hb3.2
      have hmsh3 : MemN _ _ _ _ _ := ⟨rfl, fsh3.1⟩
      have hish3 := fsh3.2
      clear hb4 c04 i04 hm4 hi4
      have hb4 : Prt.At _ g4 0 m q := ⟨Mem.of_get at4, h1⟩
      obtain ⟨c04, i04⟩ := hb4.get
      have hm4 : MemN _ _ _ _ _ := ⟨rfl, hb4.1⟩
      have hi4 := hb4.2
      clear hb5 c05 i05 hm5 hi5
      have hb5 : Prt.At _ g5 0 m' q' := ⟨Mem.of_get at5, h2⟩
      obtain ⟨c05, i05⟩ := hb5.get
      have hm5 : MemN _ _ _ _ _ := ⟨rfl, hb5.1⟩
      have hi5 := hb5.2
      clear i8x6
      have i8x6 := v8x6.inn
      clear mm8x6
      have mm8x6 : MemN _ _ _ _ _ := ⟨rfl, Mem.of_get at8x6⟩
      clear i46
      have i46 := v46.inn
      clear mm12003
      have mm12003 : MemN _ _ _ _ _ := ⟨rfl, Mem.of_get at12003⟩
      clear i48
      have i48 := v48.inn
      clear mm13003
      have mm13003 : MemN _ _ _ _ _ := ⟨rfl, Mem.of_get at13003⟩
      clear i50
      have i50 := v50.inn
      clear mm14003
      have mm14003 : MemN _ _ _ _ _ := ⟨rfl, Mem.of_get at14003⟩
      clear i55
      have i55 := v55.inn
      refine .r0 rfl rfl (.fillR rfl sz_34_VPrt rfl rfl rfl rfl (by assumption) (by first | rfl | exact Nat.le_of_ble_eq_true rfl | simp)) ?_
      rintro _ H15008 ⟨rfl, st15008, at15008⟩
      have nx_H15008 := st15008.nx
      replace hle := hle.st st15008 (fun k hk => ⟨by omega, trivial⟩)
      replace at3 := st15008.same _ _ ⟨by omega, trivial⟩ at3
      replace at4 := st15008.same _ _ ⟨by omega, trivial⟩ at4
      replace at5 := st15008.same _ _ ⟨by omega, trivial⟩ at5
      replace at8x6 := st15008.same _ _ ⟨by omega, trivial⟩ at8x6
      replace at12003 := st15008.same _ _ ⟨by omega, trivial⟩ at12003
      replace at13003 := st15008.same _ _ ⟨by omega, trivial⟩ at13003
      replace at14003 := st15008.same _ _ ⟨by omega, trivial⟩ at14003
      replace lv_v8x6 := Keep.st lv_v8x6 st15008 (fun k hb hk => ⟨by omega, trivial⟩)
      replace v8x6 := bs_v8x6.keep lv_v8x6 (Nat.le_refl _)
      replace lv_v46 := Keep.st lv_v46 st15008 (fun k hb hk => ⟨by omega, trivial⟩)
      replace v46 := bs_v46.keep lv_v46 (Nat.le_refl _)
      replace lv_v48 := Keep.st lv_v48 st15008 (fun k hb hk => ⟨by omega, trivial⟩)
      replace v48 := bs_v48.keep lv_v48 (Nat.le_refl _)
      replace lv_v50 := Keep.st lv_v50 st15008 (fun k hb hk => ⟨by omega, trivial⟩)
      replace v50 := bs_v50.keep lv_v50 (Nat.le_refl _)
      replace lv_v55 := Keep.st lv_v55 st15008 (fun k hb hk => ⟨by omega, trivial⟩)
      replace v55 := bs_v55.keep lv_v55 (Nat.le_refl _)
      have lt_at15008 := GHeap.lt_of_get at15008
      replace h0 := base_h0.mono hle
      replace h1 := base_h1.mono hle
      replace h2 := base_h2.mono hle
      clear hb3 fsh3 c53 c63 i13 i23 hm3 hi3 hmsh3 hish3
      have hb3 : SFun.At _ g3 0 f p := ⟨Mem.of_get at3, h0⟩
      obtain ⟨fsh3, c53, c63, i13, i23⟩ := hb3.get
      have hm3 : MemN _ _ _ _ _ := ⟨rfl, hb3.1⟩
      have hi3 := hb3.2
      have hmsh3 : MemN _ _ _ _ _ := ⟨rfl, fsh3.1⟩
      have hish3 := fsh3.2
      clear hb4 c04 i04 hm4 hi4
      have hb4 : Prt.At _ g4 0 m q := ⟨Mem.of_get at4, h1⟩
      obtain ⟨c04, i04⟩ := hb4.get
      have hm4 : MemN _ _ _ _ _ := ⟨rfl, hb4.1⟩
      have hi4 := hb4.2
      clear hb5 c05 i05 hm5 hi5
      have hb5 : Prt.At _ g5 0 m' q' := ⟨Mem.of_get at5, h2⟩
      obtain ⟨c05, i05⟩ := hb5.get
      have hm5 : MemN _ _ _ _ _ := ⟨rfl, hb5.1⟩
      have hi5 := hb5.2
      clear i8x6
      have i8x6 := v8x6.inn
      clear mm8x6
      have mm8x6 : MemN _ _ _ _ _ := ⟨rfl, Mem.of_get at8x6⟩
      clear i46
      have i46 := v46.inn
      clear mm12003
      have mm12003 : MemN _ _ _ _ _ := ⟨rfl, Mem.of_get at12003⟩
      clear i48
      have i48 := v48.inn
      clear mm13003
      have mm13003 : MemN _ _ _ _ _ := ⟨rfl, Mem.of_get at13003⟩
      clear i50
      have i50 := v50.inn
      clear mm14003
      have mm14003 : MemN _ _ _ _ _ := ⟨rfl, Mem.of_get at14003⟩
      clear i55
      have i55 := v55.inn
      have mm15008 : MemN _ _ _ _ _ := ⟨rfl, Mem.of_get at15008⟩
      refine .m rfl rfl rfl (.assign rfl) ?_
      refine .nil ?_
      refine hK19 _ _ ?_
      refine .seq (fun K20 hK20 => ?_)
      refine .seq (fun K21 hK21 => ?_)
      refine .region ?_
      refine .m rfl rfl rfl (.loadM ag_34_VPrt rfl ⟨rfl, Mem.of_get at15008⟩) ?_
      refine .m rfl rfl rfl (.loadM ag_34_VPrt rfl ⟨rfl, Mem.of_get at8x6⟩) ?_
      refine .callQ rfl rfl rfl rfl @Try.call13 rfl (eqPart_c) ?_
      refine .m rfl rfl rfl (.not rfl) ?_
      refine .m rfl rfl rfl (.move rfl) ?_
      refine .split (fun h62 => ?_) (fun h62 => ?_)
      ·
       try simp only [sps] at h62
       refine .sg rfl rfl rfl rfl rfl ?_
       refine .sg rfl rfl rfl rfl rfl ?_
       refine .sg rfl rfl rfl rfl rfl ?_
       refine .m rfl rfl rfl (.pickT rfl rfl) ?_
       refine .nil ?_
       refine hK21 _ _ ?_
       refine .condT rfl ?_
       refine .seq (fun K22 hK22 => ?_)
       refine .region ?_
       refine .m rfl rfl rfl (.assign rfl) ?_
       refine .nil ?_
       refine hK22 _ _ ?_
       refine .ret ?_
       -- leaf e4
       refine hret _ _ ?_
       refine ⟨_, rfl, ?_⟩
       first
       | exact rfl
       | exact absurd trivial (by assumption)
       | contradiction
       | (exfalso; omega)
      ·
       try simp only [sps] at h62
       refine .mg rfl rfl rfl rfl rfl (.move rfl) ?_
       refine .mg rfl rfl rfl rfl rfl (.move rfl) ?_
       refine .mg rfl rfl rfl rfl rfl (.cmp rfl rfl rfl) ?_
       refine .m rfl rfl rfl (.pickF rfl rfl) ?_
       refine .nil ?_
       refine hK21 _ _ ?_
       refine .cond rfl (fun h66 => ?_) (fun h66 => ?_)
       ·
        try simp only [sps] at h66
        refine .seq (fun K23 hK23 => ?_)
        refine .region ?_
        refine .m rfl rfl rfl (.assign rfl) ?_
        refine .nil ?_
        refine hK23 _ _ ?_
        refine .ret ?_
        -- leaf e5
        refine hret _ _ ?_
        refine ⟨_, rfl, ?_⟩
        first
        | exact rfl
        | exact absurd trivial (by assumption)
        | contradiction
        | (exfalso; omega)
       ·
        try simp only [sps] at h66
        refine .skip ?_
        refine hK20 _ _ ?_
        refine .seq (fun K24 hK24 => ?_)
        refine .seq (fun K25 hK25 => ?_)
        refine .regionD mixed_orders_B (.q 0 (.q 1 (.c 2 1 (.c 3 0 (.q 4 (.done)))))) (by kernel_rfl) ?_
        refine .m rfl rfl rfl rfl (.refl _) (.loadM ag_39_VSFun rfl ⟨rfl, Mem.of_get at12003⟩) ?_
        refine .m rfl rfl rfl rfl (.refl _) (.loadM ag_27_LJoinParts rfl ⟨rfl, Mem.of_get at3⟩) ?_
        refine .call1 rfl rfl rfl rfl rfl @Try.call20 rfl (toSetFunctor_c) ?_
        rintro _ H69 ⟨le69, p69, rfl, v69⟩
        have hbl := le69
        refine ⟨hbl, ?_⟩
        have nx_H69 := le69.1
        replace hle := hle.trans le69
        replace at3 := le69.2 _ _ at3
        replace at4 := le69.2 _ _ at4
        replace at5 := le69.2 _ _ at5
        replace at8x6 := le69.2 _ _ at8x6
        replace at12003 := le69.2 _ _ at12003
        replace at13003 := le69.2 _ _ at13003
        replace at14003 := le69.2 _ _ at14003
        replace at15008 := le69.2 _ _ at15008
        replace lv_v8x6 := Keep.le lv_v8x6 le69
        replace v8x6 := bs_v8x6.keep lv_v8x6 (Nat.le_refl _)
        replace lv_v46 := Keep.le lv_v46 le69
        replace v46 := bs_v46.keep lv_v46 (Nat.le_refl _)
        replace lv_v48 := Keep.le lv_v48 le69
        replace v48 := bs_v48.keep lv_v48 (Nat.le_refl _)
        replace lv_v50 := Keep.le lv_v50 le69
        replace v50 := bs_v50.keep lv_v50 (Nat.le_refl _)
        replace lv_v55 := Keep.le lv_v55 le69
        replace v55 := bs_v55.keep lv_v55 (Nat.le_refl _)
        have bs_v69 := v69
        have lv_v69 : Keep H15008.next H69 H69 := fun _ _ _ h => h
        replace h0 := base_h0.mono hle
        replace h1 := base_h1.mono hle
        replace h2 := base_h2.mono hle
        clear hb3 fsh3 c53 c63 i13 i23 hm3 hi3 hmsh3 hish3
        have hb3 : SFun.At _ g3 0 f p := ⟨Mem.of_get at3, h0⟩
        obtain ⟨fsh3, c53, c63, i13, i23⟩ := hb3.get
        have hm3 : MemN _ _ _ _ _ := ⟨rfl, hb3.1⟩
        have hi3 := hb3.2
        have hmsh3 : MemN _ _ _ _ _ := ⟨rfl, fsh3.1⟩
        have hish3 := fsh3.2
        clear hb4 c04 i04 hm4 hi4
        have hb4 : Prt.At _ g4 0 m q := ⟨Mem.of_get at4, h1⟩
        obtain ⟨c04, i04⟩ := hb4.get
        have hm4 : MemN _ _ _ _ _ := ⟨rfl, hb4.1⟩
        have hi4 := hb4.2
        clear hb5 c05 i05 hm5 hi5
        have hb5 : Prt.At _ g5 0 m' q' := ⟨Mem.of_get at5, h2⟩
        obtain ⟨c05, i05⟩ := hb5.get
        have hm5 : MemN _ _ _ _ _ := ⟨rfl, hb5.1⟩
        have hi5 := hb5.2
        clear i8x6
        have i8x6 := v8x6.inn
        clear mm8x6
        have mm8x6 : MemN _ _ _ _ _ := ⟨rfl, Mem.of_get at8x6⟩
        clear i46
        have i46 := v46.inn
        clear mm12003
        have mm12003 : MemN _ _ _ _ _ := ⟨rfl, Mem.of_get at12003⟩
        clear i48
        have i48 := v48.inn
        clear mm13003
        have mm13003 : MemN _ _ _ _ _ := ⟨rfl, Mem.of_get at13003⟩
        clear i50
        have i50 := v50.inn
        clear mm14003
        have mm14003 : MemN _ _ _ _ _ := ⟨rfl, Mem.of_get at14003⟩
        clear i55
        have i55 := v55.inn
        clear mm15008
        have mm15008 : MemN _ _ _ _ _ := ⟨rfl, Mem.of_get at15008⟩
        have i69 := v69.inn
        refine .callQ0 rfl rfl rfl rfl rfl @Try.call22 rfl (eqSetFunctor_c) ?_
        refine .m rfl rfl rfl rfl (.refl _) (.not rfl) ?_
        refine .done ?_
        refine hK25 _ _ ?_
        refine .cond rfl (fun h71 => ?_) (fun h71 => ?_)
        ·
         try simp only [sps] at h71
         refine .seq (fun K26 hK26 => ?_)
         refine .region ?_
         refine .m rfl rfl rfl (.assign rfl) ?_
         refine .nil ?_
         refine hK26 _ _ ?_
         refine .ret ?_
         -- leaf e6
         refine hret _ _ ?_
         refine ⟨_, rfl, ?_⟩
         first
         | exact rfl
         | exact absurd trivial (by assumption)
         | contradiction
         | (exfalso; omega)
        ·
         try simp only [sps] at h71
         refine .skip ?_
         refine hK24 _ _ ?_
         refine .seq (fun K27 hK27 => ?_)
         refine .seq (fun K28 hK28 => ?_)
         refine .regionD mixed_orders_B (.q 0 (.q 1 (.c 2 1 (.c 3 0 (.q 4 (.done)))))) (by kernel_rfl) ?_
         refine .m rfl rfl rfl rfl (.refl _) (.loadM ag_34_VPrt rfl ⟨rfl, Mem.of_get at13003⟩) ?_
         refine .m rfl rfl rfl rfl (.refl _) (.loadM ag_31_LJoinParts rfl ⟨rfl, Mem.of_get at4⟩) ?_
         refine .call1 rfl rfl rfl rfl rfl @Try.call11 rfl (toPart_c) ?_
         rintro _ H74 ⟨le74, p74, rfl, v74⟩
         have hbl := le74
         refine ⟨hbl, ?_⟩
         have nx_H74 := le74.1
         replace hle := hle.trans le74
         replace at3 := le74.2 _ _ at3
         replace at4 := le74.2 _ _ at4
         replace at5 := le74.2 _ _ at5
         replace at8x6 := le74.2 _ _ at8x6
         replace at12003 := le74.2 _ _ at12003
         replace at13003 := le74.2 _ _ at13003
         replace at14003 := le74.2 _ _ at14003
         replace at15008 := le74.2 _ _ at15008
         replace lv_v8x6 := Keep.le lv_v8x6 le74
         replace v8x6 := bs_v8x6.keep lv_v8x6 (Nat.le_refl _)
         replace lv_v46 := Keep.le lv_v46 le74
         replace v46 := bs_v46.keep lv_v46 (Nat.le_refl _)
         replace lv_v48 := Keep.le lv_v48 le74
         replace v48 := bs_v48.keep lv_v48 (Nat.le_refl _)
         replace lv_v50 := Keep.le lv_v50 le74
         replace v50 := bs_v50.keep lv_v50 (Nat.le_refl _)
         replace lv_v55 := Keep.le lv_v55 le74
         replace v55 := bs_v55.keep lv_v55 (Nat.le_refl _)
         replace lv_v69 := Keep.le lv_v69 le74
         replace v69 := bs_v69.keep lv_v69 (Nat.le_refl _)
         have bs_v74 := v74
         have lv_v74 : Keep H69.next H74 H74 := fun _ _ _ h => h
         replace h0 := base_h0.mono hle
         replace h1 := base_h1.mono hle
         replace h2 := base_h2.mono hle
         clear hb3 fsh3 c53 c63 i13 i23 hm3 hi3 hmsh3 hish3
         have hb3 : SFun.At _ g3 0 f p := ⟨Mem.of_get at3, h0⟩
         obtain ⟨fsh3, c53, c63, i13, i23⟩ := hb3.get
         have hm3 : MemN _ _ _ _ _ := ⟨rfl, hb3.1⟩
         have hi3 := hb3.2
         have hmsh3 : MemN _ _ _ _ _ := ⟨rfl, fsh3.1⟩
         have hish3 := fsh3.2
         clear hb4 c04 i04 hm4 hi4
         have hb4 : Prt.At _ g4 0 m q := ⟨Mem.of_get at4, h1⟩
         obtain ⟨c04, i04⟩ := hb4.get
         have hm4 : MemN _ _ _ _ _ := ⟨rfl, hb4.1⟩
         have hi4 := hb4.2
         clear hb5 c05 i05 hm5 hi5
         have hb5 : Prt.At _ g5 0 m' q' := ⟨Mem.of_get at5, h2⟩
         obtain ⟨c05, i05⟩ := hb5.get
         have hm5 : MemN _ _ _ _ _ := ⟨rfl, hb5.1⟩
         have hi5 := hb5.2
         clear i8x6
         have i8x6 := v8x6.inn
         clear mm8x6
         have mm8x6 : MemN _ _ _ _ _ := ⟨rfl, Mem.of_get at8x6⟩
         clear i46
         have i46 := v46.inn
         clear mm12003
         have mm12003 : MemN _ _ _ _ _ := ⟨rfl, Mem.of_get at12003⟩
         clear i48
         have i48 := v48.inn
         clear mm13003
         have mm13003 : MemN _ _ _ _ _ := ⟨rfl, Mem.of_get at13003⟩
         clear i50
         have i50 := v50.inn
         clear mm14003
         have mm14003 : MemN _ _ _ _ _ := ⟨rfl, Mem.of_get at14003⟩
         clear i55
         have i55 := v55.inn
         clear mm15008
         have mm15008 : MemN _ _ _ _ _ := ⟨rfl, Mem.of_get at15008⟩
         clear i69
         have i69 := v69.inn
         have i74 := v74.inn
         refine .callQ0 rfl rfl rfl rfl rfl @Try.call13 rfl (eqPart_c) ?_
         refine .m rfl rfl rfl rfl (.refl _) (.not rfl) ?_
         refine .done ?_
         refine hK28 _ _ ?_
         refine .cond rfl (fun h76 => ?_) (fun h76 => ?_)
         ·
          try simp only [sps] at h76
          refine .seq (fun K29 hK29 => ?_)
          refine .region ?_
          refine .m rfl rfl rfl (.assign rfl) ?_
          refine .nil ?_
          refine hK29 _ _ ?_
          refine .ret ?_
          -- leaf e7
          refine hret _ _ ?_
          refine ⟨_, rfl, ?_⟩
          first
          | exact rfl
          | exact absurd trivial (by assumption)
          | contradiction
          | (exfalso; omega)
         ·
          try simp only [sps] at h76
          refine .skip ?_
          refine hK27 _ _ ?_
          refine .seq (fun K30 hK30 => ?_)
          refine .seq (fun K31 hK31 => ?_)
          refine .regionD mixed_orders_B (.q 0 (.q 1 (.c 2 1 (.c 3 0 (.q 4 (.done)))))) (by kernel_rfl) ?_
          refine .m rfl rfl rfl rfl (.refl _) (.loadM ag_34_VPrt rfl ⟨rfl, Mem.of_get at14003⟩) ?_
          refine .m rfl rfl rfl rfl (.refl _) (.loadM ag_31_LJoinParts rfl ⟨rfl, Mem.of_get at5⟩) ?_
          refine .call1 rfl rfl rfl rfl rfl @Try.call11 rfl (toPart_c) ?_
          rintro _ H79 ⟨le79, p79, rfl, v79⟩
          have hbl := le79
          refine ⟨hbl, ?_⟩
          have nx_H79 := le79.1
          replace hle := hle.trans le79
          replace at3 := le79.2 _ _ at3
          replace at4 := le79.2 _ _ at4
          replace at5 := le79.2 _ _ at5
          replace at8x6 := le79.2 _ _ at8x6
          replace at12003 := le79.2 _ _ at12003
          replace at13003 := le79.2 _ _ at13003
          replace at14003 := le79.2 _ _ at14003
          replace at15008 := le79.2 _ _ at15008
          replace lv_v8x6 := Keep.le lv_v8x6 le79
          replace v8x6 := bs_v8x6.keep lv_v8x6 (Nat.le_refl _)
          replace lv_v46 := Keep.le lv_v46 le79
          replace v46 := bs_v46.keep lv_v46 (Nat.le_refl _)
          replace lv_v48 := Keep.le lv_v48 le79
          replace v48 := bs_v48.keep lv_v48 (Nat.le_refl _)
          replace lv_v50 := Keep.le lv_v50 le79
          replace v50 := bs_v50.keep lv_v50 (Nat.le_refl _)
          replace lv_v55 := Keep.le lv_v55 le79
          replace v55 := bs_v55.keep lv_v55 (Nat.le_refl _)
          replace lv_v69 := Keep.le lv_v69 le79
          replace v69 := bs_v69.keep lv_v69 (Nat.le_refl _)
          replace lv_v74 := Keep.le lv_v74 le79
          replace v74 := bs_v74.keep lv_v74 (Nat.le_refl _)
          have bs_v79 := v79
          have lv_v79 : Keep H74.next H79 H79 := fun _ _ _ h => h
          replace h0 := base_h0.mono hle
          replace h1 := base_h1.mono hle
          replace h2 := base_h2.mono hle
          clear hb3 fsh3 c53 c63 i13 i23 hm3 hi3 hmsh3 hish3
          have hb3 : SFun.At _ g3 0 f p := ⟨Mem.of_get at3, h0⟩
          obtain ⟨fsh3, c53, c63, i13, i23⟩ := hb3.get
          have hm3 : MemN _ _ _ _ _ := ⟨rfl, hb3.1⟩
          have hi3 := hb3.2
          have hmsh3 : MemN _ _ _ _ _ := ⟨rfl, fsh3.1⟩
          have hish3 := fsh3.2
          clear hb4 c04 i04 hm4 hi4
          have hb4 : Prt.At _ g4 0 m q := ⟨Mem.of_get at4, h1⟩
          obtain ⟨c04, i04⟩ := hb4.get
          have hm4 : MemN _ _ _ _ _ := ⟨rfl, hb4.1⟩
          have hi4 := hb4.2
          clear hb5 c05 i05 hm5 hi5
          have hb5 : Prt.At _ g5 0 m' q' := ⟨Mem.of_get at5, h2⟩
          obtain ⟨c05, i05⟩ := hb5.get
          have hm5 : MemN _ _ _ _ _ := ⟨rfl, hb5.1⟩
          have hi5 := hb5.2
          clear i8x6
          have i8x6 := v8x6.inn
          clear mm8x6
          have mm8x6 : MemN _ _ _ _ _ := ⟨rfl, Mem.of_get at8x6⟩
          clear i46
          have i46 := v46.inn
          clear mm12003
          have mm12003 : MemN _ _ _ _ _ := ⟨rfl, Mem.of_get at12003⟩
          clear i48
          have i48 := v48.inn
          clear mm13003
          have mm13003 : MemN _ _ _ _ _ := ⟨rfl, Mem.of_get at13003⟩
          clear i50
          have i50 := v50.inn
          clear mm14003
          have mm14003 : MemN _ _ _ _ _ := ⟨rfl, Mem.of_get at14003⟩
          clear i55
          have i55 := v55.inn
          clear mm15008
          have mm15008 : MemN _ _ _ _ _ := ⟨rfl, Mem.of_get at15008⟩
          clear i69
          have i69 := v69.inn
          clear i74
          have i74 := v74.inn
          have i79 := v79.inn
          refine .callQ0 rfl rfl rfl rfl rfl @Try.call13 rfl (eqPart_c) ?_
          refine .m rfl rfl rfl rfl (.refl _) (.not rfl) ?_
          refine .done ?_
          refine hK31 _ _ ?_
          refine .cond rfl (fun h81 => ?_) (fun h81 => ?_)
          ·
           try simp only [sps] at h81
           refine .seq (fun K32 hK32 => ?_)
           refine .region ?_
           refine .m rfl rfl rfl (.assign rfl) ?_
           refine .nil ?_
           refine hK32 _ _ ?_
           refine .ret ?_
           -- leaf e8
           refine hret _ _ ?_
           refine ⟨_, rfl, ?_⟩
           first
           | exact rfl
           | exact absurd trivial (by assumption)
           | contradiction
           | (exfalso; omega)
          ·
           try simp only [sps] at h81
           refine .skip ?_
           refine hK30 _ _ ?_
           refine .seq (fun K33 hK33 => ?_)
           refine .region ?_
           refine .m rfl rfl rfl (.assign rfl) ?_
           refine .nil ?_
           refine hK33 _ _ ?_
           refine .seq (fun K34 hK34 => ?_)
           refine .region ?_
           refine .m rfl rfl rfl (.loadM ag_39_VSFun rfl ⟨rfl, Mem.of_get at12003⟩) ?_
           refine .m rfl rfl rfl (.move rfl) ?_
           have w_v46 := SFunW.of_at bs_v46 lv_v46
           refine .call rfl rfl rfl rfl @Try.call23 rfl (markSetFunctor_c) ?_
           rintro _ H84 ⟨rfl, mk84⟩
           have sm84 := mk84.stm
           have nx_H84 := sm84.nx
           replace hle := StM.le_left hle sm84 (by omega)
           replace at3 := sm84.same _ _ (by omega) at3
           replace at4 := sm84.same _ _ (by omega) at4
           replace at5 := sm84.same _ _ (by omega) at5
           replace at8x6 := sm84.same _ _ (by omega) at8x6
           replace at12003 := sm84.same _ _ (by omega) at12003
           replace at13003 := sm84.same _ _ (by omega) at13003
           replace at14003 := sm84.same _ _ (by omega) at14003
           replace at15008 := sm84.same _ _ (by omega) at15008
           replace lv_v8x6 := Keep.stM lv_v8x6 sm84 (fun k hb hk => by omega)
           replace v8x6 := bs_v8x6.keep lv_v8x6 (Nat.le_refl _)
           replace lv_v48 := Keep.stM lv_v48 sm84 (fun k hb hk => by omega)
           replace v48 := bs_v48.keep lv_v48 (Nat.le_refl _)
           replace lv_v50 := Keep.stM lv_v50 sm84 (fun k hb hk => by omega)
           replace v50 := bs_v50.keep lv_v50 (Nat.le_refl _)
           replace lv_v55 := Keep.stM lv_v55 sm84 (fun k hb hk => by omega)
           replace v55 := bs_v55.keep lv_v55 (Nat.le_refl _)
           replace lv_v69 := Keep.stM lv_v69 sm84 (fun k hb hk => by omega)
           replace v69 := bs_v69.keep lv_v69 (Nat.le_refl _)
           replace lv_v74 := Keep.stM lv_v74 sm84 (fun k hb hk => by omega)
           replace v74 := bs_v74.keep lv_v74 (Nat.le_refl _)
           replace lv_v79 := Keep.stM lv_v79 sm84 (fun k hb hk => by omega)
           replace v79 := bs_v79.keep lv_v79 (Nat.le_refl _)
           replace h0 := base_h0.mono hle
           replace h1 := base_h1.mono hle
           replace h2 := base_h2.mono hle
           clear hb3 fsh3 c53 c63 i13 i23 hm3 hi3 hmsh3 hish3
           have hb3 : SFun.At _ g3 0 f p := ⟨Mem.of_get at3, h0⟩
           obtain ⟨fsh3, c53, c63, i13, i23⟩ := hb3.get
           have hm3 : MemN _ _ _ _ _ := ⟨rfl, hb3.1⟩
           have hi3 := hb3.2
           have hmsh3 : MemN _ _ _ _ _ := ⟨rfl, fsh3.1⟩
           have hish3 := fsh3.2
           clear hb4 c04 i04 hm4 hi4
           have hb4 : Prt.At _ g4 0 m q := ⟨Mem.of_get at4, h1⟩
           obtain ⟨c04, i04⟩ := hb4.get
           have hm4 : MemN _ _ _ _ _ := ⟨rfl, hb4.1⟩
           have hi4 := hb4.2
           clear hb5 c05 i05 hm5 hi5
           have hb5 : Prt.At _ g5 0 m' q' := ⟨Mem.of_get at5, h2⟩
           obtain ⟨c05, i05⟩ := hb5.get
           have hm5 : MemN _ _ _ _ _ := ⟨rfl, hb5.1⟩
           have hi5 := hb5.2
           clear i8x6
           have i8x6 := v8x6.inn
           clear mm8x6
           have mm8x6 : MemN _ _ _ _ _ := ⟨rfl, Mem.of_get at8x6⟩
           clear mm12003
           have mm12003 : MemN _ _ _ _ _ := ⟨rfl, Mem.of_get at12003⟩
           clear i48
           have i48 := v48.inn
           clear mm13003
           have mm13003 : MemN _ _ _ _ _ := ⟨rfl, Mem.of_get at13003⟩
           clear i50
           have i50 := v50.inn
           clear mm14003
           have mm14003 : MemN _ _ _ _ _ := ⟨rfl, Mem.of_get at14003⟩
           clear i55
           have i55 := v55.inn
           clear mm15008
           have mm15008 : MemN _ _ _ _ _ := ⟨rfl, Mem.of_get at15008⟩
           clear i69
           have i69 := v69.inn
           clear i74
           have i74 := v74.inn
           clear i79
           have i79 := v79.inn
           refine .m rfl rfl rfl (.assign rfl) ?_
           refine .nil ?_
           refine hK34 _ _ ?_
           refine .seq (fun K35 hK35 => ?_)
           refine .region ?_
           refine .m rfl rfl rfl (.loadM ag_34_VPrt rfl ⟨rfl, Mem.of_get at13003⟩) ?_
           refine .m rfl rfl rfl (.move rfl) ?_
           have w_v48 := PrtW.of_at bs_v48 lv_v48
           refine .call rfl rfl rfl rfl @Try.call16 rfl (markPart_c) ?_
           rintro _ H87 ⟨rfl, mk87⟩
           have sm87 := mk87.stm
           have nx_H87 := sm87.nx
           replace hle := StM.le_left hle sm87 (by omega)
           replace at3 := sm87.same _ _ (by omega) at3
           replace at4 := sm87.same _ _ (by omega) at4
           replace at5 := sm87.same _ _ (by omega) at5
           replace at8x6 := sm87.same _ _ (by omega) at8x6
           replace at12003 := sm87.same _ _ (by omega) at12003
           replace at13003 := sm87.same _ _ (by omega) at13003
           replace at14003 := sm87.same _ _ (by omega) at14003
           replace at15008 := sm87.same _ _ (by omega) at15008
           replace lv_v8x6 := Keep.stM lv_v8x6 sm87 (fun k hb hk => by omega)
           replace v8x6 := bs_v8x6.keep lv_v8x6 (Nat.le_refl _)
           replace lv_v50 := Keep.stM lv_v50 sm87 (fun k hb hk => by omega)
           replace v50 := bs_v50.keep lv_v50 (Nat.le_refl _)
           replace lv_v55 := Keep.stM lv_v55 sm87 (fun k hb hk => by omega)
           replace v55 := bs_v55.keep lv_v55 (Nat.le_refl _)
           replace lv_v69 := Keep.stM lv_v69 sm87 (fun k hb hk => by omega)
           replace v69 := bs_v69.keep lv_v69 (Nat.le_refl _)
           replace lv_v74 := Keep.stM lv_v74 sm87 (fun k hb hk => by omega)
           replace v74 := bs_v74.keep lv_v74 (Nat.le_refl _)
           replace lv_v79 := Keep.stM lv_v79 sm87 (fun k hb hk => by omega)
           replace v79 := bs_v79.keep lv_v79 (Nat.le_refl _)
           replace h0 := base_h0.mono hle
           replace h1 := base_h1.mono hle
           replace h2 := base_h2.mono hle
           clear hb3 fsh3 c53 c63 i13 i23 hm3 hi3 hmsh3 hish3
           have hb3 : SFun.At _ g3 0 f p := ⟨Mem.of_get at3, h0⟩
           obtain ⟨fsh3, c53, c63, i13, i23⟩ := hb3.get
           have hm3 : MemN _ _ _ _ _ := ⟨rfl, hb3.1⟩
           have hi3 := hb3.2
           have hmsh3 : MemN _ _ _ _ _ := ⟨rfl, fsh3.1⟩
           have hish3 := fsh3.2
           clear hb4 c04 i04 hm4 hi4
           have hb4 : Prt.At _ g4 0 m q := ⟨Mem.of_get at4, h1⟩
           obtain ⟨c04, i04⟩ := hb4.get
           have hm4 : MemN _ _ _ _ _ := ⟨rfl, hb4.1⟩
           have hi4 := hb4.2
           clear hb5 c05 i05 hm5 hi5
           have hb5 : Prt.At _ g5 0 m' q' := ⟨Mem.of_get at5, h2⟩
           obtain ⟨c05, i05⟩ := hb5.get
           have hm5 : MemN _ _ _ _ _ := ⟨rfl, hb5.1⟩
           have hi5 := hb5.2
           clear i8x6
           have i8x6 := v8x6.inn
           clear mm8x6
           have mm8x6 : MemN _ _ _ _ _ := ⟨rfl, Mem.of_get at8x6⟩
           clear mm12003
           have mm12003 : MemN _ _ _ _ _ := ⟨rfl, Mem.of_get at12003⟩
           clear mm13003
           have mm13003 : MemN _ _ _ _ _ := ⟨rfl, Mem.of_get at13003⟩
           clear i50
           have i50 := v50.inn
           clear mm14003
           have mm14003 : MemN _ _ _ _ _ := ⟨rfl, Mem.of_get at14003⟩
           clear i55
           have i55 := v55.inn
           clear mm15008
           have mm15008 : MemN _ _ _ _ _ := ⟨rfl, Mem.of_get at15008⟩
           clear i69
           have i69 := v69.inn
           clear i74
           have i74 := v74.inn
           clear i79
           have i79 := v79.inn
           refine .m rfl rfl rfl (.assign rfl) ?_
           refine .nil ?_
           refine hK35 _ _ ?_
           refine .seq (fun K36 hK36 => ?_)
           refine .region ?_
           refine .m rfl rfl rfl (.loadM ag_34_VPrt rfl ⟨rfl, Mem.of_get at14003⟩) ?_
           refine .m rfl rfl rfl (.move rfl) ?_
           have w_v50 := PrtW.of_at bs_v50 lv_v50
           refine .call rfl rfl rfl rfl @Try.call16 rfl (markPart_c) ?_
           rintro _ H90 ⟨rfl, mk90⟩
           have sm90 := mk90.stm
           have nx_H90 := sm90.nx
           replace hle := StM.le_left hle sm90 (by omega)
           replace at3 := sm90.same _ _ (by omega) at3
           replace at4 := sm90.same _ _ (by omega) at4
           replace at5 := sm90.same _ _ (by omega) at5
           replace at8x6 := sm90.same _ _ (by omega) at8x6
           replace at12003 := sm90.same _ _ (by omega) at12003
           replace at13003 := sm90.same _ _ (by omega) at13003
           replace at14003 := sm90.same _ _ (by omega) at14003
           replace at15008 := sm90.same _ _ (by omega) at15008
           replace lv_v8x6 := Keep.stM lv_v8x6 sm90 (fun k hb hk => by omega)
           replace v8x6 := bs_v8x6.keep lv_v8x6 (Nat.le_refl _)
           replace lv_v55 := Keep.stM lv_v55 sm90 (fun k hb hk => by omega)
           replace v55 := bs_v55.keep lv_v55 (Nat.le_refl _)
           replace lv_v69 := Keep.stM lv_v69 sm90 (fun k hb hk => by omega)
           replace v69 := bs_v69.keep lv_v69 (Nat.le_refl _)
           replace lv_v74 := Keep.stM lv_v74 sm90 (fun k hb hk => by omega)
           replace v74 := bs_v74.keep lv_v74 (Nat.le_refl _)
           replace lv_v79 := Keep.stM lv_v79 sm90 (fun k hb hk => by omega)
           replace v79 := bs_v79.keep lv_v79 (Nat.le_refl _)
           replace h0 := base_h0.mono hle
           replace h1 := base_h1.mono hle
           replace h2 := base_h2.mono hle
           clear hb3 fsh3 c53 c63 i13 i23 hm3 hi3 hmsh3 hish3
           have hb3 : SFun.At _ g3 0 f p := ⟨Mem.of_get at3, h0⟩
           obtain ⟨fsh3, c53, c63, i13, i23⟩ := hb3.get
           have hm3 : MemN _ _ _ _ _ := ⟨rfl, hb3.1⟩
           have hi3 := hb3.2
           have hmsh3 : MemN _ _ _ _ _ := ⟨rfl, fsh3.1⟩
           have hish3 := fsh3.2
           clear hb4 c04 i04 hm4 hi4
           have hb4 : Prt.At _ g4 0 m q := ⟨Mem.of_get at4, h1⟩
           obtain ⟨c04, i04⟩ := hb4.get
           have hm4 : MemN _ _ _ _ _ := ⟨rfl, hb4.1⟩
           have hi4 := hb4.2
           clear hb5 c05 i05 hm5 hi5
           have hb5 : Prt.At _ g5 0 m' q' := ⟨Mem.of_get at5, h2⟩
           obtain ⟨c05, i05⟩ := hb5.get
           have hm5 : MemN _ _ _ _ _ := ⟨rfl, hb5.1⟩
           have hi5 := hb5.2
           clear i8x6
           have i8x6 := v8x6.inn
           clear mm8x6
           have mm8x6 : MemN _ _ _ _ _ := ⟨rfl, Mem.of_get at8x6⟩
           clear mm12003
           have mm12003 : MemN _ _ _ _ _ := ⟨rfl, Mem.of_get at12003⟩
           clear mm13003
           have mm13003 : MemN _ _ _ _ _ := ⟨rfl, Mem.of_get at13003⟩
           clear mm14003
           have mm14003 : MemN _ _ _ _ _ := ⟨rfl, Mem.of_get at14003⟩
           clear i55
           have i55 := v55.inn
           clear mm15008
           have mm15008 : MemN _ _ _ _ _ := ⟨rfl, Mem.of_get at15008⟩
           clear i69
           have i69 := v69.inn
           clear i74
           have i74 := v74.inn
           clear i79
           have i79 := v79.inn
           refine .m rfl rfl rfl (.assign rfl) ?_
           refine .nil ?_
           refine hK36 _ _ ?_
           refine .seq (fun K37 hK37 => ?_)
           refine .seq (fun K38 hK38 => ?_)
           refine .region ?_
           refine .m rfl rfl rfl (.move rfl) ?_
           refine .m rfl rfl rfl (.cmp rfl rfl rfl) ?_
           refine .m rfl rfl rfl (.move rfl) ?_
           refine .split (fun h93 => ?_) (fun h93 => ?_)
           ·
            try simp only [sps] at h93
            refine .sg rfl rfl rfl rfl rfl ?_
            refine .sg rfl rfl rfl rfl rfl ?_
            refine .sg rfl rfl rfl rfl rfl ?_
            refine .sg rfl rfl rfl rfl rfl ?_
            refine .m rfl rfl rfl (.pickT rfl rfl) ?_
            refine .m rfl rfl rfl (.move rfl) ?_
            refine .sg rfl rfl rfl rfl rfl ?_
            refine .sg rfl rfl rfl rfl rfl ?_
            refine .sg rfl rfl rfl rfl rfl ?_
            refine .m rfl rfl rfl (.pickT rfl rfl) ?_
            refine .nil ?_
            refine hK38 _ _ ?_
            refine .condT rfl ?_
            refine .seq (fun K39 hK39 => ?_)
            refine .region ?_
            refine .m rfl rfl rfl (.assign rfl) ?_
            refine .nil ?_
            refine hK39 _ _ ?_
            refine .ret ?_
            -- leaf e9
            refine hret _ _ ?_
            refine ⟨_, rfl, ?_⟩
            first
            | exact rfl
            | exact absurd trivial (by assumption)
            | contradiction
            | (exfalso; omega)
           ·
            try simp only [sps] at h93
            refine .mg rfl rfl rfl rfl rfl (.loadM ag_34_VPrt rfl ⟨rfl, Mem.of_get at15008⟩) ?_
            refine .mg rfl rfl rfl rfl rfl (.loadM ag_34_VPrt rfl ⟨rfl, Mem.of_get at8x6⟩) ?_
            refine .callQg rfl rfl rfl rfl rfl rfl @Try.call13 rfl (eqPart_c) ?_
            refine .mg rfl rfl rfl rfl rfl (.not rfl) ?_
            refine .m rfl rfl rfl (.pickF rfl rfl) ?_
            refine .m rfl rfl rfl (.move rfl) ?_
            refine .split (fun h99 => ?_) (fun h99 => ?_)
            ·
             try simp only [sps] at h99
             refine .sg rfl rfl rfl rfl rfl ?_
             refine .sg rfl rfl rfl rfl rfl ?_
             refine .sg rfl rfl rfl rfl rfl ?_
             refine .m rfl rfl rfl (.pickT rfl rfl) ?_
             refine .nil ?_
             refine hK38 _ _ ?_
             refine .condT rfl ?_
             refine .seq (fun K40 hK40 => ?_)
             refine .region ?_
             refine .m rfl rfl rfl (.assign rfl) ?_
             refine .nil ?_
             refine hK40 _ _ ?_
             refine .ret ?_
             -- leaf e10
             refine hret _ _ ?_
             refine ⟨_, rfl, ?_⟩
             first
             | exact rfl
             | exact absurd trivial (by assumption)
             | contradiction
             | (exfalso; omega)
            ·
             try simp only [sps] at h99
             refine .mg rfl rfl rfl rfl rfl (.move rfl) ?_
             refine .mg rfl rfl rfl rfl rfl (.move rfl) ?_
             refine .mg rfl rfl rfl rfl rfl (.cmp rfl rfl rfl) ?_
             refine .m rfl rfl rfl (.pickF rfl rfl) ?_
             refine .nil ?_
             refine hK38 _ _ ?_
             refine .cond rfl (fun h103 => ?_) (fun h103 => ?_)
             ·
              try simp only [sps] at h103
              refine .seq (fun K41 hK41 => ?_)
              refine .region ?_
              refine .m rfl rfl rfl (.assign rfl) ?_
              refine .nil ?_
              refine hK41 _ _ ?_
              refine .ret ?_
              -- leaf e11
              refine hret _ _ ?_
              refine ⟨_, rfl, ?_⟩
              first
              | exact rfl
              | exact absurd trivial (by assumption)
              | contradiction
              | (exfalso; omega)
             ·
              try simp only [sps] at h103
              refine .skip ?_
              refine hK37 _ _ ?_
              refine .seq (fun K42 hK42 => ?_)
              refine .region ?_
              refine .m rfl rfl rfl (.assign rfl) ?_
              refine .nil ?_
              refine hK42 _ _ ?_
              refine .seq (fun K43 hK43 => ?_)
              refine .region ?_
              refine .m rfl rfl rfl (.loadM ag_34_VPrt rfl ⟨rfl, Mem.of_get at15008⟩) ?_
              refine .m rfl rfl rfl (.move rfl) ?_
              have w_v55 := PrtW.of_r bs_v55 lv_v55
              refine .call rfl rfl rfl rfl @Try.call16 rfl (markPart_c) ?_
              rintro _ H106 ⟨rfl, mk106⟩
              have sm106 := mk106.stm
              have nx_H106 := sm106.nx
              replace hle := StM.le_left hle sm106 (by omega)
              replace at3 := sm106.same _ _ (by omega) at3
              replace at4 := sm106.same _ _ (by omega) at4
              replace at5 := sm106.same _ _ (by omega) at5
              replace at8x6 := sm106.same _ _ (by omega) at8x6
              replace at12003 := sm106.same _ _ (by omega) at12003
              replace at13003 := sm106.same _ _ (by omega) at13003
              replace at14003 := sm106.same _ _ (by omega) at14003
              replace at15008 := sm106.same _ _ (by omega) at15008
              replace lv_v8x6 := Keep.stM lv_v8x6 sm106 (fun k hb hk => by omega)
              replace v8x6 := bs_v8x6.keep lv_v8x6 (Nat.le_refl _)
              replace lv_v69 := Keep.stM lv_v69 sm106 (fun k hb hk => by omega)
              replace v69 := bs_v69.keep lv_v69 (Nat.le_refl _)
              replace lv_v74 := Keep.stM lv_v74 sm106 (fun k hb hk => by omega)
              replace v74 := bs_v74.keep lv_v74 (Nat.le_refl _)
              replace lv_v79 := Keep.stM lv_v79 sm106 (fun k hb hk => by omega)
              replace v79 := bs_v79.keep lv_v79 (Nat.le_refl _)
              replace h0 := base_h0.mono hle
              replace h1 := base_h1.mono hle
              replace h2 := base_h2.mono hle
              clear hb3 fsh3 c53 c63 i13 i23 hm3 hi3 hmsh3 hish3
              have hb3 : SFun.At _ g3 0 f p := ⟨Mem.of_get at3, h0⟩
              obtain ⟨fsh3, c53, c63, i13, i23⟩ := hb3.get
              have hm3 : MemN _ _ _ _ _ := ⟨rfl, hb3.1⟩
              have hi3 := hb3.2
              have hmsh3 : MemN _ _ _ _ _ := ⟨rfl, fsh3.1⟩
              have hish3 := fsh3.2
              clear hb4 c04 i04 hm4 hi4
              have hb4 : Prt.At _ g4 0 m q := ⟨Mem.of_get at4, h1⟩
              obtain ⟨c04, i04⟩ := hb4.get
              have hm4 : MemN _ _ _ _ _ := ⟨rfl, hb4.1⟩
              have hi4 := hb4.2
              clear hb5 c05 i05 hm5 hi5
              have hb5 : Prt.At _ g5 0 m' q' := ⟨Mem.of_get at5, h2⟩
              obtain ⟨c05, i05⟩ := hb5.get
              have hm5 : MemN _ _ _ _ _ := ⟨rfl, hb5.1⟩
              have hi5 := hb5.2
              clear i8x6
              have i8x6 := v8x6.inn
              clear mm8x6
              have mm8x6 : MemN _ _ _ _ _ := ⟨rfl, Mem.of_get at8x6⟩
              clear mm12003
              have mm12003 : MemN _ _ _ _ _ := ⟨rfl, Mem.of_get at12003⟩
              clear mm13003
              have mm13003 : MemN _ _ _ _ _ := ⟨rfl, Mem.of_get at13003⟩
              clear mm14003
              have mm14003 : MemN _ _ _ _ _ := ⟨rfl, Mem.of_get at14003⟩
              clear mm15008
              have mm15008 : MemN _ _ _ _ _ := ⟨rfl, Mem.of_get at15008⟩
              clear i69
              have i69 := v69.inn
              clear i74
              have i74 := v74.inn
              clear i79
              have i79 := v79.inn
              have hd106 := mk106.held (v55.nodup)
              have wd106 := w_v55.stm sm106
              have bs_hd106 := hd106
              have lv_hd106 : Keep H14003.next H106 H106 := fun _ _ _ h => h
              have bs_wd106 := wd106
              have lv_wd106 : Keep H14003.next H106 H106 := fun _ _ _ h => h
              refine .m rfl rfl rfl (.assign rfl) ?_
              refine .nil ?_
              refine hK43 _ _ ?_
              refine .seq (fun K44 hK44 => ?_)
              refine .region ?_
              refine .m rfl rfl rfl (.assign rfl) ?_
              refine .nil ?_
              refine hK44 _ _ ?_
              refine .seq (fun K45 hK45 => ?_)
              refine .region ?_
              refine .m rfl rfl rfl (.loadM ag_34_VPrt rfl ⟨rfl, Mem.of_get at15008⟩) ?_
              refine .m rfl rfl rfl (.move rfl) ?_
              refine .callQ rfl rfl rfl rfl @Try.call17 rfl (heldPart_c) ?_
              refine .m rfl rfl rfl (.assign rfl) ?_
              refine .nil ?_
              refine hK45 _ _ ?_
              refine .seq (fun K46 hK46 => ?_)
              refine .seq (fun K47 hK47 => ?_)
              refine .region ?_
              refine .m rfl rfl rfl (.move rfl) ?_
              refine .m rfl rfl rfl (.cmp rfl rfl rfl) ?_
              refine .nil ?_
              refine hK47 _ _ ?_
              refine .cond rfl (fun h111 => ?_) (fun h111 => ?_)
              ·
               try simp only [sps] at h111
               refine .seq (fun K48 hK48 => ?_)
               refine .region ?_
               refine .m rfl rfl rfl (.assign rfl) ?_
               refine .nil ?_
               refine hK48 _ _ ?_
               refine .ret ?_
               -- leaf e12
               refine hret _ _ ?_
               refine ⟨_, rfl, ?_⟩
               first
               | exact rfl
               | exact absurd trivial (by assumption)
               | contradiction
               | (exfalso; omega)
              ·
               try simp only [sps] at h111
               refine .skip ?_
               refine hK46 _ _ ?_
               refine .seq (fun K49 hK49 => ?_)
               refine .seq (fun K50 hK50 => ?_)
               refine .region ?_
               refine .m rfl rfl rfl (.move rfl) ?_
               refine .m rfl rfl rfl (.move rfl) ?_
               refine .m rfl rfl rfl (.cmp rfl rfl rfl) ?_
               refine .nil ?_
               refine hK50 _ _ ?_
               refine .cond rfl (fun h114 => ?_) (fun h114 => ?_)
               ·
                try simp only [sps] at h114
                refine .seq (fun K51 hK51 => ?_)
                refine .region ?_
                refine .m rfl rfl rfl (.assign rfl) ?_
                refine .nil ?_
                refine hK51 _ _ ?_
                refine .ret ?_
                -- leaf e13
                refine hret _ _ ?_
                refine ⟨_, rfl, ?_⟩
                first
                | exact rfl
                | exact absurd trivial (by assumption)
                | contradiction
                | (exfalso; omega)
               ·
                try simp only [sps] at h114
                refine .skip ?_
                refine hK49 _ _ ?_
                refine .seq (fun K52 hK52 => ?_)
                refine .regionD mixed_orders_B (.q 0 (.q 2 (.q 4 (.or (.c 10 1 (.c 1 1 (.c 3 1 (.c 5 1 (.c 6 1 (.q 7 (.q 8 (.q 9 (.c 11 1 (.q 12 (.done))))))))))) (.c 1 1 (.or (.c 10 1 (.c 3 1 (.c 5 1 (.c 6 1 (.q 7 (.q 8 (.q 9 (.c 11 1 (.q 12 (.done)))))))))) (.c 3 1 (.or (.c 10 1 (.c 5 1 (.c 6 1 (.q 7 (.q 8 (.q 9 (.c 11 1 (.q 12 (.done))))))))) (.c 5 1 (.or (.c 10 1 (.c 6 1 (.q 7 (.q 8 (.q 9 (.c 11 1 (.q 12 (.done)))))))) (.c 6 1 (.q 7 (.q 8 (.q 9 (.c 10 1 (.c 11 1 (.q 12 (.done)))))))))))))))))) (by kernel_rfl) ?_
                refine .cut [(0, some _), (1, some _), (2, some _), (3, some _), (4, some _), (5, some _), (6, some _), (7, some _), (8, some _), (9, some _), (10, some _), (11, some _), (12, some _), (13, some _), (14, some _), (15, some _), (16, some _), (17, some _), (20, some _), (21, some _), (22, some _), (23, some _), (24, some _), (25, some _), (26, some _), (27, some _), (28, some _), (29, some _), (30, some _), (31, some _), (32, some _), (33, some _), (34, some _), (45, some _), (46, some _), (47, some _), (48, some _), (49, some _), (50, some _), (51, some _), (52, some _), (53, some _), (54, some _), (55, some _), (56, some _), (57, some _), (58, some _), (59, some _), (60, some _), (61, some _), (62, some _), (63, some _), (64, some _), (65, some _), (66, some _), (67, some _), (68, some _), (69, some _), (70, some _), (71, some _), (72, some _), (73, some _), (74, some _), (75, some _), (76, some _), (77, some _), (78, some _), (79, some _), (80, some _), (81, some _), (82, some _), (83, some _), (84, some _), (85, some _), (86, some _), (87, some _), (88, some _), (89, some _), (90, some _), (91, some _), (92, some _), (93, some _), (94, some _), (95, some _), (96, some _), (97, some _), (98, some _), (99, some _), (100, some _), (101, some _), (102, some _), (103, some _), (104, some _), (105, some _), (106, some _), (107, some _), (108, some _), (109, some _), (110, some _), (111, some _), (112, some _), (113, some _), (114, some _)] ⟨rfl, rfl, rfl, rfl, rfl, rfl, rfl, rfl, rfl, rfl, rfl, rfl, rfl, rfl, rfl, rfl, rfl, rfl, rfl, rfl, rfl, rfl, rfl, rfl, rfl, rfl, rfl, rfl, rfl, rfl, rfl, rfl, rfl, rfl, rfl, rfl, rfl, rfl, rfl, rfl, rfl, rfl, rfl, rfl, rfl, rfl, rfl, rfl, rfl, rfl, rfl, rfl, rfl, rfl, rfl, rfl, rfl, rfl, rfl, rfl, rfl, rfl, rfl, rfl, rfl, rfl, rfl, rfl, rfl, rfl, rfl, rfl, rfl, rfl, rfl, rfl, rfl, rfl, rfl, rfl, rfl, rfl, rfl, rfl, rfl, rfl, rfl, rfl, rfl, rfl, rfl, rfl, rfl, rfl, rfl, rfl, rfl, rfl, rfl, rfl, rfl, rfl, rfl, trivial⟩ (fun rest fr' H' => ∃ gf pf, Sub ((18, some (.pointer (some ⟨gf, 0, none⟩))) :: (19, some (.int .i64 (f.conC m.me m'.me))) :: rest) fr' ∧ H106.Le H' ∧ H106.next ≤ gf ∧ H'.get gf = some (.row ((f.con (· || ·) m.me m'.me).cells pf) 34 true) ∧ PrtR H106.next H' (f.con (· || ·) m.me m'.me) pf) ?_ ?_
                ·
                 have hf0 := GHeap.Le.refl H106
                 refine .m rfl rfl rfl rfl (.refl _) (.loadM ag_27_LJoinParts rfl ⟨rfl, Mem.of_get at3⟩) ?_
                 refine .m rfl rfl rfl rfl (.refl _) (.loadM ag_31_LJoinParts rfl ⟨rfl, Mem.of_get at4⟩) ?_
                 refine .m rfl rfl rfl rfl (.refl _) (.loadM ag_31_LJoinParts rfl ⟨rfl, Mem.of_get at5⟩) ?_
                 refine .orI ?_ ?_
                 ·
                  refine .c1 rfl rfl rfl rfl (.allocR rfl ze_34_VPrt rfl) ?_
                  rintro _ H18 ⟨g18, rfl, le18, ge18, at18⟩
                  have hbl := le18
                  refine ⟨hbl, ?_⟩
                  have nx_H18 := le18.1
                  replace hle := hle.trans le18
                  replace at3 := le18.2 _ _ at3
                  replace at4 := le18.2 _ _ at4
                  replace at5 := le18.2 _ _ at5
                  replace at8x6 := le18.2 _ _ at8x6
                  replace at12003 := le18.2 _ _ at12003
                  replace at13003 := le18.2 _ _ at13003
                  replace at14003 := le18.2 _ _ at14003
                  replace at15008 := le18.2 _ _ at15008
                  replace lv_v8x6 := Keep.le lv_v8x6 le18
                  replace v8x6 := bs_v8x6.keep lv_v8x6 (Nat.le_refl _)
                  replace lv_v69 := Keep.le lv_v69 le18
                  replace v69 := bs_v69.keep lv_v69 (Nat.le_refl _)
                  replace lv_v74 := Keep.le lv_v74 le18
                  replace v74 := bs_v74.keep lv_v74 (Nat.le_refl _)
                  replace lv_v79 := Keep.le lv_v79 le18
                  replace v79 := bs_v79.keep lv_v79 (Nat.le_refl _)
                  replace lv_hd106 := Keep.le lv_hd106 le18
                  replace hd106 := bs_hd106.keep lv_hd106 (Nat.le_refl _)
                  replace lv_wd106 := Keep.le lv_wd106 le18
                  replace wd106 := bs_wd106.keep lv_wd106 (Nat.le_refl _)
                  have lt_at18 := GHeap.lt_of_get at18
                  replace h0 := base_h0.mono hle
                  replace h1 := base_h1.mono hle
                  replace h2 := base_h2.mono hle
                  clear hb3 fsh3 c53 c63 i13 i23 hm3 hi3 hmsh3 hish3
                  have hb3 : SFun.At _ g3 0 f p := ⟨Mem.of_get at3, h0⟩
                  obtain ⟨fsh3, c53, c63, i13, i23⟩ := hb3.get
                  have hm3 : MemN _ _ _ _ _ := ⟨rfl, hb3.1⟩
                  have hi3 := hb3.2
                  have hmsh3 : MemN _ _ _ _ _ := ⟨rfl, fsh3.1⟩
                  have hish3 := fsh3.2
                  clear hb4 c04 i04 hm4 hi4
                  have hb4 : Prt.At _ g4 0 m q := ⟨Mem.of_get at4, h1⟩
                  obtain ⟨c04, i04⟩ := hb4.get
                  have hm4 : MemN _ _ _ _ _ := ⟨rfl, hb4.1⟩
                  have hi4 := hb4.2
                  clear hb5 c05 i05 hm5 hi5
                  have hb5 : Prt.At _ g5 0 m' q' := ⟨Mem.of_get at5, h2⟩
                  obtain ⟨c05, i05⟩ := hb5.get
                  have hm5 : MemN _ _ _ _ _ := ⟨rfl, hb5.1⟩
                  have hi5 := hb5.2
                  clear i8x6
                  have i8x6 := v8x6.inn
                  clear mm8x6
                  have mm8x6 : MemN _ _ _ _ _ := ⟨rfl, Mem.of_get at8x6⟩
                  clear mm12003
                  have mm12003 : MemN _ _ _ _ _ := ⟨rfl, Mem.of_get at12003⟩
                  clear mm13003
                  have mm13003 : MemN _ _ _ _ _ := ⟨rfl, Mem.of_get at13003⟩
                  clear mm14003
                  have mm14003 : MemN _ _ _ _ _ := ⟨rfl, Mem.of_get at14003⟩
                  clear mm15008
                  have mm15008 : MemN _ _ _ _ _ := ⟨rfl, Mem.of_get at15008⟩
                  clear i69
                  have i69 := v69.inn
                  clear i74
                  have i74 := v74.inn
                  clear i79
                  have i79 := v79.inn
                  replace hf0 := hf0.trans le18
                  refine .call1 rfl rfl rfl rfl rfl @Try.call20 rfl (toSetFunctor_c) ?_
                  rintro _ H117 ⟨le117, p117, rfl, v117⟩
                  replace hbl := hbl.trans le117
                  refine ⟨hbl, ?_⟩
                  have nx_H117 := le117.1
                  replace hle := hle.trans le117
                  replace at3 := le117.2 _ _ at3
                  replace at4 := le117.2 _ _ at4
                  replace at5 := le117.2 _ _ at5
                  replace at8x6 := le117.2 _ _ at8x6
                  replace at12003 := le117.2 _ _ at12003
                  replace at13003 := le117.2 _ _ at13003
                  replace at14003 := le117.2 _ _ at14003
                  replace at15008 := le117.2 _ _ at15008
                  replace at18 := le117.2 _ _ at18
                  replace lv_v8x6 := Keep.le lv_v8x6 le117
                  replace v8x6 := bs_v8x6.keep lv_v8x6 (Nat.le_refl _)
                  replace lv_v69 := Keep.le lv_v69 le117
                  replace v69 := bs_v69.keep lv_v69 (Nat.le_refl _)
                  replace lv_v74 := Keep.le lv_v74 le117
                  replace v74 := bs_v74.keep lv_v74 (Nat.le_refl _)
                  replace lv_v79 := Keep.le lv_v79 le117
                  replace v79 := bs_v79.keep lv_v79 (Nat.le_refl _)
                  replace lv_hd106 := Keep.le lv_hd106 le117
                  replace hd106 := bs_hd106.keep lv_hd106 (Nat.le_refl _)
                  replace lv_wd106 := Keep.le lv_wd106 le117
                  replace wd106 := bs_wd106.keep lv_wd106 (Nat.le_refl _)
                  have bs_v117 := v117
                  have lv_v117 : Keep H18.next H117 H117 := fun _ _ _ h => h
                  replace h0 := base_h0.mono hle
                  replace h1 := base_h1.mono hle
                  replace h2 := base_h2.mono hle
                  clear hb3 fsh3 c53 c63 i13 i23 hm3 hi3 hmsh3 hish3
                  have hb3 : SFun.At _ g3 0 f p := ⟨Mem.of_get at3, h0⟩
                  obtain ⟨fsh3, c53, c63, i13, i23⟩ := hb3.get
                  have hm3 : MemN _ _ _ _ _ := ⟨rfl, hb3.1⟩
                  have hi3 := hb3.2
                  have hmsh3 : MemN _ _ _ _ _ := ⟨rfl, fsh3.1⟩
                  have hish3 := fsh3.2
                  clear hb4 c04 i04 hm4 hi4
                  have hb4 : Prt.At _ g4 0 m q := ⟨Mem.of_get at4, h1⟩
                  obtain ⟨c04, i04⟩ := hb4.get
                  have hm4 : MemN _ _ _ _ _ := ⟨rfl, hb4.1⟩
                  have hi4 := hb4.2
                  clear hb5 c05 i05 hm5 hi5
                  have hb5 : Prt.At _ g5 0 m' q' := ⟨Mem.of_get at5, h2⟩
                  obtain ⟨c05, i05⟩ := hb5.get
                  have hm5 : MemN _ _ _ _ _ := ⟨rfl, hb5.1⟩
                  have hi5 := hb5.2
                  clear i8x6
                  have i8x6 := v8x6.inn
                  clear mm8x6
                  have mm8x6 : MemN _ _ _ _ _ := ⟨rfl, Mem.of_get at8x6⟩
                  clear mm12003
                  have mm12003 : MemN _ _ _ _ _ := ⟨rfl, Mem.of_get at12003⟩
                  clear mm13003
                  have mm13003 : MemN _ _ _ _ _ := ⟨rfl, Mem.of_get at13003⟩
                  clear mm14003
                  have mm14003 : MemN _ _ _ _ _ := ⟨rfl, Mem.of_get at14003⟩
                  clear mm15008
                  have mm15008 : MemN _ _ _ _ _ := ⟨rfl, Mem.of_get at15008⟩
                  clear i69
                  have i69 := v69.inn
                  clear i74
                  have i74 := v74.inn
                  clear i79
                  have i79 := v79.inn
                  have i117 := v117.inn
                  replace hf0 := hf0.trans le117
                  refine .call1 rfl rfl rfl rfl rfl @Try.call11 rfl (toPart_c) ?_
                  rintro _ H119 ⟨le119, p119, rfl, v119⟩
                  replace hbl := hbl.trans le119
                  refine ⟨hbl, ?_⟩
                  have nx_H119 := le119.1
                  replace hle := hle.trans le119
                  replace at3 := le119.2 _ _ at3
                  replace at4 := le119.2 _ _ at4
                  replace at5 := le119.2 _ _ at5
                  replace at8x6 := le119.2 _ _ at8x6
                  replace at12003 := le119.2 _ _ at12003
                  replace at13003 := le119.2 _ _ at13003
                  replace at14003 := le119.2 _ _ at14003
                  replace at15008 := le119.2 _ _ at15008
                  replace at18 := le119.2 _ _ at18
                  replace lv_v8x6 := Keep.le lv_v8x6 le119
                  replace v8x6 := bs_v8x6.keep lv_v8x6 (Nat.le_refl _)
                  replace lv_v69 := Keep.le lv_v69 le119
                  replace v69 := bs_v69.keep lv_v69 (Nat.le_refl _)
                  replace lv_v74 := Keep.le lv_v74 le119
                  replace v74 := bs_v74.keep lv_v74 (Nat.le_refl _)
                  replace lv_v79 := Keep.le lv_v79 le119
                  replace v79 := bs_v79.keep lv_v79 (Nat.le_refl _)
                  replace lv_hd106 := Keep.le lv_hd106 le119
                  replace hd106 := bs_hd106.keep lv_hd106 (Nat.le_refl _)
                  replace lv_wd106 := Keep.le lv_wd106 le119
                  replace wd106 := bs_wd106.keep lv_wd106 (Nat.le_refl _)
                  replace lv_v117 := Keep.le lv_v117 le119
                  replace v117 := bs_v117.keep lv_v117 (Nat.le_refl _)
                  have bs_v119 := v119
                  have lv_v119 : Keep H117.next H119 H119 := fun _ _ _ h => h
                  replace h0 := base_h0.mono hle
                  replace h1 := base_h1.mono hle
                  replace h2 := base_h2.mono hle
                  clear hb3 fsh3 c53 c63 i13 i23 hm3 hi3 hmsh3 hish3
                  have hb3 : SFun.At _ g3 0 f p := ⟨Mem.of_get at3, h0⟩
                  obtain ⟨fsh3, c53, c63, i13, i23⟩ := hb3.get
                  have hm3 : MemN _ _ _ _ _ := ⟨rfl, hb3.1⟩
                  have hi3 := hb3.2
                  have hmsh3 : MemN _ _ _ _ _ := ⟨rfl, fsh3.1⟩
                  have hish3 := fsh3.2
                  clear hb4 c04 i04 hm4 hi4
                  have hb4 : Prt.At _ g4 0 m q := ⟨Mem.of_get at4, h1⟩
                  obtain ⟨c04, i04⟩ := hb4.get
                  have hm4 : MemN _ _ _ _ _ := ⟨rfl, hb4.1⟩
                  have hi4 := hb4.2
                  clear hb5 c05 i05 hm5 hi5
                  have hb5 : Prt.At _ g5 0 m' q' := ⟨Mem.of_get at5, h2⟩
                  obtain ⟨c05, i05⟩ := hb5.get
                  have hm5 : MemN _ _ _ _ _ := ⟨rfl, hb5.1⟩
                  have hi5 := hb5.2
                  clear i8x6
                  have i8x6 := v8x6.inn
                  clear mm8x6
                  have mm8x6 : MemN _ _ _ _ _ := ⟨rfl, Mem.of_get at8x6⟩
                  clear mm12003
                  have mm12003 : MemN _ _ _ _ _ := ⟨rfl, Mem.of_get at12003⟩
                  clear mm13003
                  have mm13003 : MemN _ _ _ _ _ := ⟨rfl, Mem.of_get at13003⟩
                  clear mm14003
                  have mm14003 : MemN _ _ _ _ _ := ⟨rfl, Mem.of_get at14003⟩
                  clear mm15008
                  have mm15008 : MemN _ _ _ _ _ := ⟨rfl, Mem.of_get at15008⟩
                  clear i69
                  have i69 := v69.inn
                  clear i74
                  have i74 := v74.inn
                  clear i79
                  have i79 := v79.inn
                  clear i117
                  have i117 := v117.inn
                  have i119 := v119.inn
                  replace hf0 := hf0.trans le119
                  refine .call1 rfl rfl rfl rfl rfl @Try.call11 rfl (toPart_c) ?_
                  rintro _ H121 ⟨le121, p121, rfl, v121⟩
                  replace hbl := hbl.trans le121
                  refine ⟨hbl, ?_⟩
                  have nx_H121 := le121.1
                  replace hle := hle.trans le121
                  replace at3 := le121.2 _ _ at3
                  replace at4 := le121.2 _ _ at4
                  replace at5 := le121.2 _ _ at5
                  replace at8x6 := le121.2 _ _ at8x6
                  replace at12003 := le121.2 _ _ at12003
                  replace at13003 := le121.2 _ _ at13003
                  replace at14003 := le121.2 _ _ at14003
                  replace at15008 := le121.2 _ _ at15008
                  replace at18 := le121.2 _ _ at18
                  replace lv_v8x6 := Keep.le lv_v8x6 le121
                  replace v8x6 := bs_v8x6.keep lv_v8x6 (Nat.le_refl _)
                  replace lv_v69 := Keep.le lv_v69 le121
                  replace v69 := bs_v69.keep lv_v69 (Nat.le_refl _)
                  replace lv_v74 := Keep.le lv_v74 le121
                  replace v74 := bs_v74.keep lv_v74 (Nat.le_refl _)
                  replace lv_v79 := Keep.le lv_v79 le121
                  replace v79 := bs_v79.keep lv_v79 (Nat.le_refl _)
                  replace lv_hd106 := Keep.le lv_hd106 le121
                  replace hd106 := bs_hd106.keep lv_hd106 (Nat.le_refl _)
                  replace lv_wd106 := Keep.le lv_wd106 le121
                  replace wd106 := bs_wd106.keep lv_wd106 (Nat.le_refl _)
                  replace lv_v117 := Keep.le lv_v117 le121
                  replace v117 := bs_v117.keep lv_v117 (Nat.le_refl _)
                  replace lv_v119 := Keep.le lv_v119 le121
                  replace v119 := bs_v119.keep lv_v119 (Nat.le_refl _)
                  have bs_v121 := v121
                  have lv_v121 : Keep H119.next H121 H121 := fun _ _ _ h => h
                  replace h0 := base_h0.mono hle
                  replace h1 := base_h1.mono hle
                  replace h2 := base_h2.mono hle
                  clear hb3 fsh3 c53 c63 i13 i23 hm3 hi3 hmsh3 hish3
                  have hb3 : SFun.At _ g3 0 f p := ⟨Mem.of_get at3, h0⟩
                  obtain ⟨fsh3, c53, c63, i13, i23⟩ := hb3.get
                  have hm3 : MemN _ _ _ _ _ := ⟨rfl, hb3.1⟩
                  have hi3 := hb3.2
                  have hmsh3 : MemN _ _ _ _ _ := ⟨rfl, fsh3.1⟩
                  have hish3 := fsh3.2
                  clear hb4 c04 i04 hm4 hi4
                  have hb4 : Prt.At _ g4 0 m q := ⟨Mem.of_get at4, h1⟩
                  obtain ⟨c04, i04⟩ := hb4.get
                  have hm4 : MemN _ _ _ _ _ := ⟨rfl, hb4.1⟩
                  have hi4 := hb4.2
                  clear hb5 c05 i05 hm5 hi5
                  have hb5 : Prt.At _ g5 0 m' q' := ⟨Mem.of_get at5, h2⟩
                  obtain ⟨c05, i05⟩ := hb5.get
                  have hm5 : MemN _ _ _ _ _ := ⟨rfl, hb5.1⟩
                  have hi5 := hb5.2
                  clear i8x6
                  have i8x6 := v8x6.inn
                  clear mm8x6
                  have mm8x6 : MemN _ _ _ _ _ := ⟨rfl, Mem.of_get at8x6⟩
                  clear mm12003
                  have mm12003 : MemN _ _ _ _ _ := ⟨rfl, Mem.of_get at12003⟩
                  clear mm13003
                  have mm13003 : MemN _ _ _ _ _ := ⟨rfl, Mem.of_get at13003⟩
                  clear mm14003
                  have mm14003 : MemN _ _ _ _ _ := ⟨rfl, Mem.of_get at14003⟩
                  clear mm15008
                  have mm15008 : MemN _ _ _ _ _ := ⟨rfl, Mem.of_get at15008⟩
                  clear i69
                  have i69 := v69.inn
                  clear i74
                  have i74 := v74.inn
                  clear i79
                  have i79 := v79.inn
                  clear i117
                  have i117 := v117.inn
                  clear i119
                  have i119 := v119.inn
                  have i121 := v121.inn
                  replace hf0 := hf0.trans le121
                  refine .call1 rfl rfl rfl rfl rfl @Try.call25 rfl (implJoinParts_c) ?_
                  rintro _ H122 ⟨le122, p122, rfl, v122⟩
                  replace hbl := hbl.trans le122
                  refine ⟨hbl, ?_⟩
                  have nx_H122 := le122.1
                  replace hle := hle.trans le122
                  replace at3 := le122.2 _ _ at3
                  replace at4 := le122.2 _ _ at4
                  replace at5 := le122.2 _ _ at5
                  replace at8x6 := le122.2 _ _ at8x6
                  replace at12003 := le122.2 _ _ at12003
                  replace at13003 := le122.2 _ _ at13003
                  replace at14003 := le122.2 _ _ at14003
                  replace at15008 := le122.2 _ _ at15008
                  replace at18 := le122.2 _ _ at18
                  replace lv_v8x6 := Keep.le lv_v8x6 le122
                  replace v8x6 := bs_v8x6.keep lv_v8x6 (Nat.le_refl _)
                  replace lv_v69 := Keep.le lv_v69 le122
                  replace v69 := bs_v69.keep lv_v69 (Nat.le_refl _)
                  replace lv_v74 := Keep.le lv_v74 le122
                  replace v74 := bs_v74.keep lv_v74 (Nat.le_refl _)
                  replace lv_v79 := Keep.le lv_v79 le122
                  replace v79 := bs_v79.keep lv_v79 (Nat.le_refl _)
                  replace lv_hd106 := Keep.le lv_hd106 le122
                  replace hd106 := bs_hd106.keep lv_hd106 (Nat.le_refl _)
                  replace lv_wd106 := Keep.le lv_wd106 le122
                  replace wd106 := bs_wd106.keep lv_wd106 (Nat.le_refl _)
                  replace lv_v117 := Keep.le lv_v117 le122
                  replace v117 := bs_v117.keep lv_v117 (Nat.le_refl _)
                  replace lv_v119 := Keep.le lv_v119 le122
                  replace v119 := bs_v119.keep lv_v119 (Nat.le_refl _)
                  replace lv_v121 := Keep.le lv_v121 le122
                  replace v121 := bs_v121.keep lv_v121 (Nat.le_refl _)
                  have bs_v122 := v122
                  have lv_v122 : Keep H121.next H122 H122 := fun _ _ _ h => h
                  replace h0 := base_h0.mono hle
                  replace h1 := base_h1.mono hle
                  replace h2 := base_h2.mono hle
                  clear hb3 fsh3 c53 c63 i13 i23 hm3 hi3 hmsh3 hish3
                  have hb3 : SFun.At _ g3 0 f p := ⟨Mem.of_get at3, h0⟩
                  obtain ⟨fsh3, c53, c63, i13, i23⟩ := hb3.get
                  have hm3 : MemN _ _ _ _ _ := ⟨rfl, hb3.1⟩
                  have hi3 := hb3.2
                  have hmsh3 : MemN _ _ _ _ _ := ⟨rfl, fsh3.1⟩
                  have hish3 := fsh3.2
                  clear hb4 c04 i04 hm4 hi4
                  have hb4 : Prt.At _ g4 0 m q := ⟨Mem.of_get at4, h1⟩
                  obtain ⟨c04, i04⟩ := hb4.get
                  have hm4 : MemN _ _ _ _ _ := ⟨rfl, hb4.1⟩
                  have hi4 := hb4.2
                  clear hb5 c05 i05 hm5 hi5
                  have hb5 : Prt.At _ g5 0 m' q' := ⟨Mem.of_get at5, h2⟩
                  obtain ⟨c05, i05⟩ := hb5.get
                  have hm5 : MemN _ _ _ _ _ := ⟨rfl, hb5.1⟩
                  have hi5 := hb5.2
                  clear i8x6
                  have i8x6 := v8x6.inn
                  clear mm8x6
                  have mm8x6 : MemN _ _ _ _ _ := ⟨rfl, Mem.of_get at8x6⟩
                  clear mm12003
                  have mm12003 : MemN _ _ _ _ _ := ⟨rfl, Mem.of_get at12003⟩
                  clear mm13003
                  have mm13003 : MemN _ _ _ _ _ := ⟨rfl, Mem.of_get at13003⟩
                  clear mm14003
                  have mm14003 : MemN _ _ _ _ _ := ⟨rfl, Mem.of_get at14003⟩
                  clear mm15008
                  have mm15008 : MemN _ _ _ _ _ := ⟨rfl, Mem.of_get at15008⟩
                  clear i69
                  have i69 := v69.inn
                  clear i74
                  have i74 := v74.inn
                  clear i79
                  have i79 := v79.inn
                  clear i117
                  have i117 := v117.inn
                  clear i119
                  have i119 := v119.inn
                  clear i121
                  have i121 := v121.inn
                  have i122 := v122.inn
                  replace hf0 := hf0.trans le122
                  refine .mB rfl rfl rfl rfl hbl (.move rfl) ?_
                  refine .mB rfl rfl rfl rfl hbl (.extract rfl rfl) ?_
                  refine .mB rfl rfl rfl rfl hbl (.extract rfl rfl) ?_
                  refine .r1 rfl rfl rfl (.fillR rfl sz_34_VPrt rfl rfl rfl rfl (by assumption) (by first | rfl | exact Nat.le_of_ble_eq_true rfl | simp)) ?_
                  rintro _ H38011 ⟨rfl, st38011, at38011⟩
                  replace hbl := hbl.st st38011 (fun k hk => ⟨by omega, trivial⟩)
                  refine ⟨hbl, ?_⟩
                  have nx_H38011 := st38011.nx
                  replace hle := hle.st st38011 (fun k hk => ⟨by omega, trivial⟩)
                  replace at3 := st38011.same _ _ ⟨by omega, trivial⟩ at3
                  replace at4 := st38011.same _ _ ⟨by omega, trivial⟩ at4
                  replace at5 := st38011.same _ _ ⟨by omega, trivial⟩ at5
                  replace at8x6 := st38011.same _ _ ⟨by omega, trivial⟩ at8x6
                  replace at12003 := st38011.same _ _ ⟨by omega, trivial⟩ at12003
                  replace at13003 := st38011.same _ _ ⟨by omega, trivial⟩ at13003
                  replace at14003 := st38011.same _ _ ⟨by omega, trivial⟩ at14003
                  replace at15008 := st38011.same _ _ ⟨by omega, trivial⟩ at15008
                  replace lv_v8x6 := Keep.st lv_v8x6 st38011 (fun k hb hk => ⟨by omega, trivial⟩)
                  replace v8x6 := bs_v8x6.keep lv_v8x6 (Nat.le_refl _)
                  replace lv_v69 := Keep.st lv_v69 st38011 (fun k hb hk => ⟨by omega, trivial⟩)
                  replace v69 := bs_v69.keep lv_v69 (Nat.le_refl _)
                  replace lv_v74 := Keep.st lv_v74 st38011 (fun k hb hk => ⟨by omega, trivial⟩)
                  replace v74 := bs_v74.keep lv_v74 (Nat.le_refl _)
                  replace lv_v79 := Keep.st lv_v79 st38011 (fun k hb hk => ⟨by omega, trivial⟩)
                  replace v79 := bs_v79.keep lv_v79 (Nat.le_refl _)
                  replace lv_hd106 := Keep.st lv_hd106 st38011 (fun k hb hk => ⟨by omega, trivial⟩)
                  replace hd106 := bs_hd106.keep lv_hd106 (Nat.le_refl _)
                  replace lv_wd106 := Keep.st lv_wd106 st38011 (fun k hb hk => ⟨by omega, trivial⟩)
                  replace wd106 := bs_wd106.keep lv_wd106 (Nat.le_refl _)
                  replace lv_v117 := Keep.st lv_v117 st38011 (fun k hb hk => ⟨by omega, trivial⟩)
                  replace v117 := bs_v117.keep lv_v117 (Nat.le_refl _)
                  replace lv_v119 := Keep.st lv_v119 st38011 (fun k hb hk => ⟨by omega, trivial⟩)
                  replace v119 := bs_v119.keep lv_v119 (Nat.le_refl _)
                  replace lv_v121 := Keep.st lv_v121 st38011 (fun k hb hk => ⟨by omega, trivial⟩)
                  replace v121 := bs_v121.keep lv_v121 (Nat.le_refl _)
                  replace lv_v122 := Keep.st lv_v122 st38011 (fun k hb hk => ⟨by omega, trivial⟩)
                  replace v122 := bs_v122.keep lv_v122 (Nat.le_refl _)
                  have lt_at38011 := GHeap.lt_of_get at38011
                  replace h0 := base_h0.mono hle
                  replace h1 := base_h1.mono hle
                  replace h2 := base_h2.mono hle
                  clear hb3 fsh3 c53 c63 i13 i23 hm3 hi3 hmsh3 hish3
                  have hb3 : SFun.At _ g3 0 f p := ⟨Mem.of_get at3, h0⟩
                  obtain ⟨fsh3, c53, c63, i13, i23⟩ := hb3.get
                  have hm3 : MemN _ _ _ _ _ := ⟨rfl, hb3.1⟩
                  have hi3 := hb3.2
                  have hmsh3 : MemN _ _ _ _ _ := ⟨rfl, fsh3.1⟩
                  have hish3 := fsh3.2
                  clear hb4 c04 i04 hm4 hi4
                  have hb4 : Prt.At _ g4 0 m q := ⟨Mem.of_get at4, h1⟩
                  obtain ⟨c04, i04⟩ := hb4.get
                  have hm4 : MemN _ _ _ _ _ := ⟨rfl, hb4.1⟩
                  have hi4 := hb4.2
                  clear hb5 c05 i05 hm5 hi5
                  have hb5 : Prt.At _ g5 0 m' q' := ⟨Mem.of_get at5, h2⟩
                  obtain ⟨c05, i05⟩ := hb5.get
                  have hm5 : MemN _ _ _ _ _ := ⟨rfl, hb5.1⟩
                  have hi5 := hb5.2
                  clear i8x6
                  have i8x6 := v8x6.inn
                  clear mm8x6
                  have mm8x6 : MemN _ _ _ _ _ := ⟨rfl, Mem.of_get at8x6⟩
                  clear mm12003
                  have mm12003 : MemN _ _ _ _ _ := ⟨rfl, Mem.of_get at12003⟩
                  clear mm13003
                  have mm13003 : MemN _ _ _ _ _ := ⟨rfl, Mem.of_get at13003⟩
                  clear mm14003
                  have mm14003 : MemN _ _ _ _ _ := ⟨rfl, Mem.of_get at14003⟩
                  clear mm15008
                  have mm15008 : MemN _ _ _ _ _ := ⟨rfl, Mem.of_get at15008⟩
                  clear i69
                  have i69 := v69.inn
                  clear i74
                  have i74 := v74.inn
                  clear i79
                  have i79 := v79.inn
                  clear i117
                  have i117 := v117.inn
                  clear i119
                  have i119 := v119.inn
                  clear i121
                  have i121 := v121.inn
                  clear i122
                  have i122 := v122.inn
                  have mm38011 : MemN _ _ _ _ _ := ⟨rfl, Mem.of_get at38011⟩
                  replace hf0 := hf0.st st38011 (fun k hk => ⟨by omega, trivial⟩)
                  refine .mB rfl rfl rfl rfl hbl (.assign rfl) ?_
                  refine .done ?_
                  exact ⟨_, p122, ⟨rfl, rfl, rfl, rfl, rfl, rfl, rfl, rfl, rfl, rfl, rfl, rfl, rfl, rfl, rfl, rfl, rfl, rfl, rfl, rfl, rfl, rfl, rfl, rfl, rfl, rfl, rfl, rfl, rfl, rfl, rfl, rfl, rfl, rfl, rfl, rfl, rfl, rfl, rfl, rfl, rfl, rfl, rfl, rfl, rfl, rfl, rfl, rfl, rfl, rfl, rfl, rfl, rfl, rfl, rfl, rfl, rfl, rfl, rfl, rfl, rfl, rfl, rfl, rfl, rfl, rfl, rfl, rfl, rfl, rfl, rfl, rfl, rfl, rfl, rfl, rfl, rfl, rfl, rfl, rfl, rfl, rfl, rfl, rfl, rfl, rfl, rfl, rfl, rfl, rfl, rfl, rfl, rfl, rfl, rfl, rfl, rfl, rfl, rfl, rfl, rfl, rfl, rfl, rfl, rfl, trivial⟩, hf0, by omega, at38011, v122.keep (.of_le (.refl _)) (by omega)⟩
                 ·
                  refine .call1 rfl rfl rfl rfl rfl @Try.call20 rfl (toSetFunctor_c) ?_
                  rintro _ H117x2 ⟨le117x2, p117x2, rfl, v117x2⟩
                  have hbl := le117x2
                  refine ⟨hbl, ?_⟩
                  have nx_H117x2 := le117x2.1
                  replace hle := hle.trans le117x2
                  replace at3 := le117x2.2 _ _ at3
                  replace at4 := le117x2.2 _ _ at4
                  replace at5 := le117x2.2 _ _ at5
                  replace at8x6 := le117x2.2 _ _ at8x6
                  replace at12003 := le117x2.2 _ _ at12003
                  replace at13003 := le117x2.2 _ _ at13003
                  replace at14003 := le117x2.2 _ _ at14003
                  replace at15008 := le117x2.2 _ _ at15008
                  replace lv_v8x6 := Keep.le lv_v8x6 le117x2
                  replace v8x6 := bs_v8x6.keep lv_v8x6 (Nat.le_refl _)
                  replace lv_v69 := Keep.le lv_v69 le117x2
                  replace v69 := bs_v69.keep lv_v69 (Nat.le_refl _)
                  replace lv_v74 := Keep.le lv_v74 le117x2
                  replace v74 := bs_v74.keep lv_v74 (Nat.le_refl _)
                  replace lv_v79 := Keep.le lv_v79 le117x2
                  replace v79 := bs_v79.keep lv_v79 (Nat.le_refl _)
                  replace lv_hd106 := Keep.le lv_hd106 le117x2
                  replace hd106 := bs_hd106.keep lv_hd106 (Nat.le_refl _)
                  replace lv_wd106 := Keep.le lv_wd106 le117x2
                  replace wd106 := bs_wd106.keep lv_wd106 (Nat.le_refl _)
                  have bs_v117x2 := v117x2
                  have lv_v117x2 : Keep H106.next H117x2 H117x2 := fun _ _ _ h => h
                  replace h0 := base_h0.mono hle
                  replace h1 := base_h1.mono hle
                  replace h2 := base_h2.mono hle
                  clear hb3 fsh3 c53 c63 i13 i23 hm3 hi3 hmsh3 hish3
                  have hb3 : SFun.At _ g3 0 f p := ⟨Mem.of_get at3, h0⟩
                  obtain ⟨fsh3, c53, c63, i13, i23⟩ := hb3.get
                  have hm3 : MemN _ _ _ _ _ := ⟨rfl, hb3.1⟩
                  have hi3 := hb3.2
                  have hmsh3 : MemN _ _ _ _ _ := ⟨rfl, fsh3.1⟩
                  have hish3 := fsh3.2
                  clear hb4 c04 i04 hm4 hi4
                  have hb4 : Prt.At _ g4 0 m q := ⟨Mem.of_get at4, h1⟩
                  obtain ⟨c04, i04⟩ := hb4.get
                  have hm4 : MemN _ _ _ _ _ := ⟨rfl, hb4.1⟩
                  have hi4 := hb4.2
                  clear hb5 c05 i05 hm5 hi5
                  have hb5 : Prt.At _ g5 0 m' q' := ⟨Mem.of_get at5, h2⟩
                  obtain ⟨c05, i05⟩ := hb5.get
                  have hm5 : MemN _ _ _ _ _ := ⟨rfl, hb5.1⟩
                  have hi5 := hb5.2
                  clear i8x6
                  have i8x6 := v8x6.inn
                  clear mm8x6
                  have mm8x6 : MemN _ _ _ _ _ := ⟨rfl, Mem.of_get at8x6⟩
                  clear mm12003
                  have mm12003 : MemN _ _ _ _ _ := ⟨rfl, Mem.of_get at12003⟩
                  clear mm13003
                  have mm13003 : MemN _ _ _ _ _ := ⟨rfl, Mem.of_get at13003⟩
                  clear mm14003
                  have mm14003 : MemN _ _ _ _ _ := ⟨rfl, Mem.of_get at14003⟩
                  clear mm15008
                  have mm15008 : MemN _ _ _ _ _ := ⟨rfl, Mem.of_get at15008⟩
                  clear i69
                  have i69 := v69.inn
                  clear i74
                  have i74 := v74.inn
                  clear i79
                  have i79 := v79.inn
                  have i117x2 := v117x2.inn
                  replace hf0 := hf0.trans le117x2
                  refine .orI ?_ ?_
                  ·
                   refine .c1 rfl rfl rfl rfl (.allocR rfl ze_34_VPrt rfl) ?_
                   rintro _ H18x2 ⟨g18x2, rfl, le18x2, ge18x2, at18x2⟩
                   replace hbl := hbl.trans le18x2
                   refine ⟨hbl, ?_⟩
                   have nx_H18x2 := le18x2.1
                   replace hle := hle.trans le18x2
                   replace at3 := le18x2.2 _ _ at3
                   replace at4 := le18x2.2 _ _ at4
                   replace at5 := le18x2.2 _ _ at5
                   replace at8x6 := le18x2.2 _ _ at8x6
                   replace at12003 := le18x2.2 _ _ at12003
                   replace at13003 := le18x2.2 _ _ at13003
                   replace at14003 := le18x2.2 _ _ at14003
                   replace at15008 := le18x2.2 _ _ at15008
                   replace lv_v8x6 := Keep.le lv_v8x6 le18x2
                   replace v8x6 := bs_v8x6.keep lv_v8x6 (Nat.le_refl _)
                   replace lv_v69 := Keep.le lv_v69 le18x2
                   replace v69 := bs_v69.keep lv_v69 (Nat.le_refl _)
                   replace lv_v74 := Keep.le lv_v74 le18x2
                   replace v74 := bs_v74.keep lv_v74 (Nat.le_refl _)
                   replace lv_v79 := Keep.le lv_v79 le18x2
                   replace v79 := bs_v79.keep lv_v79 (Nat.le_refl _)
                   replace lv_hd106 := Keep.le lv_hd106 le18x2
                   replace hd106 := bs_hd106.keep lv_hd106 (Nat.le_refl _)
                   replace lv_wd106 := Keep.le lv_wd106 le18x2
                   replace wd106 := bs_wd106.keep lv_wd106 (Nat.le_refl _)
                   replace lv_v117x2 := Keep.le lv_v117x2 le18x2
                   replace v117x2 := bs_v117x2.keep lv_v117x2 (Nat.le_refl _)
                   have lt_at18x2 := GHeap.lt_of_get at18x2
                   replace h0 := base_h0.mono hle
                   replace h1 := base_h1.mono hle
                   replace h2 := base_h2.mono hle
                   clear hb3 fsh3 c53 c63 i13 i23 hm3 hi3 hmsh3 hish3
                   have hb3 : SFun.At _ g3 0 f p := ⟨Mem.of_get at3, h0⟩
                   obtain ⟨fsh3, c53, c63, i13, i23⟩ := hb3.get
                   have hm3 : MemN _ _ _ _ _ := ⟨rfl, hb3.1⟩
                   have hi3 := hb3.2
                   have hmsh3 : MemN _ _ _ _ _ := ⟨rfl, fsh3.1⟩
                   have hish3 := fsh3.2
                   clear hb4 c04 i04 hm4 hi4
                   have hb4 : Prt.At _ g4 0 m q := ⟨Mem.of_get at4, h1⟩
                   obtain ⟨c04, i04⟩ := hb4.get
                   have hm4 : MemN _ _ _ _ _ := ⟨rfl, hb4.1⟩
                   have hi4 := hb4.2
                   clear hb5 c05 i05 hm5 hi5
                   have hb5 : Prt.At _ g5 0 m' q' := ⟨Mem.of_get at5, h2⟩
                   obtain ⟨c05, i05⟩ := hb5.get
                   have hm5 : MemN _ _ _ _ _ := ⟨rfl, hb5.1⟩
                   have hi5 := hb5.2
                   clear i8x6
                   have i8x6 := v8x6.inn
                   clear mm8x6
                   have mm8x6 : MemN _ _ _ _ _ := ⟨rfl, Mem.of_get at8x6⟩
                   clear mm12003
                   have mm12003 : MemN _ _ _ _ _ := ⟨rfl, Mem.of_get at12003⟩
                   clear mm13003
                   have mm13003 : MemN _ _ _ _ _ := ⟨rfl, Mem.of_get at13003⟩
                   clear mm14003
                   have mm14003 : MemN _ _ _ _ _ := ⟨rfl, Mem.of_get at14003⟩
                   clear mm15008
                   have mm15008 : MemN _ _ _ _ _ := ⟨rfl, Mem.of_get at15008⟩
                   clear i69
                   have i69 := v69.inn
                   clear i74
                   have i74 := v74.inn
                   clear i79
                   have i79 := v79.inn
                   clear i117x2
                   have i117x2 := v117x2.inn
                   replace hf0 := hf0.trans le18x2
                   refine .call1 rfl rfl rfl rfl rfl @Try.call11 rfl (toPart_c) ?_
                   rintro _ H119x2 ⟨le119x2, p119x2, rfl, v119x2⟩
                   replace hbl := hbl.trans le119x2
                   refine ⟨hbl, ?_⟩
                   have nx_H119x2 := le119x2.1
                   replace hle := hle.trans le119x2
                   replace at3 := le119x2.2 _ _ at3
                   replace at4 := le119x2.2 _ _ at4
                   replace at5 := le119x2.2 _ _ at5
                   replace at8x6 := le119x2.2 _ _ at8x6
                   replace at12003 := le119x2.2 _ _ at12003
                   replace at13003 := le119x2.2 _ _ at13003
                   replace at14003 := le119x2.2 _ _ at14003
                   replace at15008 := le119x2.2 _ _ at15008
                   replace at18x2 := le119x2.2 _ _ at18x2
                   replace lv_v8x6 := Keep.le lv_v8x6 le119x2
                   replace v8x6 := bs_v8x6.keep lv_v8x6 (Nat.le_refl _)
                   replace lv_v69 := Keep.le lv_v69 le119x2
                   replace v69 := bs_v69.keep lv_v69 (Nat.le_refl _)
                   replace lv_v74 := Keep.le lv_v74 le119x2
                   replace v74 := bs_v74.keep lv_v74 (Nat.le_refl _)
                   replace lv_v79 := Keep.le lv_v79 le119x2
                   replace v79 := bs_v79.keep lv_v79 (Nat.le_refl _)
                   replace lv_hd106 := Keep.le lv_hd106 le119x2
                   replace hd106 := bs_hd106.keep lv_hd106 (Nat.le_refl _)
                   replace lv_wd106 := Keep.le lv_wd106 le119x2
                   replace wd106 := bs_wd106.keep lv_wd106 (Nat.le_refl _)
                   replace lv_v117x2 := Keep.le lv_v117x2 le119x2
                   replace v117x2 := bs_v117x2.keep lv_v117x2 (Nat.le_refl _)
                   have bs_v119x2 := v119x2
                   have lv_v119x2 : Keep H18x2.next H119x2 H119x2 := fun _ _ _ h => h
                   replace h0 := base_h0.mono hle
                   replace h1 := base_h1.mono hle
                   replace h2 := base_h2.mono hle
                   clear hb3 fsh3 c53 c63 i13 i23 hm3 hi3 hmsh3 hish3
                   have hb3 : SFun.At _ g3 0 f p := ⟨Mem.of_get at3, h0⟩
                   obtain ⟨fsh3, c53, c63, i13, i23⟩ := hb3.get
                   have hm3 : MemN _ _ _ _ _ := ⟨rfl, hb3.1⟩
                   have hi3 := hb3.2
                   have hmsh3 : MemN _ _ _ _ _ := ⟨rfl, fsh3.1⟩
                   have hish3 := fsh3.2
                   clear hb4 c04 i04 hm4 hi4
                   have hb4 : Prt.At _ g4 0 m q := ⟨Mem.of_get at4, h1⟩
                   obtain ⟨c04, i04⟩ := hb4.get
                   have hm4 : MemN _ _ _ _ _ := ⟨rfl, hb4.1⟩
                   have hi4 := hb4.2
                   clear hb5 c05 i05 hm5 hi5
                   have hb5 : Prt.At _ g5 0 m' q' := ⟨Mem.of_get at5, h2⟩
                   obtain ⟨c05, i05⟩ := hb5.get
                   have hm5 : MemN _ _ _ _ _ := ⟨rfl, hb5.1⟩
                   have hi5 := hb5.2
                   clear i8x6
                   have i8x6 := v8x6.inn
                   clear mm8x6
                   have mm8x6 : MemN _ _ _ _ _ := ⟨rfl, Mem.of_get at8x6⟩
                   clear mm12003
                   have mm12003 : MemN _ _ _ _ _ := ⟨rfl, Mem.of_get at12003⟩
                   clear mm13003
                   have mm13003 : MemN _ _ _ _ _ := ⟨rfl, Mem.of_get at13003⟩
                   clear mm14003
                   have mm14003 : MemN _ _ _ _ _ := ⟨rfl, Mem.of_get at14003⟩
                   clear mm15008
                   have mm15008 : MemN _ _ _ _ _ := ⟨rfl, Mem.of_get at15008⟩
                   clear i69
                   have i69 := v69.inn
                   clear i74
                   have i74 := v74.inn
                   clear i79
                   have i79 := v79.inn
                   clear i117x2
                   have i117x2 := v117x2.inn
                   have i119x2 := v119x2.inn
                   replace hf0 := hf0.trans le119x2
                   refine .call1 rfl rfl rfl rfl rfl @Try.call11 rfl (toPart_c) ?_
                   rintro _ H121x2 ⟨le121x2, p121x2, rfl, v121x2⟩
                   replace hbl := hbl.trans le121x2
                   refine ⟨hbl, ?_⟩
                   have nx_H121x2 := le121x2.1
                   replace hle := hle.trans le121x2
                   replace at3 := le121x2.2 _ _ at3
                   replace at4 := le121x2.2 _ _ at4
                   replace at5 := le121x2.2 _ _ at5
                   replace at8x6 := le121x2.2 _ _ at8x6
                   replace at12003 := le121x2.2 _ _ at12003
                   replace at13003 := le121x2.2 _ _ at13003
                   replace at14003 := le121x2.2 _ _ at14003
                   replace at15008 := le121x2.2 _ _ at15008
                   replace at18x2 := le121x2.2 _ _ at18x2
                   replace lv_v8x6 := Keep.le lv_v8x6 le121x2
                   replace v8x6 := bs_v8x6.keep lv_v8x6 (Nat.le_refl _)
                   replace lv_v69 := Keep.le lv_v69 le121x2
                   replace v69 := bs_v69.keep lv_v69 (Nat.le_refl _)
                   replace lv_v74 := Keep.le lv_v74 le121x2
                   replace v74 := bs_v74.keep lv_v74 (Nat.le_refl _)
                   replace lv_v79 := Keep.le lv_v79 le121x2
                   replace v79 := bs_v79.keep lv_v79 (Nat.le_refl _)
                   replace lv_hd106 := Keep.le lv_hd106 le121x2
                   replace hd106 := bs_hd106.keep lv_hd106 (Nat.le_refl _)
                   replace lv_wd106 := Keep.le lv_wd106 le121x2
                   replace wd106 := bs_wd106.keep lv_wd106 (Nat.le_refl _)
                   replace lv_v117x2 := Keep.le lv_v117x2 le121x2
                   replace v117x2 := bs_v117x2.keep lv_v117x2 (Nat.le_refl _)
                   replace lv_v119x2 := Keep.le lv_v119x2 le121x2
                   replace v119x2 := bs_v119x2.keep lv_v119x2 (Nat.le_refl _)
                   have bs_v121x2 := v121x2
                   have lv_v121x2 : Keep H119x2.next H121x2 H121x2 := fun _ _ _ h => h
                   replace h0 := base_h0.mono hle
                   replace h1 := base_h1.mono hle
                   replace h2 := base_h2.mono hle
                   clear hb3 fsh3 c53 c63 i13 i23 hm3 hi3 hmsh3 hish3
                   have hb3 : SFun.At _ g3 0 f p := ⟨Mem.of_get at3, h0⟩
                   obtain ⟨fsh3, c53, c63, i13, i23⟩ := hb3.get
                   have hm3 : MemN _ _ _ _ _ := ⟨rfl, hb3.1⟩
                   have hi3 := hb3.2
                   have hmsh3 : MemN _ _ _ _ _ := ⟨rfl, fsh3.1⟩
                   have hish3 := fsh3.2
                   clear hb4 c04 i04 hm4 hi4
                   have hb4 : Prt.At _ g4 0 m q := ⟨Mem.of_get at4, h1⟩
                   obtain ⟨c04, i04⟩ := hb4.get
                   have hm4 : MemN _ _ _ _ _ := ⟨rfl, hb4.1⟩
                   have hi4 := hb4.2
                   clear hb5 c05 i05 hm5 hi5
                   have hb5 : Prt.At _ g5 0 m' q' := ⟨Mem.of_get at5, h2⟩
                   obtain ⟨c05, i05⟩ := hb5.get
                   have hm5 : MemN _ _ _ _ _ := ⟨rfl, hb5.1⟩
                   have hi5 := hb5.2
                   clear i8x6
                   have i8x6 := v8x6.inn
                   clear mm8x6
                   have mm8x6 : MemN _ _ _ _ _ := ⟨rfl, Mem.of_get at8x6⟩
                   clear mm12003
                   have mm12003 : MemN _ _ _ _ _ := ⟨rfl, Mem.of_get at12003⟩
                   clear mm13003
                   have mm13003 : MemN _ _ _ _ _ := ⟨rfl, Mem.of_get at13003⟩
                   clear mm14003
                   have mm14003 : MemN _ _ _ _ _ := ⟨rfl, Mem.of_get at14003⟩
                   clear mm15008
                   have mm15008 : MemN _ _ _ _ _ := ⟨rfl, Mem.of_get at15008⟩
                   clear i69
                   have i69 := v69.inn
                   clear i74
                   have i74 := v74.inn
                   clear i79
                   have i79 := v79.inn
                   clear i117x2
                   have i117x2 := v117x2.inn
                   clear i119x2
                   have i119x2 := v119x2.inn
                   have i121x2 := v121x2.inn
                   replace hf0 := hf0.trans le121x2
                   refine .call1 rfl rfl rfl rfl rfl @Try.call25 rfl (implJoinParts_c) ?_
                   rintro _ H122x2 ⟨le122x2, p122x2, rfl, v122x2⟩
                   replace hbl := hbl.trans le122x2
                   refine ⟨hbl, ?_⟩
                   have nx_H122x2 := le122x2.1
                   replace hle := hle.trans le122x2
                   replace at3 := le122x2.2 _ _ at3
                   replace at4 := le122x2.2 _ _ at4
                   replace at5 := le122x2.2 _ _ at5
                   replace at8x6 := le122x2.2 _ _ at8x6
                   replace at12003 := le122x2.2 _ _ at12003
                   replace at13003 := le122x2.2 _ _ at13003
                   replace at14003 := le122x2.2 _ _ at14003
                   replace at15008 := le122x2.2 _ _ at15008
                   replace at18x2 := le122x2.2 _ _ at18x2
                   replace lv_v8x6 := Keep.le lv_v8x6 le122x2
                   replace v8x6 := bs_v8x6.keep lv_v8x6 (Nat.le_refl _)
                   replace lv_v69 := Keep.le lv_v69 le122x2
                   replace v69 := bs_v69.keep lv_v69 (Nat.le_refl _)
                   replace lv_v74 := Keep.le lv_v74 le122x2
                   replace v74 := bs_v74.keep lv_v74 (Nat.le_refl _)
                   replace lv_v79 := Keep.le lv_v79 le122x2
                   replace v79 := bs_v79.keep lv_v79 (Nat.le_refl _)
                   replace lv_hd106 := Keep.le lv_hd106 le122x2
                   replace hd106 := bs_hd106.keep lv_hd106 (Nat.le_refl _)
                   replace lv_wd106 := Keep.le lv_wd106 le122x2
                   replace wd106 := bs_wd106.keep lv_wd106 (Nat.le_refl _)
                   replace lv_v117x2 := Keep.le lv_v117x2 le122x2
                   replace v117x2 := bs_v117x2.keep lv_v117x2 (Nat.le_refl _)
                   replace lv_v119x2 := Keep.le lv_v119x2 le122x2
                   replace v119x2 := bs_v119x2.keep lv_v119x2 (Nat.le_refl _)
                   replace lv_v121x2 := Keep.le lv_v121x2 le122x2
                   replace v121x2 := bs_v121x2.keep lv_v121x2 (Nat.le_refl _)
                   have bs_v122x2 := v122x2
                   have lv_v122x2 : Keep H121x2.next H122x2 H122x2 := fun _ _ _ h => h
                   replace h0 := base_h0.mono hle
                   replace h1 := base_h1.mono hle
                   replace h2 := base_h2.mono hle
                   clear hb3 fsh3 c53 c63 i13 i23 hm3 hi3 hmsh3 hish3
                   have hb3 : SFun.At _ g3 0 f p := ⟨Mem.of_get at3, h0⟩
                   obtain ⟨fsh3, c53, c63, i13, i23⟩ := hb3.get
                   have hm3 : MemN _ _ _ _ _ := ⟨rfl, hb3.1⟩
                   have hi3 := hb3.2
                   have hmsh3 : MemN _ _ _ _ _ := ⟨rfl, fsh3.1⟩
                   have hish3 := fsh3.2
                   clear hb4 c04 i04 hm4 hi4
                   have hb4 : Prt.At _ g4 0 m q := ⟨Mem.of_get at4, h1⟩
                   obtain ⟨c04, i04⟩ := hb4.get
                   have hm4 : MemN _ _ _ _ _ := ⟨rfl, hb4.1⟩
                   have hi4 := hb4.2
                   clear hb5 c05 i05 hm5 hi5
                   have hb5 : Prt.At _ g5 0 m' q' := ⟨Mem.of_get at5, h2⟩
                   obtain ⟨c05, i05⟩ := hb5.get
                   have hm5 : MemN _ _ _ _ _ := ⟨rfl, hb5.1⟩
                   have hi5 := hb5.2
                   clear i8x6
                   have i8x6 := v8x6.inn
                   clear mm8x6
                   have mm8x6 : MemN _ _ _ _ _ := ⟨rfl, Mem.of_get at8x6⟩
                   clear mm12003
                   have mm12003 : MemN _ _ _ _ _ := ⟨rfl, Mem.of_get at12003⟩
                   clear mm13003
                   have mm13003 : MemN _ _ _ _ _ := ⟨rfl, Mem.of_get at13003⟩
                   clear mm14003
                   have mm14003 : MemN _ _ _ _ _ := ⟨rfl, Mem.of_get at14003⟩
                   clear mm15008
                   have mm15008 : MemN _ _ _ _ _ := ⟨rfl, Mem.of_get at15008⟩
                   clear i69
                   have i69 := v69.inn
                   clear i74
                   have i74 := v74.inn
                   clear i79
                   have i79 := v79.inn
                   clear i117x2
                   have i117x2 := v117x2.inn
                   clear i119x2
                   have i119x2 := v119x2.inn
                   clear i121x2
                   have i121x2 := v121x2.inn
                   have i122x2 := v122x2.inn
                   replace hf0 := hf0.trans le122x2
                   refine .mB rfl rfl rfl rfl hbl (.move rfl) ?_
                   refine .mB rfl rfl rfl rfl hbl (.extract rfl rfl) ?_
                   refine .mB rfl rfl rfl rfl hbl (.extract rfl rfl) ?_
                   refine .r1 rfl rfl rfl (.fillR rfl sz_34_VPrt rfl rfl rfl rfl (by assumption) (by first | rfl | exact Nat.le_of_ble_eq_true rfl | simp)) ?_
                   rintro _ H38011x2 ⟨rfl, st38011x2, at38011x2⟩
                   replace hbl := hbl.st st38011x2 (fun k hk => ⟨by omega, trivial⟩)
                   refine ⟨hbl, ?_⟩
                   have nx_H38011x2 := st38011x2.nx
                   replace hle := hle.st st38011x2 (fun k hk => ⟨by omega, trivial⟩)
                   replace at3 := st38011x2.same _ _ ⟨by omega, trivial⟩ at3
                   replace at4 := st38011x2.same _ _ ⟨by omega, trivial⟩ at4
                   replace at5 := st38011x2.same _ _ ⟨by omega, trivial⟩ at5
                   replace at8x6 := st38011x2.same _ _ ⟨by omega, trivial⟩ at8x6
                   replace at12003 := st38011x2.same _ _ ⟨by omega, trivial⟩ at12003
                   replace at13003 := st38011x2.same _ _ ⟨by omega, trivial⟩ at13003
                   replace at14003 := st38011x2.same _ _ ⟨by omega, trivial⟩ at14003
                   replace at15008 := st38011x2.same _ _ ⟨by omega, trivial⟩ at15008
                   replace lv_v8x6 := Keep.st lv_v8x6 st38011x2 (fun k hb hk => ⟨by omega, trivial⟩)
                   replace v8x6 := bs_v8x6.keep lv_v8x6 (Nat.le_refl _)
                   replace lv_v69 := Keep.st lv_v69 st38011x2 (fun k hb hk => ⟨by omega, trivial⟩)
                   replace v69 := bs_v69.keep lv_v69 (Nat.le_refl _)
                   replace lv_v74 := Keep.st lv_v74 st38011x2 (fun k hb hk => ⟨by omega, trivial⟩)
                   replace v74 := bs_v74.keep lv_v74 (Nat.le_refl _)
                   replace lv_v79 := Keep.st lv_v79 st38011x2 (fun k hb hk => ⟨by omega, trivial⟩)
                   replace v79 := bs_v79.keep lv_v79 (Nat.le_refl _)
                   replace lv_hd106 := Keep.st lv_hd106 st38011x2 (fun k hb hk => ⟨by omega, trivial⟩)
                   replace hd106 := bs_hd106.keep lv_hd106 (Nat.le_refl _)
                   replace lv_wd106 := Keep.st lv_wd106 st38011x2 (fun k hb hk => ⟨by omega, trivial⟩)
                   replace wd106 := bs_wd106.keep lv_wd106 (Nat.le_refl _)
                   replace lv_v117x2 := Keep.st lv_v117x2 st38011x2 (fun k hb hk => ⟨by omega, trivial⟩)
                   replace v117x2 := bs_v117x2.keep lv_v117x2 (Nat.le_refl _)
                   replace lv_v119x2 := Keep.st lv_v119x2 st38011x2 (fun k hb hk => ⟨by omega, trivial⟩)
                   replace v119x2 := bs_v119x2.keep lv_v119x2 (Nat.le_refl _)
                   replace lv_v121x2 := Keep.st lv_v121x2 st38011x2 (fun k hb hk => ⟨by omega, trivial⟩)
                   replace v121x2 := bs_v121x2.keep lv_v121x2 (Nat.le_refl _)
                   replace lv_v122x2 := Keep.st lv_v122x2 st38011x2 (fun k hb hk => ⟨by omega, trivial⟩)
                   replace v122x2 := bs_v122x2.keep lv_v122x2 (Nat.le_refl _)
                   have lt_at38011x2 := GHeap.lt_of_get at38011x2
                   replace h0 := base_h0.mono hle
                   replace h1 := base_h1.mono hle
                   replace h2 := base_h2.mono hle
                   clear hb3 fsh3 c53 c63 i13 i23 hm3 hi3 hmsh3 hish3
                   have hb3 : SFun.At _ g3 0 f p := ⟨Mem.of_get at3, h0⟩
                   obtain ⟨fsh3, c53, c63, i13, i23⟩ := hb3.get
                   have hm3 : MemN _ _ _ _ _ := ⟨rfl, hb3.1⟩
                   have hi3 := hb3.2
                   have hmsh3 : MemN _ _ _ _ _ := ⟨rfl, fsh3.1⟩
                   have hish3 := fsh3.2
                   clear hb4 c04 i04 hm4 hi4
                   have hb4 : Prt.At _ g4 0 m q := ⟨Mem.of_get at4, h1⟩
                   obtain ⟨c04, i04⟩ := hb4.get
                   have hm4 : MemN _ _ _ _ _ := ⟨rfl, hb4.1⟩
                   have hi4 := hb4.2
                   clear hb5 c05 i05 hm5 hi5
                   have hb5 : Prt.At _ g5 0 m' q' := ⟨Mem.of_get at5, h2⟩
                   obtain ⟨c05, i05⟩ := hb5.get
                   have hm5 : MemN _ _ _ _ _ := ⟨rfl, hb5.1⟩
                   have hi5 := hb5.2
                   clear i8x6
                   have i8x6 := v8x6.inn
                   clear mm8x6
                   have mm8x6 : MemN _ _ _ _ _ := ⟨rfl, Mem.of_get at8x6⟩
                   clear mm12003
                   have mm12003 : MemN _ _ _ _ _ := ⟨rfl, Mem.of_get at12003⟩
                   clear mm13003
                   have mm13003 : MemN _ _ _ _ _ := ⟨rfl, Mem.of_get at13003⟩
                   clear mm14003
                   have mm14003 : MemN _ _ _ _ _ := ⟨rfl, Mem.of_get at14003⟩
                   clear mm15008
                   have mm15008 : MemN _ _ _ _ _ := ⟨rfl, Mem.of_get at15008⟩
                   clear i69
                   have i69 := v69.inn
                   clear i74
                   have i74 := v74.inn
                   clear i79
                   have i79 := v79.inn
                   clear i117x2
                   have i117x2 := v117x2.inn
                   clear i119x2
                   have i119x2 := v119x2.inn
                   clear i121x2
                   have i121x2 := v121x2.inn
                   clear i122x2
                   have i122x2 := v122x2.inn
                   have mm38011x2 : MemN _ _ _ _ _ := ⟨rfl, Mem.of_get at38011x2⟩
                   replace hf0 := hf0.st st38011x2 (fun k hk => ⟨by omega, trivial⟩)
                   refine .mB rfl rfl rfl rfl hbl (.assign rfl) ?_
                   refine .done ?_
                   exact ⟨_, p122x2, ⟨rfl, rfl, rfl, rfl, rfl, rfl, rfl, rfl, rfl, rfl, rfl, rfl, rfl, rfl, rfl, rfl, rfl, rfl, rfl, rfl, rfl, rfl, rfl, rfl, rfl, rfl, rfl, rfl, rfl, rfl, rfl, rfl, rfl, rfl, rfl, rfl, rfl, rfl, rfl, rfl, rfl, rfl, rfl, rfl, rfl, rfl, rfl, rfl, rfl, rfl, rfl, rfl, rfl, rfl, rfl, rfl, rfl, rfl, rfl, rfl, rfl, rfl, rfl, rfl, rfl, rfl, rfl, rfl, rfl, rfl, rfl, rfl, rfl, rfl, rfl, rfl, rfl, rfl, rfl, rfl, rfl, rfl, rfl, rfl, rfl, rfl, rfl, rfl, rfl, rfl, rfl, rfl, rfl, rfl, rfl, rfl, rfl, rfl, rfl, rfl, rfl, rfl, rfl, rfl, rfl, trivial⟩, hf0, by omega, at38011x2, v122x2.keep (.of_le (.refl _)) (by omega)⟩
                  ·
                   refine .call1 rfl rfl rfl rfl rfl @Try.call11 rfl (toPart_c) ?_
                   rintro _ H119x3 ⟨le119x3, p119x3, rfl, v119x3⟩
                   replace hbl := hbl.trans le119x3
                   refine ⟨hbl, ?_⟩
                   have nx_H119x3 := le119x3.1
                   replace hle := hle.trans le119x3
                   replace at3 := le119x3.2 _ _ at3
                   replace at4 := le119x3.2 _ _ at4
                   replace at5 := le119x3.2 _ _ at5
                   replace at8x6 := le119x3.2 _ _ at8x6
                   replace at12003 := le119x3.2 _ _ at12003
                   replace at13003 := le119x3.2 _ _ at13003
                   replace at14003 := le119x3.2 _ _ at14003
                   replace at15008 := le119x3.2 _ _ at15008
                   replace lv_v8x6 := Keep.le lv_v8x6 le119x3
                   replace v8x6 := bs_v8x6.keep lv_v8x6 (Nat.le_refl _)
                   replace lv_v69 := Keep.le lv_v69 le119x3
                   replace v69 := bs_v69.keep lv_v69 (Nat.le_refl _)
                   replace lv_v74 := Keep.le lv_v74 le119x3
                   replace v74 := bs_v74.keep lv_v74 (Nat.le_refl _)
                   replace lv_v79 := Keep.le lv_v79 le119x3
                   replace v79 := bs_v79.keep lv_v79 (Nat.le_refl _)
                   replace lv_hd106 := Keep.le lv_hd106 le119x3
                   replace hd106 := bs_hd106.keep lv_hd106 (Nat.le_refl _)
                   replace lv_wd106 := Keep.le lv_wd106 le119x3
                   replace wd106 := bs_wd106.keep lv_wd106 (Nat.le_refl _)
                   replace lv_v117x2 := Keep.le lv_v117x2 le119x3
                   replace v117x2 := bs_v117x2.keep lv_v117x2 (Nat.le_refl _)
                   have bs_v119x3 := v119x3
                   have lv_v119x3 : Keep H117x2.next H119x3 H119x3 := fun _ _ _ h => h
                   replace h0 := base_h0.mono hle
                   replace h1 := base_h1.mono hle
                   replace h2 := base_h2.mono hle
                   clear hb3 fsh3 c53 c63 i13 i23 hm3 hi3 hmsh3 hish3
                   have hb3 : SFun.At _ g3 0 f p := ⟨Mem.of_get at3, h0⟩
                   obtain ⟨fsh3, c53, c63, i13, i23⟩ := hb3.get
                   have hm3 : MemN _ _ _ _ _ := ⟨rfl, hb3.1⟩
                   have hi3 := hb3.2
                   have hmsh3 : MemN _ _ _ _ _ := ⟨rfl, fsh3.1⟩
                   have hish3 := fsh3.2
                   clear hb4 c04 i04 hm4 hi4
                   have hb4 : Prt.At _ g4 0 m q := ⟨Mem.of_get at4, h1⟩
                   obtain ⟨c04, i04⟩ := hb4.get
                   have hm4 : MemN _ _ _ _ _ := ⟨rfl, hb4.1⟩
                   have hi4 := hb4.2
                   clear hb5 c05 i05 hm5 hi5
                   have hb5 : Prt.At _ g5 0 m' q' := ⟨Mem.of_get at5, h2⟩
                   obtain ⟨c05, i05⟩ := hb5.get
                   have hm5 : MemN _ _ _ _ _ := ⟨rfl, hb5.1⟩
                   have hi5 := hb5.2
                   clear i8x6
                   have i8x6 := v8x6.inn
                   clear mm8x6
                   have mm8x6 : MemN _ _ _ _ _ := ⟨rfl, Mem.of_get at8x6⟩
                   clear mm12003
                   have mm12003 : MemN _ _ _ _ _ := ⟨rfl, Mem.of_get at12003⟩
                   clear mm13003
                   have mm13003 : MemN _ _ _ _ _ := ⟨rfl, Mem.of_get at13003⟩
                   clear mm14003
                   have mm14003 : MemN _ _ _ _ _ := ⟨rfl, Mem.of_get at14003⟩
                   clear mm15008
                   have mm15008 : MemN _ _ _ _ _ := ⟨rfl, Mem.of_get at15008⟩
                   clear i69
                   have i69 := v69.inn
                   clear i74
                   have i74 := v74.inn
                   clear i79
                   have i79 := v79.inn
                   clear i117x2
                   have i117x2 := v117x2.inn
                   have i119x3 := v119x3.inn
                   replace hf0 := hf0.trans le119x3
                   refine .orI ?_ ?_
                   ·
                    refine .c1 rfl rfl rfl rfl (.allocR rfl ze_34_VPrt rfl) ?_
                    rintro _ H18x3 ⟨g18x3, rfl, le18x3, ge18x3, at18x3⟩
                    replace hbl := hbl.trans le18x3
                    refine ⟨hbl, ?_⟩
                    have nx_H18x3 := le18x3.1
                    replace hle := hle.trans le18x3
                    replace at3 := le18x3.2 _ _ at3
                    replace at4 := le18x3.2 _ _ at4
                    replace at5 := le18x3.2 _ _ at5
                    replace at8x6 := le18x3.2 _ _ at8x6
                    replace at12003 := le18x3.2 _ _ at12003
                    replace at13003 := le18x3.2 _ _ at13003
                    replace at14003 := le18x3.2 _ _ at14003
                    replace at15008 := le18x3.2 _ _ at15008
                    replace lv_v8x6 := Keep.le lv_v8x6 le18x3
                    replace v8x6 := bs_v8x6.keep lv_v8x6 (Nat.le_refl _)
                    replace lv_v69 := Keep.le lv_v69 le18x3
                    replace v69 := bs_v69.keep lv_v69 (Nat.le_refl _)
                    replace lv_v74 := Keep.le lv_v74 le18x3
                    replace v74 := bs_v74.keep lv_v74 (Nat.le_refl _)
                    replace lv_v79 := Keep.le lv_v79 le18x3
                    replace v79 := bs_v79.keep lv_v79 (Nat.le_refl _)
                    replace lv_hd106 := Keep.le lv_hd106 le18x3
                    replace hd106 := bs_hd106.keep lv_hd106 (Nat.le_refl _)
                    replace lv_wd106 := Keep.le lv_wd106 le18x3
                    replace wd106 := bs_wd106.keep lv_wd106 (Nat.le_refl _)
                    replace lv_v117x2 := Keep.le lv_v117x2 le18x3
                    replace v117x2 := bs_v117x2.keep lv_v117x2 (Nat.le_refl _)
                    replace lv_v119x3 := Keep.le lv_v119x3 le18x3
                    replace v119x3 := bs_v119x3.keep lv_v119x3 (Nat.le_refl _)
                    have lt_at18x3 := GHeap.lt_of_get at18x3
                    replace h0 := base_h0.mono hle
                    replace h1 := base_h1.mono hle
                    replace h2 := base_h2.mono hle
                    clear hb3 fsh3 c53 c63 i13 i23 hm3 hi3 hmsh3 hish3
                    have hb3 : SFun.At _ g3 0 f p := ⟨Mem.of_get at3, h0⟩
                    obtain ⟨fsh3, c53, c63, i13, i23⟩ := hb3.get
                    have hm3 : MemN _ _ _ _ _ := ⟨rfl, hb3.1⟩
                    have hi3 := hb3.2
                    have hmsh3 : MemN _ _ _ _ _ := ⟨rfl, fsh3.1⟩
                    have hish3 := fsh3.2
                    clear hb4 c04 i04 hm4 hi4
                    have hb4 : Prt.At _ g4 0 m q := ⟨Mem.of_get at4, h1⟩
                    obtain ⟨c04, i04⟩ := hb4.get
                    have hm4 : MemN _ _ _ _ _ := ⟨rfl, hb4.1⟩
                    have hi4 := hb4.2
                    clear hb5 c05 i05 hm5 hi5
                    have hb5 : Prt.At _ g5 0 m' q' := ⟨Mem.of_get at5, h2⟩
                    obtain ⟨c05, i05⟩ := hb5.get
                    have hm5 : MemN _ _ _ _ _ := ⟨rfl, hb5.1⟩
                    have hi5 := hb5.2
                    clear i8x6
                    have i8x6 := v8x6.inn
                    clear mm8x6
                    have mm8x6 : MemN _ _ _ _ _ := ⟨rfl, Mem.of_get at8x6⟩
                    clear mm12003
                    have mm12003 : MemN _ _ _ _ _ := ⟨rfl, Mem.of_get at12003⟩
                    clear mm13003
                    have mm13003 : MemN _ _ _ _ _ := ⟨rfl, Mem.of_get at13003⟩
                    clear mm14003
                    have mm14003 : MemN _ _ _ _ _ := ⟨rfl, Mem.of_get at14003⟩
                    clear mm15008
                    have mm15008 : MemN _ _ _ _ _ := ⟨rfl, Mem.of_get at15008⟩
                    clear i69
                    have i69 := v69.inn
                    clear i74
                    have i74 := v74.inn
                    clear i79
                    have i79 := v79.inn
                    clear i117x2
                    have i117x2 := v117x2.inn
                    clear i119x3
                    have i119x3 := v119x3.inn
                    replace hf0 := hf0.trans le18x3
                    refine .call1 rfl rfl rfl rfl rfl @Try.call11 rfl (toPart_c) ?_
                    rintro _ H121x3 ⟨le121x3, p121x3, rfl, v121x3⟩
                    replace hbl := hbl.trans le121x3
                    refine ⟨hbl, ?_⟩
                    have nx_H121x3 := le121x3.1
                    replace hle := hle.trans le121x3
                    replace at3 := le121x3.2 _ _ at3
                    replace at4 := le121x3.2 _ _ at4
                    replace at5 := le121x3.2 _ _ at5
                    replace at8x6 := le121x3.2 _ _ at8x6
                    replace at12003 := le121x3.2 _ _ at12003
                    replace at13003 := le121x3.2 _ _ at13003
                    replace at14003 := le121x3.2 _ _ at14003
                    replace at15008 := le121x3.2 _ _ at15008
                    replace at18x3 := le121x3.2 _ _ at18x3
                    replace lv_v8x6 := Keep.le lv_v8x6 le121x3
                    replace v8x6 := bs_v8x6.keep lv_v8x6 (Nat.le_refl _)
                    replace lv_v69 := Keep.le lv_v69 le121x3
                    replace v69 := bs_v69.keep lv_v69 (Nat.le_refl _)
                    replace lv_v74 := Keep.le lv_v74 le121x3
                    replace v74 := bs_v74.keep lv_v74 (Nat.le_refl _)
                    replace lv_v79 := Keep.le lv_v79 le121x3
                    replace v79 := bs_v79.keep lv_v79 (Nat.le_refl _)
                    replace lv_hd106 := Keep.le lv_hd106 le121x3
                    replace hd106 := bs_hd106.keep lv_hd106 (Nat.le_refl _)
                    replace lv_wd106 := Keep.le lv_wd106 le121x3
                    replace wd106 := bs_wd106.keep lv_wd106 (Nat.le_refl _)
                    replace lv_v117x2 := Keep.le lv_v117x2 le121x3
                    replace v117x2 := bs_v117x2.keep lv_v117x2 (Nat.le_refl _)
                    replace lv_v119x3 := Keep.le lv_v119x3 le121x3
                    replace v119x3 := bs_v119x3.keep lv_v119x3 (Nat.le_refl _)
                    have bs_v121x3 := v121x3
                    have lv_v121x3 : Keep H18x3.next H121x3 H121x3 := fun _ _ _ h => h
                    replace h0 := base_h0.mono hle
                    replace h1 := base_h1.mono hle
                    replace h2 := base_h2.mono hle
                    clear hb3 fsh3 c53 c63 i13 i23 hm3 hi3 hmsh3 hish3
                    have hb3 : SFun.At _ g3 0 f p := ⟨Mem.of_get at3, h0⟩
                    obtain ⟨fsh3, c53, c63, i13, i23⟩ := hb3.get
                    have hm3 : MemN _ _ _ _ _ := ⟨rfl, hb3.1⟩
                    have hi3 := hb3.2
                    have hmsh3 : MemN _ _ _ _ _ := ⟨rfl, fsh3.1⟩
                    have hish3 := fsh3.2
                    clear hb4 c04 i04 hm4 hi4
                    have hb4 : Prt.At _ g4 0 m q := ⟨Mem.of_get at4, h1⟩
                    obtain ⟨c04, i04⟩ := hb4.get
                    have hm4 : MemN _ _ _ _ _ := ⟨rfl, hb4.1⟩
                    have hi4 := hb4.2
                    clear hb5 c05 i05 hm5 hi5
                    have hb5 : Prt.At _ g5 0 m' q' := ⟨Mem.of_get at5, h2⟩
                    obtain ⟨c05, i05⟩ := hb5.get
                    have hm5 : MemN _ _ _ _ _ := ⟨rfl, hb5.1⟩
                    have hi5 := hb5.2
                    clear i8x6
                    have i8x6 := v8x6.inn
                    clear mm8x6
                    have mm8x6 : MemN _ _ _ _ _ := ⟨rfl, Mem.of_get at8x6⟩
                    clear mm12003
                    have mm12003 : MemN _ _ _ _ _ := ⟨rfl, Mem.of_get at12003⟩
                    clear mm13003
                    have mm13003 : MemN _ _ _ _ _ := ⟨rfl, Mem.of_get at13003⟩
                    clear mm14003
                    have mm14003 : MemN _ _ _ _ _ := ⟨rfl, Mem.of_get at14003⟩
                    clear mm15008
                    have mm15008 : MemN _ _ _ _ _ := ⟨rfl, Mem.of_get at15008⟩
                    clear i69
                    have i69 := v69.inn
                    clear i74
                    have i74 := v74.inn
                    clear i79
                    have i79 := v79.inn
                    clear i117x2
                    have i117x2 := v117x2.inn
                    clear i119x3
                    have i119x3 := v119x3.inn
                    have i121x3 := v121x3.inn
                    replace hf0 := hf0.trans le121x3
                    refine .call1 rfl rfl rfl rfl rfl @Try.call25 rfl (implJoinParts_c) ?_
                    rintro _ H122x3 ⟨le122x3, p122x3, rfl, v122x3⟩
                    replace hbl := hbl.trans le122x3
                    refine ⟨hbl, ?_⟩
                    have nx_H122x3 := le122x3.1
                    replace hle := hle.trans le122x3
                    replace at3 := le122x3.2 _ _ at3
                    replace at4 := le122x3.2 _ _ at4
                    replace at5 := le122x3.2 _ _ at5
                    replace at8x6 := le122x3.2 _ _ at8x6
                    replace at12003 := le122x3.2 _ _ at12003
                    replace at13003 := le122x3.2 _ _ at13003
                    replace at14003 := le122x3.2 _ _ at14003
                    replace at15008 := le122x3.2 _ _ at15008
                    replace at18x3 := le122x3.2 _ _ at18x3
                    replace lv_v8x6 := Keep.le lv_v8x6 le122x3
                    replace v8x6 := bs_v8x6.keep lv_v8x6 (Nat.le_refl _)
                    replace lv_v69 := Keep.le lv_v69 le122x3
                    replace v69 := bs_v69.keep lv_v69 (Nat.le_refl _)
                    replace lv_v74 := Keep.le lv_v74 le122x3
                    replace v74 := bs_v74.keep lv_v74 (Nat.le_refl _)
                    replace lv_v79 := Keep.le lv_v79 le122x3
                    replace v79 := bs_v79.keep lv_v79 (Nat.le_refl _)
                    replace lv_hd106 := Keep.le lv_hd106 le122x3
                    replace hd106 := bs_hd106.keep lv_hd106 (Nat.le_refl _)
                    replace lv_wd106 := Keep.le lv_wd106 le122x3
                    replace wd106 := bs_wd106.keep lv_wd106 (Nat.le_refl _)
                    replace lv_v117x2 := Keep.le lv_v117x2 le122x3
                    replace v117x2 := bs_v117x2.keep lv_v117x2 (Nat.le_refl _)
                    replace lv_v119x3 := Keep.le lv_v119x3 le122x3
                    replace v119x3 := bs_v119x3.keep lv_v119x3 (Nat.le_refl _)
                    replace lv_v121x3 := Keep.le lv_v121x3 le122x3
                    replace v121x3 := bs_v121x3.keep lv_v121x3 (Nat.le_refl _)
                    have bs_v122x3 := v122x3
                    have lv_v122x3 : Keep H121x3.next H122x3 H122x3 := fun _ _ _ h => h
                    replace h0 := base_h0.mono hle
                    replace h1 := base_h1.mono hle
                    replace h2 := base_h2.mono hle
                    clear hb3 fsh3 c53 c63 i13 i23 hm3 hi3 hmsh3 hish3
                    have hb3 : SFun.At _ g3 0 f p := ⟨Mem.of_get at3, h0⟩
                    obtain ⟨fsh3, c53, c63, i13, i23⟩ := hb3.get
                    have hm3 : MemN _ _ _ _ _ := ⟨rfl, hb3.1⟩
                    have hi3 := hb3.2
                    have hmsh3 : MemN _ _ _ _ _ := ⟨rfl, fsh3.1⟩
                    have hish3 := fsh3.2
                    clear hb4 c04 i04 hm4 hi4
                    have hb4 : Prt.At _ g4 0 m q := ⟨Mem.of_get at4, h1⟩
                    obtain ⟨c04, i04⟩ := hb4.get
                    have hm4 : MemN _ _ _ _ _ := ⟨rfl, hb4.1⟩
                    have hi4 := hb4.2
                    clear hb5 c05 i05 hm5 hi5
                    have hb5 : Prt.At _ g5 0 m' q' := ⟨Mem.of_get at5, h2⟩
                    obtain ⟨c05, i05⟩ := hb5.get
                    have hm5 : MemN _ _ _ _ _ := ⟨rfl, hb5.1⟩
                    have hi5 := hb5.2
                    clear i8x6
                    have i8x6 := v8x6.inn
                    clear mm8x6
                    have mm8x6 : MemN _ _ _ _ _ := ⟨rfl, Mem.of_get at8x6⟩
                    clear mm12003
                    have mm12003 : MemN _ _ _ _ _ := ⟨rfl, Mem.of_get at12003⟩
                    clear mm13003
                    have mm13003 : MemN _ _ _ _ _ := ⟨rfl, Mem.of_get at13003⟩
                    clear mm14003
                    have mm14003 : MemN _ _ _ _ _ := ⟨rfl, Mem.of_get at14003⟩
                    clear mm15008
                    have mm15008 : MemN _ _ _ _ _ := ⟨rfl, Mem.of_get at15008⟩
                    clear i69
                    have i69 := v69.inn
                    clear i74
                    have i74 := v74.inn
                    clear i79
                    have i79 := v79.inn
                    clear i117x2
                    have i117x2 := v117x2.inn
                    clear i119x3
                    have i119x3 := v119x3.inn
                    clear i121x3
                    have i121x3 := v121x3.inn
                    have i122x3 := v122x3.inn
                    replace hf0 := hf0.trans le122x3
                    refine .mB rfl rfl rfl rfl hbl (.move rfl) ?_
                    refine .mB rfl rfl rfl rfl hbl (.extract rfl rfl) ?_
                    refine .mB rfl rfl rfl rfl hbl (.extract rfl rfl) ?_
                    refine .r1 rfl rfl rfl (.fillR rfl sz_34_VPrt rfl rfl rfl rfl (by assumption) (by first | rfl | exact Nat.le_of_ble_eq_true rfl | simp)) ?_
                    rintro _ H38011x3 ⟨rfl, st38011x3, at38011x3⟩
                    replace hbl := hbl.st st38011x3 (fun k hk => ⟨by omega, trivial⟩)
                    refine ⟨hbl, ?_⟩
                    have nx_H38011x3 := st38011x3.nx
                    replace hle := hle.st st38011x3 (fun k hk => ⟨by omega, trivial⟩)
                    replace at3 := st38011x3.same _ _ ⟨by omega, trivial⟩ at3
                    replace at4 := st38011x3.same _ _ ⟨by omega, trivial⟩ at4
                    replace at5 := st38011x3.same _ _ ⟨by omega, trivial⟩ at5
                    replace at8x6 := st38011x3.same _ _ ⟨by omega, trivial⟩ at8x6
                    replace at12003 := st38011x3.same _ _ ⟨by omega, trivial⟩ at12003
                    replace at13003 := st38011x3.same _ _ ⟨by omega, trivial⟩ at13003
                    replace at14003 := st38011x3.same _ _ ⟨by omega, trivial⟩ at14003
                    replace at15008 := st38011x3.same _ _ ⟨by omega, trivial⟩ at15008
                    replace lv_v8x6 := Keep.st lv_v8x6 st38011x3 (fun k hb hk => ⟨by omega, trivial⟩)
                    replace v8x6 := bs_v8x6.keep lv_v8x6 (Nat.le_refl _)
                    replace lv_v69 := Keep.st lv_v69 st38011x3 (fun k hb hk => ⟨by omega, trivial⟩)
                    replace v69 := bs_v69.keep lv_v69 (Nat.le_refl _)
                    replace lv_v74 := Keep.st lv_v74 st38011x3 (fun k hb hk => ⟨by omega, trivial⟩)
                    replace v74 := bs_v74.keep lv_v74 (Nat.le_refl _)
                    replace lv_v79 := Keep.st lv_v79 st38011x3 (fun k hb hk => ⟨by omega, trivial⟩)
                    replace v79 := bs_v79.keep lv_v79 (Nat.le_refl _)
                    replace lv_hd106 := Keep.st lv_hd106 st38011x3 (fun k hb hk => ⟨by omega, trivial⟩)
                    replace hd106 := bs_hd106.keep lv_hd106 (Nat.le_refl _)
                    replace lv_wd106 := Keep.st lv_wd106 st38011x3 (fun k hb hk => ⟨by omega, trivial⟩)
                    replace wd106 := bs_wd106.keep lv_wd106 (Nat.le_refl _)
                    replace lv_v117x2 := Keep.st lv_v117x2 st38011x3 (fun k hb hk => ⟨by omega, trivial⟩)
                    replace v117x2 := bs_v117x2.keep lv_v117x2 (Nat.le_refl _)
                    replace lv_v119x3 := Keep.st lv_v119x3 st38011x3 (fun k hb hk => ⟨by omega, trivial⟩)
                    replace v119x3 := bs_v119x3.keep lv_v119x3 (Nat.le_refl _)
                    replace lv_v121x3 := Keep.st lv_v121x3 st38011x3 (fun k hb hk => ⟨by omega, trivial⟩)
                    replace v121x3 := bs_v121x3.keep lv_v121x3 (Nat.le_refl _)
                    replace lv_v122x3 := Keep.st lv_v122x3 st38011x3 (fun k hb hk => ⟨by omega, trivial⟩)
                    replace v122x3 := bs_v122x3.keep lv_v122x3 (Nat.le_refl _)
                    have lt_at38011x3 := GHeap.lt_of_get at38011x3
                    replace h0 := base_h0.mono hle
                    replace h1 := base_h1.mono hle
                    replace h2 := base_h2.mono hle
                    clear hb3 fsh3 c53 c63 i13 i23 hm3 hi3 hmsh3 hish3
                    have hb3 : SFun.At _ g3 0 f p := ⟨Mem.of_get at3, h0⟩
                    obtain ⟨fsh3, c53, c63, i13, i23⟩ := hb3.get
                    have hm3 : MemN _ _ _ _ _ := ⟨rfl, hb3.1⟩
                    have hi3 := hb3.2
                    have hmsh3 : MemN _ _ _ _ _ := ⟨rfl, fsh3.1⟩
                    have hish3 := fsh3.2
                    clear hb4 c04 i04 hm4 hi4
                    have hb4 : Prt.At _ g4 0 m q := ⟨Mem.of_get at4, h1⟩
                    obtain ⟨c04, i04⟩ := hb4.get
                    have hm4 : MemN _ _ _ _ _ := ⟨rfl, hb4.1⟩
                    have hi4 := hb4.2
                    clear hb5 c05 i05 hm5 hi5
                    have hb5 : Prt.At _ g5 0 m' q' := ⟨Mem.of_get at5, h2⟩
                    obtain ⟨c05, i05⟩ := hb5.get
                    have hm5 : MemN _ _ _ _ _ := ⟨rfl, hb5.1⟩
                    have hi5 := hb5.2
                    clear i8x6
                    have i8x6 := v8x6.inn
                    clear mm8x6
                    have mm8x6 : MemN _ _ _ _ _ := ⟨rfl, Mem.of_get at8x6⟩
                    clear mm12003
                    have mm12003 : MemN _ _ _ _ _ := ⟨rfl, Mem.of_get at12003⟩
                    clear mm13003
                    have mm13003 : MemN _ _ _ _ _ := ⟨rfl, Mem.of_get at13003⟩
                    clear mm14003
                    have mm14003 : MemN _ _ _ _ _ := ⟨rfl, Mem.of_get at14003⟩
                    clear mm15008
                    have mm15008 : MemN _ _ _ _ _ := ⟨rfl, Mem.of_get at15008⟩
                    clear i69
                    have i69 := v69.inn
                    clear i74
                    have i74 := v74.inn
                    clear i79
                    have i79 := v79.inn
                    clear i117x2
                    have i117x2 := v117x2.inn
                    clear i119x3
                    have i119x3 := v119x3.inn
                    clear i121x3
                    have i121x3 := v121x3.inn
                    clear i122x3
                    have i122x3 := v122x3.inn
                    have mm38011x3 : MemN _ _ _ _ _ := ⟨rfl, Mem.of_get at38011x3⟩
                    replace hf0 := hf0.st st38011x3 (fun k hk => ⟨by omega, trivial⟩)
                    refine .mB rfl rfl rfl rfl hbl (.assign rfl) ?_
                    refine .done ?_
                    exact ⟨_, p122x3, ⟨rfl, rfl, rfl, rfl, rfl, rfl, rfl, rfl, rfl, rfl, rfl, rfl, rfl, rfl, rfl, rfl, rfl, rfl, rfl, rfl, rfl, rfl, rfl, rfl, rfl, rfl, rfl, rfl, rfl, rfl, rfl, rfl, rfl, rfl, rfl, rfl, rfl, rfl, rfl, rfl, rfl, rfl, rfl, rfl, rfl, rfl, rfl, rfl, rfl, rfl, rfl, rfl, rfl, rfl, rfl, rfl, rfl, rfl, rfl, rfl, rfl, rfl, rfl, rfl, rfl, rfl, rfl, rfl, rfl, rfl, rfl, rfl, rfl, rfl, rfl, rfl, rfl, rfl, rfl, rfl, rfl, rfl, rfl, rfl, rfl, rfl, rfl, rfl, rfl, rfl, rfl, rfl, rfl, rfl, rfl, rfl, rfl, rfl, rfl, rfl, rfl, rfl, rfl, rfl, rfl, trivial⟩, hf0, by omega, at38011x3, v122x3.keep (.of_le (.refl _)) (by omega)⟩
                   ·
                    refine .call1 rfl rfl rfl rfl rfl @Try.call11 rfl (toPart_c) ?_
                    rintro _ H121x4 ⟨le121x4, p121x4, rfl, v121x4⟩
                    replace hbl := hbl.trans le121x4
                    refine ⟨hbl, ?_⟩
                    have nx_H121x4 := le121x4.1
                    replace hle := hle.trans le121x4
                    replace at3 := le121x4.2 _ _ at3
                    replace at4 := le121x4.2 _ _ at4
                    replace at5 := le121x4.2 _ _ at5
                    replace at8x6 := le121x4.2 _ _ at8x6
                    replace at12003 := le121x4.2 _ _ at12003
                    replace at13003 := le121x4.2 _ _ at13003
                    replace at14003 := le121x4.2 _ _ at14003
                    replace at15008 := le121x4.2 _ _ at15008
                    replace lv_v8x6 := Keep.le lv_v8x6 le121x4
                    replace v8x6 := bs_v8x6.keep lv_v8x6 (Nat.le_refl _)
                    replace lv_v69 := Keep.le lv_v69 le121x4
                    replace v69 := bs_v69.keep lv_v69 (Nat.le_refl _)
                    replace lv_v74 := Keep.le lv_v74 le121x4
                    replace v74 := bs_v74.keep lv_v74 (Nat.le_refl _)
                    replace lv_v79 := Keep.le lv_v79 le121x4
                    replace v79 := bs_v79.keep lv_v79 (Nat.le_refl _)
                    replace lv_hd106 := Keep.le lv_hd106 le121x4
                    replace hd106 := bs_hd106.keep lv_hd106 (Nat.le_refl _)
                    replace lv_wd106 := Keep.le lv_wd106 le121x4
                    replace wd106 := bs_wd106.keep lv_wd106 (Nat.le_refl _)
                    replace lv_v117x2 := Keep.le lv_v117x2 le121x4
                    replace v117x2 := bs_v117x2.keep lv_v117x2 (Nat.le_refl _)
                    replace lv_v119x3 := Keep.le lv_v119x3 le121x4
                    replace v119x3 := bs_v119x3.keep lv_v119x3 (Nat.le_refl _)
                    have bs_v121x4 := v121x4
                    have lv_v121x4 : Keep H119x3.next H121x4 H121x4 := fun _ _ _ h => h
                    replace h0 := base_h0.mono hle
                    replace h1 := base_h1.mono hle
                    replace h2 := base_h2.mono hle
                    clear hb3 fsh3 c53 c63 i13 i23 hm3 hi3 hmsh3 hish3
                    have hb3 : SFun.At _ g3 0 f p := ⟨Mem.of_get at3, h0⟩
                    obtain ⟨fsh3, c53, c63, i13, i23⟩ := hb3.get
                    have hm3 : MemN _ _ _ _ _ := ⟨rfl, hb3.1⟩
                    have hi3 := hb3.2
                    have hmsh3 : MemN _ _ _ _ _ := ⟨rfl, fsh3.1⟩
                    have hish3 := fsh3.2
                    clear hb4 c04 i04 hm4 hi4
                    have hb4 : Prt.At _ g4 0 m q := ⟨Mem.of_get at4, h1⟩
                    obtain ⟨c04, i04⟩ := hb4.get
                    have hm4 : MemN _ _ _ _ _ := ⟨rfl, hb4.1⟩
                    have hi4 := hb4.2
                    clear hb5 c05 i05 hm5 hi5
                    have hb5 : Prt.At _ g5 0 m' q' := ⟨Mem.of_get at5, h2⟩
                    obtain ⟨c05, i05⟩ := hb5.get
                    have hm5 : MemN _ _ _ _ _ := ⟨rfl, hb5.1⟩
                    have hi5 := hb5.2
                    clear i8x6
                    have i8x6 := v8x6.inn
                    clear mm8x6
                    have mm8x6 : MemN _ _ _ _ _ := ⟨rfl, Mem.of_get at8x6⟩
                    clear mm12003
                    have mm12003 : MemN _ _ _ _ _ := ⟨rfl, Mem.of_get at12003⟩
                    clear mm13003
                    have mm13003 : MemN _ _ _ _ _ := ⟨rfl, Mem.of_get at13003⟩
                    clear mm14003
                    have mm14003 : MemN _ _ _ _ _ := ⟨rfl, Mem.of_get at14003⟩
                    clear mm15008
                    have mm15008 : MemN _ _ _ _ _ := ⟨rfl, Mem.of_get at15008⟩
                    clear i69
                    have i69 := v69.inn
                    clear i74
                    have i74 := v74.inn
                    clear i79
                    have i79 := v79.inn
                    clear i117x2
                    have i117x2 := v117x2.inn
                    clear i119x3
                    have i119x3 := v119x3.inn
                    have i121x4 := v121x4.inn
                    replace hf0 := hf0.trans le121x4
                    refine .orI ?_ ?_
                    ·
                     refine .c1 rfl rfl rfl rfl (.allocR rfl ze_34_VPrt rfl) ?_
                     rintro _ H18x4 ⟨g18x4, rfl, le18x4, ge18x4, at18x4⟩
                     replace hbl := hbl.trans le18x4
                     refine ⟨hbl, ?_⟩
                     have nx_H18x4 := le18x4.1
                     replace hle := hle.trans le18x4
                     replace at3 := le18x4.2 _ _ at3
                     replace at4 := le18x4.2 _ _ at4
                     replace at5 := le18x4.2 _ _ at5
                     replace at8x6 := le18x4.2 _ _ at8x6
                     replace at12003 := le18x4.2 _ _ at12003
                     replace at13003 := le18x4.2 _ _ at13003
                     replace at14003 := le18x4.2 _ _ at14003
                     replace at15008 := le18x4.2 _ _ at15008
                     replace lv_v8x6 := Keep.le lv_v8x6 le18x4
                     replace v8x6 := bs_v8x6.keep lv_v8x6 (Nat.le_refl _)
                     replace lv_v69 := Keep.le lv_v69 le18x4
                     replace v69 := bs_v69.keep lv_v69 (Nat.le_refl _)
                     replace lv_v74 := Keep.le lv_v74 le18x4
                     replace v74 := bs_v74.keep lv_v74 (Nat.le_refl _)
                     replace lv_v79 := Keep.le lv_v79 le18x4
                     replace v79 := bs_v79.keep lv_v79 (Nat.le_refl _)
                     replace lv_hd106 := Keep.le lv_hd106 le18x4
                     replace hd106 := bs_hd106.keep lv_hd106 (Nat.le_refl _)
                     replace lv_wd106 := Keep.le lv_wd106 le18x4
                     replace wd106 := bs_wd106.keep lv_wd106 (Nat.le_refl _)
                     replace lv_v117x2 := Keep.le lv_v117x2 le18x4
                     replace v117x2 := bs_v117x2.keep lv_v117x2 (Nat.le_refl _)
                     replace lv_v119x3 := Keep.le lv_v119x3 le18x4
                     replace v119x3 := bs_v119x3.keep lv_v119x3 (Nat.le_refl _)
                     replace lv_v121x4 := Keep.le lv_v121x4 le18x4
                     replace v121x4 := bs_v121x4.keep lv_v121x4 (Nat.le_refl _)
                     have lt_at18x4 := GHeap.lt_of_get at18x4
                     replace h0 := base_h0.mono hle
                     replace h1 := base_h1.mono hle
                     replace h2 := base_h2.mono hle
                     clear hb3 fsh3 c53 c63 i13 i23 hm3 hi3 hmsh3 hish3
                     have hb3 : SFun.At _ g3 0 f p := ⟨Mem.of_get at3, h0⟩
                     obtain ⟨fsh3, c53, c63, i13, i23⟩ := hb3.get
                     have hm3 : MemN _ _ _ _ _ := ⟨rfl, hb3.1⟩
                     have hi3 := hb3.2
                     have hmsh3 : MemN _ _ _ _ _ := ⟨rfl, fsh3.1⟩
                     have hish3 := fsh3.2
                     clear hb4 c04 i04 hm4 hi4
                     have hb4 : Prt.At _ g4 0 m q := ⟨Mem.of_get at4, h1⟩
                     obtain ⟨c04, i04⟩ := hb4.get
                     have hm4 : MemN _ _ _ _ _ := ⟨rfl, hb4.1⟩
                     have hi4 := hb4.2
                     clear hb5 c05 i05 hm5 hi5
                     have hb5 : Prt.At _ g5 0 m' q' := ⟨Mem.of_get at5, h2⟩
                     obtain ⟨c05, i05⟩ := hb5.get
                     have hm5 : MemN _ _ _ _ _ := ⟨rfl, hb5.1⟩
                     have hi5 := hb5.2
                     clear i8x6
                     have i8x6 := v8x6.inn
                     clear mm8x6
                     have mm8x6 : MemN _ _ _ _ _ := ⟨rfl, Mem.of_get at8x6⟩
                     clear mm12003
                     have mm12003 : MemN _ _ _ _ _ := ⟨rfl, Mem.of_get at12003⟩
                     clear mm13003
                     have mm13003 : MemN _ _ _ _ _ := ⟨rfl, Mem.of_get at13003⟩
                     clear mm14003
                     have mm14003 : MemN _ _ _ _ _ := ⟨rfl, Mem.of_get at14003⟩
                     clear mm15008
                     have mm15008 : MemN _ _ _ _ _ := ⟨rfl, Mem.of_get at15008⟩
                     clear i69
                     have i69 := v69.inn
                     clear i74
                     have i74 := v74.inn
                     clear i79
                     have i79 := v79.inn
                     clear i117x2
                     have i117x2 := v117x2.inn
                     clear i119x3
                     have i119x3 := v119x3.inn
                     clear i121x4
                     have i121x4 := v121x4.inn
                     replace hf0 := hf0.trans le18x4
                     refine .call1 rfl rfl rfl rfl rfl @Try.call25 rfl (implJoinParts_c) ?_
                     rintro _ H122x4 ⟨le122x4, p122x4, rfl, v122x4⟩
                     replace hbl := hbl.trans le122x4
                     refine ⟨hbl, ?_⟩
                     have nx_H122x4 := le122x4.1
                     replace hle := hle.trans le122x4
                     replace at3 := le122x4.2 _ _ at3
                     replace at4 := le122x4.2 _ _ at4
                     replace at5 := le122x4.2 _ _ at5
                     replace at8x6 := le122x4.2 _ _ at8x6
                     replace at12003 := le122x4.2 _ _ at12003
                     replace at13003 := le122x4.2 _ _ at13003
                     replace at14003 := le122x4.2 _ _ at14003
                     replace at15008 := le122x4.2 _ _ at15008
                     replace at18x4 := le122x4.2 _ _ at18x4
                     replace lv_v8x6 := Keep.le lv_v8x6 le122x4
                     replace v8x6 := bs_v8x6.keep lv_v8x6 (Nat.le_refl _)
                     replace lv_v69 := Keep.le lv_v69 le122x4
                     replace v69 := bs_v69.keep lv_v69 (Nat.le_refl _)
                     replace lv_v74 := Keep.le lv_v74 le122x4
                     replace v74 := bs_v74.keep lv_v74 (Nat.le_refl _)
                     replace lv_v79 := Keep.le lv_v79 le122x4
                     replace v79 := bs_v79.keep lv_v79 (Nat.le_refl _)
                     replace lv_hd106 := Keep.le lv_hd106 le122x4
                     replace hd106 := bs_hd106.keep lv_hd106 (Nat.le_refl _)
                     replace lv_wd106 := Keep.le lv_wd106 le122x4
                     replace wd106 := bs_wd106.keep lv_wd106 (Nat.le_refl _)
                     replace lv_v117x2 := Keep.le lv_v117x2 le122x4
                     replace v117x2 := bs_v117x2.keep lv_v117x2 (Nat.le_refl _)
                     replace lv_v119x3 := Keep.le lv_v119x3 le122x4
                     replace v119x3 := bs_v119x3.keep lv_v119x3 (Nat.le_refl _)
                     replace lv_v121x4 := Keep.le lv_v121x4 le122x4
                     replace v121x4 := bs_v121x4.keep lv_v121x4 (Nat.le_refl _)
                     have bs_v122x4 := v122x4
                     have lv_v122x4 : Keep H18x4.next H122x4 H122x4 := fun _ _ _ h => h
                     replace h0 := base_h0.mono hle
                     replace h1 := base_h1.mono hle
                     replace h2 := base_h2.mono hle
                     clear hb3 fsh3 c53 c63 i13 i23 hm3 hi3 hmsh3 hish3
                     have hb3 : SFun.At _ g3 0 f p := ⟨Mem.of_get at3, h0⟩
                     obtain ⟨fsh3, c53, c63, i13, i23⟩ := hb3.get
                     have hm3 : MemN _ _ _ _ _ := ⟨rfl, hb3.1⟩
                     have hi3 := hb3.2
                     have hmsh3 : MemN _ _ _ _ _ := ⟨rfl, fsh3.1⟩
                     have hish3 := fsh3.2
                     clear hb4 c04 i04 hm4 hi4
                     have hb4 : Prt.At _ g4 0 m q := ⟨Mem.of_get at4, h1⟩
                     obtain ⟨c04, i04⟩ := hb4.get
                     have hm4 : MemN _ _ _ _ _ := ⟨rfl, hb4.1⟩
                     have hi4 := hb4.2
                     clear hb5 c05 i05 hm5 hi5
                     have hb5 : Prt.At _ g5 0 m' q' := ⟨Mem.of_get at5, h2⟩
                     obtain ⟨c05, i05⟩ := hb5.get
                     have hm5 : MemN _ _ _ _ _ := ⟨rfl, hb5.1⟩
                     have hi5 := hb5.2
                     clear i8x6
                     have i8x6 := v8x6.inn
                     clear mm8x6
                     have mm8x6 : MemN _ _ _ _ _ := ⟨rfl, Mem.of_get at8x6⟩
                     clear mm12003
                     have mm12003 : MemN _ _ _ _ _ := ⟨rfl, Mem.of_get at12003⟩
                     clear mm13003
                     have mm13003 : MemN _ _ _ _ _ := ⟨rfl, Mem.of_get at13003⟩
                     clear mm14003
                     have mm14003 : MemN _ _ _ _ _ := ⟨rfl, Mem.of_get at14003⟩
                     clear mm15008
                     have mm15008 : MemN _ _ _ _ _ := ⟨rfl, Mem.of_get at15008⟩
                     clear i69
                     have i69 := v69.inn
                     clear i74
                     have i74 := v74.inn
                     clear i79
                     have i79 := v79.inn
                     clear i117x2
                     have i117x2 := v117x2.inn
                     clear i119x3
                     have i119x3 := v119x3.inn
                     clear i121x4
                     have i121x4 := v121x4.inn
                     have i122x4 := v122x4.inn
                     replace hf0 := hf0.trans le122x4
                     refine .mB rfl rfl rfl rfl hbl (.move rfl) ?_
                     refine .mB rfl rfl rfl rfl hbl (.extract rfl rfl) ?_
                     refine .mB rfl rfl rfl rfl hbl (.extract rfl rfl) ?_
                     refine .r1 rfl rfl rfl (.fillR rfl sz_34_VPrt rfl rfl rfl rfl (by assumption) (by first | rfl | exact Nat.le_of_ble_eq_true rfl | simp)) ?_
                     rintro _ H38011x4 ⟨rfl, st38011x4, at38011x4⟩
                     replace hbl := hbl.st st38011x4 (fun k hk => ⟨by omega, trivial⟩)
                     refine ⟨hbl, ?_⟩
                     have nx_H38011x4 := st38011x4.nx
                     replace hle := hle.st st38011x4 (fun k hk => ⟨by omega, trivial⟩)
                     replace at3 := st38011x4.same _ _ ⟨by omega, trivial⟩ at3
                     replace at4 := st38011x4.same _ _ ⟨by omega, trivial⟩ at4
                     replace at5 := st38011x4.same _ _ ⟨by omega, trivial⟩ at5
                     replace at8x6 := st38011x4.same _ _ ⟨by omega, trivial⟩ at8x6
                     replace at12003 := st38011x4.same _ _ ⟨by omega, trivial⟩ at12003
                     replace at13003 := st38011x4.same _ _ ⟨by omega, trivial⟩ at13003
                     replace at14003 := st38011x4.same _ _ ⟨by omega, trivial⟩ at14003
                     replace at15008 := st38011x4.same _ _ ⟨by omega, trivial⟩ at15008
                     replace lv_v8x6 := Keep.st lv_v8x6 st38011x4 (fun k hb hk => ⟨by omega, trivial⟩)
                     replace v8x6 := bs_v8x6.keep lv_v8x6 (Nat.le_refl _)
                     replace lv_v69 := Keep.st lv_v69 st38011x4 (fun k hb hk => ⟨by omega, trivial⟩)
                     replace v69 := bs_v69.keep lv_v69 (Nat.le_refl _)
                     replace lv_v74 := Keep.st lv_v74 st38011x4 (fun k hb hk => ⟨by omega, trivial⟩)
                     replace v74 := bs_v74.keep lv_v74 (Nat.le_refl _)
                     replace lv_v79 := Keep.st lv_v79 st38011x4 (fun k hb hk => ⟨by omega, trivial⟩)
                     replace v79 := bs_v79.keep lv_v79 (Nat.le_refl _)
                     replace lv_hd106 := Keep.st lv_hd106 st38011x4 (fun k hb hk => ⟨by omega, trivial⟩)
                     replace hd106 := bs_hd106.keep lv_hd106 (Nat.le_refl _)
                     replace lv_wd106 := Keep.st lv_wd106 st38011x4 (fun k hb hk => ⟨by omega, trivial⟩)
                     replace wd106 := bs_wd106.keep lv_wd106 (Nat.le_refl _)
                     replace lv_v117x2 := Keep.st lv_v117x2 st38011x4 (fun k hb hk => ⟨by omega, trivial⟩)
                     replace v117x2 := bs_v117x2.keep lv_v117x2 (Nat.le_refl _)
                     replace lv_v119x3 := Keep.st lv_v119x3 st38011x4 (fun k hb hk => ⟨by omega, trivial⟩)
                     replace v119x3 := bs_v119x3.keep lv_v119x3 (Nat.le_refl _)
                     replace lv_v121x4 := Keep.st lv_v121x4 st38011x4 (fun k hb hk => ⟨by omega, trivial⟩)
                     replace v121x4 := bs_v121x4.keep lv_v121x4 (Nat.le_refl _)
                     replace lv_v122x4 := Keep.st lv_v122x4 st38011x4 (fun k hb hk => ⟨by omega, trivial⟩)
                     replace v122x4 := bs_v122x4.keep lv_v122x4 (Nat.le_refl _)
                     have lt_at38011x4 := GHeap.lt_of_get at38011x4
                     replace h0 := base_h0.mono hle
                     replace h1 := base_h1.mono hle
                     replace h2 := base_h2.mono hle
                     clear hb3 fsh3 c53 c63 i13 i23 hm3 hi3 hmsh3 hish3
                     have hb3 : SFun.At _ g3 0 f p := ⟨Mem.of_get at3, h0⟩
                     obtain ⟨fsh3, c53, c63, i13, i23⟩ := hb3.get
                     have hm3 : MemN _ _ _ _ _ := ⟨rfl, hb3.1⟩
                     have hi3 := hb3.2
                     have hmsh3 : MemN _ _ _ _ _ := ⟨rfl, fsh3.1⟩
                     have hish3 := fsh3.2
                     clear hb4 c04 i04 hm4 hi4
                     have hb4 : Prt.At _ g4 0 m q := ⟨Mem.of_get at4, h1⟩
                     obtain ⟨c04, i04⟩ := hb4.get
                     have hm4 : MemN _ _ _ _ _ := ⟨rfl, hb4.1⟩
                     have hi4 := hb4.2
                     clear hb5 c05 i05 hm5 hi5
                     have hb5 : Prt.At _ g5 0 m' q' := ⟨Mem.of_get at5, h2⟩
                     obtain ⟨c05, i05⟩ := hb5.get
                     have hm5 : MemN _ _ _ _ _ := ⟨rfl, hb5.1⟩
                     have hi5 := hb5.2
                     clear i8x6
                     have i8x6 := v8x6.inn
                     clear mm8x6
                     have mm8x6 : MemN _ _ _ _ _ := ⟨rfl, Mem.of_get at8x6⟩
                     clear mm12003
                     have mm12003 : MemN _ _ _ _ _ := ⟨rfl, Mem.of_get at12003⟩
                     clear mm13003
                     have mm13003 : MemN _ _ _ _ _ := ⟨rfl, Mem.of_get at13003⟩
                     clear mm14003
                     have mm14003 : MemN _ _ _ _ _ := ⟨rfl, Mem.of_get at14003⟩
                     clear mm15008
                     have mm15008 : MemN _ _ _ _ _ := ⟨rfl, Mem.of_get at15008⟩
                     clear i69
                     have i69 := v69.inn
                     clear i74
                     have i74 := v74.inn
                     clear i79
                     have i79 := v79.inn
                     clear i117x2
                     have i117x2 := v117x2.inn
                     clear i119x3
                     have i119x3 := v119x3.inn
                     clear i121x4
                     have i121x4 := v121x4.inn
                     clear i122x4
                     have i122x4 := v122x4.inn
                     have mm38011x4 : MemN _ _ _ _ _ := ⟨rfl, Mem.of_get at38011x4⟩
                     replace hf0 := hf0.st st38011x4 (fun k hk => ⟨by omega, trivial⟩)
                     refine .mB rfl rfl rfl rfl hbl (.assign rfl) ?_
                     refine .done ?_
                     exact ⟨_, p122x4, ⟨rfl, rfl, rfl, rfl, rfl, rfl, rfl, rfl, rfl, rfl, rfl, rfl, rfl, rfl, rfl, rfl, rfl, rfl, rfl, rfl, rfl, rfl, rfl, rfl, rfl, rfl, rfl, rfl, rfl, rfl, rfl, rfl, rfl, rfl, rfl, rfl, rfl, rfl, rfl, rfl, rfl, rfl, rfl, rfl, rfl, rfl, rfl, rfl, rfl, rfl, rfl, rfl, rfl, rfl, rfl, rfl, rfl, rfl, rfl, rfl, rfl, rfl, rfl, rfl, rfl, rfl, rfl, rfl, rfl, rfl, rfl, rfl, rfl, rfl, rfl, rfl, rfl, rfl, rfl, rfl, rfl, rfl, rfl, rfl, rfl, rfl, rfl, rfl, rfl, rfl, rfl, rfl, rfl, rfl, rfl, rfl, rfl, rfl, rfl, rfl, rfl, rfl, rfl, rfl, rfl, trivial⟩, hf0, by omega, at38011x4, v122x4.keep (.of_le (.refl _)) (by omega)⟩
                    ·
                     refine .call1 rfl rfl rfl rfl rfl @Try.call25 rfl (implJoinParts_c) ?_
                     rintro _ H122x5 ⟨le122x5, p122x5, rfl, v122x5⟩
                     replace hbl := hbl.trans le122x5
                     refine ⟨hbl, ?_⟩
                     have nx_H122x5 := le122x5.1
                     replace hle := hle.trans le122x5
                     replace at3 := le122x5.2 _ _ at3
                     replace at4 := le122x5.2 _ _ at4
                     replace at5 := le122x5.2 _ _ at5
                     replace at8x6 := le122x5.2 _ _ at8x6
                     replace at12003 := le122x5.2 _ _ at12003
                     replace at13003 := le122x5.2 _ _ at13003
                     replace at14003 := le122x5.2 _ _ at14003
                     replace at15008 := le122x5.2 _ _ at15008
                     replace lv_v8x6 := Keep.le lv_v8x6 le122x5
                     replace v8x6 := bs_v8x6.keep lv_v8x6 (Nat.le_refl _)
                     replace lv_v69 := Keep.le lv_v69 le122x5
                     replace v69 := bs_v69.keep lv_v69 (Nat.le_refl _)
                     replace lv_v74 := Keep.le lv_v74 le122x5
                     replace v74 := bs_v74.keep lv_v74 (Nat.le_refl _)
                     replace lv_v79 := Keep.le lv_v79 le122x5
                     replace v79 := bs_v79.keep lv_v79 (Nat.le_refl _)
                     replace lv_hd106 := Keep.le lv_hd106 le122x5
                     replace hd106 := bs_hd106.keep lv_hd106 (Nat.le_refl _)
                     replace lv_wd106 := Keep.le lv_wd106 le122x5
                     replace wd106 := bs_wd106.keep lv_wd106 (Nat.le_refl _)
                     replace lv_v117x2 := Keep.le lv_v117x2 le122x5
                     replace v117x2 := bs_v117x2.keep lv_v117x2 (Nat.le_refl _)
                     replace lv_v119x3 := Keep.le lv_v119x3 le122x5
                     replace v119x3 := bs_v119x3.keep lv_v119x3 (Nat.le_refl _)
                     replace lv_v121x4 := Keep.le lv_v121x4 le122x5
                     replace v121x4 := bs_v121x4.keep lv_v121x4 (Nat.le_refl _)
                     have bs_v122x5 := v122x5
                     have lv_v122x5 : Keep H121x4.next H122x5 H122x5 := fun _ _ _ h => h
                     replace h0 := base_h0.mono hle
                     replace h1 := base_h1.mono hle
                     replace h2 := base_h2.mono hle
                     clear hb3 fsh3 c53 c63 i13 i23 hm3 hi3 hmsh3 hish3
                     have hb3 : SFun.At _ g3 0 f p := ⟨Mem.of_get at3, h0⟩
                     obtain ⟨fsh3, c53, c63, i13, i23⟩ := hb3.get
                     have hm3 : MemN _ _ _ _ _ := ⟨rfl, hb3.1⟩
                     have hi3 := hb3.2
                     have hmsh3 : MemN _ _ _ _ _ := ⟨rfl, fsh3.1⟩
                     have hish3 := fsh3.2
                     clear hb4 c04 i04 hm4 hi4
                     have hb4 : Prt.At _ g4 0 m q := ⟨Mem.of_get at4, h1⟩
                     obtain ⟨c04, i04⟩ := hb4.get
                     have hm4 : MemN _ _ _ _ _ := ⟨rfl, hb4.1⟩
                     have hi4 := hb4.2
                     clear hb5 c05 i05 hm5 hi5
                     have hb5 : Prt.At _ g5 0 m' q' := ⟨Mem.of_get at5, h2⟩
                     obtain ⟨c05, i05⟩ := hb5.get
                     have hm5 : MemN _ _ _ _ _ := ⟨rfl, hb5.1⟩
                     have hi5 := hb5.2
                     clear i8x6
                     have i8x6 := v8x6.inn
                     clear mm8x6
                     have mm8x6 : MemN _ _ _ _ _ := ⟨rfl, Mem.of_get at8x6⟩
                     clear mm12003
                     have mm12003 : MemN _ _ _ _ _ := ⟨rfl, Mem.of_get at12003⟩
                     clear mm13003
                     have mm13003 : MemN _ _ _ _ _ := ⟨rfl, Mem.of_get at13003⟩
                     clear mm14003
                     have mm14003 : MemN _ _ _ _ _ := ⟨rfl, Mem.of_get at14003⟩
                     clear mm15008
                     have mm15008 : MemN _ _ _ _ _ := ⟨rfl, Mem.of_get at15008⟩
                     clear i69
                     have i69 := v69.inn
                     clear i74
                     have i74 := v74.inn
                     clear i79
                     have i79 := v79.inn
                     clear i117x2
                     have i117x2 := v117x2.inn
                     clear i119x3
                     have i119x3 := v119x3.inn
                     clear i121x4
                     have i121x4 := v121x4.inn
                     have i122x5 := v122x5.inn
                     replace hf0 := hf0.trans le122x5
                     refine .mB rfl rfl rfl rfl hbl (.move rfl) ?_
                     refine .mB rfl rfl rfl rfl hbl (.extract rfl rfl) ?_
                     refine .mB rfl rfl rfl rfl hbl (.extract rfl rfl) ?_
                     refine .c1 rfl rfl rfl rfl (.allocR rfl ze_34_VPrt rfl) ?_
                     rintro _ H18x5 ⟨g18x5, rfl, le18x5, ge18x5, at18x5⟩
                     replace hbl := hbl.trans le18x5
                     refine ⟨hbl, ?_⟩
                     have nx_H18x5 := le18x5.1
                     replace hle := hle.trans le18x5
                     replace at3 := le18x5.2 _ _ at3
                     replace at4 := le18x5.2 _ _ at4
                     replace at5 := le18x5.2 _ _ at5
                     replace at8x6 := le18x5.2 _ _ at8x6
                     replace at12003 := le18x5.2 _ _ at12003
                     replace at13003 := le18x5.2 _ _ at13003
                     replace at14003 := le18x5.2 _ _ at14003
                     replace at15008 := le18x5.2 _ _ at15008
                     replace lv_v8x6 := Keep.le lv_v8x6 le18x5
                     replace v8x6 := bs_v8x6.keep lv_v8x6 (Nat.le_refl _)
                     replace lv_v69 := Keep.le lv_v69 le18x5
                     replace v69 := bs_v69.keep lv_v69 (Nat.le_refl _)
                     replace lv_v74 := Keep.le lv_v74 le18x5
                     replace v74 := bs_v74.keep lv_v74 (Nat.le_refl _)
                     replace lv_v79 := Keep.le lv_v79 le18x5
                     replace v79 := bs_v79.keep lv_v79 (Nat.le_refl _)
                     replace lv_hd106 := Keep.le lv_hd106 le18x5
                     replace hd106 := bs_hd106.keep lv_hd106 (Nat.le_refl _)
                     replace lv_wd106 := Keep.le lv_wd106 le18x5
                     replace wd106 := bs_wd106.keep lv_wd106 (Nat.le_refl _)
                     replace lv_v117x2 := Keep.le lv_v117x2 le18x5
                     replace v117x2 := bs_v117x2.keep lv_v117x2 (Nat.le_refl _)
                     replace lv_v119x3 := Keep.le lv_v119x3 le18x5
                     replace v119x3 := bs_v119x3.keep lv_v119x3 (Nat.le_refl _)
                     replace lv_v121x4 := Keep.le lv_v121x4 le18x5
                     replace v121x4 := bs_v121x4.keep lv_v121x4 (Nat.le_refl _)
                     replace lv_v122x5 := Keep.le lv_v122x5 le18x5
                     replace v122x5 := bs_v122x5.keep lv_v122x5 (Nat.le_refl _)
                     have lt_at18x5 := GHeap.lt_of_get at18x5
                     replace h0 := base_h0.mono hle
                     replace h1 := base_h1.mono hle
                     replace h2 := base_h2.mono hle
                     clear hb3 fsh3 c53 c63 i13 i23 hm3 hi3 hmsh3 hish3
                     have hb3 : SFun.At _ g3 0 f p := ⟨Mem.of_get at3, h0⟩
                     obtain ⟨fsh3, c53, c63, i13, i23⟩ := hb3.get
                     have hm3 : MemN _ _ _ _ _ := ⟨rfl, hb3.1⟩
                     have hi3 := hb3.2
                     have hmsh3 : MemN _ _ _ _ _ := ⟨rfl, fsh3.1⟩
                     have hish3 := fsh3.2
                     clear hb4 c04 i04 hm4 hi4
                     have hb4 : Prt.At _ g4 0 m q := ⟨Mem.of_get at4, h1⟩
                     obtain ⟨c04, i04⟩ := hb4.get
                     have hm4 : MemN _ _ _ _ _ := ⟨rfl, hb4.1⟩
                     have hi4 := hb4.2
                     clear hb5 c05 i05 hm5 hi5
                     have hb5 : Prt.At _ g5 0 m' q' := ⟨Mem.of_get at5, h2⟩
                     obtain ⟨c05, i05⟩ := hb5.get
                     have hm5 : MemN _ _ _ _ _ := ⟨rfl, hb5.1⟩
                     have hi5 := hb5.2
                     clear i8x6
                     have i8x6 := v8x6.inn
                     clear mm8x6
                     have mm8x6 : MemN _ _ _ _ _ := ⟨rfl, Mem.of_get at8x6⟩
                     clear mm12003
                     have mm12003 : MemN _ _ _ _ _ := ⟨rfl, Mem.of_get at12003⟩
                     clear mm13003
                     have mm13003 : MemN _ _ _ _ _ := ⟨rfl, Mem.of_get at13003⟩
                     clear mm14003
                     have mm14003 : MemN _ _ _ _ _ := ⟨rfl, Mem.of_get at14003⟩
                     clear mm15008
                     have mm15008 : MemN _ _ _ _ _ := ⟨rfl, Mem.of_get at15008⟩
                     clear i69
                     have i69 := v69.inn
                     clear i74
                     have i74 := v74.inn
                     clear i79
                     have i79 := v79.inn
                     clear i117x2
                     have i117x2 := v117x2.inn
                     clear i119x3
                     have i119x3 := v119x3.inn
                     clear i121x4
                     have i121x4 := v121x4.inn
                     clear i122x5
                     have i122x5 := v122x5.inn
                     replace hf0 := hf0.trans le18x5
                     refine .r1 rfl rfl rfl (.fillR rfl sz_34_VPrt rfl rfl rfl rfl (by assumption) (by first | rfl | exact Nat.le_of_ble_eq_true rfl | simp)) ?_
                     rintro _ H38011x5 ⟨rfl, st38011x5, at38011x5⟩
                     replace hbl := hbl.st st38011x5 (fun k hk => ⟨by omega, trivial⟩)
                     refine ⟨hbl, ?_⟩
                     have nx_H38011x5 := st38011x5.nx
                     replace hle := hle.st st38011x5 (fun k hk => ⟨by omega, trivial⟩)
                     replace at3 := st38011x5.same _ _ ⟨by omega, trivial⟩ at3
                     replace at4 := st38011x5.same _ _ ⟨by omega, trivial⟩ at4
                     replace at5 := st38011x5.same _ _ ⟨by omega, trivial⟩ at5
                     replace at8x6 := st38011x5.same _ _ ⟨by omega, trivial⟩ at8x6
                     replace at12003 := st38011x5.same _ _ ⟨by omega, trivial⟩ at12003
                     replace at13003 := st38011x5.same _ _ ⟨by omega, trivial⟩ at13003
                     replace at14003 := st38011x5.same _ _ ⟨by omega, trivial⟩ at14003
                     replace at15008 := st38011x5.same _ _ ⟨by omega, trivial⟩ at15008
                     replace lv_v8x6 := Keep.st lv_v8x6 st38011x5 (fun k hb hk => ⟨by omega, trivial⟩)
                     replace v8x6 := bs_v8x6.keep lv_v8x6 (Nat.le_refl _)
                     replace lv_v69 := Keep.st lv_v69 st38011x5 (fun k hb hk => ⟨by omega, trivial⟩)
                     replace v69 := bs_v69.keep lv_v69 (Nat.le_refl _)
                     replace lv_v74 := Keep.st lv_v74 st38011x5 (fun k hb hk => ⟨by omega, trivial⟩)
                     replace v74 := bs_v74.keep lv_v74 (Nat.le_refl _)
                     replace lv_v79 := Keep.st lv_v79 st38011x5 (fun k hb hk => ⟨by omega, trivial⟩)
                     replace v79 := bs_v79.keep lv_v79 (Nat.le_refl _)
                     replace lv_hd106 := Keep.st lv_hd106 st38011x5 (fun k hb hk => ⟨by omega, trivial⟩)
                     replace hd106 := bs_hd106.keep lv_hd106 (Nat.le_refl _)
                     replace lv_wd106 := Keep.st lv_wd106 st38011x5 (fun k hb hk => ⟨by omega, trivial⟩)
                     replace wd106 := bs_wd106.keep lv_wd106 (Nat.le_refl _)
                     replace lv_v117x2 := Keep.st lv_v117x2 st38011x5 (fun k hb hk => ⟨by omega, trivial⟩)
                     replace v117x2 := bs_v117x2.keep lv_v117x2 (Nat.le_refl _)
                     replace lv_v119x3 := Keep.st lv_v119x3 st38011x5 (fun k hb hk => ⟨by omega, trivial⟩)
                     replace v119x3 := bs_v119x3.keep lv_v119x3 (Nat.le_refl _)
                     replace lv_v121x4 := Keep.st lv_v121x4 st38011x5 (fun k hb hk => ⟨by omega, trivial⟩)
                     replace v121x4 := bs_v121x4.keep lv_v121x4 (Nat.le_refl _)
                     replace lv_v122x5 := Keep.st lv_v122x5 st38011x5 (fun k hb hk => ⟨by omega, trivial⟩)
                     replace v122x5 := bs_v122x5.keep lv_v122x5 (Nat.le_refl _)
                     have lt_at38011x5 := GHeap.lt_of_get at38011x5
                     replace h0 := base_h0.mono hle
                     replace h1 := base_h1.mono hle
                     replace h2 := base_h2.mono hle
                     clear hb3 fsh3 c53 c63 i13 i23 hm3 hi3 hmsh3 hish3
                     have hb3 : SFun.At _ g3 0 f p := ⟨Mem.of_get at3, h0⟩
                     obtain ⟨fsh3, c53, c63, i13, i23⟩ := hb3.get
                     have hm3 : MemN _ _ _ _ _ := ⟨rfl, hb3.1⟩
                     have hi3 := hb3.2
                     have hmsh3 : MemN _ _ _ _ _ := ⟨rfl, fsh3.1⟩
                     have hish3 := fsh3.2
                     clear hb4 c04 i04 hm4 hi4
                     have hb4 : Prt.At _ g4 0 m q := ⟨Mem.of_get at4, h1⟩
                     obtain ⟨c04, i04⟩ := hb4.get
                     have hm4 : MemN _ _ _ _ _ := ⟨rfl, hb4.1⟩
                     have hi4 := hb4.2
                     clear hb5 c05 i05 hm5 hi5
                     have hb5 : Prt.At _ g5 0 m' q' := ⟨Mem.of_get at5, h2⟩
                     obtain ⟨c05, i05⟩ := hb5.get
                     have hm5 : MemN _ _ _ _ _ := ⟨rfl, hb5.1⟩
                     have hi5 := hb5.2
                     clear i8x6
                     have i8x6 := v8x6.inn
                     clear mm8x6
                     have mm8x6 : MemN _ _ _ _ _ := ⟨rfl, Mem.of_get at8x6⟩
                     clear mm12003
                     have mm12003 : MemN _ _ _ _ _ := ⟨rfl, Mem.of_get at12003⟩
                     clear mm13003
                     have mm13003 : MemN _ _ _ _ _ := ⟨rfl, Mem.of_get at13003⟩
                     clear mm14003
                     have mm14003 : MemN _ _ _ _ _ := ⟨rfl, Mem.of_get at14003⟩
                     clear mm15008
                     have mm15008 : MemN _ _ _ _ _ := ⟨rfl, Mem.of_get at15008⟩
                     clear i69
                     have i69 := v69.inn
                     clear i74
                     have i74 := v74.inn
                     clear i79
                     have i79 := v79.inn
                     clear i117x2
                     have i117x2 := v117x2.inn
                     clear i119x3
                     have i119x3 := v119x3.inn
                     clear i121x4
                     have i121x4 := v121x4.inn
                     clear i122x5
                     have i122x5 := v122x5.inn
                     have mm38011x5 : MemN _ _ _ _ _ := ⟨rfl, Mem.of_get at38011x5⟩
                     replace hf0 := hf0.st st38011x5 (fun k hk => ⟨by omega, trivial⟩)
                     refine .mB rfl rfl rfl rfl hbl (.assign rfl) ?_
                     refine .done ?_
                     exact ⟨_, p122x5, ⟨rfl, rfl, rfl, rfl, rfl, rfl, rfl, rfl, rfl, rfl, rfl, rfl, rfl, rfl, rfl, rfl, rfl, rfl, rfl, rfl, rfl, rfl, rfl, rfl, rfl, rfl, rfl, rfl, rfl, rfl, rfl, rfl, rfl, rfl, rfl, rfl, rfl, rfl, rfl, rfl, rfl, rfl, rfl, rfl, rfl, rfl, rfl, rfl, rfl, rfl, rfl, rfl, rfl, rfl, rfl, rfl, rfl, rfl, rfl, rfl, rfl, rfl, rfl, rfl, rfl, rfl, rfl, rfl, rfl, rfl, rfl, rfl, rfl, rfl, rfl, rfl, rfl, rfl, rfl, rfl, rfl, rfl, rfl, rfl, rfl, rfl, rfl, rfl, rfl, rfl, rfl, rfl, rfl, rfl, rfl, rfl, rfl, rfl, rfl, rfl, rfl, rfl, rfl, rfl, rfl, trivial⟩, hf0, by omega, at38011x5, v122x5.keep (.of_le (.refl _)) (by omega)⟩
                ·
                 rintro fr18x6 H18x6 ⟨g18x6, p18x6, hsub18x6, le18x6, ge18x6, at18x6, v18x6⟩
                 have nx_H18x6 := le18x6.1
                 replace hle := hle.trans le18x6
                 replace at3 := le18x6.2 _ _ at3
                 replace at4 := le18x6.2 _ _ at4
                 replace at5 := le18x6.2 _ _ at5
                 replace at8x6 := le18x6.2 _ _ at8x6
                 replace at12003 := le18x6.2 _ _ at12003
                 replace at13003 := le18x6.2 _ _ at13003
                 replace at14003 := le18x6.2 _ _ at14003
                 replace at15008 := le18x6.2 _ _ at15008
                 replace lv_v8x6 := Keep.le lv_v8x6 le18x6
                 replace v8x6 := bs_v8x6.keep lv_v8x6 (Nat.le_refl _)
                 replace lv_v69 := Keep.le lv_v69 le18x6
                 replace v69 := bs_v69.keep lv_v69 (Nat.le_refl _)
                 replace lv_v74 := Keep.le lv_v74 le18x6
                 replace v74 := bs_v74.keep lv_v74 (Nat.le_refl _)
                 replace lv_v79 := Keep.le lv_v79 le18x6
                 replace v79 := bs_v79.keep lv_v79 (Nat.le_refl _)
                 replace lv_hd106 := Keep.le lv_hd106 le18x6
                 replace hd106 := bs_hd106.keep lv_hd106 (Nat.le_refl _)
                 replace lv_wd106 := Keep.le lv_wd106 le18x6
                 replace wd106 := bs_wd106.keep lv_wd106 (Nat.le_refl _)
                 have lt_at18x6 := GHeap.lt_of_get at18x6
                 have bs_v18x6 := v18x6
                 have lv_v18x6 : Keep H106.next H18x6 H18x6 := fun _ _ _ h => h
                 replace h0 := base_h0.mono hle
                 replace h1 := base_h1.mono hle
                 replace h2 := base_h2.mono hle
                 clear hb3 fsh3 c53 c63 i13 i23 hm3 hi3 hmsh3 hish3
                 have hb3 : SFun.At _ g3 0 f p := ⟨Mem.of_get at3, h0⟩
                 obtain ⟨fsh3, c53, c63, i13, i23⟩ := hb3.get
                 have hm3 : MemN _ _ _ _ _ := ⟨rfl, hb3.1⟩
                 have hi3 := hb3.2
                 have hmsh3 : MemN _ _ _ _ _ := ⟨rfl, fsh3.1⟩
                 have hish3 := fsh3.2
                 clear hb4 c04 i04 hm4 hi4
                 have hb4 : Prt.At _ g4 0 m q := ⟨Mem.of_get at4, h1⟩
                 obtain ⟨c04, i04⟩ := hb4.get
                 have hm4 : MemN _ _ _ _ _ := ⟨rfl, hb4.1⟩
                 have hi4 := hb4.2
                 clear hb5 c05 i05 hm5 hi5
                 have hb5 : Prt.At _ g5 0 m' q' := ⟨Mem.of_get at5, h2⟩
                 obtain ⟨c05, i05⟩ := hb5.get
                 have hm5 : MemN _ _ _ _ _ := ⟨rfl, hb5.1⟩
                 have hi5 := hb5.2
                 clear i8x6
                 have i8x6 := v8x6.inn
                 clear mm8x6
                 have mm8x6 : MemN _ _ _ _ _ := ⟨rfl, Mem.of_get at8x6⟩
                 clear mm12003
                 have mm12003 : MemN _ _ _ _ _ := ⟨rfl, Mem.of_get at12003⟩
                 clear mm13003
                 have mm13003 : MemN _ _ _ _ _ := ⟨rfl, Mem.of_get at13003⟩
                 clear mm14003
                 have mm14003 : MemN _ _ _ _ _ := ⟨rfl, Mem.of_get at14003⟩
                 clear mm15008
                 have mm15008 : MemN _ _ _ _ _ := ⟨rfl, Mem.of_get at15008⟩
                 clear i69
                 have i69 := v69.inn
                 clear i74
                 have i74 := v74.inn
                 clear i79
                 have i79 := v79.inn
                 have i18x6 := v18x6.inn
                 have mm18x6 : MemN _ _ _ _ _ := ⟨rfl, Mem.of_get at18x6⟩
                 refine hK52 _ _ ?_
                 refine .forget hsub18x6 ?_
                 refine .seq (fun K53 hK53 => ?_)
                 refine .seq (fun K54 hK54 => ?_)
                 refine .region ?_
                 refine .m rfl rfl rfl (.loadM ag_34_VPrt rfl ⟨rfl, Mem.of_get at18x6⟩) ?_
                 refine .m rfl rfl rfl (.loadM ag_34_VPrt rfl ⟨rfl, Mem.of_get at8x6⟩) ?_
                 refine .callQ rfl rfl rfl rfl @Try.call13 rfl (eqPart_c) ?_
                 refine .m rfl rfl rfl (.not rfl) ?_
                 refine .m rfl rfl rfl (.move rfl) ?_
                 refine .split (fun h129 => ?_) (fun h129 => ?_)
                 ·
                  try simp only [sps] at h129
                  refine .sg rfl rfl rfl rfl rfl ?_
                  refine .sg rfl rfl rfl rfl rfl ?_
                  refine .sg rfl rfl rfl rfl rfl ?_
                  refine .m rfl rfl rfl (.pickT rfl rfl) ?_
                  refine .nil ?_
                  refine hK54 _ _ ?_
                  refine .condT rfl ?_
                  refine .seq (fun K55 hK55 => ?_)
                  refine .region ?_
                  refine .m rfl rfl rfl (.assign rfl) ?_
                  refine .nil ?_
                  refine hK55 _ _ ?_
                  refine .ret ?_
                  -- leaf e14
                  refine hret _ _ ?_
                  refine ⟨_, rfl, ?_⟩
                  first
                  | exact rfl
                  | exact absurd trivial (by assumption)
                  | contradiction
                  | (exfalso; omega)
                 ·
                  try simp only [sps] at h129
                  refine .mg rfl rfl rfl rfl rfl (.move rfl) ?_
                  refine .mg rfl rfl rfl rfl rfl (.move rfl) ?_
                  refine .mg rfl rfl rfl rfl rfl (.cmp rfl rfl rfl) ?_
                  refine .m rfl rfl rfl (.pickF rfl rfl) ?_
                  refine .nil ?_
                  refine hK54 _ _ ?_
                  refine .cond rfl (fun h133 => ?_) (fun h133 => ?_)
                  ·
                   try simp only [sps] at h133
                   refine .seq (fun K56 hK56 => ?_)
                   refine .region ?_
                   refine .m rfl rfl rfl (.assign rfl) ?_
                   refine .nil ?_
                   refine hK56 _ _ ?_
                   refine .ret ?_
                   -- leaf e15
                   refine hret _ _ ?_
                   refine ⟨_, rfl, ?_⟩
                   first
                   | exact rfl
                   | exact absurd trivial (by assumption)
                   | contradiction
                   | (exfalso; omega)
                  ·
                   try simp only [sps] at h133
                   refine .skip ?_
                   refine hK53 _ _ ?_
                   refine .seq (fun K57 hK57 => ?_)
                   refine .region ?_
                   refine .m rfl rfl rfl (.assign rfl) ?_
                   refine .nil ?_
                   refine hK57 _ _ ?_
                   refine .seq (fun K58 hK58 => ?_)
                   refine .region ?_
                   refine .m rfl rfl rfl (.loadM ag_34_VPrt rfl ⟨rfl, Mem.of_get at15008⟩) ?_
                   refine .m rfl rfl rfl (.move rfl) ?_
                   refine .callQ rfl rfl rfl rfl @Try.call17 rfl (heldPart_c) ?_
                   refine .m rfl rfl rfl (.assign rfl) ?_
                   refine .nil ?_
                   refine hK58 _ _ ?_
                   refine .seq (fun K59 hK59 => ?_)
                   refine .seq (fun K60 hK60 => ?_)
                   refine .region ?_
                   refine .m rfl rfl rfl (.move rfl) ?_
                   refine .m rfl rfl rfl (.cmp rfl rfl rfl) ?_
                   refine .nil ?_
                   refine hK60 _ _ ?_
                   refine .cond rfl (fun h138 => ?_) (fun h138 => ?_)
                   ·
                    try simp only [sps] at h138
                    refine .seq (fun K61 hK61 => ?_)
                    refine .region ?_
                    refine .m rfl rfl rfl (.assign rfl) ?_
                    refine .nil ?_
                    refine hK61 _ _ ?_
                    refine .ret ?_
                    -- leaf e16
                    refine hret _ _ ?_
                    refine ⟨_, rfl, ?_⟩
                    first
                    | exact rfl
                    | exact absurd trivial (by assumption)
                    | contradiction
                    | (exfalso; omega)
                   ·
                    try simp only [sps] at h138
                    refine .skip ?_
                    refine hK59 _ _ ?_
                    refine .seq (fun K62 hK62 => ?_)
                    refine .seq (fun K63 hK63 => ?_)
                    refine .region ?_
                    refine .m rfl rfl rfl (.move rfl) ?_
                    refine .m rfl rfl rfl (.move rfl) ?_
                    refine .m rfl rfl rfl (.cmp rfl rfl rfl) ?_
                    refine .nil ?_
                    refine hK63 _ _ ?_
                    refine .cond rfl (fun h141 => ?_) (fun h141 => ?_)
                    ·
                     try simp only [sps] at h141
                     refine .seq (fun K64 hK64 => ?_)
                     refine .region ?_
                     refine .m rfl rfl rfl (.assign rfl) ?_
                     refine .nil ?_
                     refine hK64 _ _ ?_
                     refine .ret ?_
                     -- leaf e17
                     refine hret _ _ ?_
                     refine ⟨_, rfl, ?_⟩
                     first
                     | exact rfl
                     | exact absurd trivial (by assumption)
                     | contradiction
                     | (exfalso; omega)
                    ·
                     try simp only [sps] at h141
                     refine .skip ?_
                     refine hK62 _ _ ?_
                     refine .seq (fun K65 hK65 => ?_)
                     refine .region ?_
                     refine .m rfl rfl rfl (.assign rfl) ?_
                     refine .nil ?_
                     refine hK65 _ _ ?_
                     refine .ret ?_
                     -- leaf e18
                     refine hret _ _ ?_
                     refine ⟨_, rfl, ?_⟩
                     first
                     | exact rfl
                     | exact absurd trivial (by assumption)
                     | contradiction
                     | (exfalso; omega)
end Go.Proofs.Ytbpehbbdodahaaa
