/- The laws' helpers for Part. No condition but those of each statement. -/
import Derived.Test.YtgnfekfdmgnhcaaZ11
namespace Go.Proofs.Ytgnfekfdmgnhcaa
open Go Go.GL Go.RowKit Go.Proofs
end Go.Proofs.Ytgnfekfdmgnhcaa
/- Parts of set functors. No condition but those of each statement. -/
namespace Go.Proofs.Ytgnfekfdmgnhcaa
open Go Go.GL Go.RowKit Go.Proofs
end Go.Proofs.Ytgnfekfdmgnhcaa
/- Marks on set functors, their maps and parts. No condition but those of each statement. -/
namespace Go.Proofs.Ytgnfekfdmgnhcaa
open Go Go.GL Go.RowKit Go.Proofs
theorem markSetFunctor_c {c : SFun} {p : SFunP} {lo hi : Nat} {k : Int} {H : GHeap} (w : SFunW lo hi H c p := by assumption) (hs : c.Small := by assumption) (hk : 0 ≤ k := by omega) (hk' : k + c.total ≤ 9223372036854775000 := by omega) (hhi : hi ≤ H.next := by omega) :
    GCalls Try.prog 41 [.agg (c.cells p).toArray, .int .i64 k] H (fun v H' => v = .int .i64 (k + c.total) ∧ Marked lo hi H H' (c.leaves p) k) := by
  obtain ⟨w1, w2, w3⟩ := w
  have ht : c.total = c.sh.total + (c.sz.length + sumL c.ac) := rfl
  obtain ⟨s1, s2, s3, s4⟩ := hs
  refine GCalls.body (N := 18) (rs := [.tmp 4]) Try.func41 rfl rfl rfl rfl (fun Qx hret hend => ?_)
  refine .forget (fr' := [(0, some _), (1, some _)]) ⟨rfl, rfl, trivial⟩ ?_
  refine .seq (fun K1 hK1 => ?_)
  refine .region ?_
  refine .r rfl rfl rfl (.boxR rfl sz_65_VSFun rfl) ?_
  rintro _ H2 ⟨g2, rfl, le2, ge2, at2⟩
  have nx_H2 := le2.1
  have lt_at2 := GHeap.lt_of_get at2
  have mm2 : MemN _ _ _ _ _ := ⟨rfl, Mem.of_get at2⟩
  replace w1 := w1.stm (.of_le le2)
  replace w2 := w2.stm (.of_le le2)
  replace w3 := w3.stm (.of_le le2)
  refine .m rfl rfl rfl (.assign rfl) (.nil ?_)
  refine hK1 _ _ ?_
  refine .seq (fun K2 hK2 => ?_)
  refine .region ?_
  have m1 : MemN H2 g2 (0 + 0) 5 (c.sh.cells p.sh) := ⟨rfl, Mem.left (bs := [.slice p.a1 c.sz.length c.sz.length, .slice p.a2 c.ac.length c.ac.length]) (Mem.of_get at2)⟩
  refine .m rfl rfl rfl (.fieldAddr fo_65_0_P rfl) ?_
  refine .m rfl rfl rfl (.loadM ag_27_D rfl (by assumption)) ?_
  refine .m rfl rfl rfl (.move rfl) ?_
  refine .call rfl rfl rfl rfl @Try.call14 rfl (markCategory_c) ?_
  rintro _ H8 ⟨rfl, mk8⟩
  have sm8 := mk8.stm
  have nx_H8 := sm8.nx
  replace at2 := sm8.same _ _ (by omega) at2
  replace w1 := w1.stm sm8
  replace w2 := w2.stm sm8
  replace w3 := w3.stm sm8
  clear mm2
  have mm2 : MemN _ _ _ _ _ := ⟨rfl, Mem.of_get at2⟩
  refine .m rfl rfl rfl (.assign rfl) (.nil ?_)
  refine hK2 _ _ ?_
  refine .seq (fun K3 hK3 => ?_)
  refine .region ?_
  have c1 : H8.cell g2 (0 + 5) = some (.slice p.a1 c.sz.length c.sz.length) := Mem.of_get at2 5 _ rfl
  refine .m rfl rfl rfl (.fieldAddr fo_65_1_P rfl) ?_
  refine .m rfl rfl rfl (.load on_22_B rfl (by first | assumption | exact Mem.of_get at2 5 _ rfl)) ?_
  refine .m rfl rfl rfl (.move rfl) ?_
  refine .call rfl rfl rfl rfl @Try.call30 rfl (markInt64S_c) ?_
  rintro _ H12 ⟨rfl, mk12⟩
  have sm12 := mk12.stm
  have nx_H12 := sm12.nx
  replace at2 := sm12.same _ _ (by omega) at2
  replace w1 := w1.stm sm12
  replace w2 := w2.stm sm12
  replace w3 := w3.stm sm12
  clear mm2
  have mm2 : MemN _ _ _ _ _ := ⟨rfl, Mem.of_get at2⟩
  refine .m rfl rfl rfl (.assign rfl) (.nil ?_)
  refine hK3 _ _ ?_
  refine .seq (fun K4 hK4 => ?_)
  refine .region ?_
  have c1 : H12.cell g2 (0 + 6) = some (.slice p.a2 c.ac.length c.ac.length) := Mem.of_get at2 6 _ rfl
  refine .m rfl rfl rfl (.fieldAddr fo_65_2_P rfl) ?_
  refine .m rfl rfl rfl (.load on_23_B rfl (by first | assumption | exact Mem.of_get at2 6 _ rfl)) ?_
  refine .m rfl rfl rfl (.move rfl) ?_
  refine .call rfl rfl rfl rfl @Try.call25 rfl (markInt64SS_c) ?_
  rintro _ H16 ⟨rfl, mk16⟩
  have sm16 := mk16.stm
  have nx_H16 := sm16.nx
  replace at2 := sm16.same _ _ (by omega) at2
  replace w1 := w1.stm sm16
  replace w2 := w2.stm sm16
  replace w3 := w3.stm sm16
  clear mm2
  have mm2 : MemN _ _ _ _ _ := ⟨rfl, Mem.of_get at2⟩
  refine .m rfl rfl rfl (.assign rfl) (.nil ?_)
  refine hK4 _ _ ?_
  refine .seq (fun K5 hK5 => ?_)
  refine .region (.m rfl rfl rfl (.move rfl) (.m rfl rfl rfl (.assign rfl) (.nil ?_)))
  refine hK5 _ _ ?_
  refine .ret ?_
  refine hret _ _ ?_
  refine ⟨_, rfl, ?_⟩
  exact ⟨by rw [ht]; congr 1; omega, .le_left le2 (mk8.app' (mk12.app' mk16 (by simp [lvSum])) (by rw [Cat.lvSum_leaves]))⟩
end Go.Proofs.Ytgnfekfdmgnhcaa
/- The law of LeftClasses. No condition but those of each statement. -/
namespace Go.Proofs.Ytgnfekfdmgnhcaa
open Go Go.GL Go.RowKit Go.Proofs
theorem ag_55_LLeftClasses : aggT Try.prog 55 = some 12 := by kernel_rfl
theorem ag_57_LLeftClasses : aggT Try.prog 57 = some 7 := by kernel_rfl
set_option maxHeartbeats 40000000 in
theorem lawLeftClasses_c {k : Fun} {p : FunP} {f : SFun} {q : SFunP} {y : Int} {H : GHeap} (h0 : k.In H p) (w0 : k.Wide) (h1 : f.In H q) (w1 : f.Wide) (w2 : I64 y) :
    GCalls Try.prog 7 [.agg (k.cells p).toArray, .agg (f.cells q).toArray, .int .i64 y] H (fun v _ => v = .bool true) := by
  refine GCalls.body (N := 124) (rs := [.tmp 6]) Try.func7 rfl rfl rfl rfl (fun Qx hret hend => ?_)
  refine .forget (fr' := [(0, some _), (1, some _), (2, some _)]) ⟨rfl, rfl, rfl, trivial⟩ ?_
  have hle := GHeap.Le.refl H
  have base_h0 := h0
  have base_h1 := h1
  refine .seq (fun K1 hK1 => ?_)
  refine .region ?_
  refine .r rfl rfl rfl (.boxR rfl sz_55_E rfl) ?_
  rintro _ H3 ⟨g3, rfl, le3, ge3, at3⟩
  have nx_H3 := le3.1
  replace hle := hle.trans le3
  have lt_at3 := GHeap.lt_of_get at3
  replace h0 := base_h0.mono hle
  replace h1 := base_h1.mono hle
  have hb3 : Fun.At _ g3 0 k p := ⟨Mem.of_get at3, h0⟩
  obtain ⟨fs3, ft3, c103, c113, j13, j23⟩ := hb3.get
  have hm3 : MemN _ _ _ _ _ := ⟨rfl, hb3.1⟩
  have hi3 := hb3.2
  have hms3 : MemN _ _ _ _ _ := ⟨rfl, fs3.1⟩
  have his3 := fs3.2
  have hmt3 : MemN _ _ _ _ _ := ⟨rfl, ft3.1⟩
  have hit3 := ft3.2
  refine .r rfl rfl rfl (.boxR rfl sz_57_VSFun rfl) ?_
  rintro _ H4 ⟨g4, rfl, le4, ge4, at4⟩
  have nx_H4 := le4.1
  replace hle := hle.trans le4
  replace at3 := le4.2 _ _ at3
  have lt_at4 := GHeap.lt_of_get at4
  replace h0 := base_h0.mono hle
  replace h1 := base_h1.mono hle
  clear hb3 fs3 ft3 c103 c113 j13 j23 hm3 hi3 hms3 his3 hmt3 hit3
  have hb3 : Fun.At _ g3 0 k p := ⟨Mem.of_get at3, h0⟩
  obtain ⟨fs3, ft3, c103, c113, j13, j23⟩ := hb3.get
  have hm3 : MemN _ _ _ _ _ := ⟨rfl, hb3.1⟩
  have hi3 := hb3.2
  have hms3 : MemN _ _ _ _ _ := ⟨rfl, fs3.1⟩
  have his3 := fs3.2
  have hmt3 : MemN _ _ _ _ _ := ⟨rfl, ft3.1⟩
  have hit3 := ft3.2
  have hb4 : SFun.At _ g4 0 f q := ⟨Mem.of_get at4, h1⟩
  obtain ⟨fsh4, c54, c64, i14, i24⟩ := hb4.get
  have hm4 : MemN _ _ _ _ _ := ⟨rfl, hb4.1⟩
  have hi4 := hb4.2
  have hmsh4 : MemN _ _ _ _ _ := ⟨rfl, fsh4.1⟩
  have hish4 := fsh4.2
  refine .m rfl rfl rfl (.assign rfl) (.nil ?_)
  refine hK1 _ _ ?_
  refine .seq (fun K2 hK2 => ?_)
  refine .region (.m rfl rfl rfl (.assign rfl) (.nil ?_))
  refine hK2 _ _ ?_
  refine .seq (fun K3 hK3 => ?_)
  refine .region ?_
  refine .m rfl rfl rfl (.loadM ag_55_LLeftClasses rfl ⟨rfl, Mem.of_get at3⟩) ?_
  refine .m rfl rfl rfl (.move rfl) ?_
  refine .call rfl rfl rfl rfl @Try.call32 rfl (szFunctor_c) ?_
  rintro _ _ ⟨heq, lf21, rfl, z121, z221, z321⟩
  obtain rfl := heq.symm
  refine .m rfl rfl rfl (.assign rfl) (.nil ?_)
  refine hK3 _ _ ?_
  refine .seq (fun K4 hK4 => ?_)
  refine .seq (fun K5 hK5 => ?_)
  refine .region (.m rfl rfl rfl (.move rfl) (.m rfl rfl rfl (.cmp rfl rfl rfl) (.nil ?_)))
  refine hK5 _ _ ?_
  refine .cond rfl (fun h23 => ?_) (fun h23 => ?_)
  ·
   try simp only [sps] at h23
   refine .seq (fun K6 hK6 => ?_)
   refine .region (.m rfl rfl rfl (.assign rfl) (.nil ?_))
   refine hK6 _ _ ?_
   refine .ret ?_
   refine hret _ _ ?_
   refine ⟨_, rfl, ?_⟩
   first
   | exact rfl
   | exact absurd trivial (by assumption)
   | contradiction
   | (exfalso; omega)
  try simp only [sps] at h23
  have hsm21 := z321 (by omega)
  have tb21 := hsm21.tot
  refine .skip ?_
  refine hK4 _ _ ?_
  refine .seq (fun K7 hK7 => ?_)
  refine .region ?_
  refine .m rfl rfl rfl (.loadM ag_57_LLeftClasses rfl ⟨rfl, Mem.of_get at4⟩) ?_
  refine .m rfl rfl rfl (.move rfl) ?_
  refine .call rfl rfl rfl rfl @Try.call33 rfl (szSetFunctor_c) ?_
  rintro _ _ ⟨heq, lf26, rfl, z126, z226, z326⟩
  obtain rfl := heq.symm
  refine .m rfl rfl rfl (.assign rfl) (.nil ?_)
  refine hK7 _ _ ?_
  refine .seq (fun K8 hK8 => ?_)
  refine .seq (fun K9 hK9 => ?_)
  refine .region (.m rfl rfl rfl (.move rfl) (.m rfl rfl rfl (.cmp rfl rfl rfl) (.nil ?_)))
  refine hK9 _ _ ?_
  refine .cond rfl (fun h28 => ?_) (fun h28 => ?_)
  ·
   try simp only [sps] at h28
   refine .seq (fun K10 hK10 => ?_)
   refine .region (.m rfl rfl rfl (.assign rfl) (.nil ?_))
   refine hK10 _ _ ?_
   refine .ret ?_
   refine hret _ _ ?_
   refine ⟨_, rfl, ?_⟩
   first
   | exact rfl
   | exact absurd trivial (by assumption)
   | contradiction
   | (exfalso; omega)
  simp only [sps] at h28
  have hcl := lcR_len k f y
  have hsm26 := z326 (by omega)
  have tb26 := hsm26.tot
  refine .skip ?_
  refine hK8 _ _ ?_
  refine .seq (fun K11 hK11 => ?_)
  refine .regionD mixed_orders_B (.q 0 (.q 2 (.q 4 (.c 1 1 (.c 3 1 (.c 5 0 (.q 6 (.q 7 (.q 8 (.q 9 (.q 10 (.done)))))))))))) (by kernel_rfl) ?_
  refine .m rfl rfl rfl rfl (.refl _) (.loadM ag_55_LLeftClasses rfl ⟨rfl, Mem.of_get at3⟩) ?_
  refine .m rfl rfl rfl rfl (.refl _) (.loadM ag_57_LLeftClasses rfl ⟨rfl, Mem.of_get at4⟩) ?_
  refine .m rfl rfl rfl rfl (.refl _) (.move rfl) ?_
  refine .call1 rfl rfl rfl rfl rfl @Try.call35 rfl (toFunctor_c) ?_
  rintro _ H31 ⟨le31, p31, rfl, v31⟩
  have hbl := le31
  refine ⟨hbl, ?_⟩
  have nx_H31 := le31.1
  replace hle := hle.trans le31
  replace at3 := le31.2 _ _ at3
  replace at4 := le31.2 _ _ at4
  have bs_v31 := v31
  have lv_v31 : Keep H4.next H31 H31 := fun _ _ _ h => h
  replace h0 := base_h0.mono hle
  replace h1 := base_h1.mono hle
  clear hb3 fs3 ft3 c103 c113 j13 j23 hm3 hi3 hms3 his3 hmt3 hit3
  have hb3 : Fun.At _ g3 0 k p := ⟨Mem.of_get at3, h0⟩
  obtain ⟨fs3, ft3, c103, c113, j13, j23⟩ := hb3.get
  have hm3 : MemN _ _ _ _ _ := ⟨rfl, hb3.1⟩
  have hi3 := hb3.2
  have hms3 : MemN _ _ _ _ _ := ⟨rfl, fs3.1⟩
  have his3 := fs3.2
  have hmt3 : MemN _ _ _ _ _ := ⟨rfl, ft3.1⟩
  have hit3 := ft3.2
  clear hb4 fsh4 c54 c64 i14 i24 hm4 hi4 hmsh4 hish4
  have hb4 : SFun.At _ g4 0 f q := ⟨Mem.of_get at4, h1⟩
  obtain ⟨fsh4, c54, c64, i14, i24⟩ := hb4.get
  have hm4 : MemN _ _ _ _ _ := ⟨rfl, hb4.1⟩
  have hi4 := hb4.2
  have hmsh4 : MemN _ _ _ _ _ := ⟨rfl, fsh4.1⟩
  have hish4 := fsh4.2
  have i31 := v31.inn
  refine .call1 rfl rfl rfl rfl rfl @Try.call36 rfl (toSetFunctor_c) ?_
  rintro _ H33 ⟨le33, p33, rfl, v33⟩
  replace hbl := hbl.trans le33
  refine ⟨hbl, ?_⟩
  have nx_H33 := le33.1
  replace hle := hle.trans le33
  replace at3 := le33.2 _ _ at3
  replace at4 := le33.2 _ _ at4
  replace lv_v31 := Keep.le lv_v31 le33
  replace v31 := bs_v31.keep lv_v31 (Nat.le_refl _)
  have bs_v33 := v33
  have lv_v33 : Keep H31.next H33 H33 := fun _ _ _ h => h
  replace h0 := base_h0.mono hle
  replace h1 := base_h1.mono hle
  clear hb3 fs3 ft3 c103 c113 j13 j23 hm3 hi3 hms3 his3 hmt3 hit3
  have hb3 : Fun.At _ g3 0 k p := ⟨Mem.of_get at3, h0⟩
  obtain ⟨fs3, ft3, c103, c113, j13, j23⟩ := hb3.get
  have hm3 : MemN _ _ _ _ _ := ⟨rfl, hb3.1⟩
  have hi3 := hb3.2
  have hms3 : MemN _ _ _ _ _ := ⟨rfl, fs3.1⟩
  have his3 := fs3.2
  have hmt3 : MemN _ _ _ _ _ := ⟨rfl, ft3.1⟩
  have hit3 := ft3.2
  clear hb4 fsh4 c54 c64 i14 i24 hm4 hi4 hmsh4 hish4
  have hb4 : SFun.At _ g4 0 f q := ⟨Mem.of_get at4, h1⟩
  obtain ⟨fsh4, c54, c64, i14, i24⟩ := hb4.get
  have hm4 : MemN _ _ _ _ _ := ⟨rfl, hb4.1⟩
  have hi4 := hb4.2
  have hmsh4 : MemN _ _ _ _ _ := ⟨rfl, fsh4.1⟩
  have hish4 := fsh4.2
  clear i31
  have i31 := v31.inn
  have i33 := v33.inn
  refine .call0 rfl rfl rfl rfl rfl @Try.call34 rfl (specLeftClasses_c) ?_
  rintro _ H35 ⟨le35, a35, rfl, v35⟩
  have nx_H35 := le35.1
  replace hle := hle.trans le35
  replace at3 := le35.2 _ _ at3
  replace at4 := le35.2 _ _ at4
  replace lv_v31 := Keep.le lv_v31 le35
  replace v31 := bs_v31.keep lv_v31 (Nat.le_refl _)
  replace lv_v33 := Keep.le lv_v33 le35
  replace v33 := bs_v33.keep lv_v33 (Nat.le_refl _)
  have bs_v35 := v35
  have lv_v35 : Keep H33.next H35 H35 := fun _ _ _ h => h
  replace h0 := base_h0.mono hle
  replace h1 := base_h1.mono hle
  clear hb3 fs3 ft3 c103 c113 j13 j23 hm3 hi3 hms3 his3 hmt3 hit3
  have hb3 : Fun.At _ g3 0 k p := ⟨Mem.of_get at3, h0⟩
  obtain ⟨fs3, ft3, c103, c113, j13, j23⟩ := hb3.get
  have hm3 : MemN _ _ _ _ _ := ⟨rfl, hb3.1⟩
  have hi3 := hb3.2
  have hms3 : MemN _ _ _ _ _ := ⟨rfl, fs3.1⟩
  have his3 := fs3.2
  have hmt3 : MemN _ _ _ _ _ := ⟨rfl, ft3.1⟩
  have hit3 := ft3.2
  clear hb4 fsh4 c54 c64 i14 i24 hm4 hi4 hmsh4 hish4
  have hb4 : SFun.At _ g4 0 f q := ⟨Mem.of_get at4, h1⟩
  obtain ⟨fsh4, c54, c64, i14, i24⟩ := hb4.get
  have hm4 : MemN _ _ _ _ _ := ⟨rfl, hb4.1⟩
  have hi4 := hb4.2
  have hmsh4 : MemN _ _ _ _ _ := ⟨rfl, fsh4.1⟩
  have hish4 := fsh4.2
  clear i31
  have i31 := v31.inn
  clear i33
  have i33 := v33.inn
  have i35 := v35.ints
  refine .m rfl rfl rfl rfl (.refl _) (.move rfl) (.m rfl rfl rfl rfl (.refl _) (.extract rfl rfl) (.m rfl rfl rfl rfl (.refl _) (.extract rfl rfl) (.m rfl rfl rfl rfl (.refl _) (.assign rfl) ?_)))
  refine .m rfl rfl rfl rfl (.refl _) (.assign rfl) ?_
  refine .done ?_
  refine hK11 _ _ ?_
  refine .seq (fun K12 hK12 => ?_)
  refine .region ?_
  refine .m rfl rfl rfl (.loadM ag_55_LLeftClasses rfl ⟨rfl, Mem.of_get at3⟩) ?_
  refine .call rfl rfl rfl rfl @Try.call35 rfl (toFunctor_c) ?_
  rintro _ H39 ⟨le39, p39, rfl, v39⟩
  have nx_H39 := le39.1
  replace hle := hle.trans le39
  replace at3 := le39.2 _ _ at3
  replace at4 := le39.2 _ _ at4
  replace lv_v31 := Keep.le lv_v31 le39
  replace v31 := bs_v31.keep lv_v31 (Nat.le_refl _)
  replace lv_v33 := Keep.le lv_v33 le39
  replace v33 := bs_v33.keep lv_v33 (Nat.le_refl _)
  replace lv_v35 := Keep.le lv_v35 le39
  replace v35 := bs_v35.keep lv_v35 (Nat.le_refl _)
  have bs_v39 := v39
  have lv_v39 : Keep H35.next H39 H39 := fun _ _ _ h => h
  replace h0 := base_h0.mono hle
  replace h1 := base_h1.mono hle
  clear hb3 fs3 ft3 c103 c113 j13 j23 hm3 hi3 hms3 his3 hmt3 hit3
  have hb3 : Fun.At _ g3 0 k p := ⟨Mem.of_get at3, h0⟩
  obtain ⟨fs3, ft3, c103, c113, j13, j23⟩ := hb3.get
  have hm3 : MemN _ _ _ _ _ := ⟨rfl, hb3.1⟩
  have hi3 := hb3.2
  have hms3 : MemN _ _ _ _ _ := ⟨rfl, fs3.1⟩
  have his3 := fs3.2
  have hmt3 : MemN _ _ _ _ _ := ⟨rfl, ft3.1⟩
  have hit3 := ft3.2
  clear hb4 fsh4 c54 c64 i14 i24 hm4 hi4 hmsh4 hish4
  have hb4 : SFun.At _ g4 0 f q := ⟨Mem.of_get at4, h1⟩
  obtain ⟨fsh4, c54, c64, i14, i24⟩ := hb4.get
  have hm4 : MemN _ _ _ _ _ := ⟨rfl, hb4.1⟩
  have hi4 := hb4.2
  have hmsh4 : MemN _ _ _ _ _ := ⟨rfl, fsh4.1⟩
  have hish4 := fsh4.2
  clear i31
  have i31 := v31.inn
  clear i33
  have i33 := v33.inn
  clear i35
  have i35 := v35.ints
  have i39 := v39.inn
  refine .r rfl rfl rfl (.allocR rfl ze_62_E rfl) ?_
  rintro _ H10 ⟨g10, rfl, le10, ge10, at10⟩
  have nx_H10 := le10.1
  replace hle := hle.trans le10
  replace at3 := le10.2 _ _ at3
  replace at4 := le10.2 _ _ at4
  replace lv_v31 := Keep.le lv_v31 le10
  replace v31 := bs_v31.keep lv_v31 (Nat.le_refl _)
  replace lv_v33 := Keep.le lv_v33 le10
  replace v33 := bs_v33.keep lv_v33 (Nat.le_refl _)
  replace lv_v35 := Keep.le lv_v35 le10
  replace v35 := bs_v35.keep lv_v35 (Nat.le_refl _)
  replace lv_v39 := Keep.le lv_v39 le10
  replace v39 := bs_v39.keep lv_v39 (Nat.le_refl _)
  have lt_at10 := GHeap.lt_of_get at10
  replace h0 := base_h0.mono hle
  replace h1 := base_h1.mono hle
  clear hb3 fs3 ft3 c103 c113 j13 j23 hm3 hi3 hms3 his3 hmt3 hit3
  have hb3 : Fun.At _ g3 0 k p := ⟨Mem.of_get at3, h0⟩
  obtain ⟨fs3, ft3, c103, c113, j13, j23⟩ := hb3.get
  have hm3 : MemN _ _ _ _ _ := ⟨rfl, hb3.1⟩
  have hi3 := hb3.2
  have hms3 : MemN _ _ _ _ _ := ⟨rfl, fs3.1⟩
  have his3 := fs3.2
  have hmt3 : MemN _ _ _ _ _ := ⟨rfl, ft3.1⟩
  have hit3 := ft3.2
  clear hb4 fsh4 c54 c64 i14 i24 hm4 hi4 hmsh4 hish4
  have hb4 : SFun.At _ g4 0 f q := ⟨Mem.of_get at4, h1⟩
  obtain ⟨fsh4, c54, c64, i14, i24⟩ := hb4.get
  have hm4 : MemN _ _ _ _ _ := ⟨rfl, hb4.1⟩
  have hi4 := hb4.2
  have hmsh4 : MemN _ _ _ _ _ := ⟨rfl, fsh4.1⟩
  have hish4 := fsh4.2
  clear i31
  have i31 := v31.inn
  clear i33
  have i33 := v33.inn
  clear i35
  have i35 := v35.ints
  clear i39
  have i39 := v39.inn
  refine .r0 rfl rfl (.fillR rfl sz_62_E rfl rfl rfl rfl (by assumption) (by first | rfl | exact Nat.le_of_ble_eq_true rfl | simp)) ?_
  rintro _ H9003 ⟨rfl, st9003, at9003⟩
  have nx_H9003 := st9003.nx
  replace hle := hle.st st9003 (fun k hk => ⟨by omega, trivial⟩)
  have ne_g3_g10 : g3 ≠ g10 := by omega
  replace at3 := st9003.same _ _ ⟨ne_g3_g10, trivial⟩ at3
  have ne_g4_g10 : g4 ≠ g10 := by omega
  replace at4 := st9003.same _ _ ⟨ne_g4_g10, trivial⟩ at4
  replace lv_v31 := Keep.st lv_v31 st9003 (fun k hb hk => ⟨by omega, trivial⟩)
  replace v31 := bs_v31.keep lv_v31 (Nat.le_refl _)
  replace lv_v33 := Keep.st lv_v33 st9003 (fun k hb hk => ⟨by omega, trivial⟩)
  replace v33 := bs_v33.keep lv_v33 (Nat.le_refl _)
  replace lv_v35 := Keep.st lv_v35 st9003 (fun k hb hk => ⟨by omega, trivial⟩)
  replace v35 := bs_v35.keep lv_v35 (Nat.le_refl _)
  replace lv_v39 := Keep.st lv_v39 st9003 (fun k hb hk => ⟨by omega, trivial⟩)
  replace v39 := bs_v39.keep lv_v39 (Nat.le_refl _)
  have lt_at9003 := GHeap.lt_of_get at9003
  replace h0 := base_h0.mono hle
  replace h1 := base_h1.mono hle
  clear hb3 fs3 ft3 c103 c113 j13 j23 hm3 hi3 hms3 his3 hmt3 hit3
  have hb3 : Fun.At _ g3 0 k p := ⟨Mem.of_get at3, h0⟩
  obtain ⟨fs3, ft3, c103, c113, j13, j23⟩ := hb3.get
  have hm3 : MemN _ _ _ _ _ := ⟨rfl, hb3.1⟩
  have hi3 := hb3.2
  have hms3 : MemN _ _ _ _ _ := ⟨rfl, fs3.1⟩
  have his3 := fs3.2
  have hmt3 : MemN _ _ _ _ _ := ⟨rfl, ft3.1⟩
  have hit3 := ft3.2
  clear hb4 fsh4 c54 c64 i14 i24 hm4 hi4 hmsh4 hish4
  have hb4 : SFun.At _ g4 0 f q := ⟨Mem.of_get at4, h1⟩
  obtain ⟨fsh4, c54, c64, i14, i24⟩ := hb4.get
  have hm4 : MemN _ _ _ _ _ := ⟨rfl, hb4.1⟩
  have hi4 := hb4.2
  have hmsh4 : MemN _ _ _ _ _ := ⟨rfl, fsh4.1⟩
  have hish4 := fsh4.2
  clear i31
  have i31 := v31.inn
  clear i33
  have i33 := v33.inn
  clear i35
  have i35 := v35.ints
  clear i39
  have i39 := v39.inn
  have mm9003 : MemN _ _ _ _ _ := ⟨rfl, Mem.of_get at9003⟩
  refine .nil ?_
  refine hK12 _ _ ?_
  refine .seq (fun K13 hK13 => ?_)
  refine .region ?_
  refine .m rfl rfl rfl (.loadM ag_57_LLeftClasses rfl ⟨rfl, Mem.of_get at4⟩) ?_
  refine .call rfl rfl rfl rfl @Try.call36 rfl (toSetFunctor_c) ?_
  rintro _ H41 ⟨le41, p41, rfl, v41⟩
  have nx_H41 := le41.1
  replace hle := hle.trans le41
  replace at3 := le41.2 _ _ at3
  replace at4 := le41.2 _ _ at4
  replace at9003 := le41.2 _ _ at9003
  replace lv_v31 := Keep.le lv_v31 le41
  replace v31 := bs_v31.keep lv_v31 (Nat.le_refl _)
  replace lv_v33 := Keep.le lv_v33 le41
  replace v33 := bs_v33.keep lv_v33 (Nat.le_refl _)
  replace lv_v35 := Keep.le lv_v35 le41
  replace v35 := bs_v35.keep lv_v35 (Nat.le_refl _)
  replace lv_v39 := Keep.le lv_v39 le41
  replace v39 := bs_v39.keep lv_v39 (Nat.le_refl _)
  have bs_v41 := v41
  have lv_v41 : Keep H9003.next H41 H41 := fun _ _ _ h => h
  replace h0 := base_h0.mono hle
  replace h1 := base_h1.mono hle
  clear hb3 fs3 ft3 c103 c113 j13 j23 hm3 hi3 hms3 his3 hmt3 hit3
  have hb3 : Fun.At _ g3 0 k p := ⟨Mem.of_get at3, h0⟩
  obtain ⟨fs3, ft3, c103, c113, j13, j23⟩ := hb3.get
  have hm3 : MemN _ _ _ _ _ := ⟨rfl, hb3.1⟩
  have hi3 := hb3.2
  have hms3 : MemN _ _ _ _ _ := ⟨rfl, fs3.1⟩
  have his3 := fs3.2
  have hmt3 : MemN _ _ _ _ _ := ⟨rfl, ft3.1⟩
  have hit3 := ft3.2
  clear hb4 fsh4 c54 c64 i14 i24 hm4 hi4 hmsh4 hish4
  have hb4 : SFun.At _ g4 0 f q := ⟨Mem.of_get at4, h1⟩
  obtain ⟨fsh4, c54, c64, i14, i24⟩ := hb4.get
  have hm4 : MemN _ _ _ _ _ := ⟨rfl, hb4.1⟩
  have hi4 := hb4.2
  have hmsh4 : MemN _ _ _ _ _ := ⟨rfl, fsh4.1⟩
  have hish4 := fsh4.2
  clear i31
  have i31 := v31.inn
  clear i33
  have i33 := v33.inn
  clear i35
  have i35 := v35.ints
  clear i39
  have i39 := v39.inn
  clear mm9003
  have mm9003 : MemN _ _ _ _ _ := ⟨rfl, Mem.of_get at9003⟩
  have i41 := v41.inn
  refine .r rfl rfl rfl (.allocR rfl ze_65_VSFun rfl) ?_
  rintro _ H11 ⟨g11, rfl, le11, ge11, at11⟩
  have nx_H11 := le11.1
  replace hle := hle.trans le11
  replace at3 := le11.2 _ _ at3
  replace at4 := le11.2 _ _ at4
  replace at9003 := le11.2 _ _ at9003
  replace lv_v31 := Keep.le lv_v31 le11
  replace v31 := bs_v31.keep lv_v31 (Nat.le_refl _)
  replace lv_v33 := Keep.le lv_v33 le11
  replace v33 := bs_v33.keep lv_v33 (Nat.le_refl _)
  replace lv_v35 := Keep.le lv_v35 le11
  replace v35 := bs_v35.keep lv_v35 (Nat.le_refl _)
  replace lv_v39 := Keep.le lv_v39 le11
  replace v39 := bs_v39.keep lv_v39 (Nat.le_refl _)
  replace lv_v41 := Keep.le lv_v41 le11
  replace v41 := bs_v41.keep lv_v41 (Nat.le_refl _)
  have lt_at11 := GHeap.lt_of_get at11
  replace h0 := base_h0.mono hle
  replace h1 := base_h1.mono hle
  clear hb3 fs3 ft3 c103 c113 j13 j23 hm3 hi3 hms3 his3 hmt3 hit3
  have hb3 : Fun.At _ g3 0 k p := ⟨Mem.of_get at3, h0⟩
  obtain ⟨fs3, ft3, c103, c113, j13, j23⟩ := hb3.get
  have hm3 : MemN _ _ _ _ _ := ⟨rfl, hb3.1⟩
  have hi3 := hb3.2
  have hms3 : MemN _ _ _ _ _ := ⟨rfl, fs3.1⟩
  have his3 := fs3.2
  have hmt3 : MemN _ _ _ _ _ := ⟨rfl, ft3.1⟩
  have hit3 := ft3.2
  clear hb4 fsh4 c54 c64 i14 i24 hm4 hi4 hmsh4 hish4
  have hb4 : SFun.At _ g4 0 f q := ⟨Mem.of_get at4, h1⟩
  obtain ⟨fsh4, c54, c64, i14, i24⟩ := hb4.get
  have hm4 : MemN _ _ _ _ _ := ⟨rfl, hb4.1⟩
  have hi4 := hb4.2
  have hmsh4 : MemN _ _ _ _ _ := ⟨rfl, fsh4.1⟩
  have hish4 := fsh4.2
  clear i31
  have i31 := v31.inn
  clear i33
  have i33 := v33.inn
  clear i35
  have i35 := v35.ints
  clear i39
  have i39 := v39.inn
  clear mm9003
  have mm9003 : MemN _ _ _ _ _ := ⟨rfl, Mem.of_get at9003⟩
  clear i41
  have i41 := v41.inn
  refine .r0 rfl rfl (.fillR rfl sz_65_VSFun rfl rfl rfl rfl (by assumption) (by first | rfl | exact Nat.le_of_ble_eq_true rfl | simp)) ?_
  rintro _ H10003 ⟨rfl, st10003, at10003⟩
  have nx_H10003 := st10003.nx
  replace hle := hle.st st10003 (fun k hk => ⟨by omega, trivial⟩)
  have ne_g3_g11 : g3 ≠ g11 := by omega
  replace at3 := st10003.same _ _ ⟨ne_g3_g11, trivial⟩ at3
  have ne_g4_g11 : g4 ≠ g11 := by omega
  replace at4 := st10003.same _ _ ⟨ne_g4_g11, trivial⟩ at4
  have ne_g10_g11 : g10 ≠ g11 := by omega
  replace at9003 := st10003.same _ _ ⟨ne_g10_g11, trivial⟩ at9003
  replace lv_v31 := Keep.st lv_v31 st10003 (fun k hb hk => ⟨by omega, trivial⟩)
  replace v31 := bs_v31.keep lv_v31 (Nat.le_refl _)
  replace lv_v33 := Keep.st lv_v33 st10003 (fun k hb hk => ⟨by omega, trivial⟩)
  replace v33 := bs_v33.keep lv_v33 (Nat.le_refl _)
  replace lv_v35 := Keep.st lv_v35 st10003 (fun k hb hk => ⟨by omega, trivial⟩)
  replace v35 := bs_v35.keep lv_v35 (Nat.le_refl _)
  replace lv_v39 := Keep.st lv_v39 st10003 (fun k hb hk => ⟨by omega, trivial⟩)
  replace v39 := bs_v39.keep lv_v39 (Nat.le_refl _)
  replace lv_v41 := Keep.st lv_v41 st10003 (fun k hb hk => ⟨by omega, trivial⟩)
  replace v41 := bs_v41.keep lv_v41 (Nat.le_refl _)
  have lt_at10003 := GHeap.lt_of_get at10003
  replace h0 := base_h0.mono hle
  replace h1 := base_h1.mono hle
  clear hb3 fs3 ft3 c103 c113 j13 j23 hm3 hi3 hms3 his3 hmt3 hit3
  have hb3 : Fun.At _ g3 0 k p := ⟨Mem.of_get at3, h0⟩
  obtain ⟨fs3, ft3, c103, c113, j13, j23⟩ := hb3.get
  have hm3 : MemN _ _ _ _ _ := ⟨rfl, hb3.1⟩
  have hi3 := hb3.2
  have hms3 : MemN _ _ _ _ _ := ⟨rfl, fs3.1⟩
  have his3 := fs3.2
  have hmt3 : MemN _ _ _ _ _ := ⟨rfl, ft3.1⟩
  have hit3 := ft3.2
  clear hb4 fsh4 c54 c64 i14 i24 hm4 hi4 hmsh4 hish4
  have hb4 : SFun.At _ g4 0 f q := ⟨Mem.of_get at4, h1⟩
  obtain ⟨fsh4, c54, c64, i14, i24⟩ := hb4.get
  have hm4 : MemN _ _ _ _ _ := ⟨rfl, hb4.1⟩
  have hi4 := hb4.2
  have hmsh4 : MemN _ _ _ _ _ := ⟨rfl, fsh4.1⟩
  have hish4 := fsh4.2
  clear i31
  have i31 := v31.inn
  clear i33
  have i33 := v33.inn
  clear i35
  have i35 := v35.ints
  clear i39
  have i39 := v39.inn
  clear mm9003
  have mm9003 : MemN _ _ _ _ _ := ⟨rfl, Mem.of_get at9003⟩
  clear i41
  have i41 := v41.inn
  have mm10003 : MemN _ _ _ _ _ := ⟨rfl, Mem.of_get at10003⟩
  refine .nil ?_
  refine hK13 _ _ ?_
  refine .seq (fun K14 hK14 => ?_)
  refine .region ?_
  refine .m rfl rfl rfl (.loadM ag_62_E rfl ⟨rfl, Mem.of_get at9003⟩) ?_
  refine .m rfl rfl rfl (.loadM ag_65_VSFun rfl ⟨rfl, Mem.of_get at10003⟩) ?_
  refine .m rfl rfl rfl (.move rfl) ?_
  refine .call rfl rfl rfl rfl @Try.call37 rfl (implLeftClasses_c) ?_
  rintro _ H46 ⟨le46, a46, rfl, v46⟩
  have nx_H46 := le46.1
  replace hle := hle.trans le46
  replace at3 := le46.2 _ _ at3
  replace at4 := le46.2 _ _ at4
  replace at9003 := le46.2 _ _ at9003
  replace at10003 := le46.2 _ _ at10003
  replace lv_v31 := Keep.le lv_v31 le46
  replace v31 := bs_v31.keep lv_v31 (Nat.le_refl _)
  replace lv_v33 := Keep.le lv_v33 le46
  replace v33 := bs_v33.keep lv_v33 (Nat.le_refl _)
  replace lv_v35 := Keep.le lv_v35 le46
  replace v35 := bs_v35.keep lv_v35 (Nat.le_refl _)
  replace lv_v39 := Keep.le lv_v39 le46
  replace v39 := bs_v39.keep lv_v39 (Nat.le_refl _)
  replace lv_v41 := Keep.le lv_v41 le46
  replace v41 := bs_v41.keep lv_v41 (Nat.le_refl _)
  have bs_v46 := v46
  have lv_v46 : Keep H10003.next H46 H46 := fun _ _ _ h => h
  replace h0 := base_h0.mono hle
  replace h1 := base_h1.mono hle
  clear hb3 fs3 ft3 c103 c113 j13 j23 hm3 hi3 hms3 his3 hmt3 hit3
  have hb3 : Fun.At _ g3 0 k p := ⟨Mem.of_get at3, h0⟩
  obtain ⟨fs3, ft3, c103, c113, j13, j23⟩ := hb3.get
  have hm3 : MemN _ _ _ _ _ := ⟨rfl, hb3.1⟩
  have hi3 := hb3.2
  have hms3 : MemN _ _ _ _ _ := ⟨rfl, fs3.1⟩
  have his3 := fs3.2
  have hmt3 : MemN _ _ _ _ _ := ⟨rfl, ft3.1⟩
  have hit3 := ft3.2
  clear hb4 fsh4 c54 c64 i14 i24 hm4 hi4 hmsh4 hish4
  have hb4 : SFun.At _ g4 0 f q := ⟨Mem.of_get at4, h1⟩
  obtain ⟨fsh4, c54, c64, i14, i24⟩ := hb4.get
  have hm4 : MemN _ _ _ _ _ := ⟨rfl, hb4.1⟩
  have hi4 := hb4.2
  have hmsh4 : MemN _ _ _ _ _ := ⟨rfl, fsh4.1⟩
  have hish4 := fsh4.2
  clear i31
  have i31 := v31.inn
  clear i33
  have i33 := v33.inn
  clear i35
  have i35 := v35.ints
  clear i39
  have i39 := v39.inn
  clear mm9003
  have mm9003 : MemN _ _ _ _ _ := ⟨rfl, Mem.of_get at9003⟩
  clear i41
  have i41 := v41.inn
  clear mm10003
  have mm10003 : MemN _ _ _ _ _ := ⟨rfl, Mem.of_get at10003⟩
  have i46 := v46.ints
  refine .m rfl rfl rfl (.move rfl) (.m rfl rfl rfl (.extract rfl rfl) (.m rfl rfl rfl (.extract rfl rfl) (.m rfl rfl rfl (.assign rfl) ?_)))
  refine .m rfl rfl rfl (.assign rfl) (.nil ?_)
  refine hK14 _ _ ?_
  refine .seq (fun K15 hK15 => ?_)
  refine .seq (fun K16 hK16 => ?_)
  refine .region (.m rfl rfl rfl (.move rfl) (.m rfl rfl rfl (.move rfl) ?_))
  refine .callQ rfl rfl rfl rfl @Try.call29 rfl (eqInt64S_c) ?_
  refine .m rfl rfl rfl (.not rfl) (.m rfl rfl rfl (.move rfl) ?_)
  refine .split (fun h53 => ?_) (fun h53 => ?_)
  ·
   try simp only [sps] at h53
   refine .sg rfl rfl rfl rfl rfl (.sg rfl rfl rfl rfl rfl (.sg rfl rfl rfl rfl rfl (.m rfl rfl rfl (.pickT rfl rfl) ?_)))
   refine .nil ?_
   refine hK16 _ _ ?_
   refine .condT rfl ?_
   refine .seq (fun K17 hK17 => ?_)
   refine .region (.m rfl rfl rfl (.assign rfl) (.nil ?_))
   refine hK17 _ _ ?_
   refine .ret ?_
   refine hret _ _ ?_
   refine ⟨_, rfl, ?_⟩
   first
   | exact rfl
   | exact absurd trivial (by assumption)
   | contradiction
   | (exfalso; omega)
  try simp only [sps] at h53
  refine .mg rfl rfl rfl rfl rfl (.move rfl) (.mg rfl rfl rfl rfl rfl (.move rfl) (.mg rfl rfl rfl rfl rfl (.cmp rfl rfl rfl) (.m rfl rfl rfl (.pickF rfl rfl) ?_)))
  refine .nil ?_
  refine hK16 _ _ ?_
  refine .cond rfl (fun h57 => ?_) (fun h57 => ?_)
  ·
   try simp only [sps] at h57
   refine .seq (fun K18 hK18 => ?_)
   refine .region (.m rfl rfl rfl (.assign rfl) (.nil ?_))
   refine hK18 _ _ ?_
   refine .ret ?_
   refine hret _ _ ?_
   refine ⟨_, rfl, ?_⟩
   first
   | exact rfl
   | exact absurd trivial (by assumption)
   | contradiction
   | (exfalso; omega)
  try simp only [sps] at h57
  refine .skip ?_
  refine hK15 _ _ ?_
  refine .seq (fun K19 hK19 => ?_)
  refine .seq (fun K20 hK20 => ?_)
  refine .regionD mixed_orders_B (.q 0 (.q 1 (.c 2 1 (.c 3 0 (.q 4 (.done)))))) (by kernel_rfl) ?_
  refine .m rfl rfl rfl rfl (.refl _) (.loadM ag_62_E rfl ⟨rfl, Mem.of_get at9003⟩) ?_
  refine .m rfl rfl rfl rfl (.refl _) (.loadM ag_55_LLeftClasses rfl ⟨rfl, Mem.of_get at3⟩) ?_
  refine .call1 rfl rfl rfl rfl rfl @Try.call35 rfl (toFunctor_c) ?_
  rintro _ H60 ⟨le60, p60, rfl, v60⟩
  have hbl := le60
  refine ⟨hbl, ?_⟩
  have nx_H60 := le60.1
  replace hle := hle.trans le60
  replace at3 := le60.2 _ _ at3
  replace at4 := le60.2 _ _ at4
  replace at9003 := le60.2 _ _ at9003
  replace at10003 := le60.2 _ _ at10003
  replace lv_v31 := Keep.le lv_v31 le60
  replace v31 := bs_v31.keep lv_v31 (Nat.le_refl _)
  replace lv_v33 := Keep.le lv_v33 le60
  replace v33 := bs_v33.keep lv_v33 (Nat.le_refl _)
  replace lv_v35 := Keep.le lv_v35 le60
  replace v35 := bs_v35.keep lv_v35 (Nat.le_refl _)
  replace lv_v39 := Keep.le lv_v39 le60
  replace v39 := bs_v39.keep lv_v39 (Nat.le_refl _)
  replace lv_v41 := Keep.le lv_v41 le60
  replace v41 := bs_v41.keep lv_v41 (Nat.le_refl _)
  replace lv_v46 := Keep.le lv_v46 le60
  replace v46 := bs_v46.keep lv_v46 (Nat.le_refl _)
  have bs_v60 := v60
  have lv_v60 : Keep H46.next H60 H60 := fun _ _ _ h => h
  replace h0 := base_h0.mono hle
  replace h1 := base_h1.mono hle
  clear hb3 fs3 ft3 c103 c113 j13 j23 hm3 hi3 hms3 his3 hmt3 hit3
  have hb3 : Fun.At _ g3 0 k p := ⟨Mem.of_get at3, h0⟩
  obtain ⟨fs3, ft3, c103, c113, j13, j23⟩ := hb3.get
  have hm3 : MemN _ _ _ _ _ := ⟨rfl, hb3.1⟩
  have hi3 := hb3.2
  have hms3 : MemN _ _ _ _ _ := ⟨rfl, fs3.1⟩
  have his3 := fs3.2
  have hmt3 : MemN _ _ _ _ _ := ⟨rfl, ft3.1⟩
  have hit3 := ft3.2
  clear hb4 fsh4 c54 c64 i14 i24 hm4 hi4 hmsh4 hish4
  have hb4 : SFun.At _ g4 0 f q := ⟨Mem.of_get at4, h1⟩
  obtain ⟨fsh4, c54, c64, i14, i24⟩ := hb4.get
  have hm4 : MemN _ _ _ _ _ := ⟨rfl, hb4.1⟩
  have hi4 := hb4.2
  have hmsh4 : MemN _ _ _ _ _ := ⟨rfl, fsh4.1⟩
  have hish4 := fsh4.2
  clear i31
  have i31 := v31.inn
  clear i33
  have i33 := v33.inn
  clear i35
  have i35 := v35.ints
  clear i39
  have i39 := v39.inn
  clear mm9003
  have mm9003 : MemN _ _ _ _ _ := ⟨rfl, Mem.of_get at9003⟩
  clear i41
  have i41 := v41.inn
  clear mm10003
  have mm10003 : MemN _ _ _ _ _ := ⟨rfl, Mem.of_get at10003⟩
  clear i46
  have i46 := v46.ints
  have i60 := v60.inn
  refine .callQ0 rfl rfl rfl rfl rfl @Try.call38 rfl (eqFunctor_c) ?_
  refine .m rfl rfl rfl rfl (.refl _) (.not rfl) ?_
  refine .done ?_
  refine hK20 _ _ ?_
  refine .cond rfl (fun h62 => ?_) (fun h62 => ?_)
  ·
   try simp only [sps] at h62
   refine .seq (fun K21 hK21 => ?_)
   refine .region (.m rfl rfl rfl (.assign rfl) (.nil ?_))
   refine hK21 _ _ ?_
   refine .ret ?_
   refine hret _ _ ?_
   refine ⟨_, rfl, ?_⟩
   first
   | exact rfl
   | exact absurd trivial (by assumption)
   | contradiction
   | (exfalso; omega)
  try simp only [sps] at h62
  refine .skip ?_
  refine hK19 _ _ ?_
  refine .seq (fun K22 hK22 => ?_)
  refine .seq (fun K23 hK23 => ?_)
  refine .regionD mixed_orders_B (.q 0 (.q 1 (.c 2 1 (.c 3 0 (.q 4 (.done)))))) (by kernel_rfl) ?_
  refine .m rfl rfl rfl rfl (.refl _) (.loadM ag_65_VSFun rfl ⟨rfl, Mem.of_get at10003⟩) ?_
  refine .m rfl rfl rfl rfl (.refl _) (.loadM ag_57_LLeftClasses rfl ⟨rfl, Mem.of_get at4⟩) ?_
  refine .call1 rfl rfl rfl rfl rfl @Try.call36 rfl (toSetFunctor_c) ?_
  rintro _ H65 ⟨le65, p65, rfl, v65⟩
  have hbl := le65
  refine ⟨hbl, ?_⟩
  have nx_H65 := le65.1
  replace hle := hle.trans le65
  replace at3 := le65.2 _ _ at3
  replace at4 := le65.2 _ _ at4
  replace at9003 := le65.2 _ _ at9003
  replace at10003 := le65.2 _ _ at10003
  replace lv_v31 := Keep.le lv_v31 le65
  replace v31 := bs_v31.keep lv_v31 (Nat.le_refl _)
  replace lv_v33 := Keep.le lv_v33 le65
  replace v33 := bs_v33.keep lv_v33 (Nat.le_refl _)
  replace lv_v35 := Keep.le lv_v35 le65
  replace v35 := bs_v35.keep lv_v35 (Nat.le_refl _)
  replace lv_v39 := Keep.le lv_v39 le65
  replace v39 := bs_v39.keep lv_v39 (Nat.le_refl _)
  replace lv_v41 := Keep.le lv_v41 le65
  replace v41 := bs_v41.keep lv_v41 (Nat.le_refl _)
  replace lv_v46 := Keep.le lv_v46 le65
  replace v46 := bs_v46.keep lv_v46 (Nat.le_refl _)
  replace lv_v60 := Keep.le lv_v60 le65
  replace v60 := bs_v60.keep lv_v60 (Nat.le_refl _)
  have bs_v65 := v65
  have lv_v65 : Keep H60.next H65 H65 := fun _ _ _ h => h
  replace h0 := base_h0.mono hle
  replace h1 := base_h1.mono hle
  clear hb3 fs3 ft3 c103 c113 j13 j23 hm3 hi3 hms3 his3 hmt3 hit3
  have hb3 : Fun.At _ g3 0 k p := ⟨Mem.of_get at3, h0⟩
  obtain ⟨fs3, ft3, c103, c113, j13, j23⟩ := hb3.get
  have hm3 : MemN _ _ _ _ _ := ⟨rfl, hb3.1⟩
  have hi3 := hb3.2
  have hms3 : MemN _ _ _ _ _ := ⟨rfl, fs3.1⟩
  have his3 := fs3.2
  have hmt3 : MemN _ _ _ _ _ := ⟨rfl, ft3.1⟩
  have hit3 := ft3.2
  clear hb4 fsh4 c54 c64 i14 i24 hm4 hi4 hmsh4 hish4
  have hb4 : SFun.At _ g4 0 f q := ⟨Mem.of_get at4, h1⟩
  obtain ⟨fsh4, c54, c64, i14, i24⟩ := hb4.get
  have hm4 : MemN _ _ _ _ _ := ⟨rfl, hb4.1⟩
  have hi4 := hb4.2
  have hmsh4 : MemN _ _ _ _ _ := ⟨rfl, fsh4.1⟩
  have hish4 := fsh4.2
  clear i31
  have i31 := v31.inn
  clear i33
  have i33 := v33.inn
  clear i35
  have i35 := v35.ints
  clear i39
  have i39 := v39.inn
  clear mm9003
  have mm9003 : MemN _ _ _ _ _ := ⟨rfl, Mem.of_get at9003⟩
  clear i41
  have i41 := v41.inn
  clear mm10003
  have mm10003 : MemN _ _ _ _ _ := ⟨rfl, Mem.of_get at10003⟩
  clear i46
  have i46 := v46.ints
  clear i60
  have i60 := v60.inn
  have i65 := v65.inn
  refine .callQ0 rfl rfl rfl rfl rfl @Try.call39 rfl (eqSetFunctor_c) ?_
  refine .m rfl rfl rfl rfl (.refl _) (.not rfl) ?_
  refine .done ?_
  refine hK23 _ _ ?_
  refine .cond rfl (fun h67 => ?_) (fun h67 => ?_)
  ·
   try simp only [sps] at h67
   refine .seq (fun K24 hK24 => ?_)
   refine .region (.m rfl rfl rfl (.assign rfl) (.nil ?_))
   refine hK24 _ _ ?_
   refine .ret ?_
   refine hret _ _ ?_
   refine ⟨_, rfl, ?_⟩
   first
   | exact rfl
   | exact absurd trivial (by assumption)
   | contradiction
   | (exfalso; omega)
  try simp only [sps] at h67
  refine .skip ?_
  refine hK22 _ _ ?_
  refine .seq (fun K25 hK25 => ?_)
  refine .region (.m rfl rfl rfl (.assign rfl) (.nil ?_))
  refine hK25 _ _ ?_
  refine .seq (fun K26 hK26 => ?_)
  refine .region ?_
  refine .m rfl rfl rfl (.loadM ag_62_E rfl ⟨rfl, Mem.of_get at9003⟩) ?_
  refine .m rfl rfl rfl (.move rfl) ?_
  have w_v39 := FunW.of_at bs_v39 lv_v39
  refine .call rfl rfl rfl rfl @Try.call40 rfl (markFunctor_c) ?_
  rintro _ H70 ⟨rfl, mk70⟩
  have sm70 := mk70.stm
  have nx_H70 := sm70.nx
  replace hle := StM.le_left hle sm70 (by omega)
  replace at3 := sm70.same _ _ (by omega) at3
  replace at4 := sm70.same _ _ (by omega) at4
  replace at9003 := sm70.same _ _ (by omega) at9003
  replace at10003 := sm70.same _ _ (by omega) at10003
  replace lv_v31 := Keep.stM lv_v31 sm70 (fun k hb hk => by omega)
  replace v31 := bs_v31.keep lv_v31 (Nat.le_refl _)
  replace lv_v33 := Keep.stM lv_v33 sm70 (fun k hb hk => by omega)
  replace v33 := bs_v33.keep lv_v33 (Nat.le_refl _)
  replace lv_v35 := Keep.stM lv_v35 sm70 (fun k hb hk => by omega)
  replace v35 := bs_v35.keep lv_v35 (Nat.le_refl _)
  replace lv_v41 := Keep.stM lv_v41 sm70 (fun k hb hk => by omega)
  replace v41 := bs_v41.keep lv_v41 (Nat.le_refl _)
  replace lv_v46 := Keep.stM lv_v46 sm70 (fun k hb hk => by omega)
  replace v46 := bs_v46.keep lv_v46 (Nat.le_refl _)
  replace lv_v60 := Keep.stM lv_v60 sm70 (fun k hb hk => by omega)
  replace v60 := bs_v60.keep lv_v60 (Nat.le_refl _)
  replace lv_v65 := Keep.stM lv_v65 sm70 (fun k hb hk => by omega)
  replace v65 := bs_v65.keep lv_v65 (Nat.le_refl _)
  replace h0 := base_h0.mono hle
  replace h1 := base_h1.mono hle
  clear hb3 fs3 ft3 c103 c113 j13 j23 hm3 hi3 hms3 his3 hmt3 hit3
  have hb3 : Fun.At _ g3 0 k p := ⟨Mem.of_get at3, h0⟩
  obtain ⟨fs3, ft3, c103, c113, j13, j23⟩ := hb3.get
  have hm3 : MemN _ _ _ _ _ := ⟨rfl, hb3.1⟩
  have hi3 := hb3.2
  have hms3 : MemN _ _ _ _ _ := ⟨rfl, fs3.1⟩
  have his3 := fs3.2
  have hmt3 : MemN _ _ _ _ _ := ⟨rfl, ft3.1⟩
  have hit3 := ft3.2
  clear hb4 fsh4 c54 c64 i14 i24 hm4 hi4 hmsh4 hish4
  have hb4 : SFun.At _ g4 0 f q := ⟨Mem.of_get at4, h1⟩
  obtain ⟨fsh4, c54, c64, i14, i24⟩ := hb4.get
  have hm4 : MemN _ _ _ _ _ := ⟨rfl, hb4.1⟩
  have hi4 := hb4.2
  have hmsh4 : MemN _ _ _ _ _ := ⟨rfl, fsh4.1⟩
  have hish4 := fsh4.2
  clear i31
  have i31 := v31.inn
  clear i33
  have i33 := v33.inn
  clear i35
  have i35 := v35.ints
  clear mm9003
  have mm9003 : MemN _ _ _ _ _ := ⟨rfl, Mem.of_get at9003⟩
  clear i41
  have i41 := v41.inn
  clear mm10003
  have mm10003 : MemN _ _ _ _ _ := ⟨rfl, Mem.of_get at10003⟩
  clear i46
  have i46 := v46.ints
  clear i60
  have i60 := v60.inn
  clear i65
  have i65 := v65.inn
  refine .m rfl rfl rfl (.assign rfl) (.nil ?_)
  refine hK26 _ _ ?_
  refine .seq (fun K27 hK27 => ?_)
  refine .region ?_
  refine .m rfl rfl rfl (.loadM ag_65_VSFun rfl ⟨rfl, Mem.of_get at10003⟩) ?_
  refine .m rfl rfl rfl (.move rfl) ?_
  have w_v41 := SFunW.of_at bs_v41 lv_v41
  refine .call rfl rfl rfl rfl @Try.call41 rfl (markSetFunctor_c) ?_
  rintro _ H73 ⟨rfl, mk73⟩
  have sm73 := mk73.stm
  have nx_H73 := sm73.nx
  replace hle := StM.le_left hle sm73 (by omega)
  replace at3 := sm73.same _ _ (by omega) at3
  replace at4 := sm73.same _ _ (by omega) at4
  replace at9003 := sm73.same _ _ (by omega) at9003
  replace at10003 := sm73.same _ _ (by omega) at10003
  replace lv_v31 := Keep.stM lv_v31 sm73 (fun k hb hk => by omega)
  replace v31 := bs_v31.keep lv_v31 (Nat.le_refl _)
  replace lv_v33 := Keep.stM lv_v33 sm73 (fun k hb hk => by omega)
  replace v33 := bs_v33.keep lv_v33 (Nat.le_refl _)
  replace lv_v35 := Keep.stM lv_v35 sm73 (fun k hb hk => by omega)
  replace v35 := bs_v35.keep lv_v35 (Nat.le_refl _)
  replace lv_v46 := Keep.stM lv_v46 sm73 (fun k hb hk => by omega)
  replace v46 := bs_v46.keep lv_v46 (Nat.le_refl _)
  replace lv_v60 := Keep.stM lv_v60 sm73 (fun k hb hk => by omega)
  replace v60 := bs_v60.keep lv_v60 (Nat.le_refl _)
  replace lv_v65 := Keep.stM lv_v65 sm73 (fun k hb hk => by omega)
  replace v65 := bs_v65.keep lv_v65 (Nat.le_refl _)
  replace h0 := base_h0.mono hle
  replace h1 := base_h1.mono hle
  clear hb3 fs3 ft3 c103 c113 j13 j23 hm3 hi3 hms3 his3 hmt3 hit3
  have hb3 : Fun.At _ g3 0 k p := ⟨Mem.of_get at3, h0⟩
  obtain ⟨fs3, ft3, c103, c113, j13, j23⟩ := hb3.get
  have hm3 : MemN _ _ _ _ _ := ⟨rfl, hb3.1⟩
  have hi3 := hb3.2
  have hms3 : MemN _ _ _ _ _ := ⟨rfl, fs3.1⟩
  have his3 := fs3.2
  have hmt3 : MemN _ _ _ _ _ := ⟨rfl, ft3.1⟩
  have hit3 := ft3.2
  clear hb4 fsh4 c54 c64 i14 i24 hm4 hi4 hmsh4 hish4
  have hb4 : SFun.At _ g4 0 f q := ⟨Mem.of_get at4, h1⟩
  obtain ⟨fsh4, c54, c64, i14, i24⟩ := hb4.get
  have hm4 : MemN _ _ _ _ _ := ⟨rfl, hb4.1⟩
  have hi4 := hb4.2
  have hmsh4 : MemN _ _ _ _ _ := ⟨rfl, fsh4.1⟩
  have hish4 := fsh4.2
  clear i31
  have i31 := v31.inn
  clear i33
  have i33 := v33.inn
  clear i35
  have i35 := v35.ints
  clear mm9003
  have mm9003 : MemN _ _ _ _ _ := ⟨rfl, Mem.of_get at9003⟩
  clear mm10003
  have mm10003 : MemN _ _ _ _ _ := ⟨rfl, Mem.of_get at10003⟩
  clear i46
  have i46 := v46.ints
  clear i60
  have i60 := v60.inn
  clear i65
  have i65 := v65.inn
  refine .m rfl rfl rfl (.assign rfl) (.nil ?_)
  refine hK27 _ _ ?_
  refine .seq (fun K28 hK28 => ?_)
  refine .seq (fun K29 hK29 => ?_)
  refine .region (.m rfl rfl rfl (.move rfl) (.m rfl rfl rfl (.cmp rfl rfl rfl) (.m rfl rfl rfl (.move rfl) ?_)))
  refine .split (fun h76 => ?_) (fun h76 => ?_)
  ·
   try simp only [sps] at h76
   refine .sg rfl rfl rfl rfl rfl (.sg rfl rfl rfl rfl rfl (.sg rfl rfl rfl rfl rfl (.sg rfl rfl rfl rfl rfl ?_)))
   refine .m rfl rfl rfl (.pickT rfl rfl) (.m rfl rfl rfl (.move rfl) (.sg rfl rfl rfl rfl rfl (.sg rfl rfl rfl rfl rfl ?_)))
   refine .sg rfl rfl rfl rfl rfl (.m rfl rfl rfl (.pickT rfl rfl) (.nil ?_))
   refine hK29 _ _ ?_
   refine .condT rfl ?_
   refine .seq (fun K30 hK30 => ?_)
   refine .region (.m rfl rfl rfl (.assign rfl) (.nil ?_))
   refine hK30 _ _ ?_
   refine .ret ?_
   refine hret _ _ ?_
   refine ⟨_, rfl, ?_⟩
   first
   | exact rfl
   | exact absurd trivial (by assumption)
   | contradiction
   | (exfalso; omega)
  try simp only [sps] at h76
  refine .mg rfl rfl rfl rfl rfl (.move rfl) (.mg rfl rfl rfl rfl rfl (.move rfl) ?_)
  refine .callQg rfl rfl rfl rfl rfl rfl @Try.call29 rfl (eqInt64S_c) ?_
  refine .mg rfl rfl rfl rfl rfl (.not rfl) (.m rfl rfl rfl (.pickF rfl rfl) (.m rfl rfl rfl (.move rfl) ?_))
  refine .split (fun h82 => ?_) (fun h82 => ?_)
  ·
   try simp only [sps] at h82
   refine .sg rfl rfl rfl rfl rfl (.sg rfl rfl rfl rfl rfl (.sg rfl rfl rfl rfl rfl (.m rfl rfl rfl (.pickT rfl rfl) ?_)))
   refine .nil ?_
   refine hK29 _ _ ?_
   refine .condT rfl ?_
   refine .seq (fun K31 hK31 => ?_)
   refine .region (.m rfl rfl rfl (.assign rfl) (.nil ?_))
   refine hK31 _ _ ?_
   refine .ret ?_
   refine hret _ _ ?_
   refine ⟨_, rfl, ?_⟩
   first
   | exact rfl
   | exact absurd trivial (by assumption)
   | contradiction
   | (exfalso; omega)
  try simp only [sps] at h82
  refine .mg rfl rfl rfl rfl rfl (.move rfl) (.mg rfl rfl rfl rfl rfl (.move rfl) (.mg rfl rfl rfl rfl rfl (.cmp rfl rfl rfl) (.m rfl rfl rfl (.pickF rfl rfl) ?_)))
  refine .nil ?_
  refine hK29 _ _ ?_
  refine .cond rfl (fun h86 => ?_) (fun h86 => ?_)
  ·
   try simp only [sps] at h86
   refine .seq (fun K32 hK32 => ?_)
   refine .region (.m rfl rfl rfl (.assign rfl) (.nil ?_))
   refine hK32 _ _ ?_
   refine .ret ?_
   refine hret _ _ ?_
   refine ⟨_, rfl, ?_⟩
   first
   | exact rfl
   | exact absurd trivial (by assumption)
   | contradiction
   | (exfalso; omega)
  try simp only [sps] at h86
  refine .skip ?_
  refine hK28 _ _ ?_
  refine .seq (fun K33 hK33 => ?_)
  refine .region (.m rfl rfl rfl (.assign rfl) (.nil ?_))
  refine hK33 _ _ ?_
  refine .seq (fun K34 hK34 => ?_)
  refine .region (.m rfl rfl rfl (.move rfl) (.m rfl rfl rfl (.move rfl) ?_))
  have w_v46 := IntsW.of_r bs_v46 lv_v46
  refine .call rfl rfl rfl rfl @Try.call30 rfl (markInt64S_c) ?_
  rintro _ H89 ⟨rfl, mk89⟩
  have sm89 := mk89.stm
  have nx_H89 := sm89.nx
  replace hle := StM.le_left hle sm89 (by omega)
  replace at3 := sm89.same _ _ (by omega) at3
  replace at4 := sm89.same _ _ (by omega) at4
  replace at9003 := sm89.same _ _ (by omega) at9003
  replace at10003 := sm89.same _ _ (by omega) at10003
  replace lv_v31 := Keep.stM lv_v31 sm89 (fun k hb hk => by omega)
  replace v31 := bs_v31.keep lv_v31 (Nat.le_refl _)
  replace lv_v33 := Keep.stM lv_v33 sm89 (fun k hb hk => by omega)
  replace v33 := bs_v33.keep lv_v33 (Nat.le_refl _)
  replace lv_v35 := Keep.stM lv_v35 sm89 (fun k hb hk => by omega)
  replace v35 := bs_v35.keep lv_v35 (Nat.le_refl _)
  replace lv_v60 := Keep.stM lv_v60 sm89 (fun k hb hk => by omega)
  replace v60 := bs_v60.keep lv_v60 (Nat.le_refl _)
  replace lv_v65 := Keep.stM lv_v65 sm89 (fun k hb hk => by omega)
  replace v65 := bs_v65.keep lv_v65 (Nat.le_refl _)
  replace h0 := base_h0.mono hle
  replace h1 := base_h1.mono hle
  clear hb3 fs3 ft3 c103 c113 j13 j23 hm3 hi3 hms3 his3 hmt3 hit3
  have hb3 : Fun.At _ g3 0 k p := ⟨Mem.of_get at3, h0⟩
  obtain ⟨fs3, ft3, c103, c113, j13, j23⟩ := hb3.get
  have hm3 : MemN _ _ _ _ _ := ⟨rfl, hb3.1⟩
  have hi3 := hb3.2
  have hms3 : MemN _ _ _ _ _ := ⟨rfl, fs3.1⟩
  have his3 := fs3.2
  have hmt3 : MemN _ _ _ _ _ := ⟨rfl, ft3.1⟩
  have hit3 := ft3.2
  clear hb4 fsh4 c54 c64 i14 i24 hm4 hi4 hmsh4 hish4
  have hb4 : SFun.At _ g4 0 f q := ⟨Mem.of_get at4, h1⟩
  obtain ⟨fsh4, c54, c64, i14, i24⟩ := hb4.get
  have hm4 : MemN _ _ _ _ _ := ⟨rfl, hb4.1⟩
  have hi4 := hb4.2
  have hmsh4 : MemN _ _ _ _ _ := ⟨rfl, fsh4.1⟩
  have hish4 := fsh4.2
  clear i31
  have i31 := v31.inn
  clear i33
  have i33 := v33.inn
  clear i35
  have i35 := v35.ints
  clear mm9003
  have mm9003 : MemN _ _ _ _ _ := ⟨rfl, Mem.of_get at9003⟩
  clear mm10003
  have mm10003 : MemN _ _ _ _ _ := ⟨rfl, Mem.of_get at10003⟩
  clear i60
  have i60 := v60.inn
  clear i65
  have i65 := v65.inn
  have hd89 := mk89.held (IntsR.nodup)
  have wd89 := w_v46.stm sm89
  have bs_hd89 := hd89
  have lv_hd89 : Keep H10003.next H89 H89 := fun _ _ _ h => h
  have bs_wd89 := wd89
  have lv_wd89 : Keep H10003.next H89 H89 := fun _ _ _ h => h
  refine .m rfl rfl rfl (.assign rfl) (.nil ?_)
  refine hK34 _ _ ?_
  refine .seq (fun K35 hK35 => ?_)
  refine .region (.m rfl rfl rfl (.assign rfl) (.nil ?_))
  refine hK35 _ _ ?_
  refine .seq (fun K36 hK36 => ?_)
  refine .region (.m rfl rfl rfl (.move rfl) (.m rfl rfl rfl (.move rfl) ?_))
  refine .callQ rfl rfl rfl rfl @Try.call31 rfl (heldInt64S_c) ?_
  refine .m rfl rfl rfl (.assign rfl) (.nil ?_)
  refine hK36 _ _ ?_
  refine .seq (fun K37 hK37 => ?_)
  refine .seq (fun K38 hK38 => ?_)
  refine .region (.m rfl rfl rfl (.move rfl) (.m rfl rfl rfl (.cmp rfl rfl rfl) (.nil ?_)))
  refine hK38 _ _ ?_
  refine .cond rfl (fun h94 => ?_) (fun h94 => ?_)
  ·
   try simp only [sps] at h94
   refine .seq (fun K39 hK39 => ?_)
   refine .region (.m rfl rfl rfl (.assign rfl) (.nil ?_))
   refine hK39 _ _ ?_
   refine .ret ?_
   refine hret _ _ ?_
   refine ⟨_, rfl, ?_⟩
   first
   | exact rfl
   | exact absurd trivial (by assumption)
   | contradiction
   | (exfalso; omega)
  try simp only [sps] at h94
  refine .skip ?_
  refine hK37 _ _ ?_
  refine .seq (fun K40 hK40 => ?_)
  refine .seq (fun K41 hK41 => ?_)
  refine .region (.m rfl rfl rfl (.move rfl) (.m rfl rfl rfl (.move rfl) (.m rfl rfl rfl (.cmp rfl rfl rfl) ?_)))
  refine .nil ?_
  refine hK41 _ _ ?_
  refine .cond rfl (fun h97 => ?_) (fun h97 => ?_)
  ·
   try simp only [sps] at h97
   refine .seq (fun K42 hK42 => ?_)
   refine .region (.m rfl rfl rfl (.assign rfl) (.nil ?_))
   refine hK42 _ _ ?_
   refine .ret ?_
   refine hret _ _ ?_
   refine ⟨_, rfl, ?_⟩
   first
   | exact rfl
   | exact absurd trivial (by assumption)
   | contradiction
   | (exfalso; omega)
  try simp only [sps] at h97
  refine .skip ?_
  refine hK40 _ _ ?_
  refine .seq (fun K43 hK43 => ?_)
  refine .regionD mixed_orders_B (.q 0 (.q 2 (.q 4 (.c 1 1 (.c 3 1 (.c 5 0 (.q 6 (.q 7 (.q 8 (.q 9 (.q 10 (.done)))))))))))) (by kernel_rfl) ?_
  refine .m rfl rfl rfl rfl (.refl _) (.loadM ag_55_LLeftClasses rfl ⟨rfl, Mem.of_get at3⟩) ?_
  refine .m rfl rfl rfl rfl (.refl _) (.loadM ag_57_LLeftClasses rfl ⟨rfl, Mem.of_get at4⟩) ?_
  refine .m rfl rfl rfl rfl (.refl _) (.move rfl) ?_
  refine .call1 rfl rfl rfl rfl rfl @Try.call35 rfl (toFunctor_c) ?_
  rintro _ H100 ⟨le100, p100, rfl, v100⟩
  have hbl := le100
  refine ⟨hbl, ?_⟩
  have nx_H100 := le100.1
  replace hle := hle.trans le100
  replace at3 := le100.2 _ _ at3
  replace at4 := le100.2 _ _ at4
  replace at9003 := le100.2 _ _ at9003
  replace at10003 := le100.2 _ _ at10003
  replace lv_v31 := Keep.le lv_v31 le100
  replace v31 := bs_v31.keep lv_v31 (Nat.le_refl _)
  replace lv_v33 := Keep.le lv_v33 le100
  replace v33 := bs_v33.keep lv_v33 (Nat.le_refl _)
  replace lv_v35 := Keep.le lv_v35 le100
  replace v35 := bs_v35.keep lv_v35 (Nat.le_refl _)
  replace lv_v60 := Keep.le lv_v60 le100
  replace v60 := bs_v60.keep lv_v60 (Nat.le_refl _)
  replace lv_v65 := Keep.le lv_v65 le100
  replace v65 := bs_v65.keep lv_v65 (Nat.le_refl _)
  replace lv_hd89 := Keep.le lv_hd89 le100
  replace hd89 := bs_hd89.keep lv_hd89 (Nat.le_refl _)
  replace lv_wd89 := Keep.le lv_wd89 le100
  replace wd89 := bs_wd89.keep lv_wd89 (Nat.le_refl _)
  have bs_v100 := v100
  have lv_v100 : Keep H89.next H100 H100 := fun _ _ _ h => h
  replace h0 := base_h0.mono hle
  replace h1 := base_h1.mono hle
  clear hb3 fs3 ft3 c103 c113 j13 j23 hm3 hi3 hms3 his3 hmt3 hit3
  have hb3 : Fun.At _ g3 0 k p := ⟨Mem.of_get at3, h0⟩
  obtain ⟨fs3, ft3, c103, c113, j13, j23⟩ := hb3.get
  have hm3 : MemN _ _ _ _ _ := ⟨rfl, hb3.1⟩
  have hi3 := hb3.2
  have hms3 : MemN _ _ _ _ _ := ⟨rfl, fs3.1⟩
  have his3 := fs3.2
  have hmt3 : MemN _ _ _ _ _ := ⟨rfl, ft3.1⟩
  have hit3 := ft3.2
  clear hb4 fsh4 c54 c64 i14 i24 hm4 hi4 hmsh4 hish4
  have hb4 : SFun.At _ g4 0 f q := ⟨Mem.of_get at4, h1⟩
  obtain ⟨fsh4, c54, c64, i14, i24⟩ := hb4.get
  have hm4 : MemN _ _ _ _ _ := ⟨rfl, hb4.1⟩
  have hi4 := hb4.2
  have hmsh4 : MemN _ _ _ _ _ := ⟨rfl, fsh4.1⟩
  have hish4 := fsh4.2
  clear i31
  have i31 := v31.inn
  clear i33
  have i33 := v33.inn
  clear i35
  have i35 := v35.ints
  clear mm9003
  have mm9003 : MemN _ _ _ _ _ := ⟨rfl, Mem.of_get at9003⟩
  clear mm10003
  have mm10003 : MemN _ _ _ _ _ := ⟨rfl, Mem.of_get at10003⟩
  clear i60
  have i60 := v60.inn
  clear i65
  have i65 := v65.inn
  have i100 := v100.inn
  refine .call1 rfl rfl rfl rfl rfl @Try.call36 rfl (toSetFunctor_c) ?_
  rintro _ H102 ⟨le102, p102, rfl, v102⟩
  replace hbl := hbl.trans le102
  refine ⟨hbl, ?_⟩
  have nx_H102 := le102.1
  replace hle := hle.trans le102
  replace at3 := le102.2 _ _ at3
  replace at4 := le102.2 _ _ at4
  replace at9003 := le102.2 _ _ at9003
  replace at10003 := le102.2 _ _ at10003
  replace lv_v31 := Keep.le lv_v31 le102
  replace v31 := bs_v31.keep lv_v31 (Nat.le_refl _)
  replace lv_v33 := Keep.le lv_v33 le102
  replace v33 := bs_v33.keep lv_v33 (Nat.le_refl _)
  replace lv_v35 := Keep.le lv_v35 le102
  replace v35 := bs_v35.keep lv_v35 (Nat.le_refl _)
  replace lv_v60 := Keep.le lv_v60 le102
  replace v60 := bs_v60.keep lv_v60 (Nat.le_refl _)
  replace lv_v65 := Keep.le lv_v65 le102
  replace v65 := bs_v65.keep lv_v65 (Nat.le_refl _)
  replace lv_hd89 := Keep.le lv_hd89 le102
  replace hd89 := bs_hd89.keep lv_hd89 (Nat.le_refl _)
  replace lv_wd89 := Keep.le lv_wd89 le102
  replace wd89 := bs_wd89.keep lv_wd89 (Nat.le_refl _)
  replace lv_v100 := Keep.le lv_v100 le102
  replace v100 := bs_v100.keep lv_v100 (Nat.le_refl _)
  have bs_v102 := v102
  have lv_v102 : Keep H100.next H102 H102 := fun _ _ _ h => h
  replace h0 := base_h0.mono hle
  replace h1 := base_h1.mono hle
  clear hb3 fs3 ft3 c103 c113 j13 j23 hm3 hi3 hms3 his3 hmt3 hit3
  have hb3 : Fun.At _ g3 0 k p := ⟨Mem.of_get at3, h0⟩
  obtain ⟨fs3, ft3, c103, c113, j13, j23⟩ := hb3.get
  have hm3 : MemN _ _ _ _ _ := ⟨rfl, hb3.1⟩
  have hi3 := hb3.2
  have hms3 : MemN _ _ _ _ _ := ⟨rfl, fs3.1⟩
  have his3 := fs3.2
  have hmt3 : MemN _ _ _ _ _ := ⟨rfl, ft3.1⟩
  have hit3 := ft3.2
  clear hb4 fsh4 c54 c64 i14 i24 hm4 hi4 hmsh4 hish4
  have hb4 : SFun.At _ g4 0 f q := ⟨Mem.of_get at4, h1⟩
  obtain ⟨fsh4, c54, c64, i14, i24⟩ := hb4.get
  have hm4 : MemN _ _ _ _ _ := ⟨rfl, hb4.1⟩
  have hi4 := hb4.2
  have hmsh4 : MemN _ _ _ _ _ := ⟨rfl, fsh4.1⟩
  have hish4 := fsh4.2
  clear i31
  have i31 := v31.inn
  clear i33
  have i33 := v33.inn
  clear i35
  have i35 := v35.ints
  clear mm9003
  have mm9003 : MemN _ _ _ _ _ := ⟨rfl, Mem.of_get at9003⟩
  clear mm10003
  have mm10003 : MemN _ _ _ _ _ := ⟨rfl, Mem.of_get at10003⟩
  clear i60
  have i60 := v60.inn
  clear i65
  have i65 := v65.inn
  clear i100
  have i100 := v100.inn
  have i102 := v102.inn
  refine .call0 rfl rfl rfl rfl rfl @Try.call37 rfl (implLeftClasses_c) ?_
  rintro _ H104 ⟨le104, a104, rfl, v104⟩
  have nx_H104 := le104.1
  replace hle := hle.trans le104
  replace at3 := le104.2 _ _ at3
  replace at4 := le104.2 _ _ at4
  replace at9003 := le104.2 _ _ at9003
  replace at10003 := le104.2 _ _ at10003
  replace lv_v31 := Keep.le lv_v31 le104
  replace v31 := bs_v31.keep lv_v31 (Nat.le_refl _)
  replace lv_v33 := Keep.le lv_v33 le104
  replace v33 := bs_v33.keep lv_v33 (Nat.le_refl _)
  replace lv_v35 := Keep.le lv_v35 le104
  replace v35 := bs_v35.keep lv_v35 (Nat.le_refl _)
  replace lv_v60 := Keep.le lv_v60 le104
  replace v60 := bs_v60.keep lv_v60 (Nat.le_refl _)
  replace lv_v65 := Keep.le lv_v65 le104
  replace v65 := bs_v65.keep lv_v65 (Nat.le_refl _)
  replace lv_hd89 := Keep.le lv_hd89 le104
  replace hd89 := bs_hd89.keep lv_hd89 (Nat.le_refl _)
  replace lv_wd89 := Keep.le lv_wd89 le104
  replace wd89 := bs_wd89.keep lv_wd89 (Nat.le_refl _)
  replace lv_v100 := Keep.le lv_v100 le104
  replace v100 := bs_v100.keep lv_v100 (Nat.le_refl _)
  replace lv_v102 := Keep.le lv_v102 le104
  replace v102 := bs_v102.keep lv_v102 (Nat.le_refl _)
  have bs_v104 := v104
  have lv_v104 : Keep H102.next H104 H104 := fun _ _ _ h => h
  replace h0 := base_h0.mono hle
  replace h1 := base_h1.mono hle
  clear hb3 fs3 ft3 c103 c113 j13 j23 hm3 hi3 hms3 his3 hmt3 hit3
  have hb3 : Fun.At _ g3 0 k p := ⟨Mem.of_get at3, h0⟩
  obtain ⟨fs3, ft3, c103, c113, j13, j23⟩ := hb3.get
  have hm3 : MemN _ _ _ _ _ := ⟨rfl, hb3.1⟩
  have hi3 := hb3.2
  have hms3 : MemN _ _ _ _ _ := ⟨rfl, fs3.1⟩
  have his3 := fs3.2
  have hmt3 : MemN _ _ _ _ _ := ⟨rfl, ft3.1⟩
  have hit3 := ft3.2
  clear hb4 fsh4 c54 c64 i14 i24 hm4 hi4 hmsh4 hish4
  have hb4 : SFun.At _ g4 0 f q := ⟨Mem.of_get at4, h1⟩
  obtain ⟨fsh4, c54, c64, i14, i24⟩ := hb4.get
  have hm4 : MemN _ _ _ _ _ := ⟨rfl, hb4.1⟩
  have hi4 := hb4.2
  have hmsh4 : MemN _ _ _ _ _ := ⟨rfl, fsh4.1⟩
  have hish4 := fsh4.2
  clear i31
  have i31 := v31.inn
  clear i33
  have i33 := v33.inn
  clear i35
  have i35 := v35.ints
  clear mm9003
  have mm9003 : MemN _ _ _ _ _ := ⟨rfl, Mem.of_get at9003⟩
  clear mm10003
  have mm10003 : MemN _ _ _ _ _ := ⟨rfl, Mem.of_get at10003⟩
  clear i60
  have i60 := v60.inn
  clear i65
  have i65 := v65.inn
  clear i100
  have i100 := v100.inn
  clear i102
  have i102 := v102.inn
  have i104 := v104.ints
  refine .m rfl rfl rfl rfl (.refl _) (.move rfl) (.m rfl rfl rfl rfl (.refl _) (.extract rfl rfl) (.m rfl rfl rfl rfl (.refl _) (.extract rfl rfl) (.m rfl rfl rfl rfl (.refl _) (.assign rfl) ?_)))
  refine .m rfl rfl rfl rfl (.refl _) (.assign rfl) ?_
  refine .done ?_
  refine hK43 _ _ ?_
  refine .seq (fun K44 hK44 => ?_)
  refine .seq (fun K45 hK45 => ?_)
  refine .region (.m rfl rfl rfl (.move rfl) (.m rfl rfl rfl (.move rfl) ?_))
  refine .callQ rfl rfl rfl rfl @Try.call29 rfl (eqInt64S_c) ?_
  refine .m rfl rfl rfl (.not rfl) (.m rfl rfl rfl (.move rfl) ?_)
  refine .split (fun h111 => ?_) (fun h111 => ?_)
  ·
   try simp only [sps] at h111
   refine .sg rfl rfl rfl rfl rfl (.sg rfl rfl rfl rfl rfl (.sg rfl rfl rfl rfl rfl (.m rfl rfl rfl (.pickT rfl rfl) ?_)))
   refine .nil ?_
   refine hK45 _ _ ?_
   refine .condT rfl ?_
   refine .seq (fun K46 hK46 => ?_)
   refine .region (.m rfl rfl rfl (.assign rfl) (.nil ?_))
   refine hK46 _ _ ?_
   refine .ret ?_
   refine hret _ _ ?_
   refine ⟨_, rfl, ?_⟩
   first
   | exact rfl
   | exact absurd trivial (by assumption)
   | contradiction
   | (exfalso; omega)
  try simp only [sps] at h111
  refine .mg rfl rfl rfl rfl rfl (.move rfl) (.mg rfl rfl rfl rfl rfl (.move rfl) (.mg rfl rfl rfl rfl rfl (.cmp rfl rfl rfl) (.m rfl rfl rfl (.pickF rfl rfl) ?_)))
  refine .nil ?_
  refine hK45 _ _ ?_
  refine .cond rfl (fun h115 => ?_) (fun h115 => ?_)
  ·
   try simp only [sps] at h115
   refine .seq (fun K47 hK47 => ?_)
   refine .region (.m rfl rfl rfl (.assign rfl) (.nil ?_))
   refine hK47 _ _ ?_
   refine .ret ?_
   refine hret _ _ ?_
   refine ⟨_, rfl, ?_⟩
   first
   | exact rfl
   | exact absurd trivial (by assumption)
   | contradiction
   | (exfalso; omega)
  try simp only [sps] at h115
  refine .skip ?_
  refine hK44 _ _ ?_
  refine .seq (fun K48 hK48 => ?_)
  refine .region (.m rfl rfl rfl (.assign rfl) (.nil ?_))
  refine hK48 _ _ ?_
  refine .seq (fun K49 hK49 => ?_)
  refine .region (.m rfl rfl rfl (.move rfl) (.m rfl rfl rfl (.move rfl) ?_))
  refine .callQ rfl rfl rfl rfl @Try.call31 rfl (heldInt64S_c) ?_
  refine .m rfl rfl rfl (.assign rfl) (.nil ?_)
  refine hK49 _ _ ?_
  refine .seq (fun K50 hK50 => ?_)
  refine .seq (fun K51 hK51 => ?_)
  refine .region (.m rfl rfl rfl (.move rfl) (.m rfl rfl rfl (.cmp rfl rfl rfl) (.nil ?_)))
  refine hK51 _ _ ?_
  refine .cond rfl (fun h120 => ?_) (fun h120 => ?_)
  ·
   try simp only [sps] at h120
   refine .seq (fun K52 hK52 => ?_)
   refine .region (.m rfl rfl rfl (.assign rfl) (.nil ?_))
   refine hK52 _ _ ?_
   refine .ret ?_
   refine hret _ _ ?_
   refine ⟨_, rfl, ?_⟩
   first
   | exact rfl
   | exact absurd trivial (by assumption)
   | contradiction
   | (exfalso; omega)
  try simp only [sps] at h120
  refine .skip ?_
  refine hK50 _ _ ?_
  refine .seq (fun K53 hK53 => ?_)
  refine .seq (fun K54 hK54 => ?_)
  refine .region (.m rfl rfl rfl (.move rfl) (.m rfl rfl rfl (.move rfl) (.m rfl rfl rfl (.cmp rfl rfl rfl) ?_)))
  refine .nil ?_
  refine hK54 _ _ ?_
  refine .cond rfl (fun h123 => ?_) (fun h123 => ?_)
  ·
   try simp only [sps] at h123
   refine .seq (fun K55 hK55 => ?_)
   refine .region (.m rfl rfl rfl (.assign rfl) (.nil ?_))
   refine hK55 _ _ ?_
   refine .ret ?_
   refine hret _ _ ?_
   refine ⟨_, rfl, ?_⟩
   first
   | exact rfl
   | exact absurd trivial (by assumption)
   | contradiction
   | (exfalso; omega)
  try simp only [sps] at h123
  refine .skip ?_
  refine hK53 _ _ ?_
  refine .seq (fun K56 hK56 => ?_)
  refine .region (.m rfl rfl rfl (.assign rfl) (.nil ?_))
  refine hK56 _ _ ?_
  refine .ret ?_
  refine hret _ _ ?_
  refine ⟨_, rfl, ?_⟩
  first
  | exact rfl
  | exact absurd trivial (by assumption)
  | contradiction
  | (exfalso; omega)
end Go.Proofs.Ytgnfekfdmgnhcaa
/- The call of a law, whatever it takes: the arguments brought in one by one. No condition. -/
namespace Go.GL
open Go.RowKit Go.WideShapes Go.ChangeShapes Go.Deep

/-- An argument of type t may be brought in so that R holds of what stands for it. -/
structure Imp1 (P : Program) (t : TypeId) (R : GHeap → Value → Prop) : Prop where
  mono : ∀ {H H' : GHeap} {g : Value}, H.Le H' → R H g → R H' g
  imp : ∀ {T : Type} {enc : TypeId × Value → T} {B : Nat} {w0 : World} {ρ : Place} {H : GHeap} {w : World} {held : Bool} {base fuel : Nat} {v : Value} {x : DataW T × List MemPlace}, Sim P B w0 ρ H w → w.heap.size ≤ B →
    DataW.trod enc P w 0 (fun _ => true) held fuel t v.cells.toList = some x → Value.okWide P w .any base t v → ∃ ρ' H' g, Sim P B w0 ρ' H' w ∧ Ext ρ ρ' ∧ H.Le H' ∧ VRel ρ' g v ∧ R H' g

def structT (P : Program) (t : TypeId) : Bool := match P.underlying t with | some (.struct _) => true | _ => false
theorem imp1_struct {P : Program} {t : TypeId} {α β : Type} {cells : α → β → List Value} {I : GHeap → α → β → Prop} {W : α → Prop} (hm : ∀ {H H' : GHeap} {c : α} {p : β}, I H c p → H.Le H' → I H' c p)
    (hI : Imports P t (fun ρ H cs => ∃ (c : α) (p : β), LRel ρ (cells c p) cs ∧ I H c p ∧ W c)) (hst : structT P t = true) : Imp1 P t (fun H g => ∃ (c : α) (p : β), g = .agg (cells c p).toArray ∧ I H c p ∧ W c) where
  mono h := fun ⟨c, p, h1, h2, h3⟩ => ⟨c, p, h1, hm h2 h, h3⟩
  imp := by
    intro T enc B w0 ρ H w held base fuel v x hs hB h hv
    have hagg : ∃ cs, v = .agg cs := by
      unfold Value.okWide at hv
      unfold structT at hst
      split at hst
      · rename_i fs hu
        rw [hu] at hv
        obtain ⟨cs, h, _⟩ := hv
        exact ⟨cs, h⟩
      · cases hst
    obtain ⟨cs, rfl⟩ := hagg
    obtain ⟨ρ', H', h1, h2, h3, c, p, h4, h5, h6⟩ := hI hs hB h
    exact ⟨ρ', H', _, h1, h2, h3, by have := VRel.agg_of h4; simpa [Value.cells] using this, c, p, rfl, h5, h6⟩
theorem imp1_int {P : Program} {t : TypeId} (ht : i64T P t = true) : Imp1 P t (fun _ g => ∃ n, g = .int .i64 n ∧ I64 n) where
  mono _ := id
  imp := by
    intro T enc B w0 ρ H w held base fuel v x hs hB h hv
    obtain ⟨n, rfl⟩ := okWide_int (i64T_run ht) hv
    obtain ⟨ρ', H', h1, h2, h3, m, h4, h5⟩ := import_int ht hs hB h
    have : n = m := by simpa [Value.cells] using h4
    subst this
    exact ⟨ρ', H', _, h1, h2, h3, .int _ _, n, rfl, h5⟩
/-- Arguments of types ts may be brought in so that R holds of what stands for them. -/
structure ImpAll (P : Program) (ts : List TypeId) (R : GHeap → List Value → Prop) : Prop where
  imp : ∀ {T : Type} {enc : TypeId × Value → T} {B : Nat} {w0 : World} {ρ : Place} {H : GHeap} {w : World} {base : Nat} {vs : List Value} {ds : List (DataW T)} {ps : List MemPlace}, Sim P B w0 ρ H w → w.heap.size ≤ B →
    DataW.TrodAll enc P w 0 (fun _ => true) true ts vs ds ps → (∀ (j : Nat) t v, ts[j]? = some t → vs[j]? = some v → Value.okWide P w .any base t v) → ds.length = ts.length ∧ ∃ ρ' H' gs, Sim P B w0 ρ' H' w ∧ Ext ρ ρ' ∧ H.Le H' ∧ LRel ρ' gs vs ∧ R H' gs
theorem ImpAll.nil {P : Program} : ImpAll P [] (fun _ gs => gs = []) where
  imp := by
    intro T enc B w0 ρ H w base vs ds ps hs hB h hv
    obtain ⟨rfl, rfl, rfl⟩ := trodAll_nil h
    exact ⟨rfl, ρ, H, [], hs, .refl ρ, .refl H, .nil ρ, rfl⟩
theorem ImpAll.cons {P : Program} {t : TypeId} {ts : List TypeId} {R1 : GHeap → Value → Prop} {R : GHeap → List Value → Prop} (h1 : Imp1 P t R1) (h2 : ImpAll P ts R) : ImpAll P (t :: ts) (fun H gs => ∃ g r, gs = g :: r ∧ R1 H g ∧ R H r) where
  imp := by
    intro T enc B w0 ρ H w base vs ds ps hs hB h hv
    obtain ⟨v, vs, d, ds, p, q, rfl, rfl, rfl, ⟨fuel, k1⟩, k2⟩ := trodAll_cons h
    obtain ⟨ρ1, H1, g, s1, e1, l1, v1, r1⟩ := h1.imp hs hB k1 (hv 0 t v rfl rfl)
    obtain ⟨hl, ρ2, H2, gs, s2, e2, l2, v2, r2⟩ := h2.imp s1 hB k2 (fun j t v ht hj => hv (j + 1) t v (by simpa using ht) (by simpa using hj))
    exact ⟨by simp [hl], ρ2, H2, g :: gs, s2, e1.trans e2, l1.trans l2, .cons (v1.mono e2) v2, g, gs, rfl, h1.mono l2 r1, r2⟩

/-- The call of a law. -/
theorem law_calls {P : Program} {f : FuncId} {fn : Func} {ts : List TypeId} {tb : TypeId} {R : GHeap → List Value → Prop} (hI : ImpAll P ts R) (hp : fn.params = ts.toArray)
    (hc : ∀ H gs, R H gs → GCalls P f gs H fun v _ => v = .bool true)
    {T : Type} {enc : TypeId × Value → T} {W : World} {base : Nat} {args : Array Value} {s : ChangeSpec} {apart fresh handsOn again : Bool} {ds gs : List (DataW T)} {before : List MemPlace}
    (hval : ∀ (j : Nat) t v, fn.params[j]? = some t → args[j]? = some v → Value.okWide P W .any base t v)
    (hW : DataW.Whole enc P fn.params.toList s.vars apart W args.toList ds gs before)
    (hl : laidOutB P = true) (hr : readB P fn.params.toList = true) (hv : s.vars = []) (hrt : fn.resultTypes = #[tb]) (htb : P.underlying tb = some .bool)
    (hs : ∀ ds : List (DataW T), ds.length = ts.length → (s.fn T ds).results = [.lit (.bool true)] ∧ (s.fn T ds).args = ds ∧ (s.fn T ds).vars = []) :
    Calls P f args W fun e W' => ∃ v, e = .returned v ∧ s.post enc P fn apart fresh handsOn again W args v W' := by
  have hWW := hW
  obtain ⟨p, q, hA, _⟩ := hW
  rw [hp] at hA
  obtain ⟨hlen, ρ, H, gs', hs', _, _, hrel, hR⟩ := hI.imp (base := base) (Sim.start P W) (Nat.le_refl _) (by simpa using hA) (fun j t v ht hj => hval j t v (by rw [hp]; simpa using ht) (by simpa using hj))
  have := (hc H gs' hR) _ _ ρ args.toList W hs' hrel
  rw [Array.toArray_toList] at this
  refine this.mono fun e W' ⟨v, c, ρ', H', he, hv', _, hsim, hrv⟩ => ?_
  subst hv'
  cases hrv
  exact ⟨_, he, law_post hl hr hv hrt htb hWW (hs ds hlen).1 (hs ds hlen).2.1 (hs ds hlen).2.2 hsim.below⟩
end Go.GL
