/- The arrow to a limit. No condition but those of each statement. -/
import Derived.Test.YtpmjlhbglcaokaaZ11
namespace Go.Proofs.Ytpmjlhbglcaokaa
open Go Go.GL Go.RowKit Go.Proofs
set_option maxHeartbeats 4000000 in
theorem l12Mediate_c {d : Fun} {p : FunP} {m m' : Con} {q q' : ConP} {H : GHeap} (hin : d.In H p) (hin1 : m.In H q) (hin2 : m'.In H q') (hs : d.Small) (hs1 : m.Small) (hs2 : m'.Small) (hI : d.Is) :
    GCalls Try.prog 49 [.agg (d.cells p).toArray, .agg (m.cells q).toArray, .agg (m'.cells q').toArray] H (Ret (.tuple #[.int .i64 (d.meR m m'), .int .i64 (d.meC m m')]) H) := by
  refine GCalls.ret rfl ?_
  have hI0 := hI
  refine GCalls.body (N := 35) (rs := [.tmp 6, .tmp 7]) Try.func49 rfl rfl rfl rfl (fun Qx hret hend => ?_)
  refine .forget (fr' := [(0, some _), (1, some _), (2, some _)]) ⟨rfl, rfl, rfl, trivial⟩ ?_
  have hle := GHeap.Le.refl H
  have base_hin := hin
  have base_hin1 := hin1
  have base_hin2 := hin2
  refine .seq (fun K1 hK1 => ?_)
  refine .region ?_
  refine .r rfl rfl rfl (.boxR rfl sz_34_E rfl) ?_
  rintro _ H3 ⟨g3, rfl, le3, ge3, at3⟩
  have nx_H3 := le3.1
  replace hle := hle.trans le3
  have lt_at3 := GHeap.lt_of_get at3
  replace hin := base_hin.mono hle
  replace hin1 := base_hin1.mono hle
  replace hin2 := base_hin2.mono hle
  have hb3 : Fun.At _ g3 0 d p := ⟨Mem.of_get at3, hin⟩
  obtain ⟨fs3, ft3, c103, c113, j13, j23⟩ := hb3.get
  have hm3 : MemN _ _ _ _ _ := ⟨rfl, hb3.1⟩
  have hi3 := hb3.2
  have hms3 : MemN _ _ _ _ _ := ⟨rfl, fs3.1⟩
  have his3 := fs3.2
  have hmt3 : MemN _ _ _ _ _ := ⟨rfl, ft3.1⟩
  have hit3 := ft3.2
  refine .r rfl rfl rfl (.boxR rfl sz_42_VCon rfl) ?_
  rintro _ H4 ⟨g4, rfl, le4, ge4, at4⟩
  have nx_H4 := le4.1
  replace hle := hle.trans le4
  replace at3 := le4.2 _ _ at3
  have lt_at4 := GHeap.lt_of_get at4
  replace hin := base_hin.mono hle
  replace hin1 := base_hin1.mono hle
  replace hin2 := base_hin2.mono hle
  clear hb3 fs3 ft3 c103 c113 j13 j23 hm3 hi3 hms3 his3 hmt3 hit3
  have hb3 : Fun.At _ g3 0 d p := ⟨Mem.of_get at3, hin⟩
  obtain ⟨fs3, ft3, c103, c113, j13, j23⟩ := hb3.get
  have hm3 : MemN _ _ _ _ _ := ⟨rfl, hb3.1⟩
  have hi3 := hb3.2
  have hms3 : MemN _ _ _ _ _ := ⟨rfl, fs3.1⟩
  have his3 := fs3.2
  have hmt3 : MemN _ _ _ _ _ := ⟨rfl, ft3.1⟩
  have hit3 := ft3.2
  have hb4 : Con.At _ g4 0 m q := ⟨Mem.of_get at4, hin1⟩
  obtain ⟨c04, c14, i14⟩ := hb4.get
  have hm4 : MemN _ _ _ _ _ := ⟨rfl, hb4.1⟩
  have hi4 := hb4.2
  refine .r rfl rfl rfl (.boxR rfl sz_42_VCon rfl) ?_
  rintro _ H5 ⟨g5, rfl, le5, ge5, at5⟩
  have nx_H5 := le5.1
  replace hle := hle.trans le5
  replace at3 := le5.2 _ _ at3
  replace at4 := le5.2 _ _ at4
  have lt_at5 := GHeap.lt_of_get at5
  replace hin := base_hin.mono hle
  replace hin1 := base_hin1.mono hle
  replace hin2 := base_hin2.mono hle
  clear hb3 fs3 ft3 c103 c113 j13 j23 hm3 hi3 hms3 his3 hmt3 hit3
  have hb3 : Fun.At _ g3 0 d p := ⟨Mem.of_get at3, hin⟩
  obtain ⟨fs3, ft3, c103, c113, j13, j23⟩ := hb3.get
  have hm3 : MemN _ _ _ _ _ := ⟨rfl, hb3.1⟩
  have hi3 := hb3.2
  have hms3 : MemN _ _ _ _ _ := ⟨rfl, fs3.1⟩
  have his3 := fs3.2
  have hmt3 : MemN _ _ _ _ _ := ⟨rfl, ft3.1⟩
  have hit3 := ft3.2
  clear hb4 c04 c14 i14 hm4 hi4
  have hb4 : Con.At _ g4 0 m q := ⟨Mem.of_get at4, hin1⟩
  obtain ⟨c04, c14, i14⟩ := hb4.get
  have hm4 : MemN _ _ _ _ _ := ⟨rfl, hb4.1⟩
  have hi4 := hb4.2
  have hb5 : Con.At _ g5 0 m' q' := ⟨Mem.of_get at5, hin2⟩
  obtain ⟨c05, c15, i15⟩ := hb5.get
  have hm5 : MemN _ _ _ _ _ := ⟨rfl, hb5.1⟩
  have hi5 := hb5.2
  refine .m rfl rfl rfl (.assign rfl) (.m rfl rfl rfl (.assign rfl) (.nil ?_))
  refine hK1 _ _ ?_
  refine .seq (fun K2 hK2 => ?_)
  refine .seq (fun K3 hK3 => ?_)
  refine .region ?_
  refine .m rfl rfl rfl (.loadM ag_34_E rfl ⟨rfl, Mem.of_get at3⟩) ?_
  refine .m rfl rfl rfl (.loadM ag_42_VCon rfl ⟨rfl, Mem.of_get at4⟩) ?_
  refine .m rfl rfl rfl (.loadM ag_42_VCon rfl ⟨rfl, Mem.of_get at5⟩) ?_
  refine .callQ rfl rfl rfl rfl @Try.call75 rfl (l12Two_c) ?_
  refine .m rfl rfl rfl (.assign rfl) (.nil ?_)
  refine hK3 _ _ ?_
  refine .seq (fun K4 hK4 => ?_)
  refine .region (.m rfl rfl rfl (.move rfl) (.m rfl rfl rfl (.cmp rfl rfl rfl) (.nil ?_)))
  refine hK4 _ _ ?_
  refine .cond rfl (fun h16 => ?_) (fun h16 => ?_)
  ·
   have hcc : ¬ (d.Cone m ∧ d.Cone m') := fun hh => by rw [B_true hh] at h16; simp at h16
   refine .seq (fun K5 hK5 => ?_)
   refine .region (.m rfl rfl rfl (.move rfl) (.m rfl rfl rfl (.assign rfl) (.m rfl rfl rfl (.assign rfl) ?_)))
   refine .nil ?_
   refine hK5 _ _ ?_
   refine .ret ?_
   refine hret _ _ ?_
   refine ⟨_, _, rfl, rfl, ?_⟩
   obtain ⟨e1, e2⟩ := Fun.me_2 hI0 hcc
   rw [e1, e2, B_false hcc]
   exact ⟨rfl, hle⟩
  have hcc : d.Cone m ∧ d.Cone m' := Classical.byContradiction fun hh => by rw [B_false hh] at h16; simp at h16
  obtain ⟨hc, hc'⟩ := id hcc
  refine .skip ?_
  refine hK2 _ _ ?_
  refine .seq (fun K6 hK6 => ?_)
  refine .region ?_
  refine .m rfl rfl rfl (.loadM ag_34_E rfl ⟨rfl, Mem.of_get at3⟩) ?_
  refine .m rfl rfl rfl (.loadM ag_42_VCon rfl ⟨rfl, Mem.of_get at4⟩) ?_
  refine .callQ rfl rfl rfl rfl @Try.call76 rfl (l12Is_c hin hin1 hs hs1 hI0) ?_
  refine .m rfl rfl rfl (.move rfl) (.m rfl rfl rfl (.extract rfl rfl) (.m rfl rfl rfl (.extract rfl rfl) (.m rfl rfl rfl (.assign rfl) ?_)))
  refine .m rfl rfl rfl (.assign rfl) (.nil ?_)
  refine hK6 _ _ ?_
  refine .seq (fun K7 hK7 => ?_)
  refine .seq (fun K8 hK8 => ?_)
  refine .region (.m rfl rfl rfl (.move rfl) (.m rfl rfl rfl (.cmp rfl rfl rfl) (.nil ?_)))
  refine hK8 _ _ ?_
  refine .cond rfl (fun h25 => ?_) (fun h25 => ?_)
  ·
   have hb : ¬ (d.coneL d.t.obj.toNat).length ≤ 400 := fun hb => by rw [(Fun.il_4 hI0 hc hb).2] at h25; simp at h25
   refine .seq (fun K9 hK9 => ?_)
   refine .region (.m rfl rfl rfl (.move rfl) (.m rfl rfl rfl (.assign rfl) (.m rfl rfl rfl (.assign rfl) ?_)))
   refine .nil ?_
   refine hK9 _ _ ?_
   refine .ret ?_
   refine hret _ _ ?_
   refine ⟨_, _, rfl, rfl, ?_⟩
   obtain ⟨e1, e2⟩ := Fun.me_3 hI0 hcc hb
   rw [e1, e2, (Fun.il_3 hI0 hc hb).2]
   exact ⟨rfl, hle⟩
  have hb : (d.coneL d.t.obj.toNat).length ≤ 400 := Classical.byContradiction fun hb => by rw [(Fun.il_3 hI0 hc hb).2] at h25; simp at h25
  refine .skip ?_
  refine hK7 _ _ ?_
  refine .seq (fun K10 hK10 => ?_)
  refine .seq (fun K11 hK11 => ?_)
  refine .region (.m rfl rfl rfl (.move rfl) (.m rfl rfl rfl (.not rfl) (.nil ?_)))
  refine hK11 _ _ ?_
  refine .cond rfl (fun h28 => ?_) (fun h28 => ?_)
  ·
   have hu : d.univ m = false := by rw [(Fun.il_4 hI0 hc hb).1] at h28; simpa using h28
   refine .seq (fun K12 hK12 => ?_)
   refine .region (.m rfl rfl rfl (.assign rfl) (.m rfl rfl rfl (.assign rfl) (.nil ?_)))
   refine hK12 _ _ ?_
   refine .ret ?_
   refine hret _ _ ?_
   refine ⟨_, _, rfl, rfl, ?_⟩
   obtain ⟨e1, e2⟩ := Fun.me_4 hI0 hcc hb hu
   rw [e1, e2]
   exact ⟨rfl, hle⟩
  have hu : d.univ m = true := by rw [(Fun.il_4 hI0 hc hb).1] at h28; simpa using h28
  have hone := Fun.univ_one hI0 hu hc'
  refine .skip ?_
  refine hK10 _ _ ?_
  refine .seq (fun K13 hK13 => ?_)
  refine .region ?_
  refine .m rfl rfl rfl (.loadM ag_34_E rfl ⟨rfl, Mem.of_get at3⟩) ?_
  refine .m rfl rfl rfl (.loadM ag_42_VCon rfl ⟨rfl, Mem.of_get at5⟩) ?_
  refine .m rfl rfl rfl (.loadM ag_42_VCon rfl ⟨rfl, Mem.of_get at4⟩) ?_
  refine .call rfl rfl rfl rfl @Try.call51 rfl (l12Maps_c hin hin2 hin1 hI0 hc' hc) ?_
  rintro _ H32 ⟨le32, g32, rfl, at32, ge32⟩
  have nx_H32 := le32.1
  replace hle := hle.trans le32
  replace at3 := le32.2 _ _ at3
  replace at4 := le32.2 _ _ at4
  replace at5 := le32.2 _ _ at5
  have lt_at32 := GHeap.lt_of_get at32
  replace hin := base_hin.mono hle
  replace hin1 := base_hin1.mono hle
  replace hin2 := base_hin2.mono hle
  clear hb3 fs3 ft3 c103 c113 j13 j23 hm3 hi3 hms3 his3 hmt3 hit3
  have hb3 : Fun.At _ g3 0 d p := ⟨Mem.of_get at3, hin⟩
  obtain ⟨fs3, ft3, c103, c113, j13, j23⟩ := hb3.get
  have hm3 : MemN _ _ _ _ _ := ⟨rfl, hb3.1⟩
  have hi3 := hb3.2
  have hms3 : MemN _ _ _ _ _ := ⟨rfl, fs3.1⟩
  have his3 := fs3.2
  have hmt3 : MemN _ _ _ _ _ := ⟨rfl, ft3.1⟩
  have hit3 := ft3.2
  clear hb4 c04 c14 i14 hm4 hi4
  have hb4 : Con.At _ g4 0 m q := ⟨Mem.of_get at4, hin1⟩
  obtain ⟨c04, c14, i14⟩ := hb4.get
  have hm4 : MemN _ _ _ _ _ := ⟨rfl, hb4.1⟩
  have hi4 := hb4.2
  clear hb5 c05 c15 i15 hm5 hi5
  have hb5 : Con.At _ g5 0 m' q' := ⟨Mem.of_get at5, hin2⟩
  obtain ⟨c05, c15, i15⟩ := hb5.get
  have hm5 : MemN _ _ _ _ _ := ⟨rfl, hb5.1⟩
  have hi5 := hb5.2
  have i32 := Ints.of_get at32
  refine .m rfl rfl rfl (.idxN (j := 0) sl_22_A (by first | assumption | exact SlA.of_row at32 (by first | rfl | (simp; done) | (simp <;> omega))) rfl rfl (by omega)) ?_
  refine .m rfl rfl rfl (.loadI on_2_A (by first | assumption | exact Ints.of_get at32) rfl (by omega)) ?_
  refine .m rfl rfl rfl (.assign rfl) (.m rfl rfl rfl (.assign rfl) (.nil ?_))
  refine hK13 _ _ ?_
  refine .ret ?_
  refine hret _ _ ?_
  refine ⟨_, _, rfl, rfl, ?_⟩
  obtain ⟨e1, e2⟩ := Fun.me_5 hI0 hcc hb hu
  rw [e1, e2]
  exact ⟨rfl, hle⟩
theorem specMediatingArrow_c {d : Fun} {p : FunP} {m m' : Con} {q q' : ConP} {H : GHeap} (hin : d.In H p := by assumption) (hin1 : m.In H q := by assumption) (hin2 : m'.In H q' := by assumption) (hs : d.Small := by assumption) (hs1 : m.Small := by assumption) (hs2 : m'.Small := by assumption) :
    GCalls Try.prog 25 [.agg (d.cells p).toArray, .agg (m.cells q).toArray, .agg (m'.cells q').toArray] H (Ret (.tuple #[.int .i64 (d.meR m m'), .int .i64 (d.meC m m')]) H) := by
  refine GCalls.ret rfl ?_
  refine GCalls.body (N := 17) (rs := [.tmp 6, .tmp 7]) Try.func25 rfl rfl rfl rfl (fun Qx hret hend => ?_)
  refine .forget (fr' := [(0, some _), (1, some _), (2, some _)]) ⟨rfl, rfl, rfl, trivial⟩ ?_
  have hle := GHeap.Le.refl H
  have base_hin := hin
  have base_hin1 := hin1
  have base_hin2 := hin2
  refine .seq (fun K1 hK1 => ?_)
  refine .region ?_
  refine .r rfl rfl rfl (.boxR rfl sz_34_E rfl) ?_
  rintro _ H3 ⟨g3, rfl, le3, ge3, at3⟩
  have nx_H3 := le3.1
  replace hle := hle.trans le3
  have lt_at3 := GHeap.lt_of_get at3
  replace hin := base_hin.mono hle
  replace hin1 := base_hin1.mono hle
  replace hin2 := base_hin2.mono hle
  have hb3 : Fun.At _ g3 0 d p := ⟨Mem.of_get at3, hin⟩
  obtain ⟨fs3, ft3, c103, c113, j13, j23⟩ := hb3.get
  have hm3 : MemN _ _ _ _ _ := ⟨rfl, hb3.1⟩
  have hi3 := hb3.2
  have hms3 : MemN _ _ _ _ _ := ⟨rfl, fs3.1⟩
  have his3 := fs3.2
  have hmt3 : MemN _ _ _ _ _ := ⟨rfl, ft3.1⟩
  have hit3 := ft3.2
  refine .r rfl rfl rfl (.boxR rfl sz_42_VCon rfl) ?_
  rintro _ H4 ⟨g4, rfl, le4, ge4, at4⟩
  have nx_H4 := le4.1
  replace hle := hle.trans le4
  replace at3 := le4.2 _ _ at3
  have lt_at4 := GHeap.lt_of_get at4
  replace hin := base_hin.mono hle
  replace hin1 := base_hin1.mono hle
  replace hin2 := base_hin2.mono hle
  clear hb3 fs3 ft3 c103 c113 j13 j23 hm3 hi3 hms3 his3 hmt3 hit3
  have hb3 : Fun.At _ g3 0 d p := ⟨Mem.of_get at3, hin⟩
  obtain ⟨fs3, ft3, c103, c113, j13, j23⟩ := hb3.get
  have hm3 : MemN _ _ _ _ _ := ⟨rfl, hb3.1⟩
  have hi3 := hb3.2
  have hms3 : MemN _ _ _ _ _ := ⟨rfl, fs3.1⟩
  have his3 := fs3.2
  have hmt3 : MemN _ _ _ _ _ := ⟨rfl, ft3.1⟩
  have hit3 := ft3.2
  have hb4 : Con.At _ g4 0 m q := ⟨Mem.of_get at4, hin1⟩
  obtain ⟨c04, c14, i14⟩ := hb4.get
  have hm4 : MemN _ _ _ _ _ := ⟨rfl, hb4.1⟩
  have hi4 := hb4.2
  refine .r rfl rfl rfl (.boxR rfl sz_42_VCon rfl) ?_
  rintro _ H5 ⟨g5, rfl, le5, ge5, at5⟩
  have nx_H5 := le5.1
  replace hle := hle.trans le5
  replace at3 := le5.2 _ _ at3
  replace at4 := le5.2 _ _ at4
  have lt_at5 := GHeap.lt_of_get at5
  replace hin := base_hin.mono hle
  replace hin1 := base_hin1.mono hle
  replace hin2 := base_hin2.mono hle
  clear hb3 fs3 ft3 c103 c113 j13 j23 hm3 hi3 hms3 his3 hmt3 hit3
  have hb3 : Fun.At _ g3 0 d p := ⟨Mem.of_get at3, hin⟩
  obtain ⟨fs3, ft3, c103, c113, j13, j23⟩ := hb3.get
  have hm3 : MemN _ _ _ _ _ := ⟨rfl, hb3.1⟩
  have hi3 := hb3.2
  have hms3 : MemN _ _ _ _ _ := ⟨rfl, fs3.1⟩
  have his3 := fs3.2
  have hmt3 : MemN _ _ _ _ _ := ⟨rfl, ft3.1⟩
  have hit3 := ft3.2
  clear hb4 c04 c14 i14 hm4 hi4
  have hb4 : Con.At _ g4 0 m q := ⟨Mem.of_get at4, hin1⟩
  obtain ⟨c04, c14, i14⟩ := hb4.get
  have hm4 : MemN _ _ _ _ _ := ⟨rfl, hb4.1⟩
  have hi4 := hb4.2
  have hb5 : Con.At _ g5 0 m' q' := ⟨Mem.of_get at5, hin2⟩
  obtain ⟨c05, c15, i15⟩ := hb5.get
  have hm5 : MemN _ _ _ _ _ := ⟨rfl, hb5.1⟩
  have hi5 := hb5.2
  refine .m rfl rfl rfl (.assign rfl) (.m rfl rfl rfl (.assign rfl) (.nil ?_))
  refine hK1 _ _ ?_
  refine .seq (fun K2 hK2 => ?_)
  refine .seq (fun K3 hK3 => ?_)
  refine .region ?_
  refine .m rfl rfl rfl (.loadM ag_34_E rfl ⟨rfl, Mem.of_get at3⟩) ?_
  refine .callQ rfl rfl rfl rfl @Try.call35 rfl (l06Is_c) ?_
  refine .m rfl rfl rfl (.not rfl) (.nil ?_)
  refine hK3 _ _ ?_
  refine .cond rfl (fun h10 => ?_) (fun h10 => ?_)
  ·
   simp only [sps] at h10
   refine .seq (fun K4 hK4 => ?_)
   refine .region (.m rfl rfl rfl (.assign rfl) (.m rfl rfl rfl (.assign rfl) (.nil ?_)))
   refine hK4 _ _ ?_
   refine .ret ?_
   refine hret _ _ ?_
   refine ⟨_, _, rfl, rfl, ?_⟩
   first
   | exact ⟨rfl, hle⟩
   | (obtain ⟨e1, e2⟩ := Fun.me_1 (d := d) (m := m) (q := m') (by assumption)
      rw [e1, e2]
      exact ⟨rfl, hle⟩)
  simp only [sps] at h10
  refine .skip ?_
  refine hK2 _ _ ?_
  refine .seq (fun K5 hK5 => ?_)
  refine .region ?_
  refine .m rfl rfl rfl (.loadM ag_34_E rfl ⟨rfl, Mem.of_get at3⟩) ?_
  refine .m rfl rfl rfl (.loadM ag_42_VCon rfl ⟨rfl, Mem.of_get at4⟩) ?_
  refine .m rfl rfl rfl (.loadM ag_42_VCon rfl ⟨rfl, Mem.of_get at5⟩) ?_
  refine .callQ rfl rfl rfl rfl @Try.call49 rfl (l12Mediate_c hin hin1 hin2 hs hs1 hs2 (by assumption)) ?_
  refine .m rfl rfl rfl (.extract rfl rfl) (.m rfl rfl rfl (.extract rfl rfl) (.m rfl rfl rfl (.assign rfl) (.m rfl rfl rfl (.assign rfl) ?_)))
  refine .nil ?_
  refine hK5 _ _ ?_
  refine .ret ?_
  refine hret _ _ ?_
  refine ⟨_, _, rfl, rfl, ?_⟩
  first
  | exact ⟨rfl, hle⟩
  | (obtain ⟨e1, e2⟩ := Fun.me_1 (d := d) (m := m) (q := m') (by assumption)
     rw [e1, e2]
     exact ⟨rfl, hle⟩)
set_option maxHeartbeats 4000000 in
theorem mediating_c {g o : Nat} {d : Fun} {p : FunP} {m m' : Con} {q q' : ConP} {H : GHeap} (h : Fun.At H g o d p) (hin1 : m.In H q) (hin2 : m'.In H q') (hs1 : m.Small) (hs2 : m'.Small) (hI : d.Is) :
    GCalls Try.prog 50 [.iface 95 (.agg #[.pointer (some ⟨g, o, none⟩)]), .agg (m.cells q).toArray, .agg (m'.cells q').toArray] H (Ret (.tuple #[.int .i64 (d.meR m m'), .int .i64 (d.meC m m')]) H) := by
  refine GCalls.ret rfl ?_
  have hI0 := hI
  refine GCalls.body (N := 37) (rs := [.tmp 6, .tmp 7]) Try.func50 rfl rfl rfl rfl (fun Qx hret hend => ?_)
  refine .forget (fr' := [(0, some _), (1, some _), (2, some _)]) ⟨rfl, rfl, rfl, trivial⟩ ?_
  have hle := GHeap.Le.refl H
  have base_h := h
  have base_hin1 := hin1
  have base_hin2 := hin2
  refine .seq (fun K1 hK1 => ?_)
  refine .region ?_
  refine .r rfl rfl rfl (.boxR rfl sz_42_VCon rfl) ?_
  rintro _ H4 ⟨g4, rfl, le4, ge4, at4⟩
  have nx_H4 := le4.1
  replace hle := hle.trans le4
  have lt_at4 := GHeap.lt_of_get at4
  replace h := base_h.mono hle
  replace hin1 := base_hin1.mono hle
  replace hin2 := base_hin2.mono hle
  have hb4 : Con.At _ g4 0 m q := ⟨Mem.of_get at4, hin1⟩
  obtain ⟨c04, c14, i14⟩ := hb4.get
  have hm4 : MemN _ _ _ _ _ := ⟨rfl, hb4.1⟩
  have hi4 := hb4.2
  refine .r rfl rfl rfl (.boxR rfl sz_42_VCon rfl) ?_
  rintro _ H5 ⟨g5, rfl, le5, ge5, at5⟩
  have nx_H5 := le5.1
  replace hle := hle.trans le5
  replace at4 := le5.2 _ _ at4
  have lt_at5 := GHeap.lt_of_get at5
  replace h := base_h.mono hle
  replace hin1 := base_hin1.mono hle
  replace hin2 := base_hin2.mono hle
  clear hb4 c04 c14 i14 hm4 hi4
  have hb4 : Con.At _ g4 0 m q := ⟨Mem.of_get at4, hin1⟩
  obtain ⟨c04, c14, i14⟩ := hb4.get
  have hm4 : MemN _ _ _ _ _ := ⟨rfl, hb4.1⟩
  have hi4 := hb4.2
  have hb5 : Con.At _ g5 0 m' q' := ⟨Mem.of_get at5, hin2⟩
  obtain ⟨c05, c15, i15⟩ := hb5.get
  have hm5 : MemN _ _ _ _ _ := ⟨rfl, hb5.1⟩
  have hi5 := hb5.2
  refine .m rfl rfl rfl (.assign rfl) (.m rfl rfl rfl (.assign rfl) (.nil ?_))
  refine hK1 _ _ ?_
  refine .seq (fun K2 hK2 => ?_)
  refine .seq (fun K3 hK3 => ?_)
  refine .region (.m rfl rfl rfl (.move rfl) ?_)
  refine .m rfl rfl rfl (.loadM ag_42_VCon rfl ⟨rfl, Mem.of_get at4⟩) ?_
  refine .m rfl rfl rfl (.loadM ag_42_VCon rfl ⟨rfl, Mem.of_get at5⟩) ?_
  refine .r rfl rfl rfl (.litR rfl sl_29_Cm ze_42_VCon rfl rfl (by omega) (by omega) rfl rfl) ?_
  rintro _ H14 ⟨g14, rfl, le14, ge14, at14⟩
  have nx_H14 := le14.1
  replace hle := hle.trans le14
  replace at4 := le14.2 _ _ at4
  replace at5 := le14.2 _ _ at5
  have lt_at14 := GHeap.lt_of_get at14
  replace h := base_h.mono hle
  replace hin1 := base_hin1.mono hle
  replace hin2 := base_hin2.mono hle
  clear hb4 c04 c14 i14 hm4 hi4
  have hb4 : Con.At _ g4 0 m q := ⟨Mem.of_get at4, hin1⟩
  obtain ⟨c04, c14, i14⟩ := hb4.get
  have hm4 : MemN _ _ _ _ _ := ⟨rfl, hb4.1⟩
  have hi4 := hb4.2
  clear hb5 c05 c15 i15 hm5 hi5
  have hb5 : Con.At _ g5 0 m' q' := ⟨Mem.of_get at5, hin2⟩
  obtain ⟨c05, c15, i15⟩ := hb5.get
  have hm5 : MemN _ _ _ _ _ := ⟨rfl, hb5.1⟩
  have hi5 := hb5.2
  refine .callQ rfl rfl rfl rfl @Try.call77 rfl (coneCode2_c) ?_
  refine .m rfl rfl rfl (.assign rfl) (.nil ?_)
  refine hK3 _ _ ?_
  refine .seq (fun K4 hK4 => ?_)
  refine .region (.m rfl rfl rfl (.move rfl) (.m rfl rfl rfl (.cmp rfl rfl rfl) (.nil ?_)))
  refine hK4 _ _ ?_
  refine .cond rfl (fun h17 => ?_) (fun h17 => ?_)
  ·
   have hcc : ¬ (d.Cone m ∧ d.Cone m') := fun hh => by rw [B_true hh] at h17; simp at h17
   refine .seq (fun K5 hK5 => ?_)
   refine .region (.m rfl rfl rfl (.move rfl) (.m rfl rfl rfl (.assign rfl) (.m rfl rfl rfl (.assign rfl) ?_)))
   refine .nil ?_
   refine hK5 _ _ ?_
   refine .ret ?_
   refine hret _ _ ?_
   refine ⟨_, _, rfl, rfl, ?_⟩
   obtain ⟨e1, e2⟩ := Fun.me_2 hI0 hcc
   rw [e1, e2, B_false hcc]
   exact ⟨rfl, hle⟩
  have hcc : d.Cone m ∧ d.Cone m' := Classical.byContradiction fun hh => by rw [B_false hh] at h17; simp at h17
  obtain ⟨hc, hc'⟩ := id hcc
  refine .skip ?_
  refine hK2 _ _ ?_
  refine .seq (fun K6 hK6 => ?_)
  refine .region (.m rfl rfl rfl (.move rfl) ?_)
  refine .m rfl rfl rfl (.loadM ag_42_VCon rfl ⟨rfl, Mem.of_get at4⟩) ?_
  refine .callQ rfl rfl rfl rfl @Try.call78 rfl (universal_c h hin1 hs1 hI0) ?_
  refine .m rfl rfl rfl (.move rfl) (.m rfl rfl rfl (.extract rfl rfl) (.m rfl rfl rfl (.extract rfl rfl) (.m rfl rfl rfl (.assign rfl) ?_)))
  refine .m rfl rfl rfl (.assign rfl) (.nil ?_)
  refine hK6 _ _ ?_
  refine .seq (fun K7 hK7 => ?_)
  refine .seq (fun K8 hK8 => ?_)
  refine .region (.m rfl rfl rfl (.move rfl) (.m rfl rfl rfl (.cmp rfl rfl rfl) (.nil ?_)))
  refine hK8 _ _ ?_
  refine .cond rfl (fun h26 => ?_) (fun h26 => ?_)
  ·
   have hb : ¬ (d.coneL d.t.obj.toNat).length ≤ 400 := fun hb => by rw [(Fun.il_4 hI0 hc hb).2] at h26; simp at h26
   refine .seq (fun K9 hK9 => ?_)
   refine .region (.m rfl rfl rfl (.move rfl) (.m rfl rfl rfl (.assign rfl) (.m rfl rfl rfl (.assign rfl) ?_)))
   refine .nil ?_
   refine hK9 _ _ ?_
   refine .ret ?_
   refine hret _ _ ?_
   refine ⟨_, _, rfl, rfl, ?_⟩
   obtain ⟨e1, e2⟩ := Fun.me_3 hI0 hcc hb
   rw [e1, e2, (Fun.il_3 hI0 hc hb).2]
   exact ⟨rfl, hle⟩
  have hb : (d.coneL d.t.obj.toNat).length ≤ 400 := Classical.byContradiction fun hb => by rw [(Fun.il_3 hI0 hc hb).2] at h26; simp at h26
  refine .skip ?_
  refine hK7 _ _ ?_
  refine .seq (fun K10 hK10 => ?_)
  refine .seq (fun K11 hK11 => ?_)
  refine .region (.m rfl rfl rfl (.move rfl) (.m rfl rfl rfl (.not rfl) (.nil ?_)))
  refine hK11 _ _ ?_
  refine .cond rfl (fun h29 => ?_) (fun h29 => ?_)
  ·
   have hu : d.univ m = false := by rw [(Fun.il_4 hI0 hc hb).1] at h29; simpa using h29
   refine .seq (fun K12 hK12 => ?_)
   refine .region (.m rfl rfl rfl (.assign rfl) (.m rfl rfl rfl (.assign rfl) (.nil ?_)))
   refine hK12 _ _ ?_
   refine .ret ?_
   refine hret _ _ ?_
   refine ⟨_, _, rfl, rfl, ?_⟩
   obtain ⟨e1, e2⟩ := Fun.me_4 hI0 hcc hb hu
   rw [e1, e2]
   exact ⟨rfl, hle⟩
  have hu : d.univ m = true := by rw [(Fun.il_4 hI0 hc hb).1] at h29; simpa using h29
  have hone := Fun.univ_one hI0 hu hc'
  refine .skip ?_
  refine hK10 _ _ ?_
  refine .seq (fun K13 hK13 => ?_)
  refine .regionD mixed_orders_B (.q 0 (.q 2 (.q 3 (.c 1 1 (.c 4 0 (.q 5 (.q 6 (.q 7 (.q 8 (.done)))))))))) (by kernel_rfl) ?_
  refine .m rfl rfl rfl rfl (.refl _) (.move rfl) ?_
  refine .m rfl rfl rfl rfl (.refl _) (.loadM ag_42_VCon rfl ⟨rfl, Mem.of_get at5⟩) ?_
  refine .m rfl rfl rfl rfl (.refl _) (.loadM ag_42_VCon rfl ⟨rfl, Mem.of_get at4⟩) ?_
  refine .callM1 rfl rfl rfl rfl rfl rfl (by kernel_rfl) @Try.call132 rfl (diagram_c) ?_
  rintro _ H31 ⟨rfl, le31⟩
  have hbl := le31
  refine ⟨hbl, ?_⟩
  have nx_H31 := le31.1
  replace hle := hle.trans le31
  replace at4 := le31.2 _ _ at4
  replace at5 := le31.2 _ _ at5
  replace at14 := le31.2 _ _ at14
  replace h := base_h.mono hle
  replace hin1 := base_hin1.mono hle
  replace hin2 := base_hin2.mono hle
  clear hb4 c04 c14 i14 hm4 hi4
  have hb4 : Con.At _ g4 0 m q := ⟨Mem.of_get at4, hin1⟩
  obtain ⟨c04, c14, i14⟩ := hb4.get
  have hm4 : MemN _ _ _ _ _ := ⟨rfl, hb4.1⟩
  have hi4 := hb4.2
  clear hb5 c05 c15 i15 hm5 hi5
  have hb5 : Con.At _ g5 0 m' q' := ⟨Mem.of_get at5, hin2⟩
  obtain ⟨c05, c15, i15⟩ := hb5.get
  have hm5 : MemN _ _ _ _ _ := ⟨rfl, hb5.1⟩
  have hi5 := hb5.2
  refine .call0 rfl rfl rfl rfl rfl @Try.call57 rfl (coneMaps_c h hin2 hin1 hI0 hc' hc) ?_
  rintro _ H34 ⟨le34, g34, rfl, at34, ge34⟩
  have nx_H34 := le34.1
  replace hle := hle.trans le34
  replace at4 := le34.2 _ _ at4
  replace at5 := le34.2 _ _ at5
  replace at14 := le34.2 _ _ at14
  have lt_at34 := GHeap.lt_of_get at34
  replace h := base_h.mono hle
  replace hin1 := base_hin1.mono hle
  replace hin2 := base_hin2.mono hle
  clear hb4 c04 c14 i14 hm4 hi4
  have hb4 : Con.At _ g4 0 m q := ⟨Mem.of_get at4, hin1⟩
  obtain ⟨c04, c14, i14⟩ := hb4.get
  have hm4 : MemN _ _ _ _ _ := ⟨rfl, hb4.1⟩
  have hi4 := hb4.2
  clear hb5 c05 c15 i15 hm5 hi5
  have hb5 : Con.At _ g5 0 m' q' := ⟨Mem.of_get at5, hin2⟩
  obtain ⟨c05, c15, i15⟩ := hb5.get
  have hm5 : MemN _ _ _ _ _ := ⟨rfl, hb5.1⟩
  have hi5 := hb5.2
  have i34 := Ints.of_get at34
  refine .m rfl rfl rfl rfl (.refl _) (.idxN (j := 0) sl_22_A (by first | assumption | exact SlA.of_row at34 (by first | rfl | (simp; done) | (simp <;> omega))) rfl rfl (by omega)) ?_
  refine .m rfl rfl rfl rfl (.refl _) (.loadI on_2_A (by first | assumption | exact Ints.of_get at34) rfl (by omega)) ?_
  refine .m rfl rfl rfl rfl (.refl _) (.assign rfl) (.m rfl rfl rfl rfl (.refl _) (.assign rfl) ?_)
  refine .done ?_
  refine hK13 _ _ ?_
  refine .ret ?_
  refine hret _ _ ?_
  refine ⟨_, _, rfl, rfl, ?_⟩
  obtain ⟨e1, e2⟩ := Fun.me_5 hI0 hcc hb hu
  rw [e1, e2]
  exact ⟨rfl, hle⟩
theorem implMediatingArrow_c {d : Fun} {p : FunP} {m m' : Con} {q q' : ConP} {H : GHeap} (hin : d.In H p := by assumption) (hin1 : m.In H q := by assumption) (hin2 : m'.In H q' := by assumption) (hs : d.Small := by assumption) (hs1 : m.Small := by assumption) (hs2 : m'.Small := by assumption) :
    GCalls Try.prog 27 [.agg (d.cells p).toArray, .agg (m.cells q).toArray, .agg (m'.cells q').toArray] H (Ret (.tuple #[.int .i64 (d.meR m m'), .int .i64 (d.meC m m')]) H) := by
  refine GCalls.ret rfl ?_
  refine GCalls.body (N := 16) (rs := [.tmp 6, .tmp 7]) Try.func27 rfl rfl rfl rfl (fun Qx hret hend => ?_)
  refine .forget (fr' := [(0, some _), (1, some _), (2, some _)]) ⟨rfl, rfl, rfl, trivial⟩ ?_
  have hle := GHeap.Le.refl H
  have base_hin := hin
  have base_hin1 := hin1
  have base_hin2 := hin2
  refine .seq (fun K1 hK1 => ?_)
  refine .region ?_
  refine .r rfl rfl rfl (.boxR rfl sz_34_E rfl) ?_
  rintro _ H3 ⟨g3, rfl, le3, ge3, at3⟩
  have nx_H3 := le3.1
  replace hle := hle.trans le3
  have lt_at3 := GHeap.lt_of_get at3
  replace hin := base_hin.mono hle
  replace hin1 := base_hin1.mono hle
  replace hin2 := base_hin2.mono hle
  have hb3 : Fun.At _ g3 0 d p := ⟨Mem.of_get at3, hin⟩
  obtain ⟨fs3, ft3, c103, c113, j13, j23⟩ := hb3.get
  have hm3 : MemN _ _ _ _ _ := ⟨rfl, hb3.1⟩
  have hi3 := hb3.2
  have hms3 : MemN _ _ _ _ _ := ⟨rfl, fs3.1⟩
  have his3 := fs3.2
  have hmt3 : MemN _ _ _ _ _ := ⟨rfl, ft3.1⟩
  have hit3 := ft3.2
  refine .r rfl rfl rfl (.boxR rfl sz_42_VCon rfl) ?_
  rintro _ H4 ⟨g4, rfl, le4, ge4, at4⟩
  have nx_H4 := le4.1
  replace hle := hle.trans le4
  replace at3 := le4.2 _ _ at3
  have lt_at4 := GHeap.lt_of_get at4
  replace hin := base_hin.mono hle
  replace hin1 := base_hin1.mono hle
  replace hin2 := base_hin2.mono hle
  clear hb3 fs3 ft3 c103 c113 j13 j23 hm3 hi3 hms3 his3 hmt3 hit3
  have hb3 : Fun.At _ g3 0 d p := ⟨Mem.of_get at3, hin⟩
  obtain ⟨fs3, ft3, c103, c113, j13, j23⟩ := hb3.get
  have hm3 : MemN _ _ _ _ _ := ⟨rfl, hb3.1⟩
  have hi3 := hb3.2
  have hms3 : MemN _ _ _ _ _ := ⟨rfl, fs3.1⟩
  have his3 := fs3.2
  have hmt3 : MemN _ _ _ _ _ := ⟨rfl, ft3.1⟩
  have hit3 := ft3.2
  have hb4 : Con.At _ g4 0 m q := ⟨Mem.of_get at4, hin1⟩
  obtain ⟨c04, c14, i14⟩ := hb4.get
  have hm4 : MemN _ _ _ _ _ := ⟨rfl, hb4.1⟩
  have hi4 := hb4.2
  refine .r rfl rfl rfl (.boxR rfl sz_42_VCon rfl) ?_
  rintro _ H5 ⟨g5, rfl, le5, ge5, at5⟩
  have nx_H5 := le5.1
  replace hle := hle.trans le5
  replace at3 := le5.2 _ _ at3
  replace at4 := le5.2 _ _ at4
  have lt_at5 := GHeap.lt_of_get at5
  replace hin := base_hin.mono hle
  replace hin1 := base_hin1.mono hle
  replace hin2 := base_hin2.mono hle
  clear hb3 fs3 ft3 c103 c113 j13 j23 hm3 hi3 hms3 his3 hmt3 hit3
  have hb3 : Fun.At _ g3 0 d p := ⟨Mem.of_get at3, hin⟩
  obtain ⟨fs3, ft3, c103, c113, j13, j23⟩ := hb3.get
  have hm3 : MemN _ _ _ _ _ := ⟨rfl, hb3.1⟩
  have hi3 := hb3.2
  have hms3 : MemN _ _ _ _ _ := ⟨rfl, fs3.1⟩
  have his3 := fs3.2
  have hmt3 : MemN _ _ _ _ _ := ⟨rfl, ft3.1⟩
  have hit3 := ft3.2
  clear hb4 c04 c14 i14 hm4 hi4
  have hb4 : Con.At _ g4 0 m q := ⟨Mem.of_get at4, hin1⟩
  obtain ⟨c04, c14, i14⟩ := hb4.get
  have hm4 : MemN _ _ _ _ _ := ⟨rfl, hb4.1⟩
  have hi4 := hb4.2
  have hb5 : Con.At _ g5 0 m' q' := ⟨Mem.of_get at5, hin2⟩
  obtain ⟨c05, c15, i15⟩ := hb5.get
  have hm5 : MemN _ _ _ _ _ := ⟨rfl, hb5.1⟩
  have hi5 := hb5.2
  refine .m rfl rfl rfl (.assign rfl) (.m rfl rfl rfl (.assign rfl) (.nil ?_))
  refine hK1 _ _ ?_
  refine .seq (fun K2 hK2 => ?_)
  refine .seq (fun K3 hK3 => ?_)
  refine .region ?_
  refine .callQ rfl rfl rfl rfl @Try.call39 rfl (isFunctor_c) ?_
  refine .m rfl rfl rfl (.not rfl) (.nil ?_)
  refine hK3 _ _ ?_
  refine .cond rfl (fun h9 => ?_) (fun h9 => ?_)
  ·
   simp only [sps] at h9
   refine .seq (fun K4 hK4 => ?_)
   refine .region (.m rfl rfl rfl (.assign rfl) (.m rfl rfl rfl (.assign rfl) (.nil ?_)))
   refine hK4 _ _ ?_
   refine .ret ?_
   refine hret _ _ ?_
   refine ⟨_, _, rfl, rfl, ?_⟩
   first
   | exact ⟨rfl, hle⟩
   | (obtain ⟨e1, e2⟩ := Fun.me_1 (d := d) (m := m) (q := m') (by assumption)
      rw [e1, e2]
      exact ⟨rfl, hle⟩)
  simp only [sps] at h9
  refine .skip ?_
  refine hK2 _ _ ?_
  refine .seq (fun K5 hK5 => ?_)
  refine .regionD mixed_orders_B (.q 1 (.q 2 (.c 0 1 (.c 3 0 (.q 4 (.q 5 (.q 6 (.q 7 (.done))))))))) (by kernel_rfl) ?_
  refine .m rfl rfl rfl rfl (.refl _) (.loadM ag_42_VCon rfl ⟨rfl, Mem.of_get at4⟩) ?_
  refine .m rfl rfl rfl rfl (.refl _) (.loadM ag_42_VCon rfl ⟨rfl, Mem.of_get at5⟩) ?_
  refine .callQ1 rfl rfl rfl rfl rfl @Try.call41 rfl (conesOf_c) (.refl _) ?_
  refine .callQ0 rfl rfl rfl rfl rfl @Try.call50 rfl (mediating_c hb3 hin1 hin2 hs1 hs2 (by assumption)) ?_
  refine .m rfl rfl rfl rfl (.refl _) (.extract rfl rfl) (.m rfl rfl rfl rfl (.refl _) (.extract rfl rfl) (.m rfl rfl rfl rfl (.refl _) (.assign rfl) (.m rfl rfl rfl rfl (.refl _) (.assign rfl) ?_)))
  refine .done ?_
  refine hK5 _ _ ?_
  refine .ret ?_
  refine hret _ _ ?_
  refine ⟨_, _, rfl, rfl, ?_⟩
  first
  | exact ⟨rfl, hle⟩
  | (obtain ⟨e1, e2⟩ := Fun.me_1 (d := d) (m := m) (q := m') (by assumption)
     rw [e1, e2]
     exact ⟨rfl, hle⟩)
end Go.Proofs.Ytpmjlhbglcaokaa
/- The law of MediatingArrow. No condition but those of each statement. -/
namespace Go.Proofs.Ytpmjlhbglcaokaa
open Go Go.GL Go.RowKit Go.Proofs
theorem ag_27_LMediatingArrow : aggT Try.prog 27 = some 12 := by kernel_rfl
theorem ag_47_LMediatingArrow : aggT Try.prog 47 = some 2 := by kernel_rfl
set_option maxHeartbeats 40000000 in
theorem lawMediatingArrow_c {d : Fun} {p : FunP} {m : Con} {q : ConP} {m' : Con} {q' : ConP} {H : GHeap} (h0 : d.In H p) (w0 : d.Wide) (h1 : m.In H q) (w1 : m.Wide) (h2 : m'.In H q') (w2 : m'.Wide) :
    GCalls Try.prog 6 [.agg (d.cells p).toArray, .agg (m.cells q).toArray, .agg (m'.cells q').toArray] H (fun v _ => v = .bool true) := by
  refine GCalls.body (N := 76) (rs := [.tmp 6]) Try.func6 rfl rfl rfl rfl (fun Qx hret hend => ?_)
  refine .forget (fr' := [(0, some _), (1, some _), (2, some _)]) ⟨rfl, rfl, rfl, trivial⟩ ?_
  have hle := GHeap.Le.refl H
  have base_h0 := h0
  have base_h1 := h1
  have base_h2 := h2
  refine .seq (fun K1 hK1 => ?_)
  refine .region ?_
  refine .r rfl rfl rfl (.boxR rfl sz_27_E rfl) ?_
  rintro _ H3 ⟨g3, rfl, le3, ge3, at3⟩
  have nx_H3 := le3.1
  replace hle := hle.trans le3
  have lt_at3 := GHeap.lt_of_get at3
  replace h0 := base_h0.mono hle
  replace h1 := base_h1.mono hle
  replace h2 := base_h2.mono hle
  have hb3 : Fun.At _ g3 0 d p := ⟨Mem.of_get at3, h0⟩
  obtain ⟨fs3, ft3, c103, c113, j13, j23⟩ := hb3.get
  have hm3 : MemN _ _ _ _ _ := ⟨rfl, hb3.1⟩
  have hi3 := hb3.2
  have hms3 : MemN _ _ _ _ _ := ⟨rfl, fs3.1⟩
  have his3 := fs3.2
  have hmt3 : MemN _ _ _ _ _ := ⟨rfl, ft3.1⟩
  have hit3 := ft3.2
  refine .r rfl rfl rfl (.boxR rfl sz_47_VCon rfl) ?_
  rintro _ H4 ⟨g4, rfl, le4, ge4, at4⟩
  have nx_H4 := le4.1
  replace hle := hle.trans le4
  replace at3 := le4.2 _ _ at3
  have lt_at4 := GHeap.lt_of_get at4
  replace h0 := base_h0.mono hle
  replace h1 := base_h1.mono hle
  replace h2 := base_h2.mono hle
  clear hb3 fs3 ft3 c103 c113 j13 j23 hm3 hi3 hms3 his3 hmt3 hit3
  have hb3 : Fun.At _ g3 0 d p := ⟨Mem.of_get at3, h0⟩
  obtain ⟨fs3, ft3, c103, c113, j13, j23⟩ := hb3.get
  have hm3 : MemN _ _ _ _ _ := ⟨rfl, hb3.1⟩
  have hi3 := hb3.2
  have hms3 : MemN _ _ _ _ _ := ⟨rfl, fs3.1⟩
  have his3 := fs3.2
  have hmt3 : MemN _ _ _ _ _ := ⟨rfl, ft3.1⟩
  have hit3 := ft3.2
  have hb4 : Con.At _ g4 0 m q := ⟨Mem.of_get at4, h1⟩
  obtain ⟨c04, c14, i14⟩ := hb4.get
  have hm4 : MemN _ _ _ _ _ := ⟨rfl, hb4.1⟩
  have hi4 := hb4.2
  refine .r rfl rfl rfl (.boxR rfl sz_47_VCon rfl) ?_
  rintro _ H5 ⟨g5, rfl, le5, ge5, at5⟩
  have nx_H5 := le5.1
  replace hle := hle.trans le5
  replace at3 := le5.2 _ _ at3
  replace at4 := le5.2 _ _ at4
  have lt_at5 := GHeap.lt_of_get at5
  replace h0 := base_h0.mono hle
  replace h1 := base_h1.mono hle
  replace h2 := base_h2.mono hle
  clear hb3 fs3 ft3 c103 c113 j13 j23 hm3 hi3 hms3 his3 hmt3 hit3
  have hb3 : Fun.At _ g3 0 d p := ⟨Mem.of_get at3, h0⟩
  obtain ⟨fs3, ft3, c103, c113, j13, j23⟩ := hb3.get
  have hm3 : MemN _ _ _ _ _ := ⟨rfl, hb3.1⟩
  have hi3 := hb3.2
  have hms3 : MemN _ _ _ _ _ := ⟨rfl, fs3.1⟩
  have his3 := fs3.2
  have hmt3 : MemN _ _ _ _ _ := ⟨rfl, ft3.1⟩
  have hit3 := ft3.2
  clear hb4 c04 c14 i14 hm4 hi4
  have hb4 : Con.At _ g4 0 m q := ⟨Mem.of_get at4, h1⟩
  obtain ⟨c04, c14, i14⟩ := hb4.get
  have hm4 : MemN _ _ _ _ _ := ⟨rfl, hb4.1⟩
  have hi4 := hb4.2
  have hb5 : Con.At _ g5 0 m' q' := ⟨Mem.of_get at5, h2⟩
  obtain ⟨c05, c15, i15⟩ := hb5.get
  have hm5 : MemN _ _ _ _ _ := ⟨rfl, hb5.1⟩
  have hi5 := hb5.2
  refine .m rfl rfl rfl (.assign rfl) (.nil ?_)
  refine hK1 _ _ ?_
  refine .seq (fun K2 hK2 => ?_)
  refine .region (.m rfl rfl rfl (.assign rfl) (.nil ?_))
  refine hK2 _ _ ?_
  refine .seq (fun K3 hK3 => ?_)
  refine .region ?_
  refine .m rfl rfl rfl (.loadM ag_27_LMediatingArrow rfl ⟨rfl, Mem.of_get at3⟩) ?_
  refine .m rfl rfl rfl (.move rfl) ?_
  refine .call rfl rfl rfl rfl @Try.call8 rfl (szFunctor_c) ?_
  rintro _ _ ⟨heq, lf17, rfl, z117, z217, z317⟩
  obtain rfl := heq.symm
  refine .m rfl rfl rfl (.assign rfl) (.nil ?_)
  refine hK3 _ _ ?_
  refine .seq (fun K4 hK4 => ?_)
  refine .seq (fun K5 hK5 => ?_)
  refine .region (.m rfl rfl rfl (.move rfl) (.m rfl rfl rfl (.cmp rfl rfl rfl) (.nil ?_)))
  refine hK5 _ _ ?_
  refine .cond rfl (fun h19 => ?_) (fun h19 => ?_)
  ·
   try simp only [sps] at h19
   refine .seq (fun K6 hK6 => ?_)
   refine .region (.m rfl rfl rfl (.assign rfl) (.nil ?_))
   refine hK6 _ _ ?_
   refine .ret ?_
   refine hret _ _ ?_
   refine ⟨_, rfl, ?_⟩
   first
   | exact rfl
   | exact absurd trivial (by assumption)
   | contradiction
   | (exfalso; omega)
  try simp only [sps] at h19
  have hsm17 := z317 (by omega)
  have tb17 := hsm17.tot
  refine .skip ?_
  refine hK4 _ _ ?_
  refine .seq (fun K7 hK7 => ?_)
  refine .region ?_
  refine .m rfl rfl rfl (.loadM ag_47_LMediatingArrow rfl ⟨rfl, Mem.of_get at4⟩) ?_
  refine .m rfl rfl rfl (.move rfl) ?_
  refine .call rfl rfl rfl rfl @Try.call24 rfl (szCone_c) ?_
  rintro _ _ ⟨heq, lf22, rfl, z122, z222, z322⟩
  obtain rfl := heq.symm
  refine .m rfl rfl rfl (.assign rfl) (.nil ?_)
  refine hK7 _ _ ?_
  refine .seq (fun K8 hK8 => ?_)
  refine .seq (fun K9 hK9 => ?_)
  refine .region (.m rfl rfl rfl (.move rfl) (.m rfl rfl rfl (.cmp rfl rfl rfl) (.nil ?_)))
  refine hK9 _ _ ?_
  refine .cond rfl (fun h24 => ?_) (fun h24 => ?_)
  ·
   try simp only [sps] at h24
   refine .seq (fun K10 hK10 => ?_)
   refine .region (.m rfl rfl rfl (.assign rfl) (.nil ?_))
   refine hK10 _ _ ?_
   refine .ret ?_
   refine hret _ _ ?_
   refine ⟨_, rfl, ?_⟩
   first
   | exact rfl
   | exact absurd trivial (by assumption)
   | contradiction
   | (exfalso; omega)
  try simp only [sps] at h24
  have hsm22 := z322 (by omega)
  have tb22 := hsm22.tot
  refine .skip ?_
  refine hK8 _ _ ?_
  refine .seq (fun K11 hK11 => ?_)
  refine .region ?_
  refine .m rfl rfl rfl (.loadM ag_47_LMediatingArrow rfl ⟨rfl, Mem.of_get at5⟩) ?_
  refine .m rfl rfl rfl (.move rfl) ?_
  refine .call rfl rfl rfl rfl @Try.call24 rfl (szCone_c) ?_
  rintro _ _ ⟨heq, lf27, rfl, z127, z227, z327⟩
  obtain rfl := heq.symm
  refine .m rfl rfl rfl (.assign rfl) (.nil ?_)
  refine hK11 _ _ ?_
  refine .seq (fun K12 hK12 => ?_)
  refine .seq (fun K13 hK13 => ?_)
  refine .region (.m rfl rfl rfl (.move rfl) (.m rfl rfl rfl (.cmp rfl rfl rfl) (.nil ?_)))
  refine hK13 _ _ ?_
  refine .cond rfl (fun h29 => ?_) (fun h29 => ?_)
  ·
   try simp only [sps] at h29
   refine .seq (fun K14 hK14 => ?_)
   refine .region (.m rfl rfl rfl (.assign rfl) (.nil ?_))
   refine hK14 _ _ ?_
   refine .ret ?_
   refine hret _ _ ?_
   refine ⟨_, rfl, ?_⟩
   first
   | exact rfl
   | exact absurd trivial (by assumption)
   | contradiction
   | (exfalso; omega)
  try simp only [sps] at h29
  have hsm27 := z327 (by omega)
  have tb27 := hsm27.tot
  refine .skip ?_
  refine hK12 _ _ ?_
  refine .seq (fun K15 hK15 => ?_)
  refine .regionD mixed_orders_B (.q 0 (.q 2 (.q 4 (.c 1 1 (.c 3 1 (.c 5 0 (.c 6 0 (.q 7 (.q 8 (.q 9 (.q 10 (.q 11 (.done))))))))))))) (by kernel_rfl) ?_
  refine .m rfl rfl rfl rfl (.refl _) (.loadM ag_27_LMediatingArrow rfl ⟨rfl, Mem.of_get at3⟩) ?_
  refine .m rfl rfl rfl rfl (.refl _) (.loadM ag_47_LMediatingArrow rfl ⟨rfl, Mem.of_get at4⟩) ?_
  refine .m rfl rfl rfl rfl (.refl _) (.loadM ag_47_LMediatingArrow rfl ⟨rfl, Mem.of_get at5⟩) ?_
  refine .call1 rfl rfl rfl rfl rfl @Try.call10 rfl (toFunctor_c) ?_
  rintro _ H32 ⟨le32, p32, rfl, v32⟩
  have hbl := le32
  refine ⟨hbl, ?_⟩
  have nx_H32 := le32.1
  replace hle := hle.trans le32
  replace at3 := le32.2 _ _ at3
  replace at4 := le32.2 _ _ at4
  replace at5 := le32.2 _ _ at5
  have bs_v32 := v32
  have lv_v32 : Keep H5.next H32 H32 := fun _ _ _ h => h
  replace h0 := base_h0.mono hle
  replace h1 := base_h1.mono hle
  replace h2 := base_h2.mono hle
  clear hb3 fs3 ft3 c103 c113 j13 j23 hm3 hi3 hms3 his3 hmt3 hit3
  have hb3 : Fun.At _ g3 0 d p := ⟨Mem.of_get at3, h0⟩
  obtain ⟨fs3, ft3, c103, c113, j13, j23⟩ := hb3.get
  have hm3 : MemN _ _ _ _ _ := ⟨rfl, hb3.1⟩
  have hi3 := hb3.2
  have hms3 : MemN _ _ _ _ _ := ⟨rfl, fs3.1⟩
  have his3 := fs3.2
  have hmt3 : MemN _ _ _ _ _ := ⟨rfl, ft3.1⟩
  have hit3 := ft3.2
  clear hb4 c04 c14 i14 hm4 hi4
  have hb4 : Con.At _ g4 0 m q := ⟨Mem.of_get at4, h1⟩
  obtain ⟨c04, c14, i14⟩ := hb4.get
  have hm4 : MemN _ _ _ _ _ := ⟨rfl, hb4.1⟩
  have hi4 := hb4.2
  clear hb5 c05 c15 i15 hm5 hi5
  have hb5 : Con.At _ g5 0 m' q' := ⟨Mem.of_get at5, h2⟩
  obtain ⟨c05, c15, i15⟩ := hb5.get
  have hm5 : MemN _ _ _ _ _ := ⟨rfl, hb5.1⟩
  have hi5 := hb5.2
  have i32 := v32.inn
  refine .call1 rfl rfl rfl rfl rfl @Try.call26 rfl (toCone_c) ?_
  rintro _ H34 ⟨le34, p34, rfl, v34⟩
  replace hbl := hbl.trans le34
  refine ⟨hbl, ?_⟩
  have nx_H34 := le34.1
  replace hle := hle.trans le34
  replace at3 := le34.2 _ _ at3
  replace at4 := le34.2 _ _ at4
  replace at5 := le34.2 _ _ at5
  replace lv_v32 := Keep.le lv_v32 le34
  replace v32 := bs_v32.keep lv_v32 (Nat.le_refl _)
  have bs_v34 := v34
  have lv_v34 : Keep H32.next H34 H34 := fun _ _ _ h => h
  replace h0 := base_h0.mono hle
  replace h1 := base_h1.mono hle
  replace h2 := base_h2.mono hle
  clear hb3 fs3 ft3 c103 c113 j13 j23 hm3 hi3 hms3 his3 hmt3 hit3
  have hb3 : Fun.At _ g3 0 d p := ⟨Mem.of_get at3, h0⟩
  obtain ⟨fs3, ft3, c103, c113, j13, j23⟩ := hb3.get
  have hm3 : MemN _ _ _ _ _ := ⟨rfl, hb3.1⟩
  have hi3 := hb3.2
  have hms3 : MemN _ _ _ _ _ := ⟨rfl, fs3.1⟩
  have his3 := fs3.2
  have hmt3 : MemN _ _ _ _ _ := ⟨rfl, ft3.1⟩
  have hit3 := ft3.2
  clear hb4 c04 c14 i14 hm4 hi4
  have hb4 : Con.At _ g4 0 m q := ⟨Mem.of_get at4, h1⟩
  obtain ⟨c04, c14, i14⟩ := hb4.get
  have hm4 : MemN _ _ _ _ _ := ⟨rfl, hb4.1⟩
  have hi4 := hb4.2
  clear hb5 c05 c15 i15 hm5 hi5
  have hb5 : Con.At _ g5 0 m' q' := ⟨Mem.of_get at5, h2⟩
  obtain ⟨c05, c15, i15⟩ := hb5.get
  have hm5 : MemN _ _ _ _ _ := ⟨rfl, hb5.1⟩
  have hi5 := hb5.2
  clear i32
  have i32 := v32.inn
  have i34 := v34.inn
  refine .call0 rfl rfl rfl rfl rfl @Try.call26 rfl (toCone_c) ?_
  rintro _ H36 ⟨le36, p36, rfl, v36⟩
  have nx_H36 := le36.1
  replace hle := hle.trans le36
  replace at3 := le36.2 _ _ at3
  replace at4 := le36.2 _ _ at4
  replace at5 := le36.2 _ _ at5
  replace lv_v32 := Keep.le lv_v32 le36
  replace v32 := bs_v32.keep lv_v32 (Nat.le_refl _)
  replace lv_v34 := Keep.le lv_v34 le36
  replace v34 := bs_v34.keep lv_v34 (Nat.le_refl _)
  have bs_v36 := v36
  have lv_v36 : Keep H34.next H36 H36 := fun _ _ _ h => h
  replace h0 := base_h0.mono hle
  replace h1 := base_h1.mono hle
  replace h2 := base_h2.mono hle
  clear hb3 fs3 ft3 c103 c113 j13 j23 hm3 hi3 hms3 his3 hmt3 hit3
  have hb3 : Fun.At _ g3 0 d p := ⟨Mem.of_get at3, h0⟩
  obtain ⟨fs3, ft3, c103, c113, j13, j23⟩ := hb3.get
  have hm3 : MemN _ _ _ _ _ := ⟨rfl, hb3.1⟩
  have hi3 := hb3.2
  have hms3 : MemN _ _ _ _ _ := ⟨rfl, fs3.1⟩
  have his3 := fs3.2
  have hmt3 : MemN _ _ _ _ _ := ⟨rfl, ft3.1⟩
  have hit3 := ft3.2
  clear hb4 c04 c14 i14 hm4 hi4
  have hb4 : Con.At _ g4 0 m q := ⟨Mem.of_get at4, h1⟩
  obtain ⟨c04, c14, i14⟩ := hb4.get
  have hm4 : MemN _ _ _ _ _ := ⟨rfl, hb4.1⟩
  have hi4 := hb4.2
  clear hb5 c05 c15 i15 hm5 hi5
  have hb5 : Con.At _ g5 0 m' q' := ⟨Mem.of_get at5, h2⟩
  obtain ⟨c05, c15, i15⟩ := hb5.get
  have hm5 : MemN _ _ _ _ _ := ⟨rfl, hb5.1⟩
  have hi5 := hb5.2
  clear i32
  have i32 := v32.inn
  clear i34
  have i34 := v34.inn
  have i36 := v36.inn
  refine .callQ0 rfl rfl rfl rfl rfl @Try.call25 rfl (specMediatingArrow_c) ?_
  refine .m rfl rfl rfl rfl (.refl _) (.move rfl) (.m rfl rfl rfl rfl (.refl _) (.extract rfl rfl) (.m rfl rfl rfl rfl (.refl _) (.extract rfl rfl) (.m rfl rfl rfl rfl (.refl _) (.assign rfl) ?_)))
  refine .m rfl rfl rfl rfl (.refl _) (.assign rfl) ?_
  refine .done ?_
  refine hK15 _ _ ?_
  refine .seq (fun K16 hK16 => ?_)
  refine .region ?_
  refine .m rfl rfl rfl (.loadM ag_27_LMediatingArrow rfl ⟨rfl, Mem.of_get at3⟩) ?_
  refine .call rfl rfl rfl rfl @Try.call10 rfl (toFunctor_c) ?_
  rintro _ H41 ⟨le41, p41, rfl, v41⟩
  have nx_H41 := le41.1
  replace hle := hle.trans le41
  replace at3 := le41.2 _ _ at3
  replace at4 := le41.2 _ _ at4
  replace at5 := le41.2 _ _ at5
  replace lv_v32 := Keep.le lv_v32 le41
  replace v32 := bs_v32.keep lv_v32 (Nat.le_refl _)
  replace lv_v34 := Keep.le lv_v34 le41
  replace v34 := bs_v34.keep lv_v34 (Nat.le_refl _)
  replace lv_v36 := Keep.le lv_v36 le41
  replace v36 := bs_v36.keep lv_v36 (Nat.le_refl _)
  have bs_v41 := v41
  have lv_v41 : Keep H36.next H41 H41 := fun _ _ _ h => h
  replace h0 := base_h0.mono hle
  replace h1 := base_h1.mono hle
  replace h2 := base_h2.mono hle
  clear hb3 fs3 ft3 c103 c113 j13 j23 hm3 hi3 hms3 his3 hmt3 hit3
  have hb3 : Fun.At _ g3 0 d p := ⟨Mem.of_get at3, h0⟩
  obtain ⟨fs3, ft3, c103, c113, j13, j23⟩ := hb3.get
  have hm3 : MemN _ _ _ _ _ := ⟨rfl, hb3.1⟩
  have hi3 := hb3.2
  have hms3 : MemN _ _ _ _ _ := ⟨rfl, fs3.1⟩
  have his3 := fs3.2
  have hmt3 : MemN _ _ _ _ _ := ⟨rfl, ft3.1⟩
  have hit3 := ft3.2
  clear hb4 c04 c14 i14 hm4 hi4
  have hb4 : Con.At _ g4 0 m q := ⟨Mem.of_get at4, h1⟩
  obtain ⟨c04, c14, i14⟩ := hb4.get
  have hm4 : MemN _ _ _ _ _ := ⟨rfl, hb4.1⟩
  have hi4 := hb4.2
  clear hb5 c05 c15 i15 hm5 hi5
  have hb5 : Con.At _ g5 0 m' q' := ⟨Mem.of_get at5, h2⟩
  obtain ⟨c05, c15, i15⟩ := hb5.get
  have hm5 : MemN _ _ _ _ _ := ⟨rfl, hb5.1⟩
  have hi5 := hb5.2
  clear i32
  have i32 := v32.inn
  clear i34
  have i34 := v34.inn
  clear i36
  have i36 := v36.inn
  have i41 := v41.inn
  refine .r rfl rfl rfl (.allocR rfl ze_34_E rfl) ?_
  rintro _ H10 ⟨g10, rfl, le10, ge10, at10⟩
  have nx_H10 := le10.1
  replace hle := hle.trans le10
  replace at3 := le10.2 _ _ at3
  replace at4 := le10.2 _ _ at4
  replace at5 := le10.2 _ _ at5
  replace lv_v32 := Keep.le lv_v32 le10
  replace v32 := bs_v32.keep lv_v32 (Nat.le_refl _)
  replace lv_v34 := Keep.le lv_v34 le10
  replace v34 := bs_v34.keep lv_v34 (Nat.le_refl _)
  replace lv_v36 := Keep.le lv_v36 le10
  replace v36 := bs_v36.keep lv_v36 (Nat.le_refl _)
  replace lv_v41 := Keep.le lv_v41 le10
  replace v41 := bs_v41.keep lv_v41 (Nat.le_refl _)
  have lt_at10 := GHeap.lt_of_get at10
  replace h0 := base_h0.mono hle
  replace h1 := base_h1.mono hle
  replace h2 := base_h2.mono hle
  clear hb3 fs3 ft3 c103 c113 j13 j23 hm3 hi3 hms3 his3 hmt3 hit3
  have hb3 : Fun.At _ g3 0 d p := ⟨Mem.of_get at3, h0⟩
  obtain ⟨fs3, ft3, c103, c113, j13, j23⟩ := hb3.get
  have hm3 : MemN _ _ _ _ _ := ⟨rfl, hb3.1⟩
  have hi3 := hb3.2
  have hms3 : MemN _ _ _ _ _ := ⟨rfl, fs3.1⟩
  have his3 := fs3.2
  have hmt3 : MemN _ _ _ _ _ := ⟨rfl, ft3.1⟩
  have hit3 := ft3.2
  clear hb4 c04 c14 i14 hm4 hi4
  have hb4 : Con.At _ g4 0 m q := ⟨Mem.of_get at4, h1⟩
  obtain ⟨c04, c14, i14⟩ := hb4.get
  have hm4 : MemN _ _ _ _ _ := ⟨rfl, hb4.1⟩
  have hi4 := hb4.2
  clear hb5 c05 c15 i15 hm5 hi5
  have hb5 : Con.At _ g5 0 m' q' := ⟨Mem.of_get at5, h2⟩
  obtain ⟨c05, c15, i15⟩ := hb5.get
  have hm5 : MemN _ _ _ _ _ := ⟨rfl, hb5.1⟩
  have hi5 := hb5.2
  clear i32
  have i32 := v32.inn
  clear i34
  have i34 := v34.inn
  clear i36
  have i36 := v36.inn
  clear i41
  have i41 := v41.inn
  refine .r0 rfl rfl (.fillR rfl sz_34_E rfl rfl rfl rfl (by assumption) (by first | rfl | exact Nat.le_of_ble_eq_true rfl | simp)) ?_
  rintro _ H12003 ⟨rfl, st12003, at12003⟩
  have nx_H12003 := st12003.nx
  replace hle := hle.st st12003 (fun k hk => ⟨by omega, trivial⟩)
  replace at3 := st12003.same _ _ ⟨by omega, trivial⟩ at3
  replace at4 := st12003.same _ _ ⟨by omega, trivial⟩ at4
  replace at5 := st12003.same _ _ ⟨by omega, trivial⟩ at5
  replace lv_v32 := Keep.st lv_v32 st12003 (fun k hb hk => ⟨by omega, trivial⟩)
  replace v32 := bs_v32.keep lv_v32 (Nat.le_refl _)
  replace lv_v34 := Keep.st lv_v34 st12003 (fun k hb hk => ⟨by omega, trivial⟩)
  replace v34 := bs_v34.keep lv_v34 (Nat.le_refl _)
  replace lv_v36 := Keep.st lv_v36 st12003 (fun k hb hk => ⟨by omega, trivial⟩)
  replace v36 := bs_v36.keep lv_v36 (Nat.le_refl _)
  replace lv_v41 := Keep.st lv_v41 st12003 (fun k hb hk => ⟨by omega, trivial⟩)
  replace v41 := bs_v41.keep lv_v41 (Nat.le_refl _)
  have lt_at12003 := GHeap.lt_of_get at12003
  replace h0 := base_h0.mono hle
  replace h1 := base_h1.mono hle
  replace h2 := base_h2.mono hle
  clear hb3 fs3 ft3 c103 c113 j13 j23 hm3 hi3 hms3 his3 hmt3 hit3
  have hb3 : Fun.At _ g3 0 d p := ⟨Mem.of_get at3, h0⟩
  obtain ⟨fs3, ft3, c103, c113, j13, j23⟩ := hb3.get
  have hm3 : MemN _ _ _ _ _ := ⟨rfl, hb3.1⟩
  have hi3 := hb3.2
  have hms3 : MemN _ _ _ _ _ := ⟨rfl, fs3.1⟩
  have his3 := fs3.2
  have hmt3 : MemN _ _ _ _ _ := ⟨rfl, ft3.1⟩
  have hit3 := ft3.2
  clear hb4 c04 c14 i14 hm4 hi4
  have hb4 : Con.At _ g4 0 m q := ⟨Mem.of_get at4, h1⟩
  obtain ⟨c04, c14, i14⟩ := hb4.get
  have hm4 : MemN _ _ _ _ _ := ⟨rfl, hb4.1⟩
  have hi4 := hb4.2
  clear hb5 c05 c15 i15 hm5 hi5
  have hb5 : Con.At _ g5 0 m' q' := ⟨Mem.of_get at5, h2⟩
  obtain ⟨c05, c15, i15⟩ := hb5.get
  have hm5 : MemN _ _ _ _ _ := ⟨rfl, hb5.1⟩
  have hi5 := hb5.2
  clear i32
  have i32 := v32.inn
  clear i34
  have i34 := v34.inn
  clear i36
  have i36 := v36.inn
  clear i41
  have i41 := v41.inn
  have mm12003 : MemN _ _ _ _ _ := ⟨rfl, Mem.of_get at12003⟩
  refine .nil ?_
  refine hK16 _ _ ?_
  refine .seq (fun K17 hK17 => ?_)
  refine .region ?_
  refine .m rfl rfl rfl (.loadM ag_47_LMediatingArrow rfl ⟨rfl, Mem.of_get at4⟩) ?_
  refine .call rfl rfl rfl rfl @Try.call26 rfl (toCone_c) ?_
  rintro _ H43 ⟨le43, p43, rfl, v43⟩
  have nx_H43 := le43.1
  replace hle := hle.trans le43
  replace at3 := le43.2 _ _ at3
  replace at4 := le43.2 _ _ at4
  replace at5 := le43.2 _ _ at5
  replace at12003 := le43.2 _ _ at12003
  replace lv_v32 := Keep.le lv_v32 le43
  replace v32 := bs_v32.keep lv_v32 (Nat.le_refl _)
  replace lv_v34 := Keep.le lv_v34 le43
  replace v34 := bs_v34.keep lv_v34 (Nat.le_refl _)
  replace lv_v36 := Keep.le lv_v36 le43
  replace v36 := bs_v36.keep lv_v36 (Nat.le_refl _)
  replace lv_v41 := Keep.le lv_v41 le43
  replace v41 := bs_v41.keep lv_v41 (Nat.le_refl _)
  have bs_v43 := v43
  have lv_v43 : Keep H12003.next H43 H43 := fun _ _ _ h => h
  replace h0 := base_h0.mono hle
  replace h1 := base_h1.mono hle
  replace h2 := base_h2.mono hle
  clear hb3 fs3 ft3 c103 c113 j13 j23 hm3 hi3 hms3 his3 hmt3 hit3
  have hb3 : Fun.At _ g3 0 d p := ⟨Mem.of_get at3, h0⟩
  obtain ⟨fs3, ft3, c103, c113, j13, j23⟩ := hb3.get
  have hm3 : MemN _ _ _ _ _ := ⟨rfl, hb3.1⟩
  have hi3 := hb3.2
  have hms3 : MemN _ _ _ _ _ := ⟨rfl, fs3.1⟩
  have his3 := fs3.2
  have hmt3 : MemN _ _ _ _ _ := ⟨rfl, ft3.1⟩
  have hit3 := ft3.2
  clear hb4 c04 c14 i14 hm4 hi4
  have hb4 : Con.At _ g4 0 m q := ⟨Mem.of_get at4, h1⟩
  obtain ⟨c04, c14, i14⟩ := hb4.get
  have hm4 : MemN _ _ _ _ _ := ⟨rfl, hb4.1⟩
  have hi4 := hb4.2
  clear hb5 c05 c15 i15 hm5 hi5
  have hb5 : Con.At _ g5 0 m' q' := ⟨Mem.of_get at5, h2⟩
  obtain ⟨c05, c15, i15⟩ := hb5.get
  have hm5 : MemN _ _ _ _ _ := ⟨rfl, hb5.1⟩
  have hi5 := hb5.2
  clear i32
  have i32 := v32.inn
  clear i34
  have i34 := v34.inn
  clear i36
  have i36 := v36.inn
  clear i41
  have i41 := v41.inn
  clear mm12003
  have mm12003 : MemN _ _ _ _ _ := ⟨rfl, Mem.of_get at12003⟩
  have i43 := v43.inn
  refine .r rfl rfl rfl (.allocR rfl ze_42_VCon rfl) ?_
  rintro _ H11 ⟨g11, rfl, le11, ge11, at11⟩
  have nx_H11 := le11.1
  replace hle := hle.trans le11
  replace at3 := le11.2 _ _ at3
  replace at4 := le11.2 _ _ at4
  replace at5 := le11.2 _ _ at5
  replace at12003 := le11.2 _ _ at12003
  replace lv_v32 := Keep.le lv_v32 le11
  replace v32 := bs_v32.keep lv_v32 (Nat.le_refl _)
  replace lv_v34 := Keep.le lv_v34 le11
  replace v34 := bs_v34.keep lv_v34 (Nat.le_refl _)
  replace lv_v36 := Keep.le lv_v36 le11
  replace v36 := bs_v36.keep lv_v36 (Nat.le_refl _)
  replace lv_v41 := Keep.le lv_v41 le11
  replace v41 := bs_v41.keep lv_v41 (Nat.le_refl _)
  replace lv_v43 := Keep.le lv_v43 le11
  replace v43 := bs_v43.keep lv_v43 (Nat.le_refl _)
  have lt_at11 := GHeap.lt_of_get at11
  replace h0 := base_h0.mono hle
  replace h1 := base_h1.mono hle
  replace h2 := base_h2.mono hle
  clear hb3 fs3 ft3 c103 c113 j13 j23 hm3 hi3 hms3 his3 hmt3 hit3
  have hb3 : Fun.At _ g3 0 d p := ⟨Mem.of_get at3, h0⟩
  obtain ⟨fs3, ft3, c103, c113, j13, j23⟩ := hb3.get
  have hm3 : MemN _ _ _ _ _ := ⟨rfl, hb3.1⟩
  have hi3 := hb3.2
  have hms3 : MemN _ _ _ _ _ := ⟨rfl, fs3.1⟩
  have his3 := fs3.2
  have hmt3 : MemN _ _ _ _ _ := ⟨rfl, ft3.1⟩
  have hit3 := ft3.2
  clear hb4 c04 c14 i14 hm4 hi4
  have hb4 : Con.At _ g4 0 m q := ⟨Mem.of_get at4, h1⟩
  obtain ⟨c04, c14, i14⟩ := hb4.get
  have hm4 : MemN _ _ _ _ _ := ⟨rfl, hb4.1⟩
  have hi4 := hb4.2
  clear hb5 c05 c15 i15 hm5 hi5
  have hb5 : Con.At _ g5 0 m' q' := ⟨Mem.of_get at5, h2⟩
  obtain ⟨c05, c15, i15⟩ := hb5.get
  have hm5 : MemN _ _ _ _ _ := ⟨rfl, hb5.1⟩
  have hi5 := hb5.2
  clear i32
  have i32 := v32.inn
  clear i34
  have i34 := v34.inn
  clear i36
  have i36 := v36.inn
  clear i41
  have i41 := v41.inn
  clear mm12003
  have mm12003 : MemN _ _ _ _ _ := ⟨rfl, Mem.of_get at12003⟩
  clear i43
  have i43 := v43.inn
  refine .r0 rfl rfl (.fillR rfl sz_42_VCon rfl rfl rfl rfl (by assumption) (by first | rfl | exact Nat.le_of_ble_eq_true rfl | simp)) ?_
  rintro _ H13003 ⟨rfl, st13003, at13003⟩
  have nx_H13003 := st13003.nx
  replace hle := hle.st st13003 (fun k hk => ⟨by omega, trivial⟩)
  replace at3 := st13003.same _ _ ⟨by omega, trivial⟩ at3
  replace at4 := st13003.same _ _ ⟨by omega, trivial⟩ at4
  replace at5 := st13003.same _ _ ⟨by omega, trivial⟩ at5
  replace at12003 := st13003.same _ _ ⟨by omega, trivial⟩ at12003
  replace lv_v32 := Keep.st lv_v32 st13003 (fun k hb hk => ⟨by omega, trivial⟩)
  replace v32 := bs_v32.keep lv_v32 (Nat.le_refl _)
  replace lv_v34 := Keep.st lv_v34 st13003 (fun k hb hk => ⟨by omega, trivial⟩)
  replace v34 := bs_v34.keep lv_v34 (Nat.le_refl _)
  replace lv_v36 := Keep.st lv_v36 st13003 (fun k hb hk => ⟨by omega, trivial⟩)
  replace v36 := bs_v36.keep lv_v36 (Nat.le_refl _)
  replace lv_v41 := Keep.st lv_v41 st13003 (fun k hb hk => ⟨by omega, trivial⟩)
  replace v41 := bs_v41.keep lv_v41 (Nat.le_refl _)
  replace lv_v43 := Keep.st lv_v43 st13003 (fun k hb hk => ⟨by omega, trivial⟩)
  replace v43 := bs_v43.keep lv_v43 (Nat.le_refl _)
  have lt_at13003 := GHeap.lt_of_get at13003
  replace h0 := base_h0.mono hle
  replace h1 := base_h1.mono hle
  replace h2 := base_h2.mono hle
  clear hb3 fs3 ft3 c103 c113 j13 j23 hm3 hi3 hms3 his3 hmt3 hit3
  have hb3 : Fun.At _ g3 0 d p := ⟨Mem.of_get at3, h0⟩
  obtain ⟨fs3, ft3, c103, c113, j13, j23⟩ := hb3.get
  have hm3 : MemN _ _ _ _ _ := ⟨rfl, hb3.1⟩
  have hi3 := hb3.2
  have hms3 : MemN _ _ _ _ _ := ⟨rfl, fs3.1⟩
  have his3 := fs3.2
  have hmt3 : MemN _ _ _ _ _ := ⟨rfl, ft3.1⟩
  have hit3 := ft3.2
  clear hb4 c04 c14 i14 hm4 hi4
  have hb4 : Con.At _ g4 0 m q := ⟨Mem.of_get at4, h1⟩
  obtain ⟨c04, c14, i14⟩ := hb4.get
  have hm4 : MemN _ _ _ _ _ := ⟨rfl, hb4.1⟩
  have hi4 := hb4.2
  clear hb5 c05 c15 i15 hm5 hi5
  have hb5 : Con.At _ g5 0 m' q' := ⟨Mem.of_get at5, h2⟩
  obtain ⟨c05, c15, i15⟩ := hb5.get
  have hm5 : MemN _ _ _ _ _ := ⟨rfl, hb5.1⟩
  have hi5 := hb5.2
  clear i32
  have i32 := v32.inn
  clear i34
  have i34 := v34.inn
  clear i36
  have i36 := v36.inn
  clear i41
  have i41 := v41.inn
  clear mm12003
  have mm12003 : MemN _ _ _ _ _ := ⟨rfl, Mem.of_get at12003⟩
  clear i43
  have i43 := v43.inn
  have mm13003 : MemN _ _ _ _ _ := ⟨rfl, Mem.of_get at13003⟩
  refine .nil ?_
  refine hK17 _ _ ?_
  refine .seq (fun K18 hK18 => ?_)
  refine .region ?_
  refine .m rfl rfl rfl (.loadM ag_47_LMediatingArrow rfl ⟨rfl, Mem.of_get at5⟩) ?_
  refine .call rfl rfl rfl rfl @Try.call26 rfl (toCone_c) ?_
  rintro _ H45 ⟨le45, p45, rfl, v45⟩
  have nx_H45 := le45.1
  replace hle := hle.trans le45
  replace at3 := le45.2 _ _ at3
  replace at4 := le45.2 _ _ at4
  replace at5 := le45.2 _ _ at5
  replace at12003 := le45.2 _ _ at12003
  replace at13003 := le45.2 _ _ at13003
  replace lv_v32 := Keep.le lv_v32 le45
  replace v32 := bs_v32.keep lv_v32 (Nat.le_refl _)
  replace lv_v34 := Keep.le lv_v34 le45
  replace v34 := bs_v34.keep lv_v34 (Nat.le_refl _)
  replace lv_v36 := Keep.le lv_v36 le45
  replace v36 := bs_v36.keep lv_v36 (Nat.le_refl _)
  replace lv_v41 := Keep.le lv_v41 le45
  replace v41 := bs_v41.keep lv_v41 (Nat.le_refl _)
  replace lv_v43 := Keep.le lv_v43 le45
  replace v43 := bs_v43.keep lv_v43 (Nat.le_refl _)
  have bs_v45 := v45
  have lv_v45 : Keep H13003.next H45 H45 := fun _ _ _ h => h
  replace h0 := base_h0.mono hle
  replace h1 := base_h1.mono hle
  replace h2 := base_h2.mono hle
  clear hb3 fs3 ft3 c103 c113 j13 j23 hm3 hi3 hms3 his3 hmt3 hit3
  have hb3 : Fun.At _ g3 0 d p := ⟨Mem.of_get at3, h0⟩
  obtain ⟨fs3, ft3, c103, c113, j13, j23⟩ := hb3.get
  have hm3 : MemN _ _ _ _ _ := ⟨rfl, hb3.1⟩
  have hi3 := hb3.2
  have hms3 : MemN _ _ _ _ _ := ⟨rfl, fs3.1⟩
  have his3 := fs3.2
  have hmt3 : MemN _ _ _ _ _ := ⟨rfl, ft3.1⟩
  have hit3 := ft3.2
  clear hb4 c04 c14 i14 hm4 hi4
  have hb4 : Con.At _ g4 0 m q := ⟨Mem.of_get at4, h1⟩
  obtain ⟨c04, c14, i14⟩ := hb4.get
  have hm4 : MemN _ _ _ _ _ := ⟨rfl, hb4.1⟩
  have hi4 := hb4.2
  clear hb5 c05 c15 i15 hm5 hi5
  have hb5 : Con.At _ g5 0 m' q' := ⟨Mem.of_get at5, h2⟩
  obtain ⟨c05, c15, i15⟩ := hb5.get
  have hm5 : MemN _ _ _ _ _ := ⟨rfl, hb5.1⟩
  have hi5 := hb5.2
  clear i32
  have i32 := v32.inn
  clear i34
  have i34 := v34.inn
  clear i36
  have i36 := v36.inn
  clear i41
  have i41 := v41.inn
  clear mm12003
  have mm12003 : MemN _ _ _ _ _ := ⟨rfl, Mem.of_get at12003⟩
  clear i43
  have i43 := v43.inn
  clear mm13003
  have mm13003 : MemN _ _ _ _ _ := ⟨rfl, Mem.of_get at13003⟩
  have i45 := v45.inn
  refine .r rfl rfl rfl (.allocR rfl ze_42_VCon rfl) ?_
  rintro _ H12 ⟨g12, rfl, le12, ge12, at12⟩
  have nx_H12 := le12.1
  replace hle := hle.trans le12
  replace at3 := le12.2 _ _ at3
  replace at4 := le12.2 _ _ at4
  replace at5 := le12.2 _ _ at5
  replace at12003 := le12.2 _ _ at12003
  replace at13003 := le12.2 _ _ at13003
  replace lv_v32 := Keep.le lv_v32 le12
  replace v32 := bs_v32.keep lv_v32 (Nat.le_refl _)
  replace lv_v34 := Keep.le lv_v34 le12
  replace v34 := bs_v34.keep lv_v34 (Nat.le_refl _)
  replace lv_v36 := Keep.le lv_v36 le12
  replace v36 := bs_v36.keep lv_v36 (Nat.le_refl _)
  replace lv_v41 := Keep.le lv_v41 le12
  replace v41 := bs_v41.keep lv_v41 (Nat.le_refl _)
  replace lv_v43 := Keep.le lv_v43 le12
  replace v43 := bs_v43.keep lv_v43 (Nat.le_refl _)
  replace lv_v45 := Keep.le lv_v45 le12
  replace v45 := bs_v45.keep lv_v45 (Nat.le_refl _)
  have lt_at12 := GHeap.lt_of_get at12
  replace h0 := base_h0.mono hle
  replace h1 := base_h1.mono hle
  replace h2 := base_h2.mono hle
  clear hb3 fs3 ft3 c103 c113 j13 j23 hm3 hi3 hms3 his3 hmt3 hit3
  have hb3 : Fun.At _ g3 0 d p := ⟨Mem.of_get at3, h0⟩
  obtain ⟨fs3, ft3, c103, c113, j13, j23⟩ := hb3.get
  have hm3 : MemN _ _ _ _ _ := ⟨rfl, hb3.1⟩
  have hi3 := hb3.2
  have hms3 : MemN _ _ _ _ _ := ⟨rfl, fs3.1⟩
  have his3 := fs3.2
  have hmt3 : MemN _ _ _ _ _ := ⟨rfl, ft3.1⟩
  have hit3 := ft3.2
  clear hb4 c04 c14 i14 hm4 hi4
  have hb4 : Con.At _ g4 0 m q := ⟨Mem.of_get at4, h1⟩
  obtain ⟨c04, c14, i14⟩ := hb4.get
  have hm4 : MemN _ _ _ _ _ := ⟨rfl, hb4.1⟩
  have hi4 := hb4.2
  clear hb5 c05 c15 i15 hm5 hi5
  have hb5 : Con.At _ g5 0 m' q' := ⟨Mem.of_get at5, h2⟩
  obtain ⟨c05, c15, i15⟩ := hb5.get
  have hm5 : MemN _ _ _ _ _ := ⟨rfl, hb5.1⟩
  have hi5 := hb5.2
  clear i32
  have i32 := v32.inn
  clear i34
  have i34 := v34.inn
  clear i36
  have i36 := v36.inn
  clear i41
  have i41 := v41.inn
  clear mm12003
  have mm12003 : MemN _ _ _ _ _ := ⟨rfl, Mem.of_get at12003⟩
  clear i43
  have i43 := v43.inn
  clear mm13003
  have mm13003 : MemN _ _ _ _ _ := ⟨rfl, Mem.of_get at13003⟩
  clear i45
  have i45 := v45.inn
  refine .r0 rfl rfl (.fillR rfl sz_42_VCon rfl rfl rfl rfl (by assumption) (by first | rfl | exact Nat.le_of_ble_eq_true rfl | simp)) ?_
  rintro _ H14003 ⟨rfl, st14003, at14003⟩
  have nx_H14003 := st14003.nx
  replace hle := hle.st st14003 (fun k hk => ⟨by omega, trivial⟩)
  replace at3 := st14003.same _ _ ⟨by omega, trivial⟩ at3
  replace at4 := st14003.same _ _ ⟨by omega, trivial⟩ at4
  replace at5 := st14003.same _ _ ⟨by omega, trivial⟩ at5
  replace at12003 := st14003.same _ _ ⟨by omega, trivial⟩ at12003
  replace at13003 := st14003.same _ _ ⟨by omega, trivial⟩ at13003
  replace lv_v32 := Keep.st lv_v32 st14003 (fun k hb hk => ⟨by omega, trivial⟩)
  replace v32 := bs_v32.keep lv_v32 (Nat.le_refl _)
  replace lv_v34 := Keep.st lv_v34 st14003 (fun k hb hk => ⟨by omega, trivial⟩)
  replace v34 := bs_v34.keep lv_v34 (Nat.le_refl _)
  replace lv_v36 := Keep.st lv_v36 st14003 (fun k hb hk => ⟨by omega, trivial⟩)
  replace v36 := bs_v36.keep lv_v36 (Nat.le_refl _)
  replace lv_v41 := Keep.st lv_v41 st14003 (fun k hb hk => ⟨by omega, trivial⟩)
  replace v41 := bs_v41.keep lv_v41 (Nat.le_refl _)
  replace lv_v43 := Keep.st lv_v43 st14003 (fun k hb hk => ⟨by omega, trivial⟩)
  replace v43 := bs_v43.keep lv_v43 (Nat.le_refl _)
  replace lv_v45 := Keep.st lv_v45 st14003 (fun k hb hk => ⟨by omega, trivial⟩)
  replace v45 := bs_v45.keep lv_v45 (Nat.le_refl _)
  have lt_at14003 := GHeap.lt_of_get at14003
  replace h0 := base_h0.mono hle
  replace h1 := base_h1.mono hle
  replace h2 := base_h2.mono hle
  clear hb3 fs3 ft3 c103 c113 j13 j23 hm3 hi3 hms3 his3 hmt3 hit3
  have hb3 : Fun.At _ g3 0 d p := ⟨Mem.of_get at3, h0⟩
  obtain ⟨fs3, ft3, c103, c113, j13, j23⟩ := hb3.get
  have hm3 : MemN _ _ _ _ _ := ⟨rfl, hb3.1⟩
  have hi3 := hb3.2
  have hms3 : MemN _ _ _ _ _ := ⟨rfl, fs3.1⟩
  have his3 := fs3.2
  have hmt3 : MemN _ _ _ _ _ := ⟨rfl, ft3.1⟩
  have hit3 := ft3.2
  clear hb4 c04 c14 i14 hm4 hi4
  have hb4 : Con.At _ g4 0 m q := ⟨Mem.of_get at4, h1⟩
  obtain ⟨c04, c14, i14⟩ := hb4.get
  have hm4 : MemN _ _ _ _ _ := ⟨rfl, hb4.1⟩
  have hi4 := hb4.2
  clear hb5 c05 c15 i15 hm5 hi5
  have hb5 : Con.At _ g5 0 m' q' := ⟨Mem.of_get at5, h2⟩
  obtain ⟨c05, c15, i15⟩ := hb5.get
  have hm5 : MemN _ _ _ _ _ := ⟨rfl, hb5.1⟩
  have hi5 := hb5.2
  clear i32
  have i32 := v32.inn
  clear i34
  have i34 := v34.inn
  clear i36
  have i36 := v36.inn
  clear i41
  have i41 := v41.inn
  clear mm12003
  have mm12003 : MemN _ _ _ _ _ := ⟨rfl, Mem.of_get at12003⟩
  clear i43
  have i43 := v43.inn
  clear mm13003
  have mm13003 : MemN _ _ _ _ _ := ⟨rfl, Mem.of_get at13003⟩
  clear i45
  have i45 := v45.inn
  have mm14003 : MemN _ _ _ _ _ := ⟨rfl, Mem.of_get at14003⟩
  refine .nil ?_
  refine hK18 _ _ ?_
  refine .seq (fun K19 hK19 => ?_)
  refine .region ?_
  refine .m rfl rfl rfl (.loadM ag_34_E rfl ⟨rfl, Mem.of_get at12003⟩) ?_
  refine .m rfl rfl rfl (.loadM ag_42_VCon rfl ⟨rfl, Mem.of_get at13003⟩) ?_
  refine .m rfl rfl rfl (.loadM ag_42_VCon rfl ⟨rfl, Mem.of_get at14003⟩) ?_
  refine .callQ rfl rfl rfl rfl @Try.call27 rfl (implMediatingArrow_c) ?_
  refine .m rfl rfl rfl (.move rfl) (.m rfl rfl rfl (.extract rfl rfl) (.m rfl rfl rfl (.extract rfl rfl) (.m rfl rfl rfl (.assign rfl) ?_)))
  refine .m rfl rfl rfl (.assign rfl) (.nil ?_)
  refine hK19 _ _ ?_
  refine .seq (fun K20 hK20 => ?_)
  refine .seq (fun K21 hK21 => ?_)
  refine .region (.m rfl rfl rfl (.move rfl) (.m rfl rfl rfl (.move rfl) (.m rfl rfl rfl (.cmp rfl rfl rfl) ?_)))
  refine .m rfl rfl rfl (.move rfl) ?_
  refine .split (fun h56 => ?_) (fun h56 => ?_)
  ·
   try simp only [sps] at h56
   refine .sg rfl rfl rfl rfl rfl (.sg rfl rfl rfl rfl rfl (.sg rfl rfl rfl rfl rfl (.m rfl rfl rfl (.pickT rfl rfl) ?_)))
   refine .nil ?_
   refine hK21 _ _ ?_
   refine .condT rfl ?_
   refine .seq (fun K22 hK22 => ?_)
   refine .region (.m rfl rfl rfl (.assign rfl) (.nil ?_))
   refine hK22 _ _ ?_
   refine .ret ?_
   refine hret _ _ ?_
   refine ⟨_, rfl, ?_⟩
   first
   | exact rfl
   | exact absurd trivial (by assumption)
   | contradiction
   | (exfalso; omega)
  try simp only [sps] at h56
  refine .mg rfl rfl rfl rfl rfl (.move rfl) (.mg rfl rfl rfl rfl rfl (.move rfl) (.mg rfl rfl rfl rfl rfl (.cmp rfl rfl rfl) (.m rfl rfl rfl (.pickF rfl rfl) ?_)))
  refine .nil ?_
  refine hK21 _ _ ?_
  refine .cond rfl (fun h60 => ?_) (fun h60 => ?_)
  ·
   try simp only [sps] at h60
   refine .seq (fun K23 hK23 => ?_)
   refine .region (.m rfl rfl rfl (.assign rfl) (.nil ?_))
   refine hK23 _ _ ?_
   refine .ret ?_
   refine hret _ _ ?_
   refine ⟨_, rfl, ?_⟩
   first
   | exact rfl
   | exact absurd trivial (by assumption)
   | contradiction
   | (exfalso; omega)
  try simp only [sps] at h60
  refine .skip ?_
  refine hK20 _ _ ?_
  refine .seq (fun K24 hK24 => ?_)
  refine .seq (fun K25 hK25 => ?_)
  refine .regionD mixed_orders_B (.q 0 (.q 1 (.c 2 1 (.c 3 0 (.q 4 (.done)))))) (by kernel_rfl) ?_
  refine .m rfl rfl rfl rfl (.refl _) (.loadM ag_34_E rfl ⟨rfl, Mem.of_get at12003⟩) ?_
  refine .m rfl rfl rfl rfl (.refl _) (.loadM ag_27_LMediatingArrow rfl ⟨rfl, Mem.of_get at3⟩) ?_
  refine .call1 rfl rfl rfl rfl rfl @Try.call10 rfl (toFunctor_c) ?_
  rintro _ H63 ⟨le63, p63, rfl, v63⟩
  have hbl := le63
  refine ⟨hbl, ?_⟩
  have nx_H63 := le63.1
  replace hle := hle.trans le63
  replace at3 := le63.2 _ _ at3
  replace at4 := le63.2 _ _ at4
  replace at5 := le63.2 _ _ at5
  replace at12003 := le63.2 _ _ at12003
  replace at13003 := le63.2 _ _ at13003
  replace at14003 := le63.2 _ _ at14003
  replace lv_v32 := Keep.le lv_v32 le63
  replace v32 := bs_v32.keep lv_v32 (Nat.le_refl _)
  replace lv_v34 := Keep.le lv_v34 le63
  replace v34 := bs_v34.keep lv_v34 (Nat.le_refl _)
  replace lv_v36 := Keep.le lv_v36 le63
  replace v36 := bs_v36.keep lv_v36 (Nat.le_refl _)
  replace lv_v41 := Keep.le lv_v41 le63
  replace v41 := bs_v41.keep lv_v41 (Nat.le_refl _)
  replace lv_v43 := Keep.le lv_v43 le63
  replace v43 := bs_v43.keep lv_v43 (Nat.le_refl _)
  replace lv_v45 := Keep.le lv_v45 le63
  replace v45 := bs_v45.keep lv_v45 (Nat.le_refl _)
  have bs_v63 := v63
  have lv_v63 : Keep H14003.next H63 H63 := fun _ _ _ h => h
  replace h0 := base_h0.mono hle
  replace h1 := base_h1.mono hle
  replace h2 := base_h2.mono hle
  clear hb3 fs3 ft3 c103 c113 j13 j23 hm3 hi3 hms3 his3 hmt3 hit3
  have hb3 : Fun.At _ g3 0 d p := ⟨Mem.of_get at3, h0⟩
  obtain ⟨fs3, ft3, c103, c113, j13, j23⟩ := hb3.get
  have hm3 : MemN _ _ _ _ _ := ⟨rfl, hb3.1⟩
  have hi3 := hb3.2
  have hms3 : MemN _ _ _ _ _ := ⟨rfl, fs3.1⟩
  have his3 := fs3.2
  have hmt3 : MemN _ _ _ _ _ := ⟨rfl, ft3.1⟩
  have hit3 := ft3.2
  clear hb4 c04 c14 i14 hm4 hi4
  have hb4 : Con.At _ g4 0 m q := ⟨Mem.of_get at4, h1⟩
  obtain ⟨c04, c14, i14⟩ := hb4.get
  have hm4 : MemN _ _ _ _ _ := ⟨rfl, hb4.1⟩
  have hi4 := hb4.2
  clear hb5 c05 c15 i15 hm5 hi5
  have hb5 : Con.At _ g5 0 m' q' := ⟨Mem.of_get at5, h2⟩
  obtain ⟨c05, c15, i15⟩ := hb5.get
  have hm5 : MemN _ _ _ _ _ := ⟨rfl, hb5.1⟩
  have hi5 := hb5.2
  clear i32
  have i32 := v32.inn
  clear i34
  have i34 := v34.inn
  clear i36
  have i36 := v36.inn
  clear i41
  have i41 := v41.inn
  clear mm12003
  have mm12003 : MemN _ _ _ _ _ := ⟨rfl, Mem.of_get at12003⟩
  clear i43
  have i43 := v43.inn
  clear mm13003
  have mm13003 : MemN _ _ _ _ _ := ⟨rfl, Mem.of_get at13003⟩
  clear i45
  have i45 := v45.inn
  clear mm14003
  have mm14003 : MemN _ _ _ _ _ := ⟨rfl, Mem.of_get at14003⟩
  have i63 := v63.inn
  refine .callQ0 rfl rfl rfl rfl rfl @Try.call13 rfl (eqFunctor_c) ?_
  refine .m rfl rfl rfl rfl (.refl _) (.not rfl) ?_
  refine .done ?_
  refine hK25 _ _ ?_
  refine .cond rfl (fun h65 => ?_) (fun h65 => ?_)
  ·
   try simp only [sps] at h65
   refine .seq (fun K26 hK26 => ?_)
   refine .region (.m rfl rfl rfl (.assign rfl) (.nil ?_))
   refine hK26 _ _ ?_
   refine .ret ?_
   refine hret _ _ ?_
   refine ⟨_, rfl, ?_⟩
   first
   | exact rfl
   | exact absurd trivial (by assumption)
   | contradiction
   | (exfalso; omega)
  try simp only [sps] at h65
  refine .skip ?_
  refine hK24 _ _ ?_
  refine .seq (fun K27 hK27 => ?_)
  refine .seq (fun K28 hK28 => ?_)
  refine .regionD mixed_orders_B (.q 0 (.q 1 (.c 2 1 (.c 3 0 (.q 4 (.done)))))) (by kernel_rfl) ?_
  refine .m rfl rfl rfl rfl (.refl _) (.loadM ag_42_VCon rfl ⟨rfl, Mem.of_get at13003⟩) ?_
  refine .m rfl rfl rfl rfl (.refl _) (.loadM ag_47_LMediatingArrow rfl ⟨rfl, Mem.of_get at4⟩) ?_
  refine .call1 rfl rfl rfl rfl rfl @Try.call26 rfl (toCone_c) ?_
  rintro _ H68 ⟨le68, p68, rfl, v68⟩
  have hbl := le68
  refine ⟨hbl, ?_⟩
  have nx_H68 := le68.1
  replace hle := hle.trans le68
  replace at3 := le68.2 _ _ at3
  replace at4 := le68.2 _ _ at4
  replace at5 := le68.2 _ _ at5
  replace at12003 := le68.2 _ _ at12003
  replace at13003 := le68.2 _ _ at13003
  replace at14003 := le68.2 _ _ at14003
  replace lv_v32 := Keep.le lv_v32 le68
  replace v32 := bs_v32.keep lv_v32 (Nat.le_refl _)
  replace lv_v34 := Keep.le lv_v34 le68
  replace v34 := bs_v34.keep lv_v34 (Nat.le_refl _)
  replace lv_v36 := Keep.le lv_v36 le68
  replace v36 := bs_v36.keep lv_v36 (Nat.le_refl _)
  replace lv_v41 := Keep.le lv_v41 le68
  replace v41 := bs_v41.keep lv_v41 (Nat.le_refl _)
  replace lv_v43 := Keep.le lv_v43 le68
  replace v43 := bs_v43.keep lv_v43 (Nat.le_refl _)
  replace lv_v45 := Keep.le lv_v45 le68
  replace v45 := bs_v45.keep lv_v45 (Nat.le_refl _)
  replace lv_v63 := Keep.le lv_v63 le68
  replace v63 := bs_v63.keep lv_v63 (Nat.le_refl _)
  have bs_v68 := v68
  have lv_v68 : Keep H63.next H68 H68 := fun _ _ _ h => h
  replace h0 := base_h0.mono hle
  replace h1 := base_h1.mono hle
  replace h2 := base_h2.mono hle
  clear hb3 fs3 ft3 c103 c113 j13 j23 hm3 hi3 hms3 his3 hmt3 hit3
  have hb3 : Fun.At _ g3 0 d p := ⟨Mem.of_get at3, h0⟩
  obtain ⟨fs3, ft3, c103, c113, j13, j23⟩ := hb3.get
  have hm3 : MemN _ _ _ _ _ := ⟨rfl, hb3.1⟩
  have hi3 := hb3.2
  have hms3 : MemN _ _ _ _ _ := ⟨rfl, fs3.1⟩
  have his3 := fs3.2
  have hmt3 : MemN _ _ _ _ _ := ⟨rfl, ft3.1⟩
  have hit3 := ft3.2
  clear hb4 c04 c14 i14 hm4 hi4
  have hb4 : Con.At _ g4 0 m q := ⟨Mem.of_get at4, h1⟩
  obtain ⟨c04, c14, i14⟩ := hb4.get
  have hm4 : MemN _ _ _ _ _ := ⟨rfl, hb4.1⟩
  have hi4 := hb4.2
  clear hb5 c05 c15 i15 hm5 hi5
  have hb5 : Con.At _ g5 0 m' q' := ⟨Mem.of_get at5, h2⟩
  obtain ⟨c05, c15, i15⟩ := hb5.get
  have hm5 : MemN _ _ _ _ _ := ⟨rfl, hb5.1⟩
  have hi5 := hb5.2
  clear i32
  have i32 := v32.inn
  clear i34
  have i34 := v34.inn
  clear i36
  have i36 := v36.inn
  clear i41
  have i41 := v41.inn
  clear mm12003
  have mm12003 : MemN _ _ _ _ _ := ⟨rfl, Mem.of_get at12003⟩
  clear i43
  have i43 := v43.inn
  clear mm13003
  have mm13003 : MemN _ _ _ _ _ := ⟨rfl, Mem.of_get at13003⟩
  clear i45
  have i45 := v45.inn
  clear mm14003
  have mm14003 : MemN _ _ _ _ _ := ⟨rfl, Mem.of_get at14003⟩
  clear i63
  have i63 := v63.inn
  have i68 := v68.inn
  refine .callQ0 rfl rfl rfl rfl rfl @Try.call19 rfl (eqCone_c) ?_
  refine .m rfl rfl rfl rfl (.refl _) (.not rfl) ?_
  refine .done ?_
  refine hK28 _ _ ?_
  refine .cond rfl (fun h70 => ?_) (fun h70 => ?_)
  ·
   try simp only [sps] at h70
   refine .seq (fun K29 hK29 => ?_)
   refine .region (.m rfl rfl rfl (.assign rfl) (.nil ?_))
   refine hK29 _ _ ?_
   refine .ret ?_
   refine hret _ _ ?_
   refine ⟨_, rfl, ?_⟩
   first
   | exact rfl
   | exact absurd trivial (by assumption)
   | contradiction
   | (exfalso; omega)
  try simp only [sps] at h70
  refine .skip ?_
  refine hK27 _ _ ?_
  refine .seq (fun K30 hK30 => ?_)
  refine .seq (fun K31 hK31 => ?_)
  refine .regionD mixed_orders_B (.q 0 (.q 1 (.c 2 1 (.c 3 0 (.q 4 (.done)))))) (by kernel_rfl) ?_
  refine .m rfl rfl rfl rfl (.refl _) (.loadM ag_42_VCon rfl ⟨rfl, Mem.of_get at14003⟩) ?_
  refine .m rfl rfl rfl rfl (.refl _) (.loadM ag_47_LMediatingArrow rfl ⟨rfl, Mem.of_get at5⟩) ?_
  refine .call1 rfl rfl rfl rfl rfl @Try.call26 rfl (toCone_c) ?_
  rintro _ H73 ⟨le73, p73, rfl, v73⟩
  have hbl := le73
  refine ⟨hbl, ?_⟩
  have nx_H73 := le73.1
  replace hle := hle.trans le73
  replace at3 := le73.2 _ _ at3
  replace at4 := le73.2 _ _ at4
  replace at5 := le73.2 _ _ at5
  replace at12003 := le73.2 _ _ at12003
  replace at13003 := le73.2 _ _ at13003
  replace at14003 := le73.2 _ _ at14003
  replace lv_v32 := Keep.le lv_v32 le73
  replace v32 := bs_v32.keep lv_v32 (Nat.le_refl _)
  replace lv_v34 := Keep.le lv_v34 le73
  replace v34 := bs_v34.keep lv_v34 (Nat.le_refl _)
  replace lv_v36 := Keep.le lv_v36 le73
  replace v36 := bs_v36.keep lv_v36 (Nat.le_refl _)
  replace lv_v41 := Keep.le lv_v41 le73
  replace v41 := bs_v41.keep lv_v41 (Nat.le_refl _)
  replace lv_v43 := Keep.le lv_v43 le73
  replace v43 := bs_v43.keep lv_v43 (Nat.le_refl _)
  replace lv_v45 := Keep.le lv_v45 le73
  replace v45 := bs_v45.keep lv_v45 (Nat.le_refl _)
  replace lv_v63 := Keep.le lv_v63 le73
  replace v63 := bs_v63.keep lv_v63 (Nat.le_refl _)
  replace lv_v68 := Keep.le lv_v68 le73
  replace v68 := bs_v68.keep lv_v68 (Nat.le_refl _)
  have bs_v73 := v73
  have lv_v73 : Keep H68.next H73 H73 := fun _ _ _ h => h
  replace h0 := base_h0.mono hle
  replace h1 := base_h1.mono hle
  replace h2 := base_h2.mono hle
  clear hb3 fs3 ft3 c103 c113 j13 j23 hm3 hi3 hms3 his3 hmt3 hit3
  have hb3 : Fun.At _ g3 0 d p := ⟨Mem.of_get at3, h0⟩
  obtain ⟨fs3, ft3, c103, c113, j13, j23⟩ := hb3.get
  have hm3 : MemN _ _ _ _ _ := ⟨rfl, hb3.1⟩
  have hi3 := hb3.2
  have hms3 : MemN _ _ _ _ _ := ⟨rfl, fs3.1⟩
  have his3 := fs3.2
  have hmt3 : MemN _ _ _ _ _ := ⟨rfl, ft3.1⟩
  have hit3 := ft3.2
  clear hb4 c04 c14 i14 hm4 hi4
  have hb4 : Con.At _ g4 0 m q := ⟨Mem.of_get at4, h1⟩
  obtain ⟨c04, c14, i14⟩ := hb4.get
  have hm4 : MemN _ _ _ _ _ := ⟨rfl, hb4.1⟩
  have hi4 := hb4.2
  clear hb5 c05 c15 i15 hm5 hi5
  have hb5 : Con.At _ g5 0 m' q' := ⟨Mem.of_get at5, h2⟩
  obtain ⟨c05, c15, i15⟩ := hb5.get
  have hm5 : MemN _ _ _ _ _ := ⟨rfl, hb5.1⟩
  have hi5 := hb5.2
  clear i32
  have i32 := v32.inn
  clear i34
  have i34 := v34.inn
  clear i36
  have i36 := v36.inn
  clear i41
  have i41 := v41.inn
  clear mm12003
  have mm12003 : MemN _ _ _ _ _ := ⟨rfl, Mem.of_get at12003⟩
  clear i43
  have i43 := v43.inn
  clear mm13003
  have mm13003 : MemN _ _ _ _ _ := ⟨rfl, Mem.of_get at13003⟩
  clear i45
  have i45 := v45.inn
  clear mm14003
  have mm14003 : MemN _ _ _ _ _ := ⟨rfl, Mem.of_get at14003⟩
  clear i63
  have i63 := v63.inn
  clear i68
  have i68 := v68.inn
  have i73 := v73.inn
  refine .callQ0 rfl rfl rfl rfl rfl @Try.call19 rfl (eqCone_c) ?_
  refine .m rfl rfl rfl rfl (.refl _) (.not rfl) ?_
  refine .done ?_
  refine hK31 _ _ ?_
  refine .cond rfl (fun h75 => ?_) (fun h75 => ?_)
  ·
   try simp only [sps] at h75
   refine .seq (fun K32 hK32 => ?_)
   refine .region (.m rfl rfl rfl (.assign rfl) (.nil ?_))
   refine hK32 _ _ ?_
   refine .ret ?_
   refine hret _ _ ?_
   refine ⟨_, rfl, ?_⟩
   first
   | exact rfl
   | exact absurd trivial (by assumption)
   | contradiction
   | (exfalso; omega)
  try simp only [sps] at h75
  refine .skip ?_
  refine hK30 _ _ ?_
  refine .seq (fun K33 hK33 => ?_)
  refine .region (.m rfl rfl rfl (.assign rfl) (.nil ?_))
  refine hK33 _ _ ?_
  refine .ret ?_
  refine hret _ _ ?_
  refine ⟨_, rfl, ?_⟩
  first
  | exact rfl
  | exact absurd trivial (by assumption)
  | contradiction
  | (exfalso; omega)
end Go.Proofs.Ytpmjlhbglcaokaa
/- The call of a law, whatever it takes: the arguments brought in one by one. No condition. -/
namespace Go.GL
open Go.RowKit Go.WideShapes Go.ChangeShapes Go.Deep

/-- An argument of type t may be brought in so that R holds of what stands for it. -/
structure Imp1 (P : Program) (t : TypeId) (R : GHeap → Value → Prop) : Prop where
  mono : ∀ {H H' : GHeap} {g : Value}, H.Le H' → R H g → R H' g
  imp : ∀ {T : Type} {enc : TypeId × Value → T} {B : Nat} {w0 : World} {ρ : Place} {H : GHeap} {w : World} {held : Bool} {base fuel : Nat} {v : Value} {x : DataW T × List MemPlace}, Sim P B w0 ρ H w → w.heap.size ≤ B →
    DataW.trod enc P w 0 (fun _ => true) held fuel t v.cells.toList = some x → Value.okWide P w .any base t v → ∃ ρ' H' g, Sim P B w0 ρ' H' w ∧ Ext ρ ρ' ∧ H.Le H' ∧ VRel ρ' g v ∧ R H' g

def structT (P : Program) (t : TypeId) : Bool := match P.underlying t with | some (.struct _) => true | _ => false
theorem imp1_struct {P : Program} {t : TypeId} {α β : Type} {cells : α → β → List Value} {I : GHeap → α → β → Prop} {W : α → Prop} (hm : ∀ {H H' : GHeap} {c : α} {p : β}, I H c p → H.Le H' → I H' c p)
    (hI : Imports P t (fun ρ H cs => ∃ (c : α) (p : β), LRel ρ (cells c p) cs ∧ I H c p ∧ W c)) (hst : structT P t = true) : Imp1 P t (fun H g => ∃ (c : α) (p : β), g = .agg (cells c p).toArray ∧ I H c p ∧ W c) where
  mono h := fun ⟨c, p, h1, h2, h3⟩ => ⟨c, p, h1, hm h2 h, h3⟩
  imp := by
    intro T enc B w0 ρ H w held base fuel v x hs hB h hv
    have hagg : ∃ cs, v = .agg cs := by
      unfold Value.okWide at hv
      unfold structT at hst
      split at hst
      · rename_i fs hu
        rw [hu] at hv
        obtain ⟨cs, h, _⟩ := hv
        exact ⟨cs, h⟩
      · cases hst
    obtain ⟨cs, rfl⟩ := hagg
    obtain ⟨ρ', H', h1, h2, h3, c, p, h4, h5, h6⟩ := hI hs hB h
    exact ⟨ρ', H', _, h1, h2, h3, by have := VRel.agg_of h4; simpa [Value.cells] using this, c, p, rfl, h5, h6⟩
/-- Arguments of types ts may be brought in so that R holds of what stands for them. -/
structure ImpAll (P : Program) (ts : List TypeId) (R : GHeap → List Value → Prop) : Prop where
  imp : ∀ {T : Type} {enc : TypeId × Value → T} {B : Nat} {w0 : World} {ρ : Place} {H : GHeap} {w : World} {base : Nat} {vs : List Value} {ds : List (DataW T)} {ps : List MemPlace}, Sim P B w0 ρ H w → w.heap.size ≤ B →
    DataW.TrodAll enc P w 0 (fun _ => true) true ts vs ds ps → (∀ (j : Nat) t v, ts[j]? = some t → vs[j]? = some v → Value.okWide P w .any base t v) → ds.length = ts.length ∧ ∃ ρ' H' gs, Sim P B w0 ρ' H' w ∧ Ext ρ ρ' ∧ H.Le H' ∧ LRel ρ' gs vs ∧ R H' gs
theorem ImpAll.nil {P : Program} : ImpAll P [] (fun _ gs => gs = []) where
  imp := by
    intro T enc B w0 ρ H w base vs ds ps hs hB h hv
    obtain ⟨rfl, rfl, rfl⟩ := trodAll_nil h
    exact ⟨rfl, ρ, H, [], hs, .refl ρ, .refl H, .nil ρ, rfl⟩
theorem ImpAll.cons {P : Program} {t : TypeId} {ts : List TypeId} {R1 : GHeap → Value → Prop} {R : GHeap → List Value → Prop} (h1 : Imp1 P t R1) (h2 : ImpAll P ts R) : ImpAll P (t :: ts) (fun H gs => ∃ g r, gs = g :: r ∧ R1 H g ∧ R H r) where
  imp := by
    intro T enc B w0 ρ H w base vs ds ps hs hB h hv
    obtain ⟨v, vs, d, ds, p, q, rfl, rfl, rfl, ⟨fuel, k1⟩, k2⟩ := trodAll_cons h
    obtain ⟨ρ1, H1, g, s1, e1, l1, v1, r1⟩ := h1.imp hs hB k1 (hv 0 t v rfl rfl)
    obtain ⟨hl, ρ2, H2, gs, s2, e2, l2, v2, r2⟩ := h2.imp s1 hB k2 (fun j t v ht hj => hv (j + 1) t v (by simpa using ht) (by simpa using hj))
    exact ⟨by simp [hl], ρ2, H2, g :: gs, s2, e1.trans e2, l1.trans l2, .cons (v1.mono e2) v2, g, gs, rfl, h1.mono l2 r1, r2⟩

/-- The call of a law. -/
theorem law_calls {P : Program} {f : FuncId} {fn : Func} {ts : List TypeId} {tb : TypeId} {R : GHeap → List Value → Prop} (hI : ImpAll P ts R) (hp : fn.params = ts.toArray)
    (hc : ∀ H gs, R H gs → GCalls P f gs H fun v _ => v = .bool true)
    {T : Type} {enc : TypeId × Value → T} {W : World} {base : Nat} {args : Array Value} {s : ChangeSpec} {apart fresh handsOn again : Bool} {ds gs : List (DataW T)} {before : List MemPlace}
    (hval : ∀ (j : Nat) t v, fn.params[j]? = some t → args[j]? = some v → Value.okWide P W .any base t v)
    (hW : DataW.Whole enc P fn.params.toList s.vars apart W args.toList ds gs before)
    (hl : laidOutB P = true) (hr : readB P fn.params.toList = true) (hv : s.vars = []) (hrt : fn.resultTypes = #[tb]) (htb : P.underlying tb = some .bool)
    (hs : ∀ ds : List (DataW T), ds.length = ts.length → (s.fn T ds).results = [.lit (.bool true)] ∧ (s.fn T ds).args = ds ∧ (s.fn T ds).vars = []) :
    Calls P f args W fun e W' => ∃ v, e = .returned v ∧ s.post enc P fn apart fresh handsOn again W args v W' := by
  have hWW := hW
  obtain ⟨p, q, hA, _⟩ := hW
  rw [hp] at hA
  obtain ⟨hlen, ρ, H, gs', hs', _, _, hrel, hR⟩ := hI.imp (base := base) (Sim.start P W) (Nat.le_refl _) (by simpa using hA) (fun j t v ht hj => hval j t v (by rw [hp]; simpa using ht) (by simpa using hj))
  have := (hc H gs' hR) _ _ ρ args.toList W hs' hrel
  rw [Array.toArray_toList] at this
  refine this.mono fun e W' ⟨v, c, ρ', H', he, hv', _, hsim, hrv⟩ => ?_
  subst hv'
  cases hrv
  exact ⟨_, he, law_post hl hr hv hrt htb hWW (hs ds hlen).1 (hs ds hlen).2.1 (hs ds hlen).2.2 hsim.below⟩
end Go.GL
