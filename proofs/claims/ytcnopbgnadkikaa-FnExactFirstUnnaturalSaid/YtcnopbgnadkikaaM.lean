/- The laws of FirstUnnatural and IsNaturalIsomorphism. No condition but those of each statement. -/
import Derived.Test.YtcnopbgnadkikaaL
namespace Go.Proofs.Ytcnopbgnadkikaa
open Go Go.GL Go.RowKit Go.Proofs
theorem ag_29_M : aggT Try.prog 29 = some 25 := by kernel_rfl
theorem bo_4_M : isBoolT Try.prog 4 = true := by kernel_rfl
theorem implFirstUnnatural_c {m : Tra} {p : TraP} {H : GHeap} (hin : m.In H p := by assumption) (hsm : m.Small := by assumption) :
    GCalls Try.prog 13 [.agg (m.cells p).toArray] H (Ret (.tuple #[.int .i64 (bif B m.Shape then m.first else 0), .int .i64 (bif B m.Shape then 0 else 1)]) H) := by
  refine GCalls.ret rfl ?_
  refine GCalls.body (N := 7) (rs := [.tmp 2, .tmp 3]) Try.func13 rfl rfl rfl rfl (fun Qx hret hend => ?_)
  refine .forget (fr' := [(0, some _)]) ⟨rfl, trivial⟩ ?_
  have hle := GHeap.Le.refl H
  have base_hin := hin
  refine .seq (fun K1 hK1 => ?_)
  refine .region ?_
  refine .r rfl rfl rfl (.boxR rfl sz_36_E rfl) ?_
  rintro _ H1 ⟨g1, rfl, le1, ge1, at1⟩
  have nx_H1 := le1.1
  replace hle := hle.trans le1
  have lt_at1 := GHeap.lt_of_get at1
  replace hin := base_hin.mono hle
  have hb1 : Tra.At _ g1 0 m p := ⟨Mem.of_get at1, hin⟩
  obtain ⟨ms1, mt1, c241, k11⟩ := hb1.get
  have hm1 : MemN _ _ _ _ _ := ⟨rfl, hb1.1⟩
  have hi1 := hb1.2
  have hms1 : MemN _ _ _ _ _ := ⟨rfl, ms1.1⟩
  have his1 := ms1.2
  have hmt1 : MemN _ _ _ _ _ := ⟨rfl, mt1.1⟩
  have hit1 := mt1.2
  refine .m rfl rfl rfl (.assign rfl) ?_
  refine .m rfl rfl rfl (.assign rfl) ?_
  refine .nil ?_
  refine hK1 _ _ ?_
  refine .seq (fun K2 hK2 => ?_)
  refine .seq (fun K3 hK3 => ?_)
  refine .region ?_
  refine .callQ rfl rfl rfl rfl @Try.call31 rfl (isShapeT_c) ?_
  refine .m rfl rfl rfl (.not rfl) ?_
  refine .nil ?_
  refine hK3 _ _ ?_
  refine .cond rfl (fun h5 => ?_) (fun h5 => ?_)
  ·
   try simp only [sps] at h5
   refine .seq (fun K4 hK4 => ?_)
   refine .region ?_
   refine .m rfl rfl rfl (.assign rfl) ?_
   refine .m rfl rfl rfl (.assign rfl) ?_
   refine .nil ?_
   refine hK4 _ _ ?_
   refine .ret ?_
   -- leaf e1
   refine hret _ _ ?_
   refine ⟨_, _, rfl, rfl, ?_⟩
   first
   | exact ⟨by rw [B_true (by assumption)]; rfl, hle⟩
   | exact ⟨by rw [B_false (by assumption)]; rfl, hle⟩
  ·
   try simp only [sps] at h5
   refine .skip ?_
   refine hK2 _ _ ?_
   refine .seq (fun K5 hK5 => ?_)
   refine .region ?_
   refine .callQ rfl rfl rfl rfl @Try.call32 rfl (firstFailure_c) ?_
   refine .m rfl rfl rfl (.assign rfl) ?_
   refine .m rfl rfl rfl (.assign rfl) ?_
   refine .nil ?_
   refine hK5 _ _ ?_
   refine .ret ?_
   -- leaf e2
   refine hret _ _ ?_
   refine ⟨_, _, rfl, rfl, ?_⟩
   first
   | exact ⟨by rw [B_true (by assumption)]; rfl, hle⟩
   | exact ⟨by rw [B_false (by assumption)]; rfl, hle⟩
theorem specFirstUnnatural_c {m : Tra} {p : TraP} {H : GHeap} (hin : m.In H p := by assumption) (hsm : m.Small := by assumption) :
    GCalls Try.prog 12 [.agg (m.cells p).toArray] H (Ret (.tuple #[.int .i64 (bif B m.Shape then m.first else 0), .int .i64 (bif B m.Shape then 0 else 1)]) H) := by
  refine GCalls.ret rfl ?_
  refine GCalls.body (N := 14) (rs := [.tmp 2, .tmp 3]) Try.func12 rfl rfl rfl rfl (fun Qx hret hend => ?_)
  refine .forget (fr' := [(0, some _)]) ⟨rfl, trivial⟩ ?_
  have hle := GHeap.Le.refl H
  have base_hin := hin
  refine .seq (fun K1 hK1 => ?_)
  refine .region ?_
  refine .r rfl rfl rfl (.boxR rfl sz_36_E rfl) ?_
  rintro _ H1 ⟨g1, rfl, le1, ge1, at1⟩
  have nx_H1 := le1.1
  replace hle := hle.trans le1
  have lt_at1 := GHeap.lt_of_get at1
  replace hin := base_hin.mono hle
  have hb1 : Tra.At _ g1 0 m p := ⟨Mem.of_get at1, hin⟩
  obtain ⟨ms1, mt1, c241, k11⟩ := hb1.get
  have hm1 : MemN _ _ _ _ _ := ⟨rfl, hb1.1⟩
  have hi1 := hb1.2
  have hms1 : MemN _ _ _ _ _ := ⟨rfl, ms1.1⟩
  have his1 := ms1.2
  have hmt1 : MemN _ _ _ _ _ := ⟨rfl, mt1.1⟩
  have hit1 := mt1.2
  refine .m rfl rfl rfl (.assign rfl) ?_
  refine .m rfl rfl rfl (.assign rfl) ?_
  refine .nil ?_
  refine hK1 _ _ ?_
  refine .seq (fun K2 hK2 => ?_)
  refine .seq (fun K3 hK3 => ?_)
  refine .region ?_
  refine .m rfl rfl rfl (.loadM ag_36_E rfl (by assumption)) ?_
  refine .callQ rfl rfl rfl rfl @Try.call29 rfl (l07Shape_c) ?_
  refine .m rfl rfl rfl (.not rfl) ?_
  refine .nil ?_
  refine hK3 _ _ ?_
  refine .cond rfl (fun h6 => ?_) (fun h6 => ?_)
  ·
   try simp only [sps] at h6
   refine .seq (fun K4 hK4 => ?_)
   refine .region ?_
   refine .m rfl rfl rfl (.assign rfl) ?_
   refine .m rfl rfl rfl (.assign rfl) ?_
   refine .nil ?_
   refine hK4 _ _ ?_
   refine .ret ?_
   -- leaf e1
   refine hret _ _ ?_
   refine ⟨_, _, rfl, rfl, ?_⟩
   first
   | exact ⟨by rw [B_true (by assumption)]; rfl, hle⟩
   | exact ⟨by rw [B_false (by assumption)]; rfl, hle⟩
  ·
   try simp only [sps] at h6
   refine .skip ?_
   refine hK2 _ _ ?_
   refine .seq (fun K5 hK5 => ?_)
   refine .region ?_
   refine .m rfl rfl rfl (.fieldAddr fo_36_0_E rfl) ?_
   refine .m rfl rfl rfl (.loadM ag_34_E rfl (by assumption)) ?_
   refine .m rfl rfl rfl (.fieldAddr fo_36_1_E rfl) ?_
   refine .m rfl rfl rfl (.loadM ag_34_E rfl (by assumption)) ?_
   refine .m rfl rfl rfl (.fieldAddr fo_36_2_E rfl) ?_
   refine .m rfl rfl rfl (.load on_22_B rfl (by assumption)) ?_
   refine .callQ rfl rfl rfl rfl @Try.call30 rfl (l07Fault_c) ?_
   refine .m rfl rfl rfl (.assign rfl) ?_
   refine .m rfl rfl rfl (.assign rfl) ?_
   refine .nil ?_
   refine hK5 _ _ ?_
   refine .ret ?_
   -- leaf e2
   refine hret _ _ ?_
   refine ⟨_, _, rfl, rfl, ?_⟩
   first
   | exact ⟨by rw [B_true (by assumption)]; rfl, hle⟩
   | exact ⟨by rw [B_false (by assumption)]; rfl, hle⟩
theorem lawFirstUnnatural_c {m : Tra} {p : TraP} {H : GHeap} (hin : m.In H p) (hw : m.Wide) : GCalls Try.prog 4 [.agg (m.cells p).toArray] H (fun v _ => v = .bool true) := by
  refine GCalls.body (N := 40) (rs := [.tmp 2]) Try.func4 rfl rfl rfl rfl (fun Qx hret hend => ?_)
  refine .forget (fr' := [(0, some _)]) ⟨rfl, trivial⟩ ?_
  have hle := GHeap.Le.refl H
  have base_hin := hin
  refine .seq (fun K1 hK1 => ?_)
  refine .region ?_
  refine .r rfl rfl rfl (.boxR rfl sz_29_E rfl) ?_
  rintro _ H1 ⟨g1, rfl, le1, ge1, at1⟩
  have nx_H1 := le1.1
  replace hle := hle.trans le1
  have lt_at1 := GHeap.lt_of_get at1
  replace hin := base_hin.mono hle
  have hb1 : Tra.At _ g1 0 m p := ⟨Mem.of_get at1, hin⟩
  obtain ⟨ms1, mt1, c241, k11⟩ := hb1.get
  have hm1 : MemN _ _ _ _ _ := ⟨rfl, hb1.1⟩
  have hi1 := hb1.2
  have hms1 : MemN _ _ _ _ _ := ⟨rfl, ms1.1⟩
  have his1 := ms1.2
  have hmt1 : MemN _ _ _ _ _ := ⟨rfl, mt1.1⟩
  have hit1 := mt1.2
  refine .m rfl rfl rfl (.assign rfl) ?_
  refine .nil ?_
  refine hK1 _ _ ?_
  refine .seq (fun K2 hK2 => ?_)
  refine .region ?_
  refine .m rfl rfl rfl (.assign rfl) ?_
  refine .nil ?_
  refine hK2 _ _ ?_
  refine .seq (fun K3 hK3 => ?_)
  refine .region ?_
  refine .m rfl rfl rfl (.loadM ag_29_M rfl (by assumption)) ?_
  refine .m rfl rfl rfl (.move rfl) ?_
  refine .call rfl rfl rfl rfl @Try.call7 rfl (szTransformation_c) ?_
  rintro _ _ ⟨heq, lf11, rfl, z111, z211, z311⟩
  obtain rfl := heq.symm
  refine .m rfl rfl rfl (.assign rfl) ?_
  refine .nil ?_
  refine hK3 _ _ ?_
  refine .seq (fun K4 hK4 => ?_)
  refine .seq (fun K5 hK5 => ?_)
  refine .region ?_
  refine .m rfl rfl rfl (.move rfl) ?_
  refine .m rfl rfl rfl (.cmp rfl rfl rfl) ?_
  refine .nil ?_
  refine hK5 _ _ ?_
  refine .cond rfl (fun h13 => ?_) (fun h13 => ?_)
  ·
   try simp only [sps] at h13
   refine .seq (fun K6 hK6 => ?_)
   refine .region ?_
   refine .m rfl rfl rfl (.assign rfl) ?_
   refine .nil ?_
   refine hK6 _ _ ?_
   refine .ret ?_
   -- leaf e1
   refine hret _ _ ?_
   refine ⟨_, rfl, ?_⟩
   first
   | exact rfl
   | exact absurd trivial (by assumption)
   | contradiction
  ·
   try simp only [sps] at h13
   have hsm11 := z311 (by omega)
   refine .skip ?_
   refine hK4 _ _ ?_
   refine .seq (fun K7 hK7 => ?_)
   refine .region ?_
   refine .m rfl rfl rfl (.loadM ag_29_M rfl (by assumption)) ?_
   refine .call rfl rfl rfl rfl @Try.call9 rfl (toTransformation_c) ?_
   rintro _ H16 ⟨le16, p16, rfl, v16⟩
   have nx_H16 := le16.1
   replace hle := hle.trans le16
   replace at1 := le16.2 _ _ at1
   have bs_v16 := v16
   have lv_v16 := GHeap.Le.refl H16
   replace hin := base_hin.mono hle
   clear hb1 ms1 mt1 c241 k11 hm1 hi1 hms1 his1 hmt1 hit1
   have hb1 : Tra.At _ g1 0 m p := ⟨Mem.of_get at1, hin⟩
   obtain ⟨ms1, mt1, c241, k11⟩ := hb1.get
   have hm1 : MemN _ _ _ _ _ := ⟨rfl, hb1.1⟩
   have hi1 := hb1.2
   have hms1 : MemN _ _ _ _ _ := ⟨rfl, ms1.1⟩
   have his1 := ms1.2
   have hmt1 : MemN _ _ _ _ _ := ⟨rfl, mt1.1⟩
   have hit1 := mt1.2
   have i16 := v16.inn
   refine .callQ rfl rfl rfl rfl @Try.call12 rfl (specFirstUnnatural_c) ?_
   refine .m rfl rfl rfl (.move rfl) ?_
   refine .m rfl rfl rfl (.extract rfl rfl) ?_
   refine .m rfl rfl rfl (.extract rfl rfl) ?_
   refine .m rfl rfl rfl (.assign rfl) ?_
   refine .m rfl rfl rfl (.assign rfl) ?_
   refine .nil ?_
   refine hK7 _ _ ?_
   refine .seq (fun K8 hK8 => ?_)
   refine .region ?_
   refine .m rfl rfl rfl (.loadM ag_29_M rfl (by assumption)) ?_
   refine .call rfl rfl rfl rfl @Try.call9 rfl (toTransformation_c) ?_
   rintro _ H21 ⟨le21, p21, rfl, v21⟩
   have nx_H21 := le21.1
   replace hle := hle.trans le21
   replace at1 := le21.2 _ _ at1
   replace lv_v16 := lv_v16.trans le21
   replace v16 := bs_v16.keep (.of_le lv_v16) (Nat.le_refl _)
   have bs_v21 := v21
   have lv_v21 := GHeap.Le.refl H21
   replace hin := base_hin.mono hle
   clear hb1 ms1 mt1 c241 k11 hm1 hi1 hms1 his1 hmt1 hit1
   have hb1 : Tra.At _ g1 0 m p := ⟨Mem.of_get at1, hin⟩
   obtain ⟨ms1, mt1, c241, k11⟩ := hb1.get
   have hm1 : MemN _ _ _ _ _ := ⟨rfl, hb1.1⟩
   have hi1 := hb1.2
   have hms1 : MemN _ _ _ _ _ := ⟨rfl, ms1.1⟩
   have his1 := ms1.2
   have hmt1 : MemN _ _ _ _ _ := ⟨rfl, mt1.1⟩
   have hit1 := mt1.2
   clear i16
   have i16 := v16.inn
   have i21 := v21.inn
   refine .r rfl rfl rfl (.allocR rfl ze_36_E rfl) ?_
   rintro _ H6 ⟨g6, rfl, le6, ge6, at6⟩
   have nx_H6 := le6.1
   replace hle := hle.trans le6
   replace at1 := le6.2 _ _ at1
   replace lv_v16 := lv_v16.trans le6
   replace v16 := bs_v16.keep (.of_le lv_v16) (Nat.le_refl _)
   replace lv_v21 := lv_v21.trans le6
   replace v21 := bs_v21.keep (.of_le lv_v21) (Nat.le_refl _)
   have lt_at6 := GHeap.lt_of_get at6
   replace hin := base_hin.mono hle
   clear hb1 ms1 mt1 c241 k11 hm1 hi1 hms1 his1 hmt1 hit1
   have hb1 : Tra.At _ g1 0 m p := ⟨Mem.of_get at1, hin⟩
   obtain ⟨ms1, mt1, c241, k11⟩ := hb1.get
   have hm1 : MemN _ _ _ _ _ := ⟨rfl, hb1.1⟩
   have hi1 := hb1.2
   have hms1 : MemN _ _ _ _ _ := ⟨rfl, ms1.1⟩
   have his1 := ms1.2
   have hmt1 : MemN _ _ _ _ _ := ⟨rfl, mt1.1⟩
   have hit1 := mt1.2
   clear i16
   have i16 := v16.inn
   clear i21
   have i21 := v21.inn
   refine .r0 rfl rfl (.fillR rfl sz_36_E rfl rfl rfl rfl (by assumption) (by simp)) ?_
   rintro _ H6003 ⟨rfl, st6003, at6003⟩
   have nx_H6003 := st6003.nx
   replace hle := hle.st st6003 (fun k hk => ⟨by omega, trivial⟩)
   replace at1 := st6003.same _ _ ⟨by omega, trivial⟩ at1
   replace lv_v16 := lv_v16.st st6003 (fun k hk => ⟨by omega, trivial⟩)
   replace v16 := bs_v16.keep (.of_le lv_v16) (Nat.le_refl _)
   replace lv_v21 := lv_v21.st st6003 (fun k hk => ⟨by omega, trivial⟩)
   replace v21 := bs_v21.keep (.of_le lv_v21) (Nat.le_refl _)
   have lt_at6003 := GHeap.lt_of_get at6003
   replace hin := base_hin.mono hle
   clear hb1 ms1 mt1 c241 k11 hm1 hi1 hms1 his1 hmt1 hit1
   have hb1 : Tra.At _ g1 0 m p := ⟨Mem.of_get at1, hin⟩
   obtain ⟨ms1, mt1, c241, k11⟩ := hb1.get
   have hm1 : MemN _ _ _ _ _ := ⟨rfl, hb1.1⟩
   have hi1 := hb1.2
   have hms1 : MemN _ _ _ _ _ := ⟨rfl, ms1.1⟩
   have his1 := ms1.2
   have hmt1 : MemN _ _ _ _ _ := ⟨rfl, mt1.1⟩
   have hit1 := mt1.2
   clear i16
   have i16 := v16.inn
   clear i21
   have i21 := v21.inn
   have mm6003 : MemN _ _ _ _ _ := ⟨rfl, Mem.of_get at6003⟩
   refine .nil ?_
   refine hK8 _ _ ?_
   refine .seq (fun K9 hK9 => ?_)
   refine .region ?_
   refine .m rfl rfl rfl (.loadM ag_36_E rfl (by assumption)) ?_
   refine .callQ rfl rfl rfl rfl @Try.call13 rfl (implFirstUnnatural_c) ?_
   refine .m rfl rfl rfl (.move rfl) ?_
   refine .m rfl rfl rfl (.extract rfl rfl) ?_
   refine .m rfl rfl rfl (.extract rfl rfl) ?_
   refine .m rfl rfl rfl (.assign rfl) ?_
   refine .m rfl rfl rfl (.assign rfl) ?_
   refine .nil ?_
   refine hK9 _ _ ?_
   refine .seq (fun K10 hK10 => ?_)
   refine .seq (fun K11 hK11 => ?_)
   refine .region ?_
   refine .m rfl rfl rfl (.move rfl) ?_
   refine .m rfl rfl rfl (.move rfl) ?_
   refine .m rfl rfl rfl (.cmp rfl rfl rfl) ?_
   refine .m rfl rfl rfl (.move rfl) ?_
   refine .split (fun h30 => ?_) (fun h30 => ?_)
   ·
    try simp only [sps] at h30
    refine .sg rfl rfl rfl rfl rfl ?_
    refine .sg rfl rfl rfl rfl rfl ?_
    refine .sg rfl rfl rfl rfl rfl ?_
    refine .m rfl rfl rfl (.pickT rfl rfl) ?_
    refine .nil ?_
    refine hK11 _ _ ?_
    refine .condT rfl ?_
    refine .seq (fun K12 hK12 => ?_)
    refine .region ?_
    refine .m rfl rfl rfl (.assign rfl) ?_
    refine .nil ?_
    refine hK12 _ _ ?_
    refine .ret ?_
    -- leaf e2
    refine hret _ _ ?_
    refine ⟨_, rfl, ?_⟩
    first
    | exact rfl
    | exact absurd trivial (by assumption)
    | contradiction
   ·
    try simp only [sps] at h30
    refine .mg rfl rfl rfl rfl rfl (.move rfl) ?_
    refine .mg rfl rfl rfl rfl rfl (.move rfl) ?_
    refine .mg rfl rfl rfl rfl rfl (.cmp rfl rfl rfl) ?_
    refine .m rfl rfl rfl (.pickF rfl rfl) ?_
    refine .nil ?_
    refine hK11 _ _ ?_
    refine .cond rfl (fun h34 => ?_) (fun h34 => ?_)
    ·
     try simp only [sps] at h34
     refine .seq (fun K13 hK13 => ?_)
     refine .region ?_
     refine .m rfl rfl rfl (.assign rfl) ?_
     refine .nil ?_
     refine hK13 _ _ ?_
     refine .ret ?_
     -- leaf e3
     refine hret _ _ ?_
     refine ⟨_, rfl, ?_⟩
     first
     | exact rfl
     | exact absurd trivial (by assumption)
     | contradiction
    ·
     try simp only [sps] at h34
     refine .skip ?_
     refine hK10 _ _ ?_
     refine .seq (fun K14 hK14 => ?_)
     refine .seq (fun K15 hK15 => ?_)
     refine .regionD mixed_orders_B (.q 0 (.q 1 (.c 2 1 (.c 3 0 (.q 4 (.done)))))) (by kernel_rfl) ?_
     refine .m rfl rfl rfl rfl (.refl _) (.loadM ag_36_E rfl (by assumption)) ?_
     refine .m rfl rfl rfl rfl (.refl _) (.loadM ag_29_M rfl (by assumption)) ?_
     refine .call1 rfl rfl rfl rfl rfl @Try.call9 rfl (toTransformation_c) ?_
     rintro _ H37 ⟨le37, p37, rfl, v37⟩
     refine ⟨by first | exact le37 | exact GHeap.Le.trans (by assumption) le37, ?_⟩
     have nx_H37 := le37.1
     replace hle := hle.trans le37
     replace at1 := le37.2 _ _ at1
     replace at6003 := le37.2 _ _ at6003
     replace lv_v16 := lv_v16.trans le37
     replace v16 := bs_v16.keep (.of_le lv_v16) (Nat.le_refl _)
     replace lv_v21 := lv_v21.trans le37
     replace v21 := bs_v21.keep (.of_le lv_v21) (Nat.le_refl _)
     have bs_v37 := v37
     have lv_v37 := GHeap.Le.refl H37
     replace hin := base_hin.mono hle
     clear hb1 ms1 mt1 c241 k11 hm1 hi1 hms1 his1 hmt1 hit1
     have hb1 : Tra.At _ g1 0 m p := ⟨Mem.of_get at1, hin⟩
     obtain ⟨ms1, mt1, c241, k11⟩ := hb1.get
     have hm1 : MemN _ _ _ _ _ := ⟨rfl, hb1.1⟩
     have hi1 := hb1.2
     have hms1 : MemN _ _ _ _ _ := ⟨rfl, ms1.1⟩
     have his1 := ms1.2
     have hmt1 : MemN _ _ _ _ _ := ⟨rfl, mt1.1⟩
     have hit1 := mt1.2
     clear i16
     have i16 := v16.inn
     clear i21
     have i21 := v21.inn
     clear mm6003
     have mm6003 : MemN _ _ _ _ _ := ⟨rfl, Mem.of_get at6003⟩
     have i37 := v37.inn
     refine .callQ0 rfl rfl rfl rfl rfl @Try.call11 rfl (eqTransformation_c) ?_
     refine .m rfl rfl rfl rfl (.refl _) (.not rfl) ?_
     refine .done ?_
     refine hK15 _ _ ?_
     refine .cond rfl (fun h39 => ?_) (fun h39 => ?_)
     ·
      try simp only [sps] at h39
      refine .seq (fun K16 hK16 => ?_)
      refine .region ?_
      refine .m rfl rfl rfl (.assign rfl) ?_
      refine .nil ?_
      refine hK16 _ _ ?_
      refine .ret ?_
      -- leaf e4
      refine hret _ _ ?_
      refine ⟨_, rfl, ?_⟩
      first
      | exact rfl
      | exact absurd trivial (by assumption)
      | contradiction
     ·
      try simp only [sps] at h39
      refine .skip ?_
      refine hK14 _ _ ?_
      refine .seq (fun K17 hK17 => ?_)
      refine .region ?_
      refine .m rfl rfl rfl (.assign rfl) ?_
      refine .nil ?_
      refine hK17 _ _ ?_
      refine .ret ?_
      -- leaf e5
      refine hret _ _ ?_
      refine ⟨_, rfl, ?_⟩
      first
      | exact rfl
      | exact absurd trivial (by assumption)
      | contradiction
theorem lawIsNaturalIsomorphism_c {m : Tra} {p : TraP} {H : GHeap} (hin : m.In H p) (hw : m.Wide) : GCalls Try.prog 6 [.agg (m.cells p).toArray] H (fun v _ => v = .bool true) := by
  refine GCalls.body (N := 40) (rs := [.tmp 2]) Try.func6 rfl rfl rfl rfl (fun Qx hret hend => ?_)
  refine .forget (fr' := [(0, some _)]) ⟨rfl, trivial⟩ ?_
  have hle := GHeap.Le.refl H
  have base_hin := hin
  refine .seq (fun K1 hK1 => ?_)
  refine .region ?_
  refine .r rfl rfl rfl (.boxR rfl sz_29_E rfl) ?_
  rintro _ H1 ⟨g1, rfl, le1, ge1, at1⟩
  have nx_H1 := le1.1
  replace hle := hle.trans le1
  have lt_at1 := GHeap.lt_of_get at1
  replace hin := base_hin.mono hle
  have hb1 : Tra.At _ g1 0 m p := ⟨Mem.of_get at1, hin⟩
  obtain ⟨ms1, mt1, c241, k11⟩ := hb1.get
  have hm1 : MemN _ _ _ _ _ := ⟨rfl, hb1.1⟩
  have hi1 := hb1.2
  have hms1 : MemN _ _ _ _ _ := ⟨rfl, ms1.1⟩
  have his1 := ms1.2
  have hmt1 : MemN _ _ _ _ _ := ⟨rfl, mt1.1⟩
  have hit1 := mt1.2
  refine .m rfl rfl rfl (.assign rfl) ?_
  refine .nil ?_
  refine hK1 _ _ ?_
  refine .seq (fun K2 hK2 => ?_)
  refine .region ?_
  refine .m rfl rfl rfl (.assign rfl) ?_
  refine .nil ?_
  refine hK2 _ _ ?_
  refine .seq (fun K3 hK3 => ?_)
  refine .region ?_
  refine .m rfl rfl rfl (.loadM ag_29_M rfl (by assumption)) ?_
  refine .m rfl rfl rfl (.move rfl) ?_
  refine .call rfl rfl rfl rfl @Try.call7 rfl (szTransformation_c) ?_
  rintro _ _ ⟨heq, lf11, rfl, z111, z211, z311⟩
  obtain rfl := heq.symm
  refine .m rfl rfl rfl (.assign rfl) ?_
  refine .nil ?_
  refine hK3 _ _ ?_
  refine .seq (fun K4 hK4 => ?_)
  refine .seq (fun K5 hK5 => ?_)
  refine .region ?_
  refine .m rfl rfl rfl (.move rfl) ?_
  refine .m rfl rfl rfl (.cmp rfl rfl rfl) ?_
  refine .nil ?_
  refine hK5 _ _ ?_
  refine .cond rfl (fun h13 => ?_) (fun h13 => ?_)
  ·
   try simp only [sps] at h13
   refine .seq (fun K6 hK6 => ?_)
   refine .region ?_
   refine .m rfl rfl rfl (.assign rfl) ?_
   refine .nil ?_
   refine hK6 _ _ ?_
   refine .ret ?_
   -- leaf e1
   refine hret _ _ ?_
   refine ⟨_, rfl, ?_⟩
   first
   | exact rfl
   | exact absurd trivial (by assumption)
   | contradiction
  ·
   try simp only [sps] at h13
   have hsm11 := z311 (by omega)
   refine .skip ?_
   refine hK4 _ _ ?_
   refine .seq (fun K7 hK7 => ?_)
   refine .region ?_
   refine .m rfl rfl rfl (.loadM ag_29_M rfl (by assumption)) ?_
   refine .call rfl rfl rfl rfl @Try.call9 rfl (toTransformation_c) ?_
   rintro _ H16 ⟨le16, p16, rfl, v16⟩
   have nx_H16 := le16.1
   replace hle := hle.trans le16
   replace at1 := le16.2 _ _ at1
   have bs_v16 := v16
   have lv_v16 := GHeap.Le.refl H16
   replace hin := base_hin.mono hle
   clear hb1 ms1 mt1 c241 k11 hm1 hi1 hms1 his1 hmt1 hit1
   have hb1 : Tra.At _ g1 0 m p := ⟨Mem.of_get at1, hin⟩
   obtain ⟨ms1, mt1, c241, k11⟩ := hb1.get
   have hm1 : MemN _ _ _ _ _ := ⟨rfl, hb1.1⟩
   have hi1 := hb1.2
   have hms1 : MemN _ _ _ _ _ := ⟨rfl, ms1.1⟩
   have his1 := ms1.2
   have hmt1 : MemN _ _ _ _ _ := ⟨rfl, mt1.1⟩
   have hit1 := mt1.2
   have i16 := v16.inn
   refine .callQ rfl rfl rfl rfl @Try.call19 rfl (specIsNaturalIsomorphism_c) ?_
   refine .m rfl rfl rfl (.move rfl) ?_
   refine .m rfl rfl rfl (.extract rfl rfl) ?_
   refine .m rfl rfl rfl (.extract rfl rfl) ?_
   refine .m rfl rfl rfl (.assign rfl) ?_
   refine .m rfl rfl rfl (.assign rfl) ?_
   refine .nil ?_
   refine hK7 _ _ ?_
   refine .seq (fun K8 hK8 => ?_)
   refine .region ?_
   refine .m rfl rfl rfl (.loadM ag_29_M rfl (by assumption)) ?_
   refine .call rfl rfl rfl rfl @Try.call9 rfl (toTransformation_c) ?_
   rintro _ H21 ⟨le21, p21, rfl, v21⟩
   have nx_H21 := le21.1
   replace hle := hle.trans le21
   replace at1 := le21.2 _ _ at1
   replace lv_v16 := lv_v16.trans le21
   replace v16 := bs_v16.keep (.of_le lv_v16) (Nat.le_refl _)
   have bs_v21 := v21
   have lv_v21 := GHeap.Le.refl H21
   replace hin := base_hin.mono hle
   clear hb1 ms1 mt1 c241 k11 hm1 hi1 hms1 his1 hmt1 hit1
   have hb1 : Tra.At _ g1 0 m p := ⟨Mem.of_get at1, hin⟩
   obtain ⟨ms1, mt1, c241, k11⟩ := hb1.get
   have hm1 : MemN _ _ _ _ _ := ⟨rfl, hb1.1⟩
   have hi1 := hb1.2
   have hms1 : MemN _ _ _ _ _ := ⟨rfl, ms1.1⟩
   have his1 := ms1.2
   have hmt1 : MemN _ _ _ _ _ := ⟨rfl, mt1.1⟩
   have hit1 := mt1.2
   clear i16
   have i16 := v16.inn
   have i21 := v21.inn
   refine .r rfl rfl rfl (.allocR rfl ze_36_E rfl) ?_
   rintro _ H6 ⟨g6, rfl, le6, ge6, at6⟩
   have nx_H6 := le6.1
   replace hle := hle.trans le6
   replace at1 := le6.2 _ _ at1
   replace lv_v16 := lv_v16.trans le6
   replace v16 := bs_v16.keep (.of_le lv_v16) (Nat.le_refl _)
   replace lv_v21 := lv_v21.trans le6
   replace v21 := bs_v21.keep (.of_le lv_v21) (Nat.le_refl _)
   have lt_at6 := GHeap.lt_of_get at6
   replace hin := base_hin.mono hle
   clear hb1 ms1 mt1 c241 k11 hm1 hi1 hms1 his1 hmt1 hit1
   have hb1 : Tra.At _ g1 0 m p := ⟨Mem.of_get at1, hin⟩
   obtain ⟨ms1, mt1, c241, k11⟩ := hb1.get
   have hm1 : MemN _ _ _ _ _ := ⟨rfl, hb1.1⟩
   have hi1 := hb1.2
   have hms1 : MemN _ _ _ _ _ := ⟨rfl, ms1.1⟩
   have his1 := ms1.2
   have hmt1 : MemN _ _ _ _ _ := ⟨rfl, mt1.1⟩
   have hit1 := mt1.2
   clear i16
   have i16 := v16.inn
   clear i21
   have i21 := v21.inn
   refine .r0 rfl rfl (.fillR rfl sz_36_E rfl rfl rfl rfl (by assumption) (by simp)) ?_
   rintro _ H6003 ⟨rfl, st6003, at6003⟩
   have nx_H6003 := st6003.nx
   replace hle := hle.st st6003 (fun k hk => ⟨by omega, trivial⟩)
   replace at1 := st6003.same _ _ ⟨by omega, trivial⟩ at1
   replace lv_v16 := lv_v16.st st6003 (fun k hk => ⟨by omega, trivial⟩)
   replace v16 := bs_v16.keep (.of_le lv_v16) (Nat.le_refl _)
   replace lv_v21 := lv_v21.st st6003 (fun k hk => ⟨by omega, trivial⟩)
   replace v21 := bs_v21.keep (.of_le lv_v21) (Nat.le_refl _)
   have lt_at6003 := GHeap.lt_of_get at6003
   replace hin := base_hin.mono hle
   clear hb1 ms1 mt1 c241 k11 hm1 hi1 hms1 his1 hmt1 hit1
   have hb1 : Tra.At _ g1 0 m p := ⟨Mem.of_get at1, hin⟩
   obtain ⟨ms1, mt1, c241, k11⟩ := hb1.get
   have hm1 : MemN _ _ _ _ _ := ⟨rfl, hb1.1⟩
   have hi1 := hb1.2
   have hms1 : MemN _ _ _ _ _ := ⟨rfl, ms1.1⟩
   have his1 := ms1.2
   have hmt1 : MemN _ _ _ _ _ := ⟨rfl, mt1.1⟩
   have hit1 := mt1.2
   clear i16
   have i16 := v16.inn
   clear i21
   have i21 := v21.inn
   have mm6003 : MemN _ _ _ _ _ := ⟨rfl, Mem.of_get at6003⟩
   refine .nil ?_
   refine hK8 _ _ ?_
   refine .seq (fun K9 hK9 => ?_)
   refine .region ?_
   refine .m rfl rfl rfl (.loadM ag_36_E rfl (by assumption)) ?_
   refine .callQ rfl rfl rfl rfl @Try.call20 rfl (implIsNaturalIsomorphism_c) ?_
   refine .m rfl rfl rfl (.move rfl) ?_
   refine .m rfl rfl rfl (.extract rfl rfl) ?_
   refine .m rfl rfl rfl (.extract rfl rfl) ?_
   refine .m rfl rfl rfl (.assign rfl) ?_
   refine .m rfl rfl rfl (.assign rfl) ?_
   refine .nil ?_
   refine hK9 _ _ ?_
   refine .seq (fun K10 hK10 => ?_)
   refine .seq (fun K11 hK11 => ?_)
   refine .region ?_
   refine .m rfl rfl rfl (.move rfl) ?_
   refine .m rfl rfl rfl (.move rfl) ?_
   refine .m rfl rfl rfl (.boolNe bo_4_M rfl rfl) ?_
   refine .m rfl rfl rfl (.move rfl) ?_
   refine .split (fun h30 => ?_) (fun h30 => ?_)
   ·
    try simp only [sps] at h30
    refine .sg rfl rfl rfl rfl rfl ?_
    refine .sg rfl rfl rfl rfl rfl ?_
    refine .sg rfl rfl rfl rfl rfl ?_
    refine .m rfl rfl rfl (.pickT rfl rfl) ?_
    refine .nil ?_
    refine hK11 _ _ ?_
    refine .condT rfl ?_
    refine .seq (fun K12 hK12 => ?_)
    refine .region ?_
    refine .m rfl rfl rfl (.assign rfl) ?_
    refine .nil ?_
    refine hK12 _ _ ?_
    refine .ret ?_
    -- leaf e2
    refine hret _ _ ?_
    refine ⟨_, rfl, ?_⟩
    first
    | exact rfl
    | exact absurd trivial (by assumption)
    | contradiction
   ·
    try simp only [sps] at h30
    refine .mg rfl rfl rfl rfl rfl (.move rfl) ?_
    refine .mg rfl rfl rfl rfl rfl (.move rfl) ?_
    refine .mg rfl rfl rfl rfl rfl (.cmp rfl rfl rfl) ?_
    refine .m rfl rfl rfl (.pickF rfl rfl) ?_
    refine .nil ?_
    refine hK11 _ _ ?_
    refine .cond rfl (fun h34 => ?_) (fun h34 => ?_)
    ·
     try simp only [sps] at h34
     refine .seq (fun K13 hK13 => ?_)
     refine .region ?_
     refine .m rfl rfl rfl (.assign rfl) ?_
     refine .nil ?_
     refine hK13 _ _ ?_
     refine .ret ?_
     -- leaf e3
     refine hret _ _ ?_
     refine ⟨_, rfl, ?_⟩
     first
     | exact rfl
     | exact absurd trivial (by assumption)
     | contradiction
    ·
     try simp only [sps] at h34
     refine .skip ?_
     refine hK10 _ _ ?_
     refine .seq (fun K14 hK14 => ?_)
     refine .seq (fun K15 hK15 => ?_)
     refine .regionD mixed_orders_B (.q 0 (.q 1 (.c 2 1 (.c 3 0 (.q 4 (.done)))))) (by kernel_rfl) ?_
     refine .m rfl rfl rfl rfl (.refl _) (.loadM ag_36_E rfl (by assumption)) ?_
     refine .m rfl rfl rfl rfl (.refl _) (.loadM ag_29_M rfl (by assumption)) ?_
     refine .call1 rfl rfl rfl rfl rfl @Try.call9 rfl (toTransformation_c) ?_
     rintro _ H37 ⟨le37, p37, rfl, v37⟩
     refine ⟨by first | exact le37 | exact GHeap.Le.trans (by assumption) le37, ?_⟩
     have nx_H37 := le37.1
     replace hle := hle.trans le37
     replace at1 := le37.2 _ _ at1
     replace at6003 := le37.2 _ _ at6003
     replace lv_v16 := lv_v16.trans le37
     replace v16 := bs_v16.keep (.of_le lv_v16) (Nat.le_refl _)
     replace lv_v21 := lv_v21.trans le37
     replace v21 := bs_v21.keep (.of_le lv_v21) (Nat.le_refl _)
     have bs_v37 := v37
     have lv_v37 := GHeap.Le.refl H37
     replace hin := base_hin.mono hle
     clear hb1 ms1 mt1 c241 k11 hm1 hi1 hms1 his1 hmt1 hit1
     have hb1 : Tra.At _ g1 0 m p := ⟨Mem.of_get at1, hin⟩
     obtain ⟨ms1, mt1, c241, k11⟩ := hb1.get
     have hm1 : MemN _ _ _ _ _ := ⟨rfl, hb1.1⟩
     have hi1 := hb1.2
     have hms1 : MemN _ _ _ _ _ := ⟨rfl, ms1.1⟩
     have his1 := ms1.2
     have hmt1 : MemN _ _ _ _ _ := ⟨rfl, mt1.1⟩
     have hit1 := mt1.2
     clear i16
     have i16 := v16.inn
     clear i21
     have i21 := v21.inn
     clear mm6003
     have mm6003 : MemN _ _ _ _ _ := ⟨rfl, Mem.of_get at6003⟩
     have i37 := v37.inn
     refine .callQ0 rfl rfl rfl rfl rfl @Try.call11 rfl (eqTransformation_c) ?_
     refine .m rfl rfl rfl rfl (.refl _) (.not rfl) ?_
     refine .done ?_
     refine hK15 _ _ ?_
     refine .cond rfl (fun h39 => ?_) (fun h39 => ?_)
     ·
      try simp only [sps] at h39
      refine .seq (fun K16 hK16 => ?_)
      refine .region ?_
      refine .m rfl rfl rfl (.assign rfl) ?_
      refine .nil ?_
      refine hK16 _ _ ?_
      refine .ret ?_
      -- leaf e4
      refine hret _ _ ?_
      refine ⟨_, rfl, ?_⟩
      first
      | exact rfl
      | exact absurd trivial (by assumption)
      | contradiction
     ·
      try simp only [sps] at h39
      refine .skip ?_
      refine hK14 _ _ ?_
      refine .seq (fun K17 hK17 => ?_)
      refine .region ?_
      refine .m rfl rfl rfl (.assign rfl) ?_
      refine .nil ?_
      refine hK17 _ _ ?_
      refine .ret ?_
      -- leaf e5
      refine hret _ _ ?_
      refine ⟨_, rfl, ?_⟩
      first
      | exact rfl
      | exact absurd trivial (by assumption)
      | contradiction
end Go.Proofs.Ytcnopbgnadkikaa
