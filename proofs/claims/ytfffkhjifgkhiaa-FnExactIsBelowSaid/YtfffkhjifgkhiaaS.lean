/- Parts of set functors. No condition but those of each statement. -/
import Derived.Test.YtfffkhjifgkhiaaQ
import Derived.Test.YtfffkhjifgkhiaaN
import Derived.Test.YtfffkhjifgkhiaaVPrt
import Derived.Test.YtfffkhjifgkhiaaGlY
namespace Go.Proofs.Ytfffkhjifgkhiaa
open Go Go.GL Go.RowKit Go.Proofs
theorem ag_44_S : aggT Try.prog 44 = some 15 := by kernel_rfl
theorem bo_4_S : isBoolT Try.prog 4 = true := by kernel_rfl
theorem sl_69_S : sliceT Try.prog 69 = some (38, 1) := by kernel_rfl
theorem ag_29_S : aggT Try.prog 29 = some 1 := by kernel_rfl
theorem l19IsMap_c {m : SMap} {p : SMapP} {H : GHeap} (hin : m.In H p := by assumption) (hs : m.Small := by assumption) :
    GCalls Try.prog 31 [.agg (m.cells p).toArray] H (Ret (.bool (B m.Is)) H) := by
  refine GCalls.ret rfl ?_
  have hs1 := hs
  obtain ⟨w1, w2, _⟩ := hs1
  refine GCalls.body (N := 33) (rs := [.tmp 2]) Try.func31 rfl rfl rfl rfl (fun Qx hret hend => ?_)
  refine .forget (fr' := [(0, some _)]) ⟨rfl, trivial⟩ ?_
  have hle := GHeap.Le.refl H
  have base_hin := hin
  refine .seq (fun K1 hK1 => ?_)
  refine .region ?_
  refine .r rfl rfl rfl (.boxR rfl sz_48_VSMap rfl) ?_
  rintro _ H1 ⟨g1, rfl, le1, ge1, at1⟩
  have nx_H1 := le1.1
  replace hle := hle.trans le1
  have lt_at1 := GHeap.lt_of_get at1
  replace hin := base_hin.mono hle
  have hb1 : SMap.At _ g1 0 m p := ⟨Mem.of_get at1, hin⟩
  obtain ⟨fs1, ft1, c141, i21⟩ := hb1.get
  have hm1 : MemN _ _ _ _ _ := ⟨rfl, hb1.1⟩
  have hi1 := hb1.2
  have hms1 : MemN _ _ _ _ _ := ⟨rfl, fs1.1⟩
  have his1 := fs1.2
  have hmt1 : MemN _ _ _ _ _ := ⟨rfl, ft1.1⟩
  have hit1 := ft1.2
  refine .m rfl rfl rfl (.assign rfl) ?_
  refine .nil ?_
  refine hK1 _ _ ?_
  refine .seq (fun K2 hK2 => ?_)
  refine .seq (fun K3 hK3 => ?_)
  refine .region ?_
  refine .m rfl rfl rfl (.fieldAddr fo_48_0_VSMap rfl) ?_
  refine .m rfl rfl rfl (.loadM ag_36_VSFun rfl (by assumption)) ?_
  refine .m rfl rfl rfl (.fieldAddr fo_48_1_VSMap rfl) ?_
  refine .m rfl rfl rfl (.loadM ag_36_VSFun rfl (by assumption)) ?_
  refine .callQ rfl rfl rfl rfl @Try.call39 rfl (l19Between_c) ?_
  refine .m rfl rfl rfl (.not rfl) ?_
  refine .m rfl rfl rfl (.move rfl) ?_
  refine .split (fun h11 => ?_) (fun h11 => ?_)
  ·
   try simp only [sps] at h11
   refine .sg rfl rfl rfl rfl rfl ?_
   refine .sg rfl rfl rfl rfl rfl ?_
   refine .sg rfl rfl rfl rfl rfl ?_
   refine .sg rfl rfl rfl rfl rfl ?_
   refine .sg rfl rfl rfl rfl rfl ?_
   refine .sg rfl rfl rfl rfl rfl ?_
   refine .sg rfl rfl rfl rfl rfl ?_
   refine .sg rfl rfl rfl rfl rfl ?_
   refine .m rfl rfl rfl (.pickT rfl rfl) ?_
   refine .nil ?_
   refine hK3 _ _ ?_
   refine .condT rfl ?_
   refine .seq (fun K4 hK4 => ?_)
   refine .region ?_
   refine .m rfl rfl rfl (.assign rfl) ?_
   refine .nil ?_
   refine hK4 _ _ ?_
   refine .ret ?_
   -- leaf e1
   refine hret _ _ ?_
   refine ⟨_, rfl, ?_⟩
   first
   | exact ⟨congrArg _ (by rw [Bool.eq_iff_iff, B_iff, decide_eq_true_eq]; exact ⟨fun hh => first2_neg.2 hh.2, fun hh => ⟨hM, first2_neg.1 hh⟩⟩), hle⟩
   | exact ⟨congrArg _ (B_false fun hh => absurd hh.1.fits (by assumption)), hle⟩
   | exact ⟨congrArg _ (B_false fun hh => h11 ⟨hh.1.s, hh.1.t, hh.1.sh⟩), hle⟩
  ·
   simp only [sps] at h11
   have hS := h11.1.1
   have hT := h11.2.1.1
   have hsh := h11.2.2
   refine .mg rfl rfl rfl rfl rfl (.fieldAddr fo_48_0_VSMap rfl) ?_
   refine .mg rfl rfl rfl rfl rfl (.loadM ag_36_VSFun rfl (by assumption)) ?_
   refine .mg rfl rfl rfl rfl rfl (.fieldAddr fo_48_1_VSMap rfl) ?_
   refine .mg rfl rfl rfl rfl rfl (.loadM ag_36_VSFun rfl (by assumption)) ?_
   refine .mg rfl rfl rfl rfl rfl (.fieldAddr fo_48_2_VSMap rfl) ?_
   refine .mg rfl rfl rfl rfl rfl (.load on_23_B rfl (by assumption)) ?_
   refine .callQg rfl rfl rfl rfl rfl rfl @Try.call40 rfl (l19Parts_c) ?_
   refine .mg rfl rfl rfl rfl rfl (.not rfl) ?_
   refine .m rfl rfl rfl (.pickF rfl rfl) ?_
   refine .nil ?_
   refine hK3 _ _ ?_
   refine .cond rfl (fun h20 => ?_) (fun h20 => ?_)
   ·
    try simp only [sps] at h20
    refine .seq (fun K5 hK5 => ?_)
    refine .region ?_
    refine .m rfl rfl rfl (.assign rfl) ?_
    refine .nil ?_
    refine hK5 _ _ ?_
    refine .ret ?_
    -- leaf e2
    refine hret _ _ ?_
    refine ⟨_, rfl, ?_⟩
    first
    | exact ⟨congrArg _ (by rw [Bool.eq_iff_iff, B_iff, decide_eq_true_eq]; exact ⟨fun hh => first2_neg.2 hh.2, fun hh => ⟨hM, first2_neg.1 hh⟩⟩), hle⟩
    | exact ⟨congrArg _ (B_false fun hh => absurd hh.1.fits (by assumption)), hle⟩
    | exact ⟨congrArg _ (B_false fun hh => h11 ⟨hh.1.s, hh.1.t, hh.1.sh⟩), hle⟩
   ·
    simp only [sps] at h20
    have hM : m.Shape := ⟨h11.1, h11.2.1, h11.2.2, h20⟩
    refine .skip ?_
    refine hK2 _ _ ?_
    refine .seq (fun K6 hK6 => ?_)
    refine .region ?_
    refine .m rfl rfl rfl (.fieldAddr fo_48_0_VSMap rfl) ?_
    refine .m rfl rfl rfl (.loadM ag_36_VSFun rfl (by assumption)) ?_
    refine .m rfl rfl rfl (.fieldAddr fo_48_1_VSMap rfl) ?_
    refine .m rfl rfl rfl (.loadM ag_36_VSFun rfl (by assumption)) ?_
    refine .m rfl rfl rfl (.fieldAddr fo_48_2_VSMap rfl) ?_
    refine .m rfl rfl rfl (.load on_23_B rfl (by assumption)) ?_
    refine .callQ rfl rfl rfl rfl @Try.call41 rfl (l19Unnatural_c) ?_
    refine .m rfl rfl rfl (.move rfl) ?_
    refine .m rfl rfl rfl (.extract rfl rfl) ?_
    refine .m rfl rfl rfl (.extract rfl rfl) ?_
    refine .m rfl rfl rfl (.assign rfl) ?_
    refine .m rfl rfl rfl (.assign rfl) ?_
    refine .nil ?_
    refine hK6 _ _ ?_
    refine .seq (fun K7 hK7 => ?_)
    refine .region ?_
    refine .m rfl rfl rfl (.move rfl) ?_
    refine .m rfl rfl rfl (.cmp rfl rfl rfl) ?_
    refine .m rfl rfl rfl (.assign rfl) ?_
    refine .nil ?_
    refine hK7 _ _ ?_
    refine .ret ?_
    -- leaf e3
    refine hret _ _ ?_
    refine ⟨_, rfl, ?_⟩
    first
    | exact ⟨congrArg _ (by rw [Bool.eq_iff_iff, B_iff, decide_eq_true_eq]; exact ⟨fun hh => first2_neg.2 hh.2, fun hh => ⟨hM, first2_neg.1 hh⟩⟩), hle⟩
    | exact ⟨congrArg _ (B_false fun hh => absurd hh.1.fits (by assumption)), hle⟩
    | exact ⟨congrArg _ (B_false fun hh => h11 ⟨hh.1.s, hh.1.t, hh.1.sh⟩), hle⟩
theorem specIsSetMap_c {m : SMap} {p : SMapP} {H : GHeap} (hin : m.In H p := by assumption) (hs : m.Small := by assumption) :
    GCalls Try.prog 14 [.agg (m.cells p).toArray] H (Ret (.bool (B m.Is)) H) := by
  refine GCalls.ret rfl ?_
  refine GCalls.body (N := 5) (rs := [.tmp 2]) Try.func14 rfl rfl rfl rfl (fun Qx hret hend => ?_)
  refine .forget (fr' := [(0, some _)]) ⟨rfl, trivial⟩ ?_
  have hle := GHeap.Le.refl H
  have base_hin := hin
  refine .seq (fun K1 hK1 => ?_)
  refine .region ?_
  refine .r rfl rfl rfl (.boxR rfl sz_48_VSMap rfl) ?_
  rintro _ H1 ⟨g1, rfl, le1, ge1, at1⟩
  have nx_H1 := le1.1
  replace hle := hle.trans le1
  have lt_at1 := GHeap.lt_of_get at1
  replace hin := base_hin.mono hle
  have hb1 : SMap.At _ g1 0 m p := ⟨Mem.of_get at1, hin⟩
  obtain ⟨fs1, ft1, c141, i21⟩ := hb1.get
  have hm1 : MemN _ _ _ _ _ := ⟨rfl, hb1.1⟩
  have hi1 := hb1.2
  have hms1 : MemN _ _ _ _ _ := ⟨rfl, fs1.1⟩
  have his1 := fs1.2
  have hmt1 : MemN _ _ _ _ _ := ⟨rfl, ft1.1⟩
  have hit1 := ft1.2
  refine .m rfl rfl rfl (.assign rfl) ?_
  refine .nil ?_
  refine hK1 _ _ ?_
  refine .seq (fun K2 hK2 => ?_)
  refine .region ?_
  refine .m rfl rfl rfl (.loadM ag_48_VSMap rfl ⟨rfl, Mem.of_get at1⟩) ?_
  refine .callQ rfl rfl rfl rfl @Try.call31 rfl (l19IsMap_c) ?_
  refine .m rfl rfl rfl (.assign rfl) ?_
  refine .nil ?_
  refine hK2 _ _ ?_
  refine .ret ?_
  -- leaf e1
  refine hret _ _ ?_
  refine ⟨_, rfl, ?_⟩
  exact ⟨rfl, hle⟩
theorem lawIsSetMap_c {m : SMap} {p : SMapP} {H : GHeap} (hin : m.In H p) (hw : m.Wide) : GCalls Try.prog 4 [.agg (m.cells p).toArray] H (fun v _ => v = .bool true) := by
  refine GCalls.body (N := 27) (rs := [.tmp 2]) Try.func4 rfl rfl rfl rfl (fun Qx hret hend => ?_)
  refine .forget (fr' := [(0, some _)]) ⟨rfl, trivial⟩ ?_
  have hle := GHeap.Le.refl H
  have base_hin := hin
  refine .seq (fun K1 hK1 => ?_)
  refine .region ?_
  refine .r rfl rfl rfl (.boxR rfl sz_44_VSMap rfl) ?_
  rintro _ H1 ⟨g1, rfl, le1, ge1, at1⟩
  have nx_H1 := le1.1
  replace hle := hle.trans le1
  have lt_at1 := GHeap.lt_of_get at1
  replace hin := base_hin.mono hle
  have hb1 : SMap.At _ g1 0 m p := ⟨Mem.of_get at1, hin⟩
  obtain ⟨fs1, ft1, c141, i21⟩ := hb1.get
  have hm1 : MemN _ _ _ _ _ := ⟨rfl, hb1.1⟩
  have hi1 := hb1.2
  have hms1 : MemN _ _ _ _ _ := ⟨rfl, fs1.1⟩
  have his1 := fs1.2
  have hmt1 : MemN _ _ _ _ _ := ⟨rfl, ft1.1⟩
  have hit1 := ft1.2
  refine .m rfl rfl rfl (.assign rfl) ?_
  refine .nil ?_
  refine hK1 _ _ ?_
  refine .seq (fun K2 hK2 => ?_)
  refine .region ?_
  refine .m rfl rfl rfl (.assign rfl) ?_
  refine .nil ?_
  refine hK2 _ _ ?_
  refine .seq (fun K3 hK3 => ?_)
  refine .region ?_
  refine .m rfl rfl rfl (.loadM ag_44_S rfl ⟨rfl, Mem.of_get at1⟩) ?_
  refine .m rfl rfl rfl (.move rfl) ?_
  refine .call rfl rfl rfl rfl @Try.call13 rfl (szSetMap_c) ?_
  rintro _ _ ⟨heq, lf9, rfl, z19, z29, z39⟩
  obtain rfl := heq.symm
  refine .m rfl rfl rfl (.assign rfl) ?_
  refine .nil ?_
  refine hK3 _ _ ?_
  refine .seq (fun K4 hK4 => ?_)
  refine .seq (fun K5 hK5 => ?_)
  refine .region ?_
  refine .m rfl rfl rfl (.move rfl) ?_
  refine .m rfl rfl rfl (.cmp rfl rfl rfl) ?_
  refine .nil ?_
  refine hK5 _ _ ?_
  refine .cond rfl (fun h11 => ?_) (fun h11 => ?_)
  ·
   try simp only [sps] at h11
   refine .seq (fun K6 hK6 => ?_)
   refine .region ?_
   refine .m rfl rfl rfl (.assign rfl) ?_
   refine .nil ?_
   refine hK6 _ _ ?_
   refine .ret ?_
   -- leaf e1
   refine hret _ _ ?_
   refine ⟨_, rfl, ?_⟩
   first
   | exact rfl
   | exact absurd trivial (by assumption)
   | contradiction
  ·
   try simp only [sps] at h11
   have hsm9 := z39 (by omega)
   refine .skip ?_
   refine hK4 _ _ ?_
   refine .seq (fun K7 hK7 => ?_)
   refine .region ?_
   refine .m rfl rfl rfl (.loadM ag_44_S rfl ⟨rfl, Mem.of_get at1⟩) ?_
   refine .call rfl rfl rfl rfl @Try.call15 rfl (toSetMap_c) ?_
   rintro _ H13 ⟨le13, p13, rfl, v13⟩
   have nx_H13 := le13.1
   replace hle := hle.trans le13
   replace at1 := le13.2 _ _ at1
   have bs_v13 := v13
   have lv_v13 : Keep H1.next H13 H13 := fun _ _ _ h => h
   replace hin := base_hin.mono hle
   clear hb1 fs1 ft1 c141 i21 hm1 hi1 hms1 his1 hmt1 hit1
   have hb1 : SMap.At _ g1 0 m p := ⟨Mem.of_get at1, hin⟩
   obtain ⟨fs1, ft1, c141, i21⟩ := hb1.get
   have hm1 : MemN _ _ _ _ _ := ⟨rfl, hb1.1⟩
   have hi1 := hb1.2
   have hms1 : MemN _ _ _ _ _ := ⟨rfl, fs1.1⟩
   have his1 := fs1.2
   have hmt1 : MemN _ _ _ _ _ := ⟨rfl, ft1.1⟩
   have hit1 := ft1.2
   have i13 := v13.inn
   refine .callQ rfl rfl rfl rfl @Try.call14 rfl (specIsSetMap_c) ?_
   refine .m rfl rfl rfl (.assign rfl) ?_
   refine .nil ?_
   refine hK7 _ _ ?_
   refine .seq (fun K8 hK8 => ?_)
   refine .region ?_
   refine .m rfl rfl rfl (.loadM ag_44_S rfl ⟨rfl, Mem.of_get at1⟩) ?_
   refine .call rfl rfl rfl rfl @Try.call15 rfl (toSetMap_c) ?_
   rintro _ H16 ⟨le16, p16, rfl, v16⟩
   have nx_H16 := le16.1
   replace hle := hle.trans le16
   replace at1 := le16.2 _ _ at1
   replace lv_v13 := Keep.le lv_v13 le16
   replace v13 := bs_v13.keep lv_v13 (Nat.le_refl _)
   have bs_v16 := v16
   have lv_v16 : Keep H13.next H16 H16 := fun _ _ _ h => h
   replace hin := base_hin.mono hle
   clear hb1 fs1 ft1 c141 i21 hm1 hi1 hms1 his1 hmt1 hit1
   have hb1 : SMap.At _ g1 0 m p := ⟨Mem.of_get at1, hin⟩
   obtain ⟨fs1, ft1, c141, i21⟩ := hb1.get
   have hm1 : MemN _ _ _ _ _ := ⟨rfl, hb1.1⟩
   have hi1 := hb1.2
   have hms1 : MemN _ _ _ _ _ := ⟨rfl, fs1.1⟩
   have his1 := fs1.2
   have hmt1 : MemN _ _ _ _ _ := ⟨rfl, ft1.1⟩
   have hit1 := ft1.2
   clear i13
   have i13 := v13.inn
   have i16 := v16.inn
   refine .r rfl rfl rfl (.allocR rfl ze_48_VSMap rfl) ?_
   rintro _ H5 ⟨g5, rfl, le5, ge5, at5⟩
   have nx_H5 := le5.1
   replace hle := hle.trans le5
   replace at1 := le5.2 _ _ at1
   replace lv_v13 := Keep.le lv_v13 le5
   replace v13 := bs_v13.keep lv_v13 (Nat.le_refl _)
   replace lv_v16 := Keep.le lv_v16 le5
   replace v16 := bs_v16.keep lv_v16 (Nat.le_refl _)
   have lt_at5 := GHeap.lt_of_get at5
   replace hin := base_hin.mono hle
   clear hb1 fs1 ft1 c141 i21 hm1 hi1 hms1 his1 hmt1 hit1
   have hb1 : SMap.At _ g1 0 m p := ⟨Mem.of_get at1, hin⟩
   obtain ⟨fs1, ft1, c141, i21⟩ := hb1.get
   have hm1 : MemN _ _ _ _ _ := ⟨rfl, hb1.1⟩
   have hi1 := hb1.2
   have hms1 : MemN _ _ _ _ _ := ⟨rfl, fs1.1⟩
   have his1 := fs1.2
   have hmt1 : MemN _ _ _ _ _ := ⟨rfl, ft1.1⟩
   have hit1 := ft1.2
   clear i13
   have i13 := v13.inn
   clear i16
   have i16 := v16.inn
   refine .r0 rfl rfl (.fillR rfl sz_48_VSMap rfl rfl rfl rfl (by assumption) (by first | rfl | exact Nat.le_of_ble_eq_true rfl | simp)) ?_
   rintro _ H6003 ⟨rfl, st6003, at6003⟩
   have nx_H6003 := st6003.nx
   replace hle := hle.st st6003 (fun k hk => ⟨by omega, trivial⟩)
   replace at1 := st6003.same _ _ ⟨by omega, trivial⟩ at1
   replace lv_v13 := Keep.st lv_v13 st6003 (fun k hb hk => ⟨by omega, trivial⟩)
   replace v13 := bs_v13.keep lv_v13 (Nat.le_refl _)
   replace lv_v16 := Keep.st lv_v16 st6003 (fun k hb hk => ⟨by omega, trivial⟩)
   replace v16 := bs_v16.keep lv_v16 (Nat.le_refl _)
   have lt_at6003 := GHeap.lt_of_get at6003
   replace hin := base_hin.mono hle
   clear hb1 fs1 ft1 c141 i21 hm1 hi1 hms1 his1 hmt1 hit1
   have hb1 : SMap.At _ g1 0 m p := ⟨Mem.of_get at1, hin⟩
   obtain ⟨fs1, ft1, c141, i21⟩ := hb1.get
   have hm1 : MemN _ _ _ _ _ := ⟨rfl, hb1.1⟩
   have hi1 := hb1.2
   have hms1 : MemN _ _ _ _ _ := ⟨rfl, fs1.1⟩
   have his1 := fs1.2
   have hmt1 : MemN _ _ _ _ _ := ⟨rfl, ft1.1⟩
   have hit1 := ft1.2
   clear i13
   have i13 := v13.inn
   clear i16
   have i16 := v16.inn
   have mm6003 : MemN _ _ _ _ _ := ⟨rfl, Mem.of_get at6003⟩
   refine .nil ?_
   refine hK8 _ _ ?_
   refine .seq (fun K9 hK9 => ?_)
   refine .region ?_
   refine .m rfl rfl rfl (.loadM ag_48_VSMap rfl ⟨rfl, Mem.of_get at6003⟩) ?_
   refine .callQ rfl rfl rfl rfl @Try.call16 rfl (implIsSetMap_c) ?_
   refine .m rfl rfl rfl (.assign rfl) ?_
   refine .nil ?_
   refine hK9 _ _ ?_
   refine .seq (fun K10 hK10 => ?_)
   refine .seq (fun K11 hK11 => ?_)
   refine .region ?_
   refine .m rfl rfl rfl (.move rfl) ?_
   refine .m rfl rfl rfl (.move rfl) ?_
   refine .m rfl rfl rfl (.boolNe bo_4_S rfl rfl) ?_
   refine .nil ?_
   refine hK11 _ _ ?_
   refine .cond rfl (fun h21 => ?_) (fun h21 => ?_)
   ·
    try simp only [sps] at h21
    refine .seq (fun K12 hK12 => ?_)
    refine .region ?_
    refine .m rfl rfl rfl (.assign rfl) ?_
    refine .nil ?_
    refine hK12 _ _ ?_
    refine .ret ?_
    -- leaf e2
    refine hret _ _ ?_
    refine ⟨_, rfl, ?_⟩
    first
    | exact rfl
    | exact absurd trivial (by assumption)
    | contradiction
   ·
    try simp only [sps] at h21
    refine .skip ?_
    refine hK10 _ _ ?_
    refine .seq (fun K13 hK13 => ?_)
    refine .seq (fun K14 hK14 => ?_)
    refine .regionD mixed_orders_B (.q 0 (.q 1 (.c 2 1 (.c 3 0 (.q 4 (.done)))))) (by kernel_rfl) ?_
    refine .m rfl rfl rfl rfl (.refl _) (.loadM ag_48_VSMap rfl ⟨rfl, Mem.of_get at6003⟩) ?_
    refine .m rfl rfl rfl rfl (.refl _) (.loadM ag_44_S rfl ⟨rfl, Mem.of_get at1⟩) ?_
    refine .call1 rfl rfl rfl rfl rfl @Try.call15 rfl (toSetMap_c) ?_
    rintro _ H24 ⟨le24, p24, rfl, v24⟩
    have hbl := le24
    refine ⟨hbl, ?_⟩
    have nx_H24 := le24.1
    replace hle := hle.trans le24
    replace at1 := le24.2 _ _ at1
    replace at6003 := le24.2 _ _ at6003
    replace lv_v13 := Keep.le lv_v13 le24
    replace v13 := bs_v13.keep lv_v13 (Nat.le_refl _)
    replace lv_v16 := Keep.le lv_v16 le24
    replace v16 := bs_v16.keep lv_v16 (Nat.le_refl _)
    have bs_v24 := v24
    have lv_v24 : Keep H6003.next H24 H24 := fun _ _ _ h => h
    replace hin := base_hin.mono hle
    clear hb1 fs1 ft1 c141 i21 hm1 hi1 hms1 his1 hmt1 hit1
    have hb1 : SMap.At _ g1 0 m p := ⟨Mem.of_get at1, hin⟩
    obtain ⟨fs1, ft1, c141, i21⟩ := hb1.get
    have hm1 : MemN _ _ _ _ _ := ⟨rfl, hb1.1⟩
    have hi1 := hb1.2
    have hms1 : MemN _ _ _ _ _ := ⟨rfl, fs1.1⟩
    have his1 := fs1.2
    have hmt1 : MemN _ _ _ _ _ := ⟨rfl, ft1.1⟩
    have hit1 := ft1.2
    clear i13
    have i13 := v13.inn
    clear i16
    have i16 := v16.inn
    clear mm6003
    have mm6003 : MemN _ _ _ _ _ := ⟨rfl, Mem.of_get at6003⟩
    have i24 := v24.inn
    refine .callQ0 rfl rfl rfl rfl rfl @Try.call17 rfl (eqSetMap_c) ?_
    refine .m rfl rfl rfl rfl (.refl _) (.not rfl) ?_
    refine .done ?_
    refine hK14 _ _ ?_
    refine .cond rfl (fun h26 => ?_) (fun h26 => ?_)
    ·
     try simp only [sps] at h26
     refine .seq (fun K15 hK15 => ?_)
     refine .region ?_
     refine .m rfl rfl rfl (.assign rfl) ?_
     refine .nil ?_
     refine hK15 _ _ ?_
     refine .ret ?_
     -- leaf e3
     refine hret _ _ ?_
     refine ⟨_, rfl, ?_⟩
     first
     | exact rfl
     | exact absurd trivial (by assumption)
     | contradiction
    ·
     try simp only [sps] at h26
     refine .skip ?_
     refine hK13 _ _ ?_
     refine .seq (fun K16 hK16 => ?_)
     refine .region ?_
     refine .m rfl rfl rfl (.assign rfl) ?_
     refine .nil ?_
     refine hK16 _ _ ?_
     refine .ret ?_
     -- leaf e4
     refine hret _ _ ?_
     refine ⟨_, rfl, ?_⟩
     first
     | exact rfl
     | exact absurd trivial (by assumption)
     | contradiction
theorem rising_c {a : Option Addr} {xs : List Int} {H : GHeap} (h : Ints H a xs := by assumption) (hl : xs.length ≤ 1048576 := by omega) :
    GCalls Try.prog 49 [.slice a xs.length xs.length] H (Ret (.bool (B (Rising xs))) H) := by
  refine GCalls.body (N := 20) (rs := [.tmp 2]) Try.func49 rfl rfl rfl rfl (fun Qx hret hend => ?_)
  refine .forget (fr' := [(0, some _)]) ⟨rfl, trivial⟩ ?_
  refine .seq (fun K1 hK1 => ?_)
  refine .region ?_
  refine .m rfl rfl rfl (.assign rfl) ?_
  refine .nil ?_
  refine hK1 _ _ ?_
  refine .seq (fun K2 hK2 => ?_)
  refine .seq (fun K3 hK3 => ?_)
  refine .region ?_
  refine .m rfl rfl rfl (.assign rfl) ?_
  refine .nil ?_
  refine hK3 _ _ ?_
  refine .block ?_
  refine .loopR (σ := Nat) [(0, some _)] (fun k => [(3, some (.int .i64 (k : Int)))]) (fun k H' => H = H' ∧ 1 ≤ k ∧ k ≤ xs.length + 1 ∧ ∀ i, 1 ≤ i → i < k → i < xs.length → xs.getD (i - 1) 0 < xs.getD i 0) (fun k => xs.length + 1 - k) (1) ⟨rfl, trivial⟩ ⟨rfl, trivial⟩ ?_ ?_
  ·
   refine ⟨rfl, ?_⟩
   exact ⟨by omega, by omega, fun _ _ _ => by omega⟩
  ·
   rintro k _ ⟨rfl, hI⟩ KL1 hKL1
   refine .forget (fr' := [(3, some (.int .i64 (k : Int))), (0, some _)]) ⟨rfl, rfl, trivial⟩ ?_
   obtain ⟨hk0, hk, ha⟩ := hI
   have ek : ((k : Int) - 1).toNat = k - 1 := by omega
   refine .seq (fun K4 hK4 => ?_)
   refine .seq (fun K5 hK5 => ?_)
   refine .region ?_
   refine .m rfl rfl rfl (.move rfl) ?_
   refine .m rfl rfl rfl (.move rfl) ?_
   refine .m rfl rfl rfl (.len sl_22_A rfl) ?_
   refine .m rfl rfl rfl (.cmp rfl rfl rfl) ?_
   refine .nil ?_
   refine hK5 _ _ ?_
   refine .cond rfl (fun h7 => ?_) (fun h7 => ?_)
   ·
    try simp only [sps] at h7
    refine .skip ?_
    refine hK4 _ _ ?_
    refine .seq (fun K6 hK6 => ?_)
    refine .block ?_
    refine .seq (fun K7 hK7 => ?_)
    refine .regionD mixed_orders_B (.q 0 (.q 1 (.q 2 (.q 3 (.q 4 (.q 5 (.q 6 (.q 7 (.q 8 (.q 9 (.done))))))))))) (by kernel_rfl) ?_
    refine .m rfl rfl rfl rfl (.refl _) (.move rfl) ?_
    refine .m rfl rfl rfl rfl (.refl _) (.move rfl) ?_
    refine .m rfl rfl rfl rfl (.refl _) (.sub rfl rfl rfl (by omega) (by omega)) ?_
    refine .m rfl rfl rfl rfl (.refl _) (.idx1 sl_22_A (by assumption) rfl rfl (by omega) (by omega)) ?_
    refine .m rfl rfl rfl rfl (.refl _) (.loadI on_2_A (by assumption) rfl (by omega)) ?_
    refine .m rfl rfl rfl rfl (.refl _) (.move rfl) ?_
    refine .m rfl rfl rfl rfl (.refl _) (.move rfl) ?_
    refine .m rfl rfl rfl rfl (.refl _) (.idxN sl_22_A (by assumption) rfl rfl (by omega)) ?_
    refine .m rfl rfl rfl rfl (.refl _) (.loadI on_2_A (by assumption) rfl (by omega)) ?_
    refine .m rfl rfl rfl rfl (.refl _) (.cmp rfl rfl rfl) ?_
    refine .done ?_
    refine hK7 _ _ ?_
    refine .cond rfl (fun h19 => ?_) (fun h19 => ?_)
    ·
     try simp only [sps] at h19
     refine .seq (fun K8 hK8 => ?_)
     refine .region ?_
     refine .m rfl rfl rfl (.assign rfl) ?_
     refine .nil ?_
     refine hK8 _ _ ?_
     refine .ret ?_
     -- leaf e1
     refine hret _ _ ?_
     refine ⟨_, rfl, ?_⟩
     exact .of (congrArg _ (B_false fun hh => by have := hh k (by omega) (by omega); rw [ek] at h19; omega))
    ·
     try simp only [sps] at h19
     refine .skip ?_
     refine hK6 _ _ ?_
     refine .region ?_
     refine .m rfl rfl rfl (.move rfl) ?_
     refine .m rfl rfl rfl (.add rfl rfl rfl (by omega) (by omega)) ?_
     refine .m rfl rfl rfl (.assign rfl) ?_
     refine .nil ?_
     refine hKL1 (k + 1) _ _ ?_ ?_ ⟨rfl, rfl, trivial⟩
     ·
      refine ⟨rfl, ?_⟩
      refine ⟨by omega, by omega, fun i h1 hi h2 => ?_⟩
      by_cases e : i < k
      · exact ha i h1 e h2
      · obtain rfl : i = k := by omega
        rw [ek] at h19
        exact h19
     ·
      omega
   ·
    try simp only [sps] at h7
    refine .exit ?_
    refine hK2 _ _ ?_
    refine .seq (fun K9 hK9 => ?_)
    refine .region ?_
    refine .m rfl rfl rfl (.assign rfl) ?_
    refine .nil ?_
    refine hK9 _ _ ?_
    refine .ret ?_
    -- leaf e2
    refine hret _ _ ?_
    refine ⟨_, rfl, ?_⟩
    exact .of (congrArg _ (B_true fun i h1 h2 => ha i h1 (by omega) h2))
theorem l02Rises_c {a : Option Addr} {xs : List Int} {H : GHeap} (h : Ints H a xs := by assumption) (hl : xs.length ≤ 1048576 := by omega) :
    GCalls Try.prog 45 [.slice a xs.length xs.length] H (Ret (.bool (B (Rising xs))) H) := by
  refine GCalls.body (N := 20) (rs := [.tmp 2]) Try.func45 rfl rfl rfl rfl (fun Qx hret hend => ?_)
  refine .forget (fr' := [(0, some _)]) ⟨rfl, trivial⟩ ?_
  refine .seq (fun K1 hK1 => ?_)
  refine .region ?_
  refine .m rfl rfl rfl (.assign rfl) ?_
  refine .nil ?_
  refine hK1 _ _ ?_
  refine .seq (fun K2 hK2 => ?_)
  refine .seq (fun K3 hK3 => ?_)
  refine .region ?_
  refine .m rfl rfl rfl (.assign rfl) ?_
  refine .nil ?_
  refine hK3 _ _ ?_
  refine .block ?_
  refine .loopR (σ := Nat) [(0, some _)] (fun k => [(3, some (.int .i64 (k : Int)))]) (fun k H' => H = H' ∧ 1 ≤ k ∧ k ≤ xs.length + 1 ∧ ∀ i, 1 ≤ i → i < k → i < xs.length → xs.getD (i - 1) 0 < xs.getD i 0) (fun k => xs.length + 1 - k) (1) ⟨rfl, trivial⟩ ⟨rfl, trivial⟩ ?_ ?_
  ·
   refine ⟨rfl, ?_⟩
   exact ⟨by omega, by omega, fun _ _ _ => by omega⟩
  ·
   rintro k _ ⟨rfl, hI⟩ KL1 hKL1
   refine .forget (fr' := [(3, some (.int .i64 (k : Int))), (0, some _)]) ⟨rfl, rfl, trivial⟩ ?_
   obtain ⟨hk0, hk, ha⟩ := hI
   have ek : ((k : Int) - 1).toNat = k - 1 := by omega
   refine .seq (fun K4 hK4 => ?_)
   refine .seq (fun K5 hK5 => ?_)
   refine .region ?_
   refine .m rfl rfl rfl (.move rfl) ?_
   refine .m rfl rfl rfl (.move rfl) ?_
   refine .m rfl rfl rfl (.len sl_22_A rfl) ?_
   refine .m rfl rfl rfl (.cmp rfl rfl rfl) ?_
   refine .nil ?_
   refine hK5 _ _ ?_
   refine .cond rfl (fun h7 => ?_) (fun h7 => ?_)
   ·
    try simp only [sps] at h7
    refine .skip ?_
    refine hK4 _ _ ?_
    refine .seq (fun K6 hK6 => ?_)
    refine .block ?_
    refine .seq (fun K7 hK7 => ?_)
    refine .regionD mixed_orders_B (.q 0 (.q 1 (.q 2 (.q 3 (.q 4 (.q 5 (.q 6 (.q 7 (.q 8 (.q 9 (.done))))))))))) (by kernel_rfl) ?_
    refine .m rfl rfl rfl rfl (.refl _) (.move rfl) ?_
    refine .m rfl rfl rfl rfl (.refl _) (.move rfl) ?_
    refine .m rfl rfl rfl rfl (.refl _) (.idxN sl_22_A (by assumption) rfl rfl (by omega)) ?_
    refine .m rfl rfl rfl rfl (.refl _) (.loadI on_2_A (by assumption) rfl (by omega)) ?_
    refine .m rfl rfl rfl rfl (.refl _) (.move rfl) ?_
    refine .m rfl rfl rfl rfl (.refl _) (.move rfl) ?_
    refine .m rfl rfl rfl rfl (.refl _) (.sub rfl rfl rfl (by omega) (by omega)) ?_
    refine .m rfl rfl rfl rfl (.refl _) (.idx1 sl_22_A (by assumption) rfl rfl (by omega) (by omega)) ?_
    refine .m rfl rfl rfl rfl (.refl _) (.loadI on_2_A (by assumption) rfl (by omega)) ?_
    refine .m rfl rfl rfl rfl (.refl _) (.cmp rfl rfl rfl) ?_
    refine .done ?_
    refine hK7 _ _ ?_
    refine .cond rfl (fun h19 => ?_) (fun h19 => ?_)
    ·
     try simp only [sps] at h19
     refine .seq (fun K8 hK8 => ?_)
     refine .region ?_
     refine .m rfl rfl rfl (.assign rfl) ?_
     refine .nil ?_
     refine hK8 _ _ ?_
     refine .ret ?_
     -- leaf e1
     refine hret _ _ ?_
     refine ⟨_, rfl, ?_⟩
     exact .of (congrArg _ (B_false fun hh => by have := hh k (by omega) (by omega); rw [ek] at h19; omega))
    ·
     try simp only [sps] at h19
     refine .skip ?_
     refine hK6 _ _ ?_
     refine .region ?_
     refine .m rfl rfl rfl (.move rfl) ?_
     refine .m rfl rfl rfl (.add rfl rfl rfl (by omega) (by omega)) ?_
     refine .m rfl rfl rfl (.assign rfl) ?_
     refine .nil ?_
     refine hKL1 (k + 1) _ _ ?_ ?_ ⟨rfl, rfl, trivial⟩
     ·
      refine ⟨rfl, ?_⟩
      refine ⟨by omega, by omega, fun i h1 hi h2 => ?_⟩
      by_cases e : i < k
      · exact ha i h1 e h2
      · obtain rfl : i = k := by omega
        rw [ek] at h19
        exact h19
     ·
      omega
   ·
    try simp only [sps] at h7
    refine .exit ?_
    refine hK2 _ _ ?_
    refine .seq (fun K9 hK9 => ?_)
    refine .region ?_
    refine .m rfl rfl rfl (.assign rfl) ?_
    refine .nil ?_
    refine hK9 _ _ ?_
    refine .ret ?_
    -- leaf e2
    refine hret _ _ ?_
    refine ⟨_, rfl, ?_⟩
    exact .of (congrArg _ (B_true fun i h1 h2 => ha i h1 (by omega) h2))
theorem isPart_c {g o : Nat} {f : SFun} {p : SFunP} {m : Prt} {q : PrtP} {H : GHeap} (h : SFun.At H g o f p := by assumption) (hin : m.In H q := by assumption) (hI : f.Is := by assumption) (hs : m.Small := by assumption) :
    GCalls Try.prog 37 [.pointer (some ⟨g, o, none⟩), .agg (m.cells q).toArray] H (Ret (.bool (B (f.Part m.me))) H) := by
  refine GCalls.ret rfl ?_
  refine GCalls.body (N := 91) (rs := [.tmp 4]) Try.func37 rfl rfl rfl rfl (fun Qx hret hend => ?_)
  refine .forget (fr' := [(0, some _), (1, some _)]) ⟨rfl, rfl, trivial⟩ ?_
  have hle := GHeap.Le.refl H
  have base_h := h
  have base_hin := hin
  obtain ⟨fsh, c5, c6, i1, i2⟩ := h.get
  have hm : MemN _ _ _ _ _ := ⟨rfl, h.1⟩
  have hi := h.2
  have hmsh : MemN _ _ _ _ _ := ⟨rfl, fsh.1⟩
  have hish := fsh.2
  obtain ⟨d0, d1, d2, d3, d4, e1, e2, e3, e4⟩ := fsh.get
  have hS := hI.1
  have hC := hS.c.1
  obtain ⟨w1, w2⟩ := hs
  have q1 := hC.tl
  have q2 := hC.n40
  have q3 := hS.al
  have q4 := hS.zl
  have q5 := hC.obj
  refine .seq (fun K1 hK1 => ?_)
  refine .region ?_
  refine .r rfl rfl rfl (.boxR rfl sz_38_VPrt rfl) ?_
  rintro _ H3 ⟨g3, rfl, le3, ge3, at3⟩
  have nx_H3 := le3.1
  replace hle := hle.trans le3
  have lt_at3 := GHeap.lt_of_get at3
  replace h := base_h.mono hle
  replace hin := base_hin.mono hle
  clear fsh c5 c6 i1 i2 hm hi hmsh hish d0 d1 d2 d3 d4 e1 e2 e3 e4
  obtain ⟨fsh, c5, c6, i1, i2⟩ := h.get
  have hm : MemN _ _ _ _ _ := ⟨rfl, h.1⟩
  have hi := h.2
  have hmsh : MemN _ _ _ _ _ := ⟨rfl, fsh.1⟩
  have hish := fsh.2
  obtain ⟨d0, d1, d2, d3, d4, e1, e2, e3, e4⟩ := fsh.get
  have hb3 : Prt.At _ g3 0 m q := ⟨Mem.of_get at3, hin⟩
  obtain ⟨c03, i03⟩ := hb3.get
  have hm3 : MemN _ _ _ _ _ := ⟨rfl, hb3.1⟩
  have hi3 := hb3.2
  refine .m rfl rfl rfl (.assign rfl) ?_
  refine .nil ?_
  refine hK1 _ _ ?_
  refine .seq (fun K2 hK2 => ?_)
  refine .seq (fun K3 hK3 => ?_)
  refine .regionD mixed_orders_B (.q 0 (.q 1 (.q 2 (.q 3 (.q 4 (.q 5 (.q 6 (.q 7 (.q 8 (.done)))))))))) (by kernel_rfl) ?_
  refine .m rfl rfl rfl rfl (.refl _) (.fieldAddr fo_38_0_VPrt rfl) ?_
  refine .m rfl rfl rfl rfl (.refl _) (.load on_23_B rfl (by assumption)) ?_
  refine .m rfl rfl rfl rfl (.refl _) (.len sl_23_B rfl) ?_
  refine .m rfl rfl rfl rfl (.refl _) (.move rfl) ?_
  refine .m rfl rfl rfl rfl (.refl _) (.nilCheck rfl) ?_
  refine .m rfl rfl rfl rfl (.refl _) (.fieldAddr fo_36_1_P rfl) ?_
  refine .m rfl rfl rfl rfl (.refl _) (.load on_22_B rfl (by assumption)) ?_
  refine .m rfl rfl rfl rfl (.refl _) (.len sl_22_A rfl) ?_
  refine .m rfl rfl rfl rfl (.refl _) (.cmp rfl rfl rfl) ?_
  refine .done ?_
  refine hK3 _ _ ?_
  refine .cond rfl (fun h19 => ?_) (fun h19 => ?_)
  ·
   try simp only [sps] at h19
   refine .seq (fun K4 hK4 => ?_)
   refine .region ?_
   refine .m rfl rfl rfl (.assign rfl) ?_
   refine .nil ?_
   refine hK4 _ _ ?_
   refine .ret ?_
   -- leaf e1
   refine hret _ _ ?_
   refine ⟨_, rfl, ?_⟩
   exact ⟨congrArg _ (B_false fun hh => by have := hh.pl; omega), hle⟩
  ·
   try simp only [sps] at h19
   refine .skip ?_
   refine hK2 _ _ ?_
   refine .seq (fun K5 hK5 => ?_)
   refine .seq (fun K6 hK6 => ?_)
   refine .region ?_
   refine .m rfl rfl rfl (.fieldAddr fo_38_0_VPrt rfl) ?_
   refine .m rfl rfl rfl (.load on_23_B rfl (by assumption)) ?_
   refine .m rfl rfl rfl (.len sl_23_B rfl) ?_
   refine .m rfl rfl rfl (.move rfl) ?_
   refine .nil ?_
   refine hK6 _ _ ?_
   refine .block ?_
   refine .loopR (σ := Nat) [(0, some _), (3, some _), (21, some _), (22, some _)] (fun k => [(23, some (.int .i64 (k : Int)))]) (fun k H' => H3 = H' ∧ (k : Int) ≤ m.me.length ∧ ∀ x, x < k → Rising (m.me.getD x []) ∧ allIn (m.me.getD x []) (f.sz.getD x 0) = true) (fun k => (m.me.length - k : Int).toNat) (0) ⟨rfl, rfl, rfl, rfl, trivial⟩ ⟨rfl, trivial⟩ ?_ ?_
   ·
    refine ⟨rfl, ?_⟩
    exact ⟨by omega, fun _ _ => by omega⟩
   ·
    rintro k _ ⟨rfl, hI⟩ KL1 hKL1
    refine .forget (fr' := [(23, some (.int .i64 (k : Int))), (0, some _), (3, some _), (21, some _), (22, some _)]) ⟨rfl, rfl, rfl, rfl, rfl, trivial⟩ ?_
    obtain ⟨hk1, ha1⟩ := hI
    refine .seq (fun K7 hK7 => ?_)
    refine .region ?_
    refine .m rfl rfl rfl (.cmp rfl rfl rfl) ?_
    refine .nil ?_
    refine hK7 _ _ ?_
    refine .seq (fun K8 hK8 => ?_)
    refine .cond rfl (fun h24 => ?_) (fun h24 => ?_)
    ·
     simp only [sps] at h24
     have r1 := i03.2 k (by omega)
     have r2 := hS.sz k (by omega)
     have r3 := w2 k
     refine .skip ?_
     refine hK8 _ _ ?_
     refine .seq (fun K9 hK9 => ?_)
     refine .block ?_
     refine .seq (fun K10 hK10 => ?_)
     refine .region ?_
     refine .m rfl rfl rfl (.move rfl) ?_
     refine .m rfl rfl rfl (.idxN sl_23_B (Intss.sl (by assumption)) rfl rfl (by omega)) ?_
     refine .m rfl rfl rfl (.loadR on_22_B (by assumption) rfl (by omega)) ?_
     refine .m rfl rfl rfl (.assign rfl) ?_
     refine .m rfl rfl rfl (.assign rfl) ?_
     refine .nil ?_
     refine hK10 _ _ ?_
     refine .seq (fun K11 hK11 => ?_)
     refine .region ?_
     refine .m rfl rfl rfl (.move rfl) ?_
     refine .callQ rfl rfl rfl rfl @Try.call49 rfl (rising_c) ?_
     refine .m rfl rfl rfl (.not rfl) ?_
     refine .m rfl rfl rfl (.move rfl) ?_
     refine .split (fun h31 => ?_) (fun h31 => ?_)
     ·
      simp only [B_iff, B_not, Bool.not_eq_true', Bool.not_eq_false'] at h31
      refine .sg rfl rfl rfl rfl rfl ?_
      refine .sg rfl rfl rfl rfl rfl ?_
      refine .sg rfl rfl rfl rfl rfl ?_
      refine .sg rfl rfl rfl rfl rfl ?_
      refine .sg rfl rfl rfl rfl rfl ?_
      refine .sg rfl rfl rfl rfl rfl ?_
      refine .sg rfl rfl rfl rfl rfl ?_
      refine .sg rfl rfl rfl rfl rfl ?_
      refine .sg rfl rfl rfl rfl rfl ?_
      refine .sg rfl rfl rfl rfl rfl ?_
      refine .m rfl rfl rfl (.pickT rfl rfl) ?_
      refine .nil ?_
      refine hK11 _ _ ?_
      refine .condT rfl ?_
      refine .seq (fun K12 hK12 => ?_)
      refine .region ?_
      refine .m rfl rfl rfl (.assign rfl) ?_
      refine .nil ?_
      refine hK12 _ _ ?_
      refine .ret ?_
      -- leaf e2
      refine hret _ _ ?_
      refine ⟨_, rfl, ?_⟩
      exact ⟨congrArg _ (B_false fun hh => h31 (hh.rs k (by omega)).1), hle⟩
     ·
      simp only [B_iff, B_not, Bool.not_eq_true', Bool.not_eq_false'] at h31
      refine .mg rfl rfl rfl rfl rfl (.move rfl) ?_
      refine .mg rfl rfl rfl rfl rfl (.move rfl) ?_
      refine .mg rfl rfl rfl rfl rfl (.nilCheck rfl) ?_
      refine .mg rfl rfl rfl rfl rfl (.fieldAddr fo_36_1_P rfl) ?_
      refine .mg rfl rfl rfl rfl rfl (.load on_22_B rfl (by assumption)) ?_
      refine .mg rfl rfl rfl rfl rfl (.move rfl) ?_
      refine .mg rfl rfl rfl rfl rfl (.idxN sl_22_A (by assumption) rfl rfl (by omega)) ?_
      refine .mg rfl rfl rfl rfl rfl (.loadI on_2_A (by assumption) rfl (by omega)) ?_
      refine .callQg rfl rfl rfl rfl rfl rfl @Try.call50 rfl (within_c) ?_
      refine .mg rfl rfl rfl rfl rfl (.not rfl) ?_
      refine .m rfl rfl rfl (.pickF rfl rfl) ?_
      refine .nil ?_
      refine hK11 _ _ ?_
      refine .cond rfl (fun h42 => ?_) (fun h42 => ?_)
      ·
       simp only [B_iff, B_not, Bool.not_eq_true', Bool.not_eq_false'] at h42
       refine .seq (fun K13 hK13 => ?_)
       refine .region ?_
       refine .m rfl rfl rfl (.assign rfl) ?_
       refine .nil ?_
       refine hK13 _ _ ?_
       refine .ret ?_
       -- leaf e3
       refine hret _ _ ?_
       refine ⟨_, rfl, ?_⟩
       exact ⟨congrArg _ (B_false fun hh => by rw [(hh.rs k (by omega)).2] at h42; cases h42), hle⟩
      ·
       simp only [B_iff, B_not, Bool.not_eq_true', Bool.not_eq_false'] at h42
       refine .skip ?_
       refine hK9 _ _ ?_
       refine .region ?_
       refine .m rfl rfl rfl (.add rfl rfl rfl (by omega) (by omega)) ?_
       refine .m rfl rfl rfl (.move rfl) ?_
       refine .nil ?_
       refine hKL1 (k + 1) _ _ ?_ ?_ ⟨rfl, rfl, rfl, rfl, rfl, trivial⟩
       ·
        refine ⟨rfl, ?_⟩
        refine ⟨by omega, fun x hx => ?_⟩
        by_cases hltq : x < k
        · exact ha1 x hltq
        · obtain rfl : x = k := by omega
          exact ⟨h31, h42⟩
       ·
        omega
    ·
     try simp only [sps] at h24
     refine .exit ?_
     refine hK5 _ _ ?_
     refine .seq (fun K14 hK14 => ?_)
     refine .seq (fun K15 hK15 => ?_)
     refine .region ?_
     refine .m rfl rfl rfl (.move rfl) ?_
     refine .m rfl rfl rfl (.nilCheck rfl) ?_
     refine .m rfl rfl rfl (.fieldAddr fo_36_2_P rfl) ?_
     refine .m rfl rfl rfl (.load on_23_B rfl (by assumption)) ?_
     refine .m rfl rfl rfl (.len sl_23_B rfl) ?_
     refine .m rfl rfl rfl (.move rfl) ?_
     refine .nil ?_
     refine hK15 _ _ ?_
     refine .block ?_
     refine .loopR (σ := Nat) [(0, some _), (3, some _), (47, some _), (48, some _)] (fun a => [(49, some (.int .i64 (a : Int)))]) (fun a H' => H3 = H' ∧ (a : Int) ≤ f.ac.length ∧ ∀ a', a' < a → ∀ i, i < (m.me.getD (f.sh.src.getD a' 0).toNat []).length → (m.me.getD (f.sh.tgt.getD a' 0).toNat []).contains ((f.ac.getD a' []).getD ((m.me.getD (f.sh.src.getD a' 0).toNat []).getD i 0).toNat 0) = true) (fun a => (f.ac.length - a : Int).toNat) (0) ⟨rfl, rfl, rfl, rfl, trivial⟩ ⟨rfl, trivial⟩ ?_ ?_
     ·
      refine ⟨rfl, ?_⟩
      exact ⟨by omega, fun _ _ => by omega⟩
     ·
      rintro a _ ⟨rfl, hI⟩ KL2 hKL2
      refine .forget (fr' := [(49, some (.int .i64 (a : Int))), (0, some _), (3, some _), (47, some _), (48, some _)]) ⟨rfl, rfl, rfl, rfl, rfl, trivial⟩ ?_
      obtain ⟨hk2, ha2⟩ := hI
      refine .seq (fun K16 hK16 => ?_)
      refine .region ?_
      refine .m rfl rfl rfl (.cmp rfl rfl rfl) ?_
      refine .nil ?_
      refine hK16 _ _ ?_
      refine .seq (fun K17 hK17 => ?_)
      refine .cond rfl (fun h50 => ?_) (fun h50 => ?_)
      ·
       simp only [sps] at h50
       have r1 := hS.ends (a := a) (by omega)
       have r2 := i03.2 (f.sh.src.getD a 0).toNat (by omega)
       have r3 := i03.2 (f.sh.tgt.getD a 0).toNat (by omega)
       have r4 := i2.2 a (by omega)
       have r5 := w2 (f.sh.src.getD a 0).toNat
       have r6 := w2 (f.sh.tgt.getD a 0).toNat
       refine .skip ?_
       refine hK17 _ _ ?_
       refine .seq (fun K18 hK18 => ?_)
       refine .block ?_
       refine .seq (fun K19 hK19 => ?_)
       refine .region ?_
       refine .m rfl rfl rfl (.move rfl) ?_
       refine .m rfl rfl rfl (.idxN sl_23_B (Intss.sl (by assumption)) rfl rfl (by omega)) ?_
       refine .m rfl rfl rfl (.loadR on_22_B (by assumption) rfl (by omega)) ?_
       refine .m rfl rfl rfl (.assign rfl) ?_
       refine .m rfl rfl rfl (.assign rfl) ?_
       refine .nil ?_
       refine hK19 _ _ ?_
       refine .seq (fun K20 hK20 => ?_)
       refine .regionD mixed_orders_B (.q 0 (.q 1 (.q 2 (.q 3 (.q 4 (.q 5 (.q 6 (.q 7 (.q 8 (.q 9 (.q 10 (.q 11 (.q 12 (.q 13 (.done))))))))))))))) (by kernel_rfl) ?_
       refine .m rfl rfl rfl rfl (.refl _) (.fieldAddr fo_38_0_VPrt rfl) ?_
       refine .m rfl rfl rfl rfl (.refl _) (.load on_23_B rfl (by assumption)) ?_
       refine .m rfl rfl rfl rfl (.refl _) (.move rfl) ?_
       refine .m rfl rfl rfl rfl (.refl _) (.nilCheck rfl) ?_
       refine .m rfl rfl rfl rfl (.refl _) (.fieldAddr fo_36_0_P rfl) ?_
       refine .m rfl rfl rfl rfl (.refl _) (.fieldAddr fo_34_1_B rfl) ?_
       refine .m rfl rfl rfl rfl (.refl _) (.load on_22_B rfl (by assumption)) ?_
       refine .m rfl rfl rfl rfl (.refl _) (.move rfl) ?_
       refine .m rfl rfl rfl rfl (.refl _) (.idxN sl_22_A (by assumption) rfl rfl (by omega)) ?_
       refine .m rfl rfl rfl rfl (.refl _) (.loadI on_2_A (by assumption) rfl (by omega)) ?_
       refine .m rfl rfl rfl rfl (.refl _) (.idx1 sl_23_B (Intss.sl (by assumption)) rfl rfl (by omega) (by omega)) ?_
       refine .m rfl rfl rfl rfl (.refl _) (.loadR on_22_B (by assumption) rfl (by omega)) ?_
       refine .m rfl rfl rfl rfl (.refl _) (.len sl_22_A rfl) ?_
       refine .m rfl rfl rfl rfl (.refl _) (.move rfl) ?_
       refine .done ?_
       refine hK20 _ _ ?_
       refine .block ?_
       refine .loopR (σ := Nat) [(0, some _), (3, some _), (7, some _), (8, some _), (47, some _), (48, some _), (49, some _), (65, some _), (66, some _)] (fun l => [(67, some (.int .i64 (l : Int)))]) (fun l H' => H3 = H' ∧ (l : Int) ≤ (m.me.getD (f.sh.src.getD a 0).toNat []).length ∧ ∀ i, i < l → (m.me.getD (f.sh.tgt.getD a 0).toNat []).contains ((f.ac.getD a []).getD ((m.me.getD (f.sh.src.getD a 0).toNat []).getD i 0).toNat 0) = true) (fun l => ((m.me.getD (f.sh.src.getD a 0).toNat []).length - l : Int).toNat) (0) ⟨rfl, rfl, rfl, rfl, rfl, rfl, rfl, rfl, rfl, trivial⟩ ⟨rfl, trivial⟩ ?_ ?_
       ·
        refine ⟨rfl, ?_⟩
        exact ⟨by omega, fun _ _ => by omega⟩
       ·
        rintro l _ ⟨rfl, hI⟩ KL3 hKL3
        refine .forget (fr' := [(67, some (.int .i64 (l : Int))), (0, some _), (3, some _), (7, some _), (8, some _), (47, some _), (48, some _), (49, some _), (65, some _), (66, some _)]) ⟨rfl, rfl, rfl, rfl, rfl, rfl, rfl, rfl, rfl, rfl, trivial⟩ ?_
        obtain ⟨hk3, ha3⟩ := hI
        refine .seq (fun K21 hK21 => ?_)
        refine .region ?_
        refine .m rfl rfl rfl (.cmp rfl rfl rfl) ?_
        refine .nil ?_
        refine hK21 _ _ ?_
        refine .seq (fun K22 hK22 => ?_)
        refine .cond rfl (fun h68 => ?_) (fun h68 => ?_)
        ·
         simp only [sps] at h68
         have u1 := allIn_iff.1 (ha1 (f.sh.src.getD a 0).toNat (by omega)).2 l (by omega)
         refine .skip ?_
         refine hK22 _ _ ?_
         refine .seq (fun K23 hK23 => ?_)
         refine .block ?_
         refine .seq (fun K24 hK24 => ?_)
         refine .region ?_
         refine .m rfl rfl rfl (.idxN sl_22_A (by assumption) rfl rfl (by omega)) ?_
         refine .m rfl rfl rfl (.loadI on_2_A (by assumption) rfl (by omega)) ?_
         refine .m rfl rfl rfl (.assign rfl) ?_
         refine .nil ?_
         refine hK24 _ _ ?_
         refine .seq (fun K25 hK25 => ?_)
         refine .regionD mixed_orders_B (.q 0 (.q 1 (.q 2 (.q 3 (.q 4 (.q 5 (.q 6 (.q 7 (.q 8 (.q 9 (.q 10 (.q 11 (.q 12 (.q 13 (.q 14 (.q 15 (.c 16 0 (.q 17 (.done))))))))))))))))))) (by kernel_rfl) ?_
         refine .m rfl rfl rfl rfl (.refl _) (.fieldAddr fo_38_0_VPrt rfl) ?_
         refine .m rfl rfl rfl rfl (.refl _) (.load on_23_B rfl (by assumption)) ?_
         refine .m rfl rfl rfl rfl (.refl _) (.move rfl) ?_
         refine .m rfl rfl rfl rfl (.refl _) (.nilCheck rfl) ?_
         refine .m rfl rfl rfl rfl (.refl _) (.fieldAddr fo_36_0_P rfl) ?_
         refine .m rfl rfl rfl rfl (.refl _) (.fieldAddr fo_34_2_B rfl) ?_
         refine .m rfl rfl rfl rfl (.refl _) (.load on_22_B rfl (by assumption)) ?_
         refine .m rfl rfl rfl rfl (.refl _) (.move rfl) ?_
         refine .m rfl rfl rfl rfl (.refl _) (.idxN sl_22_A (by assumption) rfl rfl (by omega)) ?_
         refine .m rfl rfl rfl rfl (.refl _) (.loadI on_2_A (by assumption) rfl (by omega)) ?_
         refine .m rfl rfl rfl rfl (.refl _) (.idx1 sl_23_B (Intss.sl (by assumption)) rfl rfl (by omega) (by omega)) ?_
         refine .m rfl rfl rfl rfl (.refl _) (.loadR on_22_B (by assumption) rfl (by omega)) ?_
         refine .m rfl rfl rfl rfl (.refl _) (.move rfl) ?_
         refine .m rfl rfl rfl rfl (.refl _) (.move rfl) ?_
         refine .m rfl rfl rfl rfl (.refl _) (.idx1 sl_22_A (by assumption) rfl rfl (by omega) (by omega)) ?_
         refine .m rfl rfl rfl rfl (.refl _) (.loadI on_2_A (by assumption) rfl (by omega)) ?_
         refine .callQ0 rfl rfl rfl rfl rfl @Try.call51 rfl (has_c) ?_
         refine .m rfl rfl rfl rfl (.refl _) (.not rfl) ?_
         refine .done ?_
         refine hK25 _ _ ?_
         refine .cond rfl (fun h88 => ?_) (fun h88 => ?_)
         ·
          simp only [Bool.not_eq_true', Bool.not_eq_false'] at h88
          refine .seq (fun K26 hK26 => ?_)
          refine .region ?_
          refine .m rfl rfl rfl (.assign rfl) ?_
          refine .nil ?_
          refine hK26 _ _ ?_
          refine .ret ?_
          -- leaf e4
          refine hret _ _ ?_
          refine ⟨_, rfl, ?_⟩
          exact ⟨congrArg _ (B_false fun hh => by rw [hh.cl a (by omega) l (by omega)] at h88; cases h88), hle⟩
         ·
          simp only [Bool.not_eq_true', Bool.not_eq_false'] at h88
          refine .skip ?_
          refine hK23 _ _ ?_
          refine .region ?_
          refine .m rfl rfl rfl (.add rfl rfl rfl (by omega) (by omega)) ?_
          refine .m rfl rfl rfl (.move rfl) ?_
          refine .nil ?_
          refine hKL3 (l + 1) _ _ ?_ ?_ ⟨rfl, rfl, rfl, rfl, rfl, rfl, rfl, rfl, rfl, rfl, trivial⟩
          ·
           refine ⟨rfl, ?_⟩
           refine ⟨by omega, fun i hx => ?_⟩
           by_cases hltq : i < l
           · exact ha3 i hltq
           · obtain rfl : i = l := by omega
             exact h88
          ·
           omega
        ·
         try simp only [sps] at h68
         refine .exit ?_
         refine hK18 _ _ ?_
         refine .region ?_
         refine .m rfl rfl rfl (.add rfl rfl rfl (by omega) (by omega)) ?_
         refine .m rfl rfl rfl (.move rfl) ?_
         refine .nil ?_
         refine hKL2 (a + 1) _ _ ?_ ?_ ⟨rfl, rfl, rfl, rfl, rfl, trivial⟩
         ·
          refine ⟨rfl, ?_⟩
          refine ⟨by omega, fun a' hx => ?_⟩
          by_cases hltq : a' < a
          · exact ha2 a' hltq
          · obtain rfl : a' = a := by omega
            exact fun i hi => ha3 i (by omega)
         ·
          omega
      ·
       try simp only [sps] at h50
       refine .exit ?_
       refine hK14 _ _ ?_
       refine .seq (fun K27 hK27 => ?_)
       refine .region ?_
       refine .m rfl rfl rfl (.assign rfl) ?_
       refine .nil ?_
       refine hK27 _ _ ?_
       refine .ret ?_
       -- leaf e5
       refine hret _ _ ?_
       refine ⟨_, rfl, ?_⟩
       exact ⟨congrArg _ (B_true ⟨by omega, fun x hx => ha1 x (by omega), fun a ha => ha2 a (by omega)⟩), hle⟩
theorem holds_c {m : Prt} {q : PrtP} {x : Nat} {n : Int} {H : GHeap} (hin : m.In H q := by assumption) (hs : m.Small := by assumption) (hx : x < m.me.length := by omega) :
    GCalls Try.prog 38 [.agg (m.cells q).toArray, .int .i64 (x : Int), .int .i64 n] H (Ret (.bool ((m.me.getD x []).contains n)) H) := by
  refine GCalls.ret rfl ?_
  refine GCalls.body (N := 14) (rs := [.tmp 6]) Try.func38 rfl rfl rfl rfl (fun Qx hret hend => ?_)
  refine .forget (fr' := [(0, some _), (1, some _), (2, some _)]) ⟨rfl, rfl, rfl, trivial⟩ ?_
  have hle := GHeap.Le.refl H
  have base_hin := hin
  obtain ⟨w1, w2⟩ := hs
  have r3 := w2 x
  refine .seq (fun K1 hK1 => ?_)
  refine .region ?_
  refine .r rfl rfl rfl (.boxR rfl sz_38_VPrt rfl) ?_
  rintro _ H3 ⟨g3, rfl, le3, ge3, at3⟩
  have nx_H3 := le3.1
  replace hle := hle.trans le3
  have lt_at3 := GHeap.lt_of_get at3
  replace hin := base_hin.mono hle
  have hb3 : Prt.At _ g3 0 m q := ⟨Mem.of_get at3, hin⟩
  obtain ⟨c03, i03⟩ := hb3.get
  have hm3 : MemN _ _ _ _ _ := ⟨rfl, hb3.1⟩
  have hi3 := hb3.2
  refine .m rfl rfl rfl (.assign rfl) ?_
  refine .nil ?_
  refine hK1 _ _ ?_
  refine .seq (fun K2 hK2 => ?_)
  refine .region ?_
  have r1 := i03.2 x (by omega)
  refine .m rfl rfl rfl (.fieldAddr fo_38_0_VPrt rfl) ?_
  refine .m rfl rfl rfl (.load on_23_B rfl (by assumption)) ?_
  refine .m rfl rfl rfl (.move rfl) ?_
  refine .m rfl rfl rfl (.idxN sl_23_B (Intss.sl (by assumption)) rfl rfl (by omega)) ?_
  refine .m rfl rfl rfl (.loadR on_22_B (by assumption) rfl (by omega)) ?_
  refine .m rfl rfl rfl (.move rfl) ?_
  refine .callQ rfl rfl rfl rfl @Try.call51 rfl (has_c) ?_
  refine .m rfl rfl rfl (.assign rfl) ?_
  refine .nil ?_
  refine hK2 _ _ ?_
  refine .ret ?_
  -- leaf e1
  refine hret _ _ ?_
  refine ⟨_, rfl, ?_⟩
  exact ⟨rfl, hle⟩
theorem below_c {m m' : Prt} {q q' : PrtP} {H : GHeap} (hin : m.In H q := by assumption) (hin' : m'.In H q' := by assumption) (hs : m.Small := by assumption) (hs' : m'.Small := by assumption) (hx : m.me.length = m'.me.length := by assumption) :
    GCalls Try.prog 27 [.agg (m.cells q).toArray, .agg (m'.cells q').toArray] H (Ret (.bool (B (BelowL m.me m'.me))) H) := by
  refine GCalls.ret rfl ?_
  refine GCalls.body (N := 30) (rs := [.tmp 4]) Try.func27 rfl rfl rfl rfl (fun Qx hret hend => ?_)
  refine .forget (fr' := [(0, some _), (1, some _)]) ⟨rfl, rfl, trivial⟩ ?_
  have hle := GHeap.Le.refl H
  have base_hin := hin
  have base_hin' := hin'
  have hs1 := hs
  obtain ⟨w1, w2⟩ := hs1
  refine .seq (fun K1 hK1 => ?_)
  refine .region ?_
  refine .r rfl rfl rfl (.boxR rfl sz_38_VPrt rfl) ?_
  rintro _ H2 ⟨g2, rfl, le2, ge2, at2⟩
  have nx_H2 := le2.1
  replace hle := hle.trans le2
  have lt_at2 := GHeap.lt_of_get at2
  replace hin := base_hin.mono hle
  replace hin' := base_hin'.mono hle
  have hb2 : Prt.At _ g2 0 m q := ⟨Mem.of_get at2, hin⟩
  obtain ⟨c02, i02⟩ := hb2.get
  have hm2 : MemN _ _ _ _ _ := ⟨rfl, hb2.1⟩
  have hi2 := hb2.2
  refine .r rfl rfl rfl (.boxR rfl sz_38_VPrt rfl) ?_
  rintro _ H3 ⟨g3, rfl, le3, ge3, at3⟩
  have nx_H3 := le3.1
  replace hle := hle.trans le3
  replace at2 := le3.2 _ _ at2
  have lt_at3 := GHeap.lt_of_get at3
  replace hin := base_hin.mono hle
  replace hin' := base_hin'.mono hle
  clear hb2 c02 i02 hm2 hi2
  have hb2 : Prt.At _ g2 0 m q := ⟨Mem.of_get at2, hin⟩
  obtain ⟨c02, i02⟩ := hb2.get
  have hm2 : MemN _ _ _ _ _ := ⟨rfl, hb2.1⟩
  have hi2 := hb2.2
  have hb3 : Prt.At _ g3 0 m' q' := ⟨Mem.of_get at3, hin'⟩
  obtain ⟨c03, i03⟩ := hb3.get
  have hm3 : MemN _ _ _ _ _ := ⟨rfl, hb3.1⟩
  have hi3 := hb3.2
  refine .m rfl rfl rfl (.assign rfl) ?_
  refine .nil ?_
  refine hK1 _ _ ?_
  refine .seq (fun K2 hK2 => ?_)
  refine .seq (fun K3 hK3 => ?_)
  refine .region ?_
  refine .m rfl rfl rfl (.fieldAddr fo_38_0_VPrt rfl) ?_
  refine .m rfl rfl rfl (.load on_23_B rfl (by assumption)) ?_
  refine .m rfl rfl rfl (.len sl_23_B rfl) ?_
  refine .m rfl rfl rfl (.move rfl) ?_
  refine .nil ?_
  refine hK3 _ _ ?_
  refine .block ?_
  refine .loopR (σ := Nat) [(3, some _), (10, some _), (11, some _)] (fun k => [(12, some (.int .i64 (k : Int)))]) (fun k H' => H3 = H' ∧ (k : Int) ≤ m.me.length ∧ ∀ x, x < k → ∀ i, i < (m.me.getD x []).length → (m'.me.getD x []).contains ((m.me.getD x []).getD i 0) = true) (fun k => (m.me.length - k : Int).toNat) (0) ⟨rfl, rfl, rfl, trivial⟩ ⟨rfl, trivial⟩ ?_ ?_
  ·
   refine ⟨rfl, ?_⟩
   exact ⟨by omega, fun _ _ => by omega⟩
  ·
   rintro k _ ⟨rfl, hI⟩ KL1 hKL1
   refine .forget (fr' := [(12, some (.int .i64 (k : Int))), (3, some _), (10, some _), (11, some _)]) ⟨rfl, rfl, rfl, rfl, trivial⟩ ?_
   obtain ⟨hk1, ha1⟩ := hI
   refine .seq (fun K4 hK4 => ?_)
   refine .region ?_
   refine .m rfl rfl rfl (.cmp rfl rfl rfl) ?_
   refine .nil ?_
   refine hK4 _ _ ?_
   refine .seq (fun K5 hK5 => ?_)
   refine .cond rfl (fun h13 => ?_) (fun h13 => ?_)
   ·
    simp only [sps] at h13
    have r1 := i02.2 k (by omega)
    have r3 := w2 k
    refine .skip ?_
    refine hK5 _ _ ?_
    refine .seq (fun K6 hK6 => ?_)
    refine .block ?_
    refine .seq (fun K7 hK7 => ?_)
    refine .region ?_
    refine .m rfl rfl rfl (.move rfl) ?_
    refine .m rfl rfl rfl (.idxN sl_23_B (Intss.sl (by assumption)) rfl rfl (by omega)) ?_
    refine .m rfl rfl rfl (.loadR on_22_B (by assumption) rfl (by omega)) ?_
    refine .m rfl rfl rfl (.assign rfl) ?_
    refine .m rfl rfl rfl (.assign rfl) ?_
    refine .nil ?_
    refine hK7 _ _ ?_
    refine .seq (fun K8 hK8 => ?_)
    refine .region ?_
    refine .m rfl rfl rfl (.move rfl) ?_
    refine .m rfl rfl rfl (.len sl_22_A rfl) ?_
    refine .m rfl rfl rfl (.move rfl) ?_
    refine .nil ?_
    refine hK8 _ _ ?_
    refine .block ?_
    refine .loopR (σ := Nat) [(3, some _), (5, some _), (10, some _), (11, some _), (12, some _), (17, some _), (18, some _)] (fun l => [(19, some (.int .i64 (l : Int)))]) (fun l H' => H3 = H' ∧ (l : Int) ≤ (m.me.getD k []).length ∧ ∀ i, i < l → (m'.me.getD k []).contains ((m.me.getD k []).getD i 0) = true) (fun l => ((m.me.getD k []).length - l : Int).toNat) (0) ⟨rfl, rfl, rfl, rfl, rfl, rfl, rfl, trivial⟩ ⟨rfl, trivial⟩ ?_ ?_
    ·
     refine ⟨rfl, ?_⟩
     exact ⟨by omega, fun _ _ => by omega⟩
    ·
     rintro l _ ⟨rfl, hI⟩ KL2 hKL2
     refine .forget (fr' := [(19, some (.int .i64 (l : Int))), (3, some _), (5, some _), (10, some _), (11, some _), (12, some _), (17, some _), (18, some _)]) ⟨rfl, rfl, rfl, rfl, rfl, rfl, rfl, rfl, trivial⟩ ?_
     obtain ⟨hk2, ha2⟩ := hI
     refine .seq (fun K9 hK9 => ?_)
     refine .region ?_
     refine .m rfl rfl rfl (.cmp rfl rfl rfl) ?_
     refine .nil ?_
     refine hK9 _ _ ?_
     refine .seq (fun K10 hK10 => ?_)
     refine .cond rfl (fun h20 => ?_) (fun h20 => ?_)
     ·
      try simp only [sps] at h20
      refine .skip ?_
      refine hK10 _ _ ?_
      refine .seq (fun K11 hK11 => ?_)
      refine .block ?_
      refine .seq (fun K12 hK12 => ?_)
      refine .region ?_
      refine .m rfl rfl rfl (.idxN sl_22_A (by assumption) rfl rfl (by omega)) ?_
      refine .m rfl rfl rfl (.loadI on_2_A (by assumption) rfl (by omega)) ?_
      refine .m rfl rfl rfl (.assign rfl) ?_
      refine .nil ?_
      refine hK12 _ _ ?_
      refine .seq (fun K13 hK13 => ?_)
      refine .region ?_
      refine .m rfl rfl rfl (.loadM ag_38_VPrt rfl ⟨rfl, Mem.of_get at3⟩) ?_
      refine .m rfl rfl rfl (.move rfl) ?_
      refine .m rfl rfl rfl (.move rfl) ?_
      refine .callQ rfl rfl rfl rfl @Try.call38 rfl (holds_c) ?_
      refine .m rfl rfl rfl (.not rfl) ?_
      refine .nil ?_
      refine hK13 _ _ ?_
      refine .cond rfl (fun h27 => ?_) (fun h27 => ?_)
      ·
       simp only [Bool.not_eq_true', Bool.not_eq_false'] at h27
       refine .seq (fun K14 hK14 => ?_)
       refine .region ?_
       refine .m rfl rfl rfl (.assign rfl) ?_
       refine .nil ?_
       refine hK14 _ _ ?_
       refine .ret ?_
       -- leaf e1
       refine hret _ _ ?_
       refine ⟨_, rfl, ?_⟩
       exact ⟨congrArg _ (B_false fun hh => by rw [hh k (by omega) l (by omega)] at h27; cases h27), hle⟩
      ·
       simp only [Bool.not_eq_true', Bool.not_eq_false'] at h27
       refine .skip ?_
       refine hK11 _ _ ?_
       refine .region ?_
       refine .m rfl rfl rfl (.add rfl rfl rfl (by omega) (by omega)) ?_
       refine .m rfl rfl rfl (.move rfl) ?_
       refine .nil ?_
       refine hKL2 (l + 1) _ _ ?_ ?_ ⟨rfl, rfl, rfl, rfl, rfl, rfl, rfl, rfl, trivial⟩
       ·
        refine ⟨rfl, ?_⟩
        refine ⟨by omega, fun i hx => ?_⟩
        by_cases hltq : i < l
        · exact ha2 i hltq
        · obtain rfl : i = l := by omega
          exact h27
       ·
        omega
     ·
      try simp only [sps] at h20
      refine .exit ?_
      refine hK6 _ _ ?_
      refine .region ?_
      refine .m rfl rfl rfl (.add rfl rfl rfl (by omega) (by omega)) ?_
      refine .m rfl rfl rfl (.move rfl) ?_
      refine .nil ?_
      refine hKL1 (k + 1) _ _ ?_ ?_ ⟨rfl, rfl, rfl, rfl, trivial⟩
      ·
       refine ⟨rfl, ?_⟩
       refine ⟨by omega, fun x hx => ?_⟩
       by_cases hltq : x < k
       · exact ha1 x hltq
       · obtain rfl : x = k := by omega
         exact fun i hi => ha2 i (by omega)
      ·
       omega
   ·
    try simp only [sps] at h13
    refine .exit ?_
    refine hK2 _ _ ?_
    refine .seq (fun K15 hK15 => ?_)
    refine .region ?_
    refine .m rfl rfl rfl (.assign rfl) ?_
    refine .nil ?_
    refine hK15 _ _ ?_
    refine .ret ?_
    -- leaf e2
    refine hret _ _ ?_
    refine ⟨_, rfl, ?_⟩
    exact ⟨congrArg _ (B_true fun x hx => ha1 x (by omega)), hle⟩
theorem slA_mem1 {H : GHeap} {k n i : Nat} {f : Nat → Value} (h : SlA H (some ⟨k, 0, none⟩) n f) (hi : i < n) : MemN H k (0 + i) 1 [f i] := by
  refine ⟨rfl, fun j v hv => ?_⟩
  rcases h with h | ⟨g, o, e, h⟩
  · omega
  · cases e
    have := h i hi
    match j, hv with
    | 0, hv => simp at hv; subst hv; exact this
theorem areParts_c {g o k n : Nat} {f : SFun} {p : SFunP} {C : Nat → Prt} {P : Nat → PrtP} {H : GHeap} (h : SFun.At H g o f p) (hs : f.Small) (hn : n ≤ 1048576)
    (hsl : SlA H (some ⟨k, 0, none⟩) n (fun i => .slice (P i).a0 (C i).me.length (C i).me.length)) (hc : ∀ i, i < n → (C i).In H (P i)) (hcs : ∀ i, i < n → (C i).Small) :
    GCalls Try.prog 26 [.pointer (some ⟨g, o, none⟩), .slice (some ⟨k, 0, none⟩) n n] H (Ret (.bool (B (f.Is ∧ ∀ i, i < n → f.Part (C i).me))) H) := by
  refine GCalls.ret rfl ?_
  refine GCalls.body (N := 21) (rs := [.tmp 4]) Try.func26 rfl rfl rfl rfl (fun Qx hret hend => ?_)
  refine .forget (fr' := [(0, some _), (1, some _)]) ⟨rfl, rfl, trivial⟩ ?_
  have hle := GHeap.Le.refl H
  have base_h := h
  refine .seq (fun K1 hK1 => ?_)
  refine .region ?_
  refine .m rfl rfl rfl (.assign rfl) ?_
  refine .nil ?_
  refine hK1 _ _ ?_
  refine .seq (fun K2 hK2 => ?_)
  refine .seq (fun K3 hK3 => ?_)
  refine .region ?_
  refine .m rfl rfl rfl (.move rfl) ?_
  refine .callQ rfl rfl rfl rfl @Try.call36 rfl (isSetFunctor_c) ?_
  refine .m rfl rfl rfl (.not rfl) ?_
  refine .nil ?_
  refine hK3 _ _ ?_
  refine .cond rfl (fun h9 => ?_) (fun h9 => ?_)
  ·
   try simp only [sps] at h9
   refine .seq (fun K4 hK4 => ?_)
   refine .region ?_
   refine .m rfl rfl rfl (.assign rfl) ?_
   refine .nil ?_
   refine hK4 _ _ ?_
   refine .ret ?_
   -- leaf e1
   refine hret _ _ ?_
   refine ⟨_, rfl, ?_⟩
   exact ⟨congrArg _ (B_false fun hh => h9 hh.1), hle⟩
  ·
   simp only [sps] at h9
   refine .skip ?_
   refine hK2 _ _ ?_
   refine .seq (fun K5 hK5 => ?_)
   refine .seq (fun K6 hK6 => ?_)
   refine .region ?_
   refine .m rfl rfl rfl (.move rfl) ?_
   refine .m rfl rfl rfl (.len sl_69_S rfl) ?_
   refine .m rfl rfl rfl (.move rfl) ?_
   refine .nil ?_
   refine hK6 _ _ ?_
   refine .block ?_
   refine .loopR (σ := Nat) [(0, some _), (10, some _), (11, some _)] (fun l => [(12, some (.int .i64 (l : Int)))]) (fun l H' => St [] H H' ∧ (l : Int) ≤ n ∧ ∀ i, i < l → f.Part (C i).me) (fun l => (n - l : Int).toNat) (0) ⟨rfl, rfl, rfl, trivial⟩ ⟨rfl, trivial⟩ ?_ ?_
   ·
    refine ⟨.refl _ _, ?_⟩
    exact ⟨by omega, fun _ _ => by omega⟩
   ·
    rintro l HL1 ⟨lst1, hI⟩ KL1 hKL1
    refine .forget (fr' := [(12, some (.int .i64 (l : Int))), (0, some _), (10, some _), (11, some _)]) ⟨rfl, rfl, rfl, rfl, trivial⟩ ?_
    have nx_HL1 := lst1.nx
    replace hle := hle.st lst1 (fun k hk => trivial)
    replace h := base_h.mono hle
    obtain ⟨hk1, ha1⟩ := hI
    refine .seq (fun K7 hK7 => ?_)
    refine .region ?_
    refine .m rfl rfl rfl (.cmp rfl rfl rfl) ?_
    refine .nil ?_
    refine hK7 _ _ ?_
    refine .seq (fun K8 hK8 => ?_)
    refine .cond rfl (fun h13 => ?_) (fun h13 => ?_)
    ·
     simp only [sps] at h13
     have hsl' := hsl.mono hle
     have hm' := slA_mem1 hsl' (i := l) (by omega)
     have hcl := (hc l (by omega)).mono hle
     have hcs' := hcs l (by omega)
     refine .skip ?_
     refine hK8 _ _ ?_
     refine .seq (fun K9 hK9 => ?_)
     refine .block ?_
     refine .seq (fun K10 hK10 => ?_)
     refine .region ?_
     refine .m rfl rfl rfl (.idxN sl_69_S hsl' rfl rfl (by omega)) ?_
     refine .m rfl rfl rfl (.loadM ag_38_VPrt rfl hm') ?_
     refine .r rfl rfl rfl (.allocR rfl ze_38_VPrt rfl) ?_
     rintro _ H6 ⟨g6, rfl, le6, ge6, at6⟩
     have nx_H6 := le6.1
     replace hle := hle.trans le6
     replace lst1 := lst1.le le6
     have lt_at6 := GHeap.lt_of_get at6
     replace h := base_h.mono hle
     refine .r0 rfl rfl (.fillR rfl sz_38_VPrt rfl rfl rfl rfl (by assumption) (by first | rfl | exact Nat.le_of_ble_eq_true rfl | simp)) ?_
     rintro _ H5003 ⟨rfl, st5003, at5003⟩
     have nx_H5003 := st5003.nx
     replace hle := hle.st st5003 (fun k hk => ⟨by omega, trivial⟩)
     replace lst1 := lst1.st st5003 (fun k hk ho => by simp only [out, and_true] at ho ⊢ <;> omega)
     have lt_at5003 := GHeap.lt_of_get at5003
     replace h := base_h.mono hle
     have mm5003 : MemN _ _ _ _ _ := ⟨rfl, Mem.of_get at5003⟩
     have hcl := (hc l (by omega)).mono hle
     refine .nil ?_
     refine hK10 _ _ ?_
     refine .seq (fun K11 hK11 => ?_)
     refine .region ?_
     refine .m rfl rfl rfl (.move rfl) ?_
     refine .m rfl rfl rfl (.loadM ag_38_VPrt rfl ⟨rfl, Mem.of_get at5003⟩) ?_
     refine .callQ rfl rfl rfl rfl @Try.call37 rfl (isPart_c (m := C l) (q := P l)) ?_
     refine .m rfl rfl rfl (.not rfl) ?_
     refine .nil ?_
     refine hK11 _ _ ?_
     refine .cond rfl (fun h19 => ?_) (fun h19 => ?_)
     ·
      try simp only [sps] at h19
      refine .seq (fun K12 hK12 => ?_)
      refine .region ?_
      refine .m rfl rfl rfl (.assign rfl) ?_
      refine .nil ?_
      refine hK12 _ _ ?_
      refine .ret ?_
      -- leaf e2
      refine hret _ _ ?_
      refine ⟨_, rfl, ?_⟩
      exact ⟨congrArg _ (B_false fun hh => h19 (hh.2 l (by omega))), hle⟩
     ·
      try simp only [sps] at h19
      refine .skip ?_
      refine hK9 _ _ ?_
      refine .region ?_
      refine .m rfl rfl rfl (.add rfl rfl rfl (by omega) (by omega)) ?_
      refine .m rfl rfl rfl (.move rfl) ?_
      refine .nil ?_
      refine hKL1 (l + 1) _ _ ?_ ?_ ⟨rfl, rfl, rfl, rfl, trivial⟩
      ·
       refine ⟨lst1, ?_⟩
       refine ⟨by omega, fun i hx => ?_⟩
       by_cases hltq : i < l
       · exact ha1 i hltq
       · obtain rfl : i = l := by omega
         exact h19
      ·
       omega
    ·
     try simp only [sps] at h13
     refine .exit ?_
     refine hK5 _ _ ?_
     refine .seq (fun K13 hK13 => ?_)
     refine .region ?_
     refine .m rfl rfl rfl (.assign rfl) ?_
     refine .nil ?_
     refine hK13 _ _ ?_
     refine .ret ?_
     -- leaf e3
     refine hret _ _ ?_
     refine ⟨_, rfl, ?_⟩
     exact ⟨congrArg _ (B_true ⟨h9, fun i hi => ha1 i (by omega)⟩), hle⟩
theorem areParts2_c {g o k : Nat} {e : TypeId} {f : SFun} {p : SFunP} {m m' : Prt} {q q' : PrtP} {H : GHeap} (h : SFun.At H g o f p := by assumption) (hr : H.get k = some (.row [.slice q.a0 m.me.length m.me.length, .slice q'.a0 m'.me.length m'.me.length] e true) := by assumption)
    (hin : m.In H q := by assumption) (hin' : m'.In H q' := by assumption) (hs : f.Small := by assumption) (hs1 : m.Small := by assumption) (hs2 : m'.Small := by assumption) :
    GCalls Try.prog 26 [.pointer (some ⟨g, o, none⟩), .slice (some ⟨k, 0, none⟩) 2 2] H (Ret (.bool (B (f.Is ∧ f.Part m.me ∧ f.Part m'.me))) H) := by
  have hsl : SlA H (some ⟨k, 0, none⟩) 2 (fun i => .slice (if i = 0 then q else q').a0 (if i = 0 then m else m').me.length (if i = 0 then m else m').me.length) :=
    .inr ⟨k, 0, rfl, fun i hi => by rw [GHeap.cell_of hr]; match i, hi with | 0, _ => rfl | 1, _ => rfl⟩
  have := areParts_c h hs (n := 2) (by omega) (C := fun i => if i = 0 then m else m') (P := fun i => if i = 0 then q else q') hsl
    (fun i hi => by match i, hi with | 0, _ => exact hin | 1, _ => exact hin') (fun i hi => by match i, hi with | 0, _ => exact hs1 | 1, _ => exact hs2)
  rw [B_congr (q := f.Is ∧ f.Part m.me ∧ f.Part m'.me)] at this
  · exact this
  · exact ⟨fun h => ⟨h.1, h.2 0 (by omega), h.2 1 (by omega)⟩, fun h => ⟨h.1, fun i hi => by match i, hi with | 0, _ => exact h.2.1 | 1, _ => exact h.2.2⟩⟩
theorem implIsBelow_c {f : SFun} {p : SFunP} {m m' : Prt} {q q' : PrtP} {H : GHeap} (hin : f.In H p := by assumption) (hin1 : m.In H q := by assumption) (hin2 : m'.In H q' := by assumption) (hs : f.Small := by assumption) (hs1 : m.Small := by assumption) (hs2 : m'.Small := by assumption) :
    GCalls Try.prog 10 [.agg (f.cells p).toArray, .agg (m.cells q).toArray, .agg (m'.cells q').toArray] H (Ret (.tuple #[.bool (B (f.Is ∧ f.Part m.me ∧ f.Part m'.me) && B (BelowL m.me m'.me)), .int .i64 (bif B (f.Is ∧ f.Part m.me ∧ f.Part m'.me) then 0 else 1)]) H) := by
  refine GCalls.ret rfl ?_
  refine GCalls.body (N := 16) (rs := [.tmp 6, .tmp 7]) Try.func10 rfl rfl rfl rfl (fun Qx hret hend => ?_)
  refine .forget (fr' := [(0, some _), (1, some _), (2, some _)]) ⟨rfl, rfl, rfl, trivial⟩ ?_
  have hle := GHeap.Le.refl H
  have base_hin := hin
  have base_hin1 := hin1
  have base_hin2 := hin2
  refine .seq (fun K1 hK1 => ?_)
  refine .region ?_
  refine .r rfl rfl rfl (.boxR rfl sz_36_VSFun rfl) ?_
  rintro _ H3 ⟨g3, rfl, le3, ge3, at3⟩
  have nx_H3 := le3.1
  replace hle := hle.trans le3
  have lt_at3 := GHeap.lt_of_get at3
  replace hin := base_hin.mono hle
  replace hin1 := base_hin1.mono hle
  replace hin2 := base_hin2.mono hle
  have hb3 : SFun.At _ g3 0 f p := ⟨Mem.of_get at3, hin⟩
  obtain ⟨fsh3, c53, c63, i13, i23⟩ := hb3.get
  have hm3 : MemN _ _ _ _ _ := ⟨rfl, hb3.1⟩
  have hi3 := hb3.2
  have hmsh3 : MemN _ _ _ _ _ := ⟨rfl, fsh3.1⟩
  have hish3 := fsh3.2
  refine .r rfl rfl rfl (.boxR rfl sz_38_VPrt rfl) ?_
  rintro _ H4 ⟨g4, rfl, le4, ge4, at4⟩
  have nx_H4 := le4.1
  replace hle := hle.trans le4
  replace at3 := le4.2 _ _ at3
  have lt_at4 := GHeap.lt_of_get at4
  replace hin := base_hin.mono hle
  replace hin1 := base_hin1.mono hle
  replace hin2 := base_hin2.mono hle
  clear hb3 fsh3 c53 c63 i13 i23 hm3 hi3 hmsh3 hish3
  have hb3 : SFun.At _ g3 0 f p := ⟨Mem.of_get at3, hin⟩
  obtain ⟨fsh3, c53, c63, i13, i23⟩ := hb3.get
  have hm3 : MemN _ _ _ _ _ := ⟨rfl, hb3.1⟩
  have hi3 := hb3.2
  have hmsh3 : MemN _ _ _ _ _ := ⟨rfl, fsh3.1⟩
  have hish3 := fsh3.2
  have hb4 : Prt.At _ g4 0 m q := ⟨Mem.of_get at4, hin1⟩
  obtain ⟨c04, i04⟩ := hb4.get
  have hm4 : MemN _ _ _ _ _ := ⟨rfl, hb4.1⟩
  have hi4 := hb4.2
  refine .r rfl rfl rfl (.boxR rfl sz_38_VPrt rfl) ?_
  rintro _ H5 ⟨g5, rfl, le5, ge5, at5⟩
  have nx_H5 := le5.1
  replace hle := hle.trans le5
  replace at3 := le5.2 _ _ at3
  replace at4 := le5.2 _ _ at4
  have lt_at5 := GHeap.lt_of_get at5
  replace hin := base_hin.mono hle
  replace hin1 := base_hin1.mono hle
  replace hin2 := base_hin2.mono hle
  clear hb3 fsh3 c53 c63 i13 i23 hm3 hi3 hmsh3 hish3
  have hb3 : SFun.At _ g3 0 f p := ⟨Mem.of_get at3, hin⟩
  obtain ⟨fsh3, c53, c63, i13, i23⟩ := hb3.get
  have hm3 : MemN _ _ _ _ _ := ⟨rfl, hb3.1⟩
  have hi3 := hb3.2
  have hmsh3 : MemN _ _ _ _ _ := ⟨rfl, fsh3.1⟩
  have hish3 := fsh3.2
  clear hb4 c04 i04 hm4 hi4
  have hb4 : Prt.At _ g4 0 m q := ⟨Mem.of_get at4, hin1⟩
  obtain ⟨c04, i04⟩ := hb4.get
  have hm4 : MemN _ _ _ _ _ := ⟨rfl, hb4.1⟩
  have hi4 := hb4.2
  have hb5 : Prt.At _ g5 0 m' q' := ⟨Mem.of_get at5, hin2⟩
  obtain ⟨c05, i05⟩ := hb5.get
  have hm5 : MemN _ _ _ _ _ := ⟨rfl, hb5.1⟩
  have hi5 := hb5.2
  refine .m rfl rfl rfl (.assign rfl) ?_
  refine .m rfl rfl rfl (.assign rfl) ?_
  refine .nil ?_
  refine hK1 _ _ ?_
  refine .seq (fun K2 hK2 => ?_)
  refine .seq (fun K3 hK3 => ?_)
  refine .region ?_
  refine .m rfl rfl rfl (.loadM ag_38_VPrt rfl ⟨rfl, Mem.of_get at4⟩) ?_
  refine .m rfl rfl rfl (.loadM ag_38_VPrt rfl ⟨rfl, Mem.of_get at5⟩) ?_
  refine .r rfl rfl rfl (.litR rfl sl_69_S ze_38_VPrt rfl rfl (by omega) (by omega) rfl rfl) ?_
  rintro _ H10 ⟨g10, rfl, le10, ge10, at10⟩
  have nx_H10 := le10.1
  replace hle := hle.trans le10
  replace at3 := le10.2 _ _ at3
  replace at4 := le10.2 _ _ at4
  replace at5 := le10.2 _ _ at5
  have lt_at10 := GHeap.lt_of_get at10
  replace hin := base_hin.mono hle
  replace hin1 := base_hin1.mono hle
  replace hin2 := base_hin2.mono hle
  clear hb3 fsh3 c53 c63 i13 i23 hm3 hi3 hmsh3 hish3
  have hb3 : SFun.At _ g3 0 f p := ⟨Mem.of_get at3, hin⟩
  obtain ⟨fsh3, c53, c63, i13, i23⟩ := hb3.get
  have hm3 : MemN _ _ _ _ _ := ⟨rfl, hb3.1⟩
  have hi3 := hb3.2
  have hmsh3 : MemN _ _ _ _ _ := ⟨rfl, fsh3.1⟩
  have hish3 := fsh3.2
  clear hb4 c04 i04 hm4 hi4
  have hb4 : Prt.At _ g4 0 m q := ⟨Mem.of_get at4, hin1⟩
  obtain ⟨c04, i04⟩ := hb4.get
  have hm4 : MemN _ _ _ _ _ := ⟨rfl, hb4.1⟩
  have hi4 := hb4.2
  clear hb5 c05 i05 hm5 hi5
  have hb5 : Prt.At _ g5 0 m' q' := ⟨Mem.of_get at5, hin2⟩
  obtain ⟨c05, i05⟩ := hb5.get
  have hm5 : MemN _ _ _ _ _ := ⟨rfl, hb5.1⟩
  have hi5 := hb5.2
  refine .callQ rfl rfl rfl rfl @Try.call26 rfl (areParts2_c) ?_
  refine .m rfl rfl rfl (.not rfl) ?_
  refine .nil ?_
  refine hK3 _ _ ?_
  refine .cond rfl (fun h12 => ?_) (fun h12 => ?_)
  ·
   try simp only [sps] at h12
   refine .seq (fun K4 hK4 => ?_)
   refine .region ?_
   refine .m rfl rfl rfl (.assign rfl) ?_
   refine .m rfl rfl rfl (.assign rfl) ?_
   refine .nil ?_
   refine hK4 _ _ ?_
   refine .ret ?_
   -- leaf e1
   refine hret _ _ ?_
   refine ⟨_, _, rfl, rfl, ?_⟩
   exact ⟨by rw [B_false h12]; rfl, hle⟩
  ·
   simp only [sps] at h12
   have hll : m.me.length = m'.me.length := h12.2.1.pl.trans h12.2.2.pl.symm
   refine .skip ?_
   refine hK2 _ _ ?_
   refine .seq (fun K5 hK5 => ?_)
   refine .region ?_
   refine .m rfl rfl rfl (.loadM ag_38_VPrt rfl ⟨rfl, Mem.of_get at4⟩) ?_
   refine .m rfl rfl rfl (.loadM ag_38_VPrt rfl ⟨rfl, Mem.of_get at5⟩) ?_
   refine .callQ rfl rfl rfl rfl @Try.call27 rfl (below_c) ?_
   refine .m rfl rfl rfl (.assign rfl) ?_
   refine .m rfl rfl rfl (.assign rfl) ?_
   refine .nil ?_
   refine hK5 _ _ ?_
   refine .ret ?_
   -- leaf e2
   refine hret _ _ ?_
   refine ⟨_, _, rfl, rfl, ?_⟩
   exact ⟨by rw [B_true h12]; rfl, hle⟩
theorem l25Part_c {f : SFun} {p : SFunP} {me : List (List Int)} {a : Option Addr} {r : Nat → Option Addr} {H : GHeap} (hin : f.In H p := by assumption) (hm : Intss H a me r := by assumption) (hI : f.Is := by assumption) (w1 : me.length ≤ 1048576 := by omega) (w2 : ∀ i, (me.getD i []).length ≤ 1048576 := by assumption) :
    GCalls Try.prog 34 [.agg (f.cells p).toArray, .slice a me.length me.length] H (Ret (.bool (B (f.Part me))) H) := by
  refine GCalls.ret rfl ?_
  refine GCalls.body (N := 89) (rs := [.tmp 4]) Try.func34 rfl rfl rfl rfl (fun Qx hret hend => ?_)
  refine .forget (fr' := [(0, some _), (1, some _)]) ⟨rfl, rfl, trivial⟩ ?_
  have hle := GHeap.Le.refl H
  have base_hin := hin
  have base_hm := hm
  have hS := hI.1
  have hC := hS.c.1
  have q1 := hC.tl
  have q2 := hC.n40
  have q3 := hS.al
  have q4 := hS.zl
  have q5 := hC.obj
  refine .seq (fun K1 hK1 => ?_)
  refine .region ?_
  refine .r rfl rfl rfl (.boxR rfl sz_36_VSFun rfl) ?_
  rintro _ H2 ⟨g2, rfl, le2, ge2, at2⟩
  have nx_H2 := le2.1
  replace hle := hle.trans le2
  have lt_at2 := GHeap.lt_of_get at2
  replace hin := base_hin.mono hle
  replace hm := base_hm.mono hle
  have hb2 : SFun.At _ g2 0 f p := ⟨Mem.of_get at2, hin⟩
  obtain ⟨fsh2, c52, c62, i12, i22⟩ := hb2.get
  have hm2 : MemN _ _ _ _ _ := ⟨rfl, hb2.1⟩
  have hi2 := hb2.2
  have hmsh2 : MemN _ _ _ _ _ := ⟨rfl, fsh2.1⟩
  have hish2 := fsh2.2
  refine .m rfl rfl rfl (.assign rfl) ?_
  refine .nil ?_
  refine hK1 _ _ ?_
  refine .seq (fun K2 hK2 => ?_)
  refine .seq (fun K3 hK3 => ?_)
  refine .region ?_
  obtain ⟨d0, d1, d2, d3, d4, e1, e2, e3, e4⟩ := fsh2.get
  refine .m rfl rfl rfl (.move rfl) ?_
  refine .m rfl rfl rfl (.len sl_23_B rfl) ?_
  refine .m rfl rfl rfl (.fieldAddr fo_36_1_P rfl) ?_
  refine .m rfl rfl rfl (.load on_22_B rfl (by assumption)) ?_
  refine .m rfl rfl rfl (.len sl_22_A rfl) ?_
  refine .m rfl rfl rfl (.cmp rfl rfl rfl) ?_
  refine .nil ?_
  refine hK3 _ _ ?_
  refine .cond rfl (fun h15 => ?_) (fun h15 => ?_)
  ·
   try simp only [sps] at h15
   refine .seq (fun K4 hK4 => ?_)
   refine .region ?_
   refine .m rfl rfl rfl (.assign rfl) ?_
   refine .nil ?_
   refine hK4 _ _ ?_
   refine .ret ?_
   -- leaf e1
   refine hret _ _ ?_
   refine ⟨_, rfl, ?_⟩
   exact ⟨congrArg _ (B_false fun hh => by have := hh.pl; omega), hle⟩
  ·
   try simp only [sps] at h15
   refine .skip ?_
   refine hK2 _ _ ?_
   refine .seq (fun K5 hK5 => ?_)
   refine .seq (fun K6 hK6 => ?_)
   refine .region ?_
   refine .m rfl rfl rfl (.assign rfl) ?_
   refine .nil ?_
   refine hK6 _ _ ?_
   refine .block ?_
   refine .loopR (σ := Nat) [(1, some _), (2, some _)] (fun k => [(5, some (.int .i64 (k : Int)))]) (fun k H' => H2 = H' ∧ (k : Int) ≤ me.length ∧ ∀ x, x < k → Rising (me.getD x []) ∧ allIn (me.getD x []) (f.sz.getD x 0) = true) (fun k => (me.length - k : Int).toNat) (0) ⟨rfl, rfl, trivial⟩ ⟨rfl, trivial⟩ ?_ ?_
   ·
    refine ⟨rfl, ?_⟩
    exact ⟨by omega, fun _ _ => by omega⟩
   ·
    rintro k _ ⟨rfl, hI⟩ KL1 hKL1
    refine .forget (fr' := [(5, some (.int .i64 (k : Int))), (1, some _), (2, some _)]) ⟨rfl, rfl, rfl, trivial⟩ ?_
    obtain ⟨hk1, ha1⟩ := hI
    refine .seq (fun K7 hK7 => ?_)
    refine .seq (fun K8 hK8 => ?_)
    refine .region ?_
    refine .m rfl rfl rfl (.move rfl) ?_
    refine .m rfl rfl rfl (.move rfl) ?_
    refine .m rfl rfl rfl (.len sl_23_B rfl) ?_
    refine .m rfl rfl rfl (.cmp rfl rfl rfl) ?_
    refine .nil ?_
    refine hK8 _ _ ?_
    refine .cond rfl (fun h19 => ?_) (fun h19 => ?_)
    ·
     simp only [sps] at h19
     have r1 := hm.2 k (by omega)
     have r2 := hS.sz k (by omega)
     have r3 := w2 k
     refine .skip ?_
     refine hK7 _ _ ?_
     refine .seq (fun K9 hK9 => ?_)
     refine .block ?_
     refine .seq (fun K10 hK10 => ?_)
     refine .regionD mixed_orders_B (.q 0 (.q 1 (.q 2 (.q 3 (.c 4 0 (.q 5 (.q 6 (.q 7 (.q 8 (.q 9 (.q 10 (.q 11 (.q 12 (.q 13 (.q 14 (.q 15 (.c 16 0 (.q 17 (.q 18 (.done)))))))))))))))))))) (by kernel_rfl) ?_
     refine .m rfl rfl rfl rfl (.refl _) (.move rfl) ?_
     refine .m rfl rfl rfl rfl (.refl _) (.move rfl) ?_
     refine .m rfl rfl rfl rfl (.refl _) (.idxN sl_23_B (Intss.sl (by assumption)) rfl rfl (by omega)) ?_
     refine .m rfl rfl rfl rfl (.refl _) (.loadR on_22_B (by assumption) rfl (by omega)) ?_
     refine .callQ0 rfl rfl rfl rfl rfl @Try.call45 rfl (l02Rises_c) ?_
     refine .m rfl rfl rfl rfl (.refl _) (.not rfl) ?_
     refine .m rfl rfl rfl rfl (.refl _) (.move rfl) ?_
     refine .split (fun h28 => ?_) (fun h28 => ?_)
     ·
      simp only [B_iff, B_not, Bool.not_eq_true', Bool.not_eq_false'] at h28
      refine .sg rfl rfl rfl rfl rfl rfl ?_
      refine .sg rfl rfl rfl rfl rfl rfl ?_
      refine .sg rfl rfl rfl rfl rfl rfl ?_
      refine .sg rfl rfl rfl rfl rfl rfl ?_
      refine .sg rfl rfl rfl rfl rfl rfl ?_
      refine .sg rfl rfl rfl rfl rfl rfl ?_
      refine .sg rfl rfl rfl rfl rfl rfl ?_
      refine .sg rfl rfl rfl rfl rfl rfl ?_
      refine .sg rfl rfl rfl rfl rfl rfl ?_
      refine .sgc rfl rfl rfl rfl rfl rfl ?_
      refine .sg rfl rfl rfl rfl rfl rfl ?_
      refine .m rfl rfl rfl rfl (.refl _) (.pickT rfl rfl) ?_
      refine .done ?_
      refine hK10 _ _ ?_
      refine .condT rfl ?_
      refine .seq (fun K11 hK11 => ?_)
      refine .region ?_
      refine .m rfl rfl rfl (.assign rfl) ?_
      refine .nil ?_
      refine hK11 _ _ ?_
      refine .ret ?_
      -- leaf e2
      refine hret _ _ ?_
      refine ⟨_, rfl, ?_⟩
      exact ⟨congrArg _ (B_false fun hh => h28 (hh.rs k (by omega)).1), hle⟩
     ·
      simp only [B_iff, B_not, Bool.not_eq_true', Bool.not_eq_false'] at h28
      refine .mg rfl rfl rfl rfl rfl rfl (.refl _) (.fieldAddr fo_36_1_P rfl) ?_
      refine .mg rfl rfl rfl rfl rfl rfl (.refl _) (.load on_22_B rfl (by assumption)) ?_
      refine .mg rfl rfl rfl rfl rfl rfl (.refl _) (.move rfl) ?_
      refine .mg rfl rfl rfl rfl rfl rfl (.refl _) (.idxN sl_22_A (by assumption) rfl rfl (by omega)) ?_
      refine .mg rfl rfl rfl rfl rfl rfl (.refl _) (.loadI on_2_A (by assumption) rfl (by omega)) ?_
      refine .mg rfl rfl rfl rfl rfl rfl (.refl _) (.move rfl) ?_
      refine .mg rfl rfl rfl rfl rfl rfl (.refl _) (.move rfl) ?_
      refine .mg rfl rfl rfl rfl rfl rfl (.refl _) (.idxN sl_23_B (Intss.sl (by assumption)) rfl rfl (by omega)) ?_
      refine .mg rfl rfl rfl rfl rfl rfl (.refl _) (.loadR on_22_B (by assumption) rfl (by omega)) ?_
      refine .callQ0g rfl rfl rfl rfl rfl rfl rfl @Try.call46 rfl (l01Map_c) ?_
      refine .mg rfl rfl rfl rfl rfl rfl (.refl _) (.not rfl) ?_
      refine .m rfl rfl rfl rfl (.refl _) (.pickF rfl rfl) ?_
      refine .done ?_
      refine hK10 _ _ ?_
      refine .cond rfl (fun h40 => ?_) (fun h40 => ?_)
      ·
       simp only [B_iff, B_not, Bool.not_eq_true', Bool.not_eq_false'] at h40
       refine .seq (fun K12 hK12 => ?_)
       refine .region ?_
       refine .m rfl rfl rfl (.assign rfl) ?_
       refine .nil ?_
       refine hK12 _ _ ?_
       refine .ret ?_
       -- leaf e3
       refine hret _ _ ?_
       refine ⟨_, rfl, ?_⟩
       exact ⟨congrArg _ (B_false fun hh => by rw [(hh.rs k (by omega)).2] at h40; cases h40), hle⟩
      ·
       simp only [B_iff, B_not, Bool.not_eq_true', Bool.not_eq_false'] at h40
       refine .skip ?_
       refine hK9 _ _ ?_
       refine .region ?_
       refine .m rfl rfl rfl (.move rfl) ?_
       refine .m rfl rfl rfl (.add rfl rfl rfl (by omega) (by omega)) ?_
       refine .m rfl rfl rfl (.assign rfl) ?_
       refine .nil ?_
       refine hKL1 (k + 1) _ _ ?_ ?_ ⟨rfl, rfl, rfl, trivial⟩
       ·
        refine ⟨rfl, ?_⟩
        refine ⟨by omega, fun x hx => ?_⟩
        by_cases hltq : x < k
        · exact ha1 x hltq
        · obtain rfl : x = k := by omega
          exact ⟨h28, h40⟩
       ·
        omega
    ·
     try simp only [sps] at h19
     refine .exit ?_
     refine hK5 _ _ ?_
     refine .seq (fun K13 hK13 => ?_)
     refine .seq (fun K14 hK14 => ?_)
     refine .region ?_
     refine .m rfl rfl rfl (.assign rfl) ?_
     refine .nil ?_
     refine hK14 _ _ ?_
     refine .block ?_
     refine .loopR (σ := Nat) [(1, some _), (2, some _)] (fun b => [(6, some (.int .i64 (b : Int)))]) (fun b H' => H2 = H' ∧ (b : Int) ≤ f.ac.length ∧ ∀ a', a' < b → ∀ i, i < (me.getD (f.sh.src.getD a' 0).toNat []).length → (me.getD (f.sh.tgt.getD a' 0).toNat []).contains ((f.ac.getD a' []).getD ((me.getD (f.sh.src.getD a' 0).toNat []).getD i 0).toNat 0) = true) (fun b => (f.ac.length - b : Int).toNat) (0) ⟨rfl, rfl, trivial⟩ ⟨rfl, trivial⟩ ?_ ?_
     ·
      refine ⟨rfl, ?_⟩
      exact ⟨by omega, fun _ _ => by omega⟩
     ·
      rintro b _ ⟨rfl, hI⟩ KL2 hKL2
      refine .forget (fr' := [(6, some (.int .i64 (b : Int))), (1, some _), (2, some _)]) ⟨rfl, rfl, rfl, trivial⟩ ?_
      obtain ⟨hk2, ha2⟩ := hI
      refine .seq (fun K15 hK15 => ?_)
      refine .seq (fun K16 hK16 => ?_)
      refine .region ?_
      refine .m rfl rfl rfl (.move rfl) ?_
      refine .m rfl rfl rfl (.fieldAddr fo_36_2_P rfl) ?_
      refine .m rfl rfl rfl (.load on_23_B rfl (by assumption)) ?_
      refine .m rfl rfl rfl (.len sl_23_B rfl) ?_
      refine .m rfl rfl rfl (.cmp rfl rfl rfl) ?_
      refine .nil ?_
      refine hK16 _ _ ?_
      refine .cond rfl (fun h45 => ?_) (fun h45 => ?_)
      ·
       simp only [sps] at h45
       have r1 := hS.ends (a := b) (by omega)
       have r2 := hm.2 (f.sh.src.getD b 0).toNat (by omega)
       have r3 := hm.2 (f.sh.tgt.getD b 0).toNat (by omega)
       have r4 := i22.2 b (by omega)
       have r5 := w2 (f.sh.src.getD b 0).toNat
       have r6 := w2 (f.sh.tgt.getD b 0).toNat
       refine .skip ?_
       refine hK15 _ _ ?_
       refine .seq (fun K17 hK17 => ?_)
       refine .block ?_
       refine .seq (fun K18 hK18 => ?_)
       refine .regionD mixed_orders_B (.q 0 (.q 1 (.q 2 (.q 3 (.q 4 (.q 5 (.q 6 (.q 7 (.q 8 (.q 9 (.q 10 (.q 11 (.q 12 (.q 13 (.done))))))))))))))) (by kernel_rfl) ?_
       refine .m rfl rfl rfl rfl (.refl _) (.fieldAddr fo_36_0_P rfl) ?_
       refine .m rfl rfl rfl rfl (.refl _) (.fieldAddr fo_34_1_B rfl) ?_
       refine .m rfl rfl rfl rfl (.refl _) (.load on_22_B rfl (by assumption)) ?_
       refine .m rfl rfl rfl rfl (.refl _) (.move rfl) ?_
       refine .m rfl rfl rfl rfl (.refl _) (.idxN sl_22_A (by assumption) rfl rfl (by omega)) ?_
       refine .m rfl rfl rfl rfl (.refl _) (.loadI on_2_A (by assumption) rfl (by omega)) ?_
       refine .m rfl rfl rfl rfl (.refl _) (.fieldAddr fo_36_0_P rfl) ?_
       refine .m rfl rfl rfl rfl (.refl _) (.fieldAddr fo_34_2_B rfl) ?_
       refine .m rfl rfl rfl rfl (.refl _) (.load on_22_B rfl (by assumption)) ?_
       refine .m rfl rfl rfl rfl (.refl _) (.move rfl) ?_
       refine .m rfl rfl rfl rfl (.refl _) (.idxN sl_22_A (by assumption) rfl rfl (by omega)) ?_
       refine .m rfl rfl rfl rfl (.refl _) (.loadI on_2_A (by assumption) rfl (by omega)) ?_
       refine .m rfl rfl rfl rfl (.refl _) (.assign rfl) ?_
       refine .m rfl rfl rfl rfl (.refl _) (.assign rfl) ?_
       refine .done ?_
       refine hK18 _ _ ?_
       refine .seq (fun K19 hK19 => ?_)
       refine .region ?_
       refine .m rfl rfl rfl (.assign rfl) ?_
       refine .nil ?_
       refine hK19 _ _ ?_
       refine .block ?_
       refine .loopR (σ := Nat) [(1, some _), (2, some _), (6, some _), (7, some _), (8, some _)] (fun l => [(9, some (.int .i64 (l : Int)))]) (fun l H' => H2 = H' ∧ (l : Int) ≤ (me.getD (f.sh.src.getD b 0).toNat []).length ∧ ∀ i, i < l → (me.getD (f.sh.tgt.getD b 0).toNat []).contains ((f.ac.getD b []).getD ((me.getD (f.sh.src.getD b 0).toNat []).getD i 0).toNat 0) = true) (fun l => ((me.getD (f.sh.src.getD b 0).toNat []).length - l : Int).toNat) (0) ⟨rfl, rfl, rfl, rfl, rfl, trivial⟩ ⟨rfl, trivial⟩ ?_ ?_
       ·
        refine ⟨rfl, ?_⟩
        exact ⟨by omega, fun _ _ => by omega⟩
       ·
        rintro l _ ⟨rfl, hI⟩ KL3 hKL3
        refine .forget (fr' := [(9, some (.int .i64 (l : Int))), (1, some _), (2, some _), (6, some _), (7, some _), (8, some _)]) ⟨rfl, rfl, rfl, rfl, rfl, rfl, trivial⟩ ?_
        obtain ⟨hk3, ha3⟩ := hI
        refine .seq (fun K20 hK20 => ?_)
        refine .seq (fun K21 hK21 => ?_)
        refine .region ?_
        refine .m rfl rfl rfl (.move rfl) ?_
        refine .m rfl rfl rfl (.move rfl) ?_
        refine .m rfl rfl rfl (.move rfl) ?_
        refine .m rfl rfl rfl (.idx1 sl_23_B (Intss.sl (by assumption)) rfl rfl (by omega) (by omega)) ?_
        refine .m rfl rfl rfl (.loadR on_22_B (by assumption) rfl (by omega)) ?_
        refine .m rfl rfl rfl (.len sl_22_A rfl) ?_
        refine .m rfl rfl rfl (.cmp rfl rfl rfl) ?_
        refine .nil ?_
        refine hK21 _ _ ?_
        refine .cond rfl (fun h66 => ?_) (fun h66 => ?_)
        ·
         simp only [sps] at h66
         have u1 := allIn_iff.1 (ha1 (f.sh.src.getD b 0).toNat (by omega)).2 l (by omega)
         refine .skip ?_
         refine hK20 _ _ ?_
         refine .seq (fun K22 hK22 => ?_)
         refine .block ?_
         refine .seq (fun K23 hK23 => ?_)
         refine .regionD mixed_orders_B (.q 0 (.q 1 (.q 2 (.q 3 (.q 4 (.q 5 (.q 6 (.q 7 (.q 8 (.q 9 (.q 10 (.q 11 (.q 12 (.q 13 (.q 14 (.q 15 (.q 16 (.q 17 (.c 18 0 (.q 19 (.done))))))))))))))))))))) (by kernel_rfl) ?_
         refine .m rfl rfl rfl rfl (.refl _) (.move rfl) ?_
         refine .m rfl rfl rfl rfl (.refl _) (.move rfl) ?_
         refine .m rfl rfl rfl rfl (.refl _) (.idx1 sl_23_B (Intss.sl (by assumption)) rfl rfl (by omega) (by omega)) ?_
         refine .m rfl rfl rfl rfl (.refl _) (.loadR on_22_B (by assumption) rfl (by omega)) ?_
         refine .m rfl rfl rfl rfl (.refl _) (.fieldAddr fo_36_2_P rfl) ?_
         refine .m rfl rfl rfl rfl (.refl _) (.load on_23_B rfl (by assumption)) ?_
         refine .m rfl rfl rfl rfl (.refl _) (.move rfl) ?_
         refine .m rfl rfl rfl rfl (.refl _) (.idxN sl_23_B (Intss.sl (by assumption)) rfl rfl (by omega)) ?_
         refine .m rfl rfl rfl rfl (.refl _) (.loadR on_22_B (by assumption) rfl (by omega)) ?_
         refine .m rfl rfl rfl rfl (.refl _) (.move rfl) ?_
         refine .m rfl rfl rfl rfl (.refl _) (.move rfl) ?_
         refine .m rfl rfl rfl rfl (.refl _) (.idx1 sl_23_B (Intss.sl (by assumption)) rfl rfl (by omega) (by omega)) ?_
         refine .m rfl rfl rfl rfl (.refl _) (.loadR on_22_B (by assumption) rfl (by omega)) ?_
         refine .m rfl rfl rfl rfl (.refl _) (.move rfl) ?_
         refine .m rfl rfl rfl rfl (.refl _) (.idxN sl_22_A (by assumption) rfl rfl (by omega)) ?_
         refine .m rfl rfl rfl rfl (.refl _) (.loadI on_2_A (by assumption) rfl (by omega)) ?_
         refine .m rfl rfl rfl rfl (.refl _) (.idx1 sl_22_A (by assumption) rfl rfl (by omega) (by omega)) ?_
         refine .m rfl rfl rfl rfl (.refl _) (.loadI on_2_A (by assumption) rfl (by omega)) ?_
         refine .callQ0 rfl rfl rfl rfl rfl @Try.call35 rfl (l01Has_c) ?_
         refine .m rfl rfl rfl rfl (.refl _) (.not rfl) ?_
         refine .done ?_
         refine hK23 _ _ ?_
         refine .cond rfl (fun h88 => ?_) (fun h88 => ?_)
         ·
          simp only [Bool.not_eq_true', Bool.not_eq_false'] at h88
          refine .seq (fun K24 hK24 => ?_)
          refine .region ?_
          refine .m rfl rfl rfl (.assign rfl) ?_
          refine .nil ?_
          refine hK24 _ _ ?_
          refine .ret ?_
          -- leaf e4
          refine hret _ _ ?_
          refine ⟨_, rfl, ?_⟩
          exact ⟨congrArg _ (B_false fun hh => by rw [hh.cl b (by omega) l (by omega)] at h88; cases h88), hle⟩
         ·
          simp only [Bool.not_eq_true', Bool.not_eq_false'] at h88
          refine .skip ?_
          refine hK22 _ _ ?_
          refine .region ?_
          refine .m rfl rfl rfl (.move rfl) ?_
          refine .m rfl rfl rfl (.add rfl rfl rfl (by omega) (by omega)) ?_
          refine .m rfl rfl rfl (.assign rfl) ?_
          refine .nil ?_
          refine hKL3 (l + 1) _ _ ?_ ?_ ⟨rfl, rfl, rfl, rfl, rfl, rfl, trivial⟩
          ·
           refine ⟨rfl, ?_⟩
           refine ⟨by omega, fun i hx => ?_⟩
           by_cases hltq : i < l
           · exact ha3 i hltq
           · obtain rfl : i = l := by omega
             exact h88
          ·
           omega
        ·
         try simp only [sps] at h66
         refine .exit ?_
         refine hK17 _ _ ?_
         refine .region ?_
         refine .m rfl rfl rfl (.move rfl) ?_
         refine .m rfl rfl rfl (.add rfl rfl rfl (by omega) (by omega)) ?_
         refine .m rfl rfl rfl (.assign rfl) ?_
         refine .nil ?_
         refine hKL2 (b + 1) _ _ ?_ ?_ ⟨rfl, rfl, rfl, trivial⟩
         ·
          refine ⟨rfl, ?_⟩
          refine ⟨by omega, fun a' hx => ?_⟩
          by_cases hltq : a' < b
          · exact ha2 a' hltq
          · obtain rfl : a' = b := by omega
            exact fun i hi => ha3 i (by omega)
         ·
          omega
      ·
       try simp only [sps] at h45
       refine .exit ?_
       refine hK13 _ _ ?_
       refine .seq (fun K25 hK25 => ?_)
       refine .region ?_
       refine .m rfl rfl rfl (.assign rfl) ?_
       refine .nil ?_
       refine hK25 _ _ ?_
       refine .ret ?_
       -- leaf e5
       refine hret _ _ ?_
       refine ⟨_, rfl, ?_⟩
       exact ⟨congrArg _ (B_true ⟨by omega, fun x hx => ha1 x (by omega), fun a ha => ha2 a (by omega)⟩), hle⟩
theorem specIsPart_c {f : SFun} {p : SFunP} {m : Prt} {q : PrtP} {H : GHeap} (hin : f.In H p := by assumption) (hin' : m.In H q := by assumption) (hs : f.Small := by assumption) (hs' : m.Small := by assumption) :
    GCalls Try.prog 33 [.agg (f.cells p).toArray, .agg (m.cells q).toArray] H (Ret (.bool (B (f.Is ∧ f.Part m.me))) H) := by
  refine GCalls.ret rfl ?_
  obtain ⟨w1, w2⟩ := hs'
  refine GCalls.body (N := 13) (rs := [.tmp 4]) Try.func33 rfl rfl rfl rfl (fun Qx hret hend => ?_)
  refine .forget (fr' := [(0, some _), (1, some _)]) ⟨rfl, rfl, trivial⟩ ?_
  have hle := GHeap.Le.refl H
  have base_hin := hin
  have base_hin' := hin'
  refine .seq (fun K1 hK1 => ?_)
  refine .region ?_
  refine .r rfl rfl rfl (.boxR rfl sz_36_VSFun rfl) ?_
  rintro _ H2 ⟨g2, rfl, le2, ge2, at2⟩
  have nx_H2 := le2.1
  replace hle := hle.trans le2
  have lt_at2 := GHeap.lt_of_get at2
  replace hin := base_hin.mono hle
  replace hin' := base_hin'.mono hle
  have hb2 : SFun.At _ g2 0 f p := ⟨Mem.of_get at2, hin⟩
  obtain ⟨fsh2, c52, c62, i12, i22⟩ := hb2.get
  have hm2 : MemN _ _ _ _ _ := ⟨rfl, hb2.1⟩
  have hi2 := hb2.2
  have hmsh2 : MemN _ _ _ _ _ := ⟨rfl, fsh2.1⟩
  have hish2 := fsh2.2
  refine .r rfl rfl rfl (.boxR rfl sz_38_VPrt rfl) ?_
  rintro _ H3 ⟨g3, rfl, le3, ge3, at3⟩
  have nx_H3 := le3.1
  replace hle := hle.trans le3
  replace at2 := le3.2 _ _ at2
  have lt_at3 := GHeap.lt_of_get at3
  replace hin := base_hin.mono hle
  replace hin' := base_hin'.mono hle
  clear hb2 fsh2 c52 c62 i12 i22 hm2 hi2 hmsh2 hish2
  have hb2 : SFun.At _ g2 0 f p := ⟨Mem.of_get at2, hin⟩
  obtain ⟨fsh2, c52, c62, i12, i22⟩ := hb2.get
  have hm2 : MemN _ _ _ _ _ := ⟨rfl, hb2.1⟩
  have hi2 := hb2.2
  have hmsh2 : MemN _ _ _ _ _ := ⟨rfl, fsh2.1⟩
  have hish2 := fsh2.2
  have hb3 : Prt.At _ g3 0 m q := ⟨Mem.of_get at3, hin'⟩
  obtain ⟨c03, i03⟩ := hb3.get
  have hm3 : MemN _ _ _ _ _ := ⟨rfl, hb3.1⟩
  have hi3 := hb3.2
  refine .m rfl rfl rfl (.assign rfl) ?_
  refine .nil ?_
  refine hK1 _ _ ?_
  refine .seq (fun K2 hK2 => ?_)
  refine .region ?_
  refine .m rfl rfl rfl (.loadM ag_36_VSFun rfl ⟨rfl, Mem.of_get at2⟩) ?_
  refine .callQ rfl rfl rfl rfl @Try.call44 rfl (l19Is_c) ?_
  refine .m rfl rfl rfl (.move rfl) ?_
  refine .split (fun h7 => ?_) (fun h7 => ?_)
  ·
   simp only [sps] at h7
   refine .mg rfl rfl rfl rfl rfl (.loadM ag_36_VSFun rfl ⟨rfl, Mem.of_get at2⟩) ?_
   refine .mg rfl rfl rfl rfl rfl (.fieldAddr fo_38_0_VPrt rfl) ?_
   refine .mg rfl rfl rfl rfl rfl (.load on_23_B rfl (by assumption)) ?_
   refine .callQg rfl rfl rfl rfl rfl rfl @Try.call34 rfl (l25Part_c) ?_
   refine .m rfl rfl rfl (.pickT rfl rfl) ?_
   refine .m rfl rfl rfl (.assign rfl) ?_
   refine .nil ?_
   refine hK2 _ _ ?_
   refine .ret ?_
   -- leaf e1
   refine hret _ _ ?_
   refine ⟨_, rfl, ?_⟩
   first
   | exact ⟨congrArg _ (B_congr ⟨fun hh => hh.2, fun hf => ⟨h7, hf⟩⟩), hle⟩
   | exact ⟨congrArg _ (B_false fun hh => h7 hh.1), hle⟩
  ·
   simp only [sps] at h7
   refine .sg rfl rfl rfl rfl rfl ?_
   refine .sg rfl rfl rfl rfl rfl ?_
   refine .sg rfl rfl rfl rfl rfl ?_
   refine .sg rfl rfl rfl rfl rfl ?_
   refine .m rfl rfl rfl (.pickF rfl rfl) ?_
   refine .m rfl rfl rfl (.assign rfl) ?_
   refine .nil ?_
   refine hK2 _ _ ?_
   refine .ret ?_
   -- leaf e2
   refine hret _ _ ?_
   refine ⟨_, rfl, ?_⟩
   first
   | exact ⟨congrArg _ (B_congr ⟨fun hh => hh.2, fun hf => ⟨h7, hf⟩⟩), hle⟩
   | exact ⟨congrArg _ (B_false fun hh => h7 hh.1), hle⟩
theorem l26Below_c {me me' : List (List Int)} {a a' : Option Addr} {r r' : Nat → Option Addr} {H : GHeap} (hm : Intss H a me r := by assumption) (hm' : Intss H a' me' r' := by assumption) (w1 : me.length ≤ 1048576 := by omega) (w2 : ∀ i, (me.getD i []).length ≤ 1048576 := by assumption) (v2 : ∀ i, (me'.getD i []).length ≤ 1048576 := by assumption) (hx : me.length = me'.length := by assumption) :
    GCalls Try.prog 22 [.slice a me.length me.length, .slice a' me'.length me'.length] H (Ret (.bool (B (BelowL me me'))) H) := by
  refine GCalls.body (N := 35) (rs := [.tmp 4]) Try.func22 rfl rfl rfl rfl (fun Qx hret hend => ?_)
  refine .forget (fr' := [(0, some _), (1, some _)]) ⟨rfl, rfl, trivial⟩ ?_
  refine .seq (fun K1 hK1 => ?_)
  refine .region ?_
  refine .m rfl rfl rfl (.assign rfl) ?_
  refine .nil ?_
  refine hK1 _ _ ?_
  refine .seq (fun K2 hK2 => ?_)
  refine .seq (fun K3 hK3 => ?_)
  refine .region ?_
  refine .m rfl rfl rfl (.assign rfl) ?_
  refine .nil ?_
  refine hK3 _ _ ?_
  refine .block ?_
  refine .loopR (σ := Nat) [(0, some _), (1, some _)] (fun k => [(5, some (.int .i64 (k : Int)))]) (fun k H' => H = H' ∧ (k : Int) ≤ me.length ∧ ∀ x, x < k → ∀ i, i < (me.getD x []).length → (me'.getD x []).contains ((me.getD x []).getD i 0) = true) (fun k => (me.length - k : Int).toNat) (0) ⟨rfl, rfl, trivial⟩ ⟨rfl, trivial⟩ ?_ ?_
  ·
   refine ⟨rfl, ?_⟩
   exact ⟨by omega, fun _ _ => by omega⟩
  ·
   rintro k _ ⟨rfl, hI⟩ KL1 hKL1
   refine .forget (fr' := [(5, some (.int .i64 (k : Int))), (0, some _), (1, some _)]) ⟨rfl, rfl, rfl, trivial⟩ ?_
   obtain ⟨hk1, ha1⟩ := hI
   refine .seq (fun K4 hK4 => ?_)
   refine .seq (fun K5 hK5 => ?_)
   refine .region ?_
   refine .m rfl rfl rfl (.move rfl) ?_
   refine .m rfl rfl rfl (.move rfl) ?_
   refine .m rfl rfl rfl (.len sl_23_B rfl) ?_
   refine .m rfl rfl rfl (.cmp rfl rfl rfl) ?_
   refine .nil ?_
   refine hK5 _ _ ?_
   refine .cond rfl (fun h10 => ?_) (fun h10 => ?_)
   ·
    simp only [sps] at h10
    have r1 := hm.2 k (by omega)
    have r2 := hm'.2 k (by omega)
    have r3 := w2 k
    have r4 := v2 k
    refine .skip ?_
    refine hK4 _ _ ?_
    refine .seq (fun K6 hK6 => ?_)
    refine .block ?_
    refine .seq (fun K7 hK7 => ?_)
    refine .region ?_
    refine .m rfl rfl rfl (.assign rfl) ?_
    refine .nil ?_
    refine hK7 _ _ ?_
    refine .block ?_
    refine .loopR (σ := Nat) [(0, some _), (1, some _), (5, some _)] (fun l => [(6, some (.int .i64 (l : Int)))]) (fun l H' => H = H' ∧ (l : Int) ≤ (me.getD k []).length ∧ ∀ i, i < l → (me'.getD k []).contains ((me.getD k []).getD i 0) = true) (fun l => ((me.getD k []).length - l : Int).toNat) (0) ⟨rfl, rfl, rfl, trivial⟩ ⟨rfl, trivial⟩ ?_ ?_
    ·
     refine ⟨rfl, ?_⟩
     exact ⟨by omega, fun _ _ => by omega⟩
    ·
     rintro l _ ⟨rfl, hI⟩ KL2 hKL2
     refine .forget (fr' := [(6, some (.int .i64 (l : Int))), (0, some _), (1, some _), (5, some _)]) ⟨rfl, rfl, rfl, rfl, trivial⟩ ?_
     obtain ⟨hk2, ha2⟩ := hI
     refine .seq (fun K8 hK8 => ?_)
     refine .seq (fun K9 hK9 => ?_)
     refine .region ?_
     refine .m rfl rfl rfl (.move rfl) ?_
     refine .m rfl rfl rfl (.move rfl) ?_
     refine .m rfl rfl rfl (.move rfl) ?_
     refine .m rfl rfl rfl (.idxN sl_23_B (Intss.sl (by assumption)) rfl rfl (by omega)) ?_
     refine .m rfl rfl rfl (.loadR on_22_B (by assumption) rfl (by omega)) ?_
     refine .m rfl rfl rfl (.len sl_22_A rfl) ?_
     refine .m rfl rfl rfl (.cmp rfl rfl rfl) ?_
     refine .nil ?_
     refine hK9 _ _ ?_
     refine .cond rfl (fun h19 => ?_) (fun h19 => ?_)
     ·
      try simp only [sps] at h19
      refine .skip ?_
      refine hK8 _ _ ?_
      refine .seq (fun K10 hK10 => ?_)
      refine .block ?_
      refine .seq (fun K11 hK11 => ?_)
      refine .regionD mixed_orders_B (.q 0 (.q 1 (.q 2 (.q 3 (.q 4 (.q 5 (.q 6 (.q 7 (.q 8 (.q 9 (.q 10 (.c 11 0 (.q 12 (.done)))))))))))))) (by kernel_rfl) ?_
      refine .m rfl rfl rfl rfl (.refl _) (.move rfl) ?_
      refine .m rfl rfl rfl rfl (.refl _) (.move rfl) ?_
      refine .m rfl rfl rfl rfl (.refl _) (.idxN sl_23_B (Intss.sl (by assumption)) rfl rfl (by omega)) ?_
      refine .m rfl rfl rfl rfl (.refl _) (.loadR on_22_B (by assumption) rfl (by omega)) ?_
      refine .m rfl rfl rfl rfl (.refl _) (.move rfl) ?_
      refine .m rfl rfl rfl rfl (.refl _) (.move rfl) ?_
      refine .m rfl rfl rfl rfl (.refl _) (.idxN sl_23_B (Intss.sl (by assumption)) rfl rfl (by omega)) ?_
      refine .m rfl rfl rfl rfl (.refl _) (.loadR on_22_B (by assumption) rfl (by omega)) ?_
      refine .m rfl rfl rfl rfl (.refl _) (.move rfl) ?_
      refine .m rfl rfl rfl rfl (.refl _) (.idxN sl_22_A (by assumption) rfl rfl (by omega)) ?_
      refine .m rfl rfl rfl rfl (.refl _) (.loadI on_2_A (by assumption) rfl (by omega)) ?_
      refine .callQ0 rfl rfl rfl rfl rfl @Try.call35 rfl (l01Has_c) ?_
      refine .m rfl rfl rfl rfl (.refl _) (.not rfl) ?_
      refine .done ?_
      refine hK11 _ _ ?_
      refine .cond rfl (fun h34 => ?_) (fun h34 => ?_)
      ·
       simp only [Bool.not_eq_true', Bool.not_eq_false'] at h34
       refine .seq (fun K12 hK12 => ?_)
       refine .region ?_
       refine .m rfl rfl rfl (.assign rfl) ?_
       refine .nil ?_
       refine hK12 _ _ ?_
       refine .ret ?_
       -- leaf e1
       refine hret _ _ ?_
       refine ⟨_, rfl, ?_⟩
       exact .of (congrArg _ (B_false fun hh => by rw [hh k (by omega) l (by omega)] at h34; cases h34))
      ·
       simp only [Bool.not_eq_true', Bool.not_eq_false'] at h34
       refine .skip ?_
       refine hK10 _ _ ?_
       refine .region ?_
       refine .m rfl rfl rfl (.move rfl) ?_
       refine .m rfl rfl rfl (.add rfl rfl rfl (by omega) (by omega)) ?_
       refine .m rfl rfl rfl (.assign rfl) ?_
       refine .nil ?_
       refine hKL2 (l + 1) _ _ ?_ ?_ ⟨rfl, rfl, rfl, rfl, trivial⟩
       ·
        refine ⟨rfl, ?_⟩
        refine ⟨by omega, fun i hx => ?_⟩
        by_cases hltq : i < l
        · exact ha2 i hltq
        · obtain rfl : i = l := by omega
          exact h34
       ·
        omega
     ·
      try simp only [sps] at h19
      refine .exit ?_
      refine hK6 _ _ ?_
      refine .region ?_
      refine .m rfl rfl rfl (.move rfl) ?_
      refine .m rfl rfl rfl (.add rfl rfl rfl (by omega) (by omega)) ?_
      refine .m rfl rfl rfl (.assign rfl) ?_
      refine .nil ?_
      refine hKL1 (k + 1) _ _ ?_ ?_ ⟨rfl, rfl, rfl, trivial⟩
      ·
       refine ⟨rfl, ?_⟩
       refine ⟨by omega, fun x hx => ?_⟩
       by_cases hltq : x < k
       · exact ha1 x hltq
       · obtain rfl : x = k := by omega
         exact fun i hi => ha2 i (by omega)
      ·
       omega
   ·
    try simp only [sps] at h10
    refine .exit ?_
    refine hK2 _ _ ?_
    refine .seq (fun K13 hK13 => ?_)
    refine .region ?_
    refine .m rfl rfl rfl (.assign rfl) ?_
    refine .nil ?_
    refine hK13 _ _ ?_
    refine .ret ?_
    -- leaf e2
    refine hret _ _ ?_
    refine ⟨_, rfl, ?_⟩
    exact .of (congrArg _ (B_true fun x hx => ha1 x (by omega)))
theorem l26Two_c {f : SFun} {p : SFunP} {m m' : Prt} {q q' : PrtP} {H : GHeap} (hin : f.In H p := by assumption) (hin1 : m.In H q := by assumption) (hin2 : m'.In H q' := by assumption) (hs : f.Small := by assumption) (hs1 : m.Small := by assumption) (hs2 : m'.Small := by assumption) :
    GCalls Try.prog 21 [.agg (f.cells p).toArray, .agg (m.cells q).toArray, .agg (m'.cells q').toArray] H (Ret (.bool (B (f.Is ∧ f.Part m.me ∧ f.Part m'.me))) H) := by
  refine GCalls.ret rfl ?_
  have hs2' := hs2
  obtain ⟨w1, w2⟩ := hs2'
  refine GCalls.body (N := 16) (rs := [.tmp 6]) Try.func21 rfl rfl rfl rfl (fun Qx hret hend => ?_)
  refine .forget (fr' := [(0, some _), (1, some _), (2, some _)]) ⟨rfl, rfl, rfl, trivial⟩ ?_
  have hle := GHeap.Le.refl H
  have base_hin := hin
  have base_hin1 := hin1
  have base_hin2 := hin2
  refine .seq (fun K1 hK1 => ?_)
  refine .region ?_
  refine .r rfl rfl rfl (.boxR rfl sz_36_VSFun rfl) ?_
  rintro _ H3 ⟨g3, rfl, le3, ge3, at3⟩
  have nx_H3 := le3.1
  replace hle := hle.trans le3
  have lt_at3 := GHeap.lt_of_get at3
  replace hin := base_hin.mono hle
  replace hin1 := base_hin1.mono hle
  replace hin2 := base_hin2.mono hle
  have hb3 : SFun.At _ g3 0 f p := ⟨Mem.of_get at3, hin⟩
  obtain ⟨fsh3, c53, c63, i13, i23⟩ := hb3.get
  have hm3 : MemN _ _ _ _ _ := ⟨rfl, hb3.1⟩
  have hi3 := hb3.2
  have hmsh3 : MemN _ _ _ _ _ := ⟨rfl, fsh3.1⟩
  have hish3 := fsh3.2
  refine .r rfl rfl rfl (.boxR rfl sz_38_VPrt rfl) ?_
  rintro _ H4 ⟨g4, rfl, le4, ge4, at4⟩
  have nx_H4 := le4.1
  replace hle := hle.trans le4
  replace at3 := le4.2 _ _ at3
  have lt_at4 := GHeap.lt_of_get at4
  replace hin := base_hin.mono hle
  replace hin1 := base_hin1.mono hle
  replace hin2 := base_hin2.mono hle
  clear hb3 fsh3 c53 c63 i13 i23 hm3 hi3 hmsh3 hish3
  have hb3 : SFun.At _ g3 0 f p := ⟨Mem.of_get at3, hin⟩
  obtain ⟨fsh3, c53, c63, i13, i23⟩ := hb3.get
  have hm3 : MemN _ _ _ _ _ := ⟨rfl, hb3.1⟩
  have hi3 := hb3.2
  have hmsh3 : MemN _ _ _ _ _ := ⟨rfl, fsh3.1⟩
  have hish3 := fsh3.2
  have hb4 : Prt.At _ g4 0 m q := ⟨Mem.of_get at4, hin1⟩
  obtain ⟨c04, i04⟩ := hb4.get
  have hm4 : MemN _ _ _ _ _ := ⟨rfl, hb4.1⟩
  have hi4 := hb4.2
  refine .r rfl rfl rfl (.boxR rfl sz_38_VPrt rfl) ?_
  rintro _ H5 ⟨g5, rfl, le5, ge5, at5⟩
  have nx_H5 := le5.1
  replace hle := hle.trans le5
  replace at3 := le5.2 _ _ at3
  replace at4 := le5.2 _ _ at4
  have lt_at5 := GHeap.lt_of_get at5
  replace hin := base_hin.mono hle
  replace hin1 := base_hin1.mono hle
  replace hin2 := base_hin2.mono hle
  clear hb3 fsh3 c53 c63 i13 i23 hm3 hi3 hmsh3 hish3
  have hb3 : SFun.At _ g3 0 f p := ⟨Mem.of_get at3, hin⟩
  obtain ⟨fsh3, c53, c63, i13, i23⟩ := hb3.get
  have hm3 : MemN _ _ _ _ _ := ⟨rfl, hb3.1⟩
  have hi3 := hb3.2
  have hmsh3 : MemN _ _ _ _ _ := ⟨rfl, fsh3.1⟩
  have hish3 := fsh3.2
  clear hb4 c04 i04 hm4 hi4
  have hb4 : Prt.At _ g4 0 m q := ⟨Mem.of_get at4, hin1⟩
  obtain ⟨c04, i04⟩ := hb4.get
  have hm4 : MemN _ _ _ _ _ := ⟨rfl, hb4.1⟩
  have hi4 := hb4.2
  have hb5 : Prt.At _ g5 0 m' q' := ⟨Mem.of_get at5, hin2⟩
  obtain ⟨c05, i05⟩ := hb5.get
  have hm5 : MemN _ _ _ _ _ := ⟨rfl, hb5.1⟩
  have hi5 := hb5.2
  refine .m rfl rfl rfl (.assign rfl) ?_
  refine .nil ?_
  refine hK1 _ _ ?_
  refine .seq (fun K2 hK2 => ?_)
  refine .region ?_
  refine .m rfl rfl rfl (.loadM ag_36_VSFun rfl ⟨rfl, Mem.of_get at3⟩) ?_
  refine .m rfl rfl rfl (.loadM ag_38_VPrt rfl ⟨rfl, Mem.of_get at4⟩) ?_
  refine .callQ rfl rfl rfl rfl @Try.call33 rfl (specIsPart_c) ?_
  refine .m rfl rfl rfl (.move rfl) ?_
  refine .split (fun h10 => ?_) (fun h10 => ?_)
  ·
   simp only [sps] at h10
   have hI := h10.1
   refine .mg rfl rfl rfl rfl rfl (.loadM ag_36_VSFun rfl ⟨rfl, Mem.of_get at3⟩) ?_
   refine .mg rfl rfl rfl rfl rfl (.fieldAddr fo_38_0_VPrt rfl) ?_
   refine .mg rfl rfl rfl rfl rfl (.load on_23_B rfl (by assumption)) ?_
   refine .callQg rfl rfl rfl rfl rfl rfl @Try.call34 rfl (l25Part_c) ?_
   refine .m rfl rfl rfl (.pickT rfl rfl) ?_
   refine .m rfl rfl rfl (.assign rfl) ?_
   refine .nil ?_
   refine hK2 _ _ ?_
   refine .ret ?_
   -- leaf e1
   refine hret _ _ ?_
   refine ⟨_, rfl, ?_⟩
   first
   | exact ⟨congrArg _ (B_congr ⟨fun hh => hh.2.2, fun hf => ⟨h10.1, h10.2, hf⟩⟩), hle⟩
   | exact ⟨congrArg _ (B_false fun hh => h10 ⟨hh.1, hh.2.1⟩), hle⟩
  ·
   simp only [sps] at h10
   refine .sg rfl rfl rfl rfl rfl ?_
   refine .sg rfl rfl rfl rfl rfl ?_
   refine .sg rfl rfl rfl rfl rfl ?_
   refine .sg rfl rfl rfl rfl rfl ?_
   refine .m rfl rfl rfl (.pickF rfl rfl) ?_
   refine .m rfl rfl rfl (.assign rfl) ?_
   refine .nil ?_
   refine hK2 _ _ ?_
   refine .ret ?_
   -- leaf e2
   refine hret _ _ ?_
   refine ⟨_, rfl, ?_⟩
   first
   | exact ⟨congrArg _ (B_congr ⟨fun hh => hh.2.2, fun hf => ⟨h10.1, h10.2, hf⟩⟩), hle⟩
   | exact ⟨congrArg _ (B_false fun hh => h10 ⟨hh.1, hh.2.1⟩), hle⟩
theorem specIsBelow_c {f : SFun} {p : SFunP} {m m' : Prt} {q q' : PrtP} {H : GHeap} (hin : f.In H p := by assumption) (hin1 : m.In H q := by assumption) (hin2 : m'.In H q' := by assumption) (hs : f.Small := by assumption) (hs1 : m.Small := by assumption) (hs2 : m'.Small := by assumption) :
    GCalls Try.prog 7 [.agg (f.cells p).toArray, .agg (m.cells q).toArray, .agg (m'.cells q').toArray] H (Ret (.tuple #[.bool (B (f.Is ∧ f.Part m.me ∧ f.Part m'.me) && B (BelowL m.me m'.me)), .int .i64 (bif B (f.Is ∧ f.Part m.me ∧ f.Part m'.me) then 0 else 1)]) H) := by
  refine GCalls.ret rfl ?_
  have hs1' := hs1
  have hs2' := hs2
  obtain ⟨w1, w2⟩ := hs1'
  obtain ⟨v1, v2⟩ := hs2'
  refine GCalls.body (N := 18) (rs := [.tmp 6, .tmp 7]) Try.func7 rfl rfl rfl rfl (fun Qx hret hend => ?_)
  refine .forget (fr' := [(0, some _), (1, some _), (2, some _)]) ⟨rfl, rfl, rfl, trivial⟩ ?_
  have hle := GHeap.Le.refl H
  have base_hin := hin
  have base_hin1 := hin1
  have base_hin2 := hin2
  refine .seq (fun K1 hK1 => ?_)
  refine .region ?_
  refine .r rfl rfl rfl (.boxR rfl sz_36_VSFun rfl) ?_
  rintro _ H3 ⟨g3, rfl, le3, ge3, at3⟩
  have nx_H3 := le3.1
  replace hle := hle.trans le3
  have lt_at3 := GHeap.lt_of_get at3
  replace hin := base_hin.mono hle
  replace hin1 := base_hin1.mono hle
  replace hin2 := base_hin2.mono hle
  have hb3 : SFun.At _ g3 0 f p := ⟨Mem.of_get at3, hin⟩
  obtain ⟨fsh3, c53, c63, i13, i23⟩ := hb3.get
  have hm3 : MemN _ _ _ _ _ := ⟨rfl, hb3.1⟩
  have hi3 := hb3.2
  have hmsh3 : MemN _ _ _ _ _ := ⟨rfl, fsh3.1⟩
  have hish3 := fsh3.2
  refine .r rfl rfl rfl (.boxR rfl sz_38_VPrt rfl) ?_
  rintro _ H4 ⟨g4, rfl, le4, ge4, at4⟩
  have nx_H4 := le4.1
  replace hle := hle.trans le4
  replace at3 := le4.2 _ _ at3
  have lt_at4 := GHeap.lt_of_get at4
  replace hin := base_hin.mono hle
  replace hin1 := base_hin1.mono hle
  replace hin2 := base_hin2.mono hle
  clear hb3 fsh3 c53 c63 i13 i23 hm3 hi3 hmsh3 hish3
  have hb3 : SFun.At _ g3 0 f p := ⟨Mem.of_get at3, hin⟩
  obtain ⟨fsh3, c53, c63, i13, i23⟩ := hb3.get
  have hm3 : MemN _ _ _ _ _ := ⟨rfl, hb3.1⟩
  have hi3 := hb3.2
  have hmsh3 : MemN _ _ _ _ _ := ⟨rfl, fsh3.1⟩
  have hish3 := fsh3.2
  have hb4 : Prt.At _ g4 0 m q := ⟨Mem.of_get at4, hin1⟩
  obtain ⟨c04, i04⟩ := hb4.get
  have hm4 : MemN _ _ _ _ _ := ⟨rfl, hb4.1⟩
  have hi4 := hb4.2
  refine .r rfl rfl rfl (.boxR rfl sz_38_VPrt rfl) ?_
  rintro _ H5 ⟨g5, rfl, le5, ge5, at5⟩
  have nx_H5 := le5.1
  replace hle := hle.trans le5
  replace at3 := le5.2 _ _ at3
  replace at4 := le5.2 _ _ at4
  have lt_at5 := GHeap.lt_of_get at5
  replace hin := base_hin.mono hle
  replace hin1 := base_hin1.mono hle
  replace hin2 := base_hin2.mono hle
  clear hb3 fsh3 c53 c63 i13 i23 hm3 hi3 hmsh3 hish3
  have hb3 : SFun.At _ g3 0 f p := ⟨Mem.of_get at3, hin⟩
  obtain ⟨fsh3, c53, c63, i13, i23⟩ := hb3.get
  have hm3 : MemN _ _ _ _ _ := ⟨rfl, hb3.1⟩
  have hi3 := hb3.2
  have hmsh3 : MemN _ _ _ _ _ := ⟨rfl, fsh3.1⟩
  have hish3 := fsh3.2
  clear hb4 c04 i04 hm4 hi4
  have hb4 : Prt.At _ g4 0 m q := ⟨Mem.of_get at4, hin1⟩
  obtain ⟨c04, i04⟩ := hb4.get
  have hm4 : MemN _ _ _ _ _ := ⟨rfl, hb4.1⟩
  have hi4 := hb4.2
  have hb5 : Prt.At _ g5 0 m' q' := ⟨Mem.of_get at5, hin2⟩
  obtain ⟨c05, i05⟩ := hb5.get
  have hm5 : MemN _ _ _ _ _ := ⟨rfl, hb5.1⟩
  have hi5 := hb5.2
  refine .m rfl rfl rfl (.assign rfl) ?_
  refine .m rfl rfl rfl (.assign rfl) ?_
  refine .nil ?_
  refine hK1 _ _ ?_
  refine .seq (fun K2 hK2 => ?_)
  refine .seq (fun K3 hK3 => ?_)
  refine .region ?_
  refine .m rfl rfl rfl (.loadM ag_36_VSFun rfl ⟨rfl, Mem.of_get at3⟩) ?_
  refine .m rfl rfl rfl (.loadM ag_38_VPrt rfl ⟨rfl, Mem.of_get at4⟩) ?_
  refine .m rfl rfl rfl (.loadM ag_38_VPrt rfl ⟨rfl, Mem.of_get at5⟩) ?_
  refine .callQ rfl rfl rfl rfl @Try.call21 rfl (l26Two_c) ?_
  refine .m rfl rfl rfl (.not rfl) ?_
  refine .nil ?_
  refine hK3 _ _ ?_
  refine .cond rfl (fun h12 => ?_) (fun h12 => ?_)
  ·
   try simp only [sps] at h12
   refine .seq (fun K4 hK4 => ?_)
   refine .region ?_
   refine .m rfl rfl rfl (.assign rfl) ?_
   refine .m rfl rfl rfl (.assign rfl) ?_
   refine .nil ?_
   refine hK4 _ _ ?_
   refine .ret ?_
   -- leaf e1
   refine hret _ _ ?_
   refine ⟨_, _, rfl, rfl, ?_⟩
   exact ⟨by rw [B_false h12]; rfl, hle⟩
  ·
   simp only [sps] at h12
   have hll : m.me.length = m'.me.length := h12.2.1.pl.trans h12.2.2.pl.symm
   refine .skip ?_
   refine hK2 _ _ ?_
   refine .seq (fun K5 hK5 => ?_)
   refine .region ?_
   refine .m rfl rfl rfl (.fieldAddr fo_38_0_VPrt rfl) ?_
   refine .m rfl rfl rfl (.load on_23_B rfl (by assumption)) ?_
   refine .m rfl rfl rfl (.fieldAddr fo_38_0_VPrt rfl) ?_
   refine .m rfl rfl rfl (.load on_23_B rfl (by assumption)) ?_
   refine .callQ rfl rfl rfl rfl @Try.call22 rfl (l26Below_c) ?_
   refine .m rfl rfl rfl (.assign rfl) ?_
   refine .m rfl rfl rfl (.assign rfl) ?_
   refine .nil ?_
   refine hK5 _ _ ?_
   refine .ret ?_
   -- leaf e2
   refine hret _ _ ?_
   refine ⟨_, _, rfl, rfl, ?_⟩
   exact ⟨by rw [B_true h12]; rfl, hle⟩
theorem lawIsBelow_c {f : SFun} {p : SFunP} {m m' : Prt} {q q' : PrtP} {H : GHeap} (hin : f.In H p) (hw : f.Wide) (hin1 : m.In H q) (hw1 : m.Wide) (hin2 : m'.In H q') (hw2 : m'.Wide) :
    GCalls Try.prog 3 [.agg (f.cells p).toArray, .agg (m.cells q).toArray, .agg (m'.cells q').toArray] H (fun v _ => v = .bool true) := by
  refine GCalls.body (N := 76) (rs := [.tmp 6]) Try.func3 rfl rfl rfl rfl (fun Qx hret hend => ?_)
  refine .forget (fr' := [(0, some _), (1, some _), (2, some _)]) ⟨rfl, rfl, rfl, trivial⟩ ?_
  have hle := GHeap.Le.refl H
  have base_hin := hin
  have base_hin1 := hin1
  have base_hin2 := hin2
  refine .seq (fun K1 hK1 => ?_)
  refine .region ?_
  refine .r rfl rfl rfl (.boxR rfl sz_27_VSFun rfl) ?_
  rintro _ H3 ⟨g3, rfl, le3, ge3, at3⟩
  have nx_H3 := le3.1
  replace hle := hle.trans le3
  have lt_at3 := GHeap.lt_of_get at3
  replace hin := base_hin.mono hle
  replace hin1 := base_hin1.mono hle
  replace hin2 := base_hin2.mono hle
  have hb3 : SFun.At _ g3 0 f p := ⟨Mem.of_get at3, hin⟩
  obtain ⟨fsh3, c53, c63, i13, i23⟩ := hb3.get
  have hm3 : MemN _ _ _ _ _ := ⟨rfl, hb3.1⟩
  have hi3 := hb3.2
  have hmsh3 : MemN _ _ _ _ _ := ⟨rfl, fsh3.1⟩
  have hish3 := fsh3.2
  refine .r rfl rfl rfl (.boxR rfl sz_29_VPrt rfl) ?_
  rintro _ H4 ⟨g4, rfl, le4, ge4, at4⟩
  have nx_H4 := le4.1
  replace hle := hle.trans le4
  replace at3 := le4.2 _ _ at3
  have lt_at4 := GHeap.lt_of_get at4
  replace hin := base_hin.mono hle
  replace hin1 := base_hin1.mono hle
  replace hin2 := base_hin2.mono hle
  clear hb3 fsh3 c53 c63 i13 i23 hm3 hi3 hmsh3 hish3
  have hb3 : SFun.At _ g3 0 f p := ⟨Mem.of_get at3, hin⟩
  obtain ⟨fsh3, c53, c63, i13, i23⟩ := hb3.get
  have hm3 : MemN _ _ _ _ _ := ⟨rfl, hb3.1⟩
  have hi3 := hb3.2
  have hmsh3 : MemN _ _ _ _ _ := ⟨rfl, fsh3.1⟩
  have hish3 := fsh3.2
  have hb4 : Prt.At _ g4 0 m q := ⟨Mem.of_get at4, hin1⟩
  obtain ⟨c04, i04⟩ := hb4.get
  have hm4 : MemN _ _ _ _ _ := ⟨rfl, hb4.1⟩
  have hi4 := hb4.2
  refine .r rfl rfl rfl (.boxR rfl sz_29_VPrt rfl) ?_
  rintro _ H5 ⟨g5, rfl, le5, ge5, at5⟩
  have nx_H5 := le5.1
  replace hle := hle.trans le5
  replace at3 := le5.2 _ _ at3
  replace at4 := le5.2 _ _ at4
  have lt_at5 := GHeap.lt_of_get at5
  replace hin := base_hin.mono hle
  replace hin1 := base_hin1.mono hle
  replace hin2 := base_hin2.mono hle
  clear hb3 fsh3 c53 c63 i13 i23 hm3 hi3 hmsh3 hish3
  have hb3 : SFun.At _ g3 0 f p := ⟨Mem.of_get at3, hin⟩
  obtain ⟨fsh3, c53, c63, i13, i23⟩ := hb3.get
  have hm3 : MemN _ _ _ _ _ := ⟨rfl, hb3.1⟩
  have hi3 := hb3.2
  have hmsh3 : MemN _ _ _ _ _ := ⟨rfl, fsh3.1⟩
  have hish3 := fsh3.2
  clear hb4 c04 i04 hm4 hi4
  have hb4 : Prt.At _ g4 0 m q := ⟨Mem.of_get at4, hin1⟩
  obtain ⟨c04, i04⟩ := hb4.get
  have hm4 : MemN _ _ _ _ _ := ⟨rfl, hb4.1⟩
  have hi4 := hb4.2
  have hb5 : Prt.At _ g5 0 m' q' := ⟨Mem.of_get at5, hin2⟩
  obtain ⟨c05, i05⟩ := hb5.get
  have hm5 : MemN _ _ _ _ _ := ⟨rfl, hb5.1⟩
  have hi5 := hb5.2
  refine .m rfl rfl rfl (.assign rfl) ?_
  refine .nil ?_
  refine hK1 _ _ ?_
  refine .seq (fun K2 hK2 => ?_)
  refine .region ?_
  refine .m rfl rfl rfl (.assign rfl) ?_
  refine .nil ?_
  refine hK2 _ _ ?_
  refine .seq (fun K3 hK3 => ?_)
  refine .region ?_
  refine .m rfl rfl rfl (.loadM ag_27_VSMap rfl ⟨rfl, Mem.of_get at3⟩) ?_
  refine .m rfl rfl rfl (.move rfl) ?_
  refine .call rfl rfl rfl rfl @Try.call5 rfl (szSetFunctor_c) ?_
  rintro _ _ ⟨heq, lf17, rfl, z117, z217, z317⟩
  obtain rfl := heq.symm
  refine .m rfl rfl rfl (.assign rfl) ?_
  refine .nil ?_
  refine hK3 _ _ ?_
  refine .seq (fun K4 hK4 => ?_)
  refine .seq (fun K5 hK5 => ?_)
  refine .region ?_
  refine .m rfl rfl rfl (.move rfl) ?_
  refine .m rfl rfl rfl (.cmp rfl rfl rfl) ?_
  refine .nil ?_
  refine hK5 _ _ ?_
  refine .cond rfl (fun h19 => ?_) (fun h19 => ?_)
  ·
   try simp only [sps] at h19
   refine .seq (fun K6 hK6 => ?_)
   refine .region ?_
   refine .m rfl rfl rfl (.assign rfl) ?_
   refine .nil ?_
   refine hK6 _ _ ?_
   refine .ret ?_
   -- leaf e1
   refine hret _ _ ?_
   refine ⟨_, rfl, ?_⟩
   first
   | exact rfl
   | exact absurd trivial (by assumption)
   | contradiction
  ·
   try simp only [sps] at h19
   have hsm17 := z317 (by omega)
   refine .skip ?_
   refine hK4 _ _ ?_
   refine .seq (fun K7 hK7 => ?_)
   refine .region ?_
   refine .m rfl rfl rfl (.loadM ag_29_S rfl ⟨rfl, Mem.of_get at4⟩) ?_
   refine .m rfl rfl rfl (.move rfl) ?_
   refine .call rfl rfl rfl rfl @Try.call6 rfl (szPart_c) ?_
   rintro _ _ ⟨heq, lf22, rfl, z122, z222, z322⟩
   obtain rfl := heq.symm
   refine .m rfl rfl rfl (.assign rfl) ?_
   refine .nil ?_
   refine hK7 _ _ ?_
   refine .seq (fun K8 hK8 => ?_)
   refine .seq (fun K9 hK9 => ?_)
   refine .region ?_
   refine .m rfl rfl rfl (.move rfl) ?_
   refine .m rfl rfl rfl (.cmp rfl rfl rfl) ?_
   refine .nil ?_
   refine hK9 _ _ ?_
   refine .cond rfl (fun h24 => ?_) (fun h24 => ?_)
   ·
    try simp only [sps] at h24
    refine .seq (fun K10 hK10 => ?_)
    refine .region ?_
    refine .m rfl rfl rfl (.assign rfl) ?_
    refine .nil ?_
    refine hK10 _ _ ?_
    refine .ret ?_
    -- leaf e2
    refine hret _ _ ?_
    refine ⟨_, rfl, ?_⟩
    first
    | exact rfl
    | exact absurd trivial (by assumption)
    | contradiction
   ·
    try simp only [sps] at h24
    have hsm22 := z322 (by omega)
    refine .skip ?_
    refine hK8 _ _ ?_
    refine .seq (fun K11 hK11 => ?_)
    refine .region ?_
    refine .m rfl rfl rfl (.loadM ag_29_S rfl ⟨rfl, Mem.of_get at5⟩) ?_
    refine .m rfl rfl rfl (.move rfl) ?_
    refine .call rfl rfl rfl rfl @Try.call6 rfl (szPart_c) ?_
    rintro _ _ ⟨heq, lf27, rfl, z127, z227, z327⟩
    obtain rfl := heq.symm
    refine .m rfl rfl rfl (.assign rfl) ?_
    refine .nil ?_
    refine hK11 _ _ ?_
    refine .seq (fun K12 hK12 => ?_)
    refine .seq (fun K13 hK13 => ?_)
    refine .region ?_
    refine .m rfl rfl rfl (.move rfl) ?_
    refine .m rfl rfl rfl (.cmp rfl rfl rfl) ?_
    refine .nil ?_
    refine hK13 _ _ ?_
    refine .cond rfl (fun h29 => ?_) (fun h29 => ?_)
    ·
     try simp only [sps] at h29
     refine .seq (fun K14 hK14 => ?_)
     refine .region ?_
     refine .m rfl rfl rfl (.assign rfl) ?_
     refine .nil ?_
     refine hK14 _ _ ?_
     refine .ret ?_
     -- leaf e3
     refine hret _ _ ?_
     refine ⟨_, rfl, ?_⟩
     first
     | exact rfl
     | exact absurd trivial (by assumption)
     | contradiction
    ·
     try simp only [sps] at h29
     have hsm27 := z327 (by omega)
     refine .skip ?_
     refine hK12 _ _ ?_
     refine .seq (fun K15 hK15 => ?_)
     refine .regionD mixed_orders_B (.q 0 (.q 2 (.q 4 (.c 1 1 (.c 3 1 (.c 5 0 (.c 6 0 (.q 7 (.q 8 (.q 9 (.q 10 (.q 11 (.done))))))))))))) (by kernel_rfl) ?_
     refine .m rfl rfl rfl rfl (.refl _) (.loadM ag_27_VSMap rfl ⟨rfl, Mem.of_get at3⟩) ?_
     refine .m rfl rfl rfl rfl (.refl _) (.loadM ag_29_S rfl ⟨rfl, Mem.of_get at4⟩) ?_
     refine .m rfl rfl rfl rfl (.refl _) (.loadM ag_29_S rfl ⟨rfl, Mem.of_get at5⟩) ?_
     refine .call1 rfl rfl rfl rfl rfl @Try.call8 rfl (toSetFunctor_c) ?_
     rintro _ H32 ⟨le32, p32, rfl, v32⟩
     have hbl := le32
     refine ⟨hbl, ?_⟩
     have nx_H32 := le32.1
     replace hle := hle.trans le32
     replace at3 := le32.2 _ _ at3
     replace at4 := le32.2 _ _ at4
     replace at5 := le32.2 _ _ at5
     have bs_v32 := v32
     have lv_v32 : Keep H5.next H32 H32 := fun _ _ _ h => h
     replace hin := base_hin.mono hle
     replace hin1 := base_hin1.mono hle
     replace hin2 := base_hin2.mono hle
     clear hb3 fsh3 c53 c63 i13 i23 hm3 hi3 hmsh3 hish3
     have hb3 : SFun.At _ g3 0 f p := ⟨Mem.of_get at3, hin⟩
     obtain ⟨fsh3, c53, c63, i13, i23⟩ := hb3.get
     have hm3 : MemN _ _ _ _ _ := ⟨rfl, hb3.1⟩
     have hi3 := hb3.2
     have hmsh3 : MemN _ _ _ _ _ := ⟨rfl, fsh3.1⟩
     have hish3 := fsh3.2
     clear hb4 c04 i04 hm4 hi4
     have hb4 : Prt.At _ g4 0 m q := ⟨Mem.of_get at4, hin1⟩
     obtain ⟨c04, i04⟩ := hb4.get
     have hm4 : MemN _ _ _ _ _ := ⟨rfl, hb4.1⟩
     have hi4 := hb4.2
     clear hb5 c05 i05 hm5 hi5
     have hb5 : Prt.At _ g5 0 m' q' := ⟨Mem.of_get at5, hin2⟩
     obtain ⟨c05, i05⟩ := hb5.get
     have hm5 : MemN _ _ _ _ _ := ⟨rfl, hb5.1⟩
     have hi5 := hb5.2
     have i32 := v32.inn
     refine .call1 rfl rfl rfl rfl rfl @Try.call9 rfl (toPart_c) ?_
     rintro _ H34 ⟨le34, p34, rfl, v34⟩
     replace hbl := hbl.trans le34
     refine ⟨hbl, ?_⟩
     have nx_H34 := le34.1
     replace hle := hle.trans le34
     replace at3 := le34.2 _ _ at3
     replace at4 := le34.2 _ _ at4
     replace at5 := le34.2 _ _ at5
     replace lv_v32 := Keep.le lv_v32 le34
     replace v32 := bs_v32.keep lv_v32 (Nat.le_refl _)
     have bs_v34 := v34
     have lv_v34 : Keep H32.next H34 H34 := fun _ _ _ h => h
     replace hin := base_hin.mono hle
     replace hin1 := base_hin1.mono hle
     replace hin2 := base_hin2.mono hle
     clear hb3 fsh3 c53 c63 i13 i23 hm3 hi3 hmsh3 hish3
     have hb3 : SFun.At _ g3 0 f p := ⟨Mem.of_get at3, hin⟩
     obtain ⟨fsh3, c53, c63, i13, i23⟩ := hb3.get
     have hm3 : MemN _ _ _ _ _ := ⟨rfl, hb3.1⟩
     have hi3 := hb3.2
     have hmsh3 : MemN _ _ _ _ _ := ⟨rfl, fsh3.1⟩
     have hish3 := fsh3.2
     clear hb4 c04 i04 hm4 hi4
     have hb4 : Prt.At _ g4 0 m q := ⟨Mem.of_get at4, hin1⟩
     obtain ⟨c04, i04⟩ := hb4.get
     have hm4 : MemN _ _ _ _ _ := ⟨rfl, hb4.1⟩
     have hi4 := hb4.2
     clear hb5 c05 i05 hm5 hi5
     have hb5 : Prt.At _ g5 0 m' q' := ⟨Mem.of_get at5, hin2⟩
     obtain ⟨c05, i05⟩ := hb5.get
     have hm5 : MemN _ _ _ _ _ := ⟨rfl, hb5.1⟩
     have hi5 := hb5.2
     clear i32
     have i32 := v32.inn
     have i34 := v34.inn
     refine .call0 rfl rfl rfl rfl rfl @Try.call9 rfl (toPart_c) ?_
     rintro _ H36 ⟨le36, p36, rfl, v36⟩
     have nx_H36 := le36.1
     replace hle := hle.trans le36
     replace at3 := le36.2 _ _ at3
     replace at4 := le36.2 _ _ at4
     replace at5 := le36.2 _ _ at5
     replace lv_v32 := Keep.le lv_v32 le36
     replace v32 := bs_v32.keep lv_v32 (Nat.le_refl _)
     replace lv_v34 := Keep.le lv_v34 le36
     replace v34 := bs_v34.keep lv_v34 (Nat.le_refl _)
     have bs_v36 := v36
     have lv_v36 : Keep H34.next H36 H36 := fun _ _ _ h => h
     replace hin := base_hin.mono hle
     replace hin1 := base_hin1.mono hle
     replace hin2 := base_hin2.mono hle
     clear hb3 fsh3 c53 c63 i13 i23 hm3 hi3 hmsh3 hish3
     have hb3 : SFun.At _ g3 0 f p := ⟨Mem.of_get at3, hin⟩
     obtain ⟨fsh3, c53, c63, i13, i23⟩ := hb3.get
     have hm3 : MemN _ _ _ _ _ := ⟨rfl, hb3.1⟩
     have hi3 := hb3.2
     have hmsh3 : MemN _ _ _ _ _ := ⟨rfl, fsh3.1⟩
     have hish3 := fsh3.2
     clear hb4 c04 i04 hm4 hi4
     have hb4 : Prt.At _ g4 0 m q := ⟨Mem.of_get at4, hin1⟩
     obtain ⟨c04, i04⟩ := hb4.get
     have hm4 : MemN _ _ _ _ _ := ⟨rfl, hb4.1⟩
     have hi4 := hb4.2
     clear hb5 c05 i05 hm5 hi5
     have hb5 : Prt.At _ g5 0 m' q' := ⟨Mem.of_get at5, hin2⟩
     obtain ⟨c05, i05⟩ := hb5.get
     have hm5 : MemN _ _ _ _ _ := ⟨rfl, hb5.1⟩
     have hi5 := hb5.2
     clear i32
     have i32 := v32.inn
     clear i34
     have i34 := v34.inn
     have i36 := v36.inn
     refine .callQ0 rfl rfl rfl rfl rfl @Try.call7 rfl (specIsBelow_c) ?_
     refine .m rfl rfl rfl rfl (.refl _) (.move rfl) ?_
     refine .m rfl rfl rfl rfl (.refl _) (.extract rfl rfl) ?_
     refine .m rfl rfl rfl rfl (.refl _) (.extract rfl rfl) ?_
     refine .m rfl rfl rfl rfl (.refl _) (.assign rfl) ?_
     refine .m rfl rfl rfl rfl (.refl _) (.assign rfl) ?_
     refine .done ?_
     refine hK15 _ _ ?_
     refine .seq (fun K16 hK16 => ?_)
     refine .region ?_
     refine .m rfl rfl rfl (.loadM ag_27_VSMap rfl ⟨rfl, Mem.of_get at3⟩) ?_
     refine .call rfl rfl rfl rfl @Try.call8 rfl (toSetFunctor_c) ?_
     rintro _ H41 ⟨le41, p41, rfl, v41⟩
     have nx_H41 := le41.1
     replace hle := hle.trans le41
     replace at3 := le41.2 _ _ at3
     replace at4 := le41.2 _ _ at4
     replace at5 := le41.2 _ _ at5
     replace lv_v32 := Keep.le lv_v32 le41
     replace v32 := bs_v32.keep lv_v32 (Nat.le_refl _)
     replace lv_v34 := Keep.le lv_v34 le41
     replace v34 := bs_v34.keep lv_v34 (Nat.le_refl _)
     replace lv_v36 := Keep.le lv_v36 le41
     replace v36 := bs_v36.keep lv_v36 (Nat.le_refl _)
     have bs_v41 := v41
     have lv_v41 : Keep H36.next H41 H41 := fun _ _ _ h => h
     replace hin := base_hin.mono hle
     replace hin1 := base_hin1.mono hle
     replace hin2 := base_hin2.mono hle
     clear hb3 fsh3 c53 c63 i13 i23 hm3 hi3 hmsh3 hish3
     have hb3 : SFun.At _ g3 0 f p := ⟨Mem.of_get at3, hin⟩
     obtain ⟨fsh3, c53, c63, i13, i23⟩ := hb3.get
     have hm3 : MemN _ _ _ _ _ := ⟨rfl, hb3.1⟩
     have hi3 := hb3.2
     have hmsh3 : MemN _ _ _ _ _ := ⟨rfl, fsh3.1⟩
     have hish3 := fsh3.2
     clear hb4 c04 i04 hm4 hi4
     have hb4 : Prt.At _ g4 0 m q := ⟨Mem.of_get at4, hin1⟩
     obtain ⟨c04, i04⟩ := hb4.get
     have hm4 : MemN _ _ _ _ _ := ⟨rfl, hb4.1⟩
     have hi4 := hb4.2
     clear hb5 c05 i05 hm5 hi5
     have hb5 : Prt.At _ g5 0 m' q' := ⟨Mem.of_get at5, hin2⟩
     obtain ⟨c05, i05⟩ := hb5.get
     have hm5 : MemN _ _ _ _ _ := ⟨rfl, hb5.1⟩
     have hi5 := hb5.2
     clear i32
     have i32 := v32.inn
     clear i34
     have i34 := v34.inn
     clear i36
     have i36 := v36.inn
     have i41 := v41.inn
     refine .r rfl rfl rfl (.allocR rfl ze_36_VSFun rfl) ?_
     rintro _ H10 ⟨g10, rfl, le10, ge10, at10⟩
     have nx_H10 := le10.1
     replace hle := hle.trans le10
     replace at3 := le10.2 _ _ at3
     replace at4 := le10.2 _ _ at4
     replace at5 := le10.2 _ _ at5
     replace lv_v32 := Keep.le lv_v32 le10
     replace v32 := bs_v32.keep lv_v32 (Nat.le_refl _)
     replace lv_v34 := Keep.le lv_v34 le10
     replace v34 := bs_v34.keep lv_v34 (Nat.le_refl _)
     replace lv_v36 := Keep.le lv_v36 le10
     replace v36 := bs_v36.keep lv_v36 (Nat.le_refl _)
     replace lv_v41 := Keep.le lv_v41 le10
     replace v41 := bs_v41.keep lv_v41 (Nat.le_refl _)
     have lt_at10 := GHeap.lt_of_get at10
     replace hin := base_hin.mono hle
     replace hin1 := base_hin1.mono hle
     replace hin2 := base_hin2.mono hle
     clear hb3 fsh3 c53 c63 i13 i23 hm3 hi3 hmsh3 hish3
     have hb3 : SFun.At _ g3 0 f p := ⟨Mem.of_get at3, hin⟩
     obtain ⟨fsh3, c53, c63, i13, i23⟩ := hb3.get
     have hm3 : MemN _ _ _ _ _ := ⟨rfl, hb3.1⟩
     have hi3 := hb3.2
     have hmsh3 : MemN _ _ _ _ _ := ⟨rfl, fsh3.1⟩
     have hish3 := fsh3.2
     clear hb4 c04 i04 hm4 hi4
     have hb4 : Prt.At _ g4 0 m q := ⟨Mem.of_get at4, hin1⟩
     obtain ⟨c04, i04⟩ := hb4.get
     have hm4 : MemN _ _ _ _ _ := ⟨rfl, hb4.1⟩
     have hi4 := hb4.2
     clear hb5 c05 i05 hm5 hi5
     have hb5 : Prt.At _ g5 0 m' q' := ⟨Mem.of_get at5, hin2⟩
     obtain ⟨c05, i05⟩ := hb5.get
     have hm5 : MemN _ _ _ _ _ := ⟨rfl, hb5.1⟩
     have hi5 := hb5.2
     clear i32
     have i32 := v32.inn
     clear i34
     have i34 := v34.inn
     clear i36
     have i36 := v36.inn
     clear i41
     have i41 := v41.inn
     refine .r0 rfl rfl (.fillR rfl sz_36_VSFun rfl rfl rfl rfl (by assumption) (by first | rfl | exact Nat.le_of_ble_eq_true rfl | simp)) ?_
     rintro _ H12003 ⟨rfl, st12003, at12003⟩
     have nx_H12003 := st12003.nx
     replace hle := hle.st st12003 (fun k hk => ⟨by omega, trivial⟩)
     replace at3 := st12003.same _ _ ⟨by omega, trivial⟩ at3
     replace at4 := st12003.same _ _ ⟨by omega, trivial⟩ at4
     replace at5 := st12003.same _ _ ⟨by omega, trivial⟩ at5
     replace lv_v32 := Keep.st lv_v32 st12003 (fun k hb hk => ⟨by omega, trivial⟩)
     replace v32 := bs_v32.keep lv_v32 (Nat.le_refl _)
     replace lv_v34 := Keep.st lv_v34 st12003 (fun k hb hk => ⟨by omega, trivial⟩)
     replace v34 := bs_v34.keep lv_v34 (Nat.le_refl _)
     replace lv_v36 := Keep.st lv_v36 st12003 (fun k hb hk => ⟨by omega, trivial⟩)
     replace v36 := bs_v36.keep lv_v36 (Nat.le_refl _)
     replace lv_v41 := Keep.st lv_v41 st12003 (fun k hb hk => ⟨by omega, trivial⟩)
     replace v41 := bs_v41.keep lv_v41 (Nat.le_refl _)
     have lt_at12003 := GHeap.lt_of_get at12003
     replace hin := base_hin.mono hle
     replace hin1 := base_hin1.mono hle
     replace hin2 := base_hin2.mono hle
     clear hb3 fsh3 c53 c63 i13 i23 hm3 hi3 hmsh3 hish3
     have hb3 : SFun.At _ g3 0 f p := ⟨Mem.of_get at3, hin⟩
     obtain ⟨fsh3, c53, c63, i13, i23⟩ := hb3.get
     have hm3 : MemN _ _ _ _ _ := ⟨rfl, hb3.1⟩
     have hi3 := hb3.2
     have hmsh3 : MemN _ _ _ _ _ := ⟨rfl, fsh3.1⟩
     have hish3 := fsh3.2
     clear hb4 c04 i04 hm4 hi4
     have hb4 : Prt.At _ g4 0 m q := ⟨Mem.of_get at4, hin1⟩
     obtain ⟨c04, i04⟩ := hb4.get
     have hm4 : MemN _ _ _ _ _ := ⟨rfl, hb4.1⟩
     have hi4 := hb4.2
     clear hb5 c05 i05 hm5 hi5
     have hb5 : Prt.At _ g5 0 m' q' := ⟨Mem.of_get at5, hin2⟩
     obtain ⟨c05, i05⟩ := hb5.get
     have hm5 : MemN _ _ _ _ _ := ⟨rfl, hb5.1⟩
     have hi5 := hb5.2
     clear i32
     have i32 := v32.inn
     clear i34
     have i34 := v34.inn
     clear i36
     have i36 := v36.inn
     clear i41
     have i41 := v41.inn
     have mm12003 : MemN _ _ _ _ _ := ⟨rfl, Mem.of_get at12003⟩
     refine .nil ?_
     refine hK16 _ _ ?_
     refine .seq (fun K17 hK17 => ?_)
     refine .region ?_
     refine .m rfl rfl rfl (.loadM ag_29_S rfl ⟨rfl, Mem.of_get at4⟩) ?_
     refine .call rfl rfl rfl rfl @Try.call9 rfl (toPart_c) ?_
     rintro _ H43 ⟨le43, p43, rfl, v43⟩
     have nx_H43 := le43.1
     replace hle := hle.trans le43
     replace at3 := le43.2 _ _ at3
     replace at4 := le43.2 _ _ at4
     replace at5 := le43.2 _ _ at5
     replace at12003 := le43.2 _ _ at12003
     replace lv_v32 := Keep.le lv_v32 le43
     replace v32 := bs_v32.keep lv_v32 (Nat.le_refl _)
     replace lv_v34 := Keep.le lv_v34 le43
     replace v34 := bs_v34.keep lv_v34 (Nat.le_refl _)
     replace lv_v36 := Keep.le lv_v36 le43
     replace v36 := bs_v36.keep lv_v36 (Nat.le_refl _)
     replace lv_v41 := Keep.le lv_v41 le43
     replace v41 := bs_v41.keep lv_v41 (Nat.le_refl _)
     have bs_v43 := v43
     have lv_v43 : Keep H12003.next H43 H43 := fun _ _ _ h => h
     replace hin := base_hin.mono hle
     replace hin1 := base_hin1.mono hle
     replace hin2 := base_hin2.mono hle
     clear hb3 fsh3 c53 c63 i13 i23 hm3 hi3 hmsh3 hish3
     have hb3 : SFun.At _ g3 0 f p := ⟨Mem.of_get at3, hin⟩
     obtain ⟨fsh3, c53, c63, i13, i23⟩ := hb3.get
     have hm3 : MemN _ _ _ _ _ := ⟨rfl, hb3.1⟩
     have hi3 := hb3.2
     have hmsh3 : MemN _ _ _ _ _ := ⟨rfl, fsh3.1⟩
     have hish3 := fsh3.2
     clear hb4 c04 i04 hm4 hi4
     have hb4 : Prt.At _ g4 0 m q := ⟨Mem.of_get at4, hin1⟩
     obtain ⟨c04, i04⟩ := hb4.get
     have hm4 : MemN _ _ _ _ _ := ⟨rfl, hb4.1⟩
     have hi4 := hb4.2
     clear hb5 c05 i05 hm5 hi5
     have hb5 : Prt.At _ g5 0 m' q' := ⟨Mem.of_get at5, hin2⟩
     obtain ⟨c05, i05⟩ := hb5.get
     have hm5 : MemN _ _ _ _ _ := ⟨rfl, hb5.1⟩
     have hi5 := hb5.2
     clear i32
     have i32 := v32.inn
     clear i34
     have i34 := v34.inn
     clear i36
     have i36 := v36.inn
     clear i41
     have i41 := v41.inn
     clear mm12003
     have mm12003 : MemN _ _ _ _ _ := ⟨rfl, Mem.of_get at12003⟩
     have i43 := v43.inn
     refine .r rfl rfl rfl (.allocR rfl ze_38_VPrt rfl) ?_
     rintro _ H11 ⟨g11, rfl, le11, ge11, at11⟩
     have nx_H11 := le11.1
     replace hle := hle.trans le11
     replace at3 := le11.2 _ _ at3
     replace at4 := le11.2 _ _ at4
     replace at5 := le11.2 _ _ at5
     replace at12003 := le11.2 _ _ at12003
     replace lv_v32 := Keep.le lv_v32 le11
     replace v32 := bs_v32.keep lv_v32 (Nat.le_refl _)
     replace lv_v34 := Keep.le lv_v34 le11
     replace v34 := bs_v34.keep lv_v34 (Nat.le_refl _)
     replace lv_v36 := Keep.le lv_v36 le11
     replace v36 := bs_v36.keep lv_v36 (Nat.le_refl _)
     replace lv_v41 := Keep.le lv_v41 le11
     replace v41 := bs_v41.keep lv_v41 (Nat.le_refl _)
     replace lv_v43 := Keep.le lv_v43 le11
     replace v43 := bs_v43.keep lv_v43 (Nat.le_refl _)
     have lt_at11 := GHeap.lt_of_get at11
     replace hin := base_hin.mono hle
     replace hin1 := base_hin1.mono hle
     replace hin2 := base_hin2.mono hle
     clear hb3 fsh3 c53 c63 i13 i23 hm3 hi3 hmsh3 hish3
     have hb3 : SFun.At _ g3 0 f p := ⟨Mem.of_get at3, hin⟩
     obtain ⟨fsh3, c53, c63, i13, i23⟩ := hb3.get
     have hm3 : MemN _ _ _ _ _ := ⟨rfl, hb3.1⟩
     have hi3 := hb3.2
     have hmsh3 : MemN _ _ _ _ _ := ⟨rfl, fsh3.1⟩
     have hish3 := fsh3.2
     clear hb4 c04 i04 hm4 hi4
     have hb4 : Prt.At _ g4 0 m q := ⟨Mem.of_get at4, hin1⟩
     obtain ⟨c04, i04⟩ := hb4.get
     have hm4 : MemN _ _ _ _ _ := ⟨rfl, hb4.1⟩
     have hi4 := hb4.2
     clear hb5 c05 i05 hm5 hi5
     have hb5 : Prt.At _ g5 0 m' q' := ⟨Mem.of_get at5, hin2⟩
     obtain ⟨c05, i05⟩ := hb5.get
     have hm5 : MemN _ _ _ _ _ := ⟨rfl, hb5.1⟩
     have hi5 := hb5.2
     clear i32
     have i32 := v32.inn
     clear i34
     have i34 := v34.inn
     clear i36
     have i36 := v36.inn
     clear i41
     have i41 := v41.inn
     clear mm12003
     have mm12003 : MemN _ _ _ _ _ := ⟨rfl, Mem.of_get at12003⟩
     clear i43
     have i43 := v43.inn
     refine .r0 rfl rfl (.fillR rfl sz_38_VPrt rfl rfl rfl rfl (by assumption) (by first | rfl | exact Nat.le_of_ble_eq_true rfl | simp)) ?_
     rintro _ H13003 ⟨rfl, st13003, at13003⟩
     have nx_H13003 := st13003.nx
     replace hle := hle.st st13003 (fun k hk => ⟨by omega, trivial⟩)
     replace at3 := st13003.same _ _ ⟨by omega, trivial⟩ at3
     replace at4 := st13003.same _ _ ⟨by omega, trivial⟩ at4
     replace at5 := st13003.same _ _ ⟨by omega, trivial⟩ at5
     replace at12003 := st13003.same _ _ ⟨by omega, trivial⟩ at12003
     replace lv_v32 := Keep.st lv_v32 st13003 (fun k hb hk => ⟨by omega, trivial⟩)
     replace v32 := bs_v32.keep lv_v32 (Nat.le_refl _)
     replace lv_v34 := Keep.st lv_v34 st13003 (fun k hb hk => ⟨by omega, trivial⟩)
     replace v34 := bs_v34.keep lv_v34 (Nat.le_refl _)
     replace lv_v36 := Keep.st lv_v36 st13003 (fun k hb hk => ⟨by omega, trivial⟩)
     replace v36 := bs_v36.keep lv_v36 (Nat.le_refl _)
     replace lv_v41 := Keep.st lv_v41 st13003 (fun k hb hk => ⟨by omega, trivial⟩)
     replace v41 := bs_v41.keep lv_v41 (Nat.le_refl _)
     replace lv_v43 := Keep.st lv_v43 st13003 (fun k hb hk => ⟨by omega, trivial⟩)
     replace v43 := bs_v43.keep lv_v43 (Nat.le_refl _)
     have lt_at13003 := GHeap.lt_of_get at13003
     replace hin := base_hin.mono hle
     replace hin1 := base_hin1.mono hle
     replace hin2 := base_hin2.mono hle
     clear hb3 fsh3 c53 c63 i13 i23 hm3 hi3 hmsh3 hish3
     have hb3 : SFun.At _ g3 0 f p := ⟨Mem.of_get at3, hin⟩
     obtain ⟨fsh3, c53, c63, i13, i23⟩ := hb3.get
     have hm3 : MemN _ _ _ _ _ := ⟨rfl, hb3.1⟩
     have hi3 := hb3.2
     have hmsh3 : MemN _ _ _ _ _ := ⟨rfl, fsh3.1⟩
     have hish3 := fsh3.2
     clear hb4 c04 i04 hm4 hi4
     have hb4 : Prt.At _ g4 0 m q := ⟨Mem.of_get at4, hin1⟩
     obtain ⟨c04, i04⟩ := hb4.get
     have hm4 : MemN _ _ _ _ _ := ⟨rfl, hb4.1⟩
     have hi4 := hb4.2
     clear hb5 c05 i05 hm5 hi5
     have hb5 : Prt.At _ g5 0 m' q' := ⟨Mem.of_get at5, hin2⟩
     obtain ⟨c05, i05⟩ := hb5.get
     have hm5 : MemN _ _ _ _ _ := ⟨rfl, hb5.1⟩
     have hi5 := hb5.2
     clear i32
     have i32 := v32.inn
     clear i34
     have i34 := v34.inn
     clear i36
     have i36 := v36.inn
     clear i41
     have i41 := v41.inn
     clear mm12003
     have mm12003 : MemN _ _ _ _ _ := ⟨rfl, Mem.of_get at12003⟩
     clear i43
     have i43 := v43.inn
     have mm13003 : MemN _ _ _ _ _ := ⟨rfl, Mem.of_get at13003⟩
     refine .nil ?_
     refine hK17 _ _ ?_
     refine .seq (fun K18 hK18 => ?_)
     refine .region ?_
     refine .m rfl rfl rfl (.loadM ag_29_S rfl ⟨rfl, Mem.of_get at5⟩) ?_
     refine .call rfl rfl rfl rfl @Try.call9 rfl (toPart_c) ?_
     rintro _ H45 ⟨le45, p45, rfl, v45⟩
     have nx_H45 := le45.1
     replace hle := hle.trans le45
     replace at3 := le45.2 _ _ at3
     replace at4 := le45.2 _ _ at4
     replace at5 := le45.2 _ _ at5
     replace at12003 := le45.2 _ _ at12003
     replace at13003 := le45.2 _ _ at13003
     replace lv_v32 := Keep.le lv_v32 le45
     replace v32 := bs_v32.keep lv_v32 (Nat.le_refl _)
     replace lv_v34 := Keep.le lv_v34 le45
     replace v34 := bs_v34.keep lv_v34 (Nat.le_refl _)
     replace lv_v36 := Keep.le lv_v36 le45
     replace v36 := bs_v36.keep lv_v36 (Nat.le_refl _)
     replace lv_v41 := Keep.le lv_v41 le45
     replace v41 := bs_v41.keep lv_v41 (Nat.le_refl _)
     replace lv_v43 := Keep.le lv_v43 le45
     replace v43 := bs_v43.keep lv_v43 (Nat.le_refl _)
     have bs_v45 := v45
     have lv_v45 : Keep H13003.next H45 H45 := fun _ _ _ h => h
     replace hin := base_hin.mono hle
     replace hin1 := base_hin1.mono hle
     replace hin2 := base_hin2.mono hle
     clear hb3 fsh3 c53 c63 i13 i23 hm3 hi3 hmsh3 hish3
     have hb3 : SFun.At _ g3 0 f p := ⟨Mem.of_get at3, hin⟩
     obtain ⟨fsh3, c53, c63, i13, i23⟩ := hb3.get
     have hm3 : MemN _ _ _ _ _ := ⟨rfl, hb3.1⟩
     have hi3 := hb3.2
     have hmsh3 : MemN _ _ _ _ _ := ⟨rfl, fsh3.1⟩
     have hish3 := fsh3.2
     clear hb4 c04 i04 hm4 hi4
     have hb4 : Prt.At _ g4 0 m q := ⟨Mem.of_get at4, hin1⟩
     obtain ⟨c04, i04⟩ := hb4.get
     have hm4 : MemN _ _ _ _ _ := ⟨rfl, hb4.1⟩
     have hi4 := hb4.2
     clear hb5 c05 i05 hm5 hi5
     have hb5 : Prt.At _ g5 0 m' q' := ⟨Mem.of_get at5, hin2⟩
     obtain ⟨c05, i05⟩ := hb5.get
     have hm5 : MemN _ _ _ _ _ := ⟨rfl, hb5.1⟩
     have hi5 := hb5.2
     clear i32
     have i32 := v32.inn
     clear i34
     have i34 := v34.inn
     clear i36
     have i36 := v36.inn
     clear i41
     have i41 := v41.inn
     clear mm12003
     have mm12003 : MemN _ _ _ _ _ := ⟨rfl, Mem.of_get at12003⟩
     clear i43
     have i43 := v43.inn
     clear mm13003
     have mm13003 : MemN _ _ _ _ _ := ⟨rfl, Mem.of_get at13003⟩
     have i45 := v45.inn
     refine .r rfl rfl rfl (.allocR rfl ze_38_VPrt rfl) ?_
     rintro _ H12 ⟨g12, rfl, le12, ge12, at12⟩
     have nx_H12 := le12.1
     replace hle := hle.trans le12
     replace at3 := le12.2 _ _ at3
     replace at4 := le12.2 _ _ at4
     replace at5 := le12.2 _ _ at5
     replace at12003 := le12.2 _ _ at12003
     replace at13003 := le12.2 _ _ at13003
     replace lv_v32 := Keep.le lv_v32 le12
     replace v32 := bs_v32.keep lv_v32 (Nat.le_refl _)
     replace lv_v34 := Keep.le lv_v34 le12
     replace v34 := bs_v34.keep lv_v34 (Nat.le_refl _)
     replace lv_v36 := Keep.le lv_v36 le12
     replace v36 := bs_v36.keep lv_v36 (Nat.le_refl _)
     replace lv_v41 := Keep.le lv_v41 le12
     replace v41 := bs_v41.keep lv_v41 (Nat.le_refl _)
     replace lv_v43 := Keep.le lv_v43 le12
     replace v43 := bs_v43.keep lv_v43 (Nat.le_refl _)
     replace lv_v45 := Keep.le lv_v45 le12
     replace v45 := bs_v45.keep lv_v45 (Nat.le_refl _)
     have lt_at12 := GHeap.lt_of_get at12
     replace hin := base_hin.mono hle
     replace hin1 := base_hin1.mono hle
     replace hin2 := base_hin2.mono hle
     clear hb3 fsh3 c53 c63 i13 i23 hm3 hi3 hmsh3 hish3
     have hb3 : SFun.At _ g3 0 f p := ⟨Mem.of_get at3, hin⟩
     obtain ⟨fsh3, c53, c63, i13, i23⟩ := hb3.get
     have hm3 : MemN _ _ _ _ _ := ⟨rfl, hb3.1⟩
     have hi3 := hb3.2
     have hmsh3 : MemN _ _ _ _ _ := ⟨rfl, fsh3.1⟩
     have hish3 := fsh3.2
     clear hb4 c04 i04 hm4 hi4
     have hb4 : Prt.At _ g4 0 m q := ⟨Mem.of_get at4, hin1⟩
     obtain ⟨c04, i04⟩ := hb4.get
     have hm4 : MemN _ _ _ _ _ := ⟨rfl, hb4.1⟩
     have hi4 := hb4.2
     clear hb5 c05 i05 hm5 hi5
     have hb5 : Prt.At _ g5 0 m' q' := ⟨Mem.of_get at5, hin2⟩
     obtain ⟨c05, i05⟩ := hb5.get
     have hm5 : MemN _ _ _ _ _ := ⟨rfl, hb5.1⟩
     have hi5 := hb5.2
     clear i32
     have i32 := v32.inn
     clear i34
     have i34 := v34.inn
     clear i36
     have i36 := v36.inn
     clear i41
     have i41 := v41.inn
     clear mm12003
     have mm12003 : MemN _ _ _ _ _ := ⟨rfl, Mem.of_get at12003⟩
     clear i43
     have i43 := v43.inn
     clear mm13003
     have mm13003 : MemN _ _ _ _ _ := ⟨rfl, Mem.of_get at13003⟩
     clear i45
     have i45 := v45.inn
     refine .r0 rfl rfl (.fillR rfl sz_38_VPrt rfl rfl rfl rfl (by assumption) (by first | rfl | exact Nat.le_of_ble_eq_true rfl | simp)) ?_
     rintro _ H14003 ⟨rfl, st14003, at14003⟩
     have nx_H14003 := st14003.nx
     replace hle := hle.st st14003 (fun k hk => ⟨by omega, trivial⟩)
     replace at3 := st14003.same _ _ ⟨by omega, trivial⟩ at3
     replace at4 := st14003.same _ _ ⟨by omega, trivial⟩ at4
     replace at5 := st14003.same _ _ ⟨by omega, trivial⟩ at5
     replace at12003 := st14003.same _ _ ⟨by omega, trivial⟩ at12003
     replace at13003 := st14003.same _ _ ⟨by omega, trivial⟩ at13003
     replace lv_v32 := Keep.st lv_v32 st14003 (fun k hb hk => ⟨by omega, trivial⟩)
     replace v32 := bs_v32.keep lv_v32 (Nat.le_refl _)
     replace lv_v34 := Keep.st lv_v34 st14003 (fun k hb hk => ⟨by omega, trivial⟩)
     replace v34 := bs_v34.keep lv_v34 (Nat.le_refl _)
     replace lv_v36 := Keep.st lv_v36 st14003 (fun k hb hk => ⟨by omega, trivial⟩)
     replace v36 := bs_v36.keep lv_v36 (Nat.le_refl _)
     replace lv_v41 := Keep.st lv_v41 st14003 (fun k hb hk => ⟨by omega, trivial⟩)
     replace v41 := bs_v41.keep lv_v41 (Nat.le_refl _)
     replace lv_v43 := Keep.st lv_v43 st14003 (fun k hb hk => ⟨by omega, trivial⟩)
     replace v43 := bs_v43.keep lv_v43 (Nat.le_refl _)
     replace lv_v45 := Keep.st lv_v45 st14003 (fun k hb hk => ⟨by omega, trivial⟩)
     replace v45 := bs_v45.keep lv_v45 (Nat.le_refl _)
     have lt_at14003 := GHeap.lt_of_get at14003
     replace hin := base_hin.mono hle
     replace hin1 := base_hin1.mono hle
     replace hin2 := base_hin2.mono hle
     clear hb3 fsh3 c53 c63 i13 i23 hm3 hi3 hmsh3 hish3
     have hb3 : SFun.At _ g3 0 f p := ⟨Mem.of_get at3, hin⟩
     obtain ⟨fsh3, c53, c63, i13, i23⟩ := hb3.get
     have hm3 : MemN _ _ _ _ _ := ⟨rfl, hb3.1⟩
     have hi3 := hb3.2
     have hmsh3 : MemN _ _ _ _ _ := ⟨rfl, fsh3.1⟩
     have hish3 := fsh3.2
     clear hb4 c04 i04 hm4 hi4
     have hb4 : Prt.At _ g4 0 m q := ⟨Mem.of_get at4, hin1⟩
     obtain ⟨c04, i04⟩ := hb4.get
     have hm4 : MemN _ _ _ _ _ := ⟨rfl, hb4.1⟩
     have hi4 := hb4.2
     clear hb5 c05 i05 hm5 hi5
     have hb5 : Prt.At _ g5 0 m' q' := ⟨Mem.of_get at5, hin2⟩
     obtain ⟨c05, i05⟩ := hb5.get
     have hm5 : MemN _ _ _ _ _ := ⟨rfl, hb5.1⟩
     have hi5 := hb5.2
     clear i32
     have i32 := v32.inn
     clear i34
     have i34 := v34.inn
     clear i36
     have i36 := v36.inn
     clear i41
     have i41 := v41.inn
     clear mm12003
     have mm12003 : MemN _ _ _ _ _ := ⟨rfl, Mem.of_get at12003⟩
     clear i43
     have i43 := v43.inn
     clear mm13003
     have mm13003 : MemN _ _ _ _ _ := ⟨rfl, Mem.of_get at13003⟩
     clear i45
     have i45 := v45.inn
     have mm14003 : MemN _ _ _ _ _ := ⟨rfl, Mem.of_get at14003⟩
     refine .nil ?_
     refine hK18 _ _ ?_
     refine .seq (fun K19 hK19 => ?_)
     refine .region ?_
     refine .m rfl rfl rfl (.loadM ag_36_VSFun rfl ⟨rfl, Mem.of_get at12003⟩) ?_
     refine .m rfl rfl rfl (.loadM ag_38_VPrt rfl ⟨rfl, Mem.of_get at13003⟩) ?_
     refine .m rfl rfl rfl (.loadM ag_38_VPrt rfl ⟨rfl, Mem.of_get at14003⟩) ?_
     refine .callQ rfl rfl rfl rfl @Try.call10 rfl (implIsBelow_c) ?_
     refine .m rfl rfl rfl (.move rfl) ?_
     refine .m rfl rfl rfl (.extract rfl rfl) ?_
     refine .m rfl rfl rfl (.extract rfl rfl) ?_
     refine .m rfl rfl rfl (.assign rfl) ?_
     refine .m rfl rfl rfl (.assign rfl) ?_
     refine .nil ?_
     refine hK19 _ _ ?_
     refine .seq (fun K20 hK20 => ?_)
     refine .seq (fun K21 hK21 => ?_)
     refine .region ?_
     refine .m rfl rfl rfl (.move rfl) ?_
     refine .m rfl rfl rfl (.move rfl) ?_
     refine .m rfl rfl rfl (.boolNe bo_4_S rfl rfl) ?_
     refine .m rfl rfl rfl (.move rfl) ?_
     refine .split (fun h56 => ?_) (fun h56 => ?_)
     ·
      try simp only [sps] at h56
      refine .sg rfl rfl rfl rfl rfl ?_
      refine .sg rfl rfl rfl rfl rfl ?_
      refine .sg rfl rfl rfl rfl rfl ?_
      refine .m rfl rfl rfl (.pickT rfl rfl) ?_
      refine .nil ?_
      refine hK21 _ _ ?_
      refine .condT rfl ?_
      refine .seq (fun K22 hK22 => ?_)
      refine .region ?_
      refine .m rfl rfl rfl (.assign rfl) ?_
      refine .nil ?_
      refine hK22 _ _ ?_
      refine .ret ?_
      -- leaf e4
      refine hret _ _ ?_
      refine ⟨_, rfl, ?_⟩
      first
      | exact rfl
      | exact absurd trivial (by assumption)
      | contradiction
     ·
      try simp only [sps] at h56
      refine .mg rfl rfl rfl rfl rfl (.move rfl) ?_
      refine .mg rfl rfl rfl rfl rfl (.move rfl) ?_
      refine .mg rfl rfl rfl rfl rfl (.cmp rfl rfl rfl) ?_
      refine .m rfl rfl rfl (.pickF rfl rfl) ?_
      refine .nil ?_
      refine hK21 _ _ ?_
      refine .cond rfl (fun h60 => ?_) (fun h60 => ?_)
      ·
       try simp only [sps] at h60
       refine .seq (fun K23 hK23 => ?_)
       refine .region ?_
       refine .m rfl rfl rfl (.assign rfl) ?_
       refine .nil ?_
       refine hK23 _ _ ?_
       refine .ret ?_
       -- leaf e5
       refine hret _ _ ?_
       refine ⟨_, rfl, ?_⟩
       first
       | exact rfl
       | exact absurd trivial (by assumption)
       | contradiction
      ·
       try simp only [sps] at h60
       refine .skip ?_
       refine hK20 _ _ ?_
       refine .seq (fun K24 hK24 => ?_)
       refine .seq (fun K25 hK25 => ?_)
       refine .regionD mixed_orders_B (.q 0 (.q 1 (.c 2 1 (.c 3 0 (.q 4 (.done)))))) (by kernel_rfl) ?_
       refine .m rfl rfl rfl rfl (.refl _) (.loadM ag_36_VSFun rfl ⟨rfl, Mem.of_get at12003⟩) ?_
       refine .m rfl rfl rfl rfl (.refl _) (.loadM ag_27_VSMap rfl ⟨rfl, Mem.of_get at3⟩) ?_
       refine .call1 rfl rfl rfl rfl rfl @Try.call8 rfl (toSetFunctor_c) ?_
       rintro _ H63 ⟨le63, p63, rfl, v63⟩
       have hbl := le63
       refine ⟨hbl, ?_⟩
       have nx_H63 := le63.1
       replace hle := hle.trans le63
       replace at3 := le63.2 _ _ at3
       replace at4 := le63.2 _ _ at4
       replace at5 := le63.2 _ _ at5
       replace at12003 := le63.2 _ _ at12003
       replace at13003 := le63.2 _ _ at13003
       replace at14003 := le63.2 _ _ at14003
       replace lv_v32 := Keep.le lv_v32 le63
       replace v32 := bs_v32.keep lv_v32 (Nat.le_refl _)
       replace lv_v34 := Keep.le lv_v34 le63
       replace v34 := bs_v34.keep lv_v34 (Nat.le_refl _)
       replace lv_v36 := Keep.le lv_v36 le63
       replace v36 := bs_v36.keep lv_v36 (Nat.le_refl _)
       replace lv_v41 := Keep.le lv_v41 le63
       replace v41 := bs_v41.keep lv_v41 (Nat.le_refl _)
       replace lv_v43 := Keep.le lv_v43 le63
       replace v43 := bs_v43.keep lv_v43 (Nat.le_refl _)
       replace lv_v45 := Keep.le lv_v45 le63
       replace v45 := bs_v45.keep lv_v45 (Nat.le_refl _)
       have bs_v63 := v63
       have lv_v63 : Keep H14003.next H63 H63 := fun _ _ _ h => h
       replace hin := base_hin.mono hle
       replace hin1 := base_hin1.mono hle
       replace hin2 := base_hin2.mono hle
       clear hb3 fsh3 c53 c63 i13 i23 hm3 hi3 hmsh3 hish3
       have hb3 : SFun.At _ g3 0 f p := ⟨Mem.of_get at3, hin⟩
       obtain ⟨fsh3, c53, c63, i13, i23⟩ := hb3.get
       have hm3 : MemN _ _ _ _ _ := ⟨rfl, hb3.1⟩
       have hi3 := hb3.2
       have hmsh3 : MemN _ _ _ _ _ := ⟨rfl, fsh3.1⟩
       have hish3 := fsh3.2
       clear hb4 c04 i04 hm4 hi4
       have hb4 : Prt.At _ g4 0 m q := ⟨Mem.of_get at4, hin1⟩
       obtain ⟨c04, i04⟩ := hb4.get
       have hm4 : MemN _ _ _ _ _ := ⟨rfl, hb4.1⟩
       have hi4 := hb4.2
       clear hb5 c05 i05 hm5 hi5
       have hb5 : Prt.At _ g5 0 m' q' := ⟨Mem.of_get at5, hin2⟩
       obtain ⟨c05, i05⟩ := hb5.get
       have hm5 : MemN _ _ _ _ _ := ⟨rfl, hb5.1⟩
       have hi5 := hb5.2
       clear i32
       have i32 := v32.inn
       clear i34
       have i34 := v34.inn
       clear i36
       have i36 := v36.inn
       clear i41
       have i41 := v41.inn
       clear mm12003
       have mm12003 : MemN _ _ _ _ _ := ⟨rfl, Mem.of_get at12003⟩
       clear i43
       have i43 := v43.inn
       clear mm13003
       have mm13003 : MemN _ _ _ _ _ := ⟨rfl, Mem.of_get at13003⟩
       clear i45
       have i45 := v45.inn
       clear mm14003
       have mm14003 : MemN _ _ _ _ _ := ⟨rfl, Mem.of_get at14003⟩
       have i63 := v63.inn
       refine .callQ0 rfl rfl rfl rfl rfl @Try.call11 rfl (eqSetFunctor_c) ?_
       refine .m rfl rfl rfl rfl (.refl _) (.not rfl) ?_
       refine .done ?_
       refine hK25 _ _ ?_
       refine .cond rfl (fun h65 => ?_) (fun h65 => ?_)
       ·
        try simp only [sps] at h65
        refine .seq (fun K26 hK26 => ?_)
        refine .region ?_
        refine .m rfl rfl rfl (.assign rfl) ?_
        refine .nil ?_
        refine hK26 _ _ ?_
        refine .ret ?_
        -- leaf e6
        refine hret _ _ ?_
        refine ⟨_, rfl, ?_⟩
        first
        | exact rfl
        | exact absurd trivial (by assumption)
        | contradiction
       ·
        try simp only [sps] at h65
        refine .skip ?_
        refine hK24 _ _ ?_
        refine .seq (fun K27 hK27 => ?_)
        refine .seq (fun K28 hK28 => ?_)
        refine .regionD mixed_orders_B (.q 0 (.q 1 (.c 2 1 (.c 3 0 (.q 4 (.done)))))) (by kernel_rfl) ?_
        refine .m rfl rfl rfl rfl (.refl _) (.loadM ag_38_VPrt rfl ⟨rfl, Mem.of_get at13003⟩) ?_
        refine .m rfl rfl rfl rfl (.refl _) (.loadM ag_29_S rfl ⟨rfl, Mem.of_get at4⟩) ?_
        refine .call1 rfl rfl rfl rfl rfl @Try.call9 rfl (toPart_c) ?_
        rintro _ H68 ⟨le68, p68, rfl, v68⟩
        have hbl := le68
        refine ⟨hbl, ?_⟩
        have nx_H68 := le68.1
        replace hle := hle.trans le68
        replace at3 := le68.2 _ _ at3
        replace at4 := le68.2 _ _ at4
        replace at5 := le68.2 _ _ at5
        replace at12003 := le68.2 _ _ at12003
        replace at13003 := le68.2 _ _ at13003
        replace at14003 := le68.2 _ _ at14003
        replace lv_v32 := Keep.le lv_v32 le68
        replace v32 := bs_v32.keep lv_v32 (Nat.le_refl _)
        replace lv_v34 := Keep.le lv_v34 le68
        replace v34 := bs_v34.keep lv_v34 (Nat.le_refl _)
        replace lv_v36 := Keep.le lv_v36 le68
        replace v36 := bs_v36.keep lv_v36 (Nat.le_refl _)
        replace lv_v41 := Keep.le lv_v41 le68
        replace v41 := bs_v41.keep lv_v41 (Nat.le_refl _)
        replace lv_v43 := Keep.le lv_v43 le68
        replace v43 := bs_v43.keep lv_v43 (Nat.le_refl _)
        replace lv_v45 := Keep.le lv_v45 le68
        replace v45 := bs_v45.keep lv_v45 (Nat.le_refl _)
        replace lv_v63 := Keep.le lv_v63 le68
        replace v63 := bs_v63.keep lv_v63 (Nat.le_refl _)
        have bs_v68 := v68
        have lv_v68 : Keep H63.next H68 H68 := fun _ _ _ h => h
        replace hin := base_hin.mono hle
        replace hin1 := base_hin1.mono hle
        replace hin2 := base_hin2.mono hle
        clear hb3 fsh3 c53 c63 i13 i23 hm3 hi3 hmsh3 hish3
        have hb3 : SFun.At _ g3 0 f p := ⟨Mem.of_get at3, hin⟩
        obtain ⟨fsh3, c53, c63, i13, i23⟩ := hb3.get
        have hm3 : MemN _ _ _ _ _ := ⟨rfl, hb3.1⟩
        have hi3 := hb3.2
        have hmsh3 : MemN _ _ _ _ _ := ⟨rfl, fsh3.1⟩
        have hish3 := fsh3.2
        clear hb4 c04 i04 hm4 hi4
        have hb4 : Prt.At _ g4 0 m q := ⟨Mem.of_get at4, hin1⟩
        obtain ⟨c04, i04⟩ := hb4.get
        have hm4 : MemN _ _ _ _ _ := ⟨rfl, hb4.1⟩
        have hi4 := hb4.2
        clear hb5 c05 i05 hm5 hi5
        have hb5 : Prt.At _ g5 0 m' q' := ⟨Mem.of_get at5, hin2⟩
        obtain ⟨c05, i05⟩ := hb5.get
        have hm5 : MemN _ _ _ _ _ := ⟨rfl, hb5.1⟩
        have hi5 := hb5.2
        clear i32
        have i32 := v32.inn
        clear i34
        have i34 := v34.inn
        clear i36
        have i36 := v36.inn
        clear i41
        have i41 := v41.inn
        clear mm12003
        have mm12003 : MemN _ _ _ _ _ := ⟨rfl, Mem.of_get at12003⟩
        clear i43
        have i43 := v43.inn
        clear mm13003
        have mm13003 : MemN _ _ _ _ _ := ⟨rfl, Mem.of_get at13003⟩
        clear i45
        have i45 := v45.inn
        clear mm14003
        have mm14003 : MemN _ _ _ _ _ := ⟨rfl, Mem.of_get at14003⟩
        clear i63
        have i63 := v63.inn
        have i68 := v68.inn
        refine .callQ0 rfl rfl rfl rfl rfl @Try.call12 rfl (eqPart_c) ?_
        refine .m rfl rfl rfl rfl (.refl _) (.not rfl) ?_
        refine .done ?_
        refine hK28 _ _ ?_
        refine .cond rfl (fun h70 => ?_) (fun h70 => ?_)
        ·
         try simp only [sps] at h70
         refine .seq (fun K29 hK29 => ?_)
         refine .region ?_
         refine .m rfl rfl rfl (.assign rfl) ?_
         refine .nil ?_
         refine hK29 _ _ ?_
         refine .ret ?_
         -- leaf e7
         refine hret _ _ ?_
         refine ⟨_, rfl, ?_⟩
         first
         | exact rfl
         | exact absurd trivial (by assumption)
         | contradiction
        ·
         try simp only [sps] at h70
         refine .skip ?_
         refine hK27 _ _ ?_
         refine .seq (fun K30 hK30 => ?_)
         refine .seq (fun K31 hK31 => ?_)
         refine .regionD mixed_orders_B (.q 0 (.q 1 (.c 2 1 (.c 3 0 (.q 4 (.done)))))) (by kernel_rfl) ?_
         refine .m rfl rfl rfl rfl (.refl _) (.loadM ag_38_VPrt rfl ⟨rfl, Mem.of_get at14003⟩) ?_
         refine .m rfl rfl rfl rfl (.refl _) (.loadM ag_29_S rfl ⟨rfl, Mem.of_get at5⟩) ?_
         refine .call1 rfl rfl rfl rfl rfl @Try.call9 rfl (toPart_c) ?_
         rintro _ H73 ⟨le73, p73, rfl, v73⟩
         have hbl := le73
         refine ⟨hbl, ?_⟩
         have nx_H73 := le73.1
         replace hle := hle.trans le73
         replace at3 := le73.2 _ _ at3
         replace at4 := le73.2 _ _ at4
         replace at5 := le73.2 _ _ at5
         replace at12003 := le73.2 _ _ at12003
         replace at13003 := le73.2 _ _ at13003
         replace at14003 := le73.2 _ _ at14003
         replace lv_v32 := Keep.le lv_v32 le73
         replace v32 := bs_v32.keep lv_v32 (Nat.le_refl _)
         replace lv_v34 := Keep.le lv_v34 le73
         replace v34 := bs_v34.keep lv_v34 (Nat.le_refl _)
         replace lv_v36 := Keep.le lv_v36 le73
         replace v36 := bs_v36.keep lv_v36 (Nat.le_refl _)
         replace lv_v41 := Keep.le lv_v41 le73
         replace v41 := bs_v41.keep lv_v41 (Nat.le_refl _)
         replace lv_v43 := Keep.le lv_v43 le73
         replace v43 := bs_v43.keep lv_v43 (Nat.le_refl _)
         replace lv_v45 := Keep.le lv_v45 le73
         replace v45 := bs_v45.keep lv_v45 (Nat.le_refl _)
         replace lv_v63 := Keep.le lv_v63 le73
         replace v63 := bs_v63.keep lv_v63 (Nat.le_refl _)
         replace lv_v68 := Keep.le lv_v68 le73
         replace v68 := bs_v68.keep lv_v68 (Nat.le_refl _)
         have bs_v73 := v73
         have lv_v73 : Keep H68.next H73 H73 := fun _ _ _ h => h
         replace hin := base_hin.mono hle
         replace hin1 := base_hin1.mono hle
         replace hin2 := base_hin2.mono hle
         clear hb3 fsh3 c53 c63 i13 i23 hm3 hi3 hmsh3 hish3
         have hb3 : SFun.At _ g3 0 f p := ⟨Mem.of_get at3, hin⟩
         obtain ⟨fsh3, c53, c63, i13, i23⟩ := hb3.get
         have hm3 : MemN _ _ _ _ _ := ⟨rfl, hb3.1⟩
         have hi3 := hb3.2
         have hmsh3 : MemN _ _ _ _ _ := ⟨rfl, fsh3.1⟩
         have hish3 := fsh3.2
         clear hb4 c04 i04 hm4 hi4
         have hb4 : Prt.At _ g4 0 m q := ⟨Mem.of_get at4, hin1⟩
         obtain ⟨c04, i04⟩ := hb4.get
         have hm4 : MemN _ _ _ _ _ := ⟨rfl, hb4.1⟩
         have hi4 := hb4.2
         clear hb5 c05 i05 hm5 hi5
         have hb5 : Prt.At _ g5 0 m' q' := ⟨Mem.of_get at5, hin2⟩
         obtain ⟨c05, i05⟩ := hb5.get
         have hm5 : MemN _ _ _ _ _ := ⟨rfl, hb5.1⟩
         have hi5 := hb5.2
         clear i32
         have i32 := v32.inn
         clear i34
         have i34 := v34.inn
         clear i36
         have i36 := v36.inn
         clear i41
         have i41 := v41.inn
         clear mm12003
         have mm12003 : MemN _ _ _ _ _ := ⟨rfl, Mem.of_get at12003⟩
         clear i43
         have i43 := v43.inn
         clear mm13003
         have mm13003 : MemN _ _ _ _ _ := ⟨rfl, Mem.of_get at13003⟩
         clear i45
         have i45 := v45.inn
         clear mm14003
         have mm14003 : MemN _ _ _ _ _ := ⟨rfl, Mem.of_get at14003⟩
         clear i63
         have i63 := v63.inn
         clear i68
         have i68 := v68.inn
         have i73 := v73.inn
         refine .callQ0 rfl rfl rfl rfl rfl @Try.call12 rfl (eqPart_c) ?_
         refine .m rfl rfl rfl rfl (.refl _) (.not rfl) ?_
         refine .done ?_
         refine hK31 _ _ ?_
         refine .cond rfl (fun h75 => ?_) (fun h75 => ?_)
         ·
          try simp only [sps] at h75
          refine .seq (fun K32 hK32 => ?_)
          refine .region ?_
          refine .m rfl rfl rfl (.assign rfl) ?_
          refine .nil ?_
          refine hK32 _ _ ?_
          refine .ret ?_
          -- leaf e8
          refine hret _ _ ?_
          refine ⟨_, rfl, ?_⟩
          first
          | exact rfl
          | exact absurd trivial (by assumption)
          | contradiction
         ·
          try simp only [sps] at h75
          refine .skip ?_
          refine hK30 _ _ ?_
          refine .seq (fun K33 hK33 => ?_)
          refine .region ?_
          refine .m rfl rfl rfl (.assign rfl) ?_
          refine .nil ?_
          refine hK33 _ _ ?_
          refine .ret ?_
          -- leaf e9
          refine hret _ _ ?_
          refine ⟨_, rfl, ?_⟩
          first
          | exact rfl
          | exact absurd trivial (by assumption)
          | contradiction
end Go.Proofs.Ytfffkhjifgkhiaa
