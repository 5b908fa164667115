/- The laws' helpers for Part. No condition but those of each statement. -/
import Derived.Test.YtgnfekfdmgnhcaaZ10
namespace Go.Proofs.Ytgnfekfdmgnhcaa
open Go Go.GL Go.RowKit Go.Proofs
end Go.Proofs.Ytgnfekfdmgnhcaa
/- Parts of set functors. No condition but those of each statement. -/
namespace Go.Proofs.Ytgnfekfdmgnhcaa
open Go Go.GL Go.RowKit Go.Proofs
end Go.Proofs.Ytgnfekfdmgnhcaa
/- Marks on set functors, their maps and parts. No condition but those of each statement. -/
namespace Go.Proofs.Ytgnfekfdmgnhcaa
open Go Go.GL Go.RowKit Go.Proofs
theorem markSetFunctor_c {c : SFun} {p : SFunP} {lo hi : Nat} {k : Int} {H : GHeap} (w : SFunW lo hi H c p := by assumption) (hs : c.Small := by assumption) (hk : 0 ≤ k := by omega) (hk' : k + c.total ≤ 9223372036854775000 := by omega) (hhi : hi ≤ H.next := by omega) :
    GCalls Try.prog 41 [.agg (c.cells p).toArray, .int .i64 k] H (fun v H' => v = .int .i64 (k + c.total) ∧ Marked lo hi H H' (c.leaves p) k) := by
  obtain ⟨w1, w2, w3⟩ := w
  have ht : c.total = c.sh.total + (c.sz.length + sumL c.ac) := rfl
  obtain ⟨s1, s2, s3, s4⟩ := hs
  refine GCalls.body (N := 18) (rs := [.tmp 4]) Try.func41 rfl rfl rfl rfl (fun Qx hret hend => ?_)
  refine .forget (fr' := [(0, some _), (1, some _)]) ⟨rfl, rfl, trivial⟩ ?_
  refine .seq (fun K1 hK1 => ?_)
  refine .region ?_
  refine .r rfl rfl rfl (.boxR rfl sz_65_VSFun rfl) ?_
  rintro _ H2 ⟨g2, rfl, le2, ge2, at2⟩
  have nx_H2 := le2.1
  have lt_at2 := GHeap.lt_of_get at2
  have mm2 : MemN _ _ _ _ _ := ⟨rfl, Mem.of_get at2⟩
  replace w1 := w1.stm (.of_le le2)
  replace w2 := w2.stm (.of_le le2)
  replace w3 := w3.stm (.of_le le2)
  refine .m rfl rfl rfl (.assign rfl) (.nil ?_)
  refine hK1 _ _ ?_
  refine .seq (fun K2 hK2 => ?_)
  refine .region ?_
  have m1 : MemN H2 g2 (0 + 0) 5 (c.sh.cells p.sh) := ⟨rfl, Mem.left (bs := [.slice p.a1 c.sz.length c.sz.length, .slice p.a2 c.ac.length c.ac.length]) (Mem.of_get at2)⟩
  refine .m rfl rfl rfl (.fieldAddr fo_65_0_P rfl) ?_
  refine .m rfl rfl rfl (.loadM ag_27_D rfl (by assumption)) ?_
  refine .m rfl rfl rfl (.move rfl) ?_
  refine .call rfl rfl rfl rfl @Try.call14 rfl (markCategory_c) ?_
  rintro _ H8 ⟨rfl, mk8⟩
  have sm8 := mk8.stm
  have nx_H8 := sm8.nx
  replace at2 := sm8.same _ _ (by omega) at2
  replace w1 := w1.stm sm8
  replace w2 := w2.stm sm8
  replace w3 := w3.stm sm8
  clear mm2
  have mm2 : MemN _ _ _ _ _ := ⟨rfl, Mem.of_get at2⟩
  refine .m rfl rfl rfl (.assign rfl) (.nil ?_)
  refine hK2 _ _ ?_
  refine .seq (fun K3 hK3 => ?_)
  refine .region ?_
  have c1 : H8.cell g2 (0 + 5) = some (.slice p.a1 c.sz.length c.sz.length) := Mem.of_get at2 5 _ rfl
  refine .m rfl rfl rfl (.fieldAddr fo_65_1_P rfl) ?_
  refine .m rfl rfl rfl (.load on_22_B rfl (by first | assumption | exact Mem.of_get at2 5 _ rfl)) ?_
  refine .m rfl rfl rfl (.move rfl) ?_
  refine .call rfl rfl rfl rfl @Try.call30 rfl (markInt64S_c) ?_
  rintro _ H12 ⟨rfl, mk12⟩
  have sm12 := mk12.stm
  have nx_H12 := sm12.nx
  replace at2 := sm12.same _ _ (by omega) at2
  replace w1 := w1.stm sm12
  replace w2 := w2.stm sm12
  replace w3 := w3.stm sm12
  clear mm2
  have mm2 : MemN _ _ _ _ _ := ⟨rfl, Mem.of_get at2⟩
  refine .m rfl rfl rfl (.assign rfl) (.nil ?_)
  refine hK3 _ _ ?_
  refine .seq (fun K4 hK4 => ?_)
  refine .region ?_
  have c1 : H12.cell g2 (0 + 6) = some (.slice p.a2 c.ac.length c.ac.length) := Mem.of_get at2 6 _ rfl
  refine .m rfl rfl rfl (.fieldAddr fo_65_2_P rfl) ?_
  refine .m rfl rfl rfl (.load on_23_B rfl (by first | assumption | exact Mem.of_get at2 6 _ rfl)) ?_
  refine .m rfl rfl rfl (.move rfl) ?_
  refine .call rfl rfl rfl rfl @Try.call25 rfl (markInt64SS_c) ?_
  rintro _ H16 ⟨rfl, mk16⟩
  have sm16 := mk16.stm
  have nx_H16 := sm16.nx
  replace at2 := sm16.same _ _ (by omega) at2
  replace w1 := w1.stm sm16
  replace w2 := w2.stm sm16
  replace w3 := w3.stm sm16
  clear mm2
  have mm2 : MemN _ _ _ _ _ := ⟨rfl, Mem.of_get at2⟩
  refine .m rfl rfl rfl (.assign rfl) (.nil ?_)
  refine hK4 _ _ ?_
  refine .seq (fun K5 hK5 => ?_)
  refine .region (.m rfl rfl rfl (.move rfl) (.m rfl rfl rfl (.assign rfl) (.nil ?_)))
  refine hK5 _ _ ?_
  refine .ret ?_
  refine hret _ _ ?_
  refine ⟨_, rfl, ?_⟩
  exact ⟨by rw [ht]; congr 1; omega, .le_left le2 (mk8.app' (mk12.app' mk16 (by simp [lvSum])) (by rw [Cat.lvSum_leaves]))⟩
end Go.Proofs.Ytgnfekfdmgnhcaa
/- The law of GluedGenerators. No condition but those of each statement. -/
namespace Go.Proofs.Ytgnfekfdmgnhcaa
open Go Go.GL Go.RowKit Go.Proofs
theorem ag_57_LGluedGenerators : aggT Try.prog 57 = some 7 := by kernel_rfl
set_option maxHeartbeats 40000000 in
theorem lawGluedGenerators_c {f : SFun} {p : SFunP} {y : Int} {H : GHeap} (h0 : f.In H p) (w0 : f.Wide) (w1 : I64 y) :
    GCalls Try.prog 8 [.agg (f.cells p).toArray, .int .i64 y] H (fun v _ => v = .bool true) := by
  refine GCalls.body (N := 138) (rs := [.tmp 4]) Try.func8 rfl rfl rfl rfl (fun Qx hret hend => ?_)
  refine .forget (fr' := [(0, some _), (1, some _)]) ⟨rfl, rfl, trivial⟩ ?_
  have hle := GHeap.Le.refl H
  have base_h0 := h0
  refine .seq (fun K1 hK1 => ?_)
  refine .region ?_
  refine .r rfl rfl rfl (.boxR rfl sz_57_VSFun rfl) ?_
  rintro _ H2 ⟨g2, rfl, le2, ge2, at2⟩
  have nx_H2 := le2.1
  replace hle := hle.trans le2
  have lt_at2 := GHeap.lt_of_get at2
  replace h0 := base_h0.mono hle
  have hb2 : SFun.At _ g2 0 f p := ⟨Mem.of_get at2, h0⟩
  obtain ⟨fsh2, c52, c62, i12, i22⟩ := hb2.get
  have hm2 : MemN _ _ _ _ _ := ⟨rfl, hb2.1⟩
  have hi2 := hb2.2
  have hmsh2 : MemN _ _ _ _ _ := ⟨rfl, fsh2.1⟩
  have hish2 := fsh2.2
  refine .m rfl rfl rfl (.assign rfl) (.nil ?_)
  refine hK1 _ _ ?_
  refine .seq (fun K2 hK2 => ?_)
  refine .region (.m rfl rfl rfl (.assign rfl) (.nil ?_))
  refine hK2 _ _ ?_
  refine .seq (fun K3 hK3 => ?_)
  refine .region ?_
  refine .m rfl rfl rfl (.loadM ag_57_LGluedGenerators rfl ⟨rfl, Mem.of_get at2⟩) ?_
  refine .m rfl rfl rfl (.move rfl) ?_
  refine .call rfl rfl rfl rfl @Try.call33 rfl (szSetFunctor_c) ?_
  rintro _ _ ⟨heq, lf21, rfl, z121, z221, z321⟩
  obtain rfl := heq.symm
  refine .m rfl rfl rfl (.assign rfl) (.nil ?_)
  refine hK3 _ _ ?_
  refine .seq (fun K4 hK4 => ?_)
  refine .seq (fun K5 hK5 => ?_)
  refine .region (.m rfl rfl rfl (.move rfl) (.m rfl rfl rfl (.cmp rfl rfl rfl) (.nil ?_)))
  refine hK5 _ _ ?_
  refine .cond rfl (fun h23 => ?_) (fun h23 => ?_)
  ·
   try simp only [sps] at h23
   refine .seq (fun K6 hK6 => ?_)
   refine .region (.m rfl rfl rfl (.assign rfl) (.nil ?_))
   refine hK6 _ _ ?_
   refine .ret ?_
   refine hret _ _ ?_
   refine ⟨_, rfl, ?_⟩
   first
   | exact rfl
   | exact absurd trivial (by assumption)
   | contradiction
   | (exfalso; omega)
  simp only [sps] at h23
  obtain ⟨hcl, hcl2, hcl3⟩ := glR_small f y
  have hcl4 : ∀ i, ((glR f y).getD i []).length ≤ 1048576 := fun i => by have := hcl2 i; omega
  have hct := sumL_tot (xss := glR f y) (by omega) hcl4
  have hsm21 := z321 (by omega)
  have tb21 := hsm21.tot
  refine .skip ?_
  refine hK4 _ _ ?_
  refine .seq (fun K7 hK7 => ?_)
  refine .region ?_
  refine .m rfl rfl rfl (.loadM ag_57_LGluedGenerators rfl ⟨rfl, Mem.of_get at2⟩) ?_
  refine .call rfl rfl rfl rfl @Try.call36 rfl (toSetFunctor_c) ?_
  rintro _ H26 ⟨le26, p26, rfl, v26⟩
  have nx_H26 := le26.1
  replace hle := hle.trans le26
  replace at2 := le26.2 _ _ at2
  have bs_v26 := v26
  have lv_v26 : Keep H2.next H26 H26 := fun _ _ _ h => h
  replace h0 := base_h0.mono hle
  clear hb2 fsh2 c52 c62 i12 i22 hm2 hi2 hmsh2 hish2
  have hb2 : SFun.At _ g2 0 f p := ⟨Mem.of_get at2, h0⟩
  obtain ⟨fsh2, c52, c62, i12, i22⟩ := hb2.get
  have hm2 : MemN _ _ _ _ _ := ⟨rfl, hb2.1⟩
  have hi2 := hb2.2
  have hmsh2 : MemN _ _ _ _ _ := ⟨rfl, fsh2.1⟩
  have hish2 := fsh2.2
  have i26 := v26.inn
  refine .m rfl rfl rfl (.move rfl) ?_
  refine .call rfl rfl rfl rfl @Try.call42 rfl (specGluedGenerators_c) ?_
  rintro _ H28 ⟨le28, a28, r28, b28, rfl, v28, u28⟩
  have nx_H28 := le28.1
  replace hle := hle.trans le28
  replace at2 := le28.2 _ _ at2
  replace lv_v26 := Keep.le lv_v26 le28
  replace v26 := bs_v26.keep lv_v26 (Nat.le_refl _)
  have bs_v28 := v28
  have lv_v28 : Keep H26.next H28 H28 := fun _ _ _ h => h
  have bs_u28 := u28
  have lv_u28 : Keep H26.next H28 H28 := fun _ _ _ h => h
  replace h0 := base_h0.mono hle
  clear hb2 fsh2 c52 c62 i12 i22 hm2 hi2 hmsh2 hish2
  have hb2 : SFun.At _ g2 0 f p := ⟨Mem.of_get at2, h0⟩
  obtain ⟨fsh2, c52, c62, i12, i22⟩ := hb2.get
  have hm2 : MemN _ _ _ _ _ := ⟨rfl, hb2.1⟩
  have hi2 := hb2.2
  have hmsh2 : MemN _ _ _ _ _ := ⟨rfl, fsh2.1⟩
  have hish2 := fsh2.2
  clear i26
  have i26 := v26.inn
  have i28 := v28.intss
  have j28 := u28.ints
  refine .m rfl rfl rfl (.move rfl) (.m rfl rfl rfl (.extract rfl rfl) (.m rfl rfl rfl (.extract rfl rfl) (.m rfl rfl rfl (.extract rfl rfl) ?_)))
  refine .m rfl rfl rfl (.assign rfl) (.m rfl rfl rfl (.assign rfl) (.m rfl rfl rfl (.assign rfl) (.nil ?_)))
  refine hK7 _ _ ?_
  refine .seq (fun K8 hK8 => ?_)
  refine .region ?_
  refine .m rfl rfl rfl (.loadM ag_57_LGluedGenerators rfl ⟨rfl, Mem.of_get at2⟩) ?_
  refine .call rfl rfl rfl rfl @Try.call36 rfl (toSetFunctor_c) ?_
  rintro _ H33 ⟨le33, p33, rfl, v33⟩
  have nx_H33 := le33.1
  replace hle := hle.trans le33
  replace at2 := le33.2 _ _ at2
  replace lv_v26 := Keep.le lv_v26 le33
  replace v26 := bs_v26.keep lv_v26 (Nat.le_refl _)
  replace lv_v28 := Keep.le lv_v28 le33
  replace v28 := bs_v28.keep lv_v28 (Nat.le_refl _)
  replace lv_u28 := Keep.le lv_u28 le33
  replace u28 := bs_u28.keep lv_u28 (Nat.le_refl _)
  have bs_v33 := v33
  have lv_v33 : Keep H28.next H33 H33 := fun _ _ _ h => h
  replace h0 := base_h0.mono hle
  clear hb2 fsh2 c52 c62 i12 i22 hm2 hi2 hmsh2 hish2
  have hb2 : SFun.At _ g2 0 f p := ⟨Mem.of_get at2, h0⟩
  obtain ⟨fsh2, c52, c62, i12, i22⟩ := hb2.get
  have hm2 : MemN _ _ _ _ _ := ⟨rfl, hb2.1⟩
  have hi2 := hb2.2
  have hmsh2 : MemN _ _ _ _ _ := ⟨rfl, fsh2.1⟩
  have hish2 := fsh2.2
  clear i26
  have i26 := v26.inn
  clear i28
  have i28 := v28.intss
  clear j28
  have j28 := u28.ints
  have i33 := v33.inn
  refine .r rfl rfl rfl (.allocR rfl ze_65_VSFun rfl) ?_
  rintro _ H9 ⟨g9, rfl, le9, ge9, at9⟩
  have nx_H9 := le9.1
  replace hle := hle.trans le9
  replace at2 := le9.2 _ _ at2
  replace lv_v26 := Keep.le lv_v26 le9
  replace v26 := bs_v26.keep lv_v26 (Nat.le_refl _)
  replace lv_v28 := Keep.le lv_v28 le9
  replace v28 := bs_v28.keep lv_v28 (Nat.le_refl _)
  replace lv_u28 := Keep.le lv_u28 le9
  replace u28 := bs_u28.keep lv_u28 (Nat.le_refl _)
  replace lv_v33 := Keep.le lv_v33 le9
  replace v33 := bs_v33.keep lv_v33 (Nat.le_refl _)
  have lt_at9 := GHeap.lt_of_get at9
  replace h0 := base_h0.mono hle
  clear hb2 fsh2 c52 c62 i12 i22 hm2 hi2 hmsh2 hish2
  have hb2 : SFun.At _ g2 0 f p := ⟨Mem.of_get at2, h0⟩
  obtain ⟨fsh2, c52, c62, i12, i22⟩ := hb2.get
  have hm2 : MemN _ _ _ _ _ := ⟨rfl, hb2.1⟩
  have hi2 := hb2.2
  have hmsh2 : MemN _ _ _ _ _ := ⟨rfl, fsh2.1⟩
  have hish2 := fsh2.2
  clear i26
  have i26 := v26.inn
  clear i28
  have i28 := v28.intss
  clear j28
  have j28 := u28.ints
  clear i33
  have i33 := v33.inn
  refine .r0 rfl rfl (.fillR rfl sz_65_VSFun rfl rfl rfl rfl (by assumption) (by first | rfl | exact Nat.le_of_ble_eq_true rfl | simp)) ?_
  rintro _ H6003 ⟨rfl, st6003, at6003⟩
  have nx_H6003 := st6003.nx
  replace hle := hle.st st6003 (fun k hk => ⟨by omega, trivial⟩)
  have ne_g2_g9 : g2 ≠ g9 := by omega
  replace at2 := st6003.same _ _ ⟨ne_g2_g9, trivial⟩ at2
  replace lv_v26 := Keep.st lv_v26 st6003 (fun k hb hk => ⟨by omega, trivial⟩)
  replace v26 := bs_v26.keep lv_v26 (Nat.le_refl _)
  replace lv_v28 := Keep.st lv_v28 st6003 (fun k hb hk => ⟨by omega, trivial⟩)
  replace v28 := bs_v28.keep lv_v28 (Nat.le_refl _)
  replace lv_u28 := Keep.st lv_u28 st6003 (fun k hb hk => ⟨by omega, trivial⟩)
  replace u28 := bs_u28.keep lv_u28 (Nat.le_refl _)
  replace lv_v33 := Keep.st lv_v33 st6003 (fun k hb hk => ⟨by omega, trivial⟩)
  replace v33 := bs_v33.keep lv_v33 (Nat.le_refl _)
  have lt_at6003 := GHeap.lt_of_get at6003
  replace h0 := base_h0.mono hle
  clear hb2 fsh2 c52 c62 i12 i22 hm2 hi2 hmsh2 hish2
  have hb2 : SFun.At _ g2 0 f p := ⟨Mem.of_get at2, h0⟩
  obtain ⟨fsh2, c52, c62, i12, i22⟩ := hb2.get
  have hm2 : MemN _ _ _ _ _ := ⟨rfl, hb2.1⟩
  have hi2 := hb2.2
  have hmsh2 : MemN _ _ _ _ _ := ⟨rfl, fsh2.1⟩
  have hish2 := fsh2.2
  clear i26
  have i26 := v26.inn
  clear i28
  have i28 := v28.intss
  clear j28
  have j28 := u28.ints
  clear i33
  have i33 := v33.inn
  have mm6003 : MemN _ _ _ _ _ := ⟨rfl, Mem.of_get at6003⟩
  refine .nil ?_
  refine hK8 _ _ ?_
  refine .seq (fun K9 hK9 => ?_)
  refine .region ?_
  refine .m rfl rfl rfl (.loadM ag_65_VSFun rfl ⟨rfl, Mem.of_get at6003⟩) ?_
  refine .m rfl rfl rfl (.move rfl) ?_
  refine .call rfl rfl rfl rfl @Try.call43 rfl (implGluedGenerators_c) ?_
  rintro _ H37 ⟨le37, a37, r37, b37, rfl, v37⟩
  have nx_H37 := le37.1
  replace hle := hle.trans le37
  replace at2 := le37.2 _ _ at2
  replace at6003 := le37.2 _ _ at6003
  replace lv_v26 := Keep.le lv_v26 le37
  replace v26 := bs_v26.keep lv_v26 (Nat.le_refl _)
  replace lv_v28 := Keep.le lv_v28 le37
  replace v28 := bs_v28.keep lv_v28 (Nat.le_refl _)
  replace lv_u28 := Keep.le lv_u28 le37
  replace u28 := bs_u28.keep lv_u28 (Nat.le_refl _)
  replace lv_v33 := Keep.le lv_v33 le37
  replace v33 := bs_v33.keep lv_v33 (Nat.le_refl _)
  have bs_v37 := v37
  have lv_v37 : Keep H6003.next H37 H37 := fun _ _ _ h => h
  replace h0 := base_h0.mono hle
  clear hb2 fsh2 c52 c62 i12 i22 hm2 hi2 hmsh2 hish2
  have hb2 : SFun.At _ g2 0 f p := ⟨Mem.of_get at2, h0⟩
  obtain ⟨fsh2, c52, c62, i12, i22⟩ := hb2.get
  have hm2 : MemN _ _ _ _ _ := ⟨rfl, hb2.1⟩
  have hi2 := hb2.2
  have hmsh2 : MemN _ _ _ _ _ := ⟨rfl, fsh2.1⟩
  have hish2 := fsh2.2
  clear i26
  have i26 := v26.inn
  clear i28
  have i28 := v28.intss
  clear j28
  have j28 := u28.ints
  clear i33
  have i33 := v33.inn
  clear mm6003
  have mm6003 : MemN _ _ _ _ _ := ⟨rfl, Mem.of_get at6003⟩
  have i37 := v37.v.intss
  have j37 := v37.w.ints
  refine .m rfl rfl rfl (.move rfl) (.m rfl rfl rfl (.extract rfl rfl) (.m rfl rfl rfl (.extract rfl rfl) (.m rfl rfl rfl (.extract rfl rfl) ?_)))
  refine .m rfl rfl rfl (.assign rfl) (.m rfl rfl rfl (.assign rfl) (.m rfl rfl rfl (.assign rfl) (.nil ?_)))
  refine hK9 _ _ ?_
  refine .seq (fun K10 hK10 => ?_)
  refine .seq (fun K11 hK11 => ?_)
  refine .region (.m rfl rfl rfl (.move rfl) (.m rfl rfl rfl (.move rfl) ?_))
  refine .callQ rfl rfl rfl rfl @Try.call24 rfl (eqInt64SS_c) ?_
  refine .m rfl rfl rfl (.not rfl) (.m rfl rfl rfl (.move rfl) ?_)
  refine .split (fun h45 => ?_) (fun h45 => ?_)
  ·
   try simp only [sps] at h45
   refine .sg rfl rfl rfl rfl rfl (.sg rfl rfl rfl rfl rfl (.sg rfl rfl rfl rfl rfl (.sg rfl rfl rfl rfl rfl ?_)))
   refine .m rfl rfl rfl (.pickT rfl rfl) (.m rfl rfl rfl (.move rfl) (.sg rfl rfl rfl rfl rfl (.sg rfl rfl rfl rfl rfl ?_)))
   refine .sg rfl rfl rfl rfl rfl (.m rfl rfl rfl (.pickT rfl rfl) (.nil ?_))
   refine hK11 _ _ ?_
   refine .condT rfl ?_
   refine .seq (fun K12 hK12 => ?_)
   refine .region (.m rfl rfl rfl (.assign rfl) (.nil ?_))
   refine hK12 _ _ ?_
   refine .ret ?_
   refine hret _ _ ?_
   refine ⟨_, rfl, ?_⟩
   first
   | exact rfl
   | exact absurd trivial (by assumption)
   | contradiction
   | (exfalso; omega)
  try simp only [sps] at h45
  refine .mg rfl rfl rfl rfl rfl (.move rfl) (.mg rfl rfl rfl rfl rfl (.move rfl) ?_)
  refine .callQg rfl rfl rfl rfl rfl rfl @Try.call29 rfl (eqInt64S_c) ?_
  refine .mg rfl rfl rfl rfl rfl (.not rfl) (.m rfl rfl rfl (.pickF rfl rfl) (.m rfl rfl rfl (.move rfl) ?_))
  refine .split (fun h51 => ?_) (fun h51 => ?_)
  ·
   try simp only [sps] at h51
   refine .sg rfl rfl rfl rfl rfl (.sg rfl rfl rfl rfl rfl (.sg rfl rfl rfl rfl rfl (.m rfl rfl rfl (.pickT rfl rfl) ?_)))
   refine .nil ?_
   refine hK11 _ _ ?_
   refine .condT rfl ?_
   refine .seq (fun K13 hK13 => ?_)
   refine .region (.m rfl rfl rfl (.assign rfl) (.nil ?_))
   refine hK13 _ _ ?_
   refine .ret ?_
   refine hret _ _ ?_
   refine ⟨_, rfl, ?_⟩
   first
   | exact rfl
   | exact absurd trivial (by assumption)
   | contradiction
   | (exfalso; omega)
  try simp only [sps] at h51
  refine .mg rfl rfl rfl rfl rfl (.move rfl) (.mg rfl rfl rfl rfl rfl (.move rfl) (.mg rfl rfl rfl rfl rfl (.cmp rfl rfl rfl) (.m rfl rfl rfl (.pickF rfl rfl) ?_)))
  refine .nil ?_
  refine hK11 _ _ ?_
  refine .cond rfl (fun h55 => ?_) (fun h55 => ?_)
  ·
   try simp only [sps] at h55
   refine .seq (fun K14 hK14 => ?_)
   refine .region (.m rfl rfl rfl (.assign rfl) (.nil ?_))
   refine hK14 _ _ ?_
   refine .ret ?_
   refine hret _ _ ?_
   refine ⟨_, rfl, ?_⟩
   first
   | exact rfl
   | exact absurd trivial (by assumption)
   | contradiction
   | (exfalso; omega)
  try simp only [sps] at h55
  refine .skip ?_
  refine hK10 _ _ ?_
  refine .seq (fun K15 hK15 => ?_)
  refine .seq (fun K16 hK16 => ?_)
  refine .regionD mixed_orders_B (.q 0 (.q 1 (.c 2 1 (.c 3 0 (.q 4 (.done)))))) (by kernel_rfl) ?_
  refine .m rfl rfl rfl rfl (.refl _) (.loadM ag_65_VSFun rfl ⟨rfl, Mem.of_get at6003⟩) ?_
  refine .m rfl rfl rfl rfl (.refl _) (.loadM ag_57_LGluedGenerators rfl ⟨rfl, Mem.of_get at2⟩) ?_
  refine .call1 rfl rfl rfl rfl rfl @Try.call36 rfl (toSetFunctor_c) ?_
  rintro _ H58 ⟨le58, p58, rfl, v58⟩
  have hbl := le58
  refine ⟨hbl, ?_⟩
  have nx_H58 := le58.1
  replace hle := hle.trans le58
  replace at2 := le58.2 _ _ at2
  replace at6003 := le58.2 _ _ at6003
  replace lv_v26 := Keep.le lv_v26 le58
  replace v26 := bs_v26.keep lv_v26 (Nat.le_refl _)
  replace lv_v28 := Keep.le lv_v28 le58
  replace v28 := bs_v28.keep lv_v28 (Nat.le_refl _)
  replace lv_u28 := Keep.le lv_u28 le58
  replace u28 := bs_u28.keep lv_u28 (Nat.le_refl _)
  replace lv_v33 := Keep.le lv_v33 le58
  replace v33 := bs_v33.keep lv_v33 (Nat.le_refl _)
  replace lv_v37 := Keep.le lv_v37 le58
  replace v37 := bs_v37.keep lv_v37 (Nat.le_refl _)
  have bs_v58 := v58
  have lv_v58 : Keep H37.next H58 H58 := fun _ _ _ h => h
  replace h0 := base_h0.mono hle
  clear hb2 fsh2 c52 c62 i12 i22 hm2 hi2 hmsh2 hish2
  have hb2 : SFun.At _ g2 0 f p := ⟨Mem.of_get at2, h0⟩
  obtain ⟨fsh2, c52, c62, i12, i22⟩ := hb2.get
  have hm2 : MemN _ _ _ _ _ := ⟨rfl, hb2.1⟩
  have hi2 := hb2.2
  have hmsh2 : MemN _ _ _ _ _ := ⟨rfl, fsh2.1⟩
  have hish2 := fsh2.2
  clear i26
  have i26 := v26.inn
  clear i28
  have i28 := v28.intss
  clear j28
  have j28 := u28.ints
  clear i33
  have i33 := v33.inn
  clear mm6003
  have mm6003 : MemN _ _ _ _ _ := ⟨rfl, Mem.of_get at6003⟩
  clear i37
  have i37 := v37.v.intss
  clear j37
  have j37 := v37.w.ints
  have i58 := v58.inn
  refine .callQ0 rfl rfl rfl rfl rfl @Try.call39 rfl (eqSetFunctor_c) ?_
  refine .m rfl rfl rfl rfl (.refl _) (.not rfl) ?_
  refine .done ?_
  refine hK16 _ _ ?_
  refine .cond rfl (fun h60 => ?_) (fun h60 => ?_)
  ·
   try simp only [sps] at h60
   refine .seq (fun K17 hK17 => ?_)
   refine .region (.m rfl rfl rfl (.assign rfl) (.nil ?_))
   refine hK17 _ _ ?_
   refine .ret ?_
   refine hret _ _ ?_
   refine ⟨_, rfl, ?_⟩
   first
   | exact rfl
   | exact absurd trivial (by assumption)
   | contradiction
   | (exfalso; omega)
  try simp only [sps] at h60
  refine .skip ?_
  refine hK15 _ _ ?_
  refine .seq (fun K18 hK18 => ?_)
  refine .region (.m rfl rfl rfl (.assign rfl) (.nil ?_))
  refine hK18 _ _ ?_
  refine .seq (fun K19 hK19 => ?_)
  refine .region ?_
  refine .m rfl rfl rfl (.loadM ag_65_VSFun rfl ⟨rfl, Mem.of_get at6003⟩) ?_
  refine .m rfl rfl rfl (.move rfl) ?_
  have w_v33 := SFunW.of_at bs_v33 lv_v33
  refine .call rfl rfl rfl rfl @Try.call41 rfl (markSetFunctor_c) ?_
  rintro _ H63 ⟨rfl, mk63⟩
  have sm63 := mk63.stm
  have nx_H63 := sm63.nx
  replace hle := StM.le_left hle sm63 (by omega)
  replace at2 := sm63.same _ _ (by omega) at2
  replace at6003 := sm63.same _ _ (by omega) at6003
  replace lv_v26 := Keep.stM lv_v26 sm63 (fun k hb hk => by omega)
  replace v26 := bs_v26.keep lv_v26 (Nat.le_refl _)
  replace lv_v28 := Keep.stM lv_v28 sm63 (fun k hb hk => by omega)
  replace v28 := bs_v28.keep lv_v28 (Nat.le_refl _)
  replace lv_u28 := Keep.stM lv_u28 sm63 (fun k hb hk => by omega)
  replace u28 := bs_u28.keep lv_u28 (Nat.le_refl _)
  replace lv_v37 := Keep.stM lv_v37 sm63 (fun k hb hk => by omega)
  replace v37 := bs_v37.keep lv_v37 (Nat.le_refl _)
  replace lv_v58 := Keep.stM lv_v58 sm63 (fun k hb hk => by omega)
  replace v58 := bs_v58.keep lv_v58 (Nat.le_refl _)
  replace h0 := base_h0.mono hle
  clear hb2 fsh2 c52 c62 i12 i22 hm2 hi2 hmsh2 hish2
  have hb2 : SFun.At _ g2 0 f p := ⟨Mem.of_get at2, h0⟩
  obtain ⟨fsh2, c52, c62, i12, i22⟩ := hb2.get
  have hm2 : MemN _ _ _ _ _ := ⟨rfl, hb2.1⟩
  have hi2 := hb2.2
  have hmsh2 : MemN _ _ _ _ _ := ⟨rfl, fsh2.1⟩
  have hish2 := fsh2.2
  clear i26
  have i26 := v26.inn
  clear i28
  have i28 := v28.intss
  clear j28
  have j28 := u28.ints
  clear mm6003
  have mm6003 : MemN _ _ _ _ _ := ⟨rfl, Mem.of_get at6003⟩
  clear i37
  have i37 := v37.v.intss
  clear j37
  have j37 := v37.w.ints
  clear i58
  have i58 := v58.inn
  refine .m rfl rfl rfl (.assign rfl) (.nil ?_)
  refine hK19 _ _ ?_
  refine .seq (fun K20 hK20 => ?_)
  refine .seq (fun K21 hK21 => ?_)
  refine .region (.m rfl rfl rfl (.move rfl) (.m rfl rfl rfl (.cmp rfl rfl rfl) (.m rfl rfl rfl (.move rfl) ?_)))
  refine .split (fun h66 => ?_) (fun h66 => ?_)
  ·
   try simp only [sps] at h66
   refine .sg rfl rfl rfl rfl rfl (.sg rfl rfl rfl rfl rfl (.sg rfl rfl rfl rfl rfl (.sg rfl rfl rfl rfl rfl ?_)))
   refine .m rfl rfl rfl (.pickT rfl rfl) (.m rfl rfl rfl (.move rfl) (.sg rfl rfl rfl rfl rfl (.sg rfl rfl rfl rfl rfl ?_)))
   refine .sg rfl rfl rfl rfl rfl (.sg rfl rfl rfl rfl rfl (.m rfl rfl rfl (.pickT rfl rfl) (.m rfl rfl rfl (.move rfl) ?_)))
   refine .sg rfl rfl rfl rfl rfl (.sg rfl rfl rfl rfl rfl (.sg rfl rfl rfl rfl rfl (.m rfl rfl rfl (.pickT rfl rfl) ?_)))
   refine .nil ?_
   refine hK21 _ _ ?_
   refine .condT rfl ?_
   refine .seq (fun K22 hK22 => ?_)
   refine .region (.m rfl rfl rfl (.assign rfl) (.nil ?_))
   refine hK22 _ _ ?_
   refine .ret ?_
   refine hret _ _ ?_
   refine ⟨_, rfl, ?_⟩
   first
   | exact rfl
   | exact absurd trivial (by assumption)
   | contradiction
   | (exfalso; omega)
  try simp only [sps] at h66
  refine .mg rfl rfl rfl rfl rfl (.move rfl) (.mg rfl rfl rfl rfl rfl (.move rfl) ?_)
  refine .callQg rfl rfl rfl rfl rfl rfl @Try.call24 rfl (eqInt64SS_c) ?_
  refine .mg rfl rfl rfl rfl rfl (.not rfl) (.m rfl rfl rfl (.pickF rfl rfl) (.m rfl rfl rfl (.move rfl) ?_))
  refine .split (fun h72 => ?_) (fun h72 => ?_)
  ·
   try simp only [sps] at h72
   refine .sg rfl rfl rfl rfl rfl (.sg rfl rfl rfl rfl rfl (.sg rfl rfl rfl rfl rfl (.sg rfl rfl rfl rfl rfl ?_)))
   refine .m rfl rfl rfl (.pickT rfl rfl) (.m rfl rfl rfl (.move rfl) (.sg rfl rfl rfl rfl rfl (.sg rfl rfl rfl rfl rfl ?_)))
   refine .sg rfl rfl rfl rfl rfl (.m rfl rfl rfl (.pickT rfl rfl) (.nil ?_))
   refine hK21 _ _ ?_
   refine .condT rfl ?_
   refine .seq (fun K23 hK23 => ?_)
   refine .region (.m rfl rfl rfl (.assign rfl) (.nil ?_))
   refine hK23 _ _ ?_
   refine .ret ?_
   refine hret _ _ ?_
   refine ⟨_, rfl, ?_⟩
   first
   | exact rfl
   | exact absurd trivial (by assumption)
   | contradiction
   | (exfalso; omega)
  try simp only [sps] at h72
  refine .mg rfl rfl rfl rfl rfl (.move rfl) (.mg rfl rfl rfl rfl rfl (.move rfl) ?_)
  refine .callQg rfl rfl rfl rfl rfl rfl @Try.call29 rfl (eqInt64S_c) ?_
  refine .mg rfl rfl rfl rfl rfl (.not rfl) (.m rfl rfl rfl (.pickF rfl rfl) (.m rfl rfl rfl (.move rfl) ?_))
  refine .split (fun h78 => ?_) (fun h78 => ?_)
  ·
   try simp only [sps] at h78
   refine .sg rfl rfl rfl rfl rfl (.sg rfl rfl rfl rfl rfl (.sg rfl rfl rfl rfl rfl (.m rfl rfl rfl (.pickT rfl rfl) ?_)))
   refine .nil ?_
   refine hK21 _ _ ?_
   refine .condT rfl ?_
   refine .seq (fun K24 hK24 => ?_)
   refine .region (.m rfl rfl rfl (.assign rfl) (.nil ?_))
   refine hK24 _ _ ?_
   refine .ret ?_
   refine hret _ _ ?_
   refine ⟨_, rfl, ?_⟩
   first
   | exact rfl
   | exact absurd trivial (by assumption)
   | contradiction
   | (exfalso; omega)
  try simp only [sps] at h78
  refine .mg rfl rfl rfl rfl rfl (.move rfl) (.mg rfl rfl rfl rfl rfl (.move rfl) (.mg rfl rfl rfl rfl rfl (.cmp rfl rfl rfl) (.m rfl rfl rfl (.pickF rfl rfl) ?_)))
  refine .nil ?_
  refine hK21 _ _ ?_
  refine .cond rfl (fun h82 => ?_) (fun h82 => ?_)
  ·
   try simp only [sps] at h82
   refine .seq (fun K25 hK25 => ?_)
   refine .region (.m rfl rfl rfl (.assign rfl) (.nil ?_))
   refine hK25 _ _ ?_
   refine .ret ?_
   refine hret _ _ ?_
   refine ⟨_, rfl, ?_⟩
   first
   | exact rfl
   | exact absurd trivial (by assumption)
   | contradiction
   | (exfalso; omega)
  try simp only [sps] at h82
  refine .skip ?_
  refine hK20 _ _ ?_
  refine .seq (fun K26 hK26 => ?_)
  refine .region (.m rfl rfl rfl (.assign rfl) (.nil ?_))
  refine hK26 _ _ ?_
  refine .seq (fun K27 hK27 => ?_)
  refine .region (.m rfl rfl rfl (.move rfl) (.m rfl rfl rfl (.move rfl) ?_))
  have w1_v37 := IntssW.of_r bs_v37.v lv_v37
  have w2_v37 := IntsW.of_r bs_v37.w lv_v37
  refine .call rfl rfl rfl rfl @Try.call25 rfl (markInt64SS_c) ?_
  rintro _ H85 ⟨rfl, mk85⟩
  have sm85 := mk85.stm
  have nx_H85 := sm85.nx
  replace hle := StM.le_left hle sm85 (by omega)
  replace at2 := sm85.same _ _ (by omega) at2
  replace at6003 := sm85.same _ _ (by omega) at6003
  replace lv_v26 := Keep.stM lv_v26 sm85 (fun k hb hk => by omega)
  replace v26 := bs_v26.keep lv_v26 (Nat.le_refl _)
  replace lv_v28 := Keep.stM lv_v28 sm85 (fun k hb hk => by omega)
  replace v28 := bs_v28.keep lv_v28 (Nat.le_refl _)
  replace lv_u28 := Keep.stM lv_u28 sm85 (fun k hb hk => by omega)
  replace u28 := bs_u28.keep lv_u28 (Nat.le_refl _)
  replace lv_v58 := Keep.stM lv_v58 sm85 (fun k hb hk => by omega)
  replace v58 := bs_v58.keep lv_v58 (Nat.le_refl _)
  replace h0 := base_h0.mono hle
  clear hb2 fsh2 c52 c62 i12 i22 hm2 hi2 hmsh2 hish2
  have hb2 : SFun.At _ g2 0 f p := ⟨Mem.of_get at2, h0⟩
  obtain ⟨fsh2, c52, c62, i12, i22⟩ := hb2.get
  have hm2 : MemN _ _ _ _ _ := ⟨rfl, hb2.1⟩
  have hi2 := hb2.2
  have hmsh2 : MemN _ _ _ _ _ := ⟨rfl, fsh2.1⟩
  have hish2 := fsh2.2
  clear i26
  have i26 := v26.inn
  clear i28
  have i28 := v28.intss
  clear j28
  have j28 := u28.ints
  clear mm6003
  have mm6003 : MemN _ _ _ _ _ := ⟨rfl, Mem.of_get at6003⟩
  clear i58
  have i58 := v58.inn
  have hd1_v37 := mk85.held bs_v37.nd1
  replace w1_v37 := w1_v37.stm sm85
  replace w2_v37 := w2_v37.stm sm85
  have bs_hd1_v37 := hd1_v37
  have lv_hd1_v37 : Keep H6003.next H85 H85 := fun _ _ _ h => h
  have bs_w1_v37 := w1_v37
  have lv_w1_v37 : Keep H6003.next H85 H85 := fun _ _ _ h => h
  have bs_w2_v37 := w2_v37
  have lv_w2_v37 : Keep H6003.next H85 H85 := fun _ _ _ h => h
  refine .m rfl rfl rfl (.assign rfl) (.nil ?_)
  refine hK27 _ _ ?_
  refine .seq (fun K28 hK28 => ?_)
  refine .region (.m rfl rfl rfl (.move rfl) (.m rfl rfl rfl (.move rfl) ?_))
  refine .call rfl rfl rfl rfl @Try.call30 rfl (markInt64S_c) ?_
  rintro _ H88 ⟨rfl, mk88⟩
  have sm88 := mk88.stm
  have nx_H88 := sm88.nx
  replace hle := StM.le_left hle sm88 (by omega)
  replace at2 := sm88.same _ _ (by omega) at2
  replace at6003 := sm88.same _ _ (by omega) at6003
  replace lv_v26 := Keep.stM lv_v26 sm88 (fun k hb hk => by omega)
  replace v26 := bs_v26.keep lv_v26 (Nat.le_refl _)
  replace lv_v28 := Keep.stM lv_v28 sm88 (fun k hb hk => by omega)
  replace v28 := bs_v28.keep lv_v28 (Nat.le_refl _)
  replace lv_u28 := Keep.stM lv_u28 sm88 (fun k hb hk => by omega)
  replace u28 := bs_u28.keep lv_u28 (Nat.le_refl _)
  replace lv_v58 := Keep.stM lv_v58 sm88 (fun k hb hk => by omega)
  replace v58 := bs_v58.keep lv_v58 (Nat.le_refl _)
  replace h0 := base_h0.mono hle
  clear hb2 fsh2 c52 c62 i12 i22 hm2 hi2 hmsh2 hish2
  have hb2 : SFun.At _ g2 0 f p := ⟨Mem.of_get at2, h0⟩
  obtain ⟨fsh2, c52, c62, i12, i22⟩ := hb2.get
  have hm2 : MemN _ _ _ _ _ := ⟨rfl, hb2.1⟩
  have hi2 := hb2.2
  have hmsh2 : MemN _ _ _ _ _ := ⟨rfl, fsh2.1⟩
  have hish2 := fsh2.2
  clear i26
  have i26 := v26.inn
  clear i28
  have i28 := v28.intss
  clear j28
  have j28 := u28.ints
  clear mm6003
  have mm6003 : MemN _ _ _ _ _ := ⟨rfl, Mem.of_get at6003⟩
  clear i58
  have i58 := v58.inn
  replace hd1_v37 := Held.stB mk88.stb hd1_v37 bs_v37.dj
  have hd2_v37 := mk88.held bs_v37.nd2
  replace w1_v37 := w1_v37.stm sm88
  replace w2_v37 := w2_v37.stm sm88
  have bs_hd1_v37 := hd1_v37
  have lv_hd1_v37 : Keep H6003.next H88 H88 := fun _ _ _ h => h
  have bs_hd2_v37 := hd2_v37
  have lv_hd2_v37 : Keep H6003.next H88 H88 := fun _ _ _ h => h
  have bs_w1_v37 := w1_v37
  have lv_w1_v37 : Keep H6003.next H88 H88 := fun _ _ _ h => h
  have bs_w2_v37 := w2_v37
  have lv_w2_v37 : Keep H6003.next H88 H88 := fun _ _ _ h => h
  refine .m rfl rfl rfl (.assign rfl) (.nil ?_)
  refine hK28 _ _ ?_
  refine .seq (fun K29 hK29 => ?_)
  refine .region (.m rfl rfl rfl (.assign rfl) (.nil ?_))
  refine hK29 _ _ ?_
  refine .seq (fun K30 hK30 => ?_)
  refine .region (.m rfl rfl rfl (.move rfl) (.m rfl rfl rfl (.move rfl) ?_))
  refine .callQ rfl rfl rfl rfl @Try.call26 rfl (heldInt64SSw_c) ?_
  refine .m rfl rfl rfl (.assign rfl) (.nil ?_)
  refine hK30 _ _ ?_
  refine .seq (fun K31 hK31 => ?_)
  refine .seq (fun K32 hK32 => ?_)
  refine .region (.m rfl rfl rfl (.move rfl) (.m rfl rfl rfl (.cmp rfl rfl rfl) (.nil ?_)))
  refine hK32 _ _ ?_
  refine .cond rfl (fun h93 => ?_) (fun h93 => ?_)
  ·
   try simp only [sps] at h93
   refine .seq (fun K33 hK33 => ?_)
   refine .region (.m rfl rfl rfl (.assign rfl) (.nil ?_))
   refine hK33 _ _ ?_
   refine .ret ?_
   refine hret _ _ ?_
   refine ⟨_, rfl, ?_⟩
   first
   | exact rfl
   | exact absurd trivial (by assumption)
   | contradiction
   | (exfalso; omega)
  try simp only [sps] at h93
  refine .skip ?_
  refine hK31 _ _ ?_
  refine .seq (fun K34 hK34 => ?_)
  refine .region (.m rfl rfl rfl (.move rfl) (.m rfl rfl rfl (.move rfl) ?_))
  refine .callQ rfl rfl rfl rfl @Try.call31 rfl (heldInt64S_c) ?_
  refine .m rfl rfl rfl (.assign rfl) (.nil ?_)
  refine hK34 _ _ ?_
  refine .seq (fun K35 hK35 => ?_)
  refine .seq (fun K36 hK36 => ?_)
  refine .region (.m rfl rfl rfl (.move rfl) (.m rfl rfl rfl (.cmp rfl rfl rfl) (.nil ?_)))
  refine hK36 _ _ ?_
  refine .cond rfl (fun h98 => ?_) (fun h98 => ?_)
  ·
   try simp only [sps] at h98
   refine .seq (fun K37 hK37 => ?_)
   refine .region (.m rfl rfl rfl (.assign rfl) (.nil ?_))
   refine hK37 _ _ ?_
   refine .ret ?_
   refine hret _ _ ?_
   refine ⟨_, rfl, ?_⟩
   first
   | exact rfl
   | exact absurd trivial (by assumption)
   | contradiction
   | (exfalso; omega)
  try simp only [sps] at h98
  refine .skip ?_
  refine hK35 _ _ ?_
  refine .seq (fun K38 hK38 => ?_)
  refine .seq (fun K39 hK39 => ?_)
  refine .region (.m rfl rfl rfl (.move rfl) (.m rfl rfl rfl (.move rfl) (.m rfl rfl rfl (.cmp rfl rfl rfl) ?_)))
  refine .nil ?_
  refine hK39 _ _ ?_
  refine .cond rfl (fun h101 => ?_) (fun h101 => ?_)
  ·
   try simp only [sps] at h101
   refine .seq (fun K40 hK40 => ?_)
   refine .region (.m rfl rfl rfl (.assign rfl) (.nil ?_))
   refine hK40 _ _ ?_
   refine .ret ?_
   refine hret _ _ ?_
   refine ⟨_, rfl, ?_⟩
   first
   | exact rfl
   | exact absurd trivial (by assumption)
   | contradiction
   | (exfalso; omega)
  try simp only [sps] at h101
  refine .skip ?_
  refine hK38 _ _ ?_
  refine .seq (fun K41 hK41 => ?_)
  refine .region ?_
  refine .m rfl rfl rfl (.loadM ag_57_LGluedGenerators rfl ⟨rfl, Mem.of_get at2⟩) ?_
  refine .call rfl rfl rfl rfl @Try.call36 rfl (toSetFunctor_c) ?_
  rintro _ H104 ⟨le104, p104, rfl, v104⟩
  have nx_H104 := le104.1
  replace hle := hle.trans le104
  replace at2 := le104.2 _ _ at2
  replace at6003 := le104.2 _ _ at6003
  replace lv_v26 := Keep.le lv_v26 le104
  replace v26 := bs_v26.keep lv_v26 (Nat.le_refl _)
  replace lv_v28 := Keep.le lv_v28 le104
  replace v28 := bs_v28.keep lv_v28 (Nat.le_refl _)
  replace lv_u28 := Keep.le lv_u28 le104
  replace u28 := bs_u28.keep lv_u28 (Nat.le_refl _)
  replace lv_v58 := Keep.le lv_v58 le104
  replace v58 := bs_v58.keep lv_v58 (Nat.le_refl _)
  replace lv_hd1_v37 := Keep.le lv_hd1_v37 le104
  replace hd1_v37 := bs_hd1_v37.keep lv_hd1_v37 (Nat.le_refl _)
  replace lv_hd2_v37 := Keep.le lv_hd2_v37 le104
  replace hd2_v37 := bs_hd2_v37.keep lv_hd2_v37 (Nat.le_refl _)
  replace lv_w1_v37 := Keep.le lv_w1_v37 le104
  replace w1_v37 := bs_w1_v37.keep lv_w1_v37 (Nat.le_refl _)
  replace lv_w2_v37 := Keep.le lv_w2_v37 le104
  replace w2_v37 := bs_w2_v37.keep lv_w2_v37 (Nat.le_refl _)
  have bs_v104 := v104
  have lv_v104 : Keep H88.next H104 H104 := fun _ _ _ h => h
  replace h0 := base_h0.mono hle
  clear hb2 fsh2 c52 c62 i12 i22 hm2 hi2 hmsh2 hish2
  have hb2 : SFun.At _ g2 0 f p := ⟨Mem.of_get at2, h0⟩
  obtain ⟨fsh2, c52, c62, i12, i22⟩ := hb2.get
  have hm2 : MemN _ _ _ _ _ := ⟨rfl, hb2.1⟩
  have hi2 := hb2.2
  have hmsh2 : MemN _ _ _ _ _ := ⟨rfl, fsh2.1⟩
  have hish2 := fsh2.2
  clear i26
  have i26 := v26.inn
  clear i28
  have i28 := v28.intss
  clear j28
  have j28 := u28.ints
  clear mm6003
  have mm6003 : MemN _ _ _ _ _ := ⟨rfl, Mem.of_get at6003⟩
  clear i58
  have i58 := v58.inn
  have i104 := v104.inn
  refine .m rfl rfl rfl (.move rfl) ?_
  refine .call rfl rfl rfl rfl @Try.call43 rfl (implGluedGenerators_c) ?_
  rintro _ H106 ⟨le106, a106, r106, b106, rfl, v106⟩
  have nx_H106 := le106.1
  replace hle := hle.trans le106
  replace at2 := le106.2 _ _ at2
  replace at6003 := le106.2 _ _ at6003
  replace lv_v26 := Keep.le lv_v26 le106
  replace v26 := bs_v26.keep lv_v26 (Nat.le_refl _)
  replace lv_v28 := Keep.le lv_v28 le106
  replace v28 := bs_v28.keep lv_v28 (Nat.le_refl _)
  replace lv_u28 := Keep.le lv_u28 le106
  replace u28 := bs_u28.keep lv_u28 (Nat.le_refl _)
  replace lv_v58 := Keep.le lv_v58 le106
  replace v58 := bs_v58.keep lv_v58 (Nat.le_refl _)
  replace lv_hd1_v37 := Keep.le lv_hd1_v37 le106
  replace hd1_v37 := bs_hd1_v37.keep lv_hd1_v37 (Nat.le_refl _)
  replace lv_hd2_v37 := Keep.le lv_hd2_v37 le106
  replace hd2_v37 := bs_hd2_v37.keep lv_hd2_v37 (Nat.le_refl _)
  replace lv_w1_v37 := Keep.le lv_w1_v37 le106
  replace w1_v37 := bs_w1_v37.keep lv_w1_v37 (Nat.le_refl _)
  replace lv_w2_v37 := Keep.le lv_w2_v37 le106
  replace w2_v37 := bs_w2_v37.keep lv_w2_v37 (Nat.le_refl _)
  replace lv_v104 := Keep.le lv_v104 le106
  replace v104 := bs_v104.keep lv_v104 (Nat.le_refl _)
  have bs_v106 := v106
  have lv_v106 : Keep H104.next H106 H106 := fun _ _ _ h => h
  replace h0 := base_h0.mono hle
  clear hb2 fsh2 c52 c62 i12 i22 hm2 hi2 hmsh2 hish2
  have hb2 : SFun.At _ g2 0 f p := ⟨Mem.of_get at2, h0⟩
  obtain ⟨fsh2, c52, c62, i12, i22⟩ := hb2.get
  have hm2 : MemN _ _ _ _ _ := ⟨rfl, hb2.1⟩
  have hi2 := hb2.2
  have hmsh2 : MemN _ _ _ _ _ := ⟨rfl, fsh2.1⟩
  have hish2 := fsh2.2
  clear i26
  have i26 := v26.inn
  clear i28
  have i28 := v28.intss
  clear j28
  have j28 := u28.ints
  clear mm6003
  have mm6003 : MemN _ _ _ _ _ := ⟨rfl, Mem.of_get at6003⟩
  clear i58
  have i58 := v58.inn
  clear i104
  have i104 := v104.inn
  have i106 := v106.v.intss
  have j106 := v106.w.ints
  refine .m rfl rfl rfl (.move rfl) (.m rfl rfl rfl (.extract rfl rfl) (.m rfl rfl rfl (.extract rfl rfl) (.m rfl rfl rfl (.extract rfl rfl) ?_)))
  refine .m rfl rfl rfl (.assign rfl) (.m rfl rfl rfl (.assign rfl) (.m rfl rfl rfl (.assign rfl) (.nil ?_)))
  refine hK41 _ _ ?_
  refine .seq (fun K42 hK42 => ?_)
  refine .seq (fun K43 hK43 => ?_)
  refine .region (.m rfl rfl rfl (.move rfl) (.m rfl rfl rfl (.move rfl) ?_))
  refine .callQ rfl rfl rfl rfl @Try.call24 rfl (eqInt64SS_c) ?_
  refine .m rfl rfl rfl (.not rfl) (.m rfl rfl rfl (.move rfl) ?_)
  refine .split (fun h114 => ?_) (fun h114 => ?_)
  ·
   try simp only [sps] at h114
   refine .sg rfl rfl rfl rfl rfl (.sg rfl rfl rfl rfl rfl (.sg rfl rfl rfl rfl rfl (.sg rfl rfl rfl rfl rfl ?_)))
   refine .m rfl rfl rfl (.pickT rfl rfl) (.m rfl rfl rfl (.move rfl) (.sg rfl rfl rfl rfl rfl (.sg rfl rfl rfl rfl rfl ?_)))
   refine .sg rfl rfl rfl rfl rfl (.m rfl rfl rfl (.pickT rfl rfl) (.nil ?_))
   refine hK43 _ _ ?_
   refine .condT rfl ?_
   refine .seq (fun K44 hK44 => ?_)
   refine .region (.m rfl rfl rfl (.assign rfl) (.nil ?_))
   refine hK44 _ _ ?_
   refine .ret ?_
   refine hret _ _ ?_
   refine ⟨_, rfl, ?_⟩
   first
   | exact rfl
   | exact absurd trivial (by assumption)
   | contradiction
   | (exfalso; omega)
  try simp only [sps] at h114
  refine .mg rfl rfl rfl rfl rfl (.move rfl) (.mg rfl rfl rfl rfl rfl (.move rfl) ?_)
  refine .callQg rfl rfl rfl rfl rfl rfl @Try.call29 rfl (eqInt64S_c) ?_
  refine .mg rfl rfl rfl rfl rfl (.not rfl) (.m rfl rfl rfl (.pickF rfl rfl) (.m rfl rfl rfl (.move rfl) ?_))
  refine .split (fun h120 => ?_) (fun h120 => ?_)
  ·
   try simp only [sps] at h120
   refine .sg rfl rfl rfl rfl rfl (.sg rfl rfl rfl rfl rfl (.sg rfl rfl rfl rfl rfl (.m rfl rfl rfl (.pickT rfl rfl) ?_)))
   refine .nil ?_
   refine hK43 _ _ ?_
   refine .condT rfl ?_
   refine .seq (fun K45 hK45 => ?_)
   refine .region (.m rfl rfl rfl (.assign rfl) (.nil ?_))
   refine hK45 _ _ ?_
   refine .ret ?_
   refine hret _ _ ?_
   refine ⟨_, rfl, ?_⟩
   first
   | exact rfl
   | exact absurd trivial (by assumption)
   | contradiction
   | (exfalso; omega)
  try simp only [sps] at h120
  refine .mg rfl rfl rfl rfl rfl (.move rfl) (.mg rfl rfl rfl rfl rfl (.move rfl) (.mg rfl rfl rfl rfl rfl (.cmp rfl rfl rfl) (.m rfl rfl rfl (.pickF rfl rfl) ?_)))
  refine .nil ?_
  refine hK43 _ _ ?_
  refine .cond rfl (fun h124 => ?_) (fun h124 => ?_)
  ·
   try simp only [sps] at h124
   refine .seq (fun K46 hK46 => ?_)
   refine .region (.m rfl rfl rfl (.assign rfl) (.nil ?_))
   refine hK46 _ _ ?_
   refine .ret ?_
   refine hret _ _ ?_
   refine ⟨_, rfl, ?_⟩
   first
   | exact rfl
   | exact absurd trivial (by assumption)
   | contradiction
   | (exfalso; omega)
  try simp only [sps] at h124
  refine .skip ?_
  refine hK42 _ _ ?_
  refine .seq (fun K47 hK47 => ?_)
  refine .region (.m rfl rfl rfl (.assign rfl) (.nil ?_))
  refine hK47 _ _ ?_
  refine .seq (fun K48 hK48 => ?_)
  refine .region (.m rfl rfl rfl (.move rfl) (.m rfl rfl rfl (.move rfl) ?_))
  refine .callQ rfl rfl rfl rfl @Try.call26 rfl (heldInt64SSw_c) ?_
  refine .m rfl rfl rfl (.assign rfl) (.nil ?_)
  refine hK48 _ _ ?_
  refine .seq (fun K49 hK49 => ?_)
  refine .seq (fun K50 hK50 => ?_)
  refine .region (.m rfl rfl rfl (.move rfl) (.m rfl rfl rfl (.cmp rfl rfl rfl) (.nil ?_)))
  refine hK50 _ _ ?_
  refine .cond rfl (fun h129 => ?_) (fun h129 => ?_)
  ·
   try simp only [sps] at h129
   refine .seq (fun K51 hK51 => ?_)
   refine .region (.m rfl rfl rfl (.assign rfl) (.nil ?_))
   refine hK51 _ _ ?_
   refine .ret ?_
   refine hret _ _ ?_
   refine ⟨_, rfl, ?_⟩
   first
   | exact rfl
   | exact absurd trivial (by assumption)
   | contradiction
   | (exfalso; omega)
  try simp only [sps] at h129
  refine .skip ?_
  refine hK49 _ _ ?_
  refine .seq (fun K52 hK52 => ?_)
  refine .region (.m rfl rfl rfl (.move rfl) (.m rfl rfl rfl (.move rfl) ?_))
  refine .callQ rfl rfl rfl rfl @Try.call31 rfl (heldInt64S_c) ?_
  refine .m rfl rfl rfl (.assign rfl) (.nil ?_)
  refine hK52 _ _ ?_
  refine .seq (fun K53 hK53 => ?_)
  refine .seq (fun K54 hK54 => ?_)
  refine .region (.m rfl rfl rfl (.move rfl) (.m rfl rfl rfl (.cmp rfl rfl rfl) (.nil ?_)))
  refine hK54 _ _ ?_
  refine .cond rfl (fun h134 => ?_) (fun h134 => ?_)
  ·
   try simp only [sps] at h134
   refine .seq (fun K55 hK55 => ?_)
   refine .region (.m rfl rfl rfl (.assign rfl) (.nil ?_))
   refine hK55 _ _ ?_
   refine .ret ?_
   refine hret _ _ ?_
   refine ⟨_, rfl, ?_⟩
   first
   | exact rfl
   | exact absurd trivial (by assumption)
   | contradiction
   | (exfalso; omega)
  try simp only [sps] at h134
  refine .skip ?_
  refine hK53 _ _ ?_
  refine .seq (fun K56 hK56 => ?_)
  refine .seq (fun K57 hK57 => ?_)
  refine .region (.m rfl rfl rfl (.move rfl) (.m rfl rfl rfl (.move rfl) (.m rfl rfl rfl (.cmp rfl rfl rfl) ?_)))
  refine .nil ?_
  refine hK57 _ _ ?_
  refine .cond rfl (fun h137 => ?_) (fun h137 => ?_)
  ·
   try simp only [sps] at h137
   refine .seq (fun K58 hK58 => ?_)
   refine .region (.m rfl rfl rfl (.assign rfl) (.nil ?_))
   refine hK58 _ _ ?_
   refine .ret ?_
   refine hret _ _ ?_
   refine ⟨_, rfl, ?_⟩
   first
   | exact rfl
   | exact absurd trivial (by assumption)
   | contradiction
   | (exfalso; omega)
  try simp only [sps] at h137
  refine .skip ?_
  refine hK56 _ _ ?_
  refine .seq (fun K59 hK59 => ?_)
  refine .region (.m rfl rfl rfl (.assign rfl) (.nil ?_))
  refine hK59 _ _ ?_
  refine .ret ?_
  refine hret _ _ ?_
  refine ⟨_, rfl, ?_⟩
  first
  | exact rfl
  | exact absurd trivial (by assumption)
  | contradiction
  | (exfalso; omega)
end Go.Proofs.Ytgnfekfdmgnhcaa
/- The call of a law, whatever it takes: the arguments brought in one by one. No condition. -/
namespace Go.GL
open Go.RowKit Go.WideShapes Go.ChangeShapes Go.Deep

/-- An argument of type t may be brought in so that R holds of what stands for it. -/
structure Imp1 (P : Program) (t : TypeId) (R : GHeap → Value → Prop) : Prop where
  mono : ∀ {H H' : GHeap} {g : Value}, H.Le H' → R H g → R H' g
  imp : ∀ {T : Type} {enc : TypeId × Value → T} {B : Nat} {w0 : World} {ρ : Place} {H : GHeap} {w : World} {held : Bool} {base fuel : Nat} {v : Value} {x : DataW T × List MemPlace}, Sim P B w0 ρ H w → w.heap.size ≤ B →
    DataW.trod enc P w 0 (fun _ => true) held fuel t v.cells.toList = some x → Value.okWide P w .any base t v → ∃ ρ' H' g, Sim P B w0 ρ' H' w ∧ Ext ρ ρ' ∧ H.Le H' ∧ VRel ρ' g v ∧ R H' g

def structT (P : Program) (t : TypeId) : Bool := match P.underlying t with | some (.struct _) => true | _ => false
theorem imp1_struct {P : Program} {t : TypeId} {α β : Type} {cells : α → β → List Value} {I : GHeap → α → β → Prop} {W : α → Prop} (hm : ∀ {H H' : GHeap} {c : α} {p : β}, I H c p → H.Le H' → I H' c p)
    (hI : Imports P t (fun ρ H cs => ∃ (c : α) (p : β), LRel ρ (cells c p) cs ∧ I H c p ∧ W c)) (hst : structT P t = true) : Imp1 P t (fun H g => ∃ (c : α) (p : β), g = .agg (cells c p).toArray ∧ I H c p ∧ W c) where
  mono h := fun ⟨c, p, h1, h2, h3⟩ => ⟨c, p, h1, hm h2 h, h3⟩
  imp := by
    intro T enc B w0 ρ H w held base fuel v x hs hB h hv
    have hagg : ∃ cs, v = .agg cs := by
      unfold Value.okWide at hv
      unfold structT at hst
      split at hst
      · rename_i fs hu
        rw [hu] at hv
        obtain ⟨cs, h, _⟩ := hv
        exact ⟨cs, h⟩
      · cases hst
    obtain ⟨cs, rfl⟩ := hagg
    obtain ⟨ρ', H', h1, h2, h3, c, p, h4, h5, h6⟩ := hI hs hB h
    exact ⟨ρ', H', _, h1, h2, h3, by have := VRel.agg_of h4; simpa [Value.cells] using this, c, p, rfl, h5, h6⟩
theorem imp1_int {P : Program} {t : TypeId} (ht : i64T P t = true) : Imp1 P t (fun _ g => ∃ n, g = .int .i64 n ∧ I64 n) where
  mono _ := id
  imp := by
    intro T enc B w0 ρ H w held base fuel v x hs hB h hv
    obtain ⟨n, rfl⟩ := okWide_int (i64T_run ht) hv
    obtain ⟨ρ', H', h1, h2, h3, m, h4, h5⟩ := import_int ht hs hB h
    have : n = m := by simpa [Value.cells] using h4
    subst this
    exact ⟨ρ', H', _, h1, h2, h3, .int _ _, n, rfl, h5⟩
/-- Arguments of types ts may be brought in so that R holds of what stands for them. -/
structure ImpAll (P : Program) (ts : List TypeId) (R : GHeap → List Value → Prop) : Prop where
  imp : ∀ {T : Type} {enc : TypeId × Value → T} {B : Nat} {w0 : World} {ρ : Place} {H : GHeap} {w : World} {base : Nat} {vs : List Value} {ds : List (DataW T)} {ps : List MemPlace}, Sim P B w0 ρ H w → w.heap.size ≤ B →
    DataW.TrodAll enc P w 0 (fun _ => true) true ts vs ds ps → (∀ (j : Nat) t v, ts[j]? = some t → vs[j]? = some v → Value.okWide P w .any base t v) → ds.length = ts.length ∧ ∃ ρ' H' gs, Sim P B w0 ρ' H' w ∧ Ext ρ ρ' ∧ H.Le H' ∧ LRel ρ' gs vs ∧ R H' gs
theorem ImpAll.nil {P : Program} : ImpAll P [] (fun _ gs => gs = []) where
  imp := by
    intro T enc B w0 ρ H w base vs ds ps hs hB h hv
    obtain ⟨rfl, rfl, rfl⟩ := trodAll_nil h
    exact ⟨rfl, ρ, H, [], hs, .refl ρ, .refl H, .nil ρ, rfl⟩
theorem ImpAll.cons {P : Program} {t : TypeId} {ts : List TypeId} {R1 : GHeap → Value → Prop} {R : GHeap → List Value → Prop} (h1 : Imp1 P t R1) (h2 : ImpAll P ts R) : ImpAll P (t :: ts) (fun H gs => ∃ g r, gs = g :: r ∧ R1 H g ∧ R H r) where
  imp := by
    intro T enc B w0 ρ H w base vs ds ps hs hB h hv
    obtain ⟨v, vs, d, ds, p, q, rfl, rfl, rfl, ⟨fuel, k1⟩, k2⟩ := trodAll_cons h
    obtain ⟨ρ1, H1, g, s1, e1, l1, v1, r1⟩ := h1.imp hs hB k1 (hv 0 t v rfl rfl)
    obtain ⟨hl, ρ2, H2, gs, s2, e2, l2, v2, r2⟩ := h2.imp s1 hB k2 (fun j t v ht hj => hv (j + 1) t v (by simpa using ht) (by simpa using hj))
    exact ⟨by simp [hl], ρ2, H2, g :: gs, s2, e1.trans e2, l1.trans l2, .cons (v1.mono e2) v2, g, gs, rfl, h1.mono l2 r1, r2⟩

/-- The call of a law. -/
theorem law_calls {P : Program} {f : FuncId} {fn : Func} {ts : List TypeId} {tb : TypeId} {R : GHeap → List Value → Prop} (hI : ImpAll P ts R) (hp : fn.params = ts.toArray)
    (hc : ∀ H gs, R H gs → GCalls P f gs H fun v _ => v = .bool true)
    {T : Type} {enc : TypeId × Value → T} {W : World} {base : Nat} {args : Array Value} {s : ChangeSpec} {apart fresh handsOn again : Bool} {ds gs : List (DataW T)} {before : List MemPlace}
    (hval : ∀ (j : Nat) t v, fn.params[j]? = some t → args[j]? = some v → Value.okWide P W .any base t v)
    (hW : DataW.Whole enc P fn.params.toList s.vars apart W args.toList ds gs before)
    (hl : laidOutB P = true) (hr : readB P fn.params.toList = true) (hv : s.vars = []) (hrt : fn.resultTypes = #[tb]) (htb : P.underlying tb = some .bool)
    (hs : ∀ ds : List (DataW T), ds.length = ts.length → (s.fn T ds).results = [.lit (.bool true)] ∧ (s.fn T ds).args = ds ∧ (s.fn T ds).vars = []) :
    Calls P f args W fun e W' => ∃ v, e = .returned v ∧ s.post enc P fn apart fresh handsOn again W args v W' := by
  have hWW := hW
  obtain ⟨p, q, hA, _⟩ := hW
  rw [hp] at hA
  obtain ⟨hlen, ρ, H, gs', hs', _, _, hrel, hR⟩ := hI.imp (base := base) (Sim.start P W) (Nat.le_refl _) (by simpa using hA) (fun j t v ht hj => hval j t v (by rw [hp]; simpa using ht) (by simpa using hj))
  have := (hc H gs' hR) _ _ ρ args.toList W hs' hrel
  rw [Array.toArray_toList] at this
  refine this.mono fun e W' ⟨v, c, ρ', H', he, hv', _, hsim, hrv⟩ => ?_
  subst hv'
  cases hrv
  exact ⟨_, he, law_post hl hr hv hrt htb hWW (hs ds hlen).1 (hs ds hlen).2.1 (hs ds hlen).2.2 hsim.below⟩
end Go.GL
