/- Parts that connectives and maps make. No condition but those of each statement. -/
import Derived.Test.YtbpehbbdodahaaaZ8
namespace Go.Proofs.Ytbpehbbdodahaaa
open Go Go.GL Go.RowKit Go.Proofs
theorem sl_88_Ue : sliceT Try.prog 88 = some (90, 1) := by kernel_rfl
theorem ze_90_Ue : zeroT Try.prog 90 = some ([.slice none 0 0], 1) := by kernel_rfl
theorem sl_90_Ue : sliceT Try.prog 90 = some (4, 1) := by kernel_rfl
theorem ze_4_Ue : zeroT Try.prog 4 = some ([.bool false], 1) := by kernel_rfl
theorem by_4_Ue : (Try.prog.info? 4).map (·.bytes) = some 1 := by kernel_rfl
theorem sz_4_Ue : (Try.prog.info? 4).map (·.size) = some 1 := by kernel_rfl
theorem by_90_Ue : (Try.prog.info? 90).map (·.bytes) = some 24 := by kernel_rfl
theorem on_90_Ue : oneT Try.prog 90 = true := by kernel_rfl
theorem on_4_Ue : oneT Try.prog 4 = true := by kernel_rfl
set_option maxHeartbeats 4000000 in
theorem l26Empty_c {f : SFun} {p : SFunP} {H : GHeap} (hin : f.In H p := by assumption) (hs : f.Small := by assumption) :
    GCalls Try.prog 76 [.agg (f.cells p).toArray] H (NewIntssR H (rowsOf (fun _ => []) f.sz.length)) := by
  obtain ⟨s1, s2, s3, s4⟩ := hs
  refine GCalls.body (N := 18) (rs := [.tmp 2]) Try.func76 rfl rfl rfl rfl (fun Qx hret hend => ?_)
  refine .forget (fr' := [(0, some _)]) ⟨rfl, trivial⟩ ?_
  have hle := GHeap.Le.refl H
  have base_hin := hin
  refine .seq (fun K1 hK1 => ?_)
  refine .region ?_
  refine .r rfl rfl rfl (.boxR rfl sz_39_VSFun rfl) ?_
  rintro _ H1 ⟨g1, rfl, le1, ge1, at1⟩
  have nx_H1 := le1.1
  replace hle := hle.trans le1
  have lt_at1 := GHeap.lt_of_get at1
  replace hin := base_hin.mono hle
  have hb1 : SFun.At _ g1 0 f p := ⟨Mem.of_get at1, hin⟩
  obtain ⟨fsh1, c51, c61, i11, i21⟩ := hb1.get
  have hm1 : MemN _ _ _ _ _ := ⟨rfl, hb1.1⟩
  have hi1 := hb1.2
  have hmsh1 : MemN _ _ _ _ _ := ⟨rfl, fsh1.1⟩
  have hish1 := fsh1.2
  refine .m rfl rfl rfl (.assign rfl) ?_
  refine .nil ?_
  refine hK1 _ _ ?_
  refine .seq (fun K2 hK2 => ?_)
  refine .region ?_
  refine .r rfl rfl rfl (.litR rfl sl_23_B ze_22_E rfl rfl (by omega) (by omega) rfl rfl) ?_
  rintro _ H5 ⟨g5, rfl, le5, ge5, at5⟩
  have nx_H5 := le5.1
  replace hle := hle.trans le5
  replace at1 := le5.2 _ _ at1
  have lt_at5 := GHeap.lt_of_get at5
  replace hin := base_hin.mono hle
  clear hb1 fsh1 c51 c61 i11 i21 hm1 hi1 hmsh1 hish1
  have hb1 : SFun.At _ g1 0 f p := ⟨Mem.of_get at1, hin⟩
  obtain ⟨fsh1, c51, c61, i11, i21⟩ := hb1.get
  have hm1 : MemN _ _ _ _ _ := ⟨rfl, hb1.1⟩
  have hi1 := hb1.2
  have hmsh1 : MemN _ _ _ _ _ := ⟨rfl, fsh1.1⟩
  have hish1 := fsh1.2
  refine .m rfl rfl rfl (.assign rfl) ?_
  refine .nil ?_
  refine hK2 _ _ ?_
  refine .seq (fun K3 hK3 => ?_)
  refine .seq (fun K4 hK4 => ?_)
  refine .region ?_
  refine .m rfl rfl rfl (.assign rfl) ?_
  refine .nil ?_
  refine hK4 _ _ ?_
  refine .block ?_
  refine .loopR (σ := Nat × (Nat → Option Addr) × Nat × Nat) [(1, some _)] (fun (k, rr, gL3, nL3) => [(4, some (.int .i64 (k : Int))), (3, some (.slice (some ⟨gL3, 0, none⟩) nL3 nL3))]) (fun (k, rr, gL3, nL3) H' => St [g5] H5 H' ∧ H'.get gL3 = some (.row ((slsOf rr (fun _ => []) k)) 22 true) ∧ (gL3 = g5 ∨ H5.next ≤ gL3) ∧ nL3 = (slsOf rr (fun _ => []) k).length ∧ k ≤ f.sz.length ∧ OwnRows H.next H' 2 rr (fun _ => []) k) (fun (k, rr, gL3, nL3) => f.sz.length - k) ((0, fun _ => none, _, _)) ⟨rfl, trivial⟩ ⟨rfl, rfl, trivial⟩ ?_ ?_
  ·
   refine ⟨.refl _ _, by first | assumption | exact at5 | simpa using at5, .inl rfl, by first | rfl | assumption | simp | omega, ?_⟩
   exact ⟨by omega, .zero _ _ _ _ _⟩
  ·
   rintro ⟨k, rr, gL3, nL3⟩ HL1 ⟨lst1, at_L3, pl_L3, ln_L3, hI⟩ KL1 hKL1
   refine .forget (fr' := [(4, some (.int .i64 (k : Int))), (3, some (.slice (some ⟨gL3, 0, none⟩) nL3 nL3)), (1, some _)]) ⟨rfl, rfl, rfl, trivial⟩ ?_
   have ge_L3 : H.next ≤ gL3 := by omega
   have nx_HL1 := lst1.nx
   replace hle := hle.st lst1 (fun k hk => ⟨by omega, trivial⟩)
   replace at1 := lst1.same _ _ ⟨by omega, trivial⟩ at1
   have lt_at_L3 := GHeap.lt_of_get at_L3
   replace hin := base_hin.mono hle
   clear hb1 fsh1 c51 c61 i11 i21 hm1 hi1 hmsh1 hish1
   have hb1 : SFun.At _ g1 0 f p := ⟨Mem.of_get at1, hin⟩
   obtain ⟨fsh1, c51, c61, i11, i21⟩ := hb1.get
   have hm1 : MemN _ _ _ _ _ := ⟨rfl, hb1.1⟩
   have hi1 := hb1.2
   have hmsh1 : MemN _ _ _ _ _ := ⟨rfl, fsh1.1⟩
   have hish1 := fsh1.2
   have rk := St.refl [gL3] HL1
   obtain ⟨hk, hR⟩ := hI
   have hat3 := at_L3
   have hfl : (slsOf rr (fun _ => []) k).length = k := length_slsOf _ _ _
   refine .seq (fun K5 hK5 => ?_)
   refine .seq (fun K6 hK6 => ?_)
   refine .region ?_
   refine .m rfl rfl rfl (.move rfl) ?_
   refine .m rfl rfl rfl (.fieldAddr fo_39_1_P rfl) ?_
   refine .m rfl rfl rfl (.load on_22_B rfl (by assumption)) ?_
   refine .m rfl rfl rfl (.len sl_22_A rfl) ?_
   refine .m rfl rfl rfl (.cmp rfl rfl rfl) ?_
   refine .nil ?_
   refine hK6 _ _ ?_
   refine .cond rfl (fun h10 => ?_) (fun h10 => ?_)
   ·
    try simp only [sps] at h10
    refine .skip ?_
    refine hK5 _ _ ?_
    refine .seq (fun K7 hK7 => ?_)
    refine .block ?_
    refine .region ?_
    refine .m rfl rfl rfl (.move rfl) ?_
    refine .r rfl rfl rfl (.litR rfl sl_22_A ze_2_E rfl rfl (by omega) (by omega) rfl rfl) ?_
    rintro _ H14 ⟨g14, rfl, le14, ge14, at14⟩
    have nx_H14 := le14.1
    replace hle := hle.trans le14
    replace lst1 := lst1.le le14
    replace rk := rk.le le14
    replace at1 := le14.2 _ _ at1
    replace at_L3 := le14.2 _ _ at_L3
    have lt_at14 := GHeap.lt_of_get at14
    replace hin := base_hin.mono hle
    clear hb1 fsh1 c51 c61 i11 i21 hm1 hi1 hmsh1 hish1
    have hb1 : SFun.At _ g1 0 f p := ⟨Mem.of_get at1, hin⟩
    obtain ⟨fsh1, c51, c61, i11, i21⟩ := hb1.get
    have hm1 : MemN _ _ _ _ _ := ⟨rfl, hb1.1⟩
    have hi1 := hb1.2
    have hmsh1 : MemN _ _ _ _ _ := ⟨rfl, fsh1.1⟩
    have hish1 := fsh1.2
    replace at14 : GHeap.get H14 g14 = some (.row (ints []) 2 true) := at14
    refine .r rfl rfl rfl (.litR rfl sl_23_B ze_22_E rfl rfl (by omega) (by omega) rfl rfl) ?_
    rintro _ H15 ⟨g15, rfl, le15, ge15, at15⟩
    have nx_H15 := le15.1
    replace hle := hle.trans le15
    replace lst1 := lst1.le le15
    replace rk := rk.le le15
    replace at1 := le15.2 _ _ at1
    replace at_L3 := le15.2 _ _ at_L3
    replace at14 := le15.2 _ _ at14
    have lt_at15 := GHeap.lt_of_get at15
    replace hin := base_hin.mono hle
    clear hb1 fsh1 c51 c61 i11 i21 hm1 hi1 hmsh1 hish1
    have hb1 : SFun.At _ g1 0 f p := ⟨Mem.of_get at1, hin⟩
    obtain ⟨fsh1, c51, c61, i11, i21⟩ := hb1.get
    have hm1 : MemN _ _ _ _ _ := ⟨rfl, hb1.1⟩
    have hi1 := hb1.2
    have hmsh1 : MemN _ _ _ _ _ := ⟨rfl, fsh1.1⟩
    have hish1 := fsh1.2
    refine .r rfl rfl rfl (.appendV rfl sl_23_B ze_22_E rfl by_22_E sl_23_B rfl rfl (by assumption) (by assumption) (by first | omega | (simp <;> omega)) rfl rfl (by omega) (by omega)) ?_
    rintro _ H16 ⟨g16, rfl, st16, ge16, at16⟩
    have nx_H16 := st16.nx
    replace hle := hle.st st16 (fun k hk => ⟨by omega, trivial⟩)
    replace lst1 := lst1.st st16 (fun k hk ho => by simp only [out, and_true] at ho ⊢ <;> omega)
    replace rk := rk.st st16 (fun k hk ho => by simp only [out, and_true] at ho ⊢ <;> omega)
    replace at1 := st16.same _ _ ⟨by omega, trivial⟩ at1
    replace at14 := st16.same _ _ ⟨by omega, trivial⟩ at14
    replace at15 := st16.same _ _ ⟨by omega, trivial⟩ at15
    have lt_at16 := GHeap.lt_of_get at16
    replace hin := base_hin.mono hle
    clear hb1 fsh1 c51 c61 i11 i21 hm1 hi1 hmsh1 hish1
    have hb1 : SFun.At _ g1 0 f p := ⟨Mem.of_get at1, hin⟩
    obtain ⟨fsh1, c51, c61, i11, i21⟩ := hb1.get
    have hm1 : MemN _ _ _ _ _ := ⟨rfl, hb1.1⟩
    have hi1 := hb1.2
    have hmsh1 : MemN _ _ _ _ _ := ⟨rfl, fsh1.1⟩
    have hish1 := fsh1.2
    refine .m rfl rfl rfl (.assign rfl) ?_
    refine .nil ?_
    refine hK7 _ _ ?_
    refine .region ?_
    refine .m rfl rfl rfl (.move rfl) ?_
    refine .m rfl rfl rfl (.add rfl rfl rfl (by omega) (by omega)) ?_
    refine .m rfl rfl rfl (.assign rfl) ?_
    refine .nil ?_
    refine hKL1 ((k + 1, upd rr k (some ⟨g14, 0, none⟩), _, _)) _ _ ?_ ?_ ⟨rfl, rfl, rfl, trivial⟩
    ·
     refine ⟨lst1, by first | assumption | (rw [slsOf_succ]; assumption), by omega, by first | omega | (simp only [List.length_append, List.length_cons, List.length_nil] <;> omega) | (rw [slsOf_succ] <;> (first | omega | (simp only [List.length_append, List.length_cons, List.length_nil] <;> omega))), ?_⟩
     exact ⟨by omega, hR.succ rk hat3 rfl (by assumption) (by omega) (by omega)⟩
    ·
     (dsimp only; omega)
   ·
    try simp only [sps] at h10
    refine .exit ?_
    refine hK3 _ _ ?_
    refine .seq (fun K8 hK8 => ?_)
    refine .region ?_
    refine .m rfl rfl rfl (.move rfl) ?_
    refine .m rfl rfl rfl (.assign rfl) ?_
    refine .nil ?_
    refine hK8 _ _ ?_
    refine .ret ?_
    -- leaf e1
    refine hret _ _ ?_
    refine ⟨_, rfl, ?_⟩
    obtain rfl : k = f.sz.length := by omega
    exact ⟨hle, _, rr, by rw [ln_L3]; simp, hR.done at_L3 (by omega)⟩
set_option maxHeartbeats 4000000 in
theorem l26Marks_c {f : SFun} {p : SFunP} {a : Option Addr} {me : List (List Int)} {r : Nat → Option Addr} {H : GHeap} (hin : f.In H p := by assumption) (hm : Intss H a me r := by assumption) (hs : f.Small := by assumption)
    (hz : ∀ i, i < f.sz.length → 0 ≤ f.sz.getD i 0 ∧ f.sz.getD i 0 ≤ 16) (hml : me.length = f.sz.length) (hme : ∀ x, x < me.length → (me.getD x []).length ≤ 1048576 ∧ allIn (me.getD x []) (f.sz.getD x 0) = true) :
    GCalls Try.prog 71 [.agg (f.cells p).toArray, .slice a me.length me.length] H (NewBMat 90 4 H (fun x => (f.sz.getD x 0).toNat) (hasL me) f.sz.length) := by
  obtain ⟨s1, s2, s3, s4⟩ := hs
  refine GCalls.body (N := 46) (rs := [.tmp 4]) Try.func71 rfl rfl rfl rfl (fun Qx hret hend => ?_)
  refine .forget (fr' := [(0, some _), (1, some _)]) ⟨rfl, rfl, trivial⟩ ?_
  have hle := GHeap.Le.refl H
  have base_hin := hin
  have base_hm := hm
  refine .seq (fun K1 hK1 => ?_)
  refine .region ?_
  refine .r rfl rfl rfl (.boxR rfl sz_39_VSFun rfl) ?_
  rintro _ H2 ⟨g2, rfl, le2, ge2, at2⟩
  have nx_H2 := le2.1
  replace hle := hle.trans le2
  have lt_at2 := GHeap.lt_of_get at2
  replace hin := base_hin.mono hle
  replace hm := base_hm.mono hle
  have hb2 : SFun.At _ g2 0 f p := ⟨Mem.of_get at2, hin⟩
  obtain ⟨fsh2, c52, c62, i12, i22⟩ := hb2.get
  have hm2 : MemN _ _ _ _ _ := ⟨rfl, hb2.1⟩
  have hi2 := hb2.2
  have hmsh2 : MemN _ _ _ _ _ := ⟨rfl, fsh2.1⟩
  have hish2 := fsh2.2
  refine .m rfl rfl rfl (.assign rfl) ?_
  refine .nil ?_
  refine hK1 _ _ ?_
  refine .seq (fun K2 hK2 => ?_)
  refine .region ?_
  refine .r rfl rfl rfl (.litR rfl sl_88_Ue ze_90_Ue rfl rfl (by omega) (by omega) rfl rfl) ?_
  rintro _ H9 ⟨g9, rfl, le9, ge9, at9⟩
  have nx_H9 := le9.1
  replace hle := hle.trans le9
  replace at2 := le9.2 _ _ at2
  have lt_at9 := GHeap.lt_of_get at9
  replace hin := base_hin.mono hle
  replace hm := base_hm.mono hle
  clear hb2 fsh2 c52 c62 i12 i22 hm2 hi2 hmsh2 hish2
  have hb2 : SFun.At _ g2 0 f p := ⟨Mem.of_get at2, hin⟩
  obtain ⟨fsh2, c52, c62, i12, i22⟩ := hb2.get
  have hm2 : MemN _ _ _ _ _ := ⟨rfl, hb2.1⟩
  have hi2 := hb2.2
  have hmsh2 : MemN _ _ _ _ _ := ⟨rfl, fsh2.1⟩
  have hish2 := fsh2.2
  refine .m rfl rfl rfl (.assign rfl) ?_
  refine .nil ?_
  refine hK2 _ _ ?_
  refine .seq (fun K3 hK3 => ?_)
  refine .seq (fun K4 hK4 => ?_)
  refine .region ?_
  refine .m rfl rfl rfl (.assign rfl) ?_
  refine .nil ?_
  refine hK4 _ _ ?_
  refine .block ?_
  refine .loopR (σ := Nat × (Nat → Nat) × Nat × Nat) [(1, some _), (2, some _)] (fun (k, rr, gL5, nL5) => [(6, some (.int .i64 (k : Int))), (5, some (.slice (some ⟨gL5, 0, none⟩) nL5 nL5))]) (fun (k, rr, gL5, nL5) H' => St [g9] H9 H' ∧ H'.get gL5 = some (.row ((slsN rr (fun x => (f.sz.getD x 0).toNat) k)) 90 true) ∧ (gL5 = g9 ∨ H9.next ≤ gL5) ∧ nL5 = (slsN rr (fun x => (f.sz.getD x 0).toNat) k).length ∧ k ≤ f.sz.length ∧ OwnB H.next H' 4 rr (fun x => (f.sz.getD x 0).toNat) (hasL me) k) (fun (k, rr, gL5, nL5) => f.sz.length - k) ((0, fun _ => 0, _, _)) ⟨rfl, rfl, trivial⟩ ⟨rfl, rfl, trivial⟩ ?_ ?_
  ·
   refine ⟨.refl _ _, by first | assumption | exact at9 | simpa using at9, .inl rfl, by first | rfl | assumption | simp | omega, ?_⟩
   exact ⟨by omega, .zero _ _ _ _ _ _⟩
  ·
   rintro ⟨k, rr, gL5, nL5⟩ HL1 ⟨lst1, at_L5, pl_L5, ln_L5, hI⟩ KL1 hKL1
   refine .forget (fr' := [(6, some (.int .i64 (k : Int))), (5, some (.slice (some ⟨gL5, 0, none⟩) nL5 nL5)), (1, some _), (2, some _)]) ⟨rfl, rfl, rfl, rfl, trivial⟩ ?_
   have ge_L5 : H.next ≤ gL5 := by omega
   have nx_HL1 := lst1.nx
   replace hle := hle.st lst1 (fun k hk => ⟨by omega, trivial⟩)
   replace at2 := lst1.same _ _ ⟨by omega, trivial⟩ at2
   have lt_at_L5 := GHeap.lt_of_get at_L5
   replace hin := base_hin.mono hle
   replace hm := base_hm.mono hle
   clear hb2 fsh2 c52 c62 i12 i22 hm2 hi2 hmsh2 hish2
   have hb2 : SFun.At _ g2 0 f p := ⟨Mem.of_get at2, hin⟩
   obtain ⟨fsh2, c52, c62, i12, i22⟩ := hb2.get
   have hm2 : MemN _ _ _ _ _ := ⟨rfl, hb2.1⟩
   have hi2 := hb2.2
   have hmsh2 : MemN _ _ _ _ _ := ⟨rfl, fsh2.1⟩
   have hish2 := fsh2.2
   have rk := St.refl [gL5] HL1
   obtain ⟨hk, hR⟩ := hI
   have hat5 := at_L5
   have hfl : (slsN rr (fun x => (f.sz.getD x 0).toNat) k).length = k := length_slsN _ _ _
   refine .seq (fun K5 hK5 => ?_)
   refine .seq (fun K6 hK6 => ?_)
   refine .region ?_
   refine .m rfl rfl rfl (.move rfl) ?_
   refine .m rfl rfl rfl (.fieldAddr fo_39_1_P rfl) ?_
   refine .m rfl rfl rfl (.load on_22_B rfl (by assumption)) ?_
   refine .m rfl rfl rfl (.len sl_22_A rfl) ?_
   refine .m rfl rfl rfl (.cmp rfl rfl rfl) ?_
   refine .nil ?_
   refine hK6 _ _ ?_
   refine .cond rfl (fun h14 => ?_) (fun h14 => ?_)
   ·
    simp only [sps] at h14
    have r2 := hz k (by omega)
    have r3 := hme k (by omega)
    have r4 := allIn_iff.1 r3.2
    have r1 := hm.2 k (by omega)
    refine .skip ?_
    refine hK5 _ _ ?_
    refine .seq (fun K7 hK7 => ?_)
    refine .block ?_
    refine .seq (fun K8 hK8 => ?_)
    refine .region ?_
    refine .m rfl rfl rfl (.fieldAddr fo_39_1_P rfl) ?_
    refine .m rfl rfl rfl (.load on_22_B rfl (by assumption)) ?_
    refine .m rfl rfl rfl (.move rfl) ?_
    refine .m rfl rfl rfl (.idxN sl_22_A (by assumption) rfl rfl (by omega)) ?_
    refine .m rfl rfl rfl (.loadI on_2_A (by assumption) rfl (by omega)) ?_
    refine .r rfl rfl rfl (.makeB rfl sl_90_Ue ze_4_Ue by_4_Ue rfl rfl (by omega) (by omega) (by omega) (by omega)) ?_
    rintro _ H22 ⟨g22, rfl, le22, ge22, at22⟩
    have nx_H22 := le22.1
    replace hle := hle.trans le22
    replace lst1 := lst1.le le22
    replace rk := rk.le le22
    replace at2 := le22.2 _ _ at2
    replace at_L5 := le22.2 _ _ at_L5
    have lt_at22 := GHeap.lt_of_get at22
    replace hin := base_hin.mono hle
    replace hm := base_hm.mono hle
    clear hb2 fsh2 c52 c62 i12 i22 hm2 hi2 hmsh2 hish2
    have hb2 : SFun.At _ g2 0 f p := ⟨Mem.of_get at2, hin⟩
    obtain ⟨fsh2, c52, c62, i12, i22⟩ := hb2.get
    have hm2 : MemN _ _ _ _ _ := ⟨rfl, hb2.1⟩
    have hi2 := hb2.2
    have hmsh2 : MemN _ _ _ _ _ := ⟨rfl, fsh2.1⟩
    have hish2 := fsh2.2
    clear r1
    have r1 := hm.2 k (by omega)
    refine .m rfl rfl rfl (.assign rfl) ?_
    refine .nil ?_
    refine hK8 _ _ ?_
    refine .seq (fun K9 hK9 => ?_)
    refine .seq (fun K10 hK10 => ?_)
    refine .region ?_
    refine .m rfl rfl rfl (.assign rfl) ?_
    refine .nil ?_
    refine hK10 _ _ ?_
    refine .block ?_
    refine .loopR (σ := Nat) [(1, some _), (2, some _), (5, some _), (6, some _), (7, some _)] (fun e => [(8, some (.int .i64 (e : Int)))]) (fun e H' => St [g22] H22 H' ∧ H'.get g22 = some (.row (bools (tabB (f.sz.getD k 0).toNat (markP (me.getD k []) e))) 4 true) ∧ e ≤ (me.getD k []).length) (fun e => (me.getD k []).length - e) (0) ⟨rfl, rfl, rfl, rfl, rfl, trivial⟩ ⟨rfl, trivial⟩ ?_ ?_
    ·
     refine ⟨.refl _ _, by (rw [markP_zero, ← tabB_false]; assumption), ?_⟩
     omega
    ·
     rintro e HL2 ⟨lst2, at_L7, hI⟩ KL2 hKL2
     refine .forget (fr' := [(8, some (.int .i64 (e : Int))), (1, some _), (2, some _), (5, some _), (6, some _), (7, some _)]) ⟨rfl, rfl, rfl, rfl, rfl, rfl, trivial⟩ ?_
     have nx_HL2 := lst2.nx
     replace hle := hle.st lst2 (fun k hk => ⟨by omega, trivial⟩)
     replace lst1 := lst1.st lst2 (fun k hk ho => by simp only [out, and_true] at ho ⊢ <;> omega)
     replace rk := rk.st lst2 (fun k hk ho => by simp only [out, and_true] at ho ⊢ <;> omega)
     replace at2 := lst2.same _ _ ⟨by omega, trivial⟩ at2
     replace at_L5 := lst2.same _ _ ⟨by omega, trivial⟩ at_L5
     have lt_at_L7 := GHeap.lt_of_get at_L7
     replace hin := base_hin.mono hle
     replace hm := base_hm.mono hle
     clear hb2 fsh2 c52 c62 i12 i22 hm2 hi2 hmsh2 hish2
     have hb2 : SFun.At _ g2 0 f p := ⟨Mem.of_get at2, hin⟩
     obtain ⟨fsh2, c52, c62, i12, i22⟩ := hb2.get
     have hm2 : MemN _ _ _ _ _ := ⟨rfl, hb2.1⟩
     have hi2 := hb2.2
     have hmsh2 : MemN _ _ _ _ _ := ⟨rfl, fsh2.1⟩
     have hish2 := fsh2.2
     clear r1
     have r1 := hm.2 k (by omega)
     have b7 := (Bools.of_get at_L7).tabS
     have hlb : (tabB (f.sz.getD k 0).toNat (markP (me.getD k []) e)).length = (f.sz.getD k 0).toNat := length_tabB _ _
     refine .seq (fun K11 hK11 => ?_)
     refine .seq (fun K12 hK12 => ?_)
     refine .region ?_
     refine .m rfl rfl rfl (.move rfl) ?_
     refine .m rfl rfl rfl (.move rfl) ?_
     refine .m rfl rfl rfl (.move rfl) ?_
     refine .m rfl rfl rfl (.idxN sl_23_B (Intss.sl (by assumption)) rfl rfl (by omega)) ?_
     refine .m rfl rfl rfl (.loadR on_22_B (by assumption) rfl (by omega)) ?_
     refine .m rfl rfl rfl (.len sl_22_A rfl) ?_
     refine .m rfl rfl rfl (.cmp rfl rfl rfl) ?_
     refine .nil ?_
     refine hK12 _ _ ?_
     refine .cond rfl (fun h29 => ?_) (fun h29 => ?_)
     ·
      simp only [sps] at h29
      have r5 := r4 e (by omega)
      refine .skip ?_
      refine hK11 _ _ ?_
      refine .seq (fun K13 hK13 => ?_)
      refine .block ?_
      refine .region ?_
      refine .m rfl rfl rfl (.move rfl) ?_
      refine .m rfl rfl rfl (.move rfl) ?_
      refine .m rfl rfl rfl (.move rfl) ?_
      refine .m rfl rfl rfl (.idxN sl_23_B (Intss.sl (by assumption)) rfl rfl (by omega)) ?_
      refine .m rfl rfl rfl (.loadR on_22_B (by assumption) rfl (by omega)) ?_
      refine .m rfl rfl rfl (.move rfl) ?_
      refine .m rfl rfl rfl (.idxN sl_22_A (by assumption) rfl rfl (by omega)) ?_
      refine .m rfl rfl rfl (.loadI on_2_A (by assumption) rfl (by omega)) ?_
      refine .m rfl rfl rfl (.idx1 sl_90_Ue (by assumption) rfl rfl (by omega) (by omega)) ?_
      refine .r0 rfl rfl (.storeB rfl sz_4_Ue rfl rfl (by assumption) (by first | omega | (simp <;> omega))) ?_
      rintro _ H9009 ⟨rfl, st9009, at9009⟩
      have nx_H9009 := st9009.nx
      replace hle := hle.st st9009 (fun k hk => ⟨by omega, trivial⟩)
      replace lst1 := lst1.st st9009 (fun k hk ho => by simp only [out, and_true] at ho ⊢ <;> omega)
      replace rk := rk.st st9009 (fun k hk ho => by simp only [out, and_true] at ho ⊢ <;> omega)
      replace lst2 := lst2.st st9009 (fun k hk ho => by simp only [out, and_true] at ho ⊢ <;> omega)
      replace at2 := st9009.same _ _ ⟨by omega, trivial⟩ at2
      replace at_L5 := st9009.same _ _ ⟨by omega, trivial⟩ at_L5
      have lt_at9009 := GHeap.lt_of_get at9009
      replace hin := base_hin.mono hle
      replace hm := base_hm.mono hle
      clear hb2 fsh2 c52 c62 i12 i22 hm2 hi2 hmsh2 hish2
      have hb2 : SFun.At _ g2 0 f p := ⟨Mem.of_get at2, hin⟩
      obtain ⟨fsh2, c52, c62, i12, i22⟩ := hb2.get
      have hm2 : MemN _ _ _ _ _ := ⟨rfl, hb2.1⟩
      have hi2 := hb2.2
      have hmsh2 : MemN _ _ _ _ _ := ⟨rfl, fsh2.1⟩
      have hish2 := fsh2.2
      clear r1
      have r1 := hm.2 k (by omega)
      refine .nil ?_
      refine hK13 _ _ ?_
      refine .region ?_
      refine .m rfl rfl rfl (.move rfl) ?_
      refine .m rfl rfl rfl (.add rfl rfl rfl (by omega) (by omega)) ?_
      refine .m rfl rfl rfl (.assign rfl) ?_
      refine .nil ?_
      refine hKL2 (e + 1) _ _ ?_ ?_ ⟨rfl, rfl, rfl, rfl, rfl, rfl, trivial⟩
      ·
       refine ⟨lst2, by (rw [markP_succ (by omega) (by omega)]; simpa using at9009), ?_⟩
       omega
      ·
       omega
     ·
      try simp only [sps] at h29
      refine .exit ?_
      refine hK9 _ _ ?_
      refine .region ?_
      obtain rfl : e = (me.getD k []).length := by omega
      refine .m rfl rfl rfl (.move rfl) ?_
      refine .m rfl rfl rfl (.move rfl) ?_
      refine .r rfl rfl rfl (.litR rfl sl_88_Ue ze_90_Ue rfl rfl (by omega) (by omega) rfl rfl) ?_
      rintro _ H43 ⟨g43, rfl, le43, ge43, at43⟩
      have nx_H43 := le43.1
      replace hle := hle.trans le43
      replace lst1 := lst1.le le43
      replace rk := rk.le le43
      replace at2 := le43.2 _ _ at2
      replace at_L5 := le43.2 _ _ at_L5
      replace at_L7 := le43.2 _ _ at_L7
      have lt_at43 := GHeap.lt_of_get at43
      replace hin := base_hin.mono hle
      replace hm := base_hm.mono hle
      clear hb2 fsh2 c52 c62 i12 i22 hm2 hi2 hmsh2 hish2
      have hb2 : SFun.At _ g2 0 f p := ⟨Mem.of_get at2, hin⟩
      obtain ⟨fsh2, c52, c62, i12, i22⟩ := hb2.get
      have hm2 : MemN _ _ _ _ _ := ⟨rfl, hb2.1⟩
      have hi2 := hb2.2
      have hmsh2 : MemN _ _ _ _ _ := ⟨rfl, fsh2.1⟩
      have hish2 := fsh2.2
      clear r1
      have r1 := hm.2 k (by omega)
      refine .r rfl rfl rfl (.appendV rfl sl_88_Ue ze_90_Ue rfl by_90_Ue sl_88_Ue rfl rfl (by assumption) (by assumption) (by first | omega | (simp <;> omega)) rfl rfl (by omega) (by omega)) ?_
      rintro _ H44 ⟨g44, rfl, st44, ge44, at44⟩
      have nx_H44 := st44.nx
      replace hle := hle.st st44 (fun k hk => ⟨by omega, trivial⟩)
      replace lst1 := lst1.st st44 (fun k hk ho => by simp only [out, and_true] at ho ⊢ <;> omega)
      replace rk := rk.st st44 (fun k hk ho => by simp only [out, and_true] at ho ⊢ <;> omega)
      replace at2 := st44.same _ _ ⟨by omega, trivial⟩ at2
      replace at_L7 := st44.same _ _ ⟨by omega, trivial⟩ at_L7
      replace at43 := st44.same _ _ ⟨by omega, trivial⟩ at43
      have lt_at44 := GHeap.lt_of_get at44
      replace hin := base_hin.mono hle
      replace hm := base_hm.mono hle
      clear hb2 fsh2 c52 c62 i12 i22 hm2 hi2 hmsh2 hish2
      have hb2 : SFun.At _ g2 0 f p := ⟨Mem.of_get at2, hin⟩
      obtain ⟨fsh2, c52, c62, i12, i22⟩ := hb2.get
      have hm2 : MemN _ _ _ _ _ := ⟨rfl, hb2.1⟩
      have hi2 := hb2.2
      have hmsh2 : MemN _ _ _ _ _ := ⟨rfl, fsh2.1⟩
      have hish2 := fsh2.2
      clear r1
      have r1 := hm.2 k (by omega)
      refine .m rfl rfl rfl (.assign rfl) ?_
      refine .nil ?_
      refine hK7 _ _ ?_
      refine .region ?_
      refine .m rfl rfl rfl (.move rfl) ?_
      refine .m rfl rfl rfl (.add rfl rfl rfl (by omega) (by omega)) ?_
      refine .m rfl rfl rfl (.assign rfl) ?_
      refine .nil ?_
      refine hKL1 ((k + 1, updN rr k g22, _, _)) _ _ ?_ ?_ ⟨rfl, rfl, rfl, rfl, trivial⟩
      ·
       refine ⟨lst1, by first | assumption | (rw [slsN_succ]; assumption), by omega, by first | omega | (simp only [List.length_append, List.length_cons, List.length_nil] <;> omega) | (rw [slsN_succ] <;> (first | omega | (simp only [List.length_append, List.length_cons, List.length_nil] <;> omega))), ?_⟩
       exact ⟨by omega, hR.succ (rk.lastsV1 hat5 rfl) (by rw [← markP_has]; assumption) (by omega) (by omega)⟩
      ·
       (dsimp only; omega)
   ·
    try simp only [sps] at h14
    refine .exit ?_
    refine hK3 _ _ ?_
    refine .seq (fun K14 hK14 => ?_)
    refine .region ?_
    refine .m rfl rfl rfl (.move rfl) ?_
    refine .m rfl rfl rfl (.assign rfl) ?_
    refine .nil ?_
    refine hK14 _ _ ?_
    refine .ret ?_
    -- leaf e1
    refine hret _ _ ?_
    refine ⟨_, rfl, ?_⟩
    obtain rfl : k = f.sz.length := by omega
    exact ⟨hle, _, rr, by rw [ln_L5]; simp, at_L5, by omega, hR⟩
set_option maxHeartbeats 4000000 in
theorem l26Marked_c {b g n : Nat} {r L : Nat → Nat} {M : Nat → Nat → Bool} {H : GHeap} (h : BMat b H g 90 4 r L M n := by assumption) (hn : n ≤ 1048576 := by omega) (hL : ∀ i, i < n → L i ≤ 1048576) :
    GCalls Try.prog 72 [.slice (some ⟨g, 0, none⟩) n n] H (NewIntssR H (rowsOf (fun x => filtN (L x) (M x)) n)) := by
  refine GCalls.body (N := 40) (rs := [.tmp 2]) Try.func72 rfl rfl rfl rfl (fun Qx hret hend => ?_)
  refine .forget (fr' := [(0, some _)]) ⟨rfl, trivial⟩ ?_
  have hle := GHeap.Le.refl H
  have base_h := h
  have hsl := h.sl
  refine .seq (fun K1 hK1 => ?_)
  refine .region ?_
  refine .m rfl rfl rfl (.assign rfl) ?_
  refine .nil ?_
  refine hK1 _ _ ?_
  refine .seq (fun K2 hK2 => ?_)
  refine .region ?_
  refine .r rfl rfl rfl (.litR rfl sl_23_B ze_22_E rfl rfl (by omega) (by omega) rfl rfl) ?_
  rintro _ H7 ⟨g7, rfl, le7, ge7, at7⟩
  have nx_H7 := le7.1
  replace hle := hle.trans le7
  have lt_at7 := GHeap.lt_of_get at7
  replace h := base_h.mono hle
  clear hsl
  have hsl := h.sl
  refine .m rfl rfl rfl (.assign rfl) ?_
  refine .nil ?_
  refine hK2 _ _ ?_
  refine .seq (fun K3 hK3 => ?_)
  refine .seq (fun K4 hK4 => ?_)
  refine .region ?_
  refine .m rfl rfl rfl (.assign rfl) ?_
  refine .nil ?_
  refine hK4 _ _ ?_
  refine .block ?_
  refine .loopR (σ := Nat × (Nat → Option Addr) × Nat × Nat) [(0, some _)] (fun (k, rr, gL3, nL3) => [(4, some (.int .i64 (k : Int))), (3, some (.slice (some ⟨gL3, 0, none⟩) nL3 nL3))]) (fun (k, rr, gL3, nL3) H' => St [g7] H7 H' ∧ H'.get gL3 = some (.row ((slsOf rr (fun x => filtN (L x) (M x)) k)) 22 true) ∧ (gL3 = g7 ∨ H7.next ≤ gL3) ∧ nL3 = (slsOf rr (fun x => filtN (L x) (M x)) k).length ∧ k ≤ n ∧ OwnRows H.next H' 2 rr (fun x => filtN (L x) (M x)) k) (fun (k, rr, gL3, nL3) => n - k) ((0, fun _ => none, _, _)) ⟨rfl, trivial⟩ ⟨rfl, rfl, trivial⟩ ?_ ?_
  ·
   refine ⟨.refl _ _, by first | assumption | exact at7 | simpa using at7, .inl rfl, by first | rfl | assumption | simp | omega, ?_⟩
   exact ⟨by omega, .zero _ _ _ _ _⟩
  ·
   rintro ⟨k, rr, gL3, nL3⟩ HL1 ⟨lst1, at_L3, pl_L3, ln_L3, hI⟩ KL1 hKL1
   refine .forget (fr' := [(4, some (.int .i64 (k : Int))), (3, some (.slice (some ⟨gL3, 0, none⟩) nL3 nL3)), (0, some _)]) ⟨rfl, rfl, rfl, trivial⟩ ?_
   have ge_L3 : H.next ≤ gL3 := by omega
   have nx_HL1 := lst1.nx
   replace hle := hle.st lst1 (fun k hk => ⟨by omega, trivial⟩)
   have lt_at_L3 := GHeap.lt_of_get at_L3
   replace h := base_h.mono hle
   clear hsl
   have hsl := h.sl
   have rk := St.refl [gL3] HL1
   obtain ⟨hk, hR⟩ := hI
   have hat3 := at_L3
   have hfl : (slsOf rr (fun x => filtN (L x) (M x)) k).length = k := length_slsOf _ _ _
   refine .seq (fun K5 hK5 => ?_)
   refine .seq (fun K6 hK6 => ?_)
   refine .region ?_
   refine .m rfl rfl rfl (.move rfl) ?_
   refine .m rfl rfl rfl (.move rfl) ?_
   refine .m rfl rfl rfl (.len sl_88_Ue rfl) ?_
   refine .m rfl rfl rfl (.cmp rfl rfl rfl) ?_
   refine .nil ?_
   refine hK6 _ _ ?_
   refine .cond rfl (fun h11 => ?_) (fun h11 => ?_)
   ·
    simp only [sps] at h11
    have r2 := hL k (by omega)
    have r1 := h.row (i := k) (by omega)
    have r3 := r1.tabS
    refine .skip ?_
    refine hK5 _ _ ?_
    refine .seq (fun K7 hK7 => ?_)
    refine .block ?_
    refine .seq (fun K8 hK8 => ?_)
    refine .region ?_
    refine .r rfl rfl rfl (.litR rfl sl_22_A ze_2_E rfl rfl (by omega) (by omega) rfl rfl) ?_
    rintro _ H14 ⟨g14, rfl, le14, ge14, at14⟩
    have nx_H14 := le14.1
    replace hle := hle.trans le14
    replace lst1 := lst1.le le14
    replace rk := rk.le le14
    replace at_L3 := le14.2 _ _ at_L3
    have lt_at14 := GHeap.lt_of_get at14
    replace h := base_h.mono hle
    clear hsl
    have hsl := h.sl
    clear r1 r3
    have r1 := h.row (i := k) (by omega)
    have r3 := r1.tabS
    replace at14 : GHeap.get H14 g14 = some (.row (ints []) 2 true) := at14
    refine .m rfl rfl rfl (.assign rfl) ?_
    refine .nil ?_
    refine hK8 _ _ ?_
    refine .seq (fun K9 hK9 => ?_)
    refine .seq (fun K10 hK10 => ?_)
    refine .region ?_
    refine .m rfl rfl rfl (.assign rfl) ?_
    refine .nil ?_
    refine hK10 _ _ ?_
    refine .block ?_
    refine .loopR (σ := Nat × Nat × Nat) [(0, some _), (3, some _), (4, some _)] (fun (e, gL5, nL5) => [(6, some (.int .i64 (e : Int))), (5, some (.slice (some ⟨gL5, 0, none⟩) nL5 nL5))]) (fun (e, gL5, nL5) H' => St [g14] H14 H' ∧ H'.get gL5 = some (.row (ints (filtN e (M k))) 2 true) ∧ (gL5 = g14 ∨ H14.next ≤ gL5) ∧ nL5 = (filtN e (M k)).length ∧ e ≤ L k) (fun (e, gL5, nL5) => L k - e) ((0, _, _)) ⟨rfl, rfl, rfl, trivial⟩ ⟨rfl, rfl, trivial⟩ ?_ ?_
    ·
     refine ⟨.refl _ _, by first | assumption | exact at14 | simpa using at14, .inl rfl, by first | rfl | assumption | simp | omega, ?_⟩
     omega
    ·
     rintro ⟨e, gL5, nL5⟩ HL2 ⟨lst2, at_L5, pl_L5, ln_L5, hI⟩ KL2 hKL2
     refine .forget (fr' := [(6, some (.int .i64 (e : Int))), (5, some (.slice (some ⟨gL5, 0, none⟩) nL5 nL5)), (0, some _), (3, some _), (4, some _)]) ⟨rfl, rfl, rfl, rfl, rfl, trivial⟩ ?_
     have ge_L5 : H.next ≤ gL5 := by omega
     have nx_HL2 := lst2.nx
     replace hle := hle.st lst2 (fun k hk => ⟨by omega, trivial⟩)
     replace lst1 := lst1.st lst2 (fun k hk ho => by simp only [out, and_true] at ho ⊢ <;> omega)
     replace rk := rk.st lst2 (fun k hk ho => by simp only [out, and_true] at ho ⊢ <;> omega)
     replace at_L3 := lst2.same _ _ ⟨by omega, trivial⟩ at_L3
     have lt_at_L5 := GHeap.lt_of_get at_L5
     replace h := base_h.mono hle
     clear hsl
     have hsl := h.sl
     clear r1 r3
     have r1 := h.row (i := k) (by omega)
     have r3 := r1.tabS
     have hfl2 := filtN_le e (M k)
     refine .seq (fun K11 hK11 => ?_)
     refine .seq (fun K12 hK12 => ?_)
     refine .region ?_
     refine .m rfl rfl rfl (.move rfl) ?_
     refine .m rfl rfl rfl (.move rfl) ?_
     refine .m rfl rfl rfl (.move rfl) ?_
     refine .m rfl rfl rfl (.idxN sl_88_Ue (by assumption) rfl rfl (by omega)) ?_
     refine .m rfl rfl rfl (.loadE on_90_Ue (by assumption) rfl (by omega)) ?_
     refine .m rfl rfl rfl (.len sl_90_Ue rfl) ?_
     refine .m rfl rfl rfl (.cmp rfl rfl rfl) ?_
     refine .nil ?_
     refine hK12 _ _ ?_
     refine .cond rfl (fun h21 => ?_) (fun h21 => ?_)
     ·
      simp only [sps] at h21
      have hlb : (tabB (L k) (M k)).length = L k := length_tabB _ _
      refine .skip ?_
      refine hK11 _ _ ?_
      refine .seq (fun K13 hK13 => ?_)
      refine .block ?_
      refine .seq (fun K14 hK14 => ?_)
      refine .region ?_
      refine .m rfl rfl rfl (.move rfl) ?_
      refine .m rfl rfl rfl (.move rfl) ?_
      refine .m rfl rfl rfl (.idxN sl_88_Ue (by assumption) rfl rfl (by omega)) ?_
      refine .m rfl rfl rfl (.loadE on_90_Ue (by assumption) rfl (by omega)) ?_
      refine .m rfl rfl rfl (.move rfl) ?_
      refine .m rfl rfl rfl (.idxN sl_90_Ue (by assumption) rfl rfl (by omega)) ?_
      refine .m rfl rfl rfl (.loadB on_4_Ue (by assumption) rfl (by omega)) ?_
      refine .nil ?_
      refine hK14 _ _ ?_
      refine .cond rfl (fun h30 => ?_) (fun h30 => ?_)
      ·
       rw [tabB_get (by omega)] at h30
       refine .region ?_
       refine .m rfl rfl rfl (.move rfl) ?_
       refine .m rfl rfl rfl (.move rfl) ?_
       refine .r rfl rfl rfl (.litR rfl sl_22_A ze_2_E rfl rfl (by omega) (by omega) rfl rfl) ?_
       rintro _ H33 ⟨g33, rfl, le33, ge33, at33⟩
       have nx_H33 := le33.1
       replace hle := hle.trans le33
       replace lst1 := lst1.le le33
       replace rk := rk.le le33
       replace lst2 := lst2.le le33
       replace at_L3 := le33.2 _ _ at_L3
       replace at_L5 := le33.2 _ _ at_L5
       have lt_at33 := GHeap.lt_of_get at33
       replace h := base_h.mono hle
       clear hsl
       have hsl := h.sl
       clear r1 r3
       have r1 := h.row (i := k) (by omega)
       have r3 := r1.tabS
       refine .r rfl rfl rfl (.appendI rfl sl_22_A ze_2_E rfl by_2_E sl_22_A rfl rfl (by assumption) (by assumption) (by first | omega | (simp <;> omega)) (by omega) (by omega)) ?_
       rintro _ H34 ⟨g34, rfl, st34, ge34, at34⟩
       have nx_H34 := st34.nx
       replace hle := hle.st st34 (fun k hk => ⟨by omega, trivial⟩)
       replace lst1 := lst1.st st34 (fun k hk ho => by simp only [out, and_true] at ho ⊢ <;> omega)
       replace rk := rk.st st34 (fun k hk ho => by simp only [out, and_true] at ho ⊢ <;> omega)
       replace lst2 := lst2.st st34 (fun k hk ho => by simp only [out, and_true] at ho ⊢ <;> omega)
       replace at_L3 := st34.same _ _ ⟨by omega, trivial⟩ at_L3
       replace at33 := st34.same _ _ ⟨by omega, trivial⟩ at33
       have lt_at34 := GHeap.lt_of_get at34
       replace h := base_h.mono hle
       clear hsl
       have hsl := h.sl
       clear r1 r3
       have r1 := h.row (i := k) (by omega)
       have r3 := r1.tabS
       refine .m rfl rfl rfl (.assign rfl) ?_
       refine .nil ?_
       refine hK13 _ _ ?_
       refine .region ?_
       refine .m rfl rfl rfl (.move rfl) ?_
       refine .m rfl rfl rfl (.add rfl rfl rfl (by omega) (by omega)) ?_
       refine .m rfl rfl rfl (.assign rfl) ?_
       refine .nil ?_
       refine hKL2 ((e + 1, _, _)) _ _ ?_ ?_ ⟨rfl, rfl, rfl, rfl, rfl, trivial⟩
       ·
        refine ⟨lst2, by first | assumption | (rw [filtN_T h30]; assumption) | (rw [filtN_F h30]; assumption), by omega, by first | omega | (simp only [List.length_append, List.length_cons, List.length_nil] <;> omega) | (rw [filtN_T h30] <;> (first | omega | (simp only [List.length_append, List.length_cons, List.length_nil] <;> omega))) | (rw [filtN_F h30] <;> (first | omega | (simp only [List.length_append, List.length_cons, List.length_nil] <;> omega))), ?_⟩
        omega
       ·
        (dsimp only; omega)
      ·
       rw [tabB_get (by omega)] at h30
       refine .skip ?_
       refine hK13 _ _ ?_
       refine .region ?_
       refine .m rfl rfl rfl (.move rfl) ?_
       refine .m rfl rfl rfl (.add rfl rfl rfl (by omega) (by omega)) ?_
       refine .m rfl rfl rfl (.assign rfl) ?_
       refine .nil ?_
       refine hKL2 ((e + 1, _, _)) _ _ ?_ ?_ ⟨rfl, rfl, rfl, rfl, rfl, trivial⟩
       ·
        refine ⟨lst2, by first | assumption | (rw [filtN_T h30]; assumption) | (rw [filtN_F h30]; assumption), by omega, by first | omega | (simp only [List.length_append, List.length_cons, List.length_nil] <;> omega) | (rw [filtN_T h30] <;> (first | omega | (simp only [List.length_append, List.length_cons, List.length_nil] <;> omega))) | (rw [filtN_F h30] <;> (first | omega | (simp only [List.length_append, List.length_cons, List.length_nil] <;> omega))), ?_⟩
        omega
       ·
        (dsimp only; omega)
     ·
      try simp only [sps] at h21
      refine .exit ?_
      refine hK9 _ _ ?_
      refine .region ?_
      obtain rfl : e = L k := by omega
      obtain rfl := ln_L5
      refine .m rfl rfl rfl (.move rfl) ?_
      refine .m rfl rfl rfl (.move rfl) ?_
      refine .r rfl rfl rfl (.litR rfl sl_23_B ze_22_E rfl rfl (by omega) (by omega) rfl rfl) ?_
      rintro _ H37 ⟨g37, rfl, le37, ge37, at37⟩
      have nx_H37 := le37.1
      replace hle := hle.trans le37
      replace lst1 := lst1.le le37
      replace rk := rk.le le37
      replace at_L3 := le37.2 _ _ at_L3
      replace at_L5 := le37.2 _ _ at_L5
      have lt_at37 := GHeap.lt_of_get at37
      replace h := base_h.mono hle
      clear hsl
      have hsl := h.sl
      clear r1 r3
      have r1 := h.row (i := k) (by omega)
      have r3 := r1.tabS
      refine .r rfl rfl rfl (.appendV rfl sl_23_B ze_22_E rfl by_22_E sl_23_B rfl rfl (by assumption) (by assumption) (by first | omega | (simp <;> omega)) rfl rfl (by omega) (by omega)) ?_
      rintro _ H38 ⟨g38, rfl, st38, ge38, at38⟩
      have nx_H38 := st38.nx
      replace hle := hle.st st38 (fun k hk => ⟨by omega, trivial⟩)
      replace lst1 := lst1.st st38 (fun k hk ho => by simp only [out, and_true] at ho ⊢ <;> omega)
      replace rk := rk.st st38 (fun k hk ho => by simp only [out, and_true] at ho ⊢ <;> omega)
      replace at_L5 := st38.same _ _ ⟨by omega, trivial⟩ at_L5
      replace at37 := st38.same _ _ ⟨by omega, trivial⟩ at37
      have lt_at38 := GHeap.lt_of_get at38
      replace h := base_h.mono hle
      clear hsl
      have hsl := h.sl
      clear r1 r3
      have r1 := h.row (i := k) (by omega)
      have r3 := r1.tabS
      refine .m rfl rfl rfl (.assign rfl) ?_
      refine .nil ?_
      refine hK7 _ _ ?_
      refine .region ?_
      refine .m rfl rfl rfl (.move rfl) ?_
      refine .m rfl rfl rfl (.add rfl rfl rfl (by omega) (by omega)) ?_
      refine .m rfl rfl rfl (.assign rfl) ?_
      refine .nil ?_
      refine hKL1 ((k + 1, upd rr k (some ⟨gL5, 0, none⟩), _, _)) _ _ ?_ ?_ ⟨rfl, rfl, rfl, trivial⟩
      ·
       refine ⟨lst1, by first | assumption | (rw [slsOf_succ]; assumption), by omega, by first | omega | (simp only [List.length_append, List.length_cons, List.length_nil] <;> omega) | (rw [slsOf_succ] <;> (first | omega | (simp only [List.length_append, List.length_cons, List.length_nil] <;> omega))), ?_⟩
       exact ⟨by omega, hR.succ rk hat3 rfl (by assumption) (by omega) (by omega)⟩
      ·
       (dsimp only; omega)
   ·
    try simp only [sps] at h11
    refine .exit ?_
    refine hK3 _ _ ?_
    refine .seq (fun K15 hK15 => ?_)
    refine .region ?_
    refine .m rfl rfl rfl (.move rfl) ?_
    refine .m rfl rfl rfl (.assign rfl) ?_
    refine .nil ?_
    refine hK15 _ _ ?_
    refine .ret ?_
    -- leaf e1
    refine hret _ _ ?_
    refine ⟨_, rfl, ?_⟩
    obtain rfl : k = n := by omega
    exact ⟨hle, _, rr, by rw [ln_L3]; simp, hR.done at_L3 (by omega)⟩
end Go.Proofs.Ytbpehbbdodahaaa
/- Parts that connectives and maps make: the reference. No condition but those of each statement. -/
namespace Go.Proofs.Ytbpehbbdodahaaa
open Go Go.GL Go.RowKit Go.Proofs
set_option maxHeartbeats 4000000 in
theorem l26Some_c {m : SMap} {p : SMapP} {a : Option Addr} {me : List (List Int)} {r : Nat → Option Addr} {H : GHeap} (hin : m.In H p := by assumption) (hm : Intss H a me r := by assumption) (hs : m.Small := by assumption) (hI : m.Shape) (hp : m.s.Part me)
    (hl : ∀ i, (me.getD i []).length ≤ 1048576 := by assumption) :
    GCalls Try.prog 53 [.agg (m.cells p).toArray, .slice a me.length me.length] H (NewIntssR H (m.t.pick (m.dirY me)).me) := by
  have hz := hI.t.1.sz
  have hn : m.t.sz.length ≤ 1048576 := hs.2.1.2.1
  have w4 := hs.2.2.2
  have e1 := hp.pl
  have e2 := hI.fits.pl
  have e3 : m.s.sz.length = m.t.sz.length := by
    have z1 := hI.s.1.zl
    have z2 := hI.t.1.zl
    rw [hI.sh] at z1
    omega
  refine GCalls.body (N := 50) (rs := [.tmp 4]) Try.func53 rfl rfl rfl rfl (fun Qx hret hend => ?_)
  refine .forget (fr' := [(0, some _), (1, some _)]) ⟨rfl, rfl, trivial⟩ ?_
  have hle := GHeap.Le.refl H
  have base_hin := hin
  have base_hm := hm
  refine .seq (fun K1 hK1 => ?_)
  refine .region ?_
  refine .r rfl rfl rfl (.boxR rfl sz_41_VSMap rfl) ?_
  rintro _ H2 ⟨g2, rfl, le2, ge2, at2⟩
  have nx_H2 := le2.1
  replace hle := hle.trans le2
  have lt_at2 := GHeap.lt_of_get at2
  replace hin := base_hin.mono hle
  replace hm := base_hm.mono hle
  have hb2 : SMap.At _ g2 0 m p := ⟨Mem.of_get at2, hin⟩
  obtain ⟨fs2, ft2, c142, i22⟩ := hb2.get
  have hm2 : MemN _ _ _ _ _ := ⟨rfl, hb2.1⟩
  have hi2 := hb2.2
  have hms2 : MemN _ _ _ _ _ := ⟨rfl, fs2.1⟩
  have his2 := fs2.2
  have hmt2 : MemN _ _ _ _ _ := ⟨rfl, ft2.1⟩
  have hit2 := ft2.2
  refine .m rfl rfl rfl (.assign rfl) ?_
  refine .nil ?_
  refine hK1 _ _ ?_
  refine .seq (fun K2 hK2 => ?_)
  refine .regionD mixed_orders_B (.q 0 (.q 1 (.q 2 (.q 3 (.c 4 1 (.c 5 0 (.q 6 (.done)))))))) (by kernel_rfl) ?_
  refine .m rfl rfl rfl rfl (.refl _) (.fieldAddr fo_41_1_VSMap rfl) ?_
  refine .m rfl rfl rfl rfl (.refl _) (.loadM ag_39_VSFun rfl (by assumption)) ?_
  refine .m rfl rfl rfl rfl (.refl _) (.fieldAddr fo_41_1_VSMap rfl) ?_
  refine .m rfl rfl rfl rfl (.refl _) (.loadM ag_39_VSFun rfl (by assumption)) ?_
  refine .call1 rfl rfl rfl rfl rfl @Try.call76 rfl (l26Empty_c (hs := hs.2.1)) ?_
  rintro _ H12 ⟨le12, a12, r12, rfl, v12⟩
  have hbl := le12
  refine ⟨hbl, ?_⟩
  have nx_H12 := le12.1
  replace hle := hle.trans le12
  replace at2 := le12.2 _ _ at2
  have bs_v12 := v12
  have lv_v12 : Keep H2.next H12 H12 := fun _ _ _ h => h
  replace hin := base_hin.mono hle
  replace hm := base_hm.mono hle
  clear hb2 fs2 ft2 c142 i22 hm2 hi2 hms2 his2 hmt2 hit2
  have hb2 : SMap.At _ g2 0 m p := ⟨Mem.of_get at2, hin⟩
  obtain ⟨fs2, ft2, c142, i22⟩ := hb2.get
  have hm2 : MemN _ _ _ _ _ := ⟨rfl, hb2.1⟩
  have hi2 := hb2.2
  have hms2 : MemN _ _ _ _ _ := ⟨rfl, fs2.1⟩
  have his2 := fs2.2
  have hmt2 : MemN _ _ _ _ _ := ⟨rfl, ft2.1⟩
  have hit2 := ft2.2
  have i12 := v12.intss
  refine .call0 rfl rfl rfl rfl rfl @Try.call71 rfl (l26Marks_c (hs := hs.2.1) (hz := hz) (hml := by simp) (hme := fun x hx => by rw [length_rowsOf] at hx; rw [rowsOf_get hx]; exact ⟨by simp, rfl⟩)) ?_
  rintro _ H13 ⟨le13, g13, r13, rfl, v13⟩
  have nx_H13 := le13.1
  replace hle := hle.trans le13
  replace at2 := le13.2 _ _ at2
  replace lv_v12 := Keep.le lv_v12 le13
  replace v12 := bs_v12.keep lv_v12 (Nat.le_refl _)
  have bs_v13 := v13
  have lv_v13 : Keep H12.next H13 H13 := fun _ _ _ h => h
  replace hin := base_hin.mono hle
  replace hm := base_hm.mono hle
  clear hb2 fs2 ft2 c142 i22 hm2 hi2 hms2 his2 hmt2 hit2
  have hb2 : SMap.At _ g2 0 m p := ⟨Mem.of_get at2, hin⟩
  obtain ⟨fs2, ft2, c142, i22⟩ := hb2.get
  have hm2 : MemN _ _ _ _ _ := ⟨rfl, hb2.1⟩
  have hi2 := hb2.2
  have hms2 : MemN _ _ _ _ _ := ⟨rfl, fs2.1⟩
  have his2 := fs2.2
  have hmt2 : MemN _ _ _ _ _ := ⟨rfl, ft2.1⟩
  have hit2 := ft2.2
  clear i12
  have i12 := v12.intss
  have i13 := v13.sl
  refine .m rfl rfl rfl rfl (.refl _) (.assign rfl) ?_
  refine .done ?_
  refine hK2 _ _ ?_
  refine .seq (fun K3 hK3 => ?_)
  refine .seq (fun K4 hK4 => ?_)
  refine .region ?_
  refine .m rfl rfl rfl (.assign rfl) ?_
  refine .nil ?_
  refine hK4 _ _ ?_
  refine .block ?_
  have v0 := v13.congr (M' := m.dirM me 0 0) (fun j hj d _ => by rw [SMap.dirM_zero]; unfold hasL; rw [rowsOf_get hj]; rfl)
  clear i13
  refine .loopR (σ := Nat) [(1, some _), (2, some _), (5, some _)] (fun k => [(6, some (.int .i64 (k : Int)))]) (fun k H' => k ≤ m.t.sz.length ∧ H.Le H' ∧ H'.get g2 = some (.row (m.cells p) 41 true) ∧ BMat H2.next H' g13 90 4 r13 (fun x => (m.t.sz.getD x 0).toNat) (m.dirM me k 0) m.t.sz.length) (fun k => m.t.sz.length - k) (0) ⟨rfl, rfl, rfl, trivial⟩ ⟨rfl, trivial⟩ ?_ ?_
  ·
   exact ⟨by omega, hle, at2, v0.keep (.of_le (.refl _)) (by omega)⟩
  ·
   rintro k HL1 hI KL1 hKL1
   refine .forget (fr' := [(6, some (.int .i64 (k : Int))), (1, some _), (2, some _), (5, some _)]) ⟨rfl, rfl, rfl, rfl, trivial⟩ ?_
   obtain ⟨hk, hle, at2, m1⟩ := hI
   have nx_HL1 := hle.1
   replace hin := base_hin.mono hle
   replace hm := base_hm.mono hle
   have i13 := m1.sl
   refine .seq (fun K5 hK5 => ?_)
   refine .seq (fun K6 hK6 => ?_)
   refine .region ?_
   refine .m rfl rfl rfl (.move rfl) ?_
   refine .m rfl rfl rfl (.move rfl) ?_
   refine .m rfl rfl rfl (.len sl_23_B rfl) ?_
   refine .m rfl rfl rfl (.cmp rfl rfl rfl) ?_
   refine .nil ?_
   refine hK6 _ _ ?_
   refine .cond rfl (fun h17 => ?_) (fun h17 => ?_)
   ·
    simp only [sps] at h17
    have r2 := hz k (by omega)
    have r7 := hI.fits.pa k (by omega)
    have r8 := w4 k
    have r7' := r7.1
    have r9 := allIn_iff.1 r7.2
    have r10 := allIn_iff.1 (hp.rs k (by omega)).2
    have r11 := hl k
    refine .skip ?_
    refine hK5 _ _ ?_
    refine .seq (fun K7 hK7 => ?_)
    refine .block ?_
    refine .seq (fun K8 hK8 => ?_)
    refine .region ?_
    refine .m rfl rfl rfl (.assign rfl) ?_
    refine .nil ?_
    refine hK8 _ _ ?_
    refine .block ?_
    refine .loopR (σ := Nat) [(1, some _), (2, some _), (5, some _), (6, some _)] (fun l => [(7, some (.int .i64 (l : Int)))]) (fun l H' => l ≤ (me.getD k []).length ∧ H.Le H' ∧ H'.get g2 = some (.row (m.cells p) 41 true) ∧ BMat H2.next H' g13 90 4 r13 (fun x => (m.t.sz.getD x 0).toNat) (m.dirM me k l) m.t.sz.length) (fun l => (me.getD k []).length - l) (0) ⟨rfl, rfl, rfl, rfl, trivial⟩ ⟨rfl, trivial⟩ ?_ ?_
    ·
     exact ⟨by omega, hle, at2, m1⟩
    ·
     rintro l HL2 hI KL2 hKL2
     refine .forget (fr' := [(7, some (.int .i64 (l : Int))), (1, some _), (2, some _), (5, some _), (6, some _)]) ⟨rfl, rfl, rfl, rfl, rfl, trivial⟩ ?_
     obtain ⟨hl0, hle, at2, m1⟩ := hI
     have r3 := m1.row (i := k) (by omega)
     have r5 := r3.tabS
     have b1 := length_tabB (m.t.sz.getD k 0).toNat (m.dirM me k l k)
     obtain ⟨rg, g1⟩ := m1.own.row k (by omega)
     have c142 : GHeap.cell HL2 g2 (0 + 14) = some (.slice p.a2 m.pa.length m.pa.length) := by rw [GHeap.cell_of at2]; rfl
     have nx_HL2 := hle.1
     replace hin := base_hin.mono hle
     replace hm := base_hm.mono hle
     have i13 := m1.sl
     refine .seq (fun K9 hK9 => ?_)
     refine .seq (fun K10 hK10 => ?_)
     refine .region ?_
     refine .m rfl rfl rfl (.move rfl) ?_
     refine .m rfl rfl rfl (.move rfl) ?_
     refine .m rfl rfl rfl (.move rfl) ?_
     refine .m rfl rfl rfl (.idxN sl_23_B (Intss.sl (by assumption)) rfl rfl (by omega)) ?_
     refine .m rfl rfl rfl (.loadR on_22_B (by assumption) rfl (by omega)) ?_
     refine .m rfl rfl rfl (.len sl_22_A rfl) ?_
     refine .m rfl rfl rfl (.cmp rfl rfl rfl) ?_
     refine .nil ?_
     refine hK10 _ _ ?_
     refine .cond rfl (fun h26 => ?_) (fun h26 => ?_)
     ·
      simp only [sps] at h26
      have r12 := r10 l (by omega)
      have r13' := r9 ((me.getD k []).getD l 0).toNat (by omega)
      have i3 := hin.2.2
      have i4 := i3.2 k (by omega)
      have i5 := hm.2 k (by omega)
      refine .skip ?_
      refine hK9 _ _ ?_
      refine .seq (fun K11 hK11 => ?_)
      refine .block ?_
      refine .regionD mixed_orders_B (.q 0 (.q 1 (.q 2 (.q 3 (.q 4 (.q 5 (.q 6 (.q 7 (.q 8 (.q 9 (.q 10 (.q 11 (.q 12 (.q 13 (.q 14 (.q 15 (.q 16 (.q 17 (.q 18 (.c 19 0 (.done))))))))))))))))))))) (by kernel_rfl) ?_
      refine .m rfl rfl rfl rfl (.refl _) (.move rfl) ?_
      refine .m rfl rfl rfl rfl (.refl _) (.move rfl) ?_
      refine .m rfl rfl rfl rfl (.refl _) (.idxN sl_88_Ue (by assumption) rfl rfl (by omega)) ?_
      refine .m rfl rfl rfl rfl (.refl _) (.loadE on_90_Ue (by assumption) rfl (by omega)) ?_
      refine .m rfl rfl rfl rfl (.refl _) (.fieldAddr fo_41_2_VSMap rfl) ?_
      refine .m rfl rfl rfl rfl (.refl _) (.load on_23_B rfl (by assumption)) ?_
      refine .m rfl rfl rfl rfl (.refl _) (.move rfl) ?_
      refine .m rfl rfl rfl rfl (.refl _) (.idxN sl_23_B (Intss.sl (by assumption)) rfl rfl (by omega)) ?_
      refine .m rfl rfl rfl rfl (.refl _) (.loadR on_22_B (by assumption) rfl (by omega)) ?_
      refine .m rfl rfl rfl rfl (.refl _) (.move rfl) ?_
      refine .m rfl rfl rfl rfl (.refl _) (.move rfl) ?_
      refine .m rfl rfl rfl rfl (.refl _) (.idxN sl_23_B (Intss.sl (by assumption)) rfl rfl (by omega)) ?_
      refine .m rfl rfl rfl rfl (.refl _) (.loadR on_22_B (by assumption) rfl (by omega)) ?_
      refine .m rfl rfl rfl rfl (.refl _) (.move rfl) ?_
      refine .m rfl rfl rfl rfl (.refl _) (.idxN sl_22_A (by assumption) rfl rfl (by omega)) ?_
      refine .m rfl rfl rfl rfl (.refl _) (.loadI on_2_A (by assumption) rfl (by omega)) ?_
      refine .m rfl rfl rfl rfl (.refl _) (.idx1 sl_22_A (by assumption) rfl rfl (by omega) (by omega)) ?_
      refine .m rfl rfl rfl rfl (.refl _) (.loadI on_2_A (by assumption) rfl (by omega)) ?_
      refine .m rfl rfl rfl rfl (.refl _) (.idx1 sl_90_Ue (by assumption) rfl rfl (by omega) (by omega)) ?_
      refine .r0 rfl rfl rfl (.storeB rfl sz_4_Ue rfl rfl (by assumption) (by first | omega | (simp <;> omega))) ?_
      rintro _ H8019 ⟨rfl, st8019, at8019⟩
      have nx_H8019 := st8019.nx
      replace hle := hle.st st8019 (fun k hk => ⟨by omega, trivial⟩)
      have lt_at8019 := GHeap.lt_of_get at8019
      replace hin := base_hin.mono hle
      replace hm := base_hm.mono hle
      clear i13
      have i13 := m1.sl
      have e8 := at8019
      rw [Nat.zero_add, SMap.dirM_set (by omega) (by omega)] at e8
      have m1' := m1.put (i := k) (M' := m.dirM me k (l + 1)) (by omega) st8019 e8 SMap.dirM_other rfl
      have at2' := st8019.same g2 _ ⟨by omega, trivial⟩ at2
      refine .done ?_
      refine hK11 _ _ ?_
      refine .region ?_
      refine .m rfl rfl rfl (.move rfl) ?_
      refine .m rfl rfl rfl (.add rfl rfl rfl (by omega) (by omega)) ?_
      refine .m rfl rfl rfl (.assign rfl) ?_
      refine .nil ?_
      refine hKL2 (l + 1) _ _ ?_ ?_ ⟨rfl, rfl, rfl, rfl, rfl, trivial⟩
      ·
       exact ⟨by omega, hle, at2', m1'⟩
      ·
       omega
     ·
      try simp only [sps] at h26
      refine .exit ?_
      refine hK7 _ _ ?_
      refine .region ?_
      refine .m rfl rfl rfl (.move rfl) ?_
      refine .m rfl rfl rfl (.add rfl rfl rfl (by omega) (by omega)) ?_
      refine .m rfl rfl rfl (.assign rfl) ?_
      refine .nil ?_
      refine hKL1 (k + 1) _ _ ?_ ?_ ⟨rfl, rfl, rfl, rfl, trivial⟩
      ·
       obtain rfl : l = (me.getD k []).length := by omega
       exact ⟨by omega, hle, at2, m1.congr SMap.dirM_next⟩
      ·
       omega
   ·
    try simp only [sps] at h17
    refine .exit ?_
    refine hK3 _ _ ?_
    refine .seq (fun K12 hK12 => ?_)
    refine .region ?_
    refine .m rfl rfl rfl (.move rfl) ?_
    obtain rfl : k = m.t.sz.length := by omega
    have m1d := m1.congr (M' := m.dirY me) (fun j hj d _ => SMap.dirM_done j hj d)
    refine .call rfl rfl rfl rfl @Try.call72 rfl (l26Marked_c (h := m1d) (hL := fun i hi => by have := hz i hi; omega)) ?_
    rintro _ H49 ⟨le49, a49, r49, rfl, v49⟩
    have nx_H49 := le49.1
    replace hle := hle.trans le49
    have bs_v49 := v49
    have lv_v49 : Keep HL1.next H49 H49 := fun _ _ _ h => h
    replace hin := base_hin.mono hle
    replace hm := base_hm.mono hle
    clear i13
    have i13 := m1.sl
    have i49 := v49.intss
    refine .m rfl rfl rfl (.assign rfl) ?_
    refine .nil ?_
    refine hK12 _ _ ?_
    refine .ret ?_
    -- leaf e1
    refine hret _ _ ?_
    refine ⟨_, rfl, ?_⟩
    exact ⟨hle, a49, r49, rfl, v49.keep (.of_le (.refl _)) (by omega)⟩
theorem specDirectImage_c {m : SMap} {p : SMapP} {c : Prt} {q : PrtP} {H : GHeap} (hin : m.In H p := by assumption) (hin1 : c.In H q := by assumption) (hs : m.Small := by assumption) (hs1 : c.Small := by assumption) :
    GCalls Try.prog 26 [.agg (m.cells p).toArray, .agg (c.cells q).toArray] H (fun v H' => H.Le H' ∧ ∃ r, v = .tuple #[.agg ((m.dir c.me).cells r).toArray, .int .i64 (m.dirC c.me)] ∧ PrtR H.next H' (m.dir c.me) r) := by
  obtain ⟨w1, w2⟩ := id hs1
  refine GCalls.body (N := 23) (rs := [.cell 4 34, .tmp 5]) Try.func26 rfl rfl rfl rfl (fun Qx hret hend => ?_)
  refine .forget (fr' := [(0, some _), (1, some _)]) ⟨rfl, rfl, trivial⟩ ?_
  have hle := GHeap.Le.refl H
  have base_hin := hin
  have base_hin1 := hin1
  refine .seq (fun K1 hK1 => ?_)
  refine .region ?_
  refine .r rfl rfl rfl (.boxR rfl sz_41_VSMap rfl) ?_
  rintro _ H2 ⟨g2, rfl, le2, ge2, at2⟩
  have nx_H2 := le2.1
  replace hle := hle.trans le2
  have lt_at2 := GHeap.lt_of_get at2
  replace hin := base_hin.mono hle
  replace hin1 := base_hin1.mono hle
  have hb2 : SMap.At _ g2 0 m p := ⟨Mem.of_get at2, hin⟩
  obtain ⟨fs2, ft2, c142, i22⟩ := hb2.get
  have hm2 : MemN _ _ _ _ _ := ⟨rfl, hb2.1⟩
  have hi2 := hb2.2
  have hms2 : MemN _ _ _ _ _ := ⟨rfl, fs2.1⟩
  have his2 := fs2.2
  have hmt2 : MemN _ _ _ _ _ := ⟨rfl, ft2.1⟩
  have hit2 := ft2.2
  refine .r rfl rfl rfl (.boxR rfl sz_34_VPrt rfl) ?_
  rintro _ H3 ⟨g3, rfl, le3, ge3, at3⟩
  have nx_H3 := le3.1
  replace hle := hle.trans le3
  replace at2 := le3.2 _ _ at2
  have lt_at3 := GHeap.lt_of_get at3
  replace hin := base_hin.mono hle
  replace hin1 := base_hin1.mono hle
  clear hb2 fs2 ft2 c142 i22 hm2 hi2 hms2 his2 hmt2 hit2
  have hb2 : SMap.At _ g2 0 m p := ⟨Mem.of_get at2, hin⟩
  obtain ⟨fs2, ft2, c142, i22⟩ := hb2.get
  have hm2 : MemN _ _ _ _ _ := ⟨rfl, hb2.1⟩
  have hi2 := hb2.2
  have hms2 : MemN _ _ _ _ _ := ⟨rfl, fs2.1⟩
  have his2 := fs2.2
  have hmt2 : MemN _ _ _ _ _ := ⟨rfl, ft2.1⟩
  have hit2 := ft2.2
  have hb3 : Prt.At _ g3 0 c q := ⟨Mem.of_get at3, hin1⟩
  obtain ⟨c03, i03⟩ := hb3.get
  have hm3 : MemN _ _ _ _ _ := ⟨rfl, hb3.1⟩
  have hi3 := hb3.2
  refine .r rfl rfl rfl (.allocR rfl ze_34_VPrt rfl) ?_
  rintro _ H4 ⟨g4, rfl, le4, ge4, at4⟩
  have nx_H4 := le4.1
  replace hle := hle.trans le4
  replace at2 := le4.2 _ _ at2
  replace at3 := le4.2 _ _ at3
  have lt_at4 := GHeap.lt_of_get at4
  replace hin := base_hin.mono hle
  replace hin1 := base_hin1.mono hle
  clear hb2 fs2 ft2 c142 i22 hm2 hi2 hms2 his2 hmt2 hit2
  have hb2 : SMap.At _ g2 0 m p := ⟨Mem.of_get at2, hin⟩
  obtain ⟨fs2, ft2, c142, i22⟩ := hb2.get
  have hm2 : MemN _ _ _ _ _ := ⟨rfl, hb2.1⟩
  have hi2 := hb2.2
  have hms2 : MemN _ _ _ _ _ := ⟨rfl, fs2.1⟩
  have his2 := fs2.2
  have hmt2 : MemN _ _ _ _ _ := ⟨rfl, ft2.1⟩
  have hit2 := ft2.2
  clear hb3 c03 i03 hm3 hi3
  have hb3 : Prt.At _ g3 0 c q := ⟨Mem.of_get at3, hin1⟩
  obtain ⟨c03, i03⟩ := hb3.get
  have hm3 : MemN _ _ _ _ _ := ⟨rfl, hb3.1⟩
  have hi3 := hb3.2
  refine .m rfl rfl rfl (.assign rfl) ?_
  refine .nil ?_
  refine hK1 _ _ ?_
  refine .seq (fun K2 hK2 => ?_)
  refine .seq (fun K3 hK3 => ?_)
  refine .region ?_
  refine .m rfl rfl rfl (.loadM ag_41_VSMap rfl ⟨rfl, Mem.of_get at2⟩) ?_
  refine .callQ rfl rfl rfl rfl @Try.call29 rfl (l19IsMap_c) ?_
  refine .m rfl rfl rfl (.not rfl) ?_
  refine .m rfl rfl rfl (.move rfl) ?_
  refine .split (fun h9 => ?_) (fun h9 => ?_)
  ·
   try simp only [sps] at h9
   refine .sg rfl rfl rfl rfl rfl ?_
   refine .sg rfl rfl rfl rfl rfl ?_
   refine .sg rfl rfl rfl rfl rfl ?_
   refine .sg rfl rfl rfl rfl rfl ?_
   refine .sg rfl rfl rfl rfl rfl ?_
   refine .sg rfl rfl rfl rfl rfl ?_
   refine .m rfl rfl rfl (.pickT rfl rfl) ?_
   refine .nil ?_
   refine hK3 _ _ ?_
   refine .condT rfl ?_
   refine .seq (fun K4 hK4 => ?_)
   refine .region ?_
   refine .m rfl rfl rfl (.build bt_34_Uc rfl rfl rfl) ?_
   refine .r0 rfl rfl (.fillR rfl sz_34_VPrt rfl rfl rfl rfl (by assumption) (by first | rfl | exact Nat.le_of_ble_eq_true rfl | simp)) ?_
   rintro _ H2001 ⟨rfl, st2001, at2001⟩
   have nx_H2001 := st2001.nx
   replace hle := hle.st st2001 (fun k hk => ⟨by omega, trivial⟩)
   replace at2 := st2001.same _ _ ⟨by omega, trivial⟩ at2
   replace at3 := st2001.same _ _ ⟨by omega, trivial⟩ at3
   have lt_at2001 := GHeap.lt_of_get at2001
   replace hin := base_hin.mono hle
   replace hin1 := base_hin1.mono hle
   clear hb2 fs2 ft2 c142 i22 hm2 hi2 hms2 his2 hmt2 hit2
   have hb2 : SMap.At _ g2 0 m p := ⟨Mem.of_get at2, hin⟩
   obtain ⟨fs2, ft2, c142, i22⟩ := hb2.get
   have hm2 : MemN _ _ _ _ _ := ⟨rfl, hb2.1⟩
   have hi2 := hb2.2
   have hms2 : MemN _ _ _ _ _ := ⟨rfl, fs2.1⟩
   have his2 := fs2.2
   have hmt2 : MemN _ _ _ _ _ := ⟨rfl, ft2.1⟩
   have hit2 := ft2.2
   clear hb3 c03 i03 hm3 hi3
   have hb3 : Prt.At _ g3 0 c q := ⟨Mem.of_get at3, hin1⟩
   obtain ⟨c03, i03⟩ := hb3.get
   have hm3 : MemN _ _ _ _ _ := ⟨rfl, hb3.1⟩
   have hi3 := hb3.2
   have mm2001 : MemN _ _ _ _ _ := ⟨rfl, Mem.of_get at2001⟩
   refine .m rfl rfl rfl (.assign rfl) ?_
   refine .nil ?_
   refine hK4 _ _ ?_
   refine .ret ?_
   -- leaf e1
   refine hret _ _ ?_
   refine ⟨_, _, _, _, _, rfl, ag_34_VPrt, (by rfl), (Mem.of_get at2001), rfl, ?_⟩
   obtain ⟨e1, e2⟩ := SMap.dir_not (m := m) (p := c.me) fun hh => h9 hh.1
   rw [e1, e2]
   exact ⟨hle, ⟨none, fun _ => none⟩, rfl, .nil _ _ _⟩
  ·
   simp only [sps] at h9
   have hS := h9.1.s
   refine .mg rfl rfl rfl rfl rfl (.fieldAddr fo_41_0_VSMap rfl) ?_
   refine .mg rfl rfl rfl rfl rfl (.loadM ag_39_VSFun rfl (by assumption)) ?_
   refine .mg rfl rfl rfl rfl rfl (.fieldAddr fo_34_0_VPrt rfl) ?_
   refine .mg rfl rfl rfl rfl rfl (.load on_23_B rfl (by assumption)) ?_
   refine .callQg rfl rfl rfl rfl rfl rfl @Try.call30 rfl (l25Part_c) ?_
   refine .mg rfl rfl rfl rfl rfl (.not rfl) ?_
   refine .m rfl rfl rfl (.pickF rfl rfl) ?_
   refine .nil ?_
   refine hK3 _ _ ?_
   refine .cond rfl (fun h16 => ?_) (fun h16 => ?_)
   ·
    try simp only [sps] at h16
    refine .seq (fun K5 hK5 => ?_)
    refine .region ?_
    refine .m rfl rfl rfl (.build bt_34_Uc rfl rfl rfl) ?_
    refine .r0 rfl rfl (.fillR rfl sz_34_VPrt rfl rfl rfl rfl (by assumption) (by first | rfl | exact Nat.le_of_ble_eq_true rfl | simp)) ?_
    rintro _ H2001x2 ⟨rfl, st2001x2, at2001x2⟩
    have nx_H2001x2 := st2001x2.nx
    replace hle := hle.st st2001x2 (fun k hk => ⟨by omega, trivial⟩)
    replace at2 := st2001x2.same _ _ ⟨by omega, trivial⟩ at2
    replace at3 := st2001x2.same _ _ ⟨by omega, trivial⟩ at3
    have lt_at2001x2 := GHeap.lt_of_get at2001x2
    replace hin := base_hin.mono hle
    replace hin1 := base_hin1.mono hle
    clear hb2 fs2 ft2 c142 i22 hm2 hi2 hms2 his2 hmt2 hit2
    have hb2 : SMap.At _ g2 0 m p := ⟨Mem.of_get at2, hin⟩
    obtain ⟨fs2, ft2, c142, i22⟩ := hb2.get
    have hm2 : MemN _ _ _ _ _ := ⟨rfl, hb2.1⟩
    have hi2 := hb2.2
    have hms2 : MemN _ _ _ _ _ := ⟨rfl, fs2.1⟩
    have his2 := fs2.2
    have hmt2 : MemN _ _ _ _ _ := ⟨rfl, ft2.1⟩
    have hit2 := ft2.2
    clear hb3 c03 i03 hm3 hi3
    have hb3 : Prt.At _ g3 0 c q := ⟨Mem.of_get at3, hin1⟩
    obtain ⟨c03, i03⟩ := hb3.get
    have hm3 : MemN _ _ _ _ _ := ⟨rfl, hb3.1⟩
    have hi3 := hb3.2
    have mm2001x2 : MemN _ _ _ _ _ := ⟨rfl, Mem.of_get at2001x2⟩
    refine .m rfl rfl rfl (.assign rfl) ?_
    refine .nil ?_
    refine hK5 _ _ ?_
    refine .ret ?_
    -- leaf e2
    refine hret _ _ ?_
    refine ⟨_, _, _, _, _, rfl, ag_34_VPrt, (by rfl), (Mem.of_get at2001x2), rfl, ?_⟩
    obtain ⟨e1, e2⟩ := SMap.dir_not (m := m) (p := c.me) fun hh => h16 hh.2
    rw [e1, e2]
    exact ⟨hle, ⟨none, fun _ => none⟩, rfl, .nil _ _ _⟩
   ·
    simp only [sps] at h16
    refine .skip ?_
    refine hK2 _ _ ?_
    refine .seq (fun K6 hK6 => ?_)
    refine .region ?_
    refine .m rfl rfl rfl (.loadM ag_41_VSMap rfl ⟨rfl, Mem.of_get at2⟩) ?_
    refine .m rfl rfl rfl (.fieldAddr fo_34_0_VPrt rfl) ?_
    refine .m rfl rfl rfl (.load on_23_B rfl (by assumption)) ?_
    refine .call rfl rfl rfl rfl @Try.call53 rfl (l26Some_c (hI := h9.1) (hp := h16)) ?_
    rintro _ H21 ⟨le21, a21, r21, rfl, v21⟩
    have nx_H21 := le21.1
    replace hle := hle.trans le21
    replace at2 := le21.2 _ _ at2
    replace at3 := le21.2 _ _ at3
    replace at4 := le21.2 _ _ at4
    have bs_v21 := v21
    have lv_v21 : Keep H4.next H21 H21 := fun _ _ _ h => h
    replace hin := base_hin.mono hle
    replace hin1 := base_hin1.mono hle
    clear hb2 fs2 ft2 c142 i22 hm2 hi2 hms2 his2 hmt2 hit2
    have hb2 : SMap.At _ g2 0 m p := ⟨Mem.of_get at2, hin⟩
    obtain ⟨fs2, ft2, c142, i22⟩ := hb2.get
    have hm2 : MemN _ _ _ _ _ := ⟨rfl, hb2.1⟩
    have hi2 := hb2.2
    have hms2 : MemN _ _ _ _ _ := ⟨rfl, fs2.1⟩
    have his2 := fs2.2
    have hmt2 : MemN _ _ _ _ _ := ⟨rfl, ft2.1⟩
    have hit2 := ft2.2
    clear hb3 c03 i03 hm3 hi3
    have hb3 : Prt.At _ g3 0 c q := ⟨Mem.of_get at3, hin1⟩
    obtain ⟨c03, i03⟩ := hb3.get
    have hm3 : MemN _ _ _ _ _ := ⟨rfl, hb3.1⟩
    have hi3 := hb3.2
    have i21 := v21.intss
    refine .m rfl rfl rfl (.build bt_34_Uc rfl rfl rfl) ?_
    refine .r0 rfl rfl (.fillR rfl sz_34_VPrt rfl rfl rfl rfl (by assumption) (by first | rfl | exact Nat.le_of_ble_eq_true rfl | simp)) ?_
    rintro _ H3005 ⟨rfl, st3005, at3005⟩
    have nx_H3005 := st3005.nx
    replace hle := hle.st st3005 (fun k hk => ⟨by omega, trivial⟩)
    replace at2 := st3005.same _ _ ⟨by omega, trivial⟩ at2
    replace at3 := st3005.same _ _ ⟨by omega, trivial⟩ at3
    replace lv_v21 := Keep.st lv_v21 st3005 (fun k hb hk => ⟨by omega, trivial⟩)
    replace v21 := bs_v21.keep lv_v21 (Nat.le_refl _)
    have lt_at3005 := GHeap.lt_of_get at3005
    replace hin := base_hin.mono hle
    replace hin1 := base_hin1.mono hle
    clear hb2 fs2 ft2 c142 i22 hm2 hi2 hms2 his2 hmt2 hit2
    have hb2 : SMap.At _ g2 0 m p := ⟨Mem.of_get at2, hin⟩
    obtain ⟨fs2, ft2, c142, i22⟩ := hb2.get
    have hm2 : MemN _ _ _ _ _ := ⟨rfl, hb2.1⟩
    have hi2 := hb2.2
    have hms2 : MemN _ _ _ _ _ := ⟨rfl, fs2.1⟩
    have his2 := fs2.2
    have hmt2 : MemN _ _ _ _ _ := ⟨rfl, ft2.1⟩
    have hit2 := ft2.2
    clear hb3 c03 i03 hm3 hi3
    have hb3 : Prt.At _ g3 0 c q := ⟨Mem.of_get at3, hin1⟩
    obtain ⟨c03, i03⟩ := hb3.get
    have hm3 : MemN _ _ _ _ _ := ⟨rfl, hb3.1⟩
    have hi3 := hb3.2
    clear i21
    have i21 := v21.intss
    have mm3005 : MemN _ _ _ _ _ := ⟨rfl, Mem.of_get at3005⟩
    refine .m rfl rfl rfl (.assign rfl) ?_
    refine .nil ?_
    refine hK6 _ _ ?_
    refine .ret ?_
    -- leaf e3
    refine hret _ _ ?_
    refine ⟨_, _, _, _, _, rfl, ag_34_VPrt, (by rfl), (Mem.of_get at3005), rfl, ?_⟩
    obtain ⟨e1, e2⟩ := SMap.dir_ok (m := m) (p := c.me) ⟨h9, h16⟩
    rw [e1, e2]
    exact ⟨hle, ⟨a21, r21⟩, rfl, v21.keep (.of_le (.refl _)) (by omega)⟩
end Go.Proofs.Ytbpehbbdodahaaa
/- Parts that connectives and maps make: the program. No condition but those of each statement. -/
namespace Go.Proofs.Ytbpehbbdodahaaa
open Go Go.GL Go.RowKit Go.Proofs
theorem on_83_Ug : oneT Try.prog 83 = true := by kernel_rfl
theorem sz_83_Ug : (Try.prog.info? 83).map (·.size) = some 1 := by kernel_rfl
theorem direct1_c {m : SMap} {p : SMapP} {c : Prt} {q : PrtP} {g o g2 g3 x e : Nat} {e2 : TypeId} {H : GHeap} (hm' : SMap.At H g o m p) (hc : Prt.At H g3 0 c q) (h2 : H.get g2 = some (.row [.pointer (some ⟨g, o, none⟩)] e2 true))
    (hs1 : c.Small := by assumption) (hs : m.Small := by assumption) (hS : m.Shape) (hp : m.s.Part c.me) (hx : x < m.pa.length) :
    GCalls Try.prog 77 [.int .i64 (x : Int), .int .i64 (e : Int), .pointer (some ⟨g3, 0, none⟩), .pointer (some ⟨g2, 0, none⟩)] H (Ret (.bool (m.dirY c.me x e)) H) := by
  obtain ⟨s1, s2, s3, s4⟩ := hs
  obtain ⟨w1, w2⟩ := hs1
  have e1 := hp.pl
  have e4 := hS.fits.pl
  refine GCalls.body (N := 32) (rs := [.tmp 6]) Try.func77 rfl rfl rfl rfl (fun Qx hret hend => ?_)
  refine .forget (fr' := [(0, some _), (1, some _), (2, some _), (3, some _)]) ⟨rfl, rfl, rfl, rfl, trivial⟩ ?_
  have hle := GHeap.Le.refl H
  have base_hm' := hm'
  have base_hc := hc
  obtain ⟨fs, ft, c14, i2⟩ := hm'.get
  have hm : MemN _ _ _ _ _ := ⟨rfl, hm'.1⟩
  have hi := hm'.2
  have hms : MemN _ _ _ _ _ := ⟨rfl, fs.1⟩
  have his := fs.2
  have hmt : MemN _ _ _ _ _ := ⟨rfl, ft.1⟩
  have hit := ft.2
  have hmc : MemN _ _ _ _ _ := ⟨rfl, hc.1⟩
  have hic := hc.2
  have r5 := hc.get
  have k3 := r5.1
  have r6 := r5.2
  have k2 : GHeap.cell H g2 0 = some (.pointer (some ⟨g, o, none⟩)) := by rw [GHeap.cell_of h2]; rfl
  have r1 := i2.2 x (by omega)
  have r2 := s4 x
  have r3 := w2 x
  have r4 := hS.fits.pa x (by omega)
  have r4' := r4.1
  have r7 := allIn_iff.1 (hp.rs x (by omega)).2
  have r8 := hic.2 x (by omega)
  refine .seq (fun K1 hK1 => ?_)
  refine .region ?_
  refine .m rfl rfl rfl (.assign rfl) ?_
  refine .nil ?_
  refine hK1 _ _ ?_
  refine .seq (fun K2 hK2 => ?_)
  refine .seq (fun K3 hK3 => ?_)
  refine .region ?_
  refine .m rfl rfl rfl (.fieldAddr fo_34_0_VPrt rfl) ?_
  refine .m rfl rfl rfl (.load on_23_B rfl (by assumption)) ?_
  refine .m rfl rfl rfl (.move rfl) ?_
  refine .m rfl rfl rfl (.idxN sl_23_B (Intss.sl (by assumption)) rfl rfl (by omega)) ?_
  refine .m rfl rfl rfl (.loadR on_22_B (by assumption) rfl (by omega)) ?_
  refine .m rfl rfl rfl (.len sl_22_A rfl) ?_
  refine .m rfl rfl rfl (.move rfl) ?_
  refine .nil ?_
  refine hK3 _ _ ?_
  refine .block ?_
  refine .loopR (σ := Nat) [(0, some _), (1, some _), (3, some _), (13, some _), (14, some _)] (fun l => [(15, some (.int .i64 (l : Int)))]) (fun l H' => H = H' ∧ (l : Int) ≤ (c.me.getD x []).length ∧ ∀ j, j < l → ((m.pa.getD x []).getD ((c.me.getD x []).getD j 0).toNat 0 == (e : Int)) = false) (fun l => ((c.me.getD x []).length - l : Int).toNat) (0) ⟨rfl, rfl, rfl, rfl, rfl, trivial⟩ ⟨rfl, trivial⟩ ?_ ?_
  ·
   refine ⟨rfl, ?_⟩
   exact ⟨by omega, fun _ _ => by omega⟩
  ·
   rintro l _ ⟨rfl, hI⟩ KL1 hKL1
   refine .forget (fr' := [(15, some (.int .i64 (l : Int))), (0, some _), (1, some _), (3, some _), (13, some _), (14, some _)]) ⟨rfl, rfl, rfl, rfl, rfl, rfl, trivial⟩ ?_
   obtain ⟨hk1, ha1⟩ := hI
   refine .seq (fun K4 hK4 => ?_)
   refine .region ?_
   refine .m rfl rfl rfl (.cmp rfl rfl rfl) ?_
   refine .nil ?_
   refine hK4 _ _ ?_
   refine .seq (fun K5 hK5 => ?_)
   refine .cond rfl (fun h16 => ?_) (fun h16 => ?_)
   ·
    simp only [sps] at h16
    have r9 := r7 l (by omega)
    refine .skip ?_
    refine hK5 _ _ ?_
    refine .seq (fun K6 hK6 => ?_)
    refine .block ?_
    refine .seq (fun K7 hK7 => ?_)
    refine .region ?_
    refine .m rfl rfl rfl (.idxN sl_22_A (by assumption) rfl rfl (by omega)) ?_
    refine .m rfl rfl rfl (.loadI on_2_A (by assumption) rfl (by omega)) ?_
    refine .m rfl rfl rfl (.assign rfl) ?_
    refine .nil ?_
    refine hK7 _ _ ?_
    refine .seq (fun K8 hK8 => ?_)
    refine .region ?_
    refine .m rfl rfl rfl (.load on_83_Ug rfl (by assumption)) ?_
    refine .m rfl rfl rfl (.nilCheck rfl) ?_
    refine .m rfl rfl rfl (.fieldAddr fo_41_2_VSMap rfl) ?_
    refine .m rfl rfl rfl (.load on_23_B rfl (by assumption)) ?_
    refine .m rfl rfl rfl (.move rfl) ?_
    refine .m rfl rfl rfl (.idxN sl_23_B (Intss.sl (by assumption)) rfl rfl (by omega)) ?_
    refine .m rfl rfl rfl (.loadR on_22_B (by assumption) rfl (by omega)) ?_
    refine .m rfl rfl rfl (.move rfl) ?_
    refine .m rfl rfl rfl (.idx1 sl_22_A (by assumption) rfl rfl (by omega) (by omega)) ?_
    refine .m rfl rfl rfl (.loadI on_2_A (by assumption) rfl (by omega)) ?_
    refine .m rfl rfl rfl (.move rfl) ?_
    refine .m rfl rfl rfl (.cmp rfl rfl rfl) ?_
    refine .nil ?_
    refine hK8 _ _ ?_
    refine .cond rfl (fun h30 => ?_) (fun h30 => ?_)
    ·
     simp only [sps] at h30
     refine .seq (fun K9 hK9 => ?_)
     refine .region ?_
     refine .m rfl rfl rfl (.assign rfl) ?_
     refine .nil ?_
     refine hK9 _ _ ?_
     refine .ret ?_
     -- leaf e1
     refine hret _ _ ?_
     refine ⟨_, rfl, ?_⟩
     exact .of (congrArg _ (List.any_eq_true.2 ⟨_, getD_mem (i := l) (by omega), by simpa using h30⟩))
    ·
     simp only [sps] at h30
     refine .skip ?_
     refine hK6 _ _ ?_
     refine .region ?_
     refine .m rfl rfl rfl (.add rfl rfl rfl (by omega) (by omega)) ?_
     refine .m rfl rfl rfl (.move rfl) ?_
     refine .nil ?_
     refine hKL1 (l + 1) _ _ ?_ ?_ ⟨rfl, rfl, rfl, rfl, rfl, rfl, trivial⟩
     ·
      refine ⟨rfl, ?_⟩
      refine ⟨by omega, fun j hx => ?_⟩
      by_cases hltq : j < l
      · exact ha1 j hltq
      · obtain rfl : j = l := by omega
        simpa using h30
     ·
      omega
   ·
    try simp only [sps] at h16
    refine .exit ?_
    refine hK2 _ _ ?_
    refine .seq (fun K10 hK10 => ?_)
    refine .region ?_
    refine .m rfl rfl rfl (.assign rfl) ?_
    refine .nil ?_
    refine hK10 _ _ ?_
    refine .ret ?_
    -- leaf e2
    refine hret _ _ ?_
    refine ⟨_, rfl, ?_⟩
    exact .of (congrArg _ (List.any_eq_false.2 fun y hy => by obtain ⟨i, hi, rfl⟩ := mem_getD hy; have := ha1 i (by omega); simpa using this))
theorem direct_c {m : SMap} {p : SMapP} {c : Prt} {q : PrtP} {g o : Nat} {H : GHeap} (h : SMap.At H g o m p := by assumption) (hin : c.In H q := by assumption) (hs : m.Small := by assumption) (hs1 : c.Small := by assumption) (hS : m.Shape := by assumption) (hp : m.s.Part c.me := by assumption) :
    GCalls Try.prog 54 [.pointer (some ⟨g, o, none⟩), .agg (c.cells q).toArray] H (fun v H' => H.Le H' ∧ ∃ r, v = .agg ((m.t.pick (m.dirY c.me)).cells r).toArray ∧ PrtR H.next H' (m.t.pick (m.dirY c.me)) r) := by
  have hpl := hS.fits.pl
  have hs3 : m.t.sz.length ≤ 1048576 := hs.2.1.2.1
  have e3 : m.s.sz.length = m.t.sz.length := by
    have z1 := hS.s.1.zl
    have z2 := hS.t.1.zl
    rw [hS.sh] at z1
    omega
  refine GCalls.body (N := 10) (rs := [.cell 4 34]) Try.func54 rfl rfl rfl rfl (fun Qx hret hend => ?_)
  refine .forget (fr' := [(0, some _), (1, some _)]) ⟨rfl, rfl, trivial⟩ ?_
  have hle := GHeap.Le.refl H
  have base_h := h
  have base_hin := hin
  obtain ⟨fs, ft, c14, i2⟩ := h.get
  have hm : MemN _ _ _ _ _ := ⟨rfl, h.1⟩
  have hi := h.2
  have hms : MemN _ _ _ _ _ := ⟨rfl, fs.1⟩
  have his := fs.2
  have hmt : MemN _ _ _ _ _ := ⟨rfl, ft.1⟩
  have hit := ft.2
  refine .seq (fun K1 hK1 => ?_)
  refine .region ?_
  refine .r rfl rfl rfl (.boxR rfl sz_83_Ug rfl) ?_
  rintro _ H2 ⟨g2, rfl, le2, ge2, at2⟩
  have nx_H2 := le2.1
  replace hle := hle.trans le2
  have lt_at2 := GHeap.lt_of_get at2
  replace h := base_h.mono hle
  replace hin := base_hin.mono hle
  clear fs ft c14 i2 hm hi hms his hmt hit
  obtain ⟨fs, ft, c14, i2⟩ := h.get
  have hm : MemN _ _ _ _ _ := ⟨rfl, h.1⟩
  have hi := h.2
  have hms : MemN _ _ _ _ _ := ⟨rfl, fs.1⟩
  have his := fs.2
  have hmt : MemN _ _ _ _ _ := ⟨rfl, ft.1⟩
  have hit := ft.2
  refine .r rfl rfl rfl (.boxR rfl sz_34_VPrt rfl) ?_
  rintro _ H3 ⟨g3, rfl, le3, ge3, at3⟩
  have nx_H3 := le3.1
  replace hle := hle.trans le3
  replace at2 := le3.2 _ _ at2
  have lt_at3 := GHeap.lt_of_get at3
  replace h := base_h.mono hle
  replace hin := base_hin.mono hle
  clear fs ft c14 i2 hm hi hms his hmt hit
  obtain ⟨fs, ft, c14, i2⟩ := h.get
  have hm : MemN _ _ _ _ _ := ⟨rfl, h.1⟩
  have hi := h.2
  have hms : MemN _ _ _ _ _ := ⟨rfl, fs.1⟩
  have his := fs.2
  have hmt : MemN _ _ _ _ _ := ⟨rfl, ft.1⟩
  have hit := ft.2
  have hb3 : Prt.At _ g3 0 c q := ⟨Mem.of_get at3, hin⟩
  obtain ⟨c03, i03⟩ := hb3.get
  have hm3 : MemN _ _ _ _ _ := ⟨rfl, hb3.1⟩
  have hi3 := hb3.2
  refine .r rfl rfl rfl (.allocR rfl ze_34_VPrt rfl) ?_
  rintro _ H4 ⟨g4, rfl, le4, ge4, at4⟩
  have nx_H4 := le4.1
  replace hle := hle.trans le4
  replace at2 := le4.2 _ _ at2
  replace at3 := le4.2 _ _ at3
  have lt_at4 := GHeap.lt_of_get at4
  replace h := base_h.mono hle
  replace hin := base_hin.mono hle
  clear fs ft c14 i2 hm hi hms his hmt hit
  obtain ⟨fs, ft, c14, i2⟩ := h.get
  have hm : MemN _ _ _ _ _ := ⟨rfl, h.1⟩
  have hi := h.2
  have hms : MemN _ _ _ _ _ := ⟨rfl, fs.1⟩
  have his := fs.2
  have hmt : MemN _ _ _ _ _ := ⟨rfl, ft.1⟩
  have hit := ft.2
  clear hb3 c03 i03 hm3 hi3
  have hb3 : Prt.At _ g3 0 c q := ⟨Mem.of_get at3, hin⟩
  obtain ⟨c03, i03⟩ := hb3.get
  have hm3 : MemN _ _ _ _ _ := ⟨rfl, hb3.1⟩
  have hi3 := hb3.2
  refine .nil ?_
  refine hK1 _ _ ?_
  refine .seq (fun K2 hK2 => ?_)
  refine .region ?_
  have k2 : GHeap.cell H4 g2 0 = some (.pointer (some ⟨g, o, none⟩)) := by rw [GHeap.cell_of at2]; rfl
  refine .m rfl rfl rfl (.load on_83_Ug rfl (by assumption)) ?_
  refine .m rfl rfl rfl (.nilCheck rfl) ?_
  refine .m rfl rfl rfl (.fieldAddr fo_41_1_VSMap rfl) ?_
  refine .m rfl rfl rfl (.makeFunc rfl) ?_
  refine .call rfl rfl rfl rfl @Try.call66 rfl (partOf_c (Y := m.dirY c.me) ft (fun i hi => hS.t.1.sz i hi) (by omega) @Try.call77 (fun H' hle' x e hx he => direct1_c (h.mono hle') (hb3.mono hle') (hle'.2 _ _ at2) hs1 hs hS hp (by omega))) ?_
  rintro _ H9 ⟨le9, p9, rfl, v9⟩
  have nx_H9 := le9.1
  replace hle := hle.trans le9
  replace at2 := le9.2 _ _ at2
  replace at3 := le9.2 _ _ at3
  replace at4 := le9.2 _ _ at4
  have bs_v9 := v9
  have lv_v9 : Keep H4.next H9 H9 := fun _ _ _ h => h
  replace h := base_h.mono hle
  replace hin := base_hin.mono hle
  clear fs ft c14 i2 hm hi hms his hmt hit
  obtain ⟨fs, ft, c14, i2⟩ := h.get
  have hm : MemN _ _ _ _ _ := ⟨rfl, h.1⟩
  have hi := h.2
  have hms : MemN _ _ _ _ _ := ⟨rfl, fs.1⟩
  have his := fs.2
  have hmt : MemN _ _ _ _ _ := ⟨rfl, ft.1⟩
  have hit := ft.2
  clear hb3 c03 i03 hm3 hi3
  have hb3 : Prt.At _ g3 0 c q := ⟨Mem.of_get at3, hin⟩
  obtain ⟨c03, i03⟩ := hb3.get
  have hm3 : MemN _ _ _ _ _ := ⟨rfl, hb3.1⟩
  have hi3 := hb3.2
  have i9 := v9.inn
  refine .r0 rfl rfl (.fillR rfl sz_34_VPrt rfl rfl rfl rfl (by assumption) (by first | rfl | exact Nat.le_of_ble_eq_true rfl | simp)) ?_
  rintro _ H1005 ⟨rfl, st1005, at1005⟩
  have nx_H1005 := st1005.nx
  replace hle := hle.st st1005 (fun k hk => ⟨by omega, trivial⟩)
  replace at2 := st1005.same _ _ ⟨by omega, trivial⟩ at2
  replace at3 := st1005.same _ _ ⟨by omega, trivial⟩ at3
  replace lv_v9 := Keep.st lv_v9 st1005 (fun k hb hk => ⟨by omega, trivial⟩)
  replace v9 := bs_v9.keep lv_v9 (Nat.le_refl _)
  have lt_at1005 := GHeap.lt_of_get at1005
  replace h := base_h.mono hle
  replace hin := base_hin.mono hle
  clear fs ft c14 i2 hm hi hms his hmt hit
  obtain ⟨fs, ft, c14, i2⟩ := h.get
  have hm : MemN _ _ _ _ _ := ⟨rfl, h.1⟩
  have hi := h.2
  have hms : MemN _ _ _ _ _ := ⟨rfl, fs.1⟩
  have his := fs.2
  have hmt : MemN _ _ _ _ _ := ⟨rfl, ft.1⟩
  have hit := ft.2
  clear hb3 c03 i03 hm3 hi3
  have hb3 : Prt.At _ g3 0 c q := ⟨Mem.of_get at3, hin⟩
  obtain ⟨c03, i03⟩ := hb3.get
  have hm3 : MemN _ _ _ _ _ := ⟨rfl, hb3.1⟩
  have hi3 := hb3.2
  clear i9
  have i9 := v9.inn
  have mm1005 : MemN _ _ _ _ _ := ⟨rfl, Mem.of_get at1005⟩
  refine .nil ?_
  refine hK2 _ _ ?_
  refine .ret ?_
  -- leaf e1
  refine hret _ _ ?_
  refine ⟨_, _, _, _, rfl, ag_34_VPrt, (by rfl), (Mem.of_get at1005), ?_⟩
  exact ⟨hle, p9, rfl, v9.keep (.of_le (.refl _)) (by omega)⟩
theorem implDirectImage_c {m : SMap} {p : SMapP} {c : Prt} {q : PrtP} {H : GHeap} (hin : m.In H p := by assumption) (hin1 : c.In H q := by assumption) (hs : m.Small := by assumption) (hs1 : c.Small := by assumption) :
    GCalls Try.prog 27 [.agg (m.cells p).toArray, .agg (c.cells q).toArray] H (fun v H' => H.Le H' ∧ ∃ r, v = .tuple #[.agg ((m.dir c.me).cells r).toArray, .int .i64 (m.dirC c.me)] ∧ PrtR H.next H' (m.dir c.me) r) := by
  refine GCalls.body (N := 17) (rs := [.cell 4 34, .tmp 5]) Try.func27 rfl rfl rfl rfl (fun Qx hret hend => ?_)
  refine .forget (fr' := [(0, some _), (1, some _)]) ⟨rfl, rfl, trivial⟩ ?_
  have hle := GHeap.Le.refl H
  have base_hin := hin
  have base_hin1 := hin1
  refine .seq (fun K1 hK1 => ?_)
  refine .region ?_
  refine .r rfl rfl rfl (.boxR rfl sz_41_VSMap rfl) ?_
  rintro _ H2 ⟨g2, rfl, le2, ge2, at2⟩
  have nx_H2 := le2.1
  replace hle := hle.trans le2
  have lt_at2 := GHeap.lt_of_get at2
  replace hin := base_hin.mono hle
  replace hin1 := base_hin1.mono hle
  have hb2 : SMap.At _ g2 0 m p := ⟨Mem.of_get at2, hin⟩
  obtain ⟨fs2, ft2, c142, i22⟩ := hb2.get
  have hm2 : MemN _ _ _ _ _ := ⟨rfl, hb2.1⟩
  have hi2 := hb2.2
  have hms2 : MemN _ _ _ _ _ := ⟨rfl, fs2.1⟩
  have his2 := fs2.2
  have hmt2 : MemN _ _ _ _ _ := ⟨rfl, ft2.1⟩
  have hit2 := ft2.2
  refine .r rfl rfl rfl (.boxR rfl sz_34_VPrt rfl) ?_
  rintro _ H3 ⟨g3, rfl, le3, ge3, at3⟩
  have nx_H3 := le3.1
  replace hle := hle.trans le3
  replace at2 := le3.2 _ _ at2
  have lt_at3 := GHeap.lt_of_get at3
  replace hin := base_hin.mono hle
  replace hin1 := base_hin1.mono hle
  clear hb2 fs2 ft2 c142 i22 hm2 hi2 hms2 his2 hmt2 hit2
  have hb2 : SMap.At _ g2 0 m p := ⟨Mem.of_get at2, hin⟩
  obtain ⟨fs2, ft2, c142, i22⟩ := hb2.get
  have hm2 : MemN _ _ _ _ _ := ⟨rfl, hb2.1⟩
  have hi2 := hb2.2
  have hms2 : MemN _ _ _ _ _ := ⟨rfl, fs2.1⟩
  have his2 := fs2.2
  have hmt2 : MemN _ _ _ _ _ := ⟨rfl, ft2.1⟩
  have hit2 := ft2.2
  have hb3 : Prt.At _ g3 0 c q := ⟨Mem.of_get at3, hin1⟩
  obtain ⟨c03, i03⟩ := hb3.get
  have hm3 : MemN _ _ _ _ _ := ⟨rfl, hb3.1⟩
  have hi3 := hb3.2
  refine .r rfl rfl rfl (.allocR rfl ze_34_VPrt rfl) ?_
  rintro _ H4 ⟨g4, rfl, le4, ge4, at4⟩
  have nx_H4 := le4.1
  replace hle := hle.trans le4
  replace at2 := le4.2 _ _ at2
  replace at3 := le4.2 _ _ at3
  have lt_at4 := GHeap.lt_of_get at4
  replace hin := base_hin.mono hle
  replace hin1 := base_hin1.mono hle
  clear hb2 fs2 ft2 c142 i22 hm2 hi2 hms2 his2 hmt2 hit2
  have hb2 : SMap.At _ g2 0 m p := ⟨Mem.of_get at2, hin⟩
  obtain ⟨fs2, ft2, c142, i22⟩ := hb2.get
  have hm2 : MemN _ _ _ _ _ := ⟨rfl, hb2.1⟩
  have hi2 := hb2.2
  have hms2 : MemN _ _ _ _ _ := ⟨rfl, fs2.1⟩
  have his2 := fs2.2
  have hmt2 : MemN _ _ _ _ _ := ⟨rfl, ft2.1⟩
  have hit2 := ft2.2
  clear hb3 c03 i03 hm3 hi3
  have hb3 : Prt.At _ g3 0 c q := ⟨Mem.of_get at3, hin1⟩
  obtain ⟨c03, i03⟩ := hb3.get
  have hm3 : MemN _ _ _ _ _ := ⟨rfl, hb3.1⟩
  have hi3 := hb3.2
  refine .m rfl rfl rfl (.assign rfl) ?_
  refine .nil ?_
  refine hK1 _ _ ?_
  refine .seq (fun K2 hK2 => ?_)
  refine .seq (fun K3 hK3 => ?_)
  refine .region ?_
  refine .callQ rfl rfl rfl rfl @Try.call33 rfl (smNatural_c) ?_
  refine .m rfl rfl rfl (.not rfl) ?_
  refine .m rfl rfl rfl (.move rfl) ?_
  refine .split (fun h8 => ?_) (fun h8 => ?_)
  ·
   try simp only [sps] at h8
   refine .sg rfl rfl rfl rfl rfl ?_
   refine .sg rfl rfl rfl rfl rfl ?_
   refine .sg rfl rfl rfl rfl rfl ?_
   refine .sg rfl rfl rfl rfl rfl ?_
   refine .m rfl rfl rfl (.pickT rfl rfl) ?_
   refine .nil ?_
   refine hK3 _ _ ?_
   refine .condT rfl ?_
   refine .seq (fun K4 hK4 => ?_)
   refine .region ?_
   refine .m rfl rfl rfl (.build bt_34_Uc rfl rfl rfl) ?_
   refine .r0 rfl rfl (.fillR rfl sz_34_VPrt rfl rfl rfl rfl (by assumption) (by first | rfl | exact Nat.le_of_ble_eq_true rfl | simp)) ?_
   rintro _ H2001 ⟨rfl, st2001, at2001⟩
   have nx_H2001 := st2001.nx
   replace hle := hle.st st2001 (fun k hk => ⟨by omega, trivial⟩)
   replace at2 := st2001.same _ _ ⟨by omega, trivial⟩ at2
   replace at3 := st2001.same _ _ ⟨by omega, trivial⟩ at3
   have lt_at2001 := GHeap.lt_of_get at2001
   replace hin := base_hin.mono hle
   replace hin1 := base_hin1.mono hle
   clear hb2 fs2 ft2 c142 i22 hm2 hi2 hms2 his2 hmt2 hit2
   have hb2 : SMap.At _ g2 0 m p := ⟨Mem.of_get at2, hin⟩
   obtain ⟨fs2, ft2, c142, i22⟩ := hb2.get
   have hm2 : MemN _ _ _ _ _ := ⟨rfl, hb2.1⟩
   have hi2 := hb2.2
   have hms2 : MemN _ _ _ _ _ := ⟨rfl, fs2.1⟩
   have his2 := fs2.2
   have hmt2 : MemN _ _ _ _ _ := ⟨rfl, ft2.1⟩
   have hit2 := ft2.2
   clear hb3 c03 i03 hm3 hi3
   have hb3 : Prt.At _ g3 0 c q := ⟨Mem.of_get at3, hin1⟩
   obtain ⟨c03, i03⟩ := hb3.get
   have hm3 : MemN _ _ _ _ _ := ⟨rfl, hb3.1⟩
   have hi3 := hb3.2
   have mm2001 : MemN _ _ _ _ _ := ⟨rfl, Mem.of_get at2001⟩
   refine .m rfl rfl rfl (.assign rfl) ?_
   refine .nil ?_
   refine hK4 _ _ ?_
   refine .ret ?_
   -- leaf e1
   refine hret _ _ ?_
   refine ⟨_, _, _, _, _, rfl, ag_34_VPrt, (by rfl), (Mem.of_get at2001), rfl, ?_⟩
   obtain ⟨e1, e2⟩ := SMap.dir_not (m := m) (p := c.me) fun hh => h8 hh.1
   rw [e1, e2]
   exact ⟨hle, ⟨none, fun _ => none⟩, rfl, .nil _ _ _⟩
  ·
   simp only [sps] at h8
   have hS := h8.1
   have hT := h8.1.s
   refine .mg rfl rfl rfl rfl rfl (.fieldAddr fo_41_0_VSMap rfl) ?_
   refine .mg rfl rfl rfl rfl rfl (.loadM ag_34_VPrt rfl ⟨rfl, Mem.of_get at3⟩) ?_
   refine .callQg rfl rfl rfl rfl rfl rfl @Try.call34 rfl (isPart_c) ?_
   refine .mg rfl rfl rfl rfl rfl (.not rfl) ?_
   refine .m rfl rfl rfl (.pickF rfl rfl) ?_
   refine .nil ?_
   refine hK3 _ _ ?_
   refine .cond rfl (fun h13 => ?_) (fun h13 => ?_)
   ·
    try simp only [sps] at h13
    refine .seq (fun K5 hK5 => ?_)
    refine .region ?_
    refine .m rfl rfl rfl (.build bt_34_Uc rfl rfl rfl) ?_
    refine .r0 rfl rfl (.fillR rfl sz_34_VPrt rfl rfl rfl rfl (by assumption) (by first | rfl | exact Nat.le_of_ble_eq_true rfl | simp)) ?_
    rintro _ H2001x2 ⟨rfl, st2001x2, at2001x2⟩
    have nx_H2001x2 := st2001x2.nx
    replace hle := hle.st st2001x2 (fun k hk => ⟨by omega, trivial⟩)
    replace at2 := st2001x2.same _ _ ⟨by omega, trivial⟩ at2
    replace at3 := st2001x2.same _ _ ⟨by omega, trivial⟩ at3
    have lt_at2001x2 := GHeap.lt_of_get at2001x2
    replace hin := base_hin.mono hle
    replace hin1 := base_hin1.mono hle
    clear hb2 fs2 ft2 c142 i22 hm2 hi2 hms2 his2 hmt2 hit2
    have hb2 : SMap.At _ g2 0 m p := ⟨Mem.of_get at2, hin⟩
    obtain ⟨fs2, ft2, c142, i22⟩ := hb2.get
    have hm2 : MemN _ _ _ _ _ := ⟨rfl, hb2.1⟩
    have hi2 := hb2.2
    have hms2 : MemN _ _ _ _ _ := ⟨rfl, fs2.1⟩
    have his2 := fs2.2
    have hmt2 : MemN _ _ _ _ _ := ⟨rfl, ft2.1⟩
    have hit2 := ft2.2
    clear hb3 c03 i03 hm3 hi3
    have hb3 : Prt.At _ g3 0 c q := ⟨Mem.of_get at3, hin1⟩
    obtain ⟨c03, i03⟩ := hb3.get
    have hm3 : MemN _ _ _ _ _ := ⟨rfl, hb3.1⟩
    have hi3 := hb3.2
    have mm2001x2 : MemN _ _ _ _ _ := ⟨rfl, Mem.of_get at2001x2⟩
    refine .m rfl rfl rfl (.assign rfl) ?_
    refine .nil ?_
    refine hK5 _ _ ?_
    refine .ret ?_
    -- leaf e2
    refine hret _ _ ?_
    refine ⟨_, _, _, _, _, rfl, ag_34_VPrt, (by rfl), (Mem.of_get at2001x2), rfl, ?_⟩
    obtain ⟨e1, e2⟩ := SMap.dir_not (m := m) (p := c.me) fun hh => h13 hh.2
    rw [e1, e2]
    exact ⟨hle, ⟨none, fun _ => none⟩, rfl, .nil _ _ _⟩
   ·
    simp only [sps] at h13
    refine .skip ?_
    refine hK2 _ _ ?_
    refine .seq (fun K6 hK6 => ?_)
    refine .region ?_
    refine .m rfl rfl rfl (.loadM ag_34_VPrt rfl ⟨rfl, Mem.of_get at3⟩) ?_
    refine .call rfl rfl rfl rfl @Try.call54 rfl (direct_c) ?_
    rintro _ H16 ⟨le16, p16, rfl, v16⟩
    have nx_H16 := le16.1
    replace hle := hle.trans le16
    replace at2 := le16.2 _ _ at2
    replace at3 := le16.2 _ _ at3
    replace at4 := le16.2 _ _ at4
    have bs_v16 := v16
    have lv_v16 : Keep H4.next H16 H16 := fun _ _ _ h => h
    replace hin := base_hin.mono hle
    replace hin1 := base_hin1.mono hle
    clear hb2 fs2 ft2 c142 i22 hm2 hi2 hms2 his2 hmt2 hit2
    have hb2 : SMap.At _ g2 0 m p := ⟨Mem.of_get at2, hin⟩
    obtain ⟨fs2, ft2, c142, i22⟩ := hb2.get
    have hm2 : MemN _ _ _ _ _ := ⟨rfl, hb2.1⟩
    have hi2 := hb2.2
    have hms2 : MemN _ _ _ _ _ := ⟨rfl, fs2.1⟩
    have his2 := fs2.2
    have hmt2 : MemN _ _ _ _ _ := ⟨rfl, ft2.1⟩
    have hit2 := ft2.2
    clear hb3 c03 i03 hm3 hi3
    have hb3 : Prt.At _ g3 0 c q := ⟨Mem.of_get at3, hin1⟩
    obtain ⟨c03, i03⟩ := hb3.get
    have hm3 : MemN _ _ _ _ _ := ⟨rfl, hb3.1⟩
    have hi3 := hb3.2
    have i16 := v16.inn
    refine .r0 rfl rfl (.fillR rfl sz_34_VPrt rfl rfl rfl rfl (by assumption) (by first | rfl | exact Nat.le_of_ble_eq_true rfl | simp)) ?_
    rintro _ H3002 ⟨rfl, st3002, at3002⟩
    have nx_H3002 := st3002.nx
    replace hle := hle.st st3002 (fun k hk => ⟨by omega, trivial⟩)
    replace at2 := st3002.same _ _ ⟨by omega, trivial⟩ at2
    replace at3 := st3002.same _ _ ⟨by omega, trivial⟩ at3
    replace lv_v16 := Keep.st lv_v16 st3002 (fun k hb hk => ⟨by omega, trivial⟩)
    replace v16 := bs_v16.keep lv_v16 (Nat.le_refl _)
    have lt_at3002 := GHeap.lt_of_get at3002
    replace hin := base_hin.mono hle
    replace hin1 := base_hin1.mono hle
    clear hb2 fs2 ft2 c142 i22 hm2 hi2 hms2 his2 hmt2 hit2
    have hb2 : SMap.At _ g2 0 m p := ⟨Mem.of_get at2, hin⟩
    obtain ⟨fs2, ft2, c142, i22⟩ := hb2.get
    have hm2 : MemN _ _ _ _ _ := ⟨rfl, hb2.1⟩
    have hi2 := hb2.2
    have hms2 : MemN _ _ _ _ _ := ⟨rfl, fs2.1⟩
    have his2 := fs2.2
    have hmt2 : MemN _ _ _ _ _ := ⟨rfl, ft2.1⟩
    have hit2 := ft2.2
    clear hb3 c03 i03 hm3 hi3
    have hb3 : Prt.At _ g3 0 c q := ⟨Mem.of_get at3, hin1⟩
    obtain ⟨c03, i03⟩ := hb3.get
    have hm3 : MemN _ _ _ _ _ := ⟨rfl, hb3.1⟩
    have hi3 := hb3.2
    clear i16
    have i16 := v16.inn
    have mm3002 : MemN _ _ _ _ _ := ⟨rfl, Mem.of_get at3002⟩
    refine .m rfl rfl rfl (.assign rfl) ?_
    refine .nil ?_
    refine hK6 _ _ ?_
    refine .ret ?_
    -- leaf e3
    refine hret _ _ ?_
    refine ⟨_, _, _, _, _, rfl, ag_34_VPrt, (by rfl), (Mem.of_get at3002), rfl, ?_⟩
    obtain ⟨e1, e2⟩ := SMap.dir_ok (m := m) (p := c.me) ⟨h8, h13⟩
    rw [e1, e2]
    exact ⟨hle, p16, rfl, v16.keep (.of_le (.refl _)) (by omega)⟩
end Go.Proofs.Ytbpehbbdodahaaa
