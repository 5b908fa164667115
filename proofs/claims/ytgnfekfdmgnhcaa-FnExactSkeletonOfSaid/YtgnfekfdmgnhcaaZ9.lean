/- Isomorphism classes of objects, and what lies between objects. No condition but those of each statement. -/
import Derived.Test.YtgnfekfdmgnhcaaZ8
namespace Go.Proofs.Ytgnfekfdmgnhcaa
open Go Go.GL Go.RowKit Go.Proofs
set_option maxHeartbeats 4000000 in
theorem l11Classes_c {c : Cat} {p : CatP} {H : GHeap} (hin : c.In H p := by assumption) (hS : c.Shape := by assumption) :
    GCalls Try.prog 144 [.agg (c.cells p).toArray] H (NewInts 2 H c.skP) := by
  have b1 := hS.obj
  refine GCalls.body (N := 32) (rs := [.tmp 2]) Try.func144 rfl rfl rfl rfl (fun Qx hret hend => ?_)
  refine .forget (fr' := [(0, some _)]) ⟨rfl, trivial⟩ ?_
  have hle := GHeap.Le.refl H
  have base_hin := hin
  refine .seq (fun K1 hK1 => ?_)
  refine .region ?_
  refine .r rfl rfl rfl (.boxR rfl sz_27_D rfl) ?_
  rintro _ H1 ⟨g1, rfl, le1, ge1, at1⟩
  have nx_H1 := le1.1
  replace hle := hle.trans le1
  have lt_at1 := GHeap.lt_of_get at1
  replace hin := base_hin.mono hle
  have hb1 : Cat.At _ g1 0 c p := ⟨Mem.of_get at1, hin⟩
  obtain ⟨c01, c11, c21, c31, c41, i11, i21, i31, i41⟩ := hb1.get
  have hm1 : MemN _ _ _ _ _ := ⟨rfl, hb1.1⟩
  have hi1 := hb1.2
  refine .m rfl rfl rfl (.assign rfl) (.nil ?_)
  refine hK1 _ _ ?_
  refine .seq (fun K2 hK2 => ?_)
  refine .region ?_
  refine .r rfl rfl rfl (.litR rfl sl_23_B ze_22_E rfl rfl (by omega) (by omega) rfl rfl) ?_
  rintro _ H6 ⟨g6, rfl, le6, ge6, at6⟩
  have nx_H6 := le6.1
  replace hle := hle.trans le6
  replace at1 := le6.2 _ _ at1
  have lt_at6 := GHeap.lt_of_get at6
  replace hin := base_hin.mono hle
  clear hb1 c01 c11 c21 c31 c41 i11 i21 i31 i41 hm1 hi1
  have hb1 : Cat.At _ g1 0 c p := ⟨Mem.of_get at1, hin⟩
  obtain ⟨c01, c11, c21, c31, c41, i11, i21, i31, i41⟩ := hb1.get
  have hm1 : MemN _ _ _ _ _ := ⟨rfl, hb1.1⟩
  have hi1 := hb1.2
  refine .m rfl rfl rfl (.assign rfl) (.nil ?_)
  refine hK2 _ _ ?_
  refine .seq (fun K3 hK3 => ?_)
  refine .seq (fun K4 hK4 => ?_)
  refine .region (.m rfl rfl rfl (.assign rfl) (.nil ?_))
  refine hK4 _ _ ?_
  refine .block ?_
  have hz0 : (slsL (fun _ => none) (c.skS 0 0)).length = 0 := by rw [Cat.skS_zero]; rfl
  refine .loopR (σ := Nat × (Nat → Option Addr) × Nat × Nat) [(1, some _)] (fun (k, rr, gL3, nL3) => [(4, some (.int .i64 (k : Int))), (3, some (.slice (some ⟨gL3, 0, none⟩) nL3 nL3))]) (fun (k, rr, gL3, nL3) H' => St [g6] H6 H' ∧ H'.get gL3 = some (.row ((slsL rr (c.skS k 0))) 22 true) ∧ (gL3 = g6 ∨ H6.next ≤ gL3) ∧ nL3 = (slsL rr (c.skS k 0)).length ∧ k ≤ c.obj.toNat ∧ OwnL H.next H' 2 rr (c.skS k 0)) (fun (k, rr, gL3, nL3) => c.obj.toNat - k) ((0, fun _ => none, _, _)) ⟨rfl, trivial⟩ ⟨rfl, rfl, trivial⟩ ?_ ?_
  ·
   refine ⟨.refl _ _, by (rw [Cat.skS_zero]; first | exact at6 | simpa [slsL] using at6), .inl rfl, by first | rfl | assumption | simp | omega, ?_⟩
   rw [Cat.skS_zero]
   exact ⟨by omega, .nil _ _ _ _⟩
  rintro ⟨k, rr, gL3, nL3⟩ HL1 ⟨lst1, at_L3, pl_L3, ln_L3, hI⟩ KL1 hKL1
  refine .forget (fr' := [(4, some (.int .i64 (k : Int))), (3, some (.slice (some ⟨gL3, 0, none⟩) nL3 nL3)), (1, some _)]) ⟨rfl, rfl, rfl, trivial⟩ ?_
  have ge_L3 : H.next ≤ gL3 := by omega
  have nx_HL1 := lst1.nx
  replace hle := hle.st lst1 (fun k hk => ⟨by omega, trivial⟩)
  have ne_g1_g6 : g1 ≠ g6 := by omega
  replace at1 := lst1.same _ _ ⟨ne_g1_g6, trivial⟩ at1
  have lt_at_L3 := GHeap.lt_of_get at_L3
  replace hin := base_hin.mono hle
  clear hb1 c01 c11 c21 c31 c41 i11 i21 i31 i41 hm1 hi1
  have hb1 : Cat.At _ g1 0 c p := ⟨Mem.of_get at1, hin⟩
  obtain ⟨c01, c11, c21, c31, c41, i11, i21, i31, i41⟩ := hb1.get
  have hm1 : MemN _ _ _ _ _ := ⟨rfl, hb1.1⟩
  have hi1 := hb1.2
  obtain ⟨hk, hR⟩ := hI
  refine .seq (fun K5 hK5 => ?_)
  refine .seq (fun K6 hK6 => ?_)
  refine .region (.m rfl rfl rfl (.move rfl) (.m rfl rfl rfl (.fieldAddr fo_27_0_B rfl) ?_))
  refine .m rfl rfl rfl (.load on_2_A rfl (by first | assumption | exact Mem.of_get at1 0 _ rfl)) ?_
  refine .m rfl rfl rfl (.cmp rfl rfl rfl) (.nil ?_)
  refine hK6 _ _ ?_
  refine .cond rfl (fun h10 => ?_) (fun h10 => ?_)
  ·
   simp only [sps] at h10
   refine .skip ?_
   refine hK5 _ _ ?_
   refine .seq (fun K7 hK7 => ?_)
   refine .block ?_
   refine .seq (fun K8 hK8 => ?_)
   refine .region (.m rfl rfl rfl (.assign rfl) (.nil ?_))
   refine hK8 _ _ ?_
   refine .block ?_
   refine .loopR (σ := Nat × (Nat → Option Addr) × Nat × Nat) [(1, some _), (4, some _)] (fun (t, r2, gL3v2, nL3v2) => [(5, some (.int .i64 (t : Int))), (3, some (.slice (some ⟨gL3v2, 0, none⟩) nL3v2 nL3v2))]) (fun (t, r2, gL3v2, nL3v2) H' => St [gL3] HL1 H' ∧ H'.get gL3v2 = some (.row ((slsL r2 (c.skS k t))) 22 true) ∧ (gL3v2 = gL3 ∨ HL1.next ≤ gL3v2) ∧ nL3v2 = (slsL r2 (c.skS k t)).length ∧ t ≤ k ∧ OwnL H.next H' 2 r2 (c.skS k t)) (fun (t, r2, gL3v2, nL3v2) => k - t) ((0, rr, _, _)) ⟨rfl, rfl, trivial⟩ ⟨rfl, rfl, trivial⟩ ?_ ?_
   ·
    refine ⟨.refl _ _, by first | assumption | exact at_L3 | simpa using at_L3, .inl rfl, by first | rfl | assumption | simp | omega, ?_⟩
    exact ⟨by omega, hR⟩
   rintro ⟨t, r2, gL3v2, nL3v2⟩ HL2 ⟨lst2, at_L3v2, pl_L3v2, ln_L3v2, hI⟩ KL2 hKL2
   refine .forget (fr' := [(5, some (.int .i64 (t : Int))), (3, some (.slice (some ⟨gL3v2, 0, none⟩) nL3v2 nL3v2)), (1, some _), (4, some _)]) ⟨rfl, rfl, rfl, rfl, trivial⟩ ?_
   have ge_L3v2 : H.next ≤ gL3v2 := by omega
   have nx_HL2 := lst2.nx
   replace hle := hle.st lst2 (fun k hk => ⟨by omega, trivial⟩)
   replace lst1 := lst1.st lst2 (fun k hk ho => by simp only [out, and_true] at ho ⊢ <;> first | exact ho | exact ho.1 | exact ho.2 | exact ho.2.1 | exact ho.2.2 | exact ho.2.2.1 | exact ho.2.2.2 | omega)
   have ne_g1_gL3 : g1 ≠ gL3 := by omega
   replace at1 := lst2.same _ _ ⟨ne_g1_gL3, trivial⟩ at1
   have lt_at_L3v2 := GHeap.lt_of_get at_L3v2
   replace hin := base_hin.mono hle
   clear hb1 c01 c11 c21 c31 c41 i11 i21 i31 i41 hm1 hi1
   have hb1 : Cat.At _ g1 0 c p := ⟨Mem.of_get at1, hin⟩
   obtain ⟨c01, c11, c21, c31, c41, i11, i21, i31, i41⟩ := hb1.get
   have hm1 : MemN _ _ _ _ _ := ⟨rfl, hb1.1⟩
   have hi1 := hb1.2
   have rk := St.refl [gL3v2] HL2
   obtain ⟨ht, hR⟩ := hI
   have hat3 := at_L3v2
   have hln := c.skS_len (N := 8) (k := k) (t := t) (by omega) (by omega)
   have hfl : (slsL r2 (c.skS k t)).length = (c.skS k t).length := length_slsL _ _
   refine .seq (fun K9 hK9 => ?_)
   refine .seq (fun K10 hK10 => ?_)
   refine .region (.m rfl rfl rfl (.move rfl) (.m rfl rfl rfl (.move rfl) (.m rfl rfl rfl (.cmp rfl rfl rfl) ?_)))
   refine .nil ?_
   refine hK10 _ _ ?_
   refine .cond rfl (fun h15 => ?_) (fun h15 => ?_)
   ·
    simp only [sps] at h15
    refine .skip ?_
    refine hK9 _ _ ?_
    refine .seq (fun K11 hK11 => ?_)
    refine .block ?_
    refine .seq (fun K12 hK12 => ?_)
    refine .region ?_
    refine .m rfl rfl rfl (.loadM ag_27_D rfl ⟨rfl, Mem.of_get at1⟩) ?_
    refine .m rfl rfl rfl (.move rfl) (.m rfl rfl rfl (.move rfl) ?_)
    refine .callQ rfl rfl rfl rfl @Try.call162 rfl (l06Alike_c) ?_
    refine .nil ?_
    refine hK12 _ _ ?_
    refine .cond rfl (fun h21 => ?_) (fun h21 => ?_)
    ·
     simp only [sps] at h21
     refine .region (.m rfl rfl rfl (.move rfl) (.m rfl rfl rfl (.move rfl) (.m rfl rfl rfl (.move rfl) ?_)))
     refine .r rfl rfl rfl (.litR rfl sl_22_A ze_2_E rfl rfl (by omega) (by omega) rfl rfl) ?_
     rintro _ H25 ⟨g25, rfl, le25, ge25, at25⟩
     have nx_H25 := le25.1
     replace hle := hle.trans le25
     replace lst1 := lst1.le le25
     replace lst2 := lst2.le le25
     replace rk := rk.le le25
     replace at1 := le25.2 _ _ at1
     replace at_L3v2 := le25.2 _ _ at_L3v2
     have lt_at25 := GHeap.lt_of_get at25
     replace hin := base_hin.mono hle
     clear hb1 c01 c11 c21 c31 c41 i11 i21 i31 i41 hm1 hi1
     have hb1 : Cat.At _ g1 0 c p := ⟨Mem.of_get at1, hin⟩
     obtain ⟨c01, c11, c21, c31, c41, i11, i21, i31, i41⟩ := hb1.get
     have hm1 : MemN _ _ _ _ _ := ⟨rfl, hb1.1⟩
     have hi1 := hb1.2
     refine .r rfl rfl rfl (.litR rfl sl_23_B ze_22_E rfl rfl (by omega) (by omega) rfl rfl) ?_
     rintro _ H26 ⟨g26, rfl, le26, ge26, at26⟩
     have nx_H26 := le26.1
     replace hle := hle.trans le26
     replace lst1 := lst1.le le26
     replace lst2 := lst2.le le26
     replace rk := rk.le le26
     replace at1 := le26.2 _ _ at1
     replace at_L3v2 := le26.2 _ _ at_L3v2
     replace at25 := le26.2 _ _ at25
     have lt_at26 := GHeap.lt_of_get at26
     replace hin := base_hin.mono hle
     clear hb1 c01 c11 c21 c31 c41 i11 i21 i31 i41 hm1 hi1
     have hb1 : Cat.At _ g1 0 c p := ⟨Mem.of_get at1, hin⟩
     obtain ⟨c01, c11, c21, c31, c41, i11, i21, i31, i41⟩ := hb1.get
     have hm1 : MemN _ _ _ _ _ := ⟨rfl, hb1.1⟩
     have hi1 := hb1.2
     refine .r rfl rfl rfl (.appendV rfl sl_23_B ze_22_E rfl by_22_E sl_23_B rfl rfl (by assumption) (by assumption) (by first | omega | (simp <;> omega)) rfl rfl (by omega) (by omega)) ?_
     rintro _ H27 ⟨g27, rfl, st27, ge27, at27⟩
     have nx_H27 := st27.nx
     replace hle := hle.st st27 (fun k hk => ⟨by omega, trivial⟩)
     replace lst1 := lst1.st st27 (fun k hk ho => by simp only [out, and_true] at ho ⊢ <;> first | exact ho | exact ho.1 | exact ho.2 | exact ho.2.1 | exact ho.2.2 | exact ho.2.2.1 | exact ho.2.2.2 | omega)
     replace lst2 := lst2.st st27 (fun k hk ho => by simp only [out, and_true] at ho ⊢ <;> first | exact ho | exact ho.1 | exact ho.2 | exact ho.2.1 | exact ho.2.2 | exact ho.2.2.1 | exact ho.2.2.2 | omega)
     replace rk := rk.st st27 (fun k hk ho => by simp only [out, and_true] at ho ⊢ <;> first | exact ho | exact ho.1 | exact ho.2 | exact ho.2.1 | exact ho.2.2 | exact ho.2.2.1 | exact ho.2.2.2 | omega)
     have ne_g1_gL3v2 : g1 ≠ gL3v2 := by omega
     replace at1 := st27.same _ _ ⟨ne_g1_gL3v2, trivial⟩ at1
     have ne_g25_gL3v2 : g25 ≠ gL3v2 := by omega
     replace at25 := st27.same _ _ ⟨ne_g25_gL3v2, trivial⟩ at25
     have ne_g26_gL3v2 : g26 ≠ gL3v2 := by omega
     replace at26 := st27.same _ _ ⟨ne_g26_gL3v2, trivial⟩ at26
     have lt_at27 := GHeap.lt_of_get at27
     replace hin := base_hin.mono hle
     clear hb1 c01 c11 c21 c31 c41 i11 i21 i31 i41 hm1 hi1
     have hb1 : Cat.At _ g1 0 c p := ⟨Mem.of_get at1, hin⟩
     obtain ⟨c01, c11, c21, c31, c41, i11, i21, i31, i41⟩ := hb1.get
     have hm1 : MemN _ _ _ _ _ := ⟨rfl, hb1.1⟩
     have hi1 := hb1.2
     refine .m rfl rfl rfl (.assign rfl) (.nil ?_)
     refine hK11 _ _ ?_
     refine .region (.m rfl rfl rfl (.move rfl) ?_)
     refine .m rfl rfl rfl (.add rfl rfl rfl (by omega) (by omega)) ?_
     refine .m rfl rfl rfl (.assign rfl) (.nil ?_)
     refine hKL2 ((t + 1, by first | exact (upd r2 (c.skS k t).length (some ⟨g25, 0, none⟩)) | exact r2, _, _)) _ _ ?_ ?_ ⟨rfl, rfl, rfl, rfl, trivial⟩
     ·
      refine ⟨lst2, by first | assumption | (rw [c.skS_T h21, slsL_snoc]; assumption) | (rw [c.skS_F h21]; assumption), by omega, by first | omega | (simp only [List.length_append, List.length_cons, List.length_nil] <;> omega) | (rw [c.skS_T h21, slsL_snoc] <;> (first | omega | (simp only [List.length_append, List.length_cons, List.length_nil] <;> omega))) | (rw [c.skS_F h21] <;> (first | omega | (simp only [List.length_append, List.length_cons, List.length_nil] <;> omega))), ?_⟩
      exact ⟨by omega, by first | (rw [c.skS_T h21]; exact hR.snoc (rk.lasts1 hat3 rfl) (by assumption) (by omega) (by omega)) | (rw [c.skS_F h21]; exact hR)⟩
     (dsimp only; omega)
    simp only [sps] at h21
    refine .skip ?_
    refine hK11 _ _ ?_
    refine .region (.m rfl rfl rfl (.move rfl) ?_)
    refine .m rfl rfl rfl (.add rfl rfl rfl (by omega) (by omega)) ?_
    refine .m rfl rfl rfl (.assign rfl) (.nil ?_)
    refine hKL2 ((t + 1, by first | exact (upd r2 (c.skS k t).length (some ⟨g25, 0, none⟩)) | exact r2, _, _)) _ _ ?_ ?_ ⟨rfl, rfl, rfl, rfl, trivial⟩
    ·
     refine ⟨lst2, by first | assumption | (rw [c.skS_T h21, slsL_snoc]; assumption) | (rw [c.skS_F h21]; assumption), by omega, by first | omega | (simp only [List.length_append, List.length_cons, List.length_nil] <;> omega) | (rw [c.skS_T h21, slsL_snoc] <;> (first | omega | (simp only [List.length_append, List.length_cons, List.length_nil] <;> omega))) | (rw [c.skS_F h21] <;> (first | omega | (simp only [List.length_append, List.length_cons, List.length_nil] <;> omega))), ?_⟩
     exact ⟨by omega, by first | (rw [c.skS_T h21]; exact hR.snoc (rk.lasts1 hat3 rfl) (by assumption) (by omega) (by omega)) | (rw [c.skS_F h21]; exact hR)⟩
    (dsimp only; omega)
   try simp only [sps] at h15
   refine .exit ?_
   refine hK7 _ _ ?_
   refine .region (.m rfl rfl rfl (.move rfl) ?_)
   refine .m rfl rfl rfl (.add rfl rfl rfl (by omega) (by omega)) ?_
   refine .m rfl rfl rfl (.assign rfl) (.nil ?_)
   obtain rfl : k = t := by omega
   refine hKL1 ((k + 1, r2, _, _)) _ _ ?_ ?_ ⟨rfl, rfl, rfl, trivial⟩
   ·
    refine ⟨lst1, by first | assumption | (rw [c.skS_next]; assumption), by omega, by first | omega | (simp only [List.length_append, List.length_cons, List.length_nil] <;> omega) | (rw [c.skS_next] <;> (first | omega | (simp only [List.length_append, List.length_cons, List.length_nil] <;> omega))), ?_⟩
    exact ⟨by omega, by rw [c.skS_next]; exact hR⟩
   (dsimp only; omega)
  try simp only [sps] at h10
  refine .exit ?_
  refine hK3 _ _ ?_
  refine .seq (fun K13 hK13 => ?_)
  refine .region (.m rfl rfl rfl (.fieldAddr fo_27_0_B rfl) ?_)
  refine .m rfl rfl rfl (.load on_2_A rfl (by first | assumption | exact Mem.of_get at1 0 _ rfl)) ?_
  obtain rfl : k = c.obj.toNat := by omega
  have hiss := hR.intss at_L3 ge_L3
  have hln := c.skS_len (N := 8) (k := c.obj.toNat) (t := 0) (by omega) (by omega)
  have hfl : (slsL rr (c.skS c.obj.toNat 0)).length = (c.skS c.obj.toNat 0).length := length_slsL _ _
  refine .m rfl rfl rfl (.move rfl) ?_
  refine .call rfl rfl rfl rfl @Try.call89 rfl ((l01JoinM_c (n := c.obj.toNat) (cs := c.skP) (Cat.sk_same hS) (by omega) (by omega) hiss (by omega) (by omega) (fun i hi => by obtain ⟨x, y, hx, hy, _, e⟩ := Cat.mem_skS.1 (getD_mem_list (d := []) hi); rw [e]; simp; omega))) ?_
  rintro _ H31 ⟨le31, g31, rfl, at31, ge31⟩
  have nx_H31 := le31.1
  replace hle := hle.trans le31
  replace lst1 := lst1.le le31
  replace at1 := le31.2 _ _ at1
  replace at_L3 := le31.2 _ _ at_L3
  have lt_at31 := GHeap.lt_of_get at31
  replace hin := base_hin.mono hle
  clear hb1 c01 c11 c21 c31 c41 i11 i21 i31 i41 hm1 hi1
  have hb1 : Cat.At _ g1 0 c p := ⟨Mem.of_get at1, hin⟩
  obtain ⟨c01, c11, c21, c31, c41, i11, i21, i31, i41⟩ := hb1.get
  have hm1 : MemN _ _ _ _ _ := ⟨rfl, hb1.1⟩
  have hi1 := hb1.2
  have i31 := Ints.of_get at31
  refine .m rfl rfl rfl (.assign rfl) (.nil ?_)
  refine hK13 _ _ ?_
  refine .ret ?_
  refine hret _ _ ?_
  refine ⟨_, rfl, ?_⟩
  exact ⟨hle, _, rfl, at31, by omega⟩
theorem l11Skeleton_c {c : Cat} {p : CatP} {H : GHeap} (hin : c.In H p := by assumption) (hS : c.Shape := by assumption) :
    GCalls Try.prog 102 [.agg (c.cells p).toArray] H (NewInts 2 H c.skO) := by
  have b1 := hS.obj
  have b2 := c.skP_len
  refine GCalls.body (N := 28) (rs := [.tmp 2]) Try.func102 rfl rfl rfl rfl (fun Qx hret hend => ?_)
  refine .forget (fr' := [(0, some _)]) ⟨rfl, trivial⟩ ?_
  have hle := GHeap.Le.refl H
  have base_hin := hin
  refine .seq (fun K1 hK1 => ?_)
  refine .region ?_
  refine .r rfl rfl rfl (.boxR rfl sz_27_D rfl) ?_
  rintro _ H1 ⟨g1, rfl, le1, ge1, at1⟩
  have nx_H1 := le1.1
  replace hle := hle.trans le1
  have lt_at1 := GHeap.lt_of_get at1
  replace hin := base_hin.mono hle
  have hb1 : Cat.At _ g1 0 c p := ⟨Mem.of_get at1, hin⟩
  obtain ⟨c01, c11, c21, c31, c41, i11, i21, i31, i41⟩ := hb1.get
  have hm1 : MemN _ _ _ _ _ := ⟨rfl, hb1.1⟩
  have hi1 := hb1.2
  refine .m rfl rfl rfl (.assign rfl) (.nil ?_)
  refine hK1 _ _ ?_
  refine .seq (fun K2 hK2 => ?_)
  refine .region ?_
  refine .m rfl rfl rfl (.loadM ag_27_D rfl ⟨rfl, Mem.of_get at1⟩) ?_
  refine .call rfl rfl rfl rfl @Try.call144 rfl (l11Classes_c) ?_
  rintro _ H7 ⟨le7, g7, rfl, at7, ge7⟩
  have nx_H7 := le7.1
  replace hle := hle.trans le7
  replace at1 := le7.2 _ _ at1
  have lt_at7 := GHeap.lt_of_get at7
  replace hin := base_hin.mono hle
  clear hb1 c01 c11 c21 c31 c41 i11 i21 i31 i41 hm1 hi1
  have hb1 : Cat.At _ g1 0 c p := ⟨Mem.of_get at1, hin⟩
  obtain ⟨c01, c11, c21, c31, c41, i11, i21, i31, i41⟩ := hb1.get
  have hm1 : MemN _ _ _ _ _ := ⟨rfl, hb1.1⟩
  have hi1 := hb1.2
  have i7 := Ints.of_get at7
  refine .m rfl rfl rfl (.assign rfl) (.nil ?_)
  refine hK2 _ _ ?_
  refine .seq (fun K3 hK3 => ?_)
  refine .region ?_
  refine .r rfl rfl rfl (.litR rfl sl_22_A ze_2_E rfl rfl (by omega) (by omega) rfl rfl) ?_
  rintro _ H8 ⟨g8, rfl, le8, ge8, at8⟩
  have nx_H8 := le8.1
  replace hle := hle.trans le8
  replace at1 := le8.2 _ _ at1
  replace at7 := le8.2 _ _ at7
  have lt_at8 := GHeap.lt_of_get at8
  replace hin := base_hin.mono hle
  clear hb1 c01 c11 c21 c31 c41 i11 i21 i31 i41 hm1 hi1
  have hb1 : Cat.At _ g1 0 c p := ⟨Mem.of_get at1, hin⟩
  obtain ⟨c01, c11, c21, c31, c41, i11, i21, i31, i41⟩ := hb1.get
  have hm1 : MemN _ _ _ _ _ := ⟨rfl, hb1.1⟩
  have hi1 := hb1.2
  clear i7
  have i7 := Ints.of_get at7
  replace at8 : GHeap.get H8 g8 = some (.row (ints []) 2 true) := at8
  refine .m rfl rfl rfl (.assign rfl) (.nil ?_)
  refine hK3 _ _ ?_
  refine .seq (fun K4 hK4 => ?_)
  refine .seq (fun K5 hK5 => ?_)
  refine .region (.m rfl rfl rfl (.assign rfl) (.nil ?_))
  refine hK5 _ _ ?_
  refine .block ?_
  refine .loopR (σ := Nat × Nat × Nat) [(1, some _), (3, some _)] (fun (k, gL4, nL4) => [(5, some (.int .i64 (k : Int))), (4, some (.slice (some ⟨gL4, 0, none⟩) nL4 nL4))]) (fun (k, gL4, nL4) H' => St [g8] H8 H' ∧ H'.get gL4 = some (.row (ints (filtN k c.skB)) 2 true) ∧ (gL4 = g8 ∨ H8.next ≤ gL4) ∧ nL4 = (filtN k c.skB).length ∧ k ≤ c.obj.toNat) (fun (k, gL4, nL4) => c.obj.toNat - k) ((0, _, _)) ⟨rfl, rfl, trivial⟩ ⟨rfl, rfl, trivial⟩ ?_ ?_
  ·
   refine ⟨.refl _ _, by first | assumption | exact at8 | simpa using at8, .inl rfl, by first | rfl | assumption | simp | omega, ?_⟩
   omega
  rintro ⟨k, gL4, nL4⟩ HL1 ⟨lst1, at_L4, pl_L4, ln_L4, hI⟩ KL1 hKL1
  refine .forget (fr' := [(5, some (.int .i64 (k : Int))), (4, some (.slice (some ⟨gL4, 0, none⟩) nL4 nL4)), (1, some _), (3, some _)]) ⟨rfl, rfl, rfl, rfl, trivial⟩ ?_
  have ge_L4 : H.next ≤ gL4 := by omega
  have nx_HL1 := lst1.nx
  replace hle := hle.st lst1 (fun k hk => ⟨by omega, trivial⟩)
  have ne_g1_g8 : g1 ≠ g8 := by omega
  replace at1 := lst1.same _ _ ⟨ne_g1_g8, trivial⟩ at1
  have ne_g7_g8 : g7 ≠ g8 := by omega
  replace at7 := lst1.same _ _ ⟨ne_g7_g8, trivial⟩ at7
  have lt_at_L4 := GHeap.lt_of_get at_L4
  replace hin := base_hin.mono hle
  clear hb1 c01 c11 c21 c31 c41 i11 i21 i31 i41 hm1 hi1
  have hb1 : Cat.At _ g1 0 c p := ⟨Mem.of_get at1, hin⟩
  obtain ⟨c01, c11, c21, c31, c41, i11, i21, i31, i41⟩ := hb1.get
  have hm1 : MemN _ _ _ _ _ := ⟨rfl, hb1.1⟩
  have hi1 := hb1.2
  clear i7
  have i7 := Ints.of_get at7
  have hfl := filtN_le k c.skB
  refine .seq (fun K6 hK6 => ?_)
  refine .seq (fun K7 hK7 => ?_)
  refine .region (.m rfl rfl rfl (.move rfl) (.m rfl rfl rfl (.fieldAddr fo_27_0_B rfl) ?_))
  refine .m rfl rfl rfl (.load on_2_A rfl (by first | assumption | exact Mem.of_get at1 0 _ rfl)) ?_
  refine .m rfl rfl rfl (.cmp rfl rfl rfl) (.nil ?_)
  refine hK7 _ _ ?_
  refine .cond rfl (fun h12 => ?_) (fun h12 => ?_)
  ·
   simp only [sps] at h12
   refine .skip ?_
   refine hK6 _ _ ?_
   refine .seq (fun K8 hK8 => ?_)
   refine .block ?_
   refine .seq (fun K9 hK9 => ?_)
   refine .region (.m rfl rfl rfl (.move rfl) (.m rfl rfl rfl (.move rfl) (.m rfl rfl rfl (.move rfl) ?_)))
   refine .m rfl rfl rfl (.idxN sl_22_A (by first | assumption | exact SlA.of_row at7 (by first | rfl | (simp; done) | (simp <;> omega))) rfl rfl (by omega)) ?_
   refine .m rfl rfl rfl (.loadI on_2_A (by first | assumption | exact Ints.of_get at7) rfl (by omega)) ?_
   refine .callQ rfl rfl rfl rfl @Try.call143 rfl (l01Index_c) ?_
   refine .m rfl rfl rfl (.move rfl) (.m rfl rfl rfl (.cmp rfl rfl rfl) (.nil ?_))
   refine hK9 _ _ ?_
   refine .cond rfl (fun h22 => ?_) (fun h22 => ?_)
   ·
    simp only [sps] at h22
    have hB : c.skB k = true := (Cat.skP_index hS (by omega)).1 h22
    refine .region (.m rfl rfl rfl (.move rfl) (.m rfl rfl rfl (.move rfl) ?_))
    refine .r rfl rfl rfl (.litR rfl sl_22_A ze_2_E rfl rfl (by omega) (by omega) rfl rfl) ?_
    rintro _ H25 ⟨g25, rfl, le25, ge25, at25⟩
    have nx_H25 := le25.1
    replace hle := hle.trans le25
    replace lst1 := lst1.le le25
    replace at1 := le25.2 _ _ at1
    replace at7 := le25.2 _ _ at7
    replace at_L4 := le25.2 _ _ at_L4
    have lt_at25 := GHeap.lt_of_get at25
    replace hin := base_hin.mono hle
    clear hb1 c01 c11 c21 c31 c41 i11 i21 i31 i41 hm1 hi1
    have hb1 : Cat.At _ g1 0 c p := ⟨Mem.of_get at1, hin⟩
    obtain ⟨c01, c11, c21, c31, c41, i11, i21, i31, i41⟩ := hb1.get
    have hm1 : MemN _ _ _ _ _ := ⟨rfl, hb1.1⟩
    have hi1 := hb1.2
    clear i7
    have i7 := Ints.of_get at7
    refine .r rfl rfl rfl (.appendI rfl sl_22_A ze_2_E rfl by_2_E sl_22_A rfl rfl (by assumption) (by assumption) (by first | omega | (simp <;> omega)) (by omega) (by omega)) ?_
    rintro _ H26 ⟨g26, rfl, st26, ge26, at26⟩
    have nx_H26 := st26.nx
    replace hle := hle.st st26 (fun k hk => ⟨by omega, trivial⟩)
    replace lst1 := lst1.st st26 (fun k hk ho => by simp only [out, and_true] at ho ⊢ <;> first | exact ho | exact ho.1 | exact ho.2 | exact ho.2.1 | exact ho.2.2 | exact ho.2.2.1 | exact ho.2.2.2 | omega)
    have ne_g1_gL4 : g1 ≠ gL4 := by omega
    replace at1 := st26.same _ _ ⟨ne_g1_gL4, trivial⟩ at1
    have ne_g7_gL4 : g7 ≠ gL4 := by omega
    replace at7 := st26.same _ _ ⟨ne_g7_gL4, trivial⟩ at7
    have ne_g25_gL4 : g25 ≠ gL4 := by omega
    replace at25 := st26.same _ _ ⟨ne_g25_gL4, trivial⟩ at25
    have lt_at26 := GHeap.lt_of_get at26
    replace hin := base_hin.mono hle
    clear hb1 c01 c11 c21 c31 c41 i11 i21 i31 i41 hm1 hi1
    have hb1 : Cat.At _ g1 0 c p := ⟨Mem.of_get at1, hin⟩
    obtain ⟨c01, c11, c21, c31, c41, i11, i21, i31, i41⟩ := hb1.get
    have hm1 : MemN _ _ _ _ _ := ⟨rfl, hb1.1⟩
    have hi1 := hb1.2
    clear i7
    have i7 := Ints.of_get at7
    refine .m rfl rfl rfl (.assign rfl) (.nil ?_)
    refine hK8 _ _ ?_
    refine .region (.m rfl rfl rfl (.move rfl) ?_)
    refine .m rfl rfl rfl (.add rfl rfl rfl (by omega) (by omega)) ?_
    refine .m rfl rfl rfl (.assign rfl) (.nil ?_)
    refine hKL1 ((k + 1, _, _)) _ _ ?_ ?_ ⟨rfl, rfl, rfl, rfl, trivial⟩
    ·
     refine ⟨lst1, by first | assumption | (rw [filtN_T hB]; assumption) | (rw [filtN_F hB]; assumption), by omega, by first | omega | (simp only [List.length_append, List.length_cons, List.length_nil] <;> omega) | (rw [filtN_T hB] <;> (first | omega | (simp only [List.length_append, List.length_cons, List.length_nil] <;> omega))) | (rw [filtN_F hB] <;> (first | omega | (simp only [List.length_append, List.length_cons, List.length_nil] <;> omega))), ?_⟩
     omega
    (dsimp only; omega)
   simp only [sps] at h22
   have hB : c.skB k = false := by
     cases e : c.skB k with
     | false => rfl
     | true => exact absurd ((Cat.skP_index hS (by omega)).2 e) h22
   refine .skip ?_
   refine hK8 _ _ ?_
   refine .region (.m rfl rfl rfl (.move rfl) ?_)
   refine .m rfl rfl rfl (.add rfl rfl rfl (by omega) (by omega)) ?_
   refine .m rfl rfl rfl (.assign rfl) (.nil ?_)
   refine hKL1 ((k + 1, _, _)) _ _ ?_ ?_ ⟨rfl, rfl, rfl, rfl, trivial⟩
   ·
    refine ⟨lst1, by first | assumption | (rw [filtN_T hB]; assumption) | (rw [filtN_F hB]; assumption), by omega, by first | omega | (simp only [List.length_append, List.length_cons, List.length_nil] <;> omega) | (rw [filtN_T hB] <;> (first | omega | (simp only [List.length_append, List.length_cons, List.length_nil] <;> omega))) | (rw [filtN_F hB] <;> (first | omega | (simp only [List.length_append, List.length_cons, List.length_nil] <;> omega))), ?_⟩
    omega
   (dsimp only; omega)
  try simp only [sps] at h12
  refine .exit ?_
  refine hK4 _ _ ?_
  refine .seq (fun K10 hK10 => ?_)
  refine .region (.m rfl rfl rfl (.move rfl) (.m rfl rfl rfl (.assign rfl) (.nil ?_)))
  refine hK10 _ _ ?_
  refine .ret ?_
  refine hret _ _ ?_
  refine ⟨_, rfl, ?_⟩
  obtain rfl : k = c.obj.toNat := by omega
  exact ⟨hle, _, by rw [ln_L4]; rfl, at_L4, by omega⟩
theorem l02Full_c {c : Cat} {p : CatP} {os : List Int} {a : Option Addr} {H : GHeap} (hin : c.In H p := by assumption) (ho : Ints H a os := by assumption) (hS : c.Shape := by assumption) (hl : os.length ≤ 1048576 := by omega) :
    GCalls Try.prog 101 [.agg (c.cells p).toArray, .slice a os.length os.length] H (NewInts 2 H (c.among os)) := by
  have b1 := hS.n40
  have b2 := hS.tl
  refine GCalls.body (N := 36) (rs := [.tmp 4]) Try.func101 rfl rfl rfl rfl (fun Qx hret hend => ?_)
  refine .forget (fr' := [(0, some _), (1, some _)]) ⟨rfl, rfl, trivial⟩ ?_
  have hle := GHeap.Le.refl H
  have base_hin := hin
  have base_ho := ho
  refine .seq (fun K1 hK1 => ?_)
  refine .region ?_
  refine .r rfl rfl rfl (.boxR rfl sz_27_D rfl) ?_
  rintro _ H2 ⟨g2, rfl, le2, ge2, at2⟩
  have nx_H2 := le2.1
  replace hle := hle.trans le2
  have lt_at2 := GHeap.lt_of_get at2
  replace hin := base_hin.mono hle
  replace ho := base_ho.mono hle
  have hb2 : Cat.At _ g2 0 c p := ⟨Mem.of_get at2, hin⟩
  obtain ⟨c02, c12, c22, c32, c42, i12, i22, i32, i42⟩ := hb2.get
  have hm2 : MemN _ _ _ _ _ := ⟨rfl, hb2.1⟩
  have hi2 := hb2.2
  refine .m rfl rfl rfl (.assign rfl) (.nil ?_)
  refine hK1 _ _ ?_
  refine .seq (fun K2 hK2 => ?_)
  refine .region ?_
  refine .r rfl rfl rfl (.litR rfl sl_22_A ze_2_E rfl rfl (by omega) (by omega) rfl rfl) ?_
  rintro _ H7 ⟨g7, rfl, le7, ge7, at7⟩
  have nx_H7 := le7.1
  replace hle := hle.trans le7
  replace at2 := le7.2 _ _ at2
  have lt_at7 := GHeap.lt_of_get at7
  replace hin := base_hin.mono hle
  replace ho := base_ho.mono hle
  clear hb2 c02 c12 c22 c32 c42 i12 i22 i32 i42 hm2 hi2
  have hb2 : Cat.At _ g2 0 c p := ⟨Mem.of_get at2, hin⟩
  obtain ⟨c02, c12, c22, c32, c42, i12, i22, i32, i42⟩ := hb2.get
  have hm2 : MemN _ _ _ _ _ := ⟨rfl, hb2.1⟩
  have hi2 := hb2.2
  replace at7 : GHeap.get H7 g7 = some (.row (ints []) 2 true) := at7
  refine .m rfl rfl rfl (.assign rfl) (.nil ?_)
  refine hK2 _ _ ?_
  refine .seq (fun K3 hK3 => ?_)
  refine .seq (fun K4 hK4 => ?_)
  refine .region (.m rfl rfl rfl (.assign rfl) (.nil ?_))
  refine hK4 _ _ ?_
  refine .block ?_
  refine .loopR (σ := Nat × Nat × Nat) [(1, some _), (2, some _)] (fun (k, gL5, nL5) => [(6, some (.int .i64 (k : Int))), (5, some (.slice (some ⟨gL5, 0, none⟩) nL5 nL5))]) (fun (k, gL5, nL5) H' => St [g7] H7 H' ∧ H'.get gL5 = some (.row (ints (filtN k fun f => os.contains (c.src.getD f 0) && os.contains (c.tgt.getD f 0))) 2 true) ∧ (gL5 = g7 ∨ H7.next ≤ gL5) ∧ nL5 = (filtN k fun f => os.contains (c.src.getD f 0) && os.contains (c.tgt.getD f 0)).length ∧ k ≤ c.src.length) (fun (k, gL5, nL5) => c.src.length - k) ((0, _, _)) ⟨rfl, rfl, trivial⟩ ⟨rfl, rfl, trivial⟩ ?_ ?_
  ·
   refine ⟨.refl _ _, by first | assumption | exact at7 | simpa using at7, .inl rfl, by first | rfl | assumption | simp | omega, ?_⟩
   omega
  rintro ⟨k, gL5, nL5⟩ HL1 ⟨lst1, at_L5, pl_L5, ln_L5, hI⟩ KL1 hKL1
  refine .forget (fr' := [(6, some (.int .i64 (k : Int))), (5, some (.slice (some ⟨gL5, 0, none⟩) nL5 nL5)), (1, some _), (2, some _)]) ⟨rfl, rfl, rfl, rfl, trivial⟩ ?_
  have ge_L5 : H.next ≤ gL5 := by omega
  have nx_HL1 := lst1.nx
  replace hle := hle.st lst1 (fun k hk => ⟨by omega, trivial⟩)
  have ne_g2_g7 : g2 ≠ g7 := by omega
  replace at2 := lst1.same _ _ ⟨ne_g2_g7, trivial⟩ at2
  have lt_at_L5 := GHeap.lt_of_get at_L5
  replace hin := base_hin.mono hle
  replace ho := base_ho.mono hle
  clear hb2 c02 c12 c22 c32 c42 i12 i22 i32 i42 hm2 hi2
  have hb2 : Cat.At _ g2 0 c p := ⟨Mem.of_get at2, hin⟩
  obtain ⟨c02, c12, c22, c32, c42, i12, i22, i32, i42⟩ := hb2.get
  have hm2 : MemN _ _ _ _ _ := ⟨rfl, hb2.1⟩
  have hi2 := hb2.2
  have hfl := filtN_le k fun f => os.contains (c.src.getD f 0) && os.contains (c.tgt.getD f 0)
  refine .seq (fun K5 hK5 => ?_)
  refine .seq (fun K6 hK6 => ?_)
  refine .region (.m rfl rfl rfl (.move rfl) (.m rfl rfl rfl (.fieldAddr fo_27_1_B rfl) ?_))
  refine .m rfl rfl rfl (.load on_22_B rfl (by first | assumption | exact Mem.of_get at2 1 _ rfl)) ?_
  refine .m rfl rfl rfl (.len sl_22_A rfl) (.m rfl rfl rfl (.cmp rfl rfl rfl) (.nil ?_))
  refine hK6 _ _ ?_
  refine .cond rfl (fun h12 => ?_) (fun h12 => ?_)
  ·
   simp only [sps] at h12
   refine .skip ?_
   refine hK5 _ _ ?_
   refine .seq (fun K7 hK7 => ?_)
   refine .block ?_
   refine .seq (fun K8 hK8 => ?_)
   refine .region (.m rfl rfl rfl (.move rfl) (.m rfl rfl rfl (.fieldAddr fo_27_1_B rfl) ?_))
   refine .m rfl rfl rfl (.load on_22_B rfl (by first | assumption | exact Mem.of_get at2 1 _ rfl)) ?_
   refine .m rfl rfl rfl (.move rfl) ?_
   refine .m rfl rfl rfl (.idxN sl_22_A (by assumption) rfl rfl (by omega)) ?_
   refine .m rfl rfl rfl (.loadI on_2_A (by assumption) rfl (by omega)) ?_
   refine .callQ rfl rfl rfl rfl @Try.call142 rfl (l01Has_c) ?_
   refine .m rfl rfl rfl (.move rfl) ?_
   refine .split (fun h22 => ?_) (fun h22 => ?_)
   ·
    have h22' := h22
    refine .mg rfl rfl rfl rfl rfl (.move rfl) (.mg rfl rfl rfl rfl rfl (.fieldAddr fo_27_2_B rfl) ?_)
    refine .mg rfl rfl rfl rfl rfl (.load on_22_B rfl (by first | assumption | exact Mem.of_get at2 2 _ rfl)) ?_
    refine .mg rfl rfl rfl rfl rfl (.move rfl) ?_
    refine .mg rfl rfl rfl rfl rfl (.idxN sl_22_A (by assumption) rfl rfl (by omega)) ?_
    refine .mg rfl rfl rfl rfl rfl (.loadI on_2_A (by assumption) rfl (by omega)) ?_
    refine .callQg rfl rfl rfl rfl rfl rfl @Try.call142 rfl (l01Has_c) ?_
    refine .m rfl rfl rfl (.pickT rfl rfl) (.nil ?_)
    refine hK8 _ _ ?_
    refine .cond rfl (fun h30 => ?_) (fun h30 => ?_)
    ·
     refine .region (.m rfl rfl rfl (.move rfl) (.m rfl rfl rfl (.move rfl) ?_))
     refine .r rfl rfl rfl (.litR rfl sl_22_A ze_2_E rfl rfl (by omega) (by omega) rfl rfl) ?_
     rintro _ H33 ⟨g33, rfl, le33, ge33, at33⟩
     have nx_H33 := le33.1
     replace hle := hle.trans le33
     replace lst1 := lst1.le le33
     replace at2 := le33.2 _ _ at2
     replace at_L5 := le33.2 _ _ at_L5
     have lt_at33 := GHeap.lt_of_get at33
     replace hin := base_hin.mono hle
     replace ho := base_ho.mono hle
     clear hb2 c02 c12 c22 c32 c42 i12 i22 i32 i42 hm2 hi2
     have hb2 : Cat.At _ g2 0 c p := ⟨Mem.of_get at2, hin⟩
     obtain ⟨c02, c12, c22, c32, c42, i12, i22, i32, i42⟩ := hb2.get
     have hm2 : MemN _ _ _ _ _ := ⟨rfl, hb2.1⟩
     have hi2 := hb2.2
     refine .r rfl rfl rfl (.appendI rfl sl_22_A ze_2_E rfl by_2_E sl_22_A rfl rfl (by assumption) (by assumption) (by first | omega | (simp <;> omega)) (by omega) (by omega)) ?_
     rintro _ H34 ⟨g34, rfl, st34, ge34, at34⟩
     have nx_H34 := st34.nx
     replace hle := hle.st st34 (fun k hk => ⟨by omega, trivial⟩)
     replace lst1 := lst1.st st34 (fun k hk ho => by simp only [out, and_true] at ho ⊢ <;> first | exact ho | exact ho.1 | exact ho.2 | exact ho.2.1 | exact ho.2.2 | exact ho.2.2.1 | exact ho.2.2.2 | omega)
     have ne_g2_gL5 : g2 ≠ gL5 := by omega
     replace at2 := st34.same _ _ ⟨ne_g2_gL5, trivial⟩ at2
     have ne_g33_gL5 : g33 ≠ gL5 := by omega
     replace at33 := st34.same _ _ ⟨ne_g33_gL5, trivial⟩ at33
     have lt_at34 := GHeap.lt_of_get at34
     replace hin := base_hin.mono hle
     replace ho := base_ho.mono hle
     clear hb2 c02 c12 c22 c32 c42 i12 i22 i32 i42 hm2 hi2
     have hb2 : Cat.At _ g2 0 c p := ⟨Mem.of_get at2, hin⟩
     obtain ⟨c02, c12, c22, c32, c42, i12, i22, i32, i42⟩ := hb2.get
     have hm2 : MemN _ _ _ _ _ := ⟨rfl, hb2.1⟩
     have hi2 := hb2.2
     refine .m rfl rfl rfl (.assign rfl) (.nil ?_)
     refine hK7 _ _ ?_
     refine .region (.m rfl rfl rfl (.move rfl) ?_)
     refine .m rfl rfl rfl (.add rfl rfl rfl (by omega) (by omega)) ?_
     refine .m rfl rfl rfl (.assign rfl) (.nil ?_)
     refine hKL1 ((k + 1, _, _)) _ _ ?_ ?_ ⟨rfl, rfl, rfl, rfl, trivial⟩
     ·
      refine ⟨lst1, by first | assumption | (rw [filtN_T (by simp only [h22', h30]; rfl)]; assumption) | (rw [filtN_F hB]; assumption), by omega, by first | omega | (simp only [List.length_append, List.length_cons, List.length_nil] <;> omega) | (rw [filtN_T (by simp only [h22', h30]; rfl)] <;> (first | omega | (simp only [List.length_append, List.length_cons, List.length_nil] <;> omega))) | (rw [filtN_F hB] <;> (first | omega | (simp only [List.length_append, List.length_cons, List.length_nil] <;> omega))), ?_⟩
      omega
     (dsimp only; omega)
    have hB : (os.contains (c.src.getD k 0) && os.contains (c.tgt.getD k 0)) = false := by rw [h22, h30]; rfl
    refine .skip ?_
    refine hK7 _ _ ?_
    refine .region (.m rfl rfl rfl (.move rfl) ?_)
    refine .m rfl rfl rfl (.add rfl rfl rfl (by omega) (by omega)) ?_
    refine .m rfl rfl rfl (.assign rfl) (.nil ?_)
    refine hKL1 ((k + 1, _, _)) _ _ ?_ ?_ ⟨rfl, rfl, rfl, rfl, trivial⟩
    ·
     refine ⟨lst1, by first | assumption | (rw [filtN_T (by simp only [h22', h30]; rfl)]; assumption) | (rw [filtN_F hB]; assumption), by omega, by first | omega | (simp only [List.length_append, List.length_cons, List.length_nil] <;> omega) | (rw [filtN_T (by simp only [h22', h30]; rfl)] <;> (first | omega | (simp only [List.length_append, List.length_cons, List.length_nil] <;> omega))) | (rw [filtN_F hB] <;> (first | omega | (simp only [List.length_append, List.length_cons, List.length_nil] <;> omega))), ?_⟩
     omega
    (dsimp only; omega)
   have hB : (os.contains (c.src.getD k 0) && os.contains (c.tgt.getD k 0)) = false := by rw [h22]; rfl
   refine .sg rfl rfl rfl rfl rfl (.sg rfl rfl rfl rfl rfl (.sg rfl rfl rfl rfl rfl (.sg rfl rfl rfl rfl rfl ?_)))
   refine .sg rfl rfl rfl rfl rfl (.sg rfl rfl rfl rfl rfl (.sg rfl rfl rfl rfl rfl (.m rfl rfl rfl (.pickF rfl rfl) ?_)))
   refine .nil ?_
   refine hK8 _ _ ?_
   refine .condF rfl ?_
   refine .skip ?_
   refine hK7 _ _ ?_
   refine .region (.m rfl rfl rfl (.move rfl) ?_)
   refine .m rfl rfl rfl (.add rfl rfl rfl (by omega) (by omega)) ?_
   refine .m rfl rfl rfl (.assign rfl) (.nil ?_)
   refine hKL1 ((k + 1, _, _)) _ _ ?_ ?_ ⟨rfl, rfl, rfl, rfl, trivial⟩
   ·
    refine ⟨lst1, by first | assumption | (rw [filtN_T (by simp only [h22', h30]; rfl)]; assumption) | (rw [filtN_F hB]; assumption), by omega, by first | omega | (simp only [List.length_append, List.length_cons, List.length_nil] <;> omega) | (rw [filtN_T (by simp only [h22', h30]; rfl)] <;> (first | omega | (simp only [List.length_append, List.length_cons, List.length_nil] <;> omega))) | (rw [filtN_F hB] <;> (first | omega | (simp only [List.length_append, List.length_cons, List.length_nil] <;> omega))), ?_⟩
    omega
   (dsimp only; omega)
  try simp only [sps] at h12
  refine .exit ?_
  refine hK3 _ _ ?_
  refine .seq (fun K9 hK9 => ?_)
  refine .region (.m rfl rfl rfl (.move rfl) (.m rfl rfl rfl (.assign rfl) (.nil ?_)))
  refine hK9 _ _ ?_
  refine .ret ?_
  refine hret _ _ ?_
  refine ⟨_, rfl, ?_⟩
  obtain rfl : k = c.src.length := by omega
  exact ⟨hle, _, by rw [ln_L5]; rfl, at_L5, by omega⟩
set_option maxHeartbeats 4000000 in
theorem isoClasses_c {g o : Nat} {c : Cat} {p : CatP} {H : GHeap} (h : Cat.At H g o c p := by assumption) (hS : c.Shape := by assumption) :
    GCalls Try.prog 149 [.pointer (some ⟨g, o, none⟩)] H (NewInts 2 H c.skP) := by
  have b1 := hS.obj
  have b2 := hS.tl
  have b3 := hS.n40
  refine GCalls.body (N := 41) (rs := [.tmp 2]) Try.func149 rfl rfl rfl rfl (fun Qx hret hend => ?_)
  refine .forget (fr' := [(0, some _)]) ⟨rfl, trivial⟩ ?_
  have hle := GHeap.Le.refl H
  have base_h := h
  obtain ⟨c0, c1, c2, c3, c4, i1, i2, i3, i4⟩ := h.get
  have hm : MemN _ _ _ _ _ := ⟨rfl, h.1⟩
  have hi := h.2
  refine .seq (fun K1 hK1 => ?_)
  refine .region (.m rfl rfl rfl (.assign rfl) (.nil ?_))
  refine hK1 _ _ ?_
  refine .seq (fun K2 hK2 => ?_)
  refine .region (.m rfl rfl rfl (.move rfl) (.m rfl rfl rfl (.nilCheck rfl) (.m rfl rfl rfl (.fieldAddr fo_27_0_B rfl) ?_)))
  refine .m rfl rfl rfl (.load on_2_A rfl (by assumption)) ?_
  refine .call rfl rfl rfl rfl @Try.call93 rfl (joinerOf_c) ?_
  rintro _ H9 ⟨le9, g9, rfl, at9, ge9⟩
  have nx_H9 := le9.1
  replace hle := hle.trans le9
  have lt_at9 := GHeap.lt_of_get at9
  replace h := base_h.mono hle
  clear c0 c1 c2 c3 c4 i1 i2 i3 i4 hm hi
  obtain ⟨c0, c1, c2, c3, c4, i1, i2, i3, i4⟩ := h.get
  have hm : MemN _ _ _ _ _ := ⟨rfl, h.1⟩
  have hi := h.2
  have i9 := Ints.of_get at9
  refine .m rfl rfl rfl (.assign rfl) (.nil ?_)
  refine hK2 _ _ ?_
  refine .seq (fun K3 hK3 => ?_)
  refine .seq (fun K4 hK4 => ?_)
  refine .region (.m rfl rfl rfl (.move rfl) (.m rfl rfl rfl (.nilCheck rfl) (.m rfl rfl rfl (.fieldAddr fo_27_1_B rfl) ?_)))
  refine .m rfl rfl rfl (.load on_22_B rfl (by assumption)) ?_
  refine .m rfl rfl rfl (.len sl_22_A rfl) (.m rfl rfl rfl (.move rfl) (.nil ?_))
  refine hK4 _ _ ?_
  refine .block ?_
  have hnl : (numsL c.obj.toNat).length = c.obj.toNat := length_numsL _
  refine .loopR (σ := Nat × List Int) [(0, some _), (3, some _), (14, some _)] (fun (k, js) => [(15, some (.int .i64 (k : Int)))]) (fun (k, js) H' => St [g9] H9 H' ∧ H'.get g9 = some (.row (ints js) 2 true) ∧ k ≤ c.src.length ∧ RootK js (joinK (c.skI k)) (numsL c.obj.toNat).length) (fun (k, js) => c.src.length - k) ((0, numsL c.obj.toNat)) ⟨rfl, rfl, rfl, trivial⟩ ⟨rfl, trivial⟩ ?_ ?_
  ·
   refine ⟨.refl _ _, by first | assumption | exact at9 | simpa using at9, ?_⟩
   exact ⟨by omega, RootK.start rfl fun i hi => numsL_get (by omega)⟩
  rintro ⟨k, js⟩ HL1 ⟨lst1, at_L3, hI⟩ KL1 hKL1
  refine .forget (fr' := [(15, some (.int .i64 (k : Int))), (0, some _), (3, some _), (14, some _)]) ⟨rfl, rfl, rfl, rfl, trivial⟩ ?_
  have nx_HL1 := lst1.nx
  replace hle := hle.st lst1 (fun k hk => ⟨by omega, trivial⟩)
  have lt_at_L3 := GHeap.lt_of_get at_L3
  replace h := base_h.mono hle
  clear c0 c1 c2 c3 c4 i1 i2 i3 i4 hm hi
  obtain ⟨c0, c1, c2, c3, c4, i1, i2, i3, i4⟩ := h.get
  have hm : MemN _ _ _ _ _ := ⟨rfl, h.1⟩
  have hi := h.2
  clear i9
  have i9 := Ints.of_get at9
  obtain ⟨hk, hK⟩ := hI
  refine .seq (fun K5 hK5 => ?_)
  refine .region (.m rfl rfl rfl (.cmp rfl rfl rfl) (.nil ?_))
  refine hK5 _ _ ?_
  refine .seq (fun K6 hK6 => ?_)
  refine .cond rfl (fun h16 => ?_) (fun h16 => ?_)
  ·
   simp only [sps] at h16
   refine .skip ?_
   refine hK6 _ _ ?_
   refine .seq (fun K7 hK7 => ?_)
   refine .block ?_
   refine .seq (fun K8 hK8 => ?_)
   refine .region (.m rfl rfl rfl (.move rfl) (.m rfl rfl rfl (.assign rfl) (.nil ?_)))
   refine hK8 _ _ ?_
   refine .seq (fun K9 hK9 => ?_)
   refine .region (.m rfl rfl rfl (.move rfl) (.m rfl rfl rfl (.move rfl) ?_))
   refine .callQ rfl rfl rfl rfl @Try.call164 rfl (inverse_c) ?_
   refine .m rfl rfl rfl (.cmp rfl rfl rfl) (.nil ?_)
   refine hK9 _ _ ?_
   refine .cond rfl (fun h21 => ?_) (fun h21 => ?_)
   ·
    simp only [sps] at h21
    have w1 := hS.src k (by omega)
    have w2 := hS.tgt k (by omega)
    refine .regionD mixed_orders_B (.q 0 (.q 1 (.q 2 (.q 3 (.q 4 (.q 5 (.q 6 (.q 7 (.q 8 (.q 9 (.q 10 (.q 11 (.q 12 (.q 13 (.q 14 (.c 15 0 (.done))))))))))))))))) (by kernel_rfl) ?_
    refine .m rfl rfl rfl rfl (.refl _) (.move rfl) (.m rfl rfl rfl rfl (.refl _) (.move rfl) (.m rfl rfl rfl rfl (.refl _) (.nilCheck rfl) (.m rfl rfl rfl rfl (.refl _) (.fieldAddr fo_27_1_B rfl) ?_)))
    refine .m rfl rfl rfl rfl (.refl _) (.load on_22_B rfl (by assumption)) ?_
    refine .m rfl rfl rfl rfl (.refl _) (.move rfl) ?_
    refine .m rfl rfl rfl rfl (.refl _) (.idxN sl_22_A (by assumption) rfl rfl (by omega)) ?_
    refine .m rfl rfl rfl rfl (.refl _) (.loadI on_2_A (by assumption) rfl (by omega)) ?_
    refine .m rfl rfl rfl rfl (.refl _) (.move rfl) (.m rfl rfl rfl rfl (.refl _) (.nilCheck rfl) (.m rfl rfl rfl rfl (.refl _) (.fieldAddr fo_27_2_B rfl) ?_))
    refine .m rfl rfl rfl rfl (.refl _) (.load on_22_B rfl (by assumption)) ?_
    refine .m rfl rfl rfl rfl (.refl _) (.move rfl) ?_
    refine .m rfl rfl rfl rfl (.refl _) (.idxN sl_22_A (by assumption) rfl rfl (by omega)) ?_
    refine .m rfl rfl rfl rfl (.refl _) (.loadI on_2_A (by assumption) rfl (by omega)) ?_
    refine .call0 rfl rfl rfl rfl rfl @Try.call95 rfl (join_c) ?_
    rintro _ H37 ⟨⟨b37, rfl⟩, st37, js37, at37, hK37⟩
    have nx_H37 := st37.nx
    replace hle := hle.st st37 (fun k hk => ⟨by omega, trivial⟩)
    replace lst1 := lst1.st st37 (fun k hk ho => by simp only [out, and_true] at ho ⊢ <;> first | exact ho | exact ho.1 | exact ho.2 | exact ho.2.1 | exact ho.2.2 | exact ho.2.2.1 | exact ho.2.2.2 | omega)
    have lt_at37 := GHeap.lt_of_get at37
    replace h := base_h.mono hle
    clear c0 c1 c2 c3 c4 i1 i2 i3 i4 hm hi
    obtain ⟨c0, c1, c2, c3, c4, i1, i2, i3, i4⟩ := h.get
    have hm : MemN _ _ _ _ _ := ⟨rfl, h.1⟩
    have hi := h.2
    clear i9
    have i9 := Ints.of_get at9
    refine .done ?_
    refine hK7 _ _ ?_
    refine .region ?_
    refine .m rfl rfl rfl (.add rfl rfl rfl (by omega) (by omega)) ?_
    refine .m rfl rfl rfl (.move rfl) (.nil ?_)
    refine hKL1 ((k + 1, by first | exact js37 | exact js)) _ _ ?_ ?_ ⟨rfl, rfl, rfl, rfl, trivial⟩
    ·
     refine ⟨lst1, by assumption, ?_⟩
     exact ⟨by omega, by first | (rw [c.skI_T h21, joinK_snoc]; simpa only [Int.toNat_natCast] using hK37) | (rw [c.skI_F (by omega)]; assumption)⟩
    (dsimp only; omega)
   simp only [sps] at h21
   have w1 := hS.src k (by omega)
   have w2 := hS.tgt k (by omega)
   refine .skip ?_
   refine hK7 _ _ ?_
   refine .region ?_
   refine .m rfl rfl rfl (.add rfl rfl rfl (by omega) (by omega)) ?_
   refine .m rfl rfl rfl (.move rfl) (.nil ?_)
   refine hKL1 ((k + 1, by first | exact js37 | exact js)) _ _ ?_ ?_ ⟨rfl, rfl, rfl, rfl, trivial⟩
   ·
    refine ⟨lst1, by assumption, ?_⟩
    exact ⟨by omega, by first | (rw [c.skI_T h21, joinK_snoc]; simpa only [Int.toNat_natCast] using hK37) | (rw [c.skI_F (by omega)]; assumption)⟩
   (dsimp only; omega)
  try simp only [sps] at h16
  refine .exit ?_
  refine hK3 _ _ ?_
  refine .seq (fun K10 hK10 => ?_)
  refine .region (.m rfl rfl rfl (.move rfl) ?_)
  refine .call rfl rfl rfl rfl @Try.call97 rfl (partition_c) ?_
  rintro _ H40 ⟨g40, rfl, st40, ge40, at40⟩
  have nx_H40 := st40.nx
  replace hle := hle.st st40 (fun k hk => ⟨by omega, trivial⟩)
  replace lst1 := lst1.st st40 (fun k hk ho => by simp only [out, and_true] at ho ⊢ <;> first | exact ho | exact ho.1 | exact ho.2 | exact ho.2.1 | exact ho.2.2 | exact ho.2.2.1 | exact ho.2.2.2 | omega)
  have lt_at40 := GHeap.lt_of_get at40
  replace h := base_h.mono hle
  clear c0 c1 c2 c3 c4 i1 i2 i3 i4 hm hi
  obtain ⟨c0, c1, c2, c3, c4, i1, i2, i3, i4⟩ := h.get
  have hm : MemN _ _ _ _ _ := ⟨rfl, h.1⟩
  have hi := h.2
  clear i9
  have i9 := Ints.of_get at9
  refine .m rfl rfl rfl (.assign rfl) (.nil ?_)
  refine hK10 _ _ ?_
  refine .ret ?_
  refine hret _ _ ?_
  refine ⟨_, rfl, ?_⟩
  obtain rfl : k = c.src.length := by omega
  have e1 : c.skP = clsL (joinK (c.skI c.src.length)) (numsL c.obj.toNat).length := by rw [hnl]; rfl
  rw [e1]
  exact ⟨hle, _, by rw [length_clsL], at40, by omega⟩
theorem leaders_c {a : Option Addr} {c : Cat} {H : GHeap} (h : Ints H a c.skP := by assumption) (hS : c.Shape := by assumption) :
    GCalls Try.prog 150 [.slice a c.skP.length c.skP.length] H (NewInts 2 H c.skO) := by
  have b1 := hS.obj
  have b2 := c.skP_len
  refine GCalls.body (N := 24) (rs := [.tmp 2]) Try.func150 rfl rfl rfl rfl (fun Qx hret hend => ?_)
  refine .forget (fr' := [(0, some _)]) ⟨rfl, trivial⟩ ?_
  have hle := GHeap.Le.refl H
  have base_h := h
  refine .seq (fun K1 hK1 => ?_)
  refine .region (.m rfl rfl rfl (.assign rfl) (.nil ?_))
  refine hK1 _ _ ?_
  refine .seq (fun K2 hK2 => ?_)
  refine .region ?_
  refine .r rfl rfl rfl (.litR rfl sl_22_A ze_2_E rfl rfl (by omega) (by omega) rfl rfl) ?_
  rintro _ H6 ⟨g6, rfl, le6, ge6, at6⟩
  have nx_H6 := le6.1
  replace hle := hle.trans le6
  have lt_at6 := GHeap.lt_of_get at6
  replace h := base_h.mono hle
  replace at6 : GHeap.get H6 g6 = some (.row (ints []) 2 true) := at6
  refine .m rfl rfl rfl (.assign rfl) (.nil ?_)
  refine hK2 _ _ ?_
  refine .seq (fun K3 hK3 => ?_)
  refine .seq (fun K4 hK4 => ?_)
  refine .region (.m rfl rfl rfl (.move rfl) (.m rfl rfl rfl (.len sl_106_Pb rfl) (.m rfl rfl rfl (.move rfl) ?_)))
  refine .nil ?_
  refine hK4 _ _ ?_
  refine .block ?_
  refine .loopR (σ := Nat × Nat × Nat) [(7, some _), (8, some _)] (fun (k, gL3, nL3) => [(9, some (.int .i64 (k : Int))), (3, some (.slice (some ⟨gL3, 0, none⟩) nL3 nL3))]) (fun (k, gL3, nL3) H' => St [g6] H6 H' ∧ H'.get gL3 = some (.row (ints (filtN k c.skB)) 2 true) ∧ (gL3 = g6 ∨ H6.next ≤ gL3) ∧ nL3 = (filtN k c.skB).length ∧ k ≤ c.obj.toNat) (fun (k, gL3, nL3) => c.obj.toNat - k) ((0, _, _)) ⟨rfl, rfl, trivial⟩ ⟨rfl, rfl, trivial⟩ ?_ ?_
  ·
   refine ⟨.refl _ _, by first | assumption | exact at6 | simpa using at6, .inl rfl, by first | rfl | assumption | simp | omega, ?_⟩
   omega
  rintro ⟨k, gL3, nL3⟩ HL1 ⟨lst1, at_L3, pl_L3, ln_L3, hI⟩ KL1 hKL1
  refine .forget (fr' := [(9, some (.int .i64 (k : Int))), (3, some (.slice (some ⟨gL3, 0, none⟩) nL3 nL3)), (7, some _), (8, some _)]) ⟨rfl, rfl, rfl, rfl, trivial⟩ ?_
  have ge_L3 : H.next ≤ gL3 := by omega
  have nx_HL1 := lst1.nx
  replace hle := hle.st lst1 (fun k hk => ⟨by omega, trivial⟩)
  have lt_at_L3 := GHeap.lt_of_get at_L3
  replace h := base_h.mono hle
  have hfl := filtN_le k c.skB
  refine .seq (fun K5 hK5 => ?_)
  refine .region (.m rfl rfl rfl (.cmp rfl rfl rfl) (.nil ?_))
  refine hK5 _ _ ?_
  refine .seq (fun K6 hK6 => ?_)
  refine .cond rfl (fun h10 => ?_) (fun h10 => ?_)
  ·
   simp only [sps] at h10
   refine .skip ?_
   refine hK6 _ _ ?_
   refine .seq (fun K7 hK7 => ?_)
   refine .block ?_
   refine .seq (fun K8 hK8 => ?_)
   refine .region (.m rfl rfl rfl (.move rfl) ?_)
   refine .m rfl rfl rfl (.idxN sl_106_Pb (by assumption) rfl rfl (by omega)) ?_
   refine .m rfl rfl rfl (.loadI on_2_A (by assumption) rfl (by omega)) ?_
   refine .m rfl rfl rfl (.assign rfl) (.m rfl rfl rfl (.assign rfl) (.nil ?_))
   refine hK8 _ _ ?_
   refine .seq (fun K9 hK9 => ?_)
   refine .region (.m rfl rfl rfl (.move rfl) (.m rfl rfl rfl (.move rfl) (.m rfl rfl rfl (.len sl_22_A rfl) ?_)))
   refine .m rfl rfl rfl (.cmp rfl rfl rfl) (.nil ?_)
   refine hK9 _ _ ?_
   refine .cond rfl (fun h17 => ?_) (fun h17 => ?_)
   ·
    simp only [sps] at h17
    have hB : c.skB k = true := (Cat.skP_lead hS (by omega)).1 (by omega)
    refine .region (.m rfl rfl rfl (.move rfl) (.m rfl rfl rfl (.move rfl) ?_))
    refine .r rfl rfl rfl (.litR rfl sl_22_A ze_2_E rfl rfl (by omega) (by omega) rfl rfl) ?_
    rintro _ H20 ⟨g20, rfl, le20, ge20, at20⟩
    have nx_H20 := le20.1
    replace hle := hle.trans le20
    replace lst1 := lst1.le le20
    replace at_L3 := le20.2 _ _ at_L3
    have lt_at20 := GHeap.lt_of_get at20
    replace h := base_h.mono hle
    refine .r rfl rfl rfl (.appendI rfl sl_22_A ze_2_E rfl by_2_E sl_22_A rfl rfl (by assumption) (by assumption) (by first | omega | (simp <;> omega)) (by omega) (by omega)) ?_
    rintro _ H21 ⟨g21, rfl, st21, ge21, at21⟩
    have nx_H21 := st21.nx
    replace hle := hle.st st21 (fun k hk => ⟨by omega, trivial⟩)
    replace lst1 := lst1.st st21 (fun k hk ho => by simp only [out, and_true] at ho ⊢ <;> first | exact ho | exact ho.1 | exact ho.2 | exact ho.2.1 | exact ho.2.2 | exact ho.2.2.1 | exact ho.2.2.2 | omega)
    have ne_g20_gL3 : g20 ≠ gL3 := by omega
    replace at20 := st21.same _ _ ⟨ne_g20_gL3, trivial⟩ at20
    have lt_at21 := GHeap.lt_of_get at21
    replace h := base_h.mono hle
    refine .m rfl rfl rfl (.assign rfl) (.nil ?_)
    refine hK7 _ _ ?_
    refine .region ?_
    refine .m rfl rfl rfl (.add rfl rfl rfl (by omega) (by omega)) ?_
    refine .m rfl rfl rfl (.move rfl) (.nil ?_)
    refine hKL1 ((k + 1, _, _)) _ _ ?_ ?_ ⟨rfl, rfl, rfl, rfl, trivial⟩
    ·
     refine ⟨lst1, by first | assumption | (rw [filtN_T hB]; assumption) | (rw [filtN_F hB]; assumption), by omega, by first | omega | (simp only [List.length_append, List.length_cons, List.length_nil] <;> omega) | (rw [filtN_T hB] <;> (first | omega | (simp only [List.length_append, List.length_cons, List.length_nil] <;> omega))) | (rw [filtN_F hB] <;> (first | omega | (simp only [List.length_append, List.length_cons, List.length_nil] <;> omega))), ?_⟩
     omega
    (dsimp only; omega)
   simp only [sps] at h17
   have hB : c.skB k = false := by
     cases e : c.skB k with
     | false => rfl
     | true => exact absurd ((Cat.skP_lead hS (by omega)).2 e) (by omega)
   refine .skip ?_
   refine hK7 _ _ ?_
   refine .region ?_
   refine .m rfl rfl rfl (.add rfl rfl rfl (by omega) (by omega)) ?_
   refine .m rfl rfl rfl (.move rfl) (.nil ?_)
   refine hKL1 ((k + 1, _, _)) _ _ ?_ ?_ ⟨rfl, rfl, rfl, rfl, trivial⟩
   ·
    refine ⟨lst1, by first | assumption | (rw [filtN_T hB]; assumption) | (rw [filtN_F hB]; assumption), by omega, by first | omega | (simp only [List.length_append, List.length_cons, List.length_nil] <;> omega) | (rw [filtN_T hB] <;> (first | omega | (simp only [List.length_append, List.length_cons, List.length_nil] <;> omega))) | (rw [filtN_F hB] <;> (first | omega | (simp only [List.length_append, List.length_cons, List.length_nil] <;> omega))), ?_⟩
    omega
   (dsimp only; omega)
  try simp only [sps] at h10
  refine .exit ?_
  refine hK3 _ _ ?_
  refine .seq (fun K10 hK10 => ?_)
  refine .region (.m rfl rfl rfl (.move rfl) (.m rfl rfl rfl (.assign rfl) (.nil ?_)))
  refine hK10 _ _ ?_
  refine .ret ?_
  refine hret _ _ ?_
  refine ⟨_, rfl, ?_⟩
  obtain rfl : k = c.obj.toNat := by omega
  exact ⟨hle, _, by rw [ln_L3]; rfl, at_L3, by omega⟩
theorem between_c {g o : Nat} {c : Cat} {p : CatP} {os : List Int} {a : Option Addr} {H : GHeap} (h : Cat.At H g o c p := by assumption) (ho : Ints H a os := by assumption) (hS : c.Shape := by assumption) (hl : os.length ≤ 1048576 := by omega) :
    GCalls Try.prog 148 [.pointer (some ⟨g, o, none⟩), .slice a os.length os.length] H (NewInts 2 H (c.among os)) := by
  have b1 := hS.n40
  have b2 := hS.tl
  refine GCalls.body (N := 42) (rs := [.tmp 4]) Try.func148 rfl rfl rfl rfl (fun Qx hret hend => ?_)
  refine .forget (fr' := [(0, some _), (1, some _)]) ⟨rfl, rfl, trivial⟩ ?_
  have hle := GHeap.Le.refl H
  have base_h := h
  have base_ho := ho
  obtain ⟨c0, c1, c2, c3, c4, i1, i2, i3, i4⟩ := h.get
  have hm : MemN _ _ _ _ _ := ⟨rfl, h.1⟩
  have hi := h.2
  refine .seq (fun K1 hK1 => ?_)
  refine .region (.m rfl rfl rfl (.assign rfl) (.nil ?_))
  refine hK1 _ _ ?_
  refine .seq (fun K2 hK2 => ?_)
  refine .region ?_
  refine .r rfl rfl rfl (.litR rfl sl_22_A ze_2_E rfl rfl (by omega) (by omega) rfl rfl) ?_
  rintro _ H7 ⟨g7, rfl, le7, ge7, at7⟩
  have nx_H7 := le7.1
  replace hle := hle.trans le7
  have lt_at7 := GHeap.lt_of_get at7
  replace h := base_h.mono hle
  replace ho := base_ho.mono hle
  clear c0 c1 c2 c3 c4 i1 i2 i3 i4 hm hi
  obtain ⟨c0, c1, c2, c3, c4, i1, i2, i3, i4⟩ := h.get
  have hm : MemN _ _ _ _ _ := ⟨rfl, h.1⟩
  have hi := h.2
  replace at7 : GHeap.get H7 g7 = some (.row (ints []) 2 true) := at7
  refine .m rfl rfl rfl (.assign rfl) (.nil ?_)
  refine hK2 _ _ ?_
  refine .seq (fun K3 hK3 => ?_)
  refine .seq (fun K4 hK4 => ?_)
  refine .region (.m rfl rfl rfl (.move rfl) (.m rfl rfl rfl (.nilCheck rfl) (.m rfl rfl rfl (.fieldAddr fo_27_1_B rfl) ?_)))
  refine .m rfl rfl rfl (.load on_22_B rfl (by assumption)) ?_
  refine .m rfl rfl rfl (.len sl_22_A rfl) (.m rfl rfl rfl (.move rfl) (.nil ?_))
  refine hK4 _ _ ?_
  refine .block ?_
  refine .loopR (σ := Nat × Nat × Nat) [(0, some _), (1, some _), (12, some _)] (fun (k, gL5, nL5) => [(13, some (.int .i64 (k : Int))), (5, some (.slice (some ⟨gL5, 0, none⟩) nL5 nL5))]) (fun (k, gL5, nL5) H' => St [g7] H7 H' ∧ H'.get gL5 = some (.row (ints (filtN k fun f => os.contains (c.src.getD f 0) && os.contains (c.tgt.getD f 0))) 2 true) ∧ (gL5 = g7 ∨ H7.next ≤ gL5) ∧ nL5 = (filtN k fun f => os.contains (c.src.getD f 0) && os.contains (c.tgt.getD f 0)).length ∧ k ≤ c.src.length) (fun (k, gL5, nL5) => c.src.length - k) ((0, _, _)) ⟨rfl, rfl, rfl, trivial⟩ ⟨rfl, rfl, trivial⟩ ?_ ?_
  ·
   refine ⟨.refl _ _, by first | assumption | exact at7 | simpa using at7, .inl rfl, by first | rfl | assumption | simp | omega, ?_⟩
   omega
  rintro ⟨k, gL5, nL5⟩ HL1 ⟨lst1, at_L5, pl_L5, ln_L5, hI⟩ KL1 hKL1
  refine .forget (fr' := [(13, some (.int .i64 (k : Int))), (5, some (.slice (some ⟨gL5, 0, none⟩) nL5 nL5)), (0, some _), (1, some _), (12, some _)]) ⟨rfl, rfl, rfl, rfl, rfl, trivial⟩ ?_
  have ge_L5 : H.next ≤ gL5 := by omega
  have nx_HL1 := lst1.nx
  replace hle := hle.st lst1 (fun k hk => ⟨by omega, trivial⟩)
  have lt_at_L5 := GHeap.lt_of_get at_L5
  replace h := base_h.mono hle
  replace ho := base_ho.mono hle
  clear c0 c1 c2 c3 c4 i1 i2 i3 i4 hm hi
  obtain ⟨c0, c1, c2, c3, c4, i1, i2, i3, i4⟩ := h.get
  have hm : MemN _ _ _ _ _ := ⟨rfl, h.1⟩
  have hi := h.2
  have hfl := filtN_le k fun f => os.contains (c.src.getD f 0) && os.contains (c.tgt.getD f 0)
  refine .seq (fun K5 hK5 => ?_)
  refine .region (.m rfl rfl rfl (.cmp rfl rfl rfl) (.nil ?_))
  refine hK5 _ _ ?_
  refine .seq (fun K6 hK6 => ?_)
  refine .cond rfl (fun h14 => ?_) (fun h14 => ?_)
  ·
   simp only [sps] at h14
   refine .skip ?_
   refine hK6 _ _ ?_
   refine .seq (fun K7 hK7 => ?_)
   refine .block ?_
   refine .seq (fun K8 hK8 => ?_)
   refine .region (.m rfl rfl rfl (.move rfl) (.m rfl rfl rfl (.assign rfl) (.nil ?_)))
   refine hK8 _ _ ?_
   refine .seq (fun K9 hK9 => ?_)
   refine .region (.m rfl rfl rfl (.move rfl) (.m rfl rfl rfl (.move rfl) (.m rfl rfl rfl (.nilCheck rfl) ?_)))
   refine .m rfl rfl rfl (.fieldAddr fo_27_1_B rfl) ?_
   refine .m rfl rfl rfl (.load on_22_B rfl (by assumption)) ?_
   refine .m rfl rfl rfl (.move rfl) ?_
   refine .m rfl rfl rfl (.idxN sl_22_A (by assumption) rfl rfl (by omega)) ?_
   refine .m rfl rfl rfl (.loadI on_2_A (by assumption) rfl (by omega)) ?_
   refine .callQ rfl rfl rfl rfl @Try.call163 rfl (has_c) ?_
   refine .m rfl rfl rfl (.move rfl) ?_
   refine .split (fun h25 => ?_) (fun h25 => ?_)
   ·
    have h25' := h25
    refine .mg rfl rfl rfl rfl rfl (.move rfl) (.mg rfl rfl rfl rfl rfl (.move rfl) (.mg rfl rfl rfl rfl rfl (.nilCheck rfl) (.mg rfl rfl rfl rfl rfl (.fieldAddr fo_27_2_B rfl) ?_)))
    refine .mg rfl rfl rfl rfl rfl (.load on_22_B rfl (by assumption)) ?_
    refine .mg rfl rfl rfl rfl rfl (.move rfl) ?_
    refine .mg rfl rfl rfl rfl rfl (.idxN sl_22_A (by assumption) rfl rfl (by omega)) ?_
    refine .mg rfl rfl rfl rfl rfl (.loadI on_2_A (by assumption) rfl (by omega)) ?_
    refine .callQg rfl rfl rfl rfl rfl rfl @Try.call163 rfl (has_c) ?_
    refine .m rfl rfl rfl (.pickT rfl rfl) (.nil ?_)
    refine hK9 _ _ ?_
    refine .cond rfl (fun h35 => ?_) (fun h35 => ?_)
    ·
     refine .region (.m rfl rfl rfl (.move rfl) (.m rfl rfl rfl (.move rfl) ?_))
     refine .r rfl rfl rfl (.litR rfl sl_22_A ze_2_E rfl rfl (by omega) (by omega) rfl rfl) ?_
     rintro _ H38 ⟨g38, rfl, le38, ge38, at38⟩
     have nx_H38 := le38.1
     replace hle := hle.trans le38
     replace lst1 := lst1.le le38
     replace at_L5 := le38.2 _ _ at_L5
     have lt_at38 := GHeap.lt_of_get at38
     replace h := base_h.mono hle
     replace ho := base_ho.mono hle
     clear c0 c1 c2 c3 c4 i1 i2 i3 i4 hm hi
     obtain ⟨c0, c1, c2, c3, c4, i1, i2, i3, i4⟩ := h.get
     have hm : MemN _ _ _ _ _ := ⟨rfl, h.1⟩
     have hi := h.2
     refine .r rfl rfl rfl (.appendI rfl sl_22_A ze_2_E rfl by_2_E sl_22_A rfl rfl (by assumption) (by assumption) (by first | omega | (simp <;> omega)) (by omega) (by omega)) ?_
     rintro _ H39 ⟨g39, rfl, st39, ge39, at39⟩
     have nx_H39 := st39.nx
     replace hle := hle.st st39 (fun k hk => ⟨by omega, trivial⟩)
     replace lst1 := lst1.st st39 (fun k hk ho => by simp only [out, and_true] at ho ⊢ <;> first | exact ho | exact ho.1 | exact ho.2 | exact ho.2.1 | exact ho.2.2 | exact ho.2.2.1 | exact ho.2.2.2 | omega)
     have ne_g38_gL5 : g38 ≠ gL5 := by omega
     replace at38 := st39.same _ _ ⟨ne_g38_gL5, trivial⟩ at38
     have lt_at39 := GHeap.lt_of_get at39
     replace h := base_h.mono hle
     replace ho := base_ho.mono hle
     clear c0 c1 c2 c3 c4 i1 i2 i3 i4 hm hi
     obtain ⟨c0, c1, c2, c3, c4, i1, i2, i3, i4⟩ := h.get
     have hm : MemN _ _ _ _ _ := ⟨rfl, h.1⟩
     have hi := h.2
     refine .m rfl rfl rfl (.assign rfl) (.nil ?_)
     refine hK7 _ _ ?_
     refine .region ?_
     refine .m rfl rfl rfl (.add rfl rfl rfl (by omega) (by omega)) ?_
     refine .m rfl rfl rfl (.move rfl) (.nil ?_)
     refine hKL1 ((k + 1, _, _)) _ _ ?_ ?_ ⟨rfl, rfl, rfl, rfl, rfl, trivial⟩
     ·
      refine ⟨lst1, by first | assumption | (rw [filtN_T (by simp only [h25', h35]; rfl)]; assumption) | (rw [filtN_F hB]; assumption), by omega, by first | omega | (simp only [List.length_append, List.length_cons, List.length_nil] <;> omega) | (rw [filtN_T (by simp only [h25', h35]; rfl)] <;> (first | omega | (simp only [List.length_append, List.length_cons, List.length_nil] <;> omega))) | (rw [filtN_F hB] <;> (first | omega | (simp only [List.length_append, List.length_cons, List.length_nil] <;> omega))), ?_⟩
      omega
     (dsimp only; omega)
    have hB : (os.contains (c.src.getD k 0) && os.contains (c.tgt.getD k 0)) = false := by rw [h25, h35]; rfl
    refine .skip ?_
    refine hK7 _ _ ?_
    refine .region ?_
    refine .m rfl rfl rfl (.add rfl rfl rfl (by omega) (by omega)) ?_
    refine .m rfl rfl rfl (.move rfl) (.nil ?_)
    refine hKL1 ((k + 1, _, _)) _ _ ?_ ?_ ⟨rfl, rfl, rfl, rfl, rfl, trivial⟩
    ·
     refine ⟨lst1, by first | assumption | (rw [filtN_T (by simp only [h25', h35]; rfl)]; assumption) | (rw [filtN_F hB]; assumption), by omega, by first | omega | (simp only [List.length_append, List.length_cons, List.length_nil] <;> omega) | (rw [filtN_T (by simp only [h25', h35]; rfl)] <;> (first | omega | (simp only [List.length_append, List.length_cons, List.length_nil] <;> omega))) | (rw [filtN_F hB] <;> (first | omega | (simp only [List.length_append, List.length_cons, List.length_nil] <;> omega))), ?_⟩
     omega
    (dsimp only; omega)
   have hB : (os.contains (c.src.getD k 0) && os.contains (c.tgt.getD k 0)) = false := by rw [h25]; rfl
   refine .sg rfl rfl rfl rfl rfl (.sg rfl rfl rfl rfl rfl (.sg rfl rfl rfl rfl rfl (.sg rfl rfl rfl rfl rfl ?_)))
   refine .sg rfl rfl rfl rfl rfl (.sg rfl rfl rfl rfl rfl (.sg rfl rfl rfl rfl rfl (.sg rfl rfl rfl rfl rfl ?_)))
   refine .sg rfl rfl rfl rfl rfl (.m rfl rfl rfl (.pickF rfl rfl) (.nil ?_))
   refine hK9 _ _ ?_
   refine .condF rfl ?_
   refine .skip ?_
   refine hK7 _ _ ?_
   refine .region ?_
   refine .m rfl rfl rfl (.add rfl rfl rfl (by omega) (by omega)) ?_
   refine .m rfl rfl rfl (.move rfl) (.nil ?_)
   refine hKL1 ((k + 1, _, _)) _ _ ?_ ?_ ⟨rfl, rfl, rfl, rfl, rfl, trivial⟩
   ·
    refine ⟨lst1, by first | assumption | (rw [filtN_T (by simp only [h25', h35]; rfl)]; assumption) | (rw [filtN_F hB]; assumption), by omega, by first | omega | (simp only [List.length_append, List.length_cons, List.length_nil] <;> omega) | (rw [filtN_T (by simp only [h25', h35]; rfl)] <;> (first | omega | (simp only [List.length_append, List.length_cons, List.length_nil] <;> omega))) | (rw [filtN_F hB] <;> (first | omega | (simp only [List.length_append, List.length_cons, List.length_nil] <;> omega))), ?_⟩
    omega
   (dsimp only; omega)
  try simp only [sps] at h14
  refine .exit ?_
  refine hK3 _ _ ?_
  refine .seq (fun K10 hK10 => ?_)
  refine .region (.m rfl rfl rfl (.move rfl) (.m rfl rfl rfl (.assign rfl) (.nil ?_)))
  refine hK10 _ _ ?_
  refine .ret ?_
  refine hret _ _ ?_
  refine ⟨_, rfl, ?_⟩
  obtain rfl : k = c.src.length := by omega
  exact ⟨hle, _, by rw [ln_L5]; rfl, at_L5, by omega⟩
theorem skeletonArrows_c {g o : Nat} {c : Cat} {p : CatP} {H : GHeap} (h : Cat.At H g o c p := by assumption) (hS : c.Shape := by assumption) :
    GCalls Try.prog 106 [.pointer (some ⟨g, o, none⟩)] H (NewInts 2 H (c.among c.skO)) := by
  have b1 := hS.obj
  have b2 := filtN_le c.obj.toNat c.skB
  have b3 : c.skO.length ≤ 8 := by unfold Cat.skO; omega
  refine GCalls.body (N := 8) (rs := [.tmp 2]) Try.func106 rfl rfl rfl rfl (fun Qx hret hend => ?_)
  refine .forget (fr' := [(0, some _)]) ⟨rfl, trivial⟩ ?_
  have hle := GHeap.Le.refl H
  have base_h := h
  refine .seq (fun K1 hK1 => ?_)
  refine .region (.m rfl rfl rfl (.assign rfl) (.nil ?_))
  refine hK1 _ _ ?_
  refine .seq (fun K2 hK2 => ?_)
  refine .region (.m rfl rfl rfl (.move rfl) (.m rfl rfl rfl (.move rfl) ?_))
  refine .call rfl rfl rfl rfl @Try.call149 rfl (isoClasses_c) ?_
  rintro _ H5 ⟨le5, g5, rfl, at5, ge5⟩
  have nx_H5 := le5.1
  replace hle := hle.trans le5
  have lt_at5 := GHeap.lt_of_get at5
  replace h := base_h.mono hle
  have i5 := Ints.of_get at5
  refine .call rfl rfl rfl rfl @Try.call150 rfl (leaders_c) ?_
  rintro _ H6 ⟨le6, g6, rfl, at6, ge6⟩
  have nx_H6 := le6.1
  replace hle := hle.trans le6
  replace at5 := le6.2 _ _ at5
  have lt_at6 := GHeap.lt_of_get at6
  replace h := base_h.mono hle
  clear i5
  have i5 := Ints.of_get at5
  have i6 := Ints.of_get at6
  refine .call rfl rfl rfl rfl @Try.call148 rfl (between_c) ?_
  rintro _ H7 ⟨le7, g7, rfl, at7, ge7⟩
  have nx_H7 := le7.1
  replace hle := hle.trans le7
  replace at5 := le7.2 _ _ at5
  replace at6 := le7.2 _ _ at6
  have lt_at7 := GHeap.lt_of_get at7
  replace h := base_h.mono hle
  clear i5
  have i5 := Ints.of_get at5
  clear i6
  have i6 := Ints.of_get at6
  have i7 := Ints.of_get at7
  refine .m rfl rfl rfl (.assign rfl) (.nil ?_)
  refine hK2 _ _ ?_
  refine .ret ?_
  refine hret _ _ ?_
  refine ⟨_, rfl, ?_⟩
  exact ⟨hle, _, rfl, at7, by omega⟩
end Go.Proofs.Ytgnfekfdmgnhcaa
/- The table of composites that a function answers for. No condition but those of each statement. -/
namespace Go.Proofs.Ytgnfekfdmgnhcaa
open Go Go.GL Go.RowKit Go.Proofs
end Go.Proofs.Ytgnfekfdmgnhcaa
/- Parts of categories: the reference's. No condition but those of each statement. -/
namespace Go.Proofs.Ytgnfekfdmgnhcaa
open Go Go.GL Go.RowKit Go.Proofs
theorem bt_27_Kb : buildT Try.prog 27 = some ([.int .i64 0, .slice none 0 0, .slice none 0 0, .slice none 0 0, .slice none 0 0], [(0, 1), (1, 1), (2, 1), (3, 1), (4, 1)]) := by kernel_rfl
set_option maxHeartbeats 4000000 in
theorem l02Part_c {c : Cat} {p : CatP} {a : Option Addr} {xs : List Int} {H : GHeap} (hin : c.In H p := by assumption) (h : Ints H a xs := by assumption) (hS : c.Shape) (hC : c.Closed xs) :
    GCalls Try.prog 100 [.agg (c.cells p).toArray, .slice a xs.length xs.length] H (NewCatR H (c.part xs)) := by
  have b1 := hS.n40
  have b2 := hS.tl
  have b3 := hS.cl
  have b4 := hS.il
  have b5 := hS.obj
  have b6 := hC.len
  have b7 : (c.partO xs).length ≤ 8 := by have := c.partO_len xs; omega
  refine GCalls.body (N := 127) (rs := [.cell 4 27]) Try.func100 rfl rfl rfl rfl (fun Qx hret hend => ?_)
  refine .forget (fr' := [(0, some _), (1, some _)]) ⟨rfl, rfl, trivial⟩ ?_
  have hle := GHeap.Le.refl H
  have base_hin := hin
  have base_h := h
  refine .seq (fun K1 hK1 => ?_)
  refine .region ?_
  refine .r rfl rfl rfl (.boxR rfl sz_27_D rfl) ?_
  rintro _ H2 ⟨g2, rfl, le2, ge2, at2⟩
  have nx_H2 := le2.1
  replace hle := hle.trans le2
  have lt_at2 := GHeap.lt_of_get at2
  replace hin := base_hin.mono hle
  replace h := base_h.mono hle
  have hb2 : Cat.At _ g2 0 c p := ⟨Mem.of_get at2, hin⟩
  obtain ⟨c02, c12, c22, c32, c42, i12, i22, i32, i42⟩ := hb2.get
  have hm2 : MemN _ _ _ _ _ := ⟨rfl, hb2.1⟩
  have hi2 := hb2.2
  refine .r rfl rfl rfl (.allocR rfl ze_27_E rfl) ?_
  rintro _ H4 ⟨g4, rfl, le4, ge4, at4⟩
  have nx_H4 := le4.1
  replace hle := hle.trans le4
  replace at2 := le4.2 _ _ at2
  have lt_at4 := GHeap.lt_of_get at4
  replace hin := base_hin.mono hle
  replace h := base_h.mono hle
  clear hb2 c02 c12 c22 c32 c42 i12 i22 i32 i42 hm2 hi2
  have hb2 : Cat.At _ g2 0 c p := ⟨Mem.of_get at2, hin⟩
  obtain ⟨c02, c12, c22, c32, c42, i12, i22, i32, i42⟩ := hb2.get
  have hm2 : MemN _ _ _ _ _ := ⟨rfl, hb2.1⟩
  have hi2 := hb2.2
  refine .nil ?_
  refine hK1 _ _ ?_
  refine .seq (fun K2 hK2 => ?_)
  refine .region ?_
  refine .r rfl rfl rfl (.litR rfl sl_22_A ze_2_E rfl rfl (by omega) (by omega) rfl rfl) ?_
  rintro _ H12 ⟨g12, rfl, le12, ge12, at12⟩
  have nx_H12 := le12.1
  replace hle := hle.trans le12
  replace at2 := le12.2 _ _ at2
  replace at4 := le12.2 _ _ at4
  have lt_at12 := GHeap.lt_of_get at12
  replace hin := base_hin.mono hle
  replace h := base_h.mono hle
  clear hb2 c02 c12 c22 c32 c42 i12 i22 i32 i42 hm2 hi2
  have hb2 : Cat.At _ g2 0 c p := ⟨Mem.of_get at2, hin⟩
  obtain ⟨c02, c12, c22, c32, c42, i12, i22, i32, i42⟩ := hb2.get
  have hm2 : MemN _ _ _ _ _ := ⟨rfl, hb2.1⟩
  have hi2 := hb2.2
  replace at12 : GHeap.get H12 g12 = some (.row (ints []) 2 true) := at12
  refine .m rfl rfl rfl (.assign rfl) (.nil ?_)
  refine hK2 _ _ ?_
  refine .seq (fun K3 hK3 => ?_)
  refine .seq (fun K4 hK4 => ?_)
  refine .region (.m rfl rfl rfl (.assign rfl) (.nil ?_))
  refine hK4 _ _ ?_
  refine .block ?_
  refine .loopR (σ := Nat × Nat × Nat) [(1, some _), (2, some _), (4, some _)] (fun (k, gL5, nL5) => [(6, some (.int .i64 (k : Int))), (5, some (.slice (some ⟨gL5, 0, none⟩) nL5 nL5))]) (fun (k, gL5, nL5) H' => St [g12] H12 H' ∧ H'.get gL5 = some (.row (ints (filtN k (c.hasId xs))) 2 true) ∧ PL gL5 g12 H12.next ∧ nL5 = (filtN k (c.hasId xs)).length ∧ k ≤ c.obj.toNat) (fun (k, gL5, nL5) => c.obj.toNat - k) ((0, _, _)) ⟨rfl, rfl, rfl, trivial⟩ ⟨rfl, rfl, trivial⟩ ?_ ?_
  ·
   refine ⟨.refl _ _, by first | assumption | exact at12 | simpa using at12, ⟨.inl rfl⟩, by first | rfl | assumption | simp | omega, ?_⟩
   omega
  rintro ⟨k, gL5, nL5⟩ HL1 ⟨lst1, at_L5, pl_L5, ln_L5, hI⟩ KL1 hKL1
  refine .forget (fr' := [(6, some (.int .i64 (k : Int))), (5, some (.slice (some ⟨gL5, 0, none⟩) nL5 nL5)), (1, some _), (2, some _), (4, some _)]) ⟨rfl, rfl, rfl, rfl, rfl, trivial⟩ ?_
  have ge_L5 : H.next ≤ gL5 := pl_L5.ge (by omega) (by omega)
  have nx_HL1 := lst1.nx
  replace hle := hle.st lst1 (fun k hk => ⟨by omega, trivial⟩)
  have ne_g2_g12 : g2 ≠ g12 := by omega
  replace at2 := lst1.same _ _ ⟨ne_g2_g12, trivial⟩ at2
  have ne_g4_g12 : g4 ≠ g12 := by omega
  replace at4 := lst1.same _ _ ⟨ne_g4_g12, trivial⟩ at4
  have lt_at_L5 := GHeap.lt_of_get at_L5
  replace hin := base_hin.mono hle
  replace h := base_h.mono hle
  clear hb2 c02 c12 c22 c32 c42 i12 i22 i32 i42 hm2 hi2
  have hb2 : Cat.At _ g2 0 c p := ⟨Mem.of_get at2, hin⟩
  obtain ⟨c02, c12, c22, c32, c42, i12, i22, i32, i42⟩ := hb2.get
  have hm2 : MemN _ _ _ _ _ := ⟨rfl, hb2.1⟩
  have hi2 := hb2.2
  have hfl := filtN_le k (c.hasId xs)
  refine .seq (fun K5 hK5 => ?_)
  refine .seq (fun K6 hK6 => ?_)
  refine .region (.m rfl rfl rfl (.move rfl) (.m rfl rfl rfl (.fieldAddr fo_27_0_B rfl) ?_))
  refine .m rfl rfl rfl (.load on_2_A rfl (by first | assumption | exact Mem.of_get at2 0 _ rfl)) ?_
  refine .m rfl rfl rfl (.cmp rfl rfl rfl) (.nil ?_)
  refine hK6 _ _ ?_
  refine .cond rfl (fun h16 => ?_) (fun h16 => ?_)
  ·
   simp only [sps] at h16
   refine .skip ?_
   refine hK5 _ _ ?_
   refine .seq (fun K7 hK7 => ?_)
   refine .block ?_
   refine .seq (fun K8 hK8 => ?_)
   refine .region (.m rfl rfl rfl (.move rfl) (.m rfl rfl rfl (.fieldAddr fo_27_3_B rfl) ?_))
   refine .m rfl rfl rfl (.load on_22_B rfl (by first | assumption | exact Mem.of_get at2 3 _ rfl)) ?_
   refine .m rfl rfl rfl (.move rfl) ?_
   refine .m rfl rfl rfl (.idxN sl_22_A (by assumption) rfl rfl (by omega)) ?_
   refine .m rfl rfl rfl (.loadI on_2_A (by assumption) rfl (by omega)) ?_
   refine .callQ rfl rfl rfl rfl @Try.call142 rfl (l01Has_c) ?_
   refine .nil ?_
   refine hK8 _ _ ?_
   refine .cond rfl (fun h25 => ?_) (fun h25 => ?_)
   ·
    refine .region (.m rfl rfl rfl (.move rfl) (.m rfl rfl rfl (.move rfl) ?_))
    refine .r rfl rfl rfl (.litR rfl sl_22_A ze_2_E rfl rfl (by omega) (by omega) rfl rfl) ?_
    rintro _ H28 ⟨g28, rfl, le28, ge28, at28⟩
    have nx_H28 := le28.1
    replace hle := hle.trans le28
    replace lst1 := lst1.le le28
    replace at2 := le28.2 _ _ at2
    replace at4 := le28.2 _ _ at4
    replace at_L5 := le28.2 _ _ at_L5
    have lt_at28 := GHeap.lt_of_get at28
    replace hin := base_hin.mono hle
    replace h := base_h.mono hle
    clear hb2 c02 c12 c22 c32 c42 i12 i22 i32 i42 hm2 hi2
    have hb2 : Cat.At _ g2 0 c p := ⟨Mem.of_get at2, hin⟩
    obtain ⟨c02, c12, c22, c32, c42, i12, i22, i32, i42⟩ := hb2.get
    have hm2 : MemN _ _ _ _ _ := ⟨rfl, hb2.1⟩
    have hi2 := hb2.2
    refine .r rfl rfl rfl (.appendI rfl sl_22_A ze_2_E rfl by_2_E sl_22_A rfl rfl (by assumption) (by assumption) (by first | omega | (simp <;> omega)) (by omega) (by omega)) ?_
    rintro _ H29 ⟨g29, rfl, st29, ge29, at29⟩
    have nx_H29 := st29.nx
    replace hle := hle.st st29 (fun k hk => ⟨by omega, trivial⟩)
    replace lst1 := lst1.st st29 (fun k hk ho => by simp only [out, and_true] at ho ⊢ <;> first | omega | (first | exact ho | exact ho.1 | exact ho.2 | exact ho.2.1 | exact ho.2.2 | exact ho.2.2.1 | exact ho.2.2.2 | exact pl_L5.ne (by first | omega | (first | exact ho | exact ho.1 | exact ho.2 | exact ho.2.1 | exact ho.2.2 | exact ho.2.2.1 | exact ho.2.2.2)) (by omega)))
    have ne_g2_gL5 : g2 ≠ gL5 := pl_L5.ne ne_g2_g12 (by omega)
    replace at2 := st29.same _ _ ⟨ne_g2_gL5, trivial⟩ at2
    have ne_g4_gL5 : g4 ≠ gL5 := pl_L5.ne ne_g4_g12 (by omega)
    replace at4 := st29.same _ _ ⟨ne_g4_gL5, trivial⟩ at4
    have ne_g28_gL5 : g28 ≠ gL5 := by omega
    replace at28 := st29.same _ _ ⟨ne_g28_gL5, trivial⟩ at28
    have lt_at29 := GHeap.lt_of_get at29
    replace hin := base_hin.mono hle
    replace h := base_h.mono hle
    clear hb2 c02 c12 c22 c32 c42 i12 i22 i32 i42 hm2 hi2
    have hb2 : Cat.At _ g2 0 c p := ⟨Mem.of_get at2, hin⟩
    obtain ⟨c02, c12, c22, c32, c42, i12, i22, i32, i42⟩ := hb2.get
    have hm2 : MemN _ _ _ _ _ := ⟨rfl, hb2.1⟩
    have hi2 := hb2.2
    refine .m rfl rfl rfl (.assign rfl) (.nil ?_)
    refine hK7 _ _ ?_
    refine .region (.m rfl rfl rfl (.move rfl) ?_)
    refine .m rfl rfl rfl (.add rfl rfl rfl (by omega) (by omega)) ?_
    refine .m rfl rfl rfl (.assign rfl) (.nil ?_)
    refine hKL1 ((k + 1, _, _)) _ _ ?_ ?_ ⟨rfl, rfl, rfl, rfl, rfl, trivial⟩
    ·
     refine ⟨lst1, by first | assumption | (rw [filtN_T h25]; assumption) | (rw [filtN_F h25]; assumption), by first | assumption | exact ⟨.inr (by omega)⟩ | exact ⟨.inl rfl⟩, by first | omega | (simp only [List.length_append, List.length_cons, List.length_nil] <;> omega) | (rw [filtN_T h25] <;> (first | omega | (simp only [List.length_append, List.length_cons, List.length_nil] <;> omega))) | (rw [filtN_F h25] <;> (first | omega | (simp only [List.length_append, List.length_cons, List.length_nil] <;> omega))), ?_⟩
     omega
    (dsimp only; omega)
   refine .skip ?_
   refine hK7 _ _ ?_
   refine .region (.m rfl rfl rfl (.move rfl) ?_)
   refine .m rfl rfl rfl (.add rfl rfl rfl (by omega) (by omega)) ?_
   refine .m rfl rfl rfl (.assign rfl) (.nil ?_)
   refine hKL1 ((k + 1, _, _)) _ _ ?_ ?_ ⟨rfl, rfl, rfl, rfl, rfl, trivial⟩
   ·
    refine ⟨lst1, by first | assumption | (rw [filtN_T h25]; assumption) | (rw [filtN_F h25]; assumption), by first | assumption | exact ⟨.inr (by omega)⟩ | exact ⟨.inl rfl⟩, by first | omega | (simp only [List.length_append, List.length_cons, List.length_nil] <;> omega) | (rw [filtN_T h25] <;> (first | omega | (simp only [List.length_append, List.length_cons, List.length_nil] <;> omega))) | (rw [filtN_F h25] <;> (first | omega | (simp only [List.length_append, List.length_cons, List.length_nil] <;> omega))), ?_⟩
    omega
   (dsimp only; omega)
  try simp only [sps] at h16
  refine .exit ?_
  refine hK3 _ _ ?_
  refine .seq (fun K9 hK9 => ?_)
  refine .region ?_
  obtain rfl : k = c.obj.toNat := by omega
  have hpo : filtN c.obj.toNat (c.hasId xs) = c.partO xs := rfl
  rw [hpo] at at_L5 ln_L5
  obtain rfl := ln_L5
  refine .m rfl rfl rfl (.move rfl) (.m rfl rfl rfl (.len sl_22_A rfl) ?_)
  refine .r rfl rfl rfl (.litR rfl sl_22_A ze_2_E rfl rfl (by omega) (by omega) rfl rfl) ?_
  rintro _ H32 ⟨g32, rfl, le32, ge32, at32⟩
  have nx_H32 := le32.1
  replace hle := hle.trans le32
  replace lst1 := lst1.le le32
  replace at2 := le32.2 _ _ at2
  replace at4 := le32.2 _ _ at4
  replace at_L5 := le32.2 _ _ at_L5
  have lt_at32 := GHeap.lt_of_get at32
  replace hin := base_hin.mono hle
  replace h := base_h.mono hle
  clear hb2 c02 c12 c22 c32 c42 i12 i22 i32 i42 hm2 hi2
  have hb2 : Cat.At _ g2 0 c p := ⟨Mem.of_get at2, hin⟩
  obtain ⟨c02, c12, c22, c32, c42, i12, i22, i32, i42⟩ := hb2.get
  have hm2 : MemN _ _ _ _ _ := ⟨rfl, hb2.1⟩
  have hi2 := hb2.2
  replace at32 : GHeap.get H32 g32 = some (.row (ints []) 2 true) := at32
  refine .r rfl rfl rfl (.litR rfl sl_22_A ze_2_E rfl rfl (by omega) (by omega) rfl rfl) ?_
  rintro _ H33 ⟨g33, rfl, le33, ge33, at33⟩
  have nx_H33 := le33.1
  replace hle := hle.trans le33
  replace lst1 := lst1.le le33
  replace at2 := le33.2 _ _ at2
  replace at4 := le33.2 _ _ at4
  replace at_L5 := le33.2 _ _ at_L5
  replace at32 := le33.2 _ _ at32
  have lt_at33 := GHeap.lt_of_get at33
  replace hin := base_hin.mono hle
  replace h := base_h.mono hle
  clear hb2 c02 c12 c22 c32 c42 i12 i22 i32 i42 hm2 hi2
  have hb2 : Cat.At _ g2 0 c p := ⟨Mem.of_get at2, hin⟩
  obtain ⟨c02, c12, c22, c32, c42, i12, i22, i32, i42⟩ := hb2.get
  have hm2 : MemN _ _ _ _ _ := ⟨rfl, hb2.1⟩
  have hi2 := hb2.2
  replace at33 : GHeap.get H33 g33 = some (.row (ints []) 2 true) := at33
  refine .r rfl rfl rfl (.litR rfl sl_22_A ze_2_E rfl rfl (by omega) (by omega) rfl rfl) ?_
  rintro _ H34 ⟨g34, rfl, le34, ge34, at34⟩
  have nx_H34 := le34.1
  replace hle := hle.trans le34
  replace lst1 := lst1.le le34
  replace at2 := le34.2 _ _ at2
  replace at4 := le34.2 _ _ at4
  replace at_L5 := le34.2 _ _ at_L5
  replace at32 := le34.2 _ _ at32
  replace at33 := le34.2 _ _ at33
  have lt_at34 := GHeap.lt_of_get at34
  replace hin := base_hin.mono hle
  replace h := base_h.mono hle
  clear hb2 c02 c12 c22 c32 c42 i12 i22 i32 i42 hm2 hi2
  have hb2 : Cat.At _ g2 0 c p := ⟨Mem.of_get at2, hin⟩
  obtain ⟨c02, c12, c22, c32, c42, i12, i22, i32, i42⟩ := hb2.get
  have hm2 : MemN _ _ _ _ _ := ⟨rfl, hb2.1⟩
  have hi2 := hb2.2
  replace at34 : GHeap.get H34 g34 = some (.row (ints []) 2 true) := at34
  refine .r rfl rfl rfl (.litR rfl sl_23_B ze_22_E rfl rfl (by omega) (by omega) rfl rfl) ?_
  rintro _ H35 ⟨g35, rfl, le35, ge35, at35⟩
  have nx_H35 := le35.1
  replace hle := hle.trans le35
  replace lst1 := lst1.le le35
  replace at2 := le35.2 _ _ at2
  replace at4 := le35.2 _ _ at4
  replace at_L5 := le35.2 _ _ at_L5
  replace at32 := le35.2 _ _ at32
  replace at33 := le35.2 _ _ at33
  replace at34 := le35.2 _ _ at34
  have lt_at35 := GHeap.lt_of_get at35
  replace hin := base_hin.mono hle
  replace h := base_h.mono hle
  clear hb2 c02 c12 c22 c32 c42 i12 i22 i32 i42 hm2 hi2
  have hb2 : Cat.At _ g2 0 c p := ⟨Mem.of_get at2, hin⟩
  obtain ⟨c02, c12, c22, c32, c42, i12, i22, i32, i42⟩ := hb2.get
  have hm2 : MemN _ _ _ _ _ := ⟨rfl, hb2.1⟩
  have hi2 := hb2.2
  refine .m rfl rfl rfl (.build bt_27_Kb rfl rfl rfl) ?_
  refine .r rfl rfl rfl (.allocR rfl ze_27_E rfl) ?_
  rintro _ H7 ⟨g7, rfl, le7, ge7, at7⟩
  have nx_H7 := le7.1
  replace hle := hle.trans le7
  replace lst1 := lst1.le le7
  replace at2 := le7.2 _ _ at2
  replace at4 := le7.2 _ _ at4
  replace at_L5 := le7.2 _ _ at_L5
  replace at32 := le7.2 _ _ at32
  replace at33 := le7.2 _ _ at33
  replace at34 := le7.2 _ _ at34
  replace at35 := le7.2 _ _ at35
  have lt_at7 := GHeap.lt_of_get at7
  replace hin := base_hin.mono hle
  replace h := base_h.mono hle
  clear hb2 c02 c12 c22 c32 c42 i12 i22 i32 i42 hm2 hi2
  have hb2 : Cat.At _ g2 0 c p := ⟨Mem.of_get at2, hin⟩
  obtain ⟨c02, c12, c22, c32, c42, i12, i22, i32, i42⟩ := hb2.get
  have hm2 : MemN _ _ _ _ _ := ⟨rfl, hb2.1⟩
  have hi2 := hb2.2
  refine .r0 rfl rfl (.fillR rfl sz_27_D rfl rfl rfl rfl (by assumption) (by first | rfl | exact Nat.le_of_ble_eq_true rfl | simp)) ?_
  rintro _ H7008 ⟨rfl, st7008, at7008⟩
  have nx_H7008 := st7008.nx
  replace hle := hle.st st7008 (fun k hk => ⟨by omega, trivial⟩)
  replace lst1 := lst1.st st7008 (fun k hk ho => by simp only [out, and_true] at ho ⊢ <;> first | omega | (first | exact ho | exact ho.1 | exact ho.2 | exact ho.2.1 | exact ho.2.2 | exact ho.2.2.1 | exact ho.2.2.2))
  have ne_g2_g7 : g2 ≠ g7 := by omega
  replace at2 := st7008.same _ _ ⟨ne_g2_g7, trivial⟩ at2
  have ne_g4_g7 : g4 ≠ g7 := by omega
  replace at4 := st7008.same _ _ ⟨ne_g4_g7, trivial⟩ at4
  have ne_gL5_g7 : gL5 ≠ g7 := by omega
  replace at_L5 := st7008.same _ _ ⟨ne_gL5_g7, trivial⟩ at_L5
  have ne_g32_g7 : g32 ≠ g7 := by omega
  replace at32 := st7008.same _ _ ⟨ne_g32_g7, trivial⟩ at32
  have ne_g33_g7 : g33 ≠ g7 := by omega
  replace at33 := st7008.same _ _ ⟨ne_g33_g7, trivial⟩ at33
  have ne_g34_g7 : g34 ≠ g7 := by omega
  replace at34 := st7008.same _ _ ⟨ne_g34_g7, trivial⟩ at34
  have ne_g35_g7 : g35 ≠ g7 := by omega
  replace at35 := st7008.same _ _ ⟨ne_g35_g7, trivial⟩ at35
  have lt_at7008 := GHeap.lt_of_get at7008
  replace hin := base_hin.mono hle
  replace h := base_h.mono hle
  clear hb2 c02 c12 c22 c32 c42 i12 i22 i32 i42 hm2 hi2
  have hb2 : Cat.At _ g2 0 c p := ⟨Mem.of_get at2, hin⟩
  obtain ⟨c02, c12, c22, c32, c42, i12, i22, i32, i42⟩ := hb2.get
  have hm2 : MemN _ _ _ _ _ := ⟨rfl, hb2.1⟩
  have hi2 := hb2.2
  have mm7008 : MemN _ _ _ _ _ := ⟨rfl, Mem.of_get at7008⟩
  refine .nil ?_
  refine hK9 _ _ ?_
  refine .seq (fun K10 hK10 => ?_)
  refine .seq (fun K11 hK11 => ?_)
  refine .region (.m rfl rfl rfl (.assign rfl) (.nil ?_))
  refine hK11 _ _ ?_
  refine .block ?_
  refine .loopR (σ := Nat × Nat) [(1, some _), (2, some _), (4, some _), (5, some _), (7, some _)] (fun (x, gLI) => [(8, some (.int .i64 (x : Int)))]) (fun (x, gLI) H' => St [g34, g7] H7008 H' ∧ H'.get gLI = some (.row (ints (((c.partO xs).take x).map fun x => idxL xs (c.idn.getD x.toNat 0))) 2 true) ∧ PL gLI g34 H7008.next ∧ H'.get g7 = some (.row ([.int .i64 ((c.partO xs).length : Int), .slice (some ⟨g32, 0, none⟩) 0 0, .slice (some ⟨g33, 0, none⟩) 0 0, .slice (some ⟨gLI, 0, none⟩) x x, .slice (some ⟨g35, 0, none⟩) 0 0]) 27 true) ∧ gLI ≠ g7 ∧ x ≤ (c.partO xs).length) (fun (x, gLI) => (c.partO xs).length - x) ((0, g34)) ⟨rfl, rfl, rfl, rfl, rfl, trivial⟩ ⟨rfl, trivial⟩ ?_ ?_
  ·
   refine ⟨.refl _ _, by first | assumption | exact at34 | simpa using at34, ⟨.inl rfl⟩, by first | assumption | exact at7008 | simpa using at7008, by omega, ?_⟩
   omega
  rintro ⟨x, gLI⟩ HL2 ⟨lst2, at_LI, pl_LI, at_Lg7, ap2_0, hI⟩ KL2 hKL2
  refine .forget (fr' := [(8, some (.int .i64 (x : Int))), (1, some _), (2, some _), (4, some _), (5, some _), (7, some _)]) ⟨rfl, rfl, rfl, rfl, rfl, rfl, trivial⟩ ?_
  have ge_LI : H.next ≤ gLI := pl_LI.ge (by omega) (by omega)
  have nx_HL2 := lst2.nx
  replace hle := hle.st lst2 (fun k hk => ⟨by omega, by omega, trivial⟩)
  replace lst1 := lst1.st lst2 (fun k hk ho => by simp only [out, and_true] at ho ⊢ <;> first | exact ho | exact ho.1 | exact ho.2 | exact ho.2.1 | exact ho.2.2 | exact ho.2.2.1 | exact ho.2.2.2 | omega)
  have ne_g2_g34 : g2 ≠ g34 := by omega
  replace at2 := lst2.same _ _ ⟨ne_g2_g34, ne_g2_g7, trivial⟩ at2
  have ne_g4_g34 : g4 ≠ g34 := by omega
  replace at4 := lst2.same _ _ ⟨ne_g4_g34, ne_g4_g7, trivial⟩ at4
  have ne_gL5_g34 : gL5 ≠ g34 := by omega
  replace at_L5 := lst2.same _ _ ⟨ne_gL5_g34, ne_gL5_g7, trivial⟩ at_L5
  have ne_g32_g34 : g32 ≠ g34 := by omega
  replace at32 := lst2.same _ _ ⟨ne_g32_g34, ne_g32_g7, trivial⟩ at32
  have ne_g33_g34 : g33 ≠ g34 := by omega
  replace at33 := lst2.same _ _ ⟨ne_g33_g34, ne_g33_g7, trivial⟩ at33
  have ne_g35_g34 : g35 ≠ g34 := by omega
  replace at35 := lst2.same _ _ ⟨ne_g35_g34, ne_g35_g7, trivial⟩ at35
  have lt_at_LI := GHeap.lt_of_get at_LI
  have lt_at_Lg7 := GHeap.lt_of_get at_Lg7
  replace hin := base_hin.mono hle
  replace h := base_h.mono hle
  clear hb2 c02 c12 c22 c32 c42 i12 i22 i32 i42 hm2 hi2
  have hb2 : Cat.At _ g2 0 c p := ⟨Mem.of_get at2, hin⟩
  obtain ⟨c02, c12, c22, c32, c42, i12, i22, i32, i42⟩ := hb2.get
  have hm2 : MemN _ _ _ _ _ := ⟨rfl, hb2.1⟩
  have hi2 := hb2.2
  clear mm7008
  have mm7008 : MemN _ _ _ _ _ := ⟨rfl, Mem.of_get at7008⟩
  refine .seq (fun K12 hK12 => ?_)
  refine .seq (fun K13 hK13 => ?_)
  refine .region (.m rfl rfl rfl (.move rfl) (.m rfl rfl rfl (.move rfl) (.m rfl rfl rfl (.len sl_22_A rfl) ?_)))
  refine .m rfl rfl rfl (.cmp rfl rfl rfl) (.nil ?_)
  refine hK13 _ _ ?_
  refine .cond rfl (fun h40 => ?_) (fun h40 => ?_)
  ·
   simp only [sps] at h40
   obtain ⟨o1, o2, o3, o4⟩ := filtN_get (n := c.obj.toNat) (p := c.hasId xs) (i := x) (by show _ < (c.partO xs).length; omega)
   have o5 : (c.partO xs).getD x 0 = (o1 : Int) := o4
   refine .skip ?_
   refine hK12 _ _ ?_
   refine .seq (fun K14 hK14 => ?_)
   refine .block ?_
   refine .regionD mixed_orders_B (.q 0 (.q 1 (.q 2 (.q 3 (.q 4 (.q 5 (.q 6 (.q 7 (.q 8 (.q 9 (.q 10 (.c 11 1 (.c 12 1 (.c 13 0 (.q 14 (.c 15 0 (.done))))))))))))))))) (by kernel_rfl) ?_
   refine .m rfl rfl rfl rfl (.refl _) (.fieldAddr fo_27_3_B rfl) ?_
   refine .m rfl rfl rfl rfl (.refl _) (.load on_22_B rfl (by first | assumption | exact Mem.of_get at_Lg7 3 _ rfl)) ?_
   refine .m rfl rfl rfl rfl (.refl _) (.move rfl) (.m rfl rfl rfl rfl (.refl _) (.fieldAddr fo_27_3_B rfl) ?_)
   refine .m rfl rfl rfl rfl (.refl _) (.load on_22_B rfl (by first | assumption | exact Mem.of_get at2 3 _ rfl)) ?_
   refine .m rfl rfl rfl rfl (.refl _) (.move rfl) (.m rfl rfl rfl rfl (.refl _) (.move rfl) ?_)
   refine .m rfl rfl rfl rfl (.refl _) (.idxN sl_22_A (by first | assumption | exact SlA.of_row at_L5 (by first | rfl | (simp; done) | (simp <;> omega))) rfl rfl (by omega)) ?_
   refine .m rfl rfl rfl rfl (.refl _) (.loadI on_2_A (by first | assumption | exact Ints.of_get at_L5) rfl (by omega)) ?_
   refine .m rfl rfl rfl rfl (.refl _) (.idx1 sl_22_A (by assumption) rfl rfl (by omega) (by omega)) ?_
   refine .m rfl rfl rfl rfl (.refl _) (.loadI on_2_A (by assumption) rfl (by omega)) ?_
   refine .callQ1 rfl rfl rfl rfl rfl @Try.call143 rfl (l01Index_c) (.refl _) ?_
   refine .c1 rfl rfl rfl rfl (.litR rfl sl_22_A ze_2_E rfl rfl (by omega) (by omega) rfl rfl) ?_
   rintro _ H55 ⟨g55, rfl, le55, ge55, at55⟩
   have hbl := le55
   refine ⟨hbl, ?_⟩
   have nx_H55 := le55.1
   replace hle := hle.trans le55
   replace lst1 := lst1.le le55
   replace lst2 := lst2.le le55
   replace at2 := le55.2 _ _ at2
   replace at4 := le55.2 _ _ at4
   replace at_L5 := le55.2 _ _ at_L5
   replace at32 := le55.2 _ _ at32
   replace at33 := le55.2 _ _ at33
   replace at35 := le55.2 _ _ at35
   replace at_LI := le55.2 _ _ at_LI
   replace at_Lg7 := le55.2 _ _ at_Lg7
   have lt_at55 := GHeap.lt_of_get at55
   replace hin := base_hin.mono hle
   replace h := base_h.mono hle
   clear hb2 c02 c12 c22 c32 c42 i12 i22 i32 i42 hm2 hi2
   have hb2 : Cat.At _ g2 0 c p := ⟨Mem.of_get at2, hin⟩
   obtain ⟨c02, c12, c22, c32, c42, i12, i22, i32, i42⟩ := hb2.get
   have hm2 : MemN _ _ _ _ _ := ⟨rfl, hb2.1⟩
   have hi2 := hb2.2
   clear mm7008
   have mm7008 : MemN _ _ _ _ _ := ⟨rfl, Mem.of_get at7008⟩
   refine .c0 rfl rfl rfl rfl (.appendI rfl sl_22_A ze_2_E rfl by_2_E sl_22_A rfl rfl (by assumption) (by assumption) (by first | omega | (simp <;> omega)) (by omega) (by omega)) ?_
   rintro _ H56 ⟨g56, rfl, st56, ge56, at56⟩
   have nx_H56 := st56.nx
   replace hle := hle.st st56 (fun k hk => ⟨by omega, trivial⟩)
   replace lst1 := lst1.st st56 (fun k hk ho => by simp only [out, and_true] at ho ⊢ <;> first | omega | (first | exact ho | exact ho.1 | exact ho.2 | exact ho.2.1 | exact ho.2.2 | exact ho.2.2.1 | exact ho.2.2.2 | exact pl_LI.ne (by first | omega | (first | exact ho | exact ho.1 | exact ho.2 | exact ho.2.1 | exact ho.2.2 | exact ho.2.2.1 | exact ho.2.2.2)) (by omega)))
   replace lst2 := lst2.st st56 (fun k hk ho => by simp only [out, and_true] at ho ⊢ <;> first | omega | (first | exact ho | exact ho.1 | exact ho.2 | exact ho.2.1 | exact ho.2.2 | exact ho.2.2.1 | exact ho.2.2.2 | exact pl_LI.ne (by first | omega | (first | exact ho | exact ho.1 | exact ho.2 | exact ho.2.1 | exact ho.2.2 | exact ho.2.2.1 | exact ho.2.2.2)) (by omega)))
   have ne_g2_gLI : g2 ≠ gLI := pl_LI.ne ne_g2_g34 (by omega)
   replace at2 := st56.same _ _ ⟨ne_g2_gLI, trivial⟩ at2
   have ne_g4_gLI : g4 ≠ gLI := pl_LI.ne ne_g4_g34 (by omega)
   replace at4 := st56.same _ _ ⟨ne_g4_gLI, trivial⟩ at4
   have ne_gL5_gLI : gL5 ≠ gLI := pl_LI.ne ne_gL5_g34 (by omega)
   replace at_L5 := st56.same _ _ ⟨ne_gL5_gLI, trivial⟩ at_L5
   have ne_g32_gLI : g32 ≠ gLI := pl_LI.ne ne_g32_g34 (by omega)
   replace at32 := st56.same _ _ ⟨ne_g32_gLI, trivial⟩ at32
   have ne_g33_gLI : g33 ≠ gLI := pl_LI.ne ne_g33_g34 (by omega)
   replace at33 := st56.same _ _ ⟨ne_g33_gLI, trivial⟩ at33
   have ne_g35_gLI : g35 ≠ gLI := pl_LI.ne ne_g35_g34 (by omega)
   replace at35 := st56.same _ _ ⟨ne_g35_gLI, trivial⟩ at35
   replace at_Lg7 := st56.same _ _ ⟨(Ne.symm ap2_0), trivial⟩ at_Lg7
   have ne_g55_gLI : g55 ≠ gLI := by omega
   replace at55 := st56.same _ _ ⟨ne_g55_gLI, trivial⟩ at55
   have lt_at56 := GHeap.lt_of_get at56
   replace hin := base_hin.mono hle
   replace h := base_h.mono hle
   clear hb2 c02 c12 c22 c32 c42 i12 i22 i32 i42 hm2 hi2
   have hb2 : Cat.At _ g2 0 c p := ⟨Mem.of_get at2, hin⟩
   obtain ⟨c02, c12, c22, c32, c42, i12, i22, i32, i42⟩ := hb2.get
   have hm2 : MemN _ _ _ _ _ := ⟨rfl, hb2.1⟩
   have hi2 := hb2.2
   clear mm7008
   have mm7008 : MemN _ _ _ _ _ := ⟨rfl, Mem.of_get at7008⟩
   refine .m rfl rfl rfl rfl (.refl _) (.fieldAddr fo_27_3_B rfl) ?_
   refine .r0 rfl rfl rfl (.storeR rfl sz_22_E rfl rfl rfl (by assumption) (by first | exact Nat.le_of_ble_eq_true rfl | (simp; done) | (simp <;> omega))) ?_
   rintro _ H11015 ⟨rfl, st11015, at11015⟩
   have nx_H11015 := st11015.nx
   replace hle := hle.st st11015 (fun k hk => ⟨by omega, trivial⟩)
   replace lst1 := lst1.st st11015 (fun k hk ho => by simp only [out, and_true] at ho ⊢ <;> first | omega | (first | exact ho | exact ho.1 | exact ho.2 | exact ho.2.1 | exact ho.2.2 | exact ho.2.2.1 | exact ho.2.2.2))
   replace lst2 := lst2.st st11015 (fun k hk ho => by simp only [out, and_true] at ho ⊢ <;> first | omega | (first | exact ho | exact ho.1 | exact ho.2 | exact ho.2.1 | exact ho.2.2 | exact ho.2.2.1 | exact ho.2.2.2))
   replace at2 := st11015.same _ _ ⟨ne_g2_g7, trivial⟩ at2
   replace at4 := st11015.same _ _ ⟨ne_g4_g7, trivial⟩ at4
   replace at_L5 := st11015.same _ _ ⟨ne_gL5_g7, trivial⟩ at_L5
   replace at32 := st11015.same _ _ ⟨ne_g32_g7, trivial⟩ at32
   replace at33 := st11015.same _ _ ⟨ne_g33_g7, trivial⟩ at33
   replace at35 := st11015.same _ _ ⟨ne_g35_g7, trivial⟩ at35
   have ne_g55_g7 : g55 ≠ g7 := by omega
   replace at55 := st11015.same _ _ ⟨ne_g55_g7, trivial⟩ at55
   have ne_g56_g7 : g56 ≠ g7 := by omega
   replace at56 := st11015.same _ _ ⟨ne_g56_g7, trivial⟩ at56
   have lt_at11015 := GHeap.lt_of_get at11015
   replace hin := base_hin.mono hle
   replace h := base_h.mono hle
   clear hb2 c02 c12 c22 c32 c42 i12 i22 i32 i42 hm2 hi2
   have hb2 : Cat.At _ g2 0 c p := ⟨Mem.of_get at2, hin⟩
   obtain ⟨c02, c12, c22, c32, c42, i12, i22, i32, i42⟩ := hb2.get
   have hm2 : MemN _ _ _ _ _ := ⟨rfl, hb2.1⟩
   have hi2 := hb2.2
   clear mm7008
   have mm7008 : MemN _ _ _ _ _ := ⟨rfl, Mem.of_get at7008⟩
   try simp only [Nat.zero_add, List.set_cons_succ, List.set_cons_zero] at at11015
   refine .done ?_
   refine hK14 _ _ ?_
   refine .region (.m rfl rfl rfl (.move rfl) ?_)
   refine .m rfl rfl rfl (.add rfl rfl rfl (by omega) (by omega)) ?_
   refine .m rfl rfl rfl (.assign rfl) (.nil ?_)
   refine hKL2 ((x + 1, g56)) _ _ ?_ ?_ ⟨rfl, rfl, rfl, rfl, rfl, rfl, trivial⟩
   ·
    refine ⟨lst2, by first | assumption | (rw [take_map_snoc (d := 0) (by omega)]; assumption), by first | assumption | exact ⟨.inr (by omega)⟩ | exact ⟨.inl rfl⟩, by first | assumption | (rw [take_map_snoc (d := 0) (by omega)]; assumption), by first | assumption | omega, ?_⟩
    omega
   (dsimp only; omega)
  try simp only [sps] at h40
  refine .exit ?_
  refine hK10 _ _ ?_
  refine .seq (fun K15 hK15 => ?_)
  refine .seq (fun K16 hK16 => ?_)
  refine .region (.m rfl rfl rfl (.assign rfl) (.nil ?_))
  refine hK16 _ _ ?_
  refine .block ?_
  refine .loopR (σ := Nat × (Nat → Option Addr) × Nat × Nat × Nat) [(1, some _), (2, some _), (4, some _), (5, some _), (7, some _)] (fun (i, rr, gLF, gLT, gLC) => [(9, some (.int .i64 (i : Int)))]) (fun (i, rr, gLF, gLT, gLC) H' => St [g32, g33, g35, g7] HL2 H' ∧ H'.get gLF = some (.row (ints ((xs.take i).map fun f => idxL (c.partO xs) (c.src.getD f.toNat 0))) 2 true) ∧ PL gLF g32 HL2.next ∧ H'.get gLT = some (.row (ints ((xs.take i).map fun f => idxL (c.partO xs) (c.tgt.getD f.toNat 0))) 2 true) ∧ PL gLT g33 HL2.next ∧ H'.get gLC = some (.row ((slsL rr (c.partL xs i))) 22 true) ∧ PL gLC g35 HL2.next ∧ H'.get g7 = some (.row ([.int .i64 ((c.partO xs).length : Int), .slice (some ⟨gLF, 0, none⟩) i i, .slice (some ⟨gLT, 0, none⟩) i i, .slice (some ⟨gLI, 0, none⟩) x x, .slice (some ⟨gLC, 0, none⟩) i i]) 27 true) ∧ gLF ≠ gLT ∧ gLF ≠ gLC ∧ gLF ≠ g7 ∧ gLT ≠ gLC ∧ gLT ≠ g7 ∧ gLC ≠ g7 ∧ i ≤ xs.length ∧ OwnL H.next H' 2 rr (c.partL xs i) ∧ (∀ j, j < (c.partL xs i).length → rr j ≠ some ⟨gLF, 0, none⟩) ∧ (∀ j, j < (c.partL xs i).length → rr j ≠ some ⟨gLT, 0, none⟩) ∧ ∀ j, j < (c.partL xs i).length → rr j ≠ some ⟨gLI, 0, none⟩) (fun (i, rr, gLF, gLT, gLC) => xs.length - i) ((0, fun _ => none, g32, g33, g35)) ⟨rfl, rfl, rfl, rfl, rfl, trivial⟩ ⟨rfl, trivial⟩ ?_ ?_
  ·
   refine ⟨.refl _ _, by first | assumption | (rw [Cat.partL_zero]; assumption), ⟨.inl rfl⟩, by first | assumption | (rw [Cat.partL_zero]; assumption), ⟨.inl rfl⟩, by first | assumption | (rw [Cat.partL_zero]; assumption), ⟨.inl rfl⟩, by first | assumption | (rw [Cat.partL_zero]; assumption), by omega, by omega, by omega, by omega, by omega, by omega, ?_⟩
   rw [Cat.partL_zero]
   exact ⟨by omega, .nil _ _ _ _, fun _ h => by simp at h, fun _ h => by simp at h, fun _ h => by simp at h⟩
  rintro ⟨i, rr, gLF, gLT, gLC⟩ HL3 ⟨lst3, at_LF, pl_LF, at_LT, pl_LT, at_LC, pl_LC, at_Lg7, ap3_0, ap3_1, ap3_2, ap3_3, ap3_4, ap3_5, hI⟩ KL3 hKL3
  refine .forget (fr' := [(9, some (.int .i64 (i : Int))), (1, some _), (2, some _), (4, some _), (5, some _), (7, some _)]) ⟨rfl, rfl, rfl, rfl, rfl, rfl, trivial⟩ ?_
  have ge_LF : H.next ≤ gLF := pl_LF.ge (by omega) (by omega)
  have ge_LT : H.next ≤ gLT := pl_LT.ge (by omega) (by omega)
  have ge_LC : H.next ≤ gLC := pl_LC.ge (by omega) (by omega)
  have nx_HL3 := lst3.nx
  replace hle := hle.st lst3 (fun k hk => ⟨by omega, by omega, by omega, by omega, trivial⟩)
  replace lst1 := lst1.st lst3 (fun k hk ho => by simp only [out, and_true] at ho ⊢ <;> first | exact ho | exact ho.1 | exact ho.2 | exact ho.2.1 | exact ho.2.2 | exact ho.2.2.1 | exact ho.2.2.2 | omega)
  have ne_g2_g32 : g2 ≠ g32 := by omega
  have ne_g2_g33 : g2 ≠ g33 := by omega
  have ne_g2_g35 : g2 ≠ g35 := by omega
  replace at2 := lst3.same _ _ ⟨ne_g2_g32, ne_g2_g33, ne_g2_g35, ne_g2_g7, trivial⟩ at2
  have ne_g4_g32 : g4 ≠ g32 := by omega
  have ne_g4_g33 : g4 ≠ g33 := by omega
  have ne_g4_g35 : g4 ≠ g35 := by omega
  replace at4 := lst3.same _ _ ⟨ne_g4_g32, ne_g4_g33, ne_g4_g35, ne_g4_g7, trivial⟩ at4
  have ne_gL5_g32 : gL5 ≠ g32 := by omega
  have ne_gL5_g33 : gL5 ≠ g33 := by omega
  have ne_gL5_g35 : gL5 ≠ g35 := by omega
  replace at_L5 := lst3.same _ _ ⟨ne_gL5_g32, ne_gL5_g33, ne_gL5_g35, ne_gL5_g7, trivial⟩ at_L5
  have ne_g32_gLI : g32 ≠ gLI := pl_LI.ne ne_g32_g34 (by omega)
  have ne_g33_gLI : g33 ≠ gLI := pl_LI.ne ne_g33_g34 (by omega)
  have ne_g35_gLI : g35 ≠ gLI := pl_LI.ne ne_g35_g34 (by omega)
  replace at_LI := lst3.same _ _ ⟨(Ne.symm ne_g32_gLI), (Ne.symm ne_g33_gLI), (Ne.symm ne_g35_gLI), ap2_0, trivial⟩ at_LI
  have lt_at_LF := GHeap.lt_of_get at_LF
  have lt_at_LT := GHeap.lt_of_get at_LT
  have lt_at_LC := GHeap.lt_of_get at_LC
  have lt_at_Lg7 := GHeap.lt_of_get at_Lg7
  replace hin := base_hin.mono hle
  replace h := base_h.mono hle
  clear hb2 c02 c12 c22 c32 c42 i12 i22 i32 i42 hm2 hi2
  have hb2 : Cat.At _ g2 0 c p := ⟨Mem.of_get at2, hin⟩
  obtain ⟨c02, c12, c22, c32, c42, i12, i22, i32, i42⟩ := hb2.get
  have hm2 : MemN _ _ _ _ _ := ⟨rfl, hb2.1⟩
  have hi2 := hb2.2
  clear mm7008
  have mm7008 : MemN _ _ _ _ _ := ⟨rfl, Mem.of_get at7008⟩
  have rk := St.refl [gLF, gLT, gLC, g7] HL3
  obtain ⟨hi, hR, hF, hT, hId⟩ := hI
  have hatC := at_LC
  have hat7 := at_Lg7
  have hql := Cat.partL_len (c := c) hi
  have hfl : (slsL rr (c.partL xs i)).length = (c.partL xs i).length := length_slsL _ _
  refine .seq (fun K17 hK17 => ?_)
  refine .seq (fun K18 hK18 => ?_)
  refine .region (.m rfl rfl rfl (.move rfl) (.m rfl rfl rfl (.move rfl) (.m rfl rfl rfl (.len sl_22_A rfl) ?_)))
  refine .m rfl rfl rfl (.cmp rfl rfl rfl) (.nil ?_)
  refine hK18 _ _ ?_
  refine .cond rfl (fun h61 => ?_) (fun h61 => ?_)
  ·
   simp only [sps] at h61
   have q0 := hC.lt (xs.getD i 0) (getD_mem (by omega))
   have q1 := hS.row (xs.getD i 0).toNat (by omega)
   have u1 := i42.2 (xs.getD i 0).toNat (by omega)
   refine .skip ?_
   refine hK17 _ _ ?_
   refine .seq (fun K19 hK19 => ?_)
   refine .block ?_
   refine .seq (fun K20 hK20 => ?_)
   refine .regionD mixed_orders_B (.q 0 (.q 1 (.q 2 (.q 3 (.q 4 (.q 5 (.q 6 (.q 7 (.q 8 (.q 9 (.q 10 (.c 11 1 (.c 12 1 (.c 13 0 (.q 14 (.c 15 0 (.done))))))))))))))))) (by kernel_rfl) ?_
   refine .m rfl rfl rfl rfl (.refl _) (.fieldAddr fo_27_1_B rfl) ?_
   refine .m rfl rfl rfl rfl (.refl _) (.load on_22_B rfl (by first | assumption | exact Mem.of_get at_Lg7 1 _ rfl)) ?_
   refine .m rfl rfl rfl rfl (.refl _) (.move rfl) (.m rfl rfl rfl rfl (.refl _) (.fieldAddr fo_27_1_B rfl) ?_)
   refine .m rfl rfl rfl rfl (.refl _) (.load on_22_B rfl (by first | assumption | exact Mem.of_get at2 1 _ rfl)) ?_
   refine .m rfl rfl rfl rfl (.refl _) (.move rfl) (.m rfl rfl rfl rfl (.refl _) (.move rfl) ?_)
   refine .m rfl rfl rfl rfl (.refl _) (.idxN sl_22_A (by assumption) rfl rfl (by omega)) ?_
   refine .m rfl rfl rfl rfl (.refl _) (.loadI on_2_A (by assumption) rfl (by omega)) ?_
   refine .m rfl rfl rfl rfl (.refl _) (.idx1 sl_22_A (by assumption) rfl rfl (by omega) (by omega)) ?_
   refine .m rfl rfl rfl rfl (.refl _) (.loadI on_2_A (by assumption) rfl (by omega)) ?_
   refine .callQ1 rfl rfl rfl rfl rfl @Try.call143 rfl (l01Index_c (Ints.of_get at_L5)) (.refl _) ?_
   refine .c1 rfl rfl rfl rfl (.litR rfl sl_22_A ze_2_E rfl rfl (by omega) (by omega) rfl rfl) ?_
   rintro _ H76 ⟨g76, rfl, le76, ge76, at76⟩
   have hbl := le76
   refine ⟨hbl, ?_⟩
   have nx_H76 := le76.1
   replace hle := hle.trans le76
   replace lst1 := lst1.le le76
   replace lst3 := lst3.le le76
   replace rk := rk.le le76
   replace at2 := le76.2 _ _ at2
   replace at4 := le76.2 _ _ at4
   replace at_L5 := le76.2 _ _ at_L5
   replace at_LI := le76.2 _ _ at_LI
   replace at_LF := le76.2 _ _ at_LF
   replace at_LT := le76.2 _ _ at_LT
   replace at_LC := le76.2 _ _ at_LC
   replace at_Lg7 := le76.2 _ _ at_Lg7
   have lt_at76 := GHeap.lt_of_get at76
   replace hin := base_hin.mono hle
   replace h := base_h.mono hle
   clear hb2 c02 c12 c22 c32 c42 i12 i22 i32 i42 hm2 hi2
   have hb2 : Cat.At _ g2 0 c p := ⟨Mem.of_get at2, hin⟩
   obtain ⟨c02, c12, c22, c32, c42, i12, i22, i32, i42⟩ := hb2.get
   have hm2 : MemN _ _ _ _ _ := ⟨rfl, hb2.1⟩
   have hi2 := hb2.2
   clear mm7008
   have mm7008 : MemN _ _ _ _ _ := ⟨rfl, Mem.of_get at7008⟩
   clear u1
   have u1 := i42.2 (xs.getD i 0).toNat (by omega)
   refine .c0 rfl rfl rfl rfl (.appendI rfl sl_22_A ze_2_E rfl by_2_E sl_22_A rfl rfl (by assumption) (by assumption) (by first | omega | (simp <;> omega)) (by omega) (by omega)) ?_
   rintro _ H77 ⟨g77, rfl, st77, ge77, at77⟩
   have nx_H77 := st77.nx
   replace hle := hle.st st77 (fun k hk => ⟨by omega, trivial⟩)
   replace lst1 := lst1.st st77 (fun k hk ho => by simp only [out, and_true] at ho ⊢ <;> first | omega | (first | exact ho | exact ho.1 | exact ho.2 | exact ho.2.1 | exact ho.2.2 | exact ho.2.2.1 | exact ho.2.2.2 | exact pl_LF.ne (by first | omega | (first | exact ho | exact ho.1 | exact ho.2 | exact ho.2.1 | exact ho.2.2 | exact ho.2.2.1 | exact ho.2.2.2)) (by omega)))
   replace lst3 := lst3.st st77 (fun k hk ho => by simp only [out, and_true] at ho ⊢ <;> first | omega | (first | exact ho | exact ho.1 | exact ho.2 | exact ho.2.1 | exact ho.2.2 | exact ho.2.2.1 | exact ho.2.2.2 | exact pl_LF.ne (by first | omega | (first | exact ho | exact ho.1 | exact ho.2 | exact ho.2.1 | exact ho.2.2 | exact ho.2.2.1 | exact ho.2.2.2)) (by omega)))
   replace rk := rk.st st77 (fun k hk ho => by simp only [out, and_true] at ho ⊢ <;> first | omega | (first | exact ho | exact ho.1 | exact ho.2 | exact ho.2.1 | exact ho.2.2 | exact ho.2.2.1 | exact ho.2.2.2 | exact pl_LF.ne (by first | omega | (first | exact ho | exact ho.1 | exact ho.2 | exact ho.2.1 | exact ho.2.2 | exact ho.2.2.1 | exact ho.2.2.2)) (by omega)))
   have ne_g2_gLF : g2 ≠ gLF := pl_LF.ne ne_g2_g32 (by omega)
   replace at2 := st77.same _ _ ⟨ne_g2_gLF, trivial⟩ at2
   have ne_g4_gLF : g4 ≠ gLF := pl_LF.ne ne_g4_g32 (by omega)
   replace at4 := st77.same _ _ ⟨ne_g4_gLF, trivial⟩ at4
   have ne_gL5_gLF : gL5 ≠ gLF := pl_LF.ne ne_gL5_g32 (by omega)
   replace at_L5 := st77.same _ _ ⟨ne_gL5_gLF, trivial⟩ at_L5
   have ne_gLI_gLF : gLI ≠ gLF := pl_LF.ne (Ne.symm ne_g32_gLI) (by omega)
   replace at_LI := st77.same _ _ ⟨ne_gLI_gLF, trivial⟩ at_LI
   replace at_LT := st77.same _ _ ⟨(Ne.symm ap3_0), trivial⟩ at_LT
   replace at_LC := st77.same _ _ ⟨(Ne.symm ap3_1), trivial⟩ at_LC
   replace at_Lg7 := st77.same _ _ ⟨(Ne.symm ap3_2), trivial⟩ at_Lg7
   have ne_g76_gLF : g76 ≠ gLF := by omega
   replace at76 := st77.same _ _ ⟨ne_g76_gLF, trivial⟩ at76
   have lt_at77 := GHeap.lt_of_get at77
   replace hin := base_hin.mono hle
   replace h := base_h.mono hle
   clear hb2 c02 c12 c22 c32 c42 i12 i22 i32 i42 hm2 hi2
   have hb2 : Cat.At _ g2 0 c p := ⟨Mem.of_get at2, hin⟩
   obtain ⟨c02, c12, c22, c32, c42, i12, i22, i32, i42⟩ := hb2.get
   have hm2 : MemN _ _ _ _ _ := ⟨rfl, hb2.1⟩
   have hi2 := hb2.2
   clear mm7008
   have mm7008 : MemN _ _ _ _ _ := ⟨rfl, Mem.of_get at7008⟩
   clear u1
   have u1 := i42.2 (xs.getD i 0).toNat (by omega)
   refine .m rfl rfl rfl rfl (.refl _) (.fieldAddr fo_27_1_B rfl) ?_
   refine .r0 rfl rfl rfl (.storeR rfl sz_22_E rfl rfl rfl (by assumption) (by first | exact Nat.le_of_ble_eq_true rfl | (simp; done) | (simp <;> omega))) ?_
   rintro _ H15015 ⟨rfl, st15015, at15015⟩
   have nx_H15015 := st15015.nx
   replace hle := hle.st st15015 (fun k hk => ⟨by omega, trivial⟩)
   replace lst1 := lst1.st st15015 (fun k hk ho => by simp only [out, and_true] at ho ⊢ <;> first | omega | (first | exact ho | exact ho.1 | exact ho.2 | exact ho.2.1 | exact ho.2.2 | exact ho.2.2.1 | exact ho.2.2.2))
   replace lst3 := lst3.st st15015 (fun k hk ho => by simp only [out, and_true] at ho ⊢ <;> first | omega | (first | exact ho | exact ho.1 | exact ho.2 | exact ho.2.1 | exact ho.2.2 | exact ho.2.2.1 | exact ho.2.2.2))
   replace rk := rk.st st15015 (fun k hk ho => by simp only [out, and_true] at ho ⊢ <;> first | omega | (first | exact ho | exact ho.1 | exact ho.2 | exact ho.2.1 | exact ho.2.2 | exact ho.2.2.1 | exact ho.2.2.2))
   replace at2 := st15015.same _ _ ⟨ne_g2_g7, trivial⟩ at2
   replace at4 := st15015.same _ _ ⟨ne_g4_g7, trivial⟩ at4
   replace at_L5 := st15015.same _ _ ⟨ne_gL5_g7, trivial⟩ at_L5
   replace at_LI := st15015.same _ _ ⟨ap2_0, trivial⟩ at_LI
   replace at_LT := st15015.same _ _ ⟨ap3_4, trivial⟩ at_LT
   replace at_LC := st15015.same _ _ ⟨ap3_5, trivial⟩ at_LC
   have ne_g76_g7 : g76 ≠ g7 := by omega
   replace at76 := st15015.same _ _ ⟨ne_g76_g7, trivial⟩ at76
   have ne_g77_g7 : g77 ≠ g7 := by omega
   replace at77 := st15015.same _ _ ⟨ne_g77_g7, trivial⟩ at77
   have lt_at15015 := GHeap.lt_of_get at15015
   replace hin := base_hin.mono hle
   replace h := base_h.mono hle
   clear hb2 c02 c12 c22 c32 c42 i12 i22 i32 i42 hm2 hi2
   have hb2 : Cat.At _ g2 0 c p := ⟨Mem.of_get at2, hin⟩
   obtain ⟨c02, c12, c22, c32, c42, i12, i22, i32, i42⟩ := hb2.get
   have hm2 : MemN _ _ _ _ _ := ⟨rfl, hb2.1⟩
   have hi2 := hb2.2
   clear mm7008
   have mm7008 : MemN _ _ _ _ _ := ⟨rfl, Mem.of_get at7008⟩
   clear u1
   have u1 := i42.2 (xs.getD i 0).toNat (by omega)
   try simp only [Nat.zero_add, List.set_cons_succ, List.set_cons_zero] at at15015
   refine .done ?_
   refine hK20 _ _ ?_
   refine .seq (fun K21 hK21 => ?_)
   refine .regionD mixed_orders_B (.q 0 (.q 1 (.q 2 (.q 3 (.q 4 (.q 5 (.q 6 (.q 7 (.q 8 (.q 9 (.q 10 (.c 11 1 (.c 12 1 (.c 13 0 (.q 14 (.c 15 0 (.done))))))))))))))))) (by kernel_rfl) ?_
   refine .m rfl rfl rfl rfl (.refl _) (.fieldAddr fo_27_2_B rfl) ?_
   refine .m rfl rfl rfl rfl (.refl _) (.load on_22_B rfl (by first | assumption | exact Mem.of_get at15015 2 _ rfl)) ?_
   refine .m rfl rfl rfl rfl (.refl _) (.move rfl) (.m rfl rfl rfl rfl (.refl _) (.fieldAddr fo_27_2_B rfl) ?_)
   refine .m rfl rfl rfl rfl (.refl _) (.load on_22_B rfl (by first | assumption | exact Mem.of_get at2 2 _ rfl)) ?_
   refine .m rfl rfl rfl rfl (.refl _) (.move rfl) (.m rfl rfl rfl rfl (.refl _) (.move rfl) ?_)
   refine .m rfl rfl rfl rfl (.refl _) (.idxN sl_22_A (by assumption) rfl rfl (by omega)) ?_
   refine .m rfl rfl rfl rfl (.refl _) (.loadI on_2_A (by assumption) rfl (by omega)) ?_
   refine .m rfl rfl rfl rfl (.refl _) (.idx1 sl_22_A (by assumption) rfl rfl (by omega) (by omega)) ?_
   refine .m rfl rfl rfl rfl (.refl _) (.loadI on_2_A (by assumption) rfl (by omega)) ?_
   refine .callQ1 rfl rfl rfl rfl rfl @Try.call143 rfl (l01Index_c (Ints.of_get at_L5)) (.refl _) ?_
   refine .c1 rfl rfl rfl rfl (.litR rfl sl_22_A ze_2_E rfl rfl (by omega) (by omega) rfl rfl) ?_
   rintro _ H91 ⟨g91, rfl, le91, ge91, at91⟩
   have hbl := le91
   refine ⟨hbl, ?_⟩
   have nx_H91 := le91.1
   replace hle := hle.trans le91
   replace lst1 := lst1.le le91
   replace lst3 := lst3.le le91
   replace rk := rk.le le91
   replace at2 := le91.2 _ _ at2
   replace at4 := le91.2 _ _ at4
   replace at_L5 := le91.2 _ _ at_L5
   replace at_LI := le91.2 _ _ at_LI
   replace at_LT := le91.2 _ _ at_LT
   replace at_LC := le91.2 _ _ at_LC
   replace at76 := le91.2 _ _ at76
   replace at77 := le91.2 _ _ at77
   replace at15015 := le91.2 _ _ at15015
   have lt_at91 := GHeap.lt_of_get at91
   replace hin := base_hin.mono hle
   replace h := base_h.mono hle
   clear hb2 c02 c12 c22 c32 c42 i12 i22 i32 i42 hm2 hi2
   have hb2 : Cat.At _ g2 0 c p := ⟨Mem.of_get at2, hin⟩
   obtain ⟨c02, c12, c22, c32, c42, i12, i22, i32, i42⟩ := hb2.get
   have hm2 : MemN _ _ _ _ _ := ⟨rfl, hb2.1⟩
   have hi2 := hb2.2
   clear mm7008
   have mm7008 : MemN _ _ _ _ _ := ⟨rfl, Mem.of_get at7008⟩
   clear u1
   have u1 := i42.2 (xs.getD i 0).toNat (by omega)
   refine .c0 rfl rfl rfl rfl (.appendI rfl sl_22_A ze_2_E rfl by_2_E sl_22_A rfl rfl (by assumption) (by assumption) (by first | omega | (simp <;> omega)) (by omega) (by omega)) ?_
   rintro _ H92 ⟨g92, rfl, st92, ge92, at92⟩
   have nx_H92 := st92.nx
   replace hle := hle.st st92 (fun k hk => ⟨by omega, trivial⟩)
   replace lst1 := lst1.st st92 (fun k hk ho => by simp only [out, and_true] at ho ⊢ <;> first | omega | (first | exact ho | exact ho.1 | exact ho.2 | exact ho.2.1 | exact ho.2.2 | exact ho.2.2.1 | exact ho.2.2.2 | exact pl_LT.ne (by first | omega | (first | exact ho | exact ho.1 | exact ho.2 | exact ho.2.1 | exact ho.2.2 | exact ho.2.2.1 | exact ho.2.2.2)) (by omega)))
   replace lst3 := lst3.st st92 (fun k hk ho => by simp only [out, and_true] at ho ⊢ <;> first | omega | (first | exact ho | exact ho.1 | exact ho.2 | exact ho.2.1 | exact ho.2.2 | exact ho.2.2.1 | exact ho.2.2.2 | exact pl_LT.ne (by first | omega | (first | exact ho | exact ho.1 | exact ho.2 | exact ho.2.1 | exact ho.2.2 | exact ho.2.2.1 | exact ho.2.2.2)) (by omega)))
   replace rk := rk.st st92 (fun k hk ho => by simp only [out, and_true] at ho ⊢ <;> first | omega | (first | exact ho | exact ho.1 | exact ho.2 | exact ho.2.1 | exact ho.2.2 | exact ho.2.2.1 | exact ho.2.2.2 | exact pl_LT.ne (by first | omega | (first | exact ho | exact ho.1 | exact ho.2 | exact ho.2.1 | exact ho.2.2 | exact ho.2.2.1 | exact ho.2.2.2)) (by omega)))
   have ne_g2_gLT : g2 ≠ gLT := pl_LT.ne ne_g2_g33 (by omega)
   replace at2 := st92.same _ _ ⟨ne_g2_gLT, trivial⟩ at2
   have ne_g4_gLT : g4 ≠ gLT := pl_LT.ne ne_g4_g33 (by omega)
   replace at4 := st92.same _ _ ⟨ne_g4_gLT, trivial⟩ at4
   have ne_gL5_gLT : gL5 ≠ gLT := pl_LT.ne ne_gL5_g33 (by omega)
   replace at_L5 := st92.same _ _ ⟨ne_gL5_gLT, trivial⟩ at_L5
   have ne_gLI_gLT : gLI ≠ gLT := pl_LT.ne (Ne.symm ne_g33_gLI) (by omega)
   replace at_LI := st92.same _ _ ⟨ne_gLI_gLT, trivial⟩ at_LI
   replace at_LC := st92.same _ _ ⟨(Ne.symm ap3_3), trivial⟩ at_LC
   have ne_g76_gLT : g76 ≠ gLT := by omega
   replace at76 := st92.same _ _ ⟨ne_g76_gLT, trivial⟩ at76
   have ne_g77_gLT : g77 ≠ gLT := by omega
   replace at77 := st92.same _ _ ⟨ne_g77_gLT, trivial⟩ at77
   replace at15015 := st92.same _ _ ⟨(Ne.symm ap3_4), trivial⟩ at15015
   have ne_g91_gLT : g91 ≠ gLT := by omega
   replace at91 := st92.same _ _ ⟨ne_g91_gLT, trivial⟩ at91
   have lt_at92 := GHeap.lt_of_get at92
   replace hin := base_hin.mono hle
   replace h := base_h.mono hle
   clear hb2 c02 c12 c22 c32 c42 i12 i22 i32 i42 hm2 hi2
   have hb2 : Cat.At _ g2 0 c p := ⟨Mem.of_get at2, hin⟩
   obtain ⟨c02, c12, c22, c32, c42, i12, i22, i32, i42⟩ := hb2.get
   have hm2 : MemN _ _ _ _ _ := ⟨rfl, hb2.1⟩
   have hi2 := hb2.2
   clear mm7008
   have mm7008 : MemN _ _ _ _ _ := ⟨rfl, Mem.of_get at7008⟩
   clear u1
   have u1 := i42.2 (xs.getD i 0).toNat (by omega)
   refine .m rfl rfl rfl rfl (.refl _) (.fieldAddr fo_27_2_B rfl) ?_
   refine .r0 rfl rfl rfl (.storeR rfl sz_22_E rfl rfl rfl (by assumption) (by first | exact Nat.le_of_ble_eq_true rfl | (simp; done) | (simp <;> omega))) ?_
   rintro _ H16015 ⟨rfl, st16015, at16015⟩
   have nx_H16015 := st16015.nx
   replace hle := hle.st st16015 (fun k hk => ⟨by omega, trivial⟩)
   replace lst1 := lst1.st st16015 (fun k hk ho => by simp only [out, and_true] at ho ⊢ <;> first | omega | (first | exact ho | exact ho.1 | exact ho.2 | exact ho.2.1 | exact ho.2.2 | exact ho.2.2.1 | exact ho.2.2.2))
   replace lst3 := lst3.st st16015 (fun k hk ho => by simp only [out, and_true] at ho ⊢ <;> first | omega | (first | exact ho | exact ho.1 | exact ho.2 | exact ho.2.1 | exact ho.2.2 | exact ho.2.2.1 | exact ho.2.2.2))
   replace rk := rk.st st16015 (fun k hk ho => by simp only [out, and_true] at ho ⊢ <;> first | omega | (first | exact ho | exact ho.1 | exact ho.2 | exact ho.2.1 | exact ho.2.2 | exact ho.2.2.1 | exact ho.2.2.2))
   replace at2 := st16015.same _ _ ⟨ne_g2_g7, trivial⟩ at2
   replace at4 := st16015.same _ _ ⟨ne_g4_g7, trivial⟩ at4
   replace at_L5 := st16015.same _ _ ⟨ne_gL5_g7, trivial⟩ at_L5
   replace at_LI := st16015.same _ _ ⟨ap2_0, trivial⟩ at_LI
   replace at_LC := st16015.same _ _ ⟨ap3_5, trivial⟩ at_LC
   replace at76 := st16015.same _ _ ⟨ne_g76_g7, trivial⟩ at76
   replace at77 := st16015.same _ _ ⟨ne_g77_g7, trivial⟩ at77
   have ne_g91_g7 : g91 ≠ g7 := by omega
   replace at91 := st16015.same _ _ ⟨ne_g91_g7, trivial⟩ at91
   have ne_g92_g7 : g92 ≠ g7 := by omega
   replace at92 := st16015.same _ _ ⟨ne_g92_g7, trivial⟩ at92
   have lt_at16015 := GHeap.lt_of_get at16015
   replace hin := base_hin.mono hle
   replace h := base_h.mono hle
   clear hb2 c02 c12 c22 c32 c42 i12 i22 i32 i42 hm2 hi2
   have hb2 : Cat.At _ g2 0 c p := ⟨Mem.of_get at2, hin⟩
   obtain ⟨c02, c12, c22, c32, c42, i12, i22, i32, i42⟩ := hb2.get
   have hm2 : MemN _ _ _ _ _ := ⟨rfl, hb2.1⟩
   have hi2 := hb2.2
   clear mm7008
   have mm7008 : MemN _ _ _ _ _ := ⟨rfl, Mem.of_get at7008⟩
   clear u1
   have u1 := i42.2 (xs.getD i 0).toNat (by omega)
   try simp only [Nat.zero_add, List.set_cons_succ, List.set_cons_zero] at at16015
   refine .done ?_
   refine hK21 _ _ ?_
   refine .seq (fun K22 hK22 => ?_)
   refine .region ?_
   refine .r rfl rfl rfl (.litR rfl sl_22_A ze_2_E rfl rfl (by omega) (by omega) rfl rfl) ?_
   rintro _ H94 ⟨g94, rfl, le94, ge94, at94⟩
   have nx_H94 := le94.1
   replace hle := hle.trans le94
   replace lst1 := lst1.le le94
   replace lst3 := lst3.le le94
   replace rk := rk.le le94
   replace at2 := le94.2 _ _ at2
   replace at4 := le94.2 _ _ at4
   replace at_L5 := le94.2 _ _ at_L5
   replace at_LI := le94.2 _ _ at_LI
   replace at_LC := le94.2 _ _ at_LC
   replace at76 := le94.2 _ _ at76
   replace at77 := le94.2 _ _ at77
   replace at91 := le94.2 _ _ at91
   replace at92 := le94.2 _ _ at92
   replace at16015 := le94.2 _ _ at16015
   have lt_at94 := GHeap.lt_of_get at94
   replace hin := base_hin.mono hle
   replace h := base_h.mono hle
   clear hb2 c02 c12 c22 c32 c42 i12 i22 i32 i42 hm2 hi2
   have hb2 : Cat.At _ g2 0 c p := ⟨Mem.of_get at2, hin⟩
   obtain ⟨c02, c12, c22, c32, c42, i12, i22, i32, i42⟩ := hb2.get
   have hm2 : MemN _ _ _ _ _ := ⟨rfl, hb2.1⟩
   have hi2 := hb2.2
   clear mm7008
   have mm7008 : MemN _ _ _ _ _ := ⟨rfl, Mem.of_get at7008⟩
   clear u1
   have u1 := i42.2 (xs.getD i 0).toNat (by omega)
   replace at94 : GHeap.get H94 g94 = some (.row (ints []) 2 true) := at94
   refine .m rfl rfl rfl (.assign rfl) (.nil ?_)
   refine hK22 _ _ ?_
   refine .seq (fun K23 hK23 => ?_)
   refine .seq (fun K24 hK24 => ?_)
   refine .region (.m rfl rfl rfl (.assign rfl) (.nil ?_))
   refine hK24 _ _ ?_
   refine .block ?_
   refine .loopR (σ := Nat × Nat × Nat) [(1, some _), (2, some _), (4, some _), (5, some _), (7, some _), (9, some _)] (fun (j, gL10, nL10) => [(11, some (.int .i64 (j : Int))), (10, some (.slice (some ⟨gL10, 0, none⟩) nL10 nL10))]) (fun (j, gL10, nL10) H' => St [g94] H94 H' ∧ H'.get gL10 = some (.row (ints ((xs.take j).map fun g => idxL xs (c.th (xs.getD i 0) g))) 2 true) ∧ PL gL10 g94 H94.next ∧ nL10 = ((xs.take j).map fun g => idxL xs (c.th (xs.getD i 0) g)).length ∧ j ≤ xs.length) (fun (j, gL10, nL10) => xs.length - j) ((0, _, _)) ⟨rfl, rfl, rfl, rfl, rfl, rfl, trivial⟩ ⟨rfl, rfl, trivial⟩ ?_ ?_
   ·
    refine ⟨.refl _ _, by first | assumption | exact at94 | simpa using at94, ⟨.inl rfl⟩, by first | rfl | assumption | simp | omega, ?_⟩
    omega
   rintro ⟨j, gL10, nL10⟩ HL4 ⟨lst4, at_L10, pl_L10, ln_L10, hI⟩ KL4 hKL4
   refine .forget (fr' := [(11, some (.int .i64 (j : Int))), (10, some (.slice (some ⟨gL10, 0, none⟩) nL10 nL10)), (1, some _), (2, some _), (4, some _), (5, some _), (7, some _), (9, some _)]) ⟨rfl, rfl, rfl, rfl, rfl, rfl, rfl, rfl, trivial⟩ ?_
   have ge_L10 : H.next ≤ gL10 := pl_L10.ge (by omega) (by omega)
   have nx_HL4 := lst4.nx
   replace hle := hle.st lst4 (fun k hk => ⟨by omega, trivial⟩)
   replace lst1 := lst1.st lst4 (fun k hk ho => by simp only [out, and_true] at ho ⊢ <;> first | omega | (first | exact ho | exact ho.1 | exact ho.2 | exact ho.2.1 | exact ho.2.2 | exact ho.2.2.1 | exact ho.2.2.2))
   replace lst3 := lst3.st lst4 (fun k hk ho => by simp only [out, and_true] at ho ⊢ <;> first | omega | (first | exact ho | exact ho.1 | exact ho.2 | exact ho.2.1 | exact ho.2.2 | exact ho.2.2.1 | exact ho.2.2.2))
   replace rk := rk.st lst4 (fun k hk ho => by simp only [out, and_true] at ho ⊢ <;> first | omega | (first | exact ho | exact ho.1 | exact ho.2 | exact ho.2.1 | exact ho.2.2 | exact ho.2.2.1 | exact ho.2.2.2))
   have ne_g2_g94 : g2 ≠ g94 := by omega
   replace at2 := lst4.same _ _ ⟨ne_g2_g94, trivial⟩ at2
   have ne_g4_g94 : g4 ≠ g94 := by omega
   replace at4 := lst4.same _ _ ⟨ne_g4_g94, trivial⟩ at4
   have ne_gL5_g94 : gL5 ≠ g94 := by omega
   replace at_L5 := lst4.same _ _ ⟨ne_gL5_g94, trivial⟩ at_L5
   have ne_gLI_g94 : gLI ≠ g94 := by omega
   replace at_LI := lst4.same _ _ ⟨ne_gLI_g94, trivial⟩ at_LI
   have ne_gLC_g94 : gLC ≠ g94 := by omega
   replace at_LC := lst4.same _ _ ⟨ne_gLC_g94, trivial⟩ at_LC
   have ne_g76_g94 : g76 ≠ g94 := by omega
   replace at76 := lst4.same _ _ ⟨ne_g76_g94, trivial⟩ at76
   have ne_g77_g94 : g77 ≠ g94 := by omega
   replace at77 := lst4.same _ _ ⟨ne_g77_g94, trivial⟩ at77
   have ne_g91_g94 : g91 ≠ g94 := by omega
   replace at91 := lst4.same _ _ ⟨ne_g91_g94, trivial⟩ at91
   have ne_g92_g94 : g92 ≠ g94 := by omega
   replace at92 := lst4.same _ _ ⟨ne_g92_g94, trivial⟩ at92
   have ne_g7_g94 : g7 ≠ g94 := by omega
   replace at16015 := lst4.same _ _ ⟨ne_g7_g94, trivial⟩ at16015
   have lt_at_L10 := GHeap.lt_of_get at_L10
   replace hin := base_hin.mono hle
   replace h := base_h.mono hle
   clear hb2 c02 c12 c22 c32 c42 i12 i22 i32 i42 hm2 hi2
   have hb2 : Cat.At _ g2 0 c p := ⟨Mem.of_get at2, hin⟩
   obtain ⟨c02, c12, c22, c32, c42, i12, i22, i32, i42⟩ := hb2.get
   have hm2 : MemN _ _ _ _ _ := ⟨rfl, hb2.1⟩
   have hi2 := hb2.2
   clear mm7008
   have mm7008 : MemN _ _ _ _ _ := ⟨rfl, Mem.of_get at7008⟩
   clear u1
   have u1 := i42.2 (xs.getD i 0).toNat (by omega)
   have b9 : ((xs.take j).map fun g => idxL xs (c.th (xs.getD i 0) g)).length = j := by simp; omega
   refine .seq (fun K25 hK25 => ?_)
   refine .seq (fun K26 hK26 => ?_)
   refine .region (.m rfl rfl rfl (.move rfl) (.m rfl rfl rfl (.move rfl) (.m rfl rfl rfl (.len sl_22_A rfl) ?_)))
   refine .m rfl rfl rfl (.cmp rfl rfl rfl) (.nil ?_)
   refine hK26 _ _ ?_
   refine .cond rfl (fun h98 => ?_) (fun h98 => ?_)
   ·
    simp only [sps] at h98
    have p0 := hC.lt (xs.getD j 0) (getD_mem (by omega))
    refine .skip ?_
    refine hK25 _ _ ?_
    refine .seq (fun K27 hK27 => ?_)
    refine .block ?_
    refine .regionD mixed_orders_B (.q 0 (.q 1 (.q 2 (.q 3 (.q 4 (.q 5 (.q 6 (.q 7 (.q 8 (.q 9 (.q 10 (.q 11 (.q 12 (.q 13 (.q 14 (.q 15 (.c 16 1 (.c 17 1 (.c 18 0 (.c 19 0 (.done))))))))))))))))))))) (by kernel_rfl) ?_
    refine .m rfl rfl rfl rfl (.refl _) (.move rfl) (.m rfl rfl rfl rfl (.refl _) (.move rfl) (.m rfl rfl rfl rfl (.refl _) (.fieldAddr fo_27_4_B rfl) ?_))
    refine .m rfl rfl rfl rfl (.refl _) (.load on_23_B rfl (by first | assumption | exact Mem.of_get at2 4 _ rfl)) ?_
    refine .m rfl rfl rfl rfl (.refl _) (.move rfl) (.m rfl rfl rfl rfl (.refl _) (.move rfl) ?_)
    refine .m rfl rfl rfl rfl (.refl _) (.idxN sl_22_A (by assumption) rfl rfl (by omega)) ?_
    refine .m rfl rfl rfl rfl (.refl _) (.loadI on_2_A (by assumption) rfl (by omega)) ?_
    refine .m rfl rfl rfl rfl (.refl _) (.idx1 sl_23_B (Intss.sl (by assumption)) rfl rfl (by omega) (by omega)) ?_
    refine .m rfl rfl rfl rfl (.refl _) (.loadR on_22_B (by assumption) rfl (by omega)) ?_
    refine .m rfl rfl rfl rfl (.refl _) (.move rfl) (.m rfl rfl rfl rfl (.refl _) (.move rfl) ?_)
    refine .m rfl rfl rfl rfl (.refl _) (.idxN sl_22_A (by assumption) rfl rfl (by omega)) ?_
    refine .m rfl rfl rfl rfl (.refl _) (.loadI on_2_A (by assumption) rfl (by omega)) ?_
    refine .m rfl rfl rfl rfl (.refl _) (.idx1 sl_22_A (by assumption) rfl rfl (by omega) (by omega)) ?_
    refine .m rfl rfl rfl rfl (.refl _) (.loadI on_2_A (by assumption) rfl (by omega)) ?_
    refine .callQ1 rfl rfl rfl rfl rfl @Try.call143 rfl (l01Index_c) (.refl _) ?_
    refine .c1 rfl rfl rfl rfl (.litR rfl sl_22_A ze_2_E rfl rfl (by omega) (by omega) rfl rfl) ?_
    rintro _ H118 ⟨g118, rfl, le118, ge118, at118⟩
    have hbl := le118
    refine ⟨hbl, ?_⟩
    have nx_H118 := le118.1
    replace hle := hle.trans le118
    replace lst1 := lst1.le le118
    replace lst3 := lst3.le le118
    replace rk := rk.le le118
    replace lst4 := lst4.le le118
    replace at2 := le118.2 _ _ at2
    replace at4 := le118.2 _ _ at4
    replace at_L5 := le118.2 _ _ at_L5
    replace at_LI := le118.2 _ _ at_LI
    replace at_LC := le118.2 _ _ at_LC
    replace at76 := le118.2 _ _ at76
    replace at77 := le118.2 _ _ at77
    replace at91 := le118.2 _ _ at91
    replace at92 := le118.2 _ _ at92
    replace at16015 := le118.2 _ _ at16015
    replace at_L10 := le118.2 _ _ at_L10
    have lt_at118 := GHeap.lt_of_get at118
    replace hin := base_hin.mono hle
    replace h := base_h.mono hle
    clear hb2 c02 c12 c22 c32 c42 i12 i22 i32 i42 hm2 hi2
    have hb2 : Cat.At _ g2 0 c p := ⟨Mem.of_get at2, hin⟩
    obtain ⟨c02, c12, c22, c32, c42, i12, i22, i32, i42⟩ := hb2.get
    have hm2 : MemN _ _ _ _ _ := ⟨rfl, hb2.1⟩
    have hi2 := hb2.2
    clear mm7008
    have mm7008 : MemN _ _ _ _ _ := ⟨rfl, Mem.of_get at7008⟩
    clear u1
    have u1 := i42.2 (xs.getD i 0).toNat (by omega)
    refine .c0 rfl rfl rfl rfl (.appendI rfl sl_22_A ze_2_E rfl by_2_E sl_22_A rfl rfl (by assumption) (by assumption) (by first | omega | (simp <;> omega)) (by omega) (by omega)) ?_
    rintro _ H119 ⟨g119, rfl, st119, ge119, at119⟩
    have nx_H119 := st119.nx
    replace hle := hle.st st119 (fun k hk => ⟨by omega, trivial⟩)
    replace lst1 := lst1.st st119 (fun k hk ho => by simp only [out, and_true] at ho ⊢ <;> first | omega | (first | exact ho | exact ho.1 | exact ho.2 | exact ho.2.1 | exact ho.2.2 | exact ho.2.2.1 | exact ho.2.2.2 | exact pl_L10.ne (by first | omega | (first | exact ho | exact ho.1 | exact ho.2 | exact ho.2.1 | exact ho.2.2 | exact ho.2.2.1 | exact ho.2.2.2)) (by omega)))
    replace lst3 := lst3.st st119 (fun k hk ho => by simp only [out, and_true] at ho ⊢ <;> first | omega | (first | exact ho | exact ho.1 | exact ho.2 | exact ho.2.1 | exact ho.2.2 | exact ho.2.2.1 | exact ho.2.2.2 | exact pl_L10.ne (by first | omega | (first | exact ho | exact ho.1 | exact ho.2 | exact ho.2.1 | exact ho.2.2 | exact ho.2.2.1 | exact ho.2.2.2)) (by omega)))
    replace rk := rk.st st119 (fun k hk ho => by simp only [out, and_true] at ho ⊢ <;> first | omega | (first | exact ho | exact ho.1 | exact ho.2 | exact ho.2.1 | exact ho.2.2 | exact ho.2.2.1 | exact ho.2.2.2 | exact pl_L10.ne (by first | omega | (first | exact ho | exact ho.1 | exact ho.2 | exact ho.2.1 | exact ho.2.2 | exact ho.2.2.1 | exact ho.2.2.2)) (by omega)))
    replace lst4 := lst4.st st119 (fun k hk ho => by simp only [out, and_true] at ho ⊢ <;> first | omega | (first | exact ho | exact ho.1 | exact ho.2 | exact ho.2.1 | exact ho.2.2 | exact ho.2.2.1 | exact ho.2.2.2 | exact pl_L10.ne (by first | omega | (first | exact ho | exact ho.1 | exact ho.2 | exact ho.2.1 | exact ho.2.2 | exact ho.2.2.1 | exact ho.2.2.2)) (by omega)))
    have ne_g2_gL10 : g2 ≠ gL10 := pl_L10.ne ne_g2_g94 (by omega)
    replace at2 := st119.same _ _ ⟨ne_g2_gL10, trivial⟩ at2
    have ne_g4_gL10 : g4 ≠ gL10 := pl_L10.ne ne_g4_g94 (by omega)
    replace at4 := st119.same _ _ ⟨ne_g4_gL10, trivial⟩ at4
    have ne_gL5_gL10 : gL5 ≠ gL10 := pl_L10.ne ne_gL5_g94 (by omega)
    replace at_L5 := st119.same _ _ ⟨ne_gL5_gL10, trivial⟩ at_L5
    have ne_gLI_gL10 : gLI ≠ gL10 := pl_L10.ne ne_gLI_g94 (by omega)
    replace at_LI := st119.same _ _ ⟨ne_gLI_gL10, trivial⟩ at_LI
    have ne_gLC_gL10 : gLC ≠ gL10 := pl_L10.ne ne_gLC_g94 (by omega)
    replace at_LC := st119.same _ _ ⟨ne_gLC_gL10, trivial⟩ at_LC
    have ne_g76_gL10 : g76 ≠ gL10 := pl_L10.ne ne_g76_g94 (by omega)
    replace at76 := st119.same _ _ ⟨ne_g76_gL10, trivial⟩ at76
    have ne_g77_gL10 : g77 ≠ gL10 := pl_L10.ne ne_g77_g94 (by omega)
    replace at77 := st119.same _ _ ⟨ne_g77_gL10, trivial⟩ at77
    have ne_g91_gL10 : g91 ≠ gL10 := pl_L10.ne ne_g91_g94 (by omega)
    replace at91 := st119.same _ _ ⟨ne_g91_gL10, trivial⟩ at91
    have ne_g92_gL10 : g92 ≠ gL10 := pl_L10.ne ne_g92_g94 (by omega)
    replace at92 := st119.same _ _ ⟨ne_g92_gL10, trivial⟩ at92
    have ne_g7_gL10 : g7 ≠ gL10 := pl_L10.ne ne_g7_g94 (by omega)
    replace at16015 := st119.same _ _ ⟨ne_g7_gL10, trivial⟩ at16015
    have ne_g118_gL10 : g118 ≠ gL10 := by omega
    replace at118 := st119.same _ _ ⟨ne_g118_gL10, trivial⟩ at118
    have lt_at119 := GHeap.lt_of_get at119
    replace hin := base_hin.mono hle
    replace h := base_h.mono hle
    clear hb2 c02 c12 c22 c32 c42 i12 i22 i32 i42 hm2 hi2
    have hb2 : Cat.At _ g2 0 c p := ⟨Mem.of_get at2, hin⟩
    obtain ⟨c02, c12, c22, c32, c42, i12, i22, i32, i42⟩ := hb2.get
    have hm2 : MemN _ _ _ _ _ := ⟨rfl, hb2.1⟩
    have hi2 := hb2.2
    clear mm7008
    have mm7008 : MemN _ _ _ _ _ := ⟨rfl, Mem.of_get at7008⟩
    clear u1
    have u1 := i42.2 (xs.getD i 0).toNat (by omega)
    refine .d0 rfl rfl rfl rfl (.quiet (.assign rfl) CIs.mk) ?_
    refine .done ?_
    refine hK27 _ _ ?_
    refine .region (.m rfl rfl rfl (.move rfl) ?_)
    refine .m rfl rfl rfl (.add rfl rfl rfl (by omega) (by omega)) ?_
    refine .m rfl rfl rfl (.assign rfl) (.nil ?_)
    refine hKL4 ((j + 1, _, _)) _ _ ?_ ?_ ⟨rfl, rfl, rfl, rfl, rfl, rfl, rfl, rfl, trivial⟩
    ·
     refine ⟨lst4, by first | assumption | (rw [take_map_snoc (d := 0) (by omega)]; assumption), by first | assumption | exact ⟨.inr (by omega)⟩ | exact ⟨.inl rfl⟩, by first | omega | (simp only [List.length_append, List.length_cons, List.length_nil] <;> omega) | (rw [take_map_snoc (d := 0) (by omega)] <;> (first | omega | (simp only [List.length_append, List.length_cons, List.length_nil] <;> omega))), ?_⟩
     omega
    (dsimp only; omega)
   try simp only [sps] at h98
   refine .exit ?_
   refine hK23 _ _ ?_
   refine .region ?_
   obtain rfl : j = xs.length := by omega
   have hrl : (c.partR xs (xs.getD i 0)).length = nL10 := by rw [ln_L10]; simp [Cat.partR]
   refine .m rfl rfl rfl (.fieldAddr fo_27_4_B rfl) ?_
   refine .m rfl rfl rfl (.load on_23_B rfl (by first | assumption | exact Mem.of_get at16015 4 _ rfl)) ?_
   refine .m rfl rfl rfl (.move rfl) ?_
   refine .r rfl rfl rfl (.litR rfl sl_23_B ze_22_E rfl rfl (by omega) (by omega) rfl rfl) ?_
   rintro _ H123 ⟨g123, rfl, le123, ge123, at123⟩
   have nx_H123 := le123.1
   replace hle := hle.trans le123
   replace lst1 := lst1.le le123
   replace lst3 := lst3.le le123
   replace rk := rk.le le123
   replace at2 := le123.2 _ _ at2
   replace at4 := le123.2 _ _ at4
   replace at_L5 := le123.2 _ _ at_L5
   replace at_LI := le123.2 _ _ at_LI
   replace at_LC := le123.2 _ _ at_LC
   replace at76 := le123.2 _ _ at76
   replace at77 := le123.2 _ _ at77
   replace at91 := le123.2 _ _ at91
   replace at92 := le123.2 _ _ at92
   replace at16015 := le123.2 _ _ at16015
   replace at_L10 := le123.2 _ _ at_L10
   have lt_at123 := GHeap.lt_of_get at123
   replace hin := base_hin.mono hle
   replace h := base_h.mono hle
   clear hb2 c02 c12 c22 c32 c42 i12 i22 i32 i42 hm2 hi2
   have hb2 : Cat.At _ g2 0 c p := ⟨Mem.of_get at2, hin⟩
   obtain ⟨c02, c12, c22, c32, c42, i12, i22, i32, i42⟩ := hb2.get
   have hm2 : MemN _ _ _ _ _ := ⟨rfl, hb2.1⟩
   have hi2 := hb2.2
   clear mm7008
   have mm7008 : MemN _ _ _ _ _ := ⟨rfl, Mem.of_get at7008⟩
   clear u1
   have u1 := i42.2 (xs.getD i 0).toNat (by omega)
   refine .r rfl rfl rfl (.appendV rfl sl_23_B ze_22_E rfl by_22_E sl_23_B rfl rfl (by assumption) (by assumption) (by first | omega | (simp <;> omega)) rfl rfl (by omega) (by omega)) ?_
   rintro _ H124 ⟨g124, rfl, st124, ge124, at124⟩
   have nx_H124 := st124.nx
   replace hle := hle.st st124 (fun k hk => ⟨by omega, trivial⟩)
   replace lst1 := lst1.st st124 (fun k hk ho => by simp only [out, and_true] at ho ⊢ <;> first | omega | (first | exact ho | exact ho.1 | exact ho.2 | exact ho.2.1 | exact ho.2.2 | exact ho.2.2.1 | exact ho.2.2.2 | exact pl_LC.ne (by first | omega | (first | exact ho | exact ho.1 | exact ho.2 | exact ho.2.1 | exact ho.2.2 | exact ho.2.2.1 | exact ho.2.2.2)) (by omega)))
   replace lst3 := lst3.st st124 (fun k hk ho => by simp only [out, and_true] at ho ⊢ <;> first | omega | (first | exact ho | exact ho.1 | exact ho.2 | exact ho.2.1 | exact ho.2.2 | exact ho.2.2.1 | exact ho.2.2.2 | exact pl_LC.ne (by first | omega | (first | exact ho | exact ho.1 | exact ho.2 | exact ho.2.1 | exact ho.2.2 | exact ho.2.2.1 | exact ho.2.2.2)) (by omega)))
   replace rk := rk.st st124 (fun k hk ho => by simp only [out, and_true] at ho ⊢ <;> first | omega | (first | exact ho | exact ho.1 | exact ho.2 | exact ho.2.1 | exact ho.2.2 | exact ho.2.2.1 | exact ho.2.2.2 | exact pl_LC.ne (by first | omega | (first | exact ho | exact ho.1 | exact ho.2 | exact ho.2.1 | exact ho.2.2 | exact ho.2.2.1 | exact ho.2.2.2)) (by omega)))
   have ne_g2_gLC : g2 ≠ gLC := pl_LC.ne ne_g2_g35 (by omega)
   replace at2 := st124.same _ _ ⟨ne_g2_gLC, trivial⟩ at2
   have ne_g4_gLC : g4 ≠ gLC := pl_LC.ne ne_g4_g35 (by omega)
   replace at4 := st124.same _ _ ⟨ne_g4_gLC, trivial⟩ at4
   have ne_gL5_gLC : gL5 ≠ gLC := pl_LC.ne ne_gL5_g35 (by omega)
   replace at_L5 := st124.same _ _ ⟨ne_gL5_gLC, trivial⟩ at_L5
   have ne_gLI_gLC : gLI ≠ gLC := pl_LC.ne (Ne.symm ne_g35_gLI) (by omega)
   replace at_LI := st124.same _ _ ⟨ne_gLI_gLC, trivial⟩ at_LI
   have ne_g76_gLC : g76 ≠ gLC := by omega
   replace at76 := st124.same _ _ ⟨ne_g76_gLC, trivial⟩ at76
   have ne_g77_gLC : g77 ≠ gLC := by omega
   replace at77 := st124.same _ _ ⟨ne_g77_gLC, trivial⟩ at77
   have ne_g91_gLC : g91 ≠ gLC := by omega
   replace at91 := st124.same _ _ ⟨ne_g91_gLC, trivial⟩ at91
   have ne_g92_gLC : g92 ≠ gLC := by omega
   replace at92 := st124.same _ _ ⟨ne_g92_gLC, trivial⟩ at92
   replace at16015 := st124.same _ _ ⟨(Ne.symm ap3_5), trivial⟩ at16015
   have ne_gLC_gL10 : gLC ≠ gL10 := pl_L10.ne ne_gLC_g94 (by omega)
   replace at_L10 := st124.same _ _ ⟨(Ne.symm ne_gLC_gL10), trivial⟩ at_L10
   have ne_g123_gLC : g123 ≠ gLC := by omega
   replace at123 := st124.same _ _ ⟨ne_g123_gLC, trivial⟩ at123
   have lt_at124 := GHeap.lt_of_get at124
   replace hin := base_hin.mono hle
   replace h := base_h.mono hle
   clear hb2 c02 c12 c22 c32 c42 i12 i22 i32 i42 hm2 hi2
   have hb2 : Cat.At _ g2 0 c p := ⟨Mem.of_get at2, hin⟩
   obtain ⟨c02, c12, c22, c32, c42, i12, i22, i32, i42⟩ := hb2.get
   have hm2 : MemN _ _ _ _ _ := ⟨rfl, hb2.1⟩
   have hi2 := hb2.2
   clear mm7008
   have mm7008 : MemN _ _ _ _ _ := ⟨rfl, Mem.of_get at7008⟩
   clear u1
   have u1 := i42.2 (xs.getD i 0).toNat (by omega)
   refine .m rfl rfl rfl (.fieldAddr fo_27_4_B rfl) ?_
   refine .r0 rfl rfl (.storeR rfl sz_23_E rfl rfl rfl (by assumption) (by first | exact Nat.le_of_ble_eq_true rfl | (simp; done) | (simp <;> omega))) ?_
   rintro _ H22006 ⟨rfl, st22006, at22006⟩
   have nx_H22006 := st22006.nx
   replace hle := hle.st st22006 (fun k hk => ⟨by omega, trivial⟩)
   replace lst1 := lst1.st st22006 (fun k hk ho => by simp only [out, and_true] at ho ⊢ <;> first | omega | (first | exact ho | exact ho.1 | exact ho.2 | exact ho.2.1 | exact ho.2.2 | exact ho.2.2.1 | exact ho.2.2.2))
   replace lst3 := lst3.st st22006 (fun k hk ho => by simp only [out, and_true] at ho ⊢ <;> first | omega | (first | exact ho | exact ho.1 | exact ho.2 | exact ho.2.1 | exact ho.2.2 | exact ho.2.2.1 | exact ho.2.2.2))
   replace rk := rk.st st22006 (fun k hk ho => by simp only [out, and_true] at ho ⊢ <;> first | omega | (first | exact ho | exact ho.1 | exact ho.2 | exact ho.2.1 | exact ho.2.2 | exact ho.2.2.1 | exact ho.2.2.2))
   replace at2 := st22006.same _ _ ⟨ne_g2_g7, trivial⟩ at2
   replace at4 := st22006.same _ _ ⟨ne_g4_g7, trivial⟩ at4
   replace at_L5 := st22006.same _ _ ⟨ne_gL5_g7, trivial⟩ at_L5
   replace at_LI := st22006.same _ _ ⟨ap2_0, trivial⟩ at_LI
   replace at76 := st22006.same _ _ ⟨ne_g76_g7, trivial⟩ at76
   replace at77 := st22006.same _ _ ⟨ne_g77_g7, trivial⟩ at77
   replace at91 := st22006.same _ _ ⟨ne_g91_g7, trivial⟩ at91
   replace at92 := st22006.same _ _ ⟨ne_g92_g7, trivial⟩ at92
   have ne_g7_gL10 : g7 ≠ gL10 := pl_L10.ne ne_g7_g94 (by omega)
   replace at_L10 := st22006.same _ _ ⟨(Ne.symm ne_g7_gL10), trivial⟩ at_L10
   have ne_g123_g7 : g123 ≠ g7 := by omega
   replace at123 := st22006.same _ _ ⟨ne_g123_g7, trivial⟩ at123
   have ne_g124_g7 : g124 ≠ g7 := by omega
   replace at124 := st22006.same _ _ ⟨ne_g124_g7, trivial⟩ at124
   have lt_at22006 := GHeap.lt_of_get at22006
   replace hin := base_hin.mono hle
   replace h := base_h.mono hle
   clear hb2 c02 c12 c22 c32 c42 i12 i22 i32 i42 hm2 hi2
   have hb2 : Cat.At _ g2 0 c p := ⟨Mem.of_get at2, hin⟩
   obtain ⟨c02, c12, c22, c32, c42, i12, i22, i32, i42⟩ := hb2.get
   have hm2 : MemN _ _ _ _ _ := ⟨rfl, hb2.1⟩
   have hi2 := hb2.2
   clear mm7008
   have mm7008 : MemN _ _ _ _ _ := ⟨rfl, Mem.of_get at7008⟩
   clear u1
   have u1 := i42.2 (xs.getD i 0).toNat (by omega)
   try simp only [Nat.zero_add, List.set_cons_succ, List.set_cons_zero] at at22006
   refine .nil ?_
   refine hK19 _ _ ?_
   refine .region (.m rfl rfl rfl (.move rfl) ?_)
   refine .m rfl rfl rfl (.add rfl rfl rfl (by omega) (by omega)) ?_
   refine .m rfl rfl rfl (.assign rfl) (.nil ?_)
   refine hKL3 ((i + 1, upd rr (c.partL xs i).length (some ⟨gL10, 0, none⟩), g77, g92, g124)) _ _ ?_ ?_ ⟨rfl, rfl, rfl, rfl, rfl, rfl, trivial⟩
   ·
    refine ⟨lst3, by first | assumption | (rw [take_map_snoc (d := 0) (by omega)]; assumption) | (rw [Cat.partL_succ (by omega), slsL_snoc, hrl]; assumption), by first | assumption | exact ⟨.inr (by omega)⟩ | exact ⟨.inl rfl⟩, by first | assumption | (rw [take_map_snoc (d := 0) (by omega)]; assumption) | (rw [Cat.partL_succ (by omega), slsL_snoc, hrl]; assumption), by first | assumption | exact ⟨.inr (by omega)⟩ | exact ⟨.inl rfl⟩, by first | assumption | (rw [take_map_snoc (d := 0) (by omega)]; assumption) | (rw [Cat.partL_succ (by omega), slsL_snoc, hrl]; assumption), by first | assumption | exact ⟨.inr (by omega)⟩ | exact ⟨.inl rfl⟩, by first | assumption | (rw [take_map_snoc (d := 0) (by omega)]; assumption) | (rw [Cat.partL_succ (by omega), slsL_snoc, hrl]; assumption), by first | assumption | omega, by first | assumption | omega, by first | assumption | omega, by first | assumption | omega, by first | assumption | omega, by first | assumption | omega, ?_⟩
    have hR' := hR.st rk (.cons hF (.cons hT (.cons (hR.neT hatC rfl) (.cons (hR.neT hat7 rfl) (.nil _ _)))))
    have hn1 := hR.ne (g := gL10) (pl_L10.ge (by omega) (by omega))
    have hn2 := hR.ne (g := g77) (by omega)
    have hn3 := hR.ne (g := g92) (by omega)
    have hx1 : g77 ≠ gL10 := pl_L10.ne (by omega) (by omega)
    have hx3 : gLI ≠ gL10 := pl_L10.ne (by omega) (by omega)
    have hx2 : g92 ≠ gL10 := pl_L10.ne (by omega) (by omega)
    have hrow := at_L10
    rw [List.take_length] at hrow
    rw [Cat.partL_succ (by omega)]
    exact ⟨by omega, hR'.snoc2 hrow hn1 (by omega), ne_snoc hn2 (by omega), ne_snoc hn3 (by omega), ne_snoc hId (by omega)⟩
   (dsimp only; omega)
  try simp only [sps] at h61
  refine .exit ?_
  refine hK15 _ _ ?_
  refine .seq (fun K28 hK28 => ?_)
  refine .region ?_
  refine .m rfl rfl rfl (.loadM ag_27_D rfl ⟨rfl, Mem.of_get at_Lg7⟩) ?_
  have hat4 := at4
  refine .r0 rfl rfl (.fillR rfl sz_27_D rfl rfl rfl rfl (by assumption) (by first | rfl | exact Nat.le_of_ble_eq_true rfl | simp)) ?_
  rintro _ H23001 ⟨rfl, st23001, at23001⟩
  have nx_H23001 := st23001.nx
  replace hle := hle.st st23001 (fun k hk => ⟨by omega, trivial⟩)
  have ne_g2_g4 : g2 ≠ g4 := by omega
  replace at2 := st23001.same _ _ ⟨ne_g2_g4, trivial⟩ at2
  have ne_g4_gL5 : g4 ≠ gL5 := pl_L5.ne ne_g4_g12 (by omega)
  replace at_L5 := st23001.same _ _ ⟨(Ne.symm ne_g4_gL5), trivial⟩ at_L5
  have ne_g4_gLI : g4 ≠ gLI := pl_LI.ne ne_g4_g34 (by omega)
  replace at_LI := st23001.same _ _ ⟨(Ne.symm ne_g4_gLI), trivial⟩ at_LI
  have ne_g4_gLF : g4 ≠ gLF := pl_LF.ne ne_g4_g32 (by omega)
  replace at_LF := st23001.same _ _ ⟨(Ne.symm ne_g4_gLF), trivial⟩ at_LF
  have ne_g4_gLT : g4 ≠ gLT := pl_LT.ne ne_g4_g33 (by omega)
  replace at_LT := st23001.same _ _ ⟨(Ne.symm ne_g4_gLT), trivial⟩ at_LT
  have ne_g4_gLC : g4 ≠ gLC := pl_LC.ne ne_g4_g35 (by omega)
  replace at_LC := st23001.same _ _ ⟨(Ne.symm ne_g4_gLC), trivial⟩ at_LC
  replace at_Lg7 := st23001.same _ _ ⟨(Ne.symm ne_g4_g7), trivial⟩ at_Lg7
  have lt_at23001 := GHeap.lt_of_get at23001
  replace hin := base_hin.mono hle
  replace h := base_h.mono hle
  clear hb2 c02 c12 c22 c32 c42 i12 i22 i32 i42 hm2 hi2
  have hb2 : Cat.At _ g2 0 c p := ⟨Mem.of_get at2, hin⟩
  obtain ⟨c02, c12, c22, c32, c42, i12, i22, i32, i42⟩ := hb2.get
  have hm2 : MemN _ _ _ _ _ := ⟨rfl, hb2.1⟩
  have hi2 := hb2.2
  clear mm7008
  have mm7008 : MemN _ _ _ _ _ := ⟨rfl, Mem.of_get at7008⟩
  have mm23001 : MemN _ _ _ _ _ := ⟨rfl, Mem.of_get at23001⟩
  refine .nil ?_
  refine hK28 _ _ ?_
  refine .ret ?_
  refine hret _ _ ?_
  refine ⟨_, _, _, _, rfl, ag_27_D, (by rfl), (Mem.of_get at23001), ?_⟩
  obtain rfl : i = xs.length := by omega
  obtain rfl : x = (c.partO xs).length := by omega
  rw [List.take_length] at at_LF at_LT at_LI
  have hx4 : gLI ≠ gLF := pl_LF.ne (pl_LI.ne' (by omega) (by omega)) (by omega)
  have hx5 : gLI ≠ gLT := pl_LT.ne (pl_LI.ne' (by omega) (by omega)) (by omega)
  rw [Cat.partL_all] at at_LC hR hF hT hId
  refine ⟨hle, ⟨some ⟨gLF, 0, none⟩, some ⟨gLT, 0, none⟩, some ⟨gLI, 0, none⟩, some ⟨gLC, 0, none⟩, rr⟩, by simp [Cat.cells, Cat.part], ?_⟩
  exact .mk (.of_at at_LF (by omega)) (.of_at at_LT (by omega)) (.of_at at_LI (by omega)) ((hR.st st23001 (.cons (hR.neT hat4 rfl) (.nil _ _))).done at_LC (by omega)) (.inr rfl) (.inr rfl) (.inr rfl) (by omega) (by omega) (by omega) (fun i hi => ⟨hF i hi, hT i hi, hId i hi⟩)
end Go.Proofs.Ytgnfekfdmgnhcaa
