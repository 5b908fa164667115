/- Classes of left extensions. No condition but those of each statement. -/
import Derived.Test.YtgnfekfdmgnhcaaZ10
namespace Go.Proofs.Ytgnfekfdmgnhcaa
open Go Go.GL Go.RowKit Go.Proofs
theorem bt_119_Lc : buildT Try.prog 119 = some ([.slice none 0 0, .map none, .slice none 0 0], [(0, 1), (1, 1), (2, 1)]) := by kernel_rfl
theorem sz_119_Lc : (Try.prog.info? 119).map (·.size) = some 3 := by kernel_rfl
theorem fo_119_0_Lc : fieldOff Try.prog 119 0 = some 0 := by kernel_rfl
theorem fo_119_1_Lc : fieldOff Try.prog 119 1 = some 1 := by kernel_rfl
theorem sz_117_Lc : (Try.prog.info? 117).map (·.size) = some 1 := by kernel_rfl
theorem on_117_Lc : oneT Try.prog 117 = true := by kernel_rfl
theorem fo_119_2_Lc : fieldOff Try.prog 119 2 = some 2 := by kernel_rfl
theorem sz_106_Lc : (Try.prog.info? 106).map (·.size) = some 1 := by kernel_rfl
theorem on_106_Lc : oneT Try.prog 106 = true := by kernel_rfl
set_option maxHeartbeats 4000000 in
theorem l23Classes_c {k : Fun} {p : FunP} {f : SFun} {q : SFunP} {y : Int} {ad : Option Addr} {r : Nat → Option Addr} {H : GHeap} (hin : k.In H p) (hin1 : f.In H q) (h : Intss H ad (lcE k f y) r) (o : LcOk k f) (hL : (lcE k f y).length ≤ 256) :
    GCalls Try.prog 81 [.agg (k.cells p).toArray, .agg (f.cells q).toArray, .slice ad (lcE k f y).length (lcE k f y).length] H (NewInts 2 H (joinL (lcE k f y).length (lcI k f y k.s.src.length 0 0))) := by
  have hS := o.hk.2.1.1
  have hc := hin.1
  have hK := lcE_keys (y := y) o
  obtain ⟨l1, l2, l3, l4, l5, l6, l7⟩ := o.len
  have hl3 : ∀ i, ((lcE k f y).getD i []).length ≤ 3 := fun i => by
    by_cases hi : i < (lcE k f y).length
    · have := (hK.ok _ (getD_mem_list (d := []) hi)).1; omega
    · rw [List.getD_eq_getElem?_getD, List.getElem?_eq_none (by omega)]; simp
  refine GCalls.body (N := 106) (rs := [.tmp 6]) Try.func81 rfl rfl rfl rfl (fun Qx hret hend => ?_)
  refine .forget (fr' := [(0, some _), (1, some _), (2, some _)]) ⟨rfl, rfl, rfl, trivial⟩ ?_
  have hle := GHeap.Le.refl H
  have base_hin := hin
  have base_hin1 := hin1
  have base_h := h
  have base_hc := hc
  refine .seq (fun K1 hK1 => ?_)
  refine .region ?_
  refine .r rfl rfl rfl (.boxR rfl sz_62_E rfl) ?_
  rintro _ H3 ⟨g3, rfl, le3, ge3, at3⟩
  have nx_H3 := le3.1
  replace hle := hle.trans le3
  have lt_at3 := GHeap.lt_of_get at3
  replace hin := base_hin.mono hle
  replace hin1 := base_hin1.mono hle
  replace h := base_h.mono hle
  replace hc := base_hc.mono hle
  have hb3 : Fun.At _ g3 0 k p := ⟨Mem.of_get at3, hin⟩
  obtain ⟨fs3, ft3, c103, c113, j13, j23⟩ := hb3.get
  have hm3 : MemN _ _ _ _ _ := ⟨rfl, hb3.1⟩
  have hi3 := hb3.2
  have hms3 : MemN _ _ _ _ _ := ⟨rfl, fs3.1⟩
  have his3 := fs3.2
  have hmt3 : MemN _ _ _ _ _ := ⟨rfl, ft3.1⟩
  have hit3 := ft3.2
  refine .r rfl rfl rfl (.boxR rfl sz_65_VSFun rfl) ?_
  rintro _ H4 ⟨g4, rfl, le4, ge4, at4⟩
  have nx_H4 := le4.1
  replace hle := hle.trans le4
  replace at3 := le4.2 _ _ at3
  have lt_at4 := GHeap.lt_of_get at4
  replace hin := base_hin.mono hle
  replace hin1 := base_hin1.mono hle
  replace h := base_h.mono hle
  replace hc := base_hc.mono hle
  clear hb3 fs3 ft3 c103 c113 j13 j23 hm3 hi3 hms3 his3 hmt3 hit3
  have hb3 : Fun.At _ g3 0 k p := ⟨Mem.of_get at3, hin⟩
  obtain ⟨fs3, ft3, c103, c113, j13, j23⟩ := hb3.get
  have hm3 : MemN _ _ _ _ _ := ⟨rfl, hb3.1⟩
  have hi3 := hb3.2
  have hms3 : MemN _ _ _ _ _ := ⟨rfl, fs3.1⟩
  have his3 := fs3.2
  have hmt3 : MemN _ _ _ _ _ := ⟨rfl, ft3.1⟩
  have hit3 := ft3.2
  have hb4 : SFun.At _ g4 0 f q := ⟨Mem.of_get at4, hin1⟩
  obtain ⟨fsh4, c54, c64, i14, i24⟩ := hb4.get
  have hm4 : MemN _ _ _ _ _ := ⟨rfl, hb4.1⟩
  have hi4 := hb4.2
  have hmsh4 : MemN _ _ _ _ _ := ⟨rfl, fsh4.1⟩
  have hish4 := fsh4.2
  refine .m rfl rfl rfl (.assign rfl) (.nil ?_)
  refine hK1 _ _ ?_
  refine .seq (fun K2 hK2 => ?_)
  refine .region (.m rfl rfl rfl (.fieldAddr fo_62_0_E rfl) ?_)
  refine .m rfl rfl rfl (.loadM ag_27_D rfl (by assumption)) ?_
  refine .r rfl rfl rfl (.allocR rfl ze_27_E rfl) ?_
  rintro _ H7 ⟨g7, rfl, le7, ge7, at7⟩
  have nx_H7 := le7.1
  replace hle := hle.trans le7
  replace at3 := le7.2 _ _ at3
  replace at4 := le7.2 _ _ at4
  have lt_at7 := GHeap.lt_of_get at7
  replace hin := base_hin.mono hle
  replace hin1 := base_hin1.mono hle
  replace h := base_h.mono hle
  replace hc := base_hc.mono hle
  clear hb3 fs3 ft3 c103 c113 j13 j23 hm3 hi3 hms3 his3 hmt3 hit3
  have hb3 : Fun.At _ g3 0 k p := ⟨Mem.of_get at3, hin⟩
  obtain ⟨fs3, ft3, c103, c113, j13, j23⟩ := hb3.get
  have hm3 : MemN _ _ _ _ _ := ⟨rfl, hb3.1⟩
  have hi3 := hb3.2
  have hms3 : MemN _ _ _ _ _ := ⟨rfl, fs3.1⟩
  have his3 := fs3.2
  have hmt3 : MemN _ _ _ _ _ := ⟨rfl, ft3.1⟩
  have hit3 := ft3.2
  clear hb4 fsh4 c54 c64 i14 i24 hm4 hi4 hmsh4 hish4
  have hb4 : SFun.At _ g4 0 f q := ⟨Mem.of_get at4, hin1⟩
  obtain ⟨fsh4, c54, c64, i14, i24⟩ := hb4.get
  have hm4 : MemN _ _ _ _ _ := ⟨rfl, hb4.1⟩
  have hi4 := hb4.2
  have hmsh4 : MemN _ _ _ _ _ := ⟨rfl, fsh4.1⟩
  have hish4 := fsh4.2
  refine .r0 rfl rfl (.fillR rfl sz_27_D rfl rfl rfl rfl (by assumption) (by first | rfl | exact Nat.le_of_ble_eq_true rfl | simp)) ?_
  rintro _ H1003 ⟨rfl, st1003, at1003⟩
  have nx_H1003 := st1003.nx
  replace hle := hle.st st1003 (fun k hk => ⟨by omega, trivial⟩)
  have ne_g3_g7 : g3 ≠ g7 := by omega
  replace at3 := st1003.same _ _ ⟨ne_g3_g7, trivial⟩ at3
  have ne_g4_g7 : g4 ≠ g7 := by omega
  replace at4 := st1003.same _ _ ⟨ne_g4_g7, trivial⟩ at4
  have lt_at1003 := GHeap.lt_of_get at1003
  replace hin := base_hin.mono hle
  replace hin1 := base_hin1.mono hle
  replace h := base_h.mono hle
  replace hc := base_hc.mono hle
  clear hb3 fs3 ft3 c103 c113 j13 j23 hm3 hi3 hms3 his3 hmt3 hit3
  have hb3 : Fun.At _ g3 0 k p := ⟨Mem.of_get at3, hin⟩
  obtain ⟨fs3, ft3, c103, c113, j13, j23⟩ := hb3.get
  have hm3 : MemN _ _ _ _ _ := ⟨rfl, hb3.1⟩
  have hi3 := hb3.2
  have hms3 : MemN _ _ _ _ _ := ⟨rfl, fs3.1⟩
  have his3 := fs3.2
  have hmt3 : MemN _ _ _ _ _ := ⟨rfl, ft3.1⟩
  have hit3 := ft3.2
  clear hb4 fsh4 c54 c64 i14 i24 hm4 hi4 hmsh4 hish4
  have hb4 : SFun.At _ g4 0 f q := ⟨Mem.of_get at4, hin1⟩
  obtain ⟨fsh4, c54, c64, i14, i24⟩ := hb4.get
  have hm4 : MemN _ _ _ _ _ := ⟨rfl, hb4.1⟩
  have hi4 := hb4.2
  have hmsh4 : MemN _ _ _ _ _ := ⟨rfl, fsh4.1⟩
  have hish4 := fsh4.2
  have mm1003 : MemN _ _ _ _ _ := ⟨rfl, Mem.of_get at1003⟩
  have hb7 : Cat.At _ g7 0 k.s p.s := ⟨Mem.of_get at1003, hc⟩
  obtain ⟨c07, c17, c27, c37, c47, i17, i27, i37, i47⟩ := hb7.get
  have hm7 : MemN _ _ _ _ _ := ⟨rfl, hb7.1⟩
  have hi7 := hb7.2
  refine .nil ?_
  refine hK2 _ _ ?_
  refine .seq (fun K3 hK3 => ?_)
  refine .region ?_
  refine .r rfl rfl rfl (.litR rfl sl_23_B ze_22_E rfl rfl (by omega) (by omega) rfl rfl) ?_
  rintro _ H17 ⟨g17, rfl, le17, ge17, at17⟩
  have nx_H17 := le17.1
  replace hle := hle.trans le17
  replace at3 := le17.2 _ _ at3
  replace at4 := le17.2 _ _ at4
  replace at1003 := le17.2 _ _ at1003
  have lt_at17 := GHeap.lt_of_get at17
  replace hin := base_hin.mono hle
  replace hin1 := base_hin1.mono hle
  replace h := base_h.mono hle
  replace hc := base_hc.mono hle
  clear hb3 fs3 ft3 c103 c113 j13 j23 hm3 hi3 hms3 his3 hmt3 hit3
  have hb3 : Fun.At _ g3 0 k p := ⟨Mem.of_get at3, hin⟩
  obtain ⟨fs3, ft3, c103, c113, j13, j23⟩ := hb3.get
  have hm3 : MemN _ _ _ _ _ := ⟨rfl, hb3.1⟩
  have hi3 := hb3.2
  have hms3 : MemN _ _ _ _ _ := ⟨rfl, fs3.1⟩
  have his3 := fs3.2
  have hmt3 : MemN _ _ _ _ _ := ⟨rfl, ft3.1⟩
  have hit3 := ft3.2
  clear hb4 fsh4 c54 c64 i14 i24 hm4 hi4 hmsh4 hish4
  have hb4 : SFun.At _ g4 0 f q := ⟨Mem.of_get at4, hin1⟩
  obtain ⟨fsh4, c54, c64, i14, i24⟩ := hb4.get
  have hm4 : MemN _ _ _ _ _ := ⟨rfl, hb4.1⟩
  have hi4 := hb4.2
  have hmsh4 : MemN _ _ _ _ _ := ⟨rfl, fsh4.1⟩
  have hish4 := fsh4.2
  clear mm1003
  have mm1003 : MemN _ _ _ _ _ := ⟨rfl, Mem.of_get at1003⟩
  clear hb7 c07 c17 c27 c37 c47 i17 i27 i37 i47 hm7 hi7
  have hb7 : Cat.At _ g7 0 k.s p.s := ⟨Mem.of_get at1003, hc⟩
  obtain ⟨c07, c17, c27, c37, c47, i17, i27, i37, i47⟩ := hb7.get
  have hm7 : MemN _ _ _ _ _ := ⟨rfl, hb7.1⟩
  have hi7 := hb7.2
  refine .m rfl rfl rfl (.assign rfl) (.nil ?_)
  refine hK3 _ _ ?_
  refine .seq (fun K4 hK4 => ?_)
  refine .seq (fun K5 hK5 => ?_)
  refine .region (.m rfl rfl rfl (.assign rfl) (.nil ?_))
  refine hK5 _ _ ?_
  refine .block ?_
  refine .loopR (σ := Nat × (Nat → Option Addr) × Nat × Nat) [(2, some _), (3, some _), (4, some _), (7, some _)] (fun (j, rr, gL8, nL8) => [(9, some (.int .i64 (j : Int))), (8, some (.slice (some ⟨gL8, 0, none⟩) nL8 nL8))]) (fun (j, rr, gL8, nL8) H' => St [g17] H17 H' ∧ H'.get gL8 = some (.row ((slsL rr (lcS k f y j 0 0))) 22 true) ∧ PL gL8 g17 H17.next ∧ nL8 = (slsL rr (lcS k f y j 0 0)).length ∧ j ≤ (lcE k f y).length ∧ OwnL H.next H' 2 rr (lcS k f y j 0 0)) (fun (j, rr, gL8, nL8) => (lcE k f y).length - j) ((0, fun _ => none, _, _)) ⟨rfl, rfl, rfl, rfl, trivial⟩ ⟨rfl, rfl, trivial⟩ ?_ ?_
  ·
   refine ⟨.refl _ _, by first | assumption | exact at17 | simpa using at17, ⟨.inl rfl⟩, by first | rfl | assumption | simp | omega, ?_⟩
   exact ⟨by omega, .nil _ _ _ _⟩
  rintro ⟨j, rr, gL8, nL8⟩ HL1 ⟨lst1, at_L8, pl_L8, ln_L8, hI⟩ KL1 hKL1
  refine .forget (fr' := [(9, some (.int .i64 (j : Int))), (8, some (.slice (some ⟨gL8, 0, none⟩) nL8 nL8)), (2, some _), (3, some _), (4, some _), (7, some _)]) ⟨rfl, rfl, rfl, rfl, rfl, rfl, trivial⟩ ?_
  have ge_L8 : H.next ≤ gL8 := pl_L8.ge (by omega) (by omega)
  have nx_HL1 := lst1.nx
  replace hle := hle.st lst1 (fun k hk => ⟨by omega, trivial⟩)
  have ne_g3_g17 : g3 ≠ g17 := by omega
  replace at3 := lst1.same _ _ ⟨ne_g3_g17, trivial⟩ at3
  have ne_g4_g17 : g4 ≠ g17 := by omega
  replace at4 := lst1.same _ _ ⟨ne_g4_g17, trivial⟩ at4
  have ne_g7_g17 : g7 ≠ g17 := by omega
  replace at1003 := lst1.same _ _ ⟨ne_g7_g17, trivial⟩ at1003
  have lt_at_L8 := GHeap.lt_of_get at_L8
  replace hin := base_hin.mono hle
  replace hin1 := base_hin1.mono hle
  replace h := base_h.mono hle
  replace hc := base_hc.mono hle
  clear hb3 fs3 ft3 c103 c113 j13 j23 hm3 hi3 hms3 his3 hmt3 hit3
  have hb3 : Fun.At _ g3 0 k p := ⟨Mem.of_get at3, hin⟩
  obtain ⟨fs3, ft3, c103, c113, j13, j23⟩ := hb3.get
  have hm3 : MemN _ _ _ _ _ := ⟨rfl, hb3.1⟩
  have hi3 := hb3.2
  have hms3 : MemN _ _ _ _ _ := ⟨rfl, fs3.1⟩
  have his3 := fs3.2
  have hmt3 : MemN _ _ _ _ _ := ⟨rfl, ft3.1⟩
  have hit3 := ft3.2
  clear hb4 fsh4 c54 c64 i14 i24 hm4 hi4 hmsh4 hish4
  have hb4 : SFun.At _ g4 0 f q := ⟨Mem.of_get at4, hin1⟩
  obtain ⟨fsh4, c54, c64, i14, i24⟩ := hb4.get
  have hm4 : MemN _ _ _ _ _ := ⟨rfl, hb4.1⟩
  have hi4 := hb4.2
  have hmsh4 : MemN _ _ _ _ _ := ⟨rfl, fsh4.1⟩
  have hish4 := fsh4.2
  clear mm1003
  have mm1003 : MemN _ _ _ _ _ := ⟨rfl, Mem.of_get at1003⟩
  clear hb7 c07 c17 c27 c37 c47 i17 i27 i37 i47 hm7 hi7
  have hb7 : Cat.At _ g7 0 k.s p.s := ⟨Mem.of_get at1003, hc⟩
  obtain ⟨c07, c17, c27, c37, c47, i17, i27, i37, i47⟩ := hb7.get
  have hm7 : MemN _ _ _ _ _ := ⟨rfl, hb7.1⟩
  have hi7 := hb7.2
  obtain ⟨hj, hR⟩ := hI
  refine .seq (fun K6 hK6 => ?_)
  refine .seq (fun K7 hK7 => ?_)
  refine .region (.m rfl rfl rfl (.move rfl) (.m rfl rfl rfl (.move rfl) (.m rfl rfl rfl (.len sl_23_B rfl) ?_)))
  refine .m rfl rfl rfl (.cmp rfl rfl rfl) (.nil ?_)
  refine hK7 _ _ ?_
  refine .cond rfl (fun h21 => ?_) (fun h21 => ?_)
  ·
   simp only [sps] at h21
   have hE3 := (hK.ok _ (getD_mem_list (d := []) (show j < (lcE k f y).length by omega))).1
   have hE4 := (hK.ok _ (getD_mem_list (d := []) (show j < (lcE k f y).length by omega))).2
   have hx0 := hE4 0 (by omega)
   have hx1 := hE4 1 (by omega)
   obtain ⟨xx, dd, hh, x1, x2, x3, x4⟩ := lcE_get (show j < (lcE k f y).length by omega)
   have u1 := h.2 j (by omega)
   refine .skip ?_
   refine hK6 _ _ ?_
   refine .seq (fun K8 hK8 => ?_)
   refine .block ?_
   refine .seq (fun K9 hK9 => ?_)
   refine .regionD mixed_orders_B (.q 0 (.q 1 (.q 2 (.q 3 (.q 4 (.q 5 (.q 6 (.q 7 (.q 8 (.q 9 (.q 10 (.q 11 (.q 12 (.q 13 (.done))))))))))))))) (by kernel_rfl) ?_
   refine .m rfl rfl rfl rfl (.refl _) (.move rfl) (.m rfl rfl rfl rfl (.refl _) (.move rfl) ?_)
   refine .m rfl rfl rfl rfl (.refl _) (.idxN sl_23_B (Intss.sl (by assumption)) rfl rfl (by omega)) ?_
   refine .m rfl rfl rfl rfl (.refl _) (.loadR on_22_B (by assumption) rfl (by omega)) ?_
   refine .m rfl rfl rfl rfl (.refl _) (.idxN (j := 0) sl_22_A (by assumption) rfl rfl (by omega)) ?_
   refine .m rfl rfl rfl rfl (.refl _) (.loadI on_2_A (by assumption) rfl (by omega)) ?_
   refine .m rfl rfl rfl rfl (.refl _) (.move rfl) (.m rfl rfl rfl rfl (.refl _) (.move rfl) ?_)
   refine .m rfl rfl rfl rfl (.refl _) (.idxN sl_23_B (Intss.sl (by assumption)) rfl rfl (by omega)) ?_
   refine .m rfl rfl rfl rfl (.refl _) (.loadR on_22_B (by assumption) rfl (by omega)) ?_
   refine .m rfl rfl rfl rfl (.refl _) (.idxN (j := 1) sl_22_A (by assumption) rfl rfl (by omega)) ?_
   refine .m rfl rfl rfl rfl (.refl _) (.loadI on_2_A (by assumption) rfl (by omega)) ?_
   refine .m rfl rfl rfl rfl (.refl _) (.assign rfl) (.m rfl rfl rfl rfl (.refl _) (.assign rfl) ?_)
   refine .done ?_
   refine hK9 _ _ ?_
   refine .seq (fun K10 hK10 => ?_)
   refine .region (.m rfl rfl rfl (.assign rfl) (.nil ?_))
   refine hK10 _ _ ?_
   refine .block ?_
   refine .loopR (σ := Nat × (Nat → Option Addr) × Nat × Nat) [(2, some _), (3, some _), (4, some _), (7, some _), (9, some _), (10, some _), (11, some _)] (fun (a, r2, gL8v2, nL8v2) => [(12, some (.int .i64 (a : Int))), (8, some (.slice (some ⟨gL8v2, 0, none⟩) nL8v2 nL8v2))]) (fun (a, r2, gL8v2, nL8v2) H' => St [gL8] HL1 H' ∧ H'.get gL8v2 = some (.row ((slsL r2 (lcS k f y j a 0))) 22 true) ∧ PL gL8v2 gL8 HL1.next ∧ nL8v2 = (slsL r2 (lcS k f y j a 0)).length ∧ a ≤ k.s.src.length ∧ OwnL H.next H' 2 r2 (lcS k f y j a 0)) (fun (a, r2, gL8v2, nL8v2) => k.s.src.length - a) ((0, rr, _, _)) ⟨rfl, rfl, rfl, rfl, rfl, rfl, rfl, trivial⟩ ⟨rfl, rfl, trivial⟩ ?_ ?_
   ·
    refine ⟨.refl _ _, by first | assumption | exact at_L8 | simpa using at_L8, ⟨.inl rfl⟩, by first | rfl | assumption | simp | omega, ?_⟩
    exact ⟨by omega, hR⟩
   rintro ⟨a, r2, gL8v2, nL8v2⟩ HL2 ⟨lst2, at_L8v2, pl_L8v2, ln_L8v2, hI⟩ KL2 hKL2
   refine .forget (fr' := [(12, some (.int .i64 (a : Int))), (8, some (.slice (some ⟨gL8v2, 0, none⟩) nL8v2 nL8v2)), (2, some _), (3, some _), (4, some _), (7, some _), (9, some _), (10, some _), (11, some _)]) ⟨rfl, rfl, rfl, rfl, rfl, rfl, rfl, rfl, rfl, trivial⟩ ?_
   have ge_L8v2 : H.next ≤ gL8v2 := pl_L8v2.ge (by omega) (by omega)
   have nx_HL2 := lst2.nx
   replace hle := hle.st lst2 (fun k hk => ⟨by omega, trivial⟩)
   replace lst1 := lst1.st lst2 (fun k hk ho => by simp only [out, and_true] at ho ⊢ <;> first | omega | (first | exact ho | exact ho.1 | exact ho.2 | exact ho.2.1 | exact ho.2.2 | exact ho.2.2.1 | exact ho.2.2.2 | exact pl_L8.ne (by first | omega | (first | exact ho | exact ho.1 | exact ho.2 | exact ho.2.1 | exact ho.2.2 | exact ho.2.2.1 | exact ho.2.2.2)) (by omega)))
   have ne_g3_gL8 : g3 ≠ gL8 := pl_L8.ne ne_g3_g17 (by omega)
   replace at3 := lst2.same _ _ ⟨ne_g3_gL8, trivial⟩ at3
   have ne_g4_gL8 : g4 ≠ gL8 := pl_L8.ne ne_g4_g17 (by omega)
   replace at4 := lst2.same _ _ ⟨ne_g4_gL8, trivial⟩ at4
   have ne_g7_gL8 : g7 ≠ gL8 := pl_L8.ne ne_g7_g17 (by omega)
   replace at1003 := lst2.same _ _ ⟨ne_g7_gL8, trivial⟩ at1003
   have lt_at_L8v2 := GHeap.lt_of_get at_L8v2
   replace hin := base_hin.mono hle
   replace hin1 := base_hin1.mono hle
   replace h := base_h.mono hle
   replace hc := base_hc.mono hle
   clear hb3 fs3 ft3 c103 c113 j13 j23 hm3 hi3 hms3 his3 hmt3 hit3
   have hb3 : Fun.At _ g3 0 k p := ⟨Mem.of_get at3, hin⟩
   obtain ⟨fs3, ft3, c103, c113, j13, j23⟩ := hb3.get
   have hm3 : MemN _ _ _ _ _ := ⟨rfl, hb3.1⟩
   have hi3 := hb3.2
   have hms3 : MemN _ _ _ _ _ := ⟨rfl, fs3.1⟩
   have his3 := fs3.2
   have hmt3 : MemN _ _ _ _ _ := ⟨rfl, ft3.1⟩
   have hit3 := ft3.2
   clear hb4 fsh4 c54 c64 i14 i24 hm4 hi4 hmsh4 hish4
   have hb4 : SFun.At _ g4 0 f q := ⟨Mem.of_get at4, hin1⟩
   obtain ⟨fsh4, c54, c64, i14, i24⟩ := hb4.get
   have hm4 : MemN _ _ _ _ _ := ⟨rfl, hb4.1⟩
   have hi4 := hb4.2
   have hmsh4 : MemN _ _ _ _ _ := ⟨rfl, fsh4.1⟩
   have hish4 := fsh4.2
   clear mm1003
   have mm1003 : MemN _ _ _ _ _ := ⟨rfl, Mem.of_get at1003⟩
   clear hb7 c07 c17 c27 c37 c47 i17 i27 i37 i47 hm7 hi7
   have hb7 : Cat.At _ g7 0 k.s p.s := ⟨Mem.of_get at1003, hc⟩
   obtain ⟨c07, c17, c27, c37, c47, i17, i27, i37, i47⟩ := hb7.get
   have hm7 : MemN _ _ _ _ _ := ⟨rfl, hb7.1⟩
   have hi7 := hb7.2
   clear u1
   have u1 := h.2 j (by omega)
   obtain ⟨ha, hR⟩ := hI
   refine .seq (fun K11 hK11 => ?_)
   refine .seq (fun K12 hK12 => ?_)
   refine .region (.m rfl rfl rfl (.move rfl) (.m rfl rfl rfl (.fieldAddr fo_27_1_B rfl) ?_))
   refine .m rfl rfl rfl (.load on_22_B rfl (by first | assumption | exact Mem.of_get at1003 1 _ rfl)) ?_
   refine .m rfl rfl rfl (.len sl_22_A rfl) (.m rfl rfl rfl (.cmp rfl rfl rfl) (.nil ?_))
   refine hK12 _ _ ?_
   refine .cond rfl (fun h40 => ?_) (fun h40 => ?_)
   ·
    simp only [sps] at h40
    obtain ⟨a0, a1, a2, a3, a4, a5, a6, a7, a8, a9⟩ := o.arrow (y := y) (show a < k.s.src.length by omega)
    refine .skip ?_
    refine hK11 _ _ ?_
    refine .seq (fun K13 hK13 => ?_)
    refine .block ?_
    refine .seq (fun K14 hK14 => ?_)
    refine .seq (fun K15 hK15 => ?_)
    refine .region (.m rfl rfl rfl (.fieldAddr fo_27_2_B rfl) ?_)
    refine .m rfl rfl rfl (.load on_22_B rfl (by first | assumption | exact Mem.of_get at1003 2 _ rfl)) ?_
    refine .m rfl rfl rfl (.move rfl) ?_
    refine .m rfl rfl rfl (.idxN sl_22_A (by assumption) rfl rfl (by omega)) ?_
    refine .m rfl rfl rfl (.loadI on_2_A (by assumption) rfl (by omega)) ?_
    refine .m rfl rfl rfl (.move rfl) (.m rfl rfl rfl (.cmp rfl rfl rfl) (.nil ?_))
    refine hK15 _ _ ?_
    refine .cond rfl (fun h49 => ?_) (fun h49 => ?_)
    ·
     simp only [sps] at h49
     refine .exit ?_
     refine hK13 _ _ ?_
     refine .region (.m rfl rfl rfl (.move rfl) ?_)
     refine .m rfl rfl rfl (.add rfl rfl rfl (by omega) (by omega)) ?_
     refine .m rfl rfl rfl (.assign rfl) (.nil ?_)
     try (obtain rfl : e = (f.sz.getD (k.s.src.getD a 0).toNat 0).toNat := by omega)
     refine hKL2 ((a + 1, by first | exact r3 | exact r2, _, _)) _ _ ?_ ?_ ⟨rfl, rfl, rfl, rfl, rfl, rfl, rfl, rfl, rfl, trivial⟩
     ·
      refine ⟨lst2, by first | assumption | (rw [lcS_skip h49]; assumption) | (rw [lcS_next2 h49]; assumption), by first | assumption | exact ⟨.inr (by omega)⟩ | exact ⟨.inl rfl⟩, by first | omega | (simp only [List.length_append, List.length_cons, List.length_nil] <;> omega) | (rw [lcS_skip h49] <;> (first | omega | (simp only [List.length_append, List.length_cons, List.length_nil] <;> omega))) | (rw [lcS_next2 h49] <;> (first | omega | (simp only [List.length_append, List.length_cons, List.length_nil] <;> omega))), ?_⟩
      exact ⟨by omega, by first | (rw [lcS_skip h49]; exact hR) | (rw [lcS_next2 h49]; exact hR)⟩
     (dsimp only; omega)
    simp only [sps] at h49
    have hsz : lcSz k f y j a = (f.sz.getD (k.s.src.getD a 0).toNat 0).toNat := if_pos h49
    have hxx : (k.s.tgt.getD a 0).toNat = xx := by rw [h49, x4]; simp
    have hth := a9 hh (by rw [hxx]; exact x2)
    have hx1e : ((lcE k f y).getD j []).getD 1 0 = hh := by rw [x4]; rfl
    refine .skip ?_
    refine hK14 _ _ ?_
    refine .seq (fun K16 hK16 => ?_)
    refine .region (.m rfl rfl rfl (.assign rfl) (.nil ?_))
    refine hK16 _ _ ?_
    refine .block ?_
    refine .loopR (σ := Nat × (Nat → Option Addr) × Nat × Nat) [(2, some _), (3, some _), (4, some _), (7, some _), (9, some _), (10, some _), (11, some _), (12, some _)] (fun (e, r3, gL8v3, nL8v3) => [(13, some (.int .i64 (e : Int))), (8, some (.slice (some ⟨gL8v3, 0, none⟩) nL8v3 nL8v3))]) (fun (e, r3, gL8v3, nL8v3) H' => St [gL8v2] HL2 H' ∧ H'.get gL8v3 = some (.row ((slsL r3 (lcS k f y j a e))) 22 true) ∧ PL gL8v3 gL8v2 HL2.next ∧ nL8v3 = (slsL r3 (lcS k f y j a e)).length ∧ e ≤ (f.sz.getD (k.s.src.getD a 0).toNat 0).toNat ∧ OwnL H.next H' 2 r3 (lcS k f y j a e)) (fun (e, r3, gL8v3, nL8v3) => (f.sz.getD (k.s.src.getD a 0).toNat 0).toNat - e) ((0, r2, _, _)) ⟨rfl, rfl, rfl, rfl, rfl, rfl, rfl, rfl, trivial⟩ ⟨rfl, rfl, trivial⟩ ?_ ?_
    ·
     refine ⟨.refl _ _, by first | assumption | exact at_L8v2 | simpa using at_L8v2, ⟨.inl rfl⟩, by first | rfl | assumption | simp | omega, ?_⟩
     exact ⟨by omega, hR⟩
    rintro ⟨e, r3, gL8v3, nL8v3⟩ HL3 ⟨lst3, at_L8v3, pl_L8v3, ln_L8v3, hI⟩ KL3 hKL3
    refine .forget (fr' := [(13, some (.int .i64 (e : Int))), (8, some (.slice (some ⟨gL8v3, 0, none⟩) nL8v3 nL8v3)), (2, some _), (3, some _), (4, some _), (7, some _), (9, some _), (10, some _), (11, some _), (12, some _)]) ⟨rfl, rfl, rfl, rfl, rfl, rfl, rfl, rfl, rfl, rfl, trivial⟩ ?_
    have ge_L8v3 : H.next ≤ gL8v3 := pl_L8v3.ge (by omega) (by omega)
    have nx_HL3 := lst3.nx
    replace hle := hle.st lst3 (fun k hk => ⟨by omega, trivial⟩)
    replace lst1 := lst1.st lst3 (fun k hk ho => by simp only [out, and_true] at ho ⊢ <;> first | omega | (first | exact ho | exact ho.1 | exact ho.2 | exact ho.2.1 | exact ho.2.2 | exact ho.2.2.1 | exact ho.2.2.2 | exact pl_L8v2.ne (by first | omega | (first | exact ho | exact ho.1 | exact ho.2 | exact ho.2.1 | exact ho.2.2 | exact ho.2.2.1 | exact ho.2.2.2 | exact pl_L8.ne (by first | omega | (first | exact ho | exact ho.1 | exact ho.2 | exact ho.2.1 | exact ho.2.2 | exact ho.2.2.1 | exact ho.2.2.2)) (by omega))) (by omega)))
    replace lst2 := lst2.st lst3 (fun k hk ho => by simp only [out, and_true] at ho ⊢ <;> first | omega | (first | exact ho | exact ho.1 | exact ho.2 | exact ho.2.1 | exact ho.2.2 | exact ho.2.2.1 | exact ho.2.2.2 | exact pl_L8v2.ne (by first | omega | (first | exact ho | exact ho.1 | exact ho.2 | exact ho.2.1 | exact ho.2.2 | exact ho.2.2.1 | exact ho.2.2.2 | exact pl_L8.ne (by first | omega | (first | exact ho | exact ho.1 | exact ho.2 | exact ho.2.1 | exact ho.2.2 | exact ho.2.2.1 | exact ho.2.2.2)) (by omega))) (by omega)))
    have ne_g3_gL8v2 : g3 ≠ gL8v2 := pl_L8v2.ne ne_g3_gL8 (by omega)
    replace at3 := lst3.same _ _ ⟨ne_g3_gL8v2, trivial⟩ at3
    have ne_g4_gL8v2 : g4 ≠ gL8v2 := pl_L8v2.ne ne_g4_gL8 (by omega)
    replace at4 := lst3.same _ _ ⟨ne_g4_gL8v2, trivial⟩ at4
    have ne_g7_gL8v2 : g7 ≠ gL8v2 := pl_L8v2.ne ne_g7_gL8 (by omega)
    replace at1003 := lst3.same _ _ ⟨ne_g7_gL8v2, trivial⟩ at1003
    have lt_at_L8v3 := GHeap.lt_of_get at_L8v3
    replace hin := base_hin.mono hle
    replace hin1 := base_hin1.mono hle
    replace h := base_h.mono hle
    replace hc := base_hc.mono hle
    clear hb3 fs3 ft3 c103 c113 j13 j23 hm3 hi3 hms3 his3 hmt3 hit3
    have hb3 : Fun.At _ g3 0 k p := ⟨Mem.of_get at3, hin⟩
    obtain ⟨fs3, ft3, c103, c113, j13, j23⟩ := hb3.get
    have hm3 : MemN _ _ _ _ _ := ⟨rfl, hb3.1⟩
    have hi3 := hb3.2
    have hms3 : MemN _ _ _ _ _ := ⟨rfl, fs3.1⟩
    have his3 := fs3.2
    have hmt3 : MemN _ _ _ _ _ := ⟨rfl, ft3.1⟩
    have hit3 := ft3.2
    clear hb4 fsh4 c54 c64 i14 i24 hm4 hi4 hmsh4 hish4
    have hb4 : SFun.At _ g4 0 f q := ⟨Mem.of_get at4, hin1⟩
    obtain ⟨fsh4, c54, c64, i14, i24⟩ := hb4.get
    have hm4 : MemN _ _ _ _ _ := ⟨rfl, hb4.1⟩
    have hi4 := hb4.2
    have hmsh4 : MemN _ _ _ _ _ := ⟨rfl, fsh4.1⟩
    have hish4 := fsh4.2
    clear mm1003
    have mm1003 : MemN _ _ _ _ _ := ⟨rfl, Mem.of_get at1003⟩
    clear hb7 c07 c17 c27 c37 c47 i17 i27 i37 i47 hm7 hi7
    have hb7 : Cat.At _ g7 0 k.s p.s := ⟨Mem.of_get at1003, hc⟩
    obtain ⟨c07, c17, c27, c37, c47, i17, i27, i37, i47⟩ := hb7.get
    have hm7 : MemN _ _ _ _ _ := ⟨rfl, hb7.1⟩
    have hi7 := hb7.2
    clear u1
    have u1 := h.2 j (by omega)
    have rk := St.refl [gL8v3] HL3
    obtain ⟨he, hR⟩ := hI
    have hat8 := at_L8v3
    have hln := lcS_le (y := y) o hL (j := j) (a := a) (e := e) (by omega) (by omega) (by omega)
    have hfl : (slsL r3 (lcS k f y j a e)).length = (lcS k f y j a e).length := length_slsL _ _
    refine .seq (fun K17 hK17 => ?_)
    refine .seq (fun K18 hK18 => ?_)
    refine .regionD mixed_orders_B (.q 0 (.q 1 (.q 2 (.q 3 (.q 4 (.q 5 (.q 6 (.q 7 (.q 8 (.q 9 (.q 10 (.done)))))))))))) (by kernel_rfl) ?_
    refine .m rfl rfl rfl rfl (.refl _) (.move rfl) (.m rfl rfl rfl rfl (.refl _) (.fieldAddr fo_65_1_P rfl) ?_)
    refine .m rfl rfl rfl rfl (.refl _) (.load on_22_B rfl (by first | assumption | exact Mem.of_get at4 5 _ rfl)) ?_
    refine .m rfl rfl rfl rfl (.refl _) (.fieldAddr fo_27_1_B rfl) ?_
    refine .m rfl rfl rfl rfl (.refl _) (.load on_22_B rfl (by first | assumption | exact Mem.of_get at1003 1 _ rfl)) ?_
    refine .m rfl rfl rfl rfl (.refl _) (.move rfl) ?_
    refine .m rfl rfl rfl rfl (.refl _) (.idxN sl_22_A (by assumption) rfl rfl (by omega)) ?_
    refine .m rfl rfl rfl rfl (.refl _) (.loadI on_2_A (by assumption) rfl (by omega)) ?_
    refine .m rfl rfl rfl rfl (.refl _) (.idx1 sl_22_A (by assumption) rfl rfl (by omega) (by omega)) ?_
    refine .m rfl rfl rfl rfl (.refl _) (.loadI on_2_A (by assumption) rfl (by omega)) ?_
    refine .m rfl rfl rfl rfl (.refl _) (.cmp rfl rfl rfl) ?_
    refine .done ?_
    refine hK18 _ _ ?_
    refine .cond rfl (fun h60 => ?_) (fun h60 => ?_)
    ·
     simp only [sps] at h60
     have he2 : e < (f.ac.getD a []).length := by omega
     have a10 := a6 e he2
     have u2 := i24.2 a (by omega)
     refine .skip ?_
     refine hK17 _ _ ?_
     refine .seq (fun K19 hK19 => ?_)
     refine .block ?_
     refine .seq (fun K20 hK20 => ?_)
     refine .regionD mixed_orders_B (.q 0 (.q 1 (.q 2 (.q 3 (.q 4 (.q 5 (.q 6 (.q 7 (.q 8 (.q 9 (.q 10 (.q 11 (.q 12 (.q 13 (.q 14 (.done)))))))))))))))) (by kernel_rfl) ?_
     refine .m rfl rfl rfl rfl (.refl _) (.fieldAddr fo_65_2_P rfl) ?_
     refine .m rfl rfl rfl rfl (.refl _) (.load on_23_B rfl (by first | assumption | exact Mem.of_get at4 6 _ rfl)) ?_
     refine .m rfl rfl rfl rfl (.refl _) (.move rfl) ?_
     refine .m rfl rfl rfl rfl (.refl _) (.idxN sl_23_B (Intss.sl (by assumption)) rfl rfl (by omega)) ?_
     refine .m rfl rfl rfl rfl (.refl _) (.loadR on_22_B (by assumption) rfl (by omega)) ?_
     refine .m rfl rfl rfl rfl (.refl _) (.move rfl) ?_
     refine .m rfl rfl rfl rfl (.refl _) (.idxN sl_22_A (by assumption) rfl rfl (by omega)) ?_
     refine .m rfl rfl rfl rfl (.refl _) (.loadI on_2_A (by assumption) rfl (by omega)) ?_
     refine .m rfl rfl rfl rfl (.refl _) (.move rfl) (.m rfl rfl rfl rfl (.refl _) (.move rfl) ?_)
     refine .m rfl rfl rfl rfl (.refl _) (.idxN sl_23_B (Intss.sl (by assumption)) rfl rfl (by omega)) ?_
     refine .m rfl rfl rfl rfl (.refl _) (.loadR on_22_B (by assumption) rfl (by omega)) ?_
     refine .m rfl rfl rfl rfl (.refl _) (.idxN (j := 2) sl_22_A (by assumption) rfl rfl (by omega)) ?_
     refine .m rfl rfl rfl rfl (.refl _) (.loadI on_2_A (by assumption) rfl (by omega)) ?_
     refine .m rfl rfl rfl rfl (.refl _) (.cmp rfl rfl rfl) ?_
     refine .done ?_
     refine hK20 _ _ ?_
     refine .cond rfl (fun h77 => ?_) (fun h77 => ?_)
     ·
      simp only [sps] at h77
      refine .seq (fun K21 hK21 => ?_)
      refine .regionD mixed_orders_B (.q 0 (.q 1 (.q 2 (.q 3 (.q 4 (.q 5 (.q 6 (.q 7 (.q 8 (.q 9 (.q 10 (.q 11 (.q 12 (.q 13 (.q 15 (.c 14 1 (.c 16 1 (.c 17 0 (.q 18 (.done)))))))))))))))))))) (by kernel_rfl) ?_
      refine .m rfl rfl rfl rfl (.refl _) (.move rfl) (.m rfl rfl rfl rfl (.refl _) (.fieldAddr fo_27_1_B rfl) ?_)
      refine .m rfl rfl rfl rfl (.refl _) (.load on_22_B rfl (by first | assumption | exact Mem.of_get at1003 1 _ rfl)) ?_
      refine .m rfl rfl rfl rfl (.refl _) (.move rfl) ?_
      refine .m rfl rfl rfl rfl (.refl _) (.idxN sl_22_A (by assumption) rfl rfl (by omega)) ?_
      refine .m rfl rfl rfl rfl (.refl _) (.loadI on_2_A (by assumption) rfl (by omega)) ?_
      refine .m rfl rfl rfl rfl (.refl _) (.fieldAddr fo_62_1_E rfl) ?_
      refine .m rfl rfl rfl rfl (.refl _) (.loadM ag_27_D rfl (by assumption)) ?_
      refine .m rfl rfl rfl rfl (.refl _) (.fieldAddr fo_62_3_E rfl) ?_
      refine .m rfl rfl rfl rfl (.refl _) (.load on_22_B rfl (by first | assumption | exact Mem.of_get at3 11 _ rfl)) ?_
      refine .m rfl rfl rfl rfl (.refl _) (.move rfl) ?_
      refine .m rfl rfl rfl rfl (.refl _) (.idxN sl_22_A (by assumption) rfl rfl (by omega)) ?_
      refine .m rfl rfl rfl rfl (.refl _) (.loadI on_2_A (by assumption) rfl (by omega)) ?_
      refine .m rfl rfl rfl rfl (.refl _) (.move rfl) (.m rfl rfl rfl rfl (.refl _) (.move rfl) ?_)
      refine .callQ1 rfl rfl rfl rfl rfl @Try.call88 rfl (l02Then_c) (.refl _) ?_
      refine .c1 rfl rfl rfl rfl (.litR rfl sl_22_A ze_2_E rfl rfl (by omega) (by omega) rfl rfl) ?_
      rintro _ H94 ⟨g94, rfl, le94, ge94, at94⟩
      have hbl := le94
      refine ⟨hbl, ?_⟩
      have nx_H94 := le94.1
      replace hle := hle.trans le94
      replace lst1 := lst1.le le94
      replace lst2 := lst2.le le94
      replace lst3 := lst3.le le94
      replace rk := rk.le le94
      replace at3 := le94.2 _ _ at3
      replace at4 := le94.2 _ _ at4
      replace at1003 := le94.2 _ _ at1003
      replace at_L8v3 := le94.2 _ _ at_L8v3
      have lt_at94 := GHeap.lt_of_get at94
      replace hin := base_hin.mono hle
      replace hin1 := base_hin1.mono hle
      replace h := base_h.mono hle
      replace hc := base_hc.mono hle
      clear hb3 fs3 ft3 c103 c113 j13 j23 hm3 hi3 hms3 his3 hmt3 hit3
      have hb3 : Fun.At _ g3 0 k p := ⟨Mem.of_get at3, hin⟩
      obtain ⟨fs3, ft3, c103, c113, j13, j23⟩ := hb3.get
      have hm3 : MemN _ _ _ _ _ := ⟨rfl, hb3.1⟩
      have hi3 := hb3.2
      have hms3 : MemN _ _ _ _ _ := ⟨rfl, fs3.1⟩
      have his3 := fs3.2
      have hmt3 : MemN _ _ _ _ _ := ⟨rfl, ft3.1⟩
      have hit3 := ft3.2
      clear hb4 fsh4 c54 c64 i14 i24 hm4 hi4 hmsh4 hish4
      have hb4 : SFun.At _ g4 0 f q := ⟨Mem.of_get at4, hin1⟩
      obtain ⟨fsh4, c54, c64, i14, i24⟩ := hb4.get
      have hm4 : MemN _ _ _ _ _ := ⟨rfl, hb4.1⟩
      have hi4 := hb4.2
      have hmsh4 : MemN _ _ _ _ _ := ⟨rfl, fsh4.1⟩
      have hish4 := fsh4.2
      clear mm1003
      have mm1003 : MemN _ _ _ _ _ := ⟨rfl, Mem.of_get at1003⟩
      clear hb7 c07 c17 c27 c37 c47 i17 i27 i37 i47 hm7 hi7
      have hb7 : Cat.At _ g7 0 k.s p.s := ⟨Mem.of_get at1003, hc⟩
      obtain ⟨c07, c17, c27, c37, c47, i17, i27, i37, i47⟩ := hb7.get
      have hm7 : MemN _ _ _ _ _ := ⟨rfl, hb7.1⟩
      have hi7 := hb7.2
      clear u1
      have u1 := h.2 j (by omega)
      clear u2
      have u2 := i24.2 a (by omega)
      refine .callQ0 rfl rfl rfl rfl rfl @Try.call112 rfl (l09Find_c h (Ints.of_get (xs := lcT k a (((lcE k f y).getD j []).getD 1 0) e) at94) (by omega) (fun i => by have := hl3 i; omega) (by show 3 ≤ 1048576; omega)) ?_
      refine .m rfl rfl rfl rfl (.refl _) (.assign rfl) ?_
      refine .done ?_
      refine hK21 _ _ ?_
      refine .region (.m rfl rfl rfl (.move rfl) (.m rfl rfl rfl (.move rfl) (.m rfl rfl rfl (.move rfl) ?_)))
      refine .r rfl rfl rfl (.litR rfl sl_22_A ze_2_E rfl rfl (by omega) (by omega) rfl rfl) ?_
      rintro _ H99 ⟨g99, rfl, le99, ge99, at99⟩
      have nx_H99 := le99.1
      replace hle := hle.trans le99
      replace lst1 := lst1.le le99
      replace lst2 := lst2.le le99
      replace lst3 := lst3.le le99
      replace rk := rk.le le99
      replace at3 := le99.2 _ _ at3
      replace at4 := le99.2 _ _ at4
      replace at1003 := le99.2 _ _ at1003
      replace at_L8v3 := le99.2 _ _ at_L8v3
      replace at94 := le99.2 _ _ at94
      have lt_at99 := GHeap.lt_of_get at99
      replace hin := base_hin.mono hle
      replace hin1 := base_hin1.mono hle
      replace h := base_h.mono hle
      replace hc := base_hc.mono hle
      clear hb3 fs3 ft3 c103 c113 j13 j23 hm3 hi3 hms3 his3 hmt3 hit3
      have hb3 : Fun.At _ g3 0 k p := ⟨Mem.of_get at3, hin⟩
      obtain ⟨fs3, ft3, c103, c113, j13, j23⟩ := hb3.get
      have hm3 : MemN _ _ _ _ _ := ⟨rfl, hb3.1⟩
      have hi3 := hb3.2
      have hms3 : MemN _ _ _ _ _ := ⟨rfl, fs3.1⟩
      have his3 := fs3.2
      have hmt3 : MemN _ _ _ _ _ := ⟨rfl, ft3.1⟩
      have hit3 := ft3.2
      clear hb4 fsh4 c54 c64 i14 i24 hm4 hi4 hmsh4 hish4
      have hb4 : SFun.At _ g4 0 f q := ⟨Mem.of_get at4, hin1⟩
      obtain ⟨fsh4, c54, c64, i14, i24⟩ := hb4.get
      have hm4 : MemN _ _ _ _ _ := ⟨rfl, hb4.1⟩
      have hi4 := hb4.2
      have hmsh4 : MemN _ _ _ _ _ := ⟨rfl, fsh4.1⟩
      have hish4 := fsh4.2
      clear mm1003
      have mm1003 : MemN _ _ _ _ _ := ⟨rfl, Mem.of_get at1003⟩
      clear hb7 c07 c17 c27 c37 c47 i17 i27 i37 i47 hm7 hi7
      have hb7 : Cat.At _ g7 0 k.s p.s := ⟨Mem.of_get at1003, hc⟩
      obtain ⟨c07, c17, c27, c37, c47, i17, i27, i37, i47⟩ := hb7.get
      have hm7 : MemN _ _ _ _ _ := ⟨rfl, hb7.1⟩
      have hi7 := hb7.2
      clear u1
      have u1 := h.2 j (by omega)
      clear u2
      have u2 := i24.2 a (by omega)
      refine .r rfl rfl rfl (.litR rfl sl_23_B ze_22_E rfl rfl (by omega) (by omega) rfl rfl) ?_
      rintro _ H100 ⟨g100, rfl, le100, ge100, at100⟩
      have nx_H100 := le100.1
      replace hle := hle.trans le100
      replace lst1 := lst1.le le100
      replace lst2 := lst2.le le100
      replace lst3 := lst3.le le100
      replace rk := rk.le le100
      replace at3 := le100.2 _ _ at3
      replace at4 := le100.2 _ _ at4
      replace at1003 := le100.2 _ _ at1003
      replace at_L8v3 := le100.2 _ _ at_L8v3
      replace at94 := le100.2 _ _ at94
      replace at99 := le100.2 _ _ at99
      have lt_at100 := GHeap.lt_of_get at100
      replace hin := base_hin.mono hle
      replace hin1 := base_hin1.mono hle
      replace h := base_h.mono hle
      replace hc := base_hc.mono hle
      clear hb3 fs3 ft3 c103 c113 j13 j23 hm3 hi3 hms3 his3 hmt3 hit3
      have hb3 : Fun.At _ g3 0 k p := ⟨Mem.of_get at3, hin⟩
      obtain ⟨fs3, ft3, c103, c113, j13, j23⟩ := hb3.get
      have hm3 : MemN _ _ _ _ _ := ⟨rfl, hb3.1⟩
      have hi3 := hb3.2
      have hms3 : MemN _ _ _ _ _ := ⟨rfl, fs3.1⟩
      have his3 := fs3.2
      have hmt3 : MemN _ _ _ _ _ := ⟨rfl, ft3.1⟩
      have hit3 := ft3.2
      clear hb4 fsh4 c54 c64 i14 i24 hm4 hi4 hmsh4 hish4
      have hb4 : SFun.At _ g4 0 f q := ⟨Mem.of_get at4, hin1⟩
      obtain ⟨fsh4, c54, c64, i14, i24⟩ := hb4.get
      have hm4 : MemN _ _ _ _ _ := ⟨rfl, hb4.1⟩
      have hi4 := hb4.2
      have hmsh4 : MemN _ _ _ _ _ := ⟨rfl, fsh4.1⟩
      have hish4 := fsh4.2
      clear mm1003
      have mm1003 : MemN _ _ _ _ _ := ⟨rfl, Mem.of_get at1003⟩
      clear hb7 c07 c17 c27 c37 c47 i17 i27 i37 i47 hm7 hi7
      have hb7 : Cat.At _ g7 0 k.s p.s := ⟨Mem.of_get at1003, hc⟩
      obtain ⟨c07, c17, c27, c37, c47, i17, i27, i37, i47⟩ := hb7.get
      have hm7 : MemN _ _ _ _ _ := ⟨rfl, hb7.1⟩
      have hi7 := hb7.2
      clear u1
      have u1 := h.2 j (by omega)
      clear u2
      have u2 := i24.2 a (by omega)
      refine .r rfl rfl rfl (.appendV rfl sl_23_B ze_22_E rfl by_22_E sl_23_B rfl rfl (by assumption) (by assumption) (by first | omega | (simp <;> omega)) rfl rfl (by omega) (by omega)) ?_
      rintro _ H101 ⟨g101, rfl, st101, ge101, at101⟩
      have nx_H101 := st101.nx
      replace hle := hle.st st101 (fun k hk => ⟨by omega, trivial⟩)
      replace lst1 := lst1.st st101 (fun k hk ho => by simp only [out, and_true] at ho ⊢ <;> first | omega | (first | exact ho | exact ho.1 | exact ho.2 | exact ho.2.1 | exact ho.2.2 | exact ho.2.2.1 | exact ho.2.2.2 | exact pl_L8v3.ne (by first | omega | (first | exact ho | exact ho.1 | exact ho.2 | exact ho.2.1 | exact ho.2.2 | exact ho.2.2.1 | exact ho.2.2.2 | exact pl_L8v2.ne (by first | omega | (first | exact ho | exact ho.1 | exact ho.2 | exact ho.2.1 | exact ho.2.2 | exact ho.2.2.1 | exact ho.2.2.2 | exact pl_L8.ne (by first | omega | (first | exact ho | exact ho.1 | exact ho.2 | exact ho.2.1 | exact ho.2.2 | exact ho.2.2.1 | exact ho.2.2.2)) (by omega))) (by omega))) (by omega)))
      replace lst2 := lst2.st st101 (fun k hk ho => by simp only [out, and_true] at ho ⊢ <;> first | omega | (first | exact ho | exact ho.1 | exact ho.2 | exact ho.2.1 | exact ho.2.2 | exact ho.2.2.1 | exact ho.2.2.2 | exact pl_L8v3.ne (by first | omega | (first | exact ho | exact ho.1 | exact ho.2 | exact ho.2.1 | exact ho.2.2 | exact ho.2.2.1 | exact ho.2.2.2 | exact pl_L8v2.ne (by first | omega | (first | exact ho | exact ho.1 | exact ho.2 | exact ho.2.1 | exact ho.2.2 | exact ho.2.2.1 | exact ho.2.2.2 | exact pl_L8.ne (by first | omega | (first | exact ho | exact ho.1 | exact ho.2 | exact ho.2.1 | exact ho.2.2 | exact ho.2.2.1 | exact ho.2.2.2)) (by omega))) (by omega))) (by omega)))
      replace lst3 := lst3.st st101 (fun k hk ho => by simp only [out, and_true] at ho ⊢ <;> first | omega | (first | exact ho | exact ho.1 | exact ho.2 | exact ho.2.1 | exact ho.2.2 | exact ho.2.2.1 | exact ho.2.2.2 | exact pl_L8v3.ne (by first | omega | (first | exact ho | exact ho.1 | exact ho.2 | exact ho.2.1 | exact ho.2.2 | exact ho.2.2.1 | exact ho.2.2.2 | exact pl_L8v2.ne (by first | omega | (first | exact ho | exact ho.1 | exact ho.2 | exact ho.2.1 | exact ho.2.2 | exact ho.2.2.1 | exact ho.2.2.2 | exact pl_L8.ne (by first | omega | (first | exact ho | exact ho.1 | exact ho.2 | exact ho.2.1 | exact ho.2.2 | exact ho.2.2.1 | exact ho.2.2.2)) (by omega))) (by omega))) (by omega)))
      replace rk := rk.st st101 (fun k hk ho => by simp only [out, and_true] at ho ⊢ <;> first | omega | (first | exact ho | exact ho.1 | exact ho.2 | exact ho.2.1 | exact ho.2.2 | exact ho.2.2.1 | exact ho.2.2.2 | exact pl_L8v3.ne (by first | omega | (first | exact ho | exact ho.1 | exact ho.2 | exact ho.2.1 | exact ho.2.2 | exact ho.2.2.1 | exact ho.2.2.2 | exact pl_L8v2.ne (by first | omega | (first | exact ho | exact ho.1 | exact ho.2 | exact ho.2.1 | exact ho.2.2 | exact ho.2.2.1 | exact ho.2.2.2 | exact pl_L8.ne (by first | omega | (first | exact ho | exact ho.1 | exact ho.2 | exact ho.2.1 | exact ho.2.2 | exact ho.2.2.1 | exact ho.2.2.2)) (by omega))) (by omega))) (by omega)))
      have ne_g3_gL8v3 : g3 ≠ gL8v3 := pl_L8v3.ne ne_g3_gL8v2 (by omega)
      replace at3 := st101.same _ _ ⟨ne_g3_gL8v3, trivial⟩ at3
      have ne_g4_gL8v3 : g4 ≠ gL8v3 := pl_L8v3.ne ne_g4_gL8v2 (by omega)
      replace at4 := st101.same _ _ ⟨ne_g4_gL8v3, trivial⟩ at4
      have ne_g7_gL8v3 : g7 ≠ gL8v3 := pl_L8v3.ne ne_g7_gL8v2 (by omega)
      replace at1003 := st101.same _ _ ⟨ne_g7_gL8v3, trivial⟩ at1003
      have ne_g94_gL8v3 : g94 ≠ gL8v3 := by omega
      replace at94 := st101.same _ _ ⟨ne_g94_gL8v3, trivial⟩ at94
      have ne_g99_gL8v3 : g99 ≠ gL8v3 := by omega
      replace at99 := st101.same _ _ ⟨ne_g99_gL8v3, trivial⟩ at99
      have ne_g100_gL8v3 : g100 ≠ gL8v3 := by omega
      replace at100 := st101.same _ _ ⟨ne_g100_gL8v3, trivial⟩ at100
      have lt_at101 := GHeap.lt_of_get at101
      replace hin := base_hin.mono hle
      replace hin1 := base_hin1.mono hle
      replace h := base_h.mono hle
      replace hc := base_hc.mono hle
      clear hb3 fs3 ft3 c103 c113 j13 j23 hm3 hi3 hms3 his3 hmt3 hit3
      have hb3 : Fun.At _ g3 0 k p := ⟨Mem.of_get at3, hin⟩
      obtain ⟨fs3, ft3, c103, c113, j13, j23⟩ := hb3.get
      have hm3 : MemN _ _ _ _ _ := ⟨rfl, hb3.1⟩
      have hi3 := hb3.2
      have hms3 : MemN _ _ _ _ _ := ⟨rfl, fs3.1⟩
      have his3 := fs3.2
      have hmt3 : MemN _ _ _ _ _ := ⟨rfl, ft3.1⟩
      have hit3 := ft3.2
      clear hb4 fsh4 c54 c64 i14 i24 hm4 hi4 hmsh4 hish4
      have hb4 : SFun.At _ g4 0 f q := ⟨Mem.of_get at4, hin1⟩
      obtain ⟨fsh4, c54, c64, i14, i24⟩ := hb4.get
      have hm4 : MemN _ _ _ _ _ := ⟨rfl, hb4.1⟩
      have hi4 := hb4.2
      have hmsh4 : MemN _ _ _ _ _ := ⟨rfl, fsh4.1⟩
      have hish4 := fsh4.2
      clear mm1003
      have mm1003 : MemN _ _ _ _ _ := ⟨rfl, Mem.of_get at1003⟩
      clear hb7 c07 c17 c27 c37 c47 i17 i27 i37 i47 hm7 hi7
      have hb7 : Cat.At _ g7 0 k.s p.s := ⟨Mem.of_get at1003, hc⟩
      obtain ⟨c07, c17, c27, c37, c47, i17, i27, i37, i47⟩ := hb7.get
      have hm7 : MemN _ _ _ _ _ := ⟨rfl, hb7.1⟩
      have hi7 := hb7.2
      clear u1
      have u1 := h.2 j (by omega)
      clear u2
      have u2 := i24.2 a (by omega)
      refine .m rfl rfl rfl (.assign rfl) (.nil ?_)
      refine hK19 _ _ ?_
      refine .region (.m rfl rfl rfl (.move rfl) ?_)
      refine .m rfl rfl rfl (.add rfl rfl rfl (by omega) (by omega)) ?_
      refine .m rfl rfl rfl (.assign rfl) (.nil ?_)
      refine hKL3 ((e + 1, by first | exact (upd r3 (lcS k f y j a e).length (some ⟨g99, 0, none⟩)) | exact r3, _, _)) _ _ ?_ ?_ ⟨rfl, rfl, rfl, rfl, rfl, rfl, rfl, rfl, rfl, rfl, trivial⟩
      ·
       refine ⟨lst3, by first | assumption | (rw [lcS_T h77, slsL_snoc]; assumption) | (rw [lcS_F h77]; assumption), by first | assumption | exact ⟨.inr (by omega)⟩ | exact ⟨.inl rfl⟩, by first | omega | (simp only [List.length_append, List.length_cons, List.length_nil] <;> omega) | (rw [lcS_T h77, slsL_snoc] <;> (first | omega | (simp only [List.length_append, List.length_cons, List.length_nil] <;> omega))) | (rw [lcS_F h77] <;> (first | omega | (simp only [List.length_append, List.length_cons, List.length_nil] <;> omega))), ?_⟩
       exact ⟨by omega, by first | (rw [lcS_T h77]; exact hR.snoc (rk.lasts1 hat8 rfl) (by assumption) (by omega) (by omega)) | (rw [lcS_F h77]; exact hR)⟩
      (dsimp only; omega)
     simp only [sps] at h77
     refine .skip ?_
     refine hK19 _ _ ?_
     refine .region (.m rfl rfl rfl (.move rfl) ?_)
     refine .m rfl rfl rfl (.add rfl rfl rfl (by omega) (by omega)) ?_
     refine .m rfl rfl rfl (.assign rfl) (.nil ?_)
     refine hKL3 ((e + 1, by first | exact (upd r3 (lcS k f y j a e).length (some ⟨g99, 0, none⟩)) | exact r3, _, _)) _ _ ?_ ?_ ⟨rfl, rfl, rfl, rfl, rfl, rfl, rfl, rfl, rfl, rfl, trivial⟩
     ·
      refine ⟨lst3, by first | assumption | (rw [lcS_T h77, slsL_snoc]; assumption) | (rw [lcS_F h77]; assumption), by first | assumption | exact ⟨.inr (by omega)⟩ | exact ⟨.inl rfl⟩, by first | omega | (simp only [List.length_append, List.length_cons, List.length_nil] <;> omega) | (rw [lcS_T h77, slsL_snoc] <;> (first | omega | (simp only [List.length_append, List.length_cons, List.length_nil] <;> omega))) | (rw [lcS_F h77] <;> (first | omega | (simp only [List.length_append, List.length_cons, List.length_nil] <;> omega))), ?_⟩
      exact ⟨by omega, by first | (rw [lcS_T h77]; exact hR.snoc (rk.lasts1 hat8 rfl) (by assumption) (by omega) (by omega)) | (rw [lcS_F h77]; exact hR)⟩
     (dsimp only; omega)
    try simp only [sps] at h60
    refine .exit ?_
    refine hK13 _ _ ?_
    refine .region (.m rfl rfl rfl (.move rfl) ?_)
    refine .m rfl rfl rfl (.add rfl rfl rfl (by omega) (by omega)) ?_
    refine .m rfl rfl rfl (.assign rfl) (.nil ?_)
    try (obtain rfl : e = (f.sz.getD (k.s.src.getD a 0).toNat 0).toNat := by omega)
    refine hKL2 ((a + 1, by first | exact r3 | exact r2, _, _)) _ _ ?_ ?_ ⟨rfl, rfl, rfl, rfl, rfl, rfl, rfl, rfl, rfl, trivial⟩
    ·
     refine ⟨lst2, by first | assumption | (rw [lcS_skip h49]; assumption) | (rw [lcS_next2 h49]; assumption), by first | assumption | exact pl_L8v3.trans pl_L8v2 (by omega) | exact ⟨.inr (by omega)⟩ | exact ⟨.inl rfl⟩, by first | omega | (simp only [List.length_append, List.length_cons, List.length_nil] <;> omega) | (rw [lcS_skip h49] <;> (first | omega | (simp only [List.length_append, List.length_cons, List.length_nil] <;> omega))) | (rw [lcS_next2 h49] <;> (first | omega | (simp only [List.length_append, List.length_cons, List.length_nil] <;> omega))), ?_⟩
     exact ⟨by omega, by first | (rw [lcS_skip h49]; exact hR) | (rw [lcS_next2 h49]; exact hR)⟩
    (dsimp only; omega)
   try simp only [sps] at h40
   refine .exit ?_
   refine hK8 _ _ ?_
   refine .region (.m rfl rfl rfl (.move rfl) ?_)
   refine .m rfl rfl rfl (.add rfl rfl rfl (by omega) (by omega)) ?_
   refine .m rfl rfl rfl (.assign rfl) (.nil ?_)
   obtain rfl : a = k.s.src.length := by omega
   refine hKL1 ((j + 1, r2, _, _)) _ _ ?_ ?_ ⟨rfl, rfl, rfl, rfl, rfl, rfl, trivial⟩
   ·
    refine ⟨lst1, by first | assumption | (rw [lcS_next1]; assumption), by first | assumption | exact pl_L8v2.trans pl_L8 (by omega) | exact ⟨.inr (by omega)⟩ | exact ⟨.inl rfl⟩, by first | omega | (simp only [List.length_append, List.length_cons, List.length_nil] <;> omega) | (rw [lcS_next1] <;> (first | omega | (simp only [List.length_append, List.length_cons, List.length_nil] <;> omega))), ?_⟩
    exact ⟨by omega, by rw [lcS_next1]; exact hR⟩
   (dsimp only; omega)
  try simp only [sps] at h21
  refine .exit ?_
  refine hK4 _ _ ?_
  refine .seq (fun K22 hK22 => ?_)
  refine .region (.m rfl rfl rfl (.move rfl) (.m rfl rfl rfl (.len sl_23_B rfl) ?_))
  obtain rfl : j = (lcE k f y).length := by omega
  have hiss := hR.intss at_L8 ge_L8
  have hln := lcS_all (y := y) o hL (Nat.le_refl _)
  have hfl : (slsL rr (lcS k f y (lcE k f y).length 0 0)).length = (lcS k f y (lcE k f y).length 0 0).length := length_slsL _ _
  refine .m rfl rfl rfl (.move rfl) ?_
  refine .call rfl rfl rfl rfl @Try.call89 rfl ((l01JoinM_c (n := (lcE k f y).length) (cs := joinL (lcE k f y).length (lcI k f y k.s.src.length 0 0)) (lc_same o) rfl (by omega) hiss (by omega) (by omega) (fun i hi => by obtain ⟨j, a, e, h1, h2, h3, h4, h5, e1⟩ := lcS_mem.1 (getD_mem_list (d := []) hi); rw [e1]; exact lc_ok o h1 h2 h3 h4))) ?_
  rintro _ H105 ⟨le105, g105, rfl, at105, ge105⟩
  have nx_H105 := le105.1
  replace hle := hle.trans le105
  replace lst1 := lst1.le le105
  replace at3 := le105.2 _ _ at3
  replace at4 := le105.2 _ _ at4
  replace at1003 := le105.2 _ _ at1003
  replace at_L8 := le105.2 _ _ at_L8
  have lt_at105 := GHeap.lt_of_get at105
  replace hin := base_hin.mono hle
  replace hin1 := base_hin1.mono hle
  replace h := base_h.mono hle
  replace hc := base_hc.mono hle
  clear hb3 fs3 ft3 c103 c113 j13 j23 hm3 hi3 hms3 his3 hmt3 hit3
  have hb3 : Fun.At _ g3 0 k p := ⟨Mem.of_get at3, hin⟩
  obtain ⟨fs3, ft3, c103, c113, j13, j23⟩ := hb3.get
  have hm3 : MemN _ _ _ _ _ := ⟨rfl, hb3.1⟩
  have hi3 := hb3.2
  have hms3 : MemN _ _ _ _ _ := ⟨rfl, fs3.1⟩
  have his3 := fs3.2
  have hmt3 : MemN _ _ _ _ _ := ⟨rfl, ft3.1⟩
  have hit3 := ft3.2
  clear hb4 fsh4 c54 c64 i14 i24 hm4 hi4 hmsh4 hish4
  have hb4 : SFun.At _ g4 0 f q := ⟨Mem.of_get at4, hin1⟩
  obtain ⟨fsh4, c54, c64, i14, i24⟩ := hb4.get
  have hm4 : MemN _ _ _ _ _ := ⟨rfl, hb4.1⟩
  have hi4 := hb4.2
  have hmsh4 : MemN _ _ _ _ _ := ⟨rfl, fsh4.1⟩
  have hish4 := fsh4.2
  clear mm1003
  have mm1003 : MemN _ _ _ _ _ := ⟨rfl, Mem.of_get at1003⟩
  clear hb7 c07 c17 c27 c37 c47 i17 i27 i37 i47 hm7 hi7
  have hb7 : Cat.At _ g7 0 k.s p.s := ⟨Mem.of_get at1003, hc⟩
  obtain ⟨c07, c17, c27, c37, c47, i17, i27, i37, i47⟩ := hb7.get
  have hm7 : MemN _ _ _ _ _ := ⟨rfl, hb7.1⟩
  have hi7 := hb7.2
  have i105 := Ints.of_get at105
  refine .m rfl rfl rfl (.assign rfl) (.nil ?_)
  refine hK22 _ _ ?_
  refine .ret ?_
  refine hret _ _ ?_
  refine ⟨_, rfl, ?_⟩
  exact ⟨hle, _, rfl, at105, by omega⟩
set_option maxHeartbeats 4000000 in
theorem leftClasses_c {g o' g' o1 : Nat} {k : Fun} {p : FunP} {f : SFun} {q : SFunP} {y : Int} {H : GHeap} (h : Fun.At H g o' k p) (h' : SFun.At H g' o1 f q) (o : LcOk k f) (hL : (lcE k f y).length ≤ 256) :
    GCalls Try.prog 83 [.pointer (some ⟨g, o', none⟩), .pointer (some ⟨g', o1, none⟩), .int .i64 y] H (fun v H' => H.Le H' ∧ ∃ gp gc c1 c2 e1, v = .tuple #[.pointer (some ⟨gp, 0, none⟩), .bool true] ∧ H'.get gp = some (.row [c1, c2, .slice (some ⟨gc, 0, none⟩) (lcE k f y).length (lcE k f y).length] e1 true) ∧ H'.get gc = some (.row (ints (joinL (lcE k f y).length (lcI k f y k.s.src.length 0 0))) 2 true) ∧ H.next ≤ gc) := by
  have hS := o.hk.2.1.1
  have b3 := hS.n40
  have hK := lcE_keys (y := y) o
  have hKI := o.hk
  have hFI := o.hf
  obtain ⟨l1, l2, l3, l4, l5, l6, l7⟩ := o.len
  refine GCalls.body (N := 138) (rs := [.tmp 6, .tmp 7]) Try.func83 rfl rfl rfl rfl (fun Qx hret hend => ?_)
  refine .forget (fr' := [(0, some _), (1, some _), (2, some _)]) ⟨rfl, rfl, rfl, trivial⟩ ?_
  have hle := GHeap.Le.refl H
  have base_h := h
  have base_h' := h'
  obtain ⟨fs, ft, c10, c11, j1, j2⟩ := h.get
  have hm : MemN _ _ _ _ _ := ⟨rfl, h.1⟩
  have hi := h.2
  have hms : MemN _ _ _ _ _ := ⟨rfl, fs.1⟩
  have his := fs.2
  have hmt : MemN _ _ _ _ _ := ⟨rfl, ft.1⟩
  have hit := ft.2
  obtain ⟨fshb, c5b, c6b, i1b, i2b⟩ := h'.get
  have hmb : MemN _ _ _ _ _ := ⟨rfl, h'.1⟩
  have hib := h'.2
  have hmshb : MemN _ _ _ _ _ := ⟨rfl, fshb.1⟩
  have hishb := fshb.2
  obtain ⟨s0, s1, s2, s3, s4, si1, si2, si3, si4⟩ := fs.get
  have hL' : (leL k f y k.ob.length 0 0).length ≤ 256 := hL
  refine .seq (fun K1 hK1 => ?_)
  refine .region (.m rfl rfl rfl (.assign rfl) (.m rfl rfl rfl (.assign rfl) (.nil ?_)))
  refine hK1 _ _ ?_
  refine .seq (fun K2 hK2 => ?_)
  refine .region (.m rfl rfl rfl (.move rfl) (.m rfl rfl rfl (.move rfl) (.m rfl rfl rfl (.move rfl) ?_)))
  refine .call rfl rfl rfl rfl @Try.call128 rfl (leftEntries_c (hI := hKI) (hI' := hFI) (hn := l1)) ?_
  rintro _ H21 ⟨le21, a21, r21, rfl, v21⟩
  have nx_H21 := le21.1
  replace hle := hle.trans le21
  have bs_v21 := v21
  have lv_v21 : Keep H.next H21 H21 := fun _ _ _ h => h
  replace h := base_h.mono hle
  replace h' := base_h'.mono hle
  clear fs ft c10 c11 j1 j2 hm hi hms his hmt hit fshb c5b c6b i1b i2b hmb hib hmshb hishb s0 s1 s2 s3 s4 si1 si2 si3 si4
  obtain ⟨fs, ft, c10, c11, j1, j2⟩ := h.get
  have hm : MemN _ _ _ _ _ := ⟨rfl, h.1⟩
  have hi := h.2
  have hms : MemN _ _ _ _ _ := ⟨rfl, fs.1⟩
  have his := fs.2
  have hmt : MemN _ _ _ _ _ := ⟨rfl, ft.1⟩
  have hit := ft.2
  obtain ⟨fshb, c5b, c6b, i1b, i2b⟩ := h'.get
  have hmb : MemN _ _ _ _ _ := ⟨rfl, h'.1⟩
  have hib := h'.2
  have hmshb : MemN _ _ _ _ _ := ⟨rfl, fshb.1⟩
  have hishb := fshb.2
  obtain ⟨s0, s1, s2, s3, s4, si1, si2, si3, si4⟩ := fs.get
  have i21 := v21.intss
  refine .m rfl rfl rfl (.build bt_119_Lc rfl rfl rfl) ?_
  refine .r rfl rfl rfl (.boxR rfl sz_119_Lc rfl) ?_
  rintro _ H23 ⟨g23, rfl, le23, ge23, at23⟩
  have nx_H23 := le23.1
  replace hle := hle.trans le23
  replace lv_v21 := Keep.le lv_v21 le23
  replace v21 := bs_v21.keep lv_v21 (Nat.le_refl _)
  have lt_at23 := GHeap.lt_of_get at23
  replace h := base_h.mono hle
  replace h' := base_h'.mono hle
  clear fs ft c10 c11 j1 j2 hm hi hms his hmt hit fshb c5b c6b i1b i2b hmb hib hmshb hishb s0 s1 s2 s3 s4 si1 si2 si3 si4
  obtain ⟨fs, ft, c10, c11, j1, j2⟩ := h.get
  have hm : MemN _ _ _ _ _ := ⟨rfl, h.1⟩
  have hi := h.2
  have hms : MemN _ _ _ _ _ := ⟨rfl, fs.1⟩
  have his := fs.2
  have hmt : MemN _ _ _ _ _ := ⟨rfl, ft.1⟩
  have hit := ft.2
  obtain ⟨fshb, c5b, c6b, i1b, i2b⟩ := h'.get
  have hmb : MemN _ _ _ _ _ := ⟨rfl, h'.1⟩
  have hib := h'.2
  have hmshb : MemN _ _ _ _ _ := ⟨rfl, fshb.1⟩
  have hishb := fshb.2
  obtain ⟨s0, s1, s2, s3, s4, si1, si2, si3, si4⟩ := fs.get
  clear i21
  have i21 := v21.intss
  have mm23 : MemN _ _ _ _ _ := ⟨rfl, Mem.of_get at23⟩
  refine .m rfl rfl rfl (.assign rfl) (.nil ?_)
  refine hK2 _ _ ?_
  refine .seq (fun K3 hK3 => ?_)
  refine .seq (fun K4 hK4 => ?_)
  refine .region (.m rfl rfl rfl (.move rfl) (.m rfl rfl rfl (.nilCheck rfl) (.m rfl rfl rfl (.fieldAddr fo_119_0_Lc rfl) ?_)))
  refine .m rfl rfl rfl (.load on_23_B rfl (by first | assumption | exact Mem.of_get at23 0 _ rfl)) ?_
  refine .m rfl rfl rfl (.len sl_23_B rfl) (.m rfl rfl rfl (.cmp rfl rfl rfl) (.nil ?_))
  refine hK4 _ _ ?_
  refine .cond rfl (fun h29 => ?_) (fun h29 => ?_)
  ·
   simp only [sps] at h29; omega
  try simp only [sps] at h29
  refine .skip ?_
  refine hK3 _ _ ?_
  refine .seq (fun K5 hK5 => ?_)
  refine .region (.m rfl rfl rfl (.move rfl) (.m rfl rfl rfl (.move rfl) (.m rfl rfl rfl (.nilCheck rfl) ?_)))
  refine .m rfl rfl rfl (.fieldAddr fo_119_0_Lc rfl) ?_
  refine .m rfl rfl rfl (.load on_23_B rfl (by first | assumption | exact Mem.of_get at23 0 _ rfl)) ?_
  refine .call rfl rfl rfl rfl @Try.call92 rfl (places_c (xss := lcE k f y) i21 hK (by omega) (by omega)) ?_
  rintro _ H35 ⟨le35, g35, rfl, at35, ge35⟩
  have nx_H35 := le35.1
  replace hle := hle.trans le35
  replace at23 := le35.2 _ _ at23
  replace lv_v21 := Keep.le lv_v21 le35
  replace v21 := bs_v21.keep lv_v21 (Nat.le_refl _)
  have lt_at35 := GHeap.lt_of_get at35
  replace h := base_h.mono hle
  replace h' := base_h'.mono hle
  clear fs ft c10 c11 j1 j2 hm hi hms his hmt hit fshb c5b c6b i1b i2b hmb hib hmshb hishb s0 s1 s2 s3 s4 si1 si2 si3 si4
  obtain ⟨fs, ft, c10, c11, j1, j2⟩ := h.get
  have hm : MemN _ _ _ _ _ := ⟨rfl, h.1⟩
  have hi := h.2
  have hms : MemN _ _ _ _ _ := ⟨rfl, fs.1⟩
  have his := fs.2
  have hmt : MemN _ _ _ _ _ := ⟨rfl, ft.1⟩
  have hit := ft.2
  obtain ⟨fshb, c5b, c6b, i1b, i2b⟩ := h'.get
  have hmb : MemN _ _ _ _ _ := ⟨rfl, h'.1⟩
  have hib := h'.2
  have hmshb : MemN _ _ _ _ _ := ⟨rfl, fshb.1⟩
  have hishb := fshb.2
  obtain ⟨s0, s1, s2, s3, s4, si1, si2, si3, si4⟩ := fs.get
  clear i21
  have i21 := v21.intss
  clear mm23
  have mm23 : MemN _ _ _ _ _ := ⟨rfl, Mem.of_get at23⟩
  refine .m rfl rfl rfl (.nilCheck rfl) (.m rfl rfl rfl (.fieldAddr fo_119_1_Lc rfl) ?_)
  refine .r0 rfl rfl (.storeR rfl sz_117_Lc rfl rfl rfl (by assumption) (by first | exact Nat.le_of_ble_eq_true rfl | (simp; done) | (simp <;> omega))) ?_
  rintro _ H4008 ⟨rfl, st4008, at4008⟩
  have nx_H4008 := st4008.nx
  replace hle := hle.st st4008 (fun k hk => ⟨by omega, trivial⟩)
  have ne_g35_g23 : g35 ≠ g23 := by omega
  replace at35 := st4008.same _ _ ⟨ne_g35_g23, trivial⟩ at35
  replace lv_v21 := Keep.st lv_v21 st4008 (fun k hb hk => ⟨by omega, trivial⟩)
  replace v21 := bs_v21.keep lv_v21 (Nat.le_refl _)
  have lt_at4008 := GHeap.lt_of_get at4008
  replace h := base_h.mono hle
  replace h' := base_h'.mono hle
  clear fs ft c10 c11 j1 j2 hm hi hms his hmt hit fshb c5b c6b i1b i2b hmb hib hmshb hishb s0 s1 s2 s3 s4 si1 si2 si3 si4
  obtain ⟨fs, ft, c10, c11, j1, j2⟩ := h.get
  have hm : MemN _ _ _ _ _ := ⟨rfl, h.1⟩
  have hi := h.2
  have hms : MemN _ _ _ _ _ := ⟨rfl, fs.1⟩
  have his := fs.2
  have hmt : MemN _ _ _ _ _ := ⟨rfl, ft.1⟩
  have hit := ft.2
  obtain ⟨fshb, c5b, c6b, i1b, i2b⟩ := h'.get
  have hmb : MemN _ _ _ _ _ := ⟨rfl, h'.1⟩
  have hib := h'.2
  have hmshb : MemN _ _ _ _ _ := ⟨rfl, fshb.1⟩
  have hishb := fshb.2
  obtain ⟨s0, s1, s2, s3, s4, si1, si2, si3, si4⟩ := fs.get
  clear i21
  have i21 := v21.intss
  clear mm23
  have mm23 : MemN _ _ _ _ _ := ⟨rfl, Mem.of_get at23⟩
  try simp only [Nat.zero_add, List.set_cons_succ, List.set_cons_zero] at at4008
  refine .nil ?_
  refine hK5 _ _ ?_
  refine .seq (fun K6 hK6 => ?_)
  refine .region (.m rfl rfl rfl (.move rfl) (.m rfl rfl rfl (.nilCheck rfl) (.m rfl rfl rfl (.fieldAddr fo_119_0_Lc rfl) ?_)))
  refine .m rfl rfl rfl (.load on_23_B rfl (by first | assumption | exact Mem.of_get at4008 0 _ rfl)) ?_
  refine .m rfl rfl rfl (.len sl_23_B rfl) ?_
  refine .call rfl rfl rfl rfl @Try.call93 rfl (joinerOf_c) ?_
  rintro _ H43 ⟨le43, g43, rfl, at43, ge43⟩
  have nx_H43 := le43.1
  replace hle := hle.trans le43
  replace at35 := le43.2 _ _ at35
  replace at4008 := le43.2 _ _ at4008
  replace lv_v21 := Keep.le lv_v21 le43
  replace v21 := bs_v21.keep lv_v21 (Nat.le_refl _)
  have lt_at43 := GHeap.lt_of_get at43
  replace h := base_h.mono hle
  replace h' := base_h'.mono hle
  clear fs ft c10 c11 j1 j2 hm hi hms his hmt hit fshb c5b c6b i1b i2b hmb hib hmshb hishb s0 s1 s2 s3 s4 si1 si2 si3 si4
  obtain ⟨fs, ft, c10, c11, j1, j2⟩ := h.get
  have hm : MemN _ _ _ _ _ := ⟨rfl, h.1⟩
  have hi := h.2
  have hms : MemN _ _ _ _ _ := ⟨rfl, fs.1⟩
  have his := fs.2
  have hmt : MemN _ _ _ _ _ := ⟨rfl, ft.1⟩
  have hit := ft.2
  obtain ⟨fshb, c5b, c6b, i1b, i2b⟩ := h'.get
  have hmb : MemN _ _ _ _ _ := ⟨rfl, h'.1⟩
  have hib := h'.2
  have hmshb : MemN _ _ _ _ _ := ⟨rfl, fshb.1⟩
  have hishb := fshb.2
  obtain ⟨s0, s1, s2, s3, s4, si1, si2, si3, si4⟩ := fs.get
  clear i21
  have i21 := v21.intss
  clear mm23
  have mm23 : MemN _ _ _ _ _ := ⟨rfl, Mem.of_get at23⟩
  have i43 := Ints.of_get at43
  refine .m rfl rfl rfl (.assign rfl) (.nil ?_)
  refine hK6 _ _ ?_
  refine .seq (fun K7 hK7 => ?_)
  refine .seq (fun K8 hK8 => ?_)
  refine .region (.m rfl rfl rfl (.move rfl) (.m rfl rfl rfl (.nilCheck rfl) (.m rfl rfl rfl (.fieldAddr fo_65_2_P rfl) ?_)))
  refine .m rfl rfl rfl (.load on_23_B rfl (by assumption)) ?_
  refine .m rfl rfl rfl (.len sl_23_B rfl) (.m rfl rfl rfl (.move rfl) (.nil ?_))
  refine hK8 _ _ ?_
  refine .block ?_
  have hnl : (numsL (((leL k f y k.ob.length 0 0).length : Int).toNat)).length = (lcE k f y).length := by rw [length_numsL, Int.toNat_natCast]; rfl
  refine .loopR (σ := Nat × List Int) [(0, some _), (2, some _), (8, some _), (9, some _), (47, some _), (48, some _)] (fun (a, js) => [(49, some (.int .i64 (a : Int)))]) (fun (a, js) H' => St [g43] H43 H' ∧ H'.get g43 = some (.row (ints js) 2 true) ∧ a ≤ k.s.src.length ∧ RootK js (joinK (lcI k f y a 0 0)) (numsL (((leL k f y k.ob.length 0 0).length : Int).toNat)).length) (fun (a, js) => k.s.src.length - a) ((0, numsL (((leL k f y k.ob.length 0 0).length : Int).toNat))) ⟨rfl, rfl, rfl, rfl, rfl, rfl, trivial⟩ ⟨rfl, trivial⟩ ?_ ?_
  ·
   refine ⟨.refl _ _, by first | assumption | exact at43 | simpa using at43, ?_⟩
   exact ⟨by omega, RootK.start rfl fun i hi => numsL_get (by rw [length_numsL] at hi; exact hi)⟩
  rintro ⟨a, js⟩ HL1 ⟨lst1, at_L9, hI⟩ KL1 hKL1
  refine .forget (fr' := [(49, some (.int .i64 (a : Int))), (0, some _), (2, some _), (8, some _), (9, some _), (47, some _), (48, some _)]) ⟨rfl, rfl, rfl, rfl, rfl, rfl, rfl, trivial⟩ ?_
  have nx_HL1 := lst1.nx
  replace hle := hle.st lst1 (fun k hk => ⟨by omega, trivial⟩)
  have ne_g35_g43 : g35 ≠ g43 := by omega
  replace at35 := lst1.same _ _ ⟨ne_g35_g43, trivial⟩ at35
  have ne_g23_g43 : g23 ≠ g43 := by omega
  replace at4008 := lst1.same _ _ ⟨ne_g23_g43, trivial⟩ at4008
  replace lv_v21 := Keep.st lv_v21 lst1 (fun k hb hk => ⟨by omega, trivial⟩)
  replace v21 := bs_v21.keep lv_v21 (Nat.le_refl _)
  have lt_at_L9 := GHeap.lt_of_get at_L9
  replace h := base_h.mono hle
  replace h' := base_h'.mono hle
  clear fs ft c10 c11 j1 j2 hm hi hms his hmt hit fshb c5b c6b i1b i2b hmb hib hmshb hishb s0 s1 s2 s3 s4 si1 si2 si3 si4
  obtain ⟨fs, ft, c10, c11, j1, j2⟩ := h.get
  have hm : MemN _ _ _ _ _ := ⟨rfl, h.1⟩
  have hi := h.2
  have hms : MemN _ _ _ _ _ := ⟨rfl, fs.1⟩
  have his := fs.2
  have hmt : MemN _ _ _ _ _ := ⟨rfl, ft.1⟩
  have hit := ft.2
  obtain ⟨fshb, c5b, c6b, i1b, i2b⟩ := h'.get
  have hmb : MemN _ _ _ _ _ := ⟨rfl, h'.1⟩
  have hib := h'.2
  have hmshb : MemN _ _ _ _ _ := ⟨rfl, fshb.1⟩
  have hishb := fshb.2
  obtain ⟨s0, s1, s2, s3, s4, si1, si2, si3, si4⟩ := fs.get
  clear i21
  have i21 := v21.intss
  clear mm23
  have mm23 : MemN _ _ _ _ _ := ⟨rfl, Mem.of_get at23⟩
  clear i43
  have i43 := Ints.of_get at43
  obtain ⟨ha, hJ⟩ := hI
  refine .seq (fun K9 hK9 => ?_)
  refine .region (.m rfl rfl rfl (.cmp rfl rfl rfl) (.nil ?_))
  refine hK9 _ _ ?_
  refine .seq (fun K10 hK10 => ?_)
  refine .cond rfl (fun h50 => ?_) (fun h50 => ?_)
  ·
   simp only [sps] at h50
   have hal : a < k.s.src.length := by omega
   obtain ⟨a0, a1, a2, a3, a4, a5, a6, a7, a8, a9⟩ := o.arrow (y := y) hal
   have hlh := k.t.hom_le (k.ob.getD (k.s.tgt.getD a 0).toNat 0) y
   have u2 := i2b.2 a (by omega)
   refine .skip ?_
   refine hK10 _ _ ?_
   refine .seq (fun K11 hK11 => ?_)
   refine .block ?_
   refine .seq (fun K12 hK12 => ?_)
   refine .region (.m rfl rfl rfl (.move rfl) ?_)
   refine .m rfl rfl rfl (.idxN sl_23_B (Intss.sl (by assumption)) rfl rfl (by omega)) ?_
   refine .m rfl rfl rfl (.loadR on_22_B (by assumption) rfl (by omega)) ?_
   refine .m rfl rfl rfl (.assign rfl) (.m rfl rfl rfl (.assign rfl) (.nil ?_))
   refine hK12 _ _ ?_
   refine .seq (fun K13 hK13 => ?_)
   refine .regionD mixed_orders_B (.q 0 (.q 1 (.q 2 (.q 3 (.q 4 (.q 5 (.q 6 (.q 7 (.q 8 (.q 9 (.q 10 (.q 11 (.q 12 (.q 13 (.q 14 (.q 15 (.q 16 (.q 17 (.done))))))))))))))))))) (by kernel_rfl) ?_
   refine .m rfl rfl rfl rfl (.refl _) (.move rfl) (.m rfl rfl rfl rfl (.refl _) (.nilCheck rfl) (.m rfl rfl rfl rfl (.refl _) (.fieldAddr fo_62_0_E rfl) (.m rfl rfl rfl rfl (.refl _) (.fieldAddr fo_27_1_B rfl) ?_)))
   refine .m rfl rfl rfl rfl (.refl _) (.load on_22_B rfl (by assumption)) ?_
   refine .m rfl rfl rfl rfl (.refl _) (.move rfl) ?_
   refine .m rfl rfl rfl rfl (.refl _) (.idxN sl_22_A (by assumption) rfl rfl (by omega)) ?_
   refine .m rfl rfl rfl rfl (.refl _) (.loadI on_2_A (by assumption) rfl (by omega)) ?_
   refine .m rfl rfl rfl rfl (.refl _) (.move rfl) (.m rfl rfl rfl rfl (.refl _) (.nilCheck rfl) (.m rfl rfl rfl rfl (.refl _) (.fieldAddr fo_62_0_E rfl) (.m rfl rfl rfl rfl (.refl _) (.fieldAddr fo_27_2_B rfl) ?_)))
   refine .m rfl rfl rfl rfl (.refl _) (.load on_22_B rfl (by assumption)) ?_
   refine .m rfl rfl rfl rfl (.refl _) (.move rfl) ?_
   refine .m rfl rfl rfl rfl (.refl _) (.idxN sl_22_A (by assumption) rfl rfl (by omega)) ?_
   refine .m rfl rfl rfl rfl (.refl _) (.loadI on_2_A (by assumption) rfl (by omega)) ?_
   refine .m rfl rfl rfl rfl (.refl _) (.assign rfl) (.m rfl rfl rfl rfl (.refl _) (.assign rfl) ?_)
   refine .done ?_
   refine hK13 _ _ ?_
   refine .seq (fun K14 hK14 => ?_)
   refine .regionD mixed_orders_B (.q 0 (.q 1 (.q 2 (.q 3 (.q 4 (.q 5 (.q 6 (.q 7 (.q 8 (.q 9 (.q 10 (.q 13 (.c 11 1 (.q 12 (.done))))))))))))))) (by kernel_rfl) ?_
   refine .m rfl rfl rfl rfl (.refl _) (.move rfl) (.m rfl rfl rfl rfl (.refl _) (.nilCheck rfl) (.m rfl rfl rfl rfl (.refl _) (.fieldAddr fo_62_1_E rfl) (.m rfl rfl rfl rfl (.refl _) (.move rfl) ?_)))
   refine .m rfl rfl rfl rfl (.refl _) (.nilCheck rfl) (.m rfl rfl rfl rfl (.refl _) (.fieldAddr fo_62_2_E rfl) ?_)
   refine .m rfl rfl rfl rfl (.refl _) (.load on_22_B rfl (by assumption)) ?_
   refine .m rfl rfl rfl rfl (.refl _) (.move rfl) ?_
   refine .m rfl rfl rfl rfl (.refl _) (.idx1 sl_22_A (by assumption) rfl rfl (by omega) (by omega)) ?_
   refine .m rfl rfl rfl rfl (.refl _) (.loadI on_2_A (by assumption) rfl (by omega)) ?_
   refine .m rfl rfl rfl rfl (.refl _) (.move rfl) (.m rfl rfl rfl rfl (.refl _) (.move rfl) ?_)
   refine .call1 rfl rfl rfl rfl rfl @Try.call94 rfl (hom_c) ?_
   rintro _ H81 ⟨le81, g81, rfl, at81, ge81⟩
   have hbl := le81
   refine ⟨hbl, ?_⟩
   have nx_H81 := le81.1
   replace hle := hle.trans le81
   replace lst1 := lst1.le le81
   replace at35 := le81.2 _ _ at35
   replace at4008 := le81.2 _ _ at4008
   replace at_L9 := le81.2 _ _ at_L9
   replace lv_v21 := Keep.le lv_v21 le81
   replace v21 := bs_v21.keep lv_v21 (Nat.le_refl _)
   have lt_at81 := GHeap.lt_of_get at81
   replace h := base_h.mono hle
   replace h' := base_h'.mono hle
   clear fs ft c10 c11 j1 j2 hm hi hms his hmt hit fshb c5b c6b i1b i2b hmb hib hmshb hishb s0 s1 s2 s3 s4 si1 si2 si3 si4
   obtain ⟨fs, ft, c10, c11, j1, j2⟩ := h.get
   have hm : MemN _ _ _ _ _ := ⟨rfl, h.1⟩
   have hi := h.2
   have hms : MemN _ _ _ _ _ := ⟨rfl, fs.1⟩
   have his := fs.2
   have hmt : MemN _ _ _ _ _ := ⟨rfl, ft.1⟩
   have hit := ft.2
   obtain ⟨fshb, c5b, c6b, i1b, i2b⟩ := h'.get
   have hmb : MemN _ _ _ _ _ := ⟨rfl, h'.1⟩
   have hib := h'.2
   have hmshb : MemN _ _ _ _ _ := ⟨rfl, fshb.1⟩
   have hishb := fshb.2
   obtain ⟨s0, s1, s2, s3, s4, si1, si2, si3, si4⟩ := fs.get
   clear i21
   have i21 := v21.intss
   clear mm23
   have mm23 : MemN _ _ _ _ _ := ⟨rfl, Mem.of_get at23⟩
   clear i43
   have i43 := Ints.of_get at43
   clear u2
   have u2 := i2b.2 a (by omega)
   have i81 := Ints.of_get at81
   refine .m rfl rfl rfl rfl hbl (.len sl_22_A rfl) ?_
   refine .done ?_
   refine hK14 _ _ ?_
   refine .block ?_
   refine .loopR (σ := Nat × List Int) [(0, some _), (2, some _), (8, some _), (9, some _), (10, some _), (11, some _), (12, some _), (13, some _), (47, some _), (48, some _), (49, some _), (81, some _), (82, some _)] (fun (i, js2) => [(83, some (.int .i64 (i : Int)))]) (fun (i, js2) H' => St [g43] H81 H' ∧ H'.get g43 = some (.row (ints js2) 2 true) ∧ i ≤ (k.t.hom (k.ob.getD (k.s.tgt.getD a 0).toNat 0) y).length ∧ RootK js2 (joinK (lcI k f y a i 0)) (numsL (((leL k f y k.ob.length 0 0).length : Int).toNat)).length) (fun (i, js2) => (k.t.hom (k.ob.getD (k.s.tgt.getD a 0).toNat 0) y).length - i) ((0, js)) ⟨rfl, rfl, rfl, rfl, rfl, rfl, rfl, rfl, rfl, rfl, rfl, rfl, rfl, trivial⟩ ⟨rfl, trivial⟩ ?_ ?_
   ·
    refine ⟨.refl _ _, by first | assumption | exact at_L9 | simpa using at_L9, ?_⟩
    exact ⟨by omega, hJ⟩
   rintro ⟨i, js2⟩ HL2 ⟨lst2, at_L9, hI⟩ KL2 hKL2
   refine .forget (fr' := [(83, some (.int .i64 (i : Int))), (0, some _), (2, some _), (8, some _), (9, some _), (10, some _), (11, some _), (12, some _), (13, some _), (47, some _), (48, some _), (49, some _), (81, some _), (82, some _)]) ⟨rfl, rfl, rfl, rfl, rfl, rfl, rfl, rfl, rfl, rfl, rfl, rfl, rfl, rfl, trivial⟩ ?_
   have nx_HL2 := lst2.nx
   replace hle := hle.st lst2 (fun k hk => ⟨by omega, trivial⟩)
   replace lst1 := lst1.st lst2 (fun k hk ho => by simp only [out, and_true] at ho ⊢ <;> first | omega | (first | exact ho | exact ho.1 | exact ho.2 | exact ho.2.1 | exact ho.2.2 | exact ho.2.2.1 | exact ho.2.2.2))
   replace at35 := lst2.same _ _ ⟨ne_g35_g43, trivial⟩ at35
   replace at4008 := lst2.same _ _ ⟨ne_g23_g43, trivial⟩ at4008
   have ne_g81_g43 : g81 ≠ g43 := by omega
   replace at81 := lst2.same _ _ ⟨ne_g81_g43, trivial⟩ at81
   replace lv_v21 := Keep.st lv_v21 lst2 (fun k hb hk => ⟨by omega, trivial⟩)
   replace v21 := bs_v21.keep lv_v21 (Nat.le_refl _)
   have lt_at_L9 := GHeap.lt_of_get at_L9
   replace h := base_h.mono hle
   replace h' := base_h'.mono hle
   clear fs ft c10 c11 j1 j2 hm hi hms his hmt hit fshb c5b c6b i1b i2b hmb hib hmshb hishb s0 s1 s2 s3 s4 si1 si2 si3 si4
   obtain ⟨fs, ft, c10, c11, j1, j2⟩ := h.get
   have hm : MemN _ _ _ _ _ := ⟨rfl, h.1⟩
   have hi := h.2
   have hms : MemN _ _ _ _ _ := ⟨rfl, fs.1⟩
   have his := fs.2
   have hmt : MemN _ _ _ _ _ := ⟨rfl, ft.1⟩
   have hit := ft.2
   obtain ⟨fshb, c5b, c6b, i1b, i2b⟩ := h'.get
   have hmb : MemN _ _ _ _ _ := ⟨rfl, h'.1⟩
   have hib := h'.2
   have hmshb : MemN _ _ _ _ _ := ⟨rfl, fshb.1⟩
   have hishb := fshb.2
   obtain ⟨s0, s1, s2, s3, s4, si1, si2, si3, si4⟩ := fs.get
   clear i21
   have i21 := v21.intss
   clear mm23
   have mm23 : MemN _ _ _ _ _ := ⟨rfl, Mem.of_get at23⟩
   clear i43
   have i43 := Ints.of_get at43
   clear u2
   have u2 := i2b.2 a (by omega)
   clear i81
   have i81 := Ints.of_get at81
   obtain ⟨hi2, hJ⟩ := hI
   refine .seq (fun K15 hK15 => ?_)
   refine .region (.m rfl rfl rfl (.cmp rfl rfl rfl) (.nil ?_))
   refine hK15 _ _ ?_
   refine .seq (fun K16 hK16 => ?_)
   refine .cond rfl (fun h84 => ?_) (fun h84 => ?_)
   ·
    simp only [sps] at h84
    have hhm : (k.t.hom (k.ob.getD (k.s.tgt.getD a 0).toNat 0) y).getD i 0 ∈ k.t.hom (k.ob.getD (k.s.tgt.getD a 0).toNat 0) y := getD_mem (by omega)
    have hb9 := (a9 _ hhm).1
    refine .skip ?_
    refine hK16 _ _ ?_
    refine .seq (fun K17 hK17 => ?_)
    refine .block ?_
    refine .seq (fun K18 hK18 => ?_)
    refine .region ?_
    refine .m rfl rfl rfl (.idxN sl_22_A (by first | assumption | exact SlA.of_row at81 (by first | rfl | (simp; done) | (simp <;> omega))) rfl rfl (by omega)) ?_
    refine .m rfl rfl rfl (.loadI on_2_A (by first | assumption | exact Ints.of_get at81) rfl (by omega)) ?_
    refine .m rfl rfl rfl (.assign rfl) (.nil ?_)
    refine hK18 _ _ ?_
    refine .seq (fun K19 hK19 => ?_)
    refine .region (.m rfl rfl rfl (.move rfl) (.m rfl rfl rfl (.len sl_22_A rfl) (.m rfl rfl rfl (.move rfl) ?_)))
    refine .nil ?_
    refine hK19 _ _ ?_
    refine .block ?_
    refine .loopR (σ := Nat × List Int) [(0, some _), (2, some _), (8, some _), (9, some _), (10, some _), (11, some _), (12, some _), (13, some _), (15, some _), (47, some _), (48, some _), (49, some _), (81, some _), (82, some _), (83, some _), (87, some _), (88, some _)] (fun (e, js3) => [(89, some (.int .i64 (e : Int)))]) (fun (e, js3) H' => St [g43] HL2 H' ∧ H'.get g43 = some (.row (ints js3) 2 true) ∧ e ≤ (f.ac.getD a []).length ∧ RootK js3 (joinK (lcI k f y a i e)) (numsL (((leL k f y k.ob.length 0 0).length : Int).toNat)).length) (fun (e, js3) => (f.ac.getD a []).length - e) ((0, js2)) ⟨rfl, rfl, rfl, rfl, rfl, rfl, rfl, rfl, rfl, rfl, rfl, rfl, rfl, rfl, rfl, rfl, rfl, trivial⟩ ⟨rfl, trivial⟩ ?_ ?_
    ·
     refine ⟨.refl _ _, by first | assumption | exact at_L9 | simpa using at_L9, ?_⟩
     exact ⟨by omega, hJ⟩
    rintro ⟨e, js3⟩ HL3 ⟨lst3, at_L9, hI⟩ KL3 hKL3
    refine .forget (fr' := [(89, some (.int .i64 (e : Int))), (0, some _), (2, some _), (8, some _), (9, some _), (10, some _), (11, some _), (12, some _), (13, some _), (15, some _), (47, some _), (48, some _), (49, some _), (81, some _), (82, some _), (83, some _), (87, some _), (88, some _)]) ⟨rfl, rfl, rfl, rfl, rfl, rfl, rfl, rfl, rfl, rfl, rfl, rfl, rfl, rfl, rfl, rfl, rfl, rfl, trivial⟩ ?_
    have nx_HL3 := lst3.nx
    replace hle := hle.st lst3 (fun k hk => ⟨by omega, trivial⟩)
    replace lst1 := lst1.st lst3 (fun k hk ho => by simp only [out, and_true] at ho ⊢ <;> first | omega | (first | exact ho | exact ho.1 | exact ho.2 | exact ho.2.1 | exact ho.2.2 | exact ho.2.2.1 | exact ho.2.2.2))
    replace lst2 := lst2.st lst3 (fun k hk ho => by simp only [out, and_true] at ho ⊢ <;> first | omega | (first | exact ho | exact ho.1 | exact ho.2 | exact ho.2.1 | exact ho.2.2 | exact ho.2.2.1 | exact ho.2.2.2))
    replace at35 := lst3.same _ _ ⟨ne_g35_g43, trivial⟩ at35
    replace at4008 := lst3.same _ _ ⟨ne_g23_g43, trivial⟩ at4008
    replace at81 := lst3.same _ _ ⟨ne_g81_g43, trivial⟩ at81
    replace lv_v21 := Keep.st lv_v21 lst3 (fun k hb hk => ⟨by omega, trivial⟩)
    replace v21 := bs_v21.keep lv_v21 (Nat.le_refl _)
    have lt_at_L9 := GHeap.lt_of_get at_L9
    replace h := base_h.mono hle
    replace h' := base_h'.mono hle
    clear fs ft c10 c11 j1 j2 hm hi hms his hmt hit fshb c5b c6b i1b i2b hmb hib hmshb hishb s0 s1 s2 s3 s4 si1 si2 si3 si4
    obtain ⟨fs, ft, c10, c11, j1, j2⟩ := h.get
    have hm : MemN _ _ _ _ _ := ⟨rfl, h.1⟩
    have hi := h.2
    have hms : MemN _ _ _ _ _ := ⟨rfl, fs.1⟩
    have his := fs.2
    have hmt : MemN _ _ _ _ _ := ⟨rfl, ft.1⟩
    have hit := ft.2
    obtain ⟨fshb, c5b, c6b, i1b, i2b⟩ := h'.get
    have hmb : MemN _ _ _ _ _ := ⟨rfl, h'.1⟩
    have hib := h'.2
    have hmshb : MemN _ _ _ _ _ := ⟨rfl, fshb.1⟩
    have hishb := fshb.2
    obtain ⟨s0, s1, s2, s3, s4, si1, si2, si3, si4⟩ := fs.get
    clear i21
    have i21 := v21.intss
    clear mm23
    have mm23 : MemN _ _ _ _ _ := ⟨rfl, Mem.of_get at23⟩
    clear i43
    have i43 := Ints.of_get at43
    clear u2
    have u2 := i2b.2 a (by omega)
    clear i81
    have i81 := Ints.of_get at81
    obtain ⟨he2, hJ⟩ := hI
    refine .seq (fun K20 hK20 => ?_)
    refine .region (.m rfl rfl rfl (.cmp rfl rfl rfl) (.nil ?_))
    refine hK20 _ _ ?_
    refine .seq (fun K21 hK21 => ?_)
    refine .cond rfl (fun h90 => ?_) (fun h90 => ?_)
    ·
     simp only [sps] at h90
     have a10 := a6 e (by omega)
     obtain ⟨m1, m2⟩ := o.two hal hhm (show e < (f.ac.getD a []).length by omega)
     have kb1 := hK.ok _ m1
     have kb2 := hK.ok _ m2
     have hp1 := lookS_all hK m1
     have hp2 := lookS_all hK m2
     obtain ⟨uu, uu1, _, uu3⟩ := idxLL_mem hK.nd m1
     obtain ⟨vv, vv1, _, vv3⟩ := idxLL_mem hK.nd m2
     rw [uu3] at hp1
     rw [vv3] at hp2
     have hpr : lcPr k f y a i e = ((uu : Int).toNat, (vv : Int).toNat) := by unfold lcPr; rw [uu3, vv3]
     refine .skip ?_
     refine hK21 _ _ ?_
     refine .seq (fun K22 hK22 => ?_)
     refine .block ?_
     refine .seq (fun K23 hK23 => ?_)
     refine .region (.m rfl rfl rfl (.move rfl) ?_)
     refine .m rfl rfl rfl (.idxN sl_22_A (by assumption) rfl rfl (by omega)) ?_
     refine .m rfl rfl rfl (.loadI on_2_A (by assumption) rfl (by omega)) ?_
     refine .m rfl rfl rfl (.assign rfl) (.m rfl rfl rfl (.assign rfl) (.nil ?_))
     refine hK23 _ _ ?_
     refine .regionD mixed_orders_B (.q 0 (.q 1 (.q 2 (.q 3 (.q 4 (.q 5 (.q 6 (.q 7 (.q 8 (.q 9 (.q 10 (.q 11 (.q 12 (.q 13 (.q 14 (.q 15 (.q 16 (.q 18 (.q 23 (.q 24 (.q 25 (.q 26 (.q 27 (.q 28 (.q 29 (.or (.c 17 1 (.or (.c 19 1 (.or (.c 20 1 (.or (.c 21 1 (.q 22 (.c 30 1 (.c 31 1 (.c 32 1 (.q 33 (.c 34 0 (.done)))))))) (.c 30 1 (.or (.c 21 1 (.q 22 (.c 31 1 (.c 32 1 (.q 33 (.c 34 0 (.done))))))) (.c 31 1 (.c 21 1 (.q 22 (.c 32 1 (.q 33 (.c 34 0 (.done))))))))))) (.c 30 1 (.or (.c 20 1 (.or (.c 21 1 (.q 22 (.c 31 1 (.c 32 1 (.q 33 (.c 34 0 (.done))))))) (.c 31 1 (.c 21 1 (.q 22 (.c 32 1 (.q 33 (.c 34 0 (.done))))))))) (.c 31 1 (.c 20 1 (.c 21 1 (.q 22 (.c 32 1 (.q 33 (.c 34 0 (.done)))))))))))) (.c 30 1 (.or (.c 19 1 (.or (.c 20 1 (.or (.c 21 1 (.q 22 (.c 31 1 (.c 32 1 (.q 33 (.c 34 0 (.done))))))) (.c 31 1 (.c 21 1 (.q 22 (.c 32 1 (.q 33 (.c 34 0 (.done))))))))) (.c 31 1 (.c 20 1 (.c 21 1 (.q 22 (.c 32 1 (.q 33 (.c 34 0 (.done)))))))))) (.c 31 1 (.c 19 1 (.c 20 1 (.c 21 1 (.q 22 (.c 32 1 (.q 33 (.c 34 0 (.done))))))))))))) (.c 30 1 (.or (.c 17 1 (.or (.c 19 1 (.or (.c 20 1 (.or (.c 21 1 (.q 22 (.c 31 1 (.c 32 1 (.q 33 (.c 34 0 (.done))))))) (.c 31 1 (.c 21 1 (.q 22 (.c 32 1 (.q 33 (.c 34 0 (.done))))))))) (.c 31 1 (.c 20 1 (.c 21 1 (.q 22 (.c 32 1 (.q 33 (.c 34 0 (.done)))))))))) (.c 31 1 (.c 19 1 (.c 20 1 (.c 21 1 (.q 22 (.c 32 1 (.q 33 (.c 34 0 (.done))))))))))) (.c 31 1 (.c 17 1 (.c 19 1 (.c 20 1 (.c 21 1 (.q 22 (.c 32 1 (.q 33 (.c 34 0 (.done)))))))))))))))))))))))))))))))))))))) (by kernel_rfl) ?_
     refine .cut [(0, some _), (2, some _), (8, some _), (9, some _), (10, some _), (11, some _), (12, some _), (13, some _), (15, some _), (16, some _), (17, some _), (47, some _), (48, some _), (49, some _), (81, some _), (82, some _), (83, some _), (87, some _), (88, some _), (89, some _), (90, some _), (91, some _), (92, some _), (93, some _)] ⟨rfl, rfl, rfl, rfl, rfl, rfl, rfl, rfl, rfl, rfl, rfl, rfl, rfl, rfl, rfl, rfl, rfl, rfl, rfl, rfl, rfl, rfl, rfl, rfl, trivial⟩ (fun rest fr' H' => ∃ (js' : List Int), Sub rest fr' ∧ St [g43] HL3 H' ∧ H'.get g43 = some (.row (ints js') 2 true) ∧ RootK js' (stepK (joinK (lcI k f y a i e)) (uu : Int).toNat (vv : Int).toNat) (numsL (((leL k f y k.ob.length 0 0).length : Int).toNat)).length) ?_ ?_
     ·
      have hf0 := St.refl [g43] HL3
      refine .mB rfl rfl rfl rfl (.refl _) (.move rfl) ?_
      refine .mB rfl rfl rfl rfl (.refl _) (.move rfl) ?_
      refine .m rfl rfl rfl rfl (.refl _) (.nilCheck rfl) (.m rfl rfl rfl rfl (.refl _) (.fieldAddr fo_119_1_Lc rfl) ?_)
      refine .m rfl rfl rfl rfl (.refl _) (.load on_117_Lc rfl (by first | assumption | exact Mem.of_get at4008 1 _ rfl)) ?_
      refine .mB rfl rfl rfl rfl (.refl _) (.move rfl) ?_
      refine .mB rfl rfl rfl rfl (.refl _) (.move rfl) ?_
      refine .m rfl rfl rfl rfl (.refl _) (.nilCheck rfl) (.m rfl rfl rfl rfl (.refl _) (.fieldAddr fo_62_1_E rfl) ?_)
      refine .mB rfl rfl rfl rfl (.refl _) (.move rfl) ?_
      refine .m rfl rfl rfl rfl (.refl _) (.nilCheck rfl) (.m rfl rfl rfl rfl (.refl _) (.fieldAddr fo_62_3_E rfl) ?_)
      refine .m rfl rfl rfl rfl (.refl _) (.load on_22_B rfl (by assumption)) ?_
      refine .mB rfl rfl rfl rfl (.refl _) (.move rfl) ?_
      refine .m rfl rfl rfl rfl (.refl _) (.idxN sl_22_A (by assumption) rfl rfl (by omega)) ?_
      refine .m rfl rfl rfl rfl (.refl _) (.loadI on_2_A (by assumption) rfl (by omega)) ?_
      refine .mB rfl rfl rfl rfl (.refl _) (.move rfl) ?_
      refine .mB rfl rfl rfl rfl (.refl _) (.move rfl) ?_
      refine .mB rfl rfl rfl rfl (.refl _) (.move rfl) ?_
      refine .m rfl rfl rfl rfl (.refl _) (.nilCheck rfl) (.m rfl rfl rfl rfl (.refl _) (.fieldAddr fo_119_1_Lc rfl) ?_)
      refine .m rfl rfl rfl rfl (.refl _) (.load on_117_Lc rfl (by first | assumption | exact Mem.of_get at4008 1 _ rfl)) ?_
      refine .mB rfl rfl rfl rfl (.refl _) (.move rfl) ?_
      refine .mB rfl rfl rfl rfl (.refl _) (.move rfl) ?_
      refine .mB rfl rfl rfl rfl (.refl _) (.move rfl) ?_
      refine .orI ?_ ?_
      ·
       refine .callQ1 rfl rfl rfl rfl rfl @Try.call65 rfl (then_s) (.refl _) ?_
       refine .orI ?_ ?_
       ·
        refine .c1 rfl rfl rfl rfl (.litR rfl sl_22_A ze_2_E rfl rfl (by omega) (by omega) rfl rfl) ?_
        rintro _ H113 ⟨g113, rfl, le113, ge113, at113⟩
        have hbl := le113
        refine ⟨hbl, ?_⟩
        have nx_H113 := le113.1
        replace hle := hle.trans le113
        replace lst1 := lst1.le le113
        replace lst2 := lst2.le le113
        replace lst3 := lst3.le le113
        replace hf0 := hf0.le le113
        replace at35 := le113.2 _ _ at35
        replace at4008 := le113.2 _ _ at4008
        replace at81 := le113.2 _ _ at81
        replace at_L9 := le113.2 _ _ at_L9
        replace lv_v21 := Keep.le lv_v21 le113
        replace v21 := bs_v21.keep lv_v21 (Nat.le_refl _)
        have lt_at113 := GHeap.lt_of_get at113
        replace h := base_h.mono hle
        replace h' := base_h'.mono hle
        clear fs ft c10 c11 j1 j2 hm hi hms his hmt hit fshb c5b c6b i1b i2b hmb hib hmshb hishb s0 s1 s2 s3 s4 si1 si2 si3 si4
        obtain ⟨fs, ft, c10, c11, j1, j2⟩ := h.get
        have hm : MemN _ _ _ _ _ := ⟨rfl, h.1⟩
        have hi := h.2
        have hms : MemN _ _ _ _ _ := ⟨rfl, fs.1⟩
        have his := fs.2
        have hmt : MemN _ _ _ _ _ := ⟨rfl, ft.1⟩
        have hit := ft.2
        obtain ⟨fshb, c5b, c6b, i1b, i2b⟩ := h'.get
        have hmb : MemN _ _ _ _ _ := ⟨rfl, h'.1⟩
        have hib := h'.2
        have hmshb : MemN _ _ _ _ _ := ⟨rfl, fshb.1⟩
        have hishb := fshb.2
        obtain ⟨s0, s1, s2, s3, s4, si1, si2, si3, si4⟩ := fs.get
        clear i21
        have i21 := v21.intss
        clear mm23
        have mm23 : MemN _ _ _ _ _ := ⟨rfl, Mem.of_get at23⟩
        clear i43
        have i43 := Ints.of_get at43
        clear u2
        have u2 := i2b.2 a (by omega)
        clear i81
        have i81 := Ints.of_get at81
        refine .orI ?_ ?_
        ·
         refine .c1 rfl rfl rfl rfl (.litR rfl sl_23_B ze_22_E rfl rfl (by omega) (by omega) rfl rfl) ?_
         rintro _ H114 ⟨g114, rfl, le114, ge114, at114⟩
         replace hbl := hbl.trans le114
         refine ⟨hbl, ?_⟩
         have nx_H114 := le114.1
         replace hle := hle.trans le114
         replace lst1 := lst1.le le114
         replace lst2 := lst2.le le114
         replace lst3 := lst3.le le114
         replace hf0 := hf0.le le114
         replace at35 := le114.2 _ _ at35
         replace at4008 := le114.2 _ _ at4008
         replace at81 := le114.2 _ _ at81
         replace at_L9 := le114.2 _ _ at_L9
         replace at113 := le114.2 _ _ at113
         replace lv_v21 := Keep.le lv_v21 le114
         replace v21 := bs_v21.keep lv_v21 (Nat.le_refl _)
         have lt_at114 := GHeap.lt_of_get at114
         replace h := base_h.mono hle
         replace h' := base_h'.mono hle
         clear fs ft c10 c11 j1 j2 hm hi hms his hmt hit fshb c5b c6b i1b i2b hmb hib hmshb hishb s0 s1 s2 s3 s4 si1 si2 si3 si4
         obtain ⟨fs, ft, c10, c11, j1, j2⟩ := h.get
         have hm : MemN _ _ _ _ _ := ⟨rfl, h.1⟩
         have hi := h.2
         have hms : MemN _ _ _ _ _ := ⟨rfl, fs.1⟩
         have his := fs.2
         have hmt : MemN _ _ _ _ _ := ⟨rfl, ft.1⟩
         have hit := ft.2
         obtain ⟨fshb, c5b, c6b, i1b, i2b⟩ := h'.get
         have hmb : MemN _ _ _ _ _ := ⟨rfl, h'.1⟩
         have hib := h'.2
         have hmshb : MemN _ _ _ _ _ := ⟨rfl, fshb.1⟩
         have hishb := fshb.2
         obtain ⟨s0, s1, s2, s3, s4, si1, si2, si3, si4⟩ := fs.get
         clear i21
         have i21 := v21.intss
         clear mm23
         have mm23 : MemN _ _ _ _ _ := ⟨rfl, Mem.of_get at23⟩
         clear i43
         have i43 := Ints.of_get at43
         clear u2
         have u2 := i2b.2 a (by omega)
         clear i81
         have i81 := Ints.of_get at81
         refine .orI ?_ ?_
         ·
          refine .callQ1 rfl rfl rfl rfl rfl @Try.call96 rfl (key_c (xs := lcT k a ((k.t.hom (k.ob.getD (k.s.tgt.getD a 0).toNat 0) y).getD i 0) e) (by assumption) (Ints.of_get (xs := lcT k a ((k.t.hom (k.ob.getD (k.s.tgt.getD a 0).toNat 0) y).getD i 0) e) (by assumption)) rfl (fun j hj => kb1.2 j hj) (by show 3 ≤ 1000; omega)) hbl ?_
          refine .m rfl rfl rfl rfl hbl (.lookupS mps_117_Ke zv_2_Pb rfl rfl (by assumption)) ?_
          refine .c1 rfl rfl rfl rfl (.litR rfl sl_22_A ze_2_E rfl rfl (by omega) (by omega) rfl rfl) ?_
          rintro _ H124 ⟨g124, rfl, le124, ge124, at124⟩
          have hbl := le124
          refine ⟨hbl, ?_⟩
          have nx_H124 := le124.1
          replace hle := hle.trans le124
          replace lst1 := lst1.le le124
          replace lst2 := lst2.le le124
          replace lst3 := lst3.le le124
          replace hf0 := hf0.le le124
          replace at35 := le124.2 _ _ at35
          replace at4008 := le124.2 _ _ at4008
          replace at81 := le124.2 _ _ at81
          replace at_L9 := le124.2 _ _ at_L9
          replace at113 := le124.2 _ _ at113
          replace at114 := le124.2 _ _ at114
          replace lv_v21 := Keep.le lv_v21 le124
          replace v21 := bs_v21.keep lv_v21 (Nat.le_refl _)
          have lt_at124 := GHeap.lt_of_get at124
          replace h := base_h.mono hle
          replace h' := base_h'.mono hle
          clear fs ft c10 c11 j1 j2 hm hi hms his hmt hit fshb c5b c6b i1b i2b hmb hib hmshb hishb s0 s1 s2 s3 s4 si1 si2 si3 si4
          obtain ⟨fs, ft, c10, c11, j1, j2⟩ := h.get
          have hm : MemN _ _ _ _ _ := ⟨rfl, h.1⟩
          have hi := h.2
          have hms : MemN _ _ _ _ _ := ⟨rfl, fs.1⟩
          have his := fs.2
          have hmt : MemN _ _ _ _ _ := ⟨rfl, ft.1⟩
          have hit := ft.2
          obtain ⟨fshb, c5b, c6b, i1b, i2b⟩ := h'.get
          have hmb : MemN _ _ _ _ _ := ⟨rfl, h'.1⟩
          have hib := h'.2
          have hmshb : MemN _ _ _ _ _ := ⟨rfl, fshb.1⟩
          have hishb := fshb.2
          obtain ⟨s0, s1, s2, s3, s4, si1, si2, si3, si4⟩ := fs.get
          clear i21
          have i21 := v21.intss
          clear mm23
          have mm23 : MemN _ _ _ _ _ := ⟨rfl, Mem.of_get at23⟩
          clear i43
          have i43 := Ints.of_get at43
          clear u2
          have u2 := i2b.2 a (by omega)
          clear i81
          have i81 := Ints.of_get at81
          refine .c1 rfl rfl rfl rfl (.litR rfl sl_23_B ze_22_E rfl rfl (by omega) (by omega) rfl rfl) ?_
          rintro _ H125 ⟨g125, rfl, le125, ge125, at125⟩
          replace hbl := hbl.trans le125
          refine ⟨hbl, ?_⟩
          have nx_H125 := le125.1
          replace hle := hle.trans le125
          replace lst1 := lst1.le le125
          replace lst2 := lst2.le le125
          replace lst3 := lst3.le le125
          replace hf0 := hf0.le le125
          replace at35 := le125.2 _ _ at35
          replace at4008 := le125.2 _ _ at4008
          replace at81 := le125.2 _ _ at81
          replace at_L9 := le125.2 _ _ at_L9
          replace at113 := le125.2 _ _ at113
          replace at114 := le125.2 _ _ at114
          replace at124 := le125.2 _ _ at124
          replace lv_v21 := Keep.le lv_v21 le125
          replace v21 := bs_v21.keep lv_v21 (Nat.le_refl _)
          have lt_at125 := GHeap.lt_of_get at125
          replace h := base_h.mono hle
          replace h' := base_h'.mono hle
          clear fs ft c10 c11 j1 j2 hm hi hms his hmt hit fshb c5b c6b i1b i2b hmb hib hmshb hishb s0 s1 s2 s3 s4 si1 si2 si3 si4
          obtain ⟨fs, ft, c10, c11, j1, j2⟩ := h.get
          have hm : MemN _ _ _ _ _ := ⟨rfl, h.1⟩
          have hi := h.2
          have hms : MemN _ _ _ _ _ := ⟨rfl, fs.1⟩
          have his := fs.2
          have hmt : MemN _ _ _ _ _ := ⟨rfl, ft.1⟩
          have hit := ft.2
          obtain ⟨fshb, c5b, c6b, i1b, i2b⟩ := h'.get
          have hmb : MemN _ _ _ _ _ := ⟨rfl, h'.1⟩
          have hib := h'.2
          have hmshb : MemN _ _ _ _ _ := ⟨rfl, fshb.1⟩
          have hishb := fshb.2
          obtain ⟨s0, s1, s2, s3, s4, si1, si2, si3, si4⟩ := fs.get
          clear i21
          have i21 := v21.intss
          clear mm23
          have mm23 : MemN _ _ _ _ _ := ⟨rfl, Mem.of_get at23⟩
          clear i43
          have i43 := Ints.of_get at43
          clear u2
          have u2 := i2b.2 a (by omega)
          clear i81
          have i81 := Ints.of_get at81
          refine .callQ1 rfl rfl rfl rfl rfl @Try.call96 rfl (key_c (xs := lcU k f a ((k.t.hom (k.ob.getD (k.s.tgt.getD a 0).toNat 0) y).getD i 0) e) (by assumption) (Ints.of_get (xs := lcU k f a ((k.t.hom (k.ob.getD (k.s.tgt.getD a 0).toNat 0) y).getD i 0) e) (by assumption)) rfl (fun j hj => kb2.2 j hj) (by show 3 ≤ 1000; omega)) hbl ?_
          refine .m rfl rfl rfl rfl hbl (.lookupS mps_117_Ke zv_2_Pb rfl rfl (by assumption)) ?_
          refine .call0 rfl rfl rfl rfl rfl @Try.call95 rfl (join_c (hK := hJ)) ?_
          rintro _ H128 ⟨⟨b128, rfl⟩, st128, js128, at128, hK128⟩
          have nx_H128 := st128.nx
          replace hle := hle.st st128 (fun k hk => ⟨by omega, trivial⟩)
          replace lst1 := lst1.st st128 (fun k hk ho => by simp only [out, and_true] at ho ⊢ <;> first | omega | (first | exact ho | exact ho.1 | exact ho.2 | exact ho.2.1 | exact ho.2.2 | exact ho.2.2.1 | exact ho.2.2.2))
          replace lst2 := lst2.st st128 (fun k hk ho => by simp only [out, and_true] at ho ⊢ <;> first | omega | (first | exact ho | exact ho.1 | exact ho.2 | exact ho.2.1 | exact ho.2.2 | exact ho.2.2.1 | exact ho.2.2.2))
          replace lst3 := lst3.st st128 (fun k hk ho => by simp only [out, and_true] at ho ⊢ <;> first | omega | (first | exact ho | exact ho.1 | exact ho.2 | exact ho.2.1 | exact ho.2.2 | exact ho.2.2.1 | exact ho.2.2.2))
          replace hf0 := hf0.st st128 (fun k hk ho => by simp only [out, and_true] at ho ⊢ <;> first | omega | (first | exact ho | exact ho.1 | exact ho.2 | exact ho.2.1 | exact ho.2.2 | exact ho.2.2.1 | exact ho.2.2.2))
          replace at35 := st128.same _ _ ⟨ne_g35_g43, trivial⟩ at35
          replace at4008 := st128.same _ _ ⟨ne_g23_g43, trivial⟩ at4008
          replace at81 := st128.same _ _ ⟨ne_g81_g43, trivial⟩ at81
          have ne_g113_g43 : g113 ≠ g43 := by omega
          replace at113 := st128.same _ _ ⟨ne_g113_g43, trivial⟩ at113
          have ne_g114_g43 : g114 ≠ g43 := by omega
          replace at114 := st128.same _ _ ⟨ne_g114_g43, trivial⟩ at114
          have ne_g124_g43 : g124 ≠ g43 := by omega
          replace at124 := st128.same _ _ ⟨ne_g124_g43, trivial⟩ at124
          have ne_g125_g43 : g125 ≠ g43 := by omega
          replace at125 := st128.same _ _ ⟨ne_g125_g43, trivial⟩ at125
          replace lv_v21 := Keep.st lv_v21 st128 (fun k hb hk => ⟨by omega, trivial⟩)
          replace v21 := bs_v21.keep lv_v21 (Nat.le_refl _)
          have lt_at128 := GHeap.lt_of_get at128
          replace h := base_h.mono hle
          replace h' := base_h'.mono hle
          clear fs ft c10 c11 j1 j2 hm hi hms his hmt hit fshb c5b c6b i1b i2b hmb hib hmshb hishb s0 s1 s2 s3 s4 si1 si2 si3 si4
          obtain ⟨fs, ft, c10, c11, j1, j2⟩ := h.get
          have hm : MemN _ _ _ _ _ := ⟨rfl, h.1⟩
          have hi := h.2
          have hms : MemN _ _ _ _ _ := ⟨rfl, fs.1⟩
          have his := fs.2
          have hmt : MemN _ _ _ _ _ := ⟨rfl, ft.1⟩
          have hit := ft.2
          obtain ⟨fshb, c5b, c6b, i1b, i2b⟩ := h'.get
          have hmb : MemN _ _ _ _ _ := ⟨rfl, h'.1⟩
          have hib := h'.2
          have hmshb : MemN _ _ _ _ _ := ⟨rfl, fshb.1⟩
          have hishb := fshb.2
          obtain ⟨s0, s1, s2, s3, s4, si1, si2, si3, si4⟩ := fs.get
          clear i21
          have i21 := v21.intss
          clear mm23
          have mm23 : MemN _ _ _ _ _ := ⟨rfl, Mem.of_get at23⟩
          clear i43
          have i43 := Ints.of_get at43
          clear u2
          have u2 := i2b.2 a (by omega)
          clear i81
          have i81 := Ints.of_get at81
          refine .done ?_
          exact ⟨_, ⟨rfl, rfl, rfl, rfl, rfl, rfl, rfl, rfl, rfl, rfl, rfl, rfl, rfl, rfl, rfl, rfl, rfl, rfl, rfl, rfl, rfl, rfl, rfl, rfl, trivial⟩, hf0, at128, (by rw [hp1, hp2] at hK128; exact hK128)⟩
         refine .c1 rfl rfl rfl rfl (.litR rfl sl_22_A ze_2_E rfl rfl (by omega) (by omega) rfl rfl) ?_
         rintro _ H124x2 ⟨g124x2, rfl, le124x2, ge124x2, at124x2⟩
         replace hbl := hbl.trans le124x2
         refine ⟨hbl, ?_⟩
         have nx_H124x2 := le124x2.1
         replace hle := hle.trans le124x2
         replace lst1 := lst1.le le124x2
         replace lst2 := lst2.le le124x2
         replace lst3 := lst3.le le124x2
         replace hf0 := hf0.le le124x2
         replace at35 := le124x2.2 _ _ at35
         replace at4008 := le124x2.2 _ _ at4008
         replace at81 := le124x2.2 _ _ at81
         replace at_L9 := le124x2.2 _ _ at_L9
         replace at113 := le124x2.2 _ _ at113
         replace at114 := le124x2.2 _ _ at114
         replace lv_v21 := Keep.le lv_v21 le124x2
         replace v21 := bs_v21.keep lv_v21 (Nat.le_refl _)
         have lt_at124x2 := GHeap.lt_of_get at124x2
         replace h := base_h.mono hle
         replace h' := base_h'.mono hle
         clear fs ft c10 c11 j1 j2 hm hi hms his hmt hit fshb c5b c6b i1b i2b hmb hib hmshb hishb s0 s1 s2 s3 s4 si1 si2 si3 si4
         obtain ⟨fs, ft, c10, c11, j1, j2⟩ := h.get
         have hm : MemN _ _ _ _ _ := ⟨rfl, h.1⟩
         have hi := h.2
         have hms : MemN _ _ _ _ _ := ⟨rfl, fs.1⟩
         have his := fs.2
         have hmt : MemN _ _ _ _ _ := ⟨rfl, ft.1⟩
         have hit := ft.2
         obtain ⟨fshb, c5b, c6b, i1b, i2b⟩ := h'.get
         have hmb : MemN _ _ _ _ _ := ⟨rfl, h'.1⟩
         have hib := h'.2
         have hmshb : MemN _ _ _ _ _ := ⟨rfl, fshb.1⟩
         have hishb := fshb.2
         obtain ⟨s0, s1, s2, s3, s4, si1, si2, si3, si4⟩ := fs.get
         clear i21
         have i21 := v21.intss
         clear mm23
         have mm23 : MemN _ _ _ _ _ := ⟨rfl, Mem.of_get at23⟩
         clear i43
         have i43 := Ints.of_get at43
         clear u2
         have u2 := i2b.2 a (by omega)
         clear i81
         have i81 := Ints.of_get at81
         refine .orI ?_ ?_
         ·
          refine .callQ1 rfl rfl rfl rfl rfl @Try.call96 rfl (key_c (xs := lcT k a ((k.t.hom (k.ob.getD (k.s.tgt.getD a 0).toNat 0) y).getD i 0) e) (by assumption) (Ints.of_get (xs := lcT k a ((k.t.hom (k.ob.getD (k.s.tgt.getD a 0).toNat 0) y).getD i 0) e) (by assumption)) rfl (fun j hj => kb1.2 j hj) (by show 3 ≤ 1000; omega)) hbl ?_
          refine .m rfl rfl rfl rfl hbl (.lookupS mps_117_Ke zv_2_Pb rfl rfl (by assumption)) ?_
          refine .c1 rfl rfl rfl rfl (.litR rfl sl_23_B ze_22_E rfl rfl (by omega) (by omega) rfl rfl) ?_
          rintro _ H125x2 ⟨g125x2, rfl, le125x2, ge125x2, at125x2⟩
          have hbl := le125x2
          refine ⟨hbl, ?_⟩
          have nx_H125x2 := le125x2.1
          replace hle := hle.trans le125x2
          replace lst1 := lst1.le le125x2
          replace lst2 := lst2.le le125x2
          replace lst3 := lst3.le le125x2
          replace hf0 := hf0.le le125x2
          replace at35 := le125x2.2 _ _ at35
          replace at4008 := le125x2.2 _ _ at4008
          replace at81 := le125x2.2 _ _ at81
          replace at_L9 := le125x2.2 _ _ at_L9
          replace at113 := le125x2.2 _ _ at113
          replace at114 := le125x2.2 _ _ at114
          replace at124x2 := le125x2.2 _ _ at124x2
          replace lv_v21 := Keep.le lv_v21 le125x2
          replace v21 := bs_v21.keep lv_v21 (Nat.le_refl _)
          have lt_at125x2 := GHeap.lt_of_get at125x2
          replace h := base_h.mono hle
          replace h' := base_h'.mono hle
          clear fs ft c10 c11 j1 j2 hm hi hms his hmt hit fshb c5b c6b i1b i2b hmb hib hmshb hishb s0 s1 s2 s3 s4 si1 si2 si3 si4
          obtain ⟨fs, ft, c10, c11, j1, j2⟩ := h.get
          have hm : MemN _ _ _ _ _ := ⟨rfl, h.1⟩
          have hi := h.2
          have hms : MemN _ _ _ _ _ := ⟨rfl, fs.1⟩
          have his := fs.2
          have hmt : MemN _ _ _ _ _ := ⟨rfl, ft.1⟩
          have hit := ft.2
          obtain ⟨fshb, c5b, c6b, i1b, i2b⟩ := h'.get
          have hmb : MemN _ _ _ _ _ := ⟨rfl, h'.1⟩
          have hib := h'.2
          have hmshb : MemN _ _ _ _ _ := ⟨rfl, fshb.1⟩
          have hishb := fshb.2
          obtain ⟨s0, s1, s2, s3, s4, si1, si2, si3, si4⟩ := fs.get
          clear i21
          have i21 := v21.intss
          clear mm23
          have mm23 : MemN _ _ _ _ _ := ⟨rfl, Mem.of_get at23⟩
          clear i43
          have i43 := Ints.of_get at43
          clear u2
          have u2 := i2b.2 a (by omega)
          clear i81
          have i81 := Ints.of_get at81
          refine .callQ1 rfl rfl rfl rfl rfl @Try.call96 rfl (key_c (xs := lcU k f a ((k.t.hom (k.ob.getD (k.s.tgt.getD a 0).toNat 0) y).getD i 0) e) (by assumption) (Ints.of_get (xs := lcU k f a ((k.t.hom (k.ob.getD (k.s.tgt.getD a 0).toNat 0) y).getD i 0) e) (by assumption)) rfl (fun j hj => kb2.2 j hj) (by show 3 ≤ 1000; omega)) hbl ?_
          refine .m rfl rfl rfl rfl hbl (.lookupS mps_117_Ke zv_2_Pb rfl rfl (by assumption)) ?_
          refine .call0 rfl rfl rfl rfl rfl @Try.call95 rfl (join_c (hK := hJ)) ?_
          rintro _ H128x2 ⟨⟨b128x2, rfl⟩, st128x2, js128x2, at128x2, hK128x2⟩
          have nx_H128x2 := st128x2.nx
          replace hle := hle.st st128x2 (fun k hk => ⟨by omega, trivial⟩)
          replace lst1 := lst1.st st128x2 (fun k hk ho => by simp only [out, and_true] at ho ⊢ <;> first | omega | (first | exact ho | exact ho.1 | exact ho.2 | exact ho.2.1 | exact ho.2.2 | exact ho.2.2.1 | exact ho.2.2.2))
          replace lst2 := lst2.st st128x2 (fun k hk ho => by simp only [out, and_true] at ho ⊢ <;> first | omega | (first | exact ho | exact ho.1 | exact ho.2 | exact ho.2.1 | exact ho.2.2 | exact ho.2.2.1 | exact ho.2.2.2))
          replace lst3 := lst3.st st128x2 (fun k hk ho => by simp only [out, and_true] at ho ⊢ <;> first | omega | (first | exact ho | exact ho.1 | exact ho.2 | exact ho.2.1 | exact ho.2.2 | exact ho.2.2.1 | exact ho.2.2.2))
          replace hf0 := hf0.st st128x2 (fun k hk ho => by simp only [out, and_true] at ho ⊢ <;> first | omega | (first | exact ho | exact ho.1 | exact ho.2 | exact ho.2.1 | exact ho.2.2 | exact ho.2.2.1 | exact ho.2.2.2))
          replace at35 := st128x2.same _ _ ⟨ne_g35_g43, trivial⟩ at35
          replace at4008 := st128x2.same _ _ ⟨ne_g23_g43, trivial⟩ at4008
          replace at81 := st128x2.same _ _ ⟨ne_g81_g43, trivial⟩ at81
          have ne_g113_g43 : g113 ≠ g43 := by omega
          replace at113 := st128x2.same _ _ ⟨ne_g113_g43, trivial⟩ at113
          have ne_g114_g43 : g114 ≠ g43 := by omega
          replace at114 := st128x2.same _ _ ⟨ne_g114_g43, trivial⟩ at114
          have ne_g124x2_g43 : g124x2 ≠ g43 := by omega
          replace at124x2 := st128x2.same _ _ ⟨ne_g124x2_g43, trivial⟩ at124x2
          have ne_g125x2_g43 : g125x2 ≠ g43 := by omega
          replace at125x2 := st128x2.same _ _ ⟨ne_g125x2_g43, trivial⟩ at125x2
          replace lv_v21 := Keep.st lv_v21 st128x2 (fun k hb hk => ⟨by omega, trivial⟩)
          replace v21 := bs_v21.keep lv_v21 (Nat.le_refl _)
          have lt_at128x2 := GHeap.lt_of_get at128x2
          replace h := base_h.mono hle
          replace h' := base_h'.mono hle
          clear fs ft c10 c11 j1 j2 hm hi hms his hmt hit fshb c5b c6b i1b i2b hmb hib hmshb hishb s0 s1 s2 s3 s4 si1 si2 si3 si4
          obtain ⟨fs, ft, c10, c11, j1, j2⟩ := h.get
          have hm : MemN _ _ _ _ _ := ⟨rfl, h.1⟩
          have hi := h.2
          have hms : MemN _ _ _ _ _ := ⟨rfl, fs.1⟩
          have his := fs.2
          have hmt : MemN _ _ _ _ _ := ⟨rfl, ft.1⟩
          have hit := ft.2
          obtain ⟨fshb, c5b, c6b, i1b, i2b⟩ := h'.get
          have hmb : MemN _ _ _ _ _ := ⟨rfl, h'.1⟩
          have hib := h'.2
          have hmshb : MemN _ _ _ _ _ := ⟨rfl, fshb.1⟩
          have hishb := fshb.2
          obtain ⟨s0, s1, s2, s3, s4, si1, si2, si3, si4⟩ := fs.get
          clear i21
          have i21 := v21.intss
          clear mm23
          have mm23 : MemN _ _ _ _ _ := ⟨rfl, Mem.of_get at23⟩
          clear i43
          have i43 := Ints.of_get at43
          clear u2
          have u2 := i2b.2 a (by omega)
          clear i81
          have i81 := Ints.of_get at81
          refine .done ?_
          exact ⟨_, ⟨rfl, rfl, rfl, rfl, rfl, rfl, rfl, rfl, rfl, rfl, rfl, rfl, rfl, rfl, rfl, rfl, rfl, rfl, rfl, rfl, rfl, rfl, rfl, rfl, trivial⟩, hf0, at128x2, (by rw [hp1, hp2] at hK128x2; exact hK128x2)⟩
         refine .c1 rfl rfl rfl rfl (.litR rfl sl_23_B ze_22_E rfl rfl (by omega) (by omega) rfl rfl) ?_
         rintro _ H125x3 ⟨g125x3, rfl, le125x3, ge125x3, at125x3⟩
         replace hbl := hbl.trans le125x3
         refine ⟨hbl, ?_⟩
         have nx_H125x3 := le125x3.1
         replace hle := hle.trans le125x3
         replace lst1 := lst1.le le125x3
         replace lst2 := lst2.le le125x3
         replace lst3 := lst3.le le125x3
         replace hf0 := hf0.le le125x3
         replace at35 := le125x3.2 _ _ at35
         replace at4008 := le125x3.2 _ _ at4008
         replace at81 := le125x3.2 _ _ at81
         replace at_L9 := le125x3.2 _ _ at_L9
         replace at113 := le125x3.2 _ _ at113
         replace at114 := le125x3.2 _ _ at114
         replace at124x2 := le125x3.2 _ _ at124x2
         replace lv_v21 := Keep.le lv_v21 le125x3
         replace v21 := bs_v21.keep lv_v21 (Nat.le_refl _)
         have lt_at125x3 := GHeap.lt_of_get at125x3
         replace h := base_h.mono hle
         replace h' := base_h'.mono hle
         clear fs ft c10 c11 j1 j2 hm hi hms his hmt hit fshb c5b c6b i1b i2b hmb hib hmshb hishb s0 s1 s2 s3 s4 si1 si2 si3 si4
         obtain ⟨fs, ft, c10, c11, j1, j2⟩ := h.get
         have hm : MemN _ _ _ _ _ := ⟨rfl, h.1⟩
         have hi := h.2
         have hms : MemN _ _ _ _ _ := ⟨rfl, fs.1⟩
         have his := fs.2
         have hmt : MemN _ _ _ _ _ := ⟨rfl, ft.1⟩
         have hit := ft.2
         obtain ⟨fshb, c5b, c6b, i1b, i2b⟩ := h'.get
         have hmb : MemN _ _ _ _ _ := ⟨rfl, h'.1⟩
         have hib := h'.2
         have hmshb : MemN _ _ _ _ _ := ⟨rfl, fshb.1⟩
         have hishb := fshb.2
         obtain ⟨s0, s1, s2, s3, s4, si1, si2, si3, si4⟩ := fs.get
         clear i21
         have i21 := v21.intss
         clear mm23
         have mm23 : MemN _ _ _ _ _ := ⟨rfl, Mem.of_get at23⟩
         clear i43
         have i43 := Ints.of_get at43
         clear u2
         have u2 := i2b.2 a (by omega)
         clear i81
         have i81 := Ints.of_get at81
         refine .callQ1 rfl rfl rfl rfl rfl @Try.call96 rfl (key_c (xs := lcT k a ((k.t.hom (k.ob.getD (k.s.tgt.getD a 0).toNat 0) y).getD i 0) e) (by assumption) (Ints.of_get (xs := lcT k a ((k.t.hom (k.ob.getD (k.s.tgt.getD a 0).toNat 0) y).getD i 0) e) (by assumption)) rfl (fun j hj => kb1.2 j hj) (by show 3 ≤ 1000; omega)) hbl ?_
         refine .m rfl rfl rfl rfl hbl (.lookupS mps_117_Ke zv_2_Pb rfl rfl (by assumption)) ?_
         refine .callQ1 rfl rfl rfl rfl rfl @Try.call96 rfl (key_c (xs := lcU k f a ((k.t.hom (k.ob.getD (k.s.tgt.getD a 0).toNat 0) y).getD i 0) e) (by assumption) (Ints.of_get (xs := lcU k f a ((k.t.hom (k.ob.getD (k.s.tgt.getD a 0).toNat 0) y).getD i 0) e) (by assumption)) rfl (fun j hj => kb2.2 j hj) (by show 3 ≤ 1000; omega)) (.refl _) ?_
         refine .m rfl rfl rfl rfl (.refl _) (.lookupS mps_117_Ke zv_2_Pb rfl rfl (by assumption)) ?_
         refine .call0 rfl rfl rfl rfl rfl @Try.call95 rfl (join_c (hK := hJ)) ?_
         rintro _ H128x3 ⟨⟨b128x3, rfl⟩, st128x3, js128x3, at128x3, hK128x3⟩
         have nx_H128x3 := st128x3.nx
         replace hle := hle.st st128x3 (fun k hk => ⟨by omega, trivial⟩)
         replace lst1 := lst1.st st128x3 (fun k hk ho => by simp only [out, and_true] at ho ⊢ <;> first | omega | (first | exact ho | exact ho.1 | exact ho.2 | exact ho.2.1 | exact ho.2.2 | exact ho.2.2.1 | exact ho.2.2.2))
         replace lst2 := lst2.st st128x3 (fun k hk ho => by simp only [out, and_true] at ho ⊢ <;> first | omega | (first | exact ho | exact ho.1 | exact ho.2 | exact ho.2.1 | exact ho.2.2 | exact ho.2.2.1 | exact ho.2.2.2))
         replace lst3 := lst3.st st128x3 (fun k hk ho => by simp only [out, and_true] at ho ⊢ <;> first | omega | (first | exact ho | exact ho.1 | exact ho.2 | exact ho.2.1 | exact ho.2.2 | exact ho.2.2.1 | exact ho.2.2.2))
         replace hf0 := hf0.st st128x3 (fun k hk ho => by simp only [out, and_true] at ho ⊢ <;> first | omega | (first | exact ho | exact ho.1 | exact ho.2 | exact ho.2.1 | exact ho.2.2 | exact ho.2.2.1 | exact ho.2.2.2))
         replace at35 := st128x3.same _ _ ⟨ne_g35_g43, trivial⟩ at35
         replace at4008 := st128x3.same _ _ ⟨ne_g23_g43, trivial⟩ at4008
         replace at81 := st128x3.same _ _ ⟨ne_g81_g43, trivial⟩ at81
         have ne_g113_g43 : g113 ≠ g43 := by omega
         replace at113 := st128x3.same _ _ ⟨ne_g113_g43, trivial⟩ at113
         have ne_g114_g43 : g114 ≠ g43 := by omega
         replace at114 := st128x3.same _ _ ⟨ne_g114_g43, trivial⟩ at114
         have ne_g124x2_g43 : g124x2 ≠ g43 := by omega
         replace at124x2 := st128x3.same _ _ ⟨ne_g124x2_g43, trivial⟩ at124x2
         have ne_g125x3_g43 : g125x3 ≠ g43 := by omega
         replace at125x3 := st128x3.same _ _ ⟨ne_g125x3_g43, trivial⟩ at125x3
         replace lv_v21 := Keep.st lv_v21 st128x3 (fun k hb hk => ⟨by omega, trivial⟩)
         replace v21 := bs_v21.keep lv_v21 (Nat.le_refl _)
         have lt_at128x3 := GHeap.lt_of_get at128x3
         replace h := base_h.mono hle
         replace h' := base_h'.mono hle
         clear fs ft c10 c11 j1 j2 hm hi hms his hmt hit fshb c5b c6b i1b i2b hmb hib hmshb hishb s0 s1 s2 s3 s4 si1 si2 si3 si4
         obtain ⟨fs, ft, c10, c11, j1, j2⟩ := h.get
         have hm : MemN _ _ _ _ _ := ⟨rfl, h.1⟩
         have hi := h.2
         have hms : MemN _ _ _ _ _ := ⟨rfl, fs.1⟩
         have his := fs.2
         have hmt : MemN _ _ _ _ _ := ⟨rfl, ft.1⟩
         have hit := ft.2
         obtain ⟨fshb, c5b, c6b, i1b, i2b⟩ := h'.get
         have hmb : MemN _ _ _ _ _ := ⟨rfl, h'.1⟩
         have hib := h'.2
         have hmshb : MemN _ _ _ _ _ := ⟨rfl, fshb.1⟩
         have hishb := fshb.2
         obtain ⟨s0, s1, s2, s3, s4, si1, si2, si3, si4⟩ := fs.get
         clear i21
         have i21 := v21.intss
         clear mm23
         have mm23 : MemN _ _ _ _ _ := ⟨rfl, Mem.of_get at23⟩
         clear i43
         have i43 := Ints.of_get at43
         clear u2
         have u2 := i2b.2 a (by omega)
         clear i81
         have i81 := Ints.of_get at81
         refine .done ?_
         exact ⟨_, ⟨rfl, rfl, rfl, rfl, rfl, rfl, rfl, rfl, rfl, rfl, rfl, rfl, rfl, rfl, rfl, rfl, rfl, rfl, rfl, rfl, rfl, rfl, rfl, rfl, trivial⟩, hf0, at128x3, (by rw [hp1, hp2] at hK128x3; exact hK128x3)⟩
        refine .c1 rfl rfl rfl rfl (.litR rfl sl_22_A ze_2_E rfl rfl (by omega) (by omega) rfl rfl) ?_
        rintro _ H124x3 ⟨g124x3, rfl, le124x3, ge124x3, at124x3⟩
        replace hbl := hbl.trans le124x3
        refine ⟨hbl, ?_⟩
        have nx_H124x3 := le124x3.1
        replace hle := hle.trans le124x3
        replace lst1 := lst1.le le124x3
        replace lst2 := lst2.le le124x3
        replace lst3 := lst3.le le124x3
        replace hf0 := hf0.le le124x3
        replace at35 := le124x3.2 _ _ at35
        replace at4008 := le124x3.2 _ _ at4008
        replace at81 := le124x3.2 _ _ at81
        replace at_L9 := le124x3.2 _ _ at_L9
        replace at113 := le124x3.2 _ _ at113
        replace lv_v21 := Keep.le lv_v21 le124x3
        replace v21 := bs_v21.keep lv_v21 (Nat.le_refl _)
        have lt_at124x3 := GHeap.lt_of_get at124x3
        replace h := base_h.mono hle
        replace h' := base_h'.mono hle
        clear fs ft c10 c11 j1 j2 hm hi hms his hmt hit fshb c5b c6b i1b i2b hmb hib hmshb hishb s0 s1 s2 s3 s4 si1 si2 si3 si4
        obtain ⟨fs, ft, c10, c11, j1, j2⟩ := h.get
        have hm : MemN _ _ _ _ _ := ⟨rfl, h.1⟩
        have hi := h.2
        have hms : MemN _ _ _ _ _ := ⟨rfl, fs.1⟩
        have his := fs.2
        have hmt : MemN _ _ _ _ _ := ⟨rfl, ft.1⟩
        have hit := ft.2
        obtain ⟨fshb, c5b, c6b, i1b, i2b⟩ := h'.get
        have hmb : MemN _ _ _ _ _ := ⟨rfl, h'.1⟩
        have hib := h'.2
        have hmshb : MemN _ _ _ _ _ := ⟨rfl, fshb.1⟩
        have hishb := fshb.2
        obtain ⟨s0, s1, s2, s3, s4, si1, si2, si3, si4⟩ := fs.get
        clear i21
        have i21 := v21.intss
        clear mm23
        have mm23 : MemN _ _ _ _ _ := ⟨rfl, Mem.of_get at23⟩
        clear i43
        have i43 := Ints.of_get at43
        clear u2
        have u2 := i2b.2 a (by omega)
        clear i81
        have i81 := Ints.of_get at81
        refine .orI ?_ ?_
        ·
         refine .c1 rfl rfl rfl rfl (.litR rfl sl_23_B ze_22_E rfl rfl (by omega) (by omega) rfl rfl) ?_
         rintro _ H114x2 ⟨g114x2, rfl, le114x2, ge114x2, at114x2⟩
         replace hbl := hbl.trans le114x2
         refine ⟨hbl, ?_⟩
         have nx_H114x2 := le114x2.1
         replace hle := hle.trans le114x2
         replace lst1 := lst1.le le114x2
         replace lst2 := lst2.le le114x2
         replace lst3 := lst3.le le114x2
         replace hf0 := hf0.le le114x2
         replace at35 := le114x2.2 _ _ at35
         replace at4008 := le114x2.2 _ _ at4008
         replace at81 := le114x2.2 _ _ at81
         replace at_L9 := le114x2.2 _ _ at_L9
         replace at113 := le114x2.2 _ _ at113
         replace at124x3 := le114x2.2 _ _ at124x3
         replace lv_v21 := Keep.le lv_v21 le114x2
         replace v21 := bs_v21.keep lv_v21 (Nat.le_refl _)
         have lt_at114x2 := GHeap.lt_of_get at114x2
         replace h := base_h.mono hle
         replace h' := base_h'.mono hle
         clear fs ft c10 c11 j1 j2 hm hi hms his hmt hit fshb c5b c6b i1b i2b hmb hib hmshb hishb s0 s1 s2 s3 s4 si1 si2 si3 si4
         obtain ⟨fs, ft, c10, c11, j1, j2⟩ := h.get
         have hm : MemN _ _ _ _ _ := ⟨rfl, h.1⟩
         have hi := h.2
         have hms : MemN _ _ _ _ _ := ⟨rfl, fs.1⟩
         have his := fs.2
         have hmt : MemN _ _ _ _ _ := ⟨rfl, ft.1⟩
         have hit := ft.2
         obtain ⟨fshb, c5b, c6b, i1b, i2b⟩ := h'.get
         have hmb : MemN _ _ _ _ _ := ⟨rfl, h'.1⟩
         have hib := h'.2
         have hmshb : MemN _ _ _ _ _ := ⟨rfl, fshb.1⟩
         have hishb := fshb.2
         obtain ⟨s0, s1, s2, s3, s4, si1, si2, si3, si4⟩ := fs.get
         clear i21
         have i21 := v21.intss
         clear mm23
         have mm23 : MemN _ _ _ _ _ := ⟨rfl, Mem.of_get at23⟩
         clear i43
         have i43 := Ints.of_get at43
         clear u2
         have u2 := i2b.2 a (by omega)
         clear i81
         have i81 := Ints.of_get at81
         refine .orI ?_ ?_
         ·
          refine .callQ1 rfl rfl rfl rfl rfl @Try.call96 rfl (key_c (xs := lcT k a ((k.t.hom (k.ob.getD (k.s.tgt.getD a 0).toNat 0) y).getD i 0) e) (by assumption) (Ints.of_get (xs := lcT k a ((k.t.hom (k.ob.getD (k.s.tgt.getD a 0).toNat 0) y).getD i 0) e) (by assumption)) rfl (fun j hj => kb1.2 j hj) (by show 3 ≤ 1000; omega)) hbl ?_
          refine .m rfl rfl rfl rfl hbl (.lookupS mps_117_Ke zv_2_Pb rfl rfl (by assumption)) ?_
          refine .c1 rfl rfl rfl rfl (.litR rfl sl_23_B ze_22_E rfl rfl (by omega) (by omega) rfl rfl) ?_
          rintro _ H125x4 ⟨g125x4, rfl, le125x4, ge125x4, at125x4⟩
          have hbl := le125x4
          refine ⟨hbl, ?_⟩
          have nx_H125x4 := le125x4.1
          replace hle := hle.trans le125x4
          replace lst1 := lst1.le le125x4
          replace lst2 := lst2.le le125x4
          replace lst3 := lst3.le le125x4
          replace hf0 := hf0.le le125x4
          replace at35 := le125x4.2 _ _ at35
          replace at4008 := le125x4.2 _ _ at4008
          replace at81 := le125x4.2 _ _ at81
          replace at_L9 := le125x4.2 _ _ at_L9
          replace at113 := le125x4.2 _ _ at113
          replace at124x3 := le125x4.2 _ _ at124x3
          replace at114x2 := le125x4.2 _ _ at114x2
          replace lv_v21 := Keep.le lv_v21 le125x4
          replace v21 := bs_v21.keep lv_v21 (Nat.le_refl _)
          have lt_at125x4 := GHeap.lt_of_get at125x4
          replace h := base_h.mono hle
          replace h' := base_h'.mono hle
          clear fs ft c10 c11 j1 j2 hm hi hms his hmt hit fshb c5b c6b i1b i2b hmb hib hmshb hishb s0 s1 s2 s3 s4 si1 si2 si3 si4
          obtain ⟨fs, ft, c10, c11, j1, j2⟩ := h.get
          have hm : MemN _ _ _ _ _ := ⟨rfl, h.1⟩
          have hi := h.2
          have hms : MemN _ _ _ _ _ := ⟨rfl, fs.1⟩
          have his := fs.2
          have hmt : MemN _ _ _ _ _ := ⟨rfl, ft.1⟩
          have hit := ft.2
          obtain ⟨fshb, c5b, c6b, i1b, i2b⟩ := h'.get
          have hmb : MemN _ _ _ _ _ := ⟨rfl, h'.1⟩
          have hib := h'.2
          have hmshb : MemN _ _ _ _ _ := ⟨rfl, fshb.1⟩
          have hishb := fshb.2
          obtain ⟨s0, s1, s2, s3, s4, si1, si2, si3, si4⟩ := fs.get
          clear i21
          have i21 := v21.intss
          clear mm23
          have mm23 : MemN _ _ _ _ _ := ⟨rfl, Mem.of_get at23⟩
          clear i43
          have i43 := Ints.of_get at43
          clear u2
          have u2 := i2b.2 a (by omega)
          clear i81
          have i81 := Ints.of_get at81
          refine .callQ1 rfl rfl rfl rfl rfl @Try.call96 rfl (key_c (xs := lcU k f a ((k.t.hom (k.ob.getD (k.s.tgt.getD a 0).toNat 0) y).getD i 0) e) (by assumption) (Ints.of_get (xs := lcU k f a ((k.t.hom (k.ob.getD (k.s.tgt.getD a 0).toNat 0) y).getD i 0) e) (by assumption)) rfl (fun j hj => kb2.2 j hj) (by show 3 ≤ 1000; omega)) hbl ?_
          refine .m rfl rfl rfl rfl hbl (.lookupS mps_117_Ke zv_2_Pb rfl rfl (by assumption)) ?_
          refine .call0 rfl rfl rfl rfl rfl @Try.call95 rfl (join_c (hK := hJ)) ?_
          rintro _ H128x4 ⟨⟨b128x4, rfl⟩, st128x4, js128x4, at128x4, hK128x4⟩
          have nx_H128x4 := st128x4.nx
          replace hle := hle.st st128x4 (fun k hk => ⟨by omega, trivial⟩)
          replace lst1 := lst1.st st128x4 (fun k hk ho => by simp only [out, and_true] at ho ⊢ <;> first | omega | (first | exact ho | exact ho.1 | exact ho.2 | exact ho.2.1 | exact ho.2.2 | exact ho.2.2.1 | exact ho.2.2.2))
          replace lst2 := lst2.st st128x4 (fun k hk ho => by simp only [out, and_true] at ho ⊢ <;> first | omega | (first | exact ho | exact ho.1 | exact ho.2 | exact ho.2.1 | exact ho.2.2 | exact ho.2.2.1 | exact ho.2.2.2))
          replace lst3 := lst3.st st128x4 (fun k hk ho => by simp only [out, and_true] at ho ⊢ <;> first | omega | (first | exact ho | exact ho.1 | exact ho.2 | exact ho.2.1 | exact ho.2.2 | exact ho.2.2.1 | exact ho.2.2.2))
          replace hf0 := hf0.st st128x4 (fun k hk ho => by simp only [out, and_true] at ho ⊢ <;> first | omega | (first | exact ho | exact ho.1 | exact ho.2 | exact ho.2.1 | exact ho.2.2 | exact ho.2.2.1 | exact ho.2.2.2))
          replace at35 := st128x4.same _ _ ⟨ne_g35_g43, trivial⟩ at35
          replace at4008 := st128x4.same _ _ ⟨ne_g23_g43, trivial⟩ at4008
          replace at81 := st128x4.same _ _ ⟨ne_g81_g43, trivial⟩ at81
          have ne_g113_g43 : g113 ≠ g43 := by omega
          replace at113 := st128x4.same _ _ ⟨ne_g113_g43, trivial⟩ at113
          have ne_g124x3_g43 : g124x3 ≠ g43 := by omega
          replace at124x3 := st128x4.same _ _ ⟨ne_g124x3_g43, trivial⟩ at124x3
          have ne_g114x2_g43 : g114x2 ≠ g43 := by omega
          replace at114x2 := st128x4.same _ _ ⟨ne_g114x2_g43, trivial⟩ at114x2
          have ne_g125x4_g43 : g125x4 ≠ g43 := by omega
          replace at125x4 := st128x4.same _ _ ⟨ne_g125x4_g43, trivial⟩ at125x4
          replace lv_v21 := Keep.st lv_v21 st128x4 (fun k hb hk => ⟨by omega, trivial⟩)
          replace v21 := bs_v21.keep lv_v21 (Nat.le_refl _)
          have lt_at128x4 := GHeap.lt_of_get at128x4
          replace h := base_h.mono hle
          replace h' := base_h'.mono hle
          clear fs ft c10 c11 j1 j2 hm hi hms his hmt hit fshb c5b c6b i1b i2b hmb hib hmshb hishb s0 s1 s2 s3 s4 si1 si2 si3 si4
          obtain ⟨fs, ft, c10, c11, j1, j2⟩ := h.get
          have hm : MemN _ _ _ _ _ := ⟨rfl, h.1⟩
          have hi := h.2
          have hms : MemN _ _ _ _ _ := ⟨rfl, fs.1⟩
          have his := fs.2
          have hmt : MemN _ _ _ _ _ := ⟨rfl, ft.1⟩
          have hit := ft.2
          obtain ⟨fshb, c5b, c6b, i1b, i2b⟩ := h'.get
          have hmb : MemN _ _ _ _ _ := ⟨rfl, h'.1⟩
          have hib := h'.2
          have hmshb : MemN _ _ _ _ _ := ⟨rfl, fshb.1⟩
          have hishb := fshb.2
          obtain ⟨s0, s1, s2, s3, s4, si1, si2, si3, si4⟩ := fs.get
          clear i21
          have i21 := v21.intss
          clear mm23
          have mm23 : MemN _ _ _ _ _ := ⟨rfl, Mem.of_get at23⟩
          clear i43
          have i43 := Ints.of_get at43
          clear u2
          have u2 := i2b.2 a (by omega)
          clear i81
          have i81 := Ints.of_get at81
          refine .done ?_
          exact ⟨_, ⟨rfl, rfl, rfl, rfl, rfl, rfl, rfl, rfl, rfl, rfl, rfl, rfl, rfl, rfl, rfl, rfl, rfl, rfl, rfl, rfl, rfl, rfl, rfl, rfl, trivial⟩, hf0, at128x4, (by rw [hp1, hp2] at hK128x4; exact hK128x4)⟩
         refine .c1 rfl rfl rfl rfl (.litR rfl sl_23_B ze_22_E rfl rfl (by omega) (by omega) rfl rfl) ?_
         rintro _ H125x5 ⟨g125x5, rfl, le125x5, ge125x5, at125x5⟩
         replace hbl := hbl.trans le125x5
         refine ⟨hbl, ?_⟩
         have nx_H125x5 := le125x5.1
         replace hle := hle.trans le125x5
         replace lst1 := lst1.le le125x5
         replace lst2 := lst2.le le125x5
         replace lst3 := lst3.le le125x5
         replace hf0 := hf0.le le125x5
         replace at35 := le125x5.2 _ _ at35
         replace at4008 := le125x5.2 _ _ at4008
         replace at81 := le125x5.2 _ _ at81
         replace at_L9 := le125x5.2 _ _ at_L9
         replace at113 := le125x5.2 _ _ at113
         replace at124x3 := le125x5.2 _ _ at124x3
         replace at114x2 := le125x5.2 _ _ at114x2
         replace lv_v21 := Keep.le lv_v21 le125x5
         replace v21 := bs_v21.keep lv_v21 (Nat.le_refl _)
         have lt_at125x5 := GHeap.lt_of_get at125x5
         replace h := base_h.mono hle
         replace h' := base_h'.mono hle
         clear fs ft c10 c11 j1 j2 hm hi hms his hmt hit fshb c5b c6b i1b i2b hmb hib hmshb hishb s0 s1 s2 s3 s4 si1 si2 si3 si4
         obtain ⟨fs, ft, c10, c11, j1, j2⟩ := h.get
         have hm : MemN _ _ _ _ _ := ⟨rfl, h.1⟩
         have hi := h.2
         have hms : MemN _ _ _ _ _ := ⟨rfl, fs.1⟩
         have his := fs.2
         have hmt : MemN _ _ _ _ _ := ⟨rfl, ft.1⟩
         have hit := ft.2
         obtain ⟨fshb, c5b, c6b, i1b, i2b⟩ := h'.get
         have hmb : MemN _ _ _ _ _ := ⟨rfl, h'.1⟩
         have hib := h'.2
         have hmshb : MemN _ _ _ _ _ := ⟨rfl, fshb.1⟩
         have hishb := fshb.2
         obtain ⟨s0, s1, s2, s3, s4, si1, si2, si3, si4⟩ := fs.get
         clear i21
         have i21 := v21.intss
         clear mm23
         have mm23 : MemN _ _ _ _ _ := ⟨rfl, Mem.of_get at23⟩
         clear i43
         have i43 := Ints.of_get at43
         clear u2
         have u2 := i2b.2 a (by omega)
         clear i81
         have i81 := Ints.of_get at81
         refine .callQ1 rfl rfl rfl rfl rfl @Try.call96 rfl (key_c (xs := lcT k a ((k.t.hom (k.ob.getD (k.s.tgt.getD a 0).toNat 0) y).getD i 0) e) (by assumption) (Ints.of_get (xs := lcT k a ((k.t.hom (k.ob.getD (k.s.tgt.getD a 0).toNat 0) y).getD i 0) e) (by assumption)) rfl (fun j hj => kb1.2 j hj) (by show 3 ≤ 1000; omega)) hbl ?_
         refine .m rfl rfl rfl rfl hbl (.lookupS mps_117_Ke zv_2_Pb rfl rfl (by assumption)) ?_
         refine .callQ1 rfl rfl rfl rfl rfl @Try.call96 rfl (key_c (xs := lcU k f a ((k.t.hom (k.ob.getD (k.s.tgt.getD a 0).toNat 0) y).getD i 0) e) (by assumption) (Ints.of_get (xs := lcU k f a ((k.t.hom (k.ob.getD (k.s.tgt.getD a 0).toNat 0) y).getD i 0) e) (by assumption)) rfl (fun j hj => kb2.2 j hj) (by show 3 ≤ 1000; omega)) (.refl _) ?_
         refine .m rfl rfl rfl rfl (.refl _) (.lookupS mps_117_Ke zv_2_Pb rfl rfl (by assumption)) ?_
         refine .call0 rfl rfl rfl rfl rfl @Try.call95 rfl (join_c (hK := hJ)) ?_
         rintro _ H128x5 ⟨⟨b128x5, rfl⟩, st128x5, js128x5, at128x5, hK128x5⟩
         have nx_H128x5 := st128x5.nx
         replace hle := hle.st st128x5 (fun k hk => ⟨by omega, trivial⟩)
         replace lst1 := lst1.st st128x5 (fun k hk ho => by simp only [out, and_true] at ho ⊢ <;> first | omega | (first | exact ho | exact ho.1 | exact ho.2 | exact ho.2.1 | exact ho.2.2 | exact ho.2.2.1 | exact ho.2.2.2))
         replace lst2 := lst2.st st128x5 (fun k hk ho => by simp only [out, and_true] at ho ⊢ <;> first | omega | (first | exact ho | exact ho.1 | exact ho.2 | exact ho.2.1 | exact ho.2.2 | exact ho.2.2.1 | exact ho.2.2.2))
         replace lst3 := lst3.st st128x5 (fun k hk ho => by simp only [out, and_true] at ho ⊢ <;> first | omega | (first | exact ho | exact ho.1 | exact ho.2 | exact ho.2.1 | exact ho.2.2 | exact ho.2.2.1 | exact ho.2.2.2))
         replace hf0 := hf0.st st128x5 (fun k hk ho => by simp only [out, and_true] at ho ⊢ <;> first | omega | (first | exact ho | exact ho.1 | exact ho.2 | exact ho.2.1 | exact ho.2.2 | exact ho.2.2.1 | exact ho.2.2.2))
         replace at35 := st128x5.same _ _ ⟨ne_g35_g43, trivial⟩ at35
         replace at4008 := st128x5.same _ _ ⟨ne_g23_g43, trivial⟩ at4008
         replace at81 := st128x5.same _ _ ⟨ne_g81_g43, trivial⟩ at81
         have ne_g113_g43 : g113 ≠ g43 := by omega
         replace at113 := st128x5.same _ _ ⟨ne_g113_g43, trivial⟩ at113
         have ne_g124x3_g43 : g124x3 ≠ g43 := by omega
         replace at124x3 := st128x5.same _ _ ⟨ne_g124x3_g43, trivial⟩ at124x3
         have ne_g114x2_g43 : g114x2 ≠ g43 := by omega
         replace at114x2 := st128x5.same _ _ ⟨ne_g114x2_g43, trivial⟩ at114x2
         have ne_g125x5_g43 : g125x5 ≠ g43 := by omega
         replace at125x5 := st128x5.same _ _ ⟨ne_g125x5_g43, trivial⟩ at125x5
         replace lv_v21 := Keep.st lv_v21 st128x5 (fun k hb hk => ⟨by omega, trivial⟩)
         replace v21 := bs_v21.keep lv_v21 (Nat.le_refl _)
         have lt_at128x5 := GHeap.lt_of_get at128x5
         replace h := base_h.mono hle
         replace h' := base_h'.mono hle
         clear fs ft c10 c11 j1 j2 hm hi hms his hmt hit fshb c5b c6b i1b i2b hmb hib hmshb hishb s0 s1 s2 s3 s4 si1 si2 si3 si4
         obtain ⟨fs, ft, c10, c11, j1, j2⟩ := h.get
         have hm : MemN _ _ _ _ _ := ⟨rfl, h.1⟩
         have hi := h.2
         have hms : MemN _ _ _ _ _ := ⟨rfl, fs.1⟩
         have his := fs.2
         have hmt : MemN _ _ _ _ _ := ⟨rfl, ft.1⟩
         have hit := ft.2
         obtain ⟨fshb, c5b, c6b, i1b, i2b⟩ := h'.get
         have hmb : MemN _ _ _ _ _ := ⟨rfl, h'.1⟩
         have hib := h'.2
         have hmshb : MemN _ _ _ _ _ := ⟨rfl, fshb.1⟩
         have hishb := fshb.2
         obtain ⟨s0, s1, s2, s3, s4, si1, si2, si3, si4⟩ := fs.get
         clear i21
         have i21 := v21.intss
         clear mm23
         have mm23 : MemN _ _ _ _ _ := ⟨rfl, Mem.of_get at23⟩
         clear i43
         have i43 := Ints.of_get at43
         clear u2
         have u2 := i2b.2 a (by omega)
         clear i81
         have i81 := Ints.of_get at81
         refine .done ?_
         exact ⟨_, ⟨rfl, rfl, rfl, rfl, rfl, rfl, rfl, rfl, rfl, rfl, rfl, rfl, rfl, rfl, rfl, rfl, rfl, rfl, rfl, rfl, rfl, rfl, rfl, rfl, trivial⟩, hf0, at128x5, (by rw [hp1, hp2] at hK128x5; exact hK128x5)⟩
        refine .c1 rfl rfl rfl rfl (.litR rfl sl_23_B ze_22_E rfl rfl (by omega) (by omega) rfl rfl) ?_
        rintro _ H125x6 ⟨g125x6, rfl, le125x6, ge125x6, at125x6⟩
        replace hbl := hbl.trans le125x6
        refine ⟨hbl, ?_⟩
        have nx_H125x6 := le125x6.1
        replace hle := hle.trans le125x6
        replace lst1 := lst1.le le125x6
        replace lst2 := lst2.le le125x6
        replace lst3 := lst3.le le125x6
        replace hf0 := hf0.le le125x6
        replace at35 := le125x6.2 _ _ at35
        replace at4008 := le125x6.2 _ _ at4008
        replace at81 := le125x6.2 _ _ at81
        replace at_L9 := le125x6.2 _ _ at_L9
        replace at113 := le125x6.2 _ _ at113
        replace at124x3 := le125x6.2 _ _ at124x3
        replace lv_v21 := Keep.le lv_v21 le125x6
        replace v21 := bs_v21.keep lv_v21 (Nat.le_refl _)
        have lt_at125x6 := GHeap.lt_of_get at125x6
        replace h := base_h.mono hle
        replace h' := base_h'.mono hle
        clear fs ft c10 c11 j1 j2 hm hi hms his hmt hit fshb c5b c6b i1b i2b hmb hib hmshb hishb s0 s1 s2 s3 s4 si1 si2 si3 si4
        obtain ⟨fs, ft, c10, c11, j1, j2⟩ := h.get
        have hm : MemN _ _ _ _ _ := ⟨rfl, h.1⟩
        have hi := h.2
        have hms : MemN _ _ _ _ _ := ⟨rfl, fs.1⟩
        have his := fs.2
        have hmt : MemN _ _ _ _ _ := ⟨rfl, ft.1⟩
        have hit := ft.2
        obtain ⟨fshb, c5b, c6b, i1b, i2b⟩ := h'.get
        have hmb : MemN _ _ _ _ _ := ⟨rfl, h'.1⟩
        have hib := h'.2
        have hmshb : MemN _ _ _ _ _ := ⟨rfl, fshb.1⟩
        have hishb := fshb.2
        obtain ⟨s0, s1, s2, s3, s4, si1, si2, si3, si4⟩ := fs.get
        clear i21
        have i21 := v21.intss
        clear mm23
        have mm23 : MemN _ _ _ _ _ := ⟨rfl, Mem.of_get at23⟩
        clear i43
        have i43 := Ints.of_get at43
        clear u2
        have u2 := i2b.2 a (by omega)
        clear i81
        have i81 := Ints.of_get at81
        refine .c1 rfl rfl rfl rfl (.litR rfl sl_23_B ze_22_E rfl rfl (by omega) (by omega) rfl rfl) ?_
        rintro _ H114x3 ⟨g114x3, rfl, le114x3, ge114x3, at114x3⟩
        replace hbl := hbl.trans le114x3
        refine ⟨hbl, ?_⟩
        have nx_H114x3 := le114x3.1
        replace hle := hle.trans le114x3
        replace lst1 := lst1.le le114x3
        replace lst2 := lst2.le le114x3
        replace lst3 := lst3.le le114x3
        replace hf0 := hf0.le le114x3
        replace at35 := le114x3.2 _ _ at35
        replace at4008 := le114x3.2 _ _ at4008
        replace at81 := le114x3.2 _ _ at81
        replace at_L9 := le114x3.2 _ _ at_L9
        replace at113 := le114x3.2 _ _ at113
        replace at124x3 := le114x3.2 _ _ at124x3
        replace at125x6 := le114x3.2 _ _ at125x6
        replace lv_v21 := Keep.le lv_v21 le114x3
        replace v21 := bs_v21.keep lv_v21 (Nat.le_refl _)
        have lt_at114x3 := GHeap.lt_of_get at114x3
        replace h := base_h.mono hle
        replace h' := base_h'.mono hle
        clear fs ft c10 c11 j1 j2 hm hi hms his hmt hit fshb c5b c6b i1b i2b hmb hib hmshb hishb s0 s1 s2 s3 s4 si1 si2 si3 si4
        obtain ⟨fs, ft, c10, c11, j1, j2⟩ := h.get
        have hm : MemN _ _ _ _ _ := ⟨rfl, h.1⟩
        have hi := h.2
        have hms : MemN _ _ _ _ _ := ⟨rfl, fs.1⟩
        have his := fs.2
        have hmt : MemN _ _ _ _ _ := ⟨rfl, ft.1⟩
        have hit := ft.2
        obtain ⟨fshb, c5b, c6b, i1b, i2b⟩ := h'.get
        have hmb : MemN _ _ _ _ _ := ⟨rfl, h'.1⟩
        have hib := h'.2
        have hmshb : MemN _ _ _ _ _ := ⟨rfl, fshb.1⟩
        have hishb := fshb.2
        obtain ⟨s0, s1, s2, s3, s4, si1, si2, si3, si4⟩ := fs.get
        clear i21
        have i21 := v21.intss
        clear mm23
        have mm23 : MemN _ _ _ _ _ := ⟨rfl, Mem.of_get at23⟩
        clear i43
        have i43 := Ints.of_get at43
        clear u2
        have u2 := i2b.2 a (by omega)
        clear i81
        have i81 := Ints.of_get at81
        refine .callQ1 rfl rfl rfl rfl rfl @Try.call96 rfl (key_c (xs := lcT k a ((k.t.hom (k.ob.getD (k.s.tgt.getD a 0).toNat 0) y).getD i 0) e) (by assumption) (Ints.of_get (xs := lcT k a ((k.t.hom (k.ob.getD (k.s.tgt.getD a 0).toNat 0) y).getD i 0) e) (by assumption)) rfl (fun j hj => kb1.2 j hj) (by show 3 ≤ 1000; omega)) hbl ?_
        refine .m rfl rfl rfl rfl hbl (.lookupS mps_117_Ke zv_2_Pb rfl rfl (by assumption)) ?_
        refine .callQ1 rfl rfl rfl rfl rfl @Try.call96 rfl (key_c (xs := lcU k f a ((k.t.hom (k.ob.getD (k.s.tgt.getD a 0).toNat 0) y).getD i 0) e) (by assumption) (Ints.of_get (xs := lcU k f a ((k.t.hom (k.ob.getD (k.s.tgt.getD a 0).toNat 0) y).getD i 0) e) (by assumption)) rfl (fun j hj => kb2.2 j hj) (by show 3 ≤ 1000; omega)) (.refl _) ?_
        refine .m rfl rfl rfl rfl (.refl _) (.lookupS mps_117_Ke zv_2_Pb rfl rfl (by assumption)) ?_
        refine .call0 rfl rfl rfl rfl rfl @Try.call95 rfl (join_c (hK := hJ)) ?_
        rintro _ H128x6 ⟨⟨b128x6, rfl⟩, st128x6, js128x6, at128x6, hK128x6⟩
        have nx_H128x6 := st128x6.nx
        replace hle := hle.st st128x6 (fun k hk => ⟨by omega, trivial⟩)
        replace lst1 := lst1.st st128x6 (fun k hk ho => by simp only [out, and_true] at ho ⊢ <;> first | omega | (first | exact ho | exact ho.1 | exact ho.2 | exact ho.2.1 | exact ho.2.2 | exact ho.2.2.1 | exact ho.2.2.2))
        replace lst2 := lst2.st st128x6 (fun k hk ho => by simp only [out, and_true] at ho ⊢ <;> first | omega | (first | exact ho | exact ho.1 | exact ho.2 | exact ho.2.1 | exact ho.2.2 | exact ho.2.2.1 | exact ho.2.2.2))
        replace lst3 := lst3.st st128x6 (fun k hk ho => by simp only [out, and_true] at ho ⊢ <;> first | omega | (first | exact ho | exact ho.1 | exact ho.2 | exact ho.2.1 | exact ho.2.2 | exact ho.2.2.1 | exact ho.2.2.2))
        replace hf0 := hf0.st st128x6 (fun k hk ho => by simp only [out, and_true] at ho ⊢ <;> first | omega | (first | exact ho | exact ho.1 | exact ho.2 | exact ho.2.1 | exact ho.2.2 | exact ho.2.2.1 | exact ho.2.2.2))
        replace at35 := st128x6.same _ _ ⟨ne_g35_g43, trivial⟩ at35
        replace at4008 := st128x6.same _ _ ⟨ne_g23_g43, trivial⟩ at4008
        replace at81 := st128x6.same _ _ ⟨ne_g81_g43, trivial⟩ at81
        have ne_g113_g43 : g113 ≠ g43 := by omega
        replace at113 := st128x6.same _ _ ⟨ne_g113_g43, trivial⟩ at113
        have ne_g124x3_g43 : g124x3 ≠ g43 := by omega
        replace at124x3 := st128x6.same _ _ ⟨ne_g124x3_g43, trivial⟩ at124x3
        have ne_g125x6_g43 : g125x6 ≠ g43 := by omega
        replace at125x6 := st128x6.same _ _ ⟨ne_g125x6_g43, trivial⟩ at125x6
        have ne_g114x3_g43 : g114x3 ≠ g43 := by omega
        replace at114x3 := st128x6.same _ _ ⟨ne_g114x3_g43, trivial⟩ at114x3
        replace lv_v21 := Keep.st lv_v21 st128x6 (fun k hb hk => ⟨by omega, trivial⟩)
        replace v21 := bs_v21.keep lv_v21 (Nat.le_refl _)
        have lt_at128x6 := GHeap.lt_of_get at128x6
        replace h := base_h.mono hle
        replace h' := base_h'.mono hle
        clear fs ft c10 c11 j1 j2 hm hi hms his hmt hit fshb c5b c6b i1b i2b hmb hib hmshb hishb s0 s1 s2 s3 s4 si1 si2 si3 si4
        obtain ⟨fs, ft, c10, c11, j1, j2⟩ := h.get
        have hm : MemN _ _ _ _ _ := ⟨rfl, h.1⟩
        have hi := h.2
        have hms : MemN _ _ _ _ _ := ⟨rfl, fs.1⟩
        have his := fs.2
        have hmt : MemN _ _ _ _ _ := ⟨rfl, ft.1⟩
        have hit := ft.2
        obtain ⟨fshb, c5b, c6b, i1b, i2b⟩ := h'.get
        have hmb : MemN _ _ _ _ _ := ⟨rfl, h'.1⟩
        have hib := h'.2
        have hmshb : MemN _ _ _ _ _ := ⟨rfl, fshb.1⟩
        have hishb := fshb.2
        obtain ⟨s0, s1, s2, s3, s4, si1, si2, si3, si4⟩ := fs.get
        clear i21
        have i21 := v21.intss
        clear mm23
        have mm23 : MemN _ _ _ _ _ := ⟨rfl, Mem.of_get at23⟩
        clear i43
        have i43 := Ints.of_get at43
        clear u2
        have u2 := i2b.2 a (by omega)
        clear i81
        have i81 := Ints.of_get at81
        refine .done ?_
        exact ⟨_, ⟨rfl, rfl, rfl, rfl, rfl, rfl, rfl, rfl, rfl, rfl, rfl, rfl, rfl, rfl, rfl, rfl, rfl, rfl, rfl, rfl, rfl, rfl, rfl, rfl, trivial⟩, hf0, at128x6, (by rw [hp1, hp2] at hK128x6; exact hK128x6)⟩
       refine .c1 rfl rfl rfl rfl (.litR rfl sl_22_A ze_2_E rfl rfl (by omega) (by omega) rfl rfl) ?_
       rintro _ H124x4 ⟨g124x4, rfl, le124x4, ge124x4, at124x4⟩
       have hbl := le124x4
       refine ⟨hbl, ?_⟩
       have nx_H124x4 := le124x4.1
       replace hle := hle.trans le124x4
       replace lst1 := lst1.le le124x4
       replace lst2 := lst2.le le124x4
       replace lst3 := lst3.le le124x4
       replace hf0 := hf0.le le124x4
       replace at35 := le124x4.2 _ _ at35
       replace at4008 := le124x4.2 _ _ at4008
       replace at81 := le124x4.2 _ _ at81
       replace at_L9 := le124x4.2 _ _ at_L9
       replace lv_v21 := Keep.le lv_v21 le124x4
       replace v21 := bs_v21.keep lv_v21 (Nat.le_refl _)
       have lt_at124x4 := GHeap.lt_of_get at124x4
       replace h := base_h.mono hle
       replace h' := base_h'.mono hle
       clear fs ft c10 c11 j1 j2 hm hi hms his hmt hit fshb c5b c6b i1b i2b hmb hib hmshb hishb s0 s1 s2 s3 s4 si1 si2 si3 si4
       obtain ⟨fs, ft, c10, c11, j1, j2⟩ := h.get
       have hm : MemN _ _ _ _ _ := ⟨rfl, h.1⟩
       have hi := h.2
       have hms : MemN _ _ _ _ _ := ⟨rfl, fs.1⟩
       have his := fs.2
       have hmt : MemN _ _ _ _ _ := ⟨rfl, ft.1⟩
       have hit := ft.2
       obtain ⟨fshb, c5b, c6b, i1b, i2b⟩ := h'.get
       have hmb : MemN _ _ _ _ _ := ⟨rfl, h'.1⟩
       have hib := h'.2
       have hmshb : MemN _ _ _ _ _ := ⟨rfl, fshb.1⟩
       have hishb := fshb.2
       obtain ⟨s0, s1, s2, s3, s4, si1, si2, si3, si4⟩ := fs.get
       clear i21
       have i21 := v21.intss
       clear mm23
       have mm23 : MemN _ _ _ _ _ := ⟨rfl, Mem.of_get at23⟩
       clear i43
       have i43 := Ints.of_get at43
       clear u2
       have u2 := i2b.2 a (by omega)
       clear i81
       have i81 := Ints.of_get at81
       refine .orI ?_ ?_
       ·
        refine .c1 rfl rfl rfl rfl (.litR rfl sl_22_A ze_2_E rfl rfl (by omega) (by omega) rfl rfl) ?_
        rintro _ H113x2 ⟨g113x2, rfl, le113x2, ge113x2, at113x2⟩
        replace hbl := hbl.trans le113x2
        refine ⟨hbl, ?_⟩
        have nx_H113x2 := le113x2.1
        replace hle := hle.trans le113x2
        replace lst1 := lst1.le le113x2
        replace lst2 := lst2.le le113x2
        replace lst3 := lst3.le le113x2
        replace hf0 := hf0.le le113x2
        replace at35 := le113x2.2 _ _ at35
        replace at4008 := le113x2.2 _ _ at4008
        replace at81 := le113x2.2 _ _ at81
        replace at_L9 := le113x2.2 _ _ at_L9
        replace at124x4 := le113x2.2 _ _ at124x4
        replace lv_v21 := Keep.le lv_v21 le113x2
        replace v21 := bs_v21.keep lv_v21 (Nat.le_refl _)
        have lt_at113x2 := GHeap.lt_of_get at113x2
        replace h := base_h.mono hle
        replace h' := base_h'.mono hle
        clear fs ft c10 c11 j1 j2 hm hi hms his hmt hit fshb c5b c6b i1b i2b hmb hib hmshb hishb s0 s1 s2 s3 s4 si1 si2 si3 si4
        obtain ⟨fs, ft, c10, c11, j1, j2⟩ := h.get
        have hm : MemN _ _ _ _ _ := ⟨rfl, h.1⟩
        have hi := h.2
        have hms : MemN _ _ _ _ _ := ⟨rfl, fs.1⟩
        have his := fs.2
        have hmt : MemN _ _ _ _ _ := ⟨rfl, ft.1⟩
        have hit := ft.2
        obtain ⟨fshb, c5b, c6b, i1b, i2b⟩ := h'.get
        have hmb : MemN _ _ _ _ _ := ⟨rfl, h'.1⟩
        have hib := h'.2
        have hmshb : MemN _ _ _ _ _ := ⟨rfl, fshb.1⟩
        have hishb := fshb.2
        obtain ⟨s0, s1, s2, s3, s4, si1, si2, si3, si4⟩ := fs.get
        clear i21
        have i21 := v21.intss
        clear mm23
        have mm23 : MemN _ _ _ _ _ := ⟨rfl, Mem.of_get at23⟩
        clear i43
        have i43 := Ints.of_get at43
        clear u2
        have u2 := i2b.2 a (by omega)
        clear i81
        have i81 := Ints.of_get at81
        refine .orI ?_ ?_
        ·
         refine .c1 rfl rfl rfl rfl (.litR rfl sl_23_B ze_22_E rfl rfl (by omega) (by omega) rfl rfl) ?_
         rintro _ H114x4 ⟨g114x4, rfl, le114x4, ge114x4, at114x4⟩
         replace hbl := hbl.trans le114x4
         refine ⟨hbl, ?_⟩
         have nx_H114x4 := le114x4.1
         replace hle := hle.trans le114x4
         replace lst1 := lst1.le le114x4
         replace lst2 := lst2.le le114x4
         replace lst3 := lst3.le le114x4
         replace hf0 := hf0.le le114x4
         replace at35 := le114x4.2 _ _ at35
         replace at4008 := le114x4.2 _ _ at4008
         replace at81 := le114x4.2 _ _ at81
         replace at_L9 := le114x4.2 _ _ at_L9
         replace at124x4 := le114x4.2 _ _ at124x4
         replace at113x2 := le114x4.2 _ _ at113x2
         replace lv_v21 := Keep.le lv_v21 le114x4
         replace v21 := bs_v21.keep lv_v21 (Nat.le_refl _)
         have lt_at114x4 := GHeap.lt_of_get at114x4
         replace h := base_h.mono hle
         replace h' := base_h'.mono hle
         clear fs ft c10 c11 j1 j2 hm hi hms his hmt hit fshb c5b c6b i1b i2b hmb hib hmshb hishb s0 s1 s2 s3 s4 si1 si2 si3 si4
         obtain ⟨fs, ft, c10, c11, j1, j2⟩ := h.get
         have hm : MemN _ _ _ _ _ := ⟨rfl, h.1⟩
         have hi := h.2
         have hms : MemN _ _ _ _ _ := ⟨rfl, fs.1⟩
         have his := fs.2
         have hmt : MemN _ _ _ _ _ := ⟨rfl, ft.1⟩
         have hit := ft.2
         obtain ⟨fshb, c5b, c6b, i1b, i2b⟩ := h'.get
         have hmb : MemN _ _ _ _ _ := ⟨rfl, h'.1⟩
         have hib := h'.2
         have hmshb : MemN _ _ _ _ _ := ⟨rfl, fshb.1⟩
         have hishb := fshb.2
         obtain ⟨s0, s1, s2, s3, s4, si1, si2, si3, si4⟩ := fs.get
         clear i21
         have i21 := v21.intss
         clear mm23
         have mm23 : MemN _ _ _ _ _ := ⟨rfl, Mem.of_get at23⟩
         clear i43
         have i43 := Ints.of_get at43
         clear u2
         have u2 := i2b.2 a (by omega)
         clear i81
         have i81 := Ints.of_get at81
         refine .orI ?_ ?_
         ·
          refine .callQ1 rfl rfl rfl rfl rfl @Try.call96 rfl (key_c (xs := lcT k a ((k.t.hom (k.ob.getD (k.s.tgt.getD a 0).toNat 0) y).getD i 0) e) (by assumption) (Ints.of_get (xs := lcT k a ((k.t.hom (k.ob.getD (k.s.tgt.getD a 0).toNat 0) y).getD i 0) e) (by assumption)) rfl (fun j hj => kb1.2 j hj) (by show 3 ≤ 1000; omega)) hbl ?_
          refine .m rfl rfl rfl rfl hbl (.lookupS mps_117_Ke zv_2_Pb rfl rfl (by assumption)) ?_
          refine .c1 rfl rfl rfl rfl (.litR rfl sl_23_B ze_22_E rfl rfl (by omega) (by omega) rfl rfl) ?_
          rintro _ H125x7 ⟨g125x7, rfl, le125x7, ge125x7, at125x7⟩
          have hbl := le125x7
          refine ⟨hbl, ?_⟩
          have nx_H125x7 := le125x7.1
          replace hle := hle.trans le125x7
          replace lst1 := lst1.le le125x7
          replace lst2 := lst2.le le125x7
          replace lst3 := lst3.le le125x7
          replace hf0 := hf0.le le125x7
          replace at35 := le125x7.2 _ _ at35
          replace at4008 := le125x7.2 _ _ at4008
          replace at81 := le125x7.2 _ _ at81
          replace at_L9 := le125x7.2 _ _ at_L9
          replace at124x4 := le125x7.2 _ _ at124x4
          replace at113x2 := le125x7.2 _ _ at113x2
          replace at114x4 := le125x7.2 _ _ at114x4
          replace lv_v21 := Keep.le lv_v21 le125x7
          replace v21 := bs_v21.keep lv_v21 (Nat.le_refl _)
          have lt_at125x7 := GHeap.lt_of_get at125x7
          replace h := base_h.mono hle
          replace h' := base_h'.mono hle
          clear fs ft c10 c11 j1 j2 hm hi hms his hmt hit fshb c5b c6b i1b i2b hmb hib hmshb hishb s0 s1 s2 s3 s4 si1 si2 si3 si4
          obtain ⟨fs, ft, c10, c11, j1, j2⟩ := h.get
          have hm : MemN _ _ _ _ _ := ⟨rfl, h.1⟩
          have hi := h.2
          have hms : MemN _ _ _ _ _ := ⟨rfl, fs.1⟩
          have his := fs.2
          have hmt : MemN _ _ _ _ _ := ⟨rfl, ft.1⟩
          have hit := ft.2
          obtain ⟨fshb, c5b, c6b, i1b, i2b⟩ := h'.get
          have hmb : MemN _ _ _ _ _ := ⟨rfl, h'.1⟩
          have hib := h'.2
          have hmshb : MemN _ _ _ _ _ := ⟨rfl, fshb.1⟩
          have hishb := fshb.2
          obtain ⟨s0, s1, s2, s3, s4, si1, si2, si3, si4⟩ := fs.get
          clear i21
          have i21 := v21.intss
          clear mm23
          have mm23 : MemN _ _ _ _ _ := ⟨rfl, Mem.of_get at23⟩
          clear i43
          have i43 := Ints.of_get at43
          clear u2
          have u2 := i2b.2 a (by omega)
          clear i81
          have i81 := Ints.of_get at81
          refine .callQ1 rfl rfl rfl rfl rfl @Try.call96 rfl (key_c (xs := lcU k f a ((k.t.hom (k.ob.getD (k.s.tgt.getD a 0).toNat 0) y).getD i 0) e) (by assumption) (Ints.of_get (xs := lcU k f a ((k.t.hom (k.ob.getD (k.s.tgt.getD a 0).toNat 0) y).getD i 0) e) (by assumption)) rfl (fun j hj => kb2.2 j hj) (by show 3 ≤ 1000; omega)) hbl ?_
          refine .m rfl rfl rfl rfl hbl (.lookupS mps_117_Ke zv_2_Pb rfl rfl (by assumption)) ?_
          refine .call0 rfl rfl rfl rfl rfl @Try.call95 rfl (join_c (hK := hJ)) ?_
          rintro _ H128x7 ⟨⟨b128x7, rfl⟩, st128x7, js128x7, at128x7, hK128x7⟩
          have nx_H128x7 := st128x7.nx
          replace hle := hle.st st128x7 (fun k hk => ⟨by omega, trivial⟩)
          replace lst1 := lst1.st st128x7 (fun k hk ho => by simp only [out, and_true] at ho ⊢ <;> first | omega | (first | exact ho | exact ho.1 | exact ho.2 | exact ho.2.1 | exact ho.2.2 | exact ho.2.2.1 | exact ho.2.2.2))
          replace lst2 := lst2.st st128x7 (fun k hk ho => by simp only [out, and_true] at ho ⊢ <;> first | omega | (first | exact ho | exact ho.1 | exact ho.2 | exact ho.2.1 | exact ho.2.2 | exact ho.2.2.1 | exact ho.2.2.2))
          replace lst3 := lst3.st st128x7 (fun k hk ho => by simp only [out, and_true] at ho ⊢ <;> first | omega | (first | exact ho | exact ho.1 | exact ho.2 | exact ho.2.1 | exact ho.2.2 | exact ho.2.2.1 | exact ho.2.2.2))
          replace hf0 := hf0.st st128x7 (fun k hk ho => by simp only [out, and_true] at ho ⊢ <;> first | omega | (first | exact ho | exact ho.1 | exact ho.2 | exact ho.2.1 | exact ho.2.2 | exact ho.2.2.1 | exact ho.2.2.2))
          replace at35 := st128x7.same _ _ ⟨ne_g35_g43, trivial⟩ at35
          replace at4008 := st128x7.same _ _ ⟨ne_g23_g43, trivial⟩ at4008
          replace at81 := st128x7.same _ _ ⟨ne_g81_g43, trivial⟩ at81
          have ne_g124x4_g43 : g124x4 ≠ g43 := by omega
          replace at124x4 := st128x7.same _ _ ⟨ne_g124x4_g43, trivial⟩ at124x4
          have ne_g113x2_g43 : g113x2 ≠ g43 := by omega
          replace at113x2 := st128x7.same _ _ ⟨ne_g113x2_g43, trivial⟩ at113x2
          have ne_g114x4_g43 : g114x4 ≠ g43 := by omega
          replace at114x4 := st128x7.same _ _ ⟨ne_g114x4_g43, trivial⟩ at114x4
          have ne_g125x7_g43 : g125x7 ≠ g43 := by omega
          replace at125x7 := st128x7.same _ _ ⟨ne_g125x7_g43, trivial⟩ at125x7
          replace lv_v21 := Keep.st lv_v21 st128x7 (fun k hb hk => ⟨by omega, trivial⟩)
          replace v21 := bs_v21.keep lv_v21 (Nat.le_refl _)
          have lt_at128x7 := GHeap.lt_of_get at128x7
          replace h := base_h.mono hle
          replace h' := base_h'.mono hle
          clear fs ft c10 c11 j1 j2 hm hi hms his hmt hit fshb c5b c6b i1b i2b hmb hib hmshb hishb s0 s1 s2 s3 s4 si1 si2 si3 si4
          obtain ⟨fs, ft, c10, c11, j1, j2⟩ := h.get
          have hm : MemN _ _ _ _ _ := ⟨rfl, h.1⟩
          have hi := h.2
          have hms : MemN _ _ _ _ _ := ⟨rfl, fs.1⟩
          have his := fs.2
          have hmt : MemN _ _ _ _ _ := ⟨rfl, ft.1⟩
          have hit := ft.2
          obtain ⟨fshb, c5b, c6b, i1b, i2b⟩ := h'.get
          have hmb : MemN _ _ _ _ _ := ⟨rfl, h'.1⟩
          have hib := h'.2
          have hmshb : MemN _ _ _ _ _ := ⟨rfl, fshb.1⟩
          have hishb := fshb.2
          obtain ⟨s0, s1, s2, s3, s4, si1, si2, si3, si4⟩ := fs.get
          clear i21
          have i21 := v21.intss
          clear mm23
          have mm23 : MemN _ _ _ _ _ := ⟨rfl, Mem.of_get at23⟩
          clear i43
          have i43 := Ints.of_get at43
          clear u2
          have u2 := i2b.2 a (by omega)
          clear i81
          have i81 := Ints.of_get at81
          refine .done ?_
          exact ⟨_, ⟨rfl, rfl, rfl, rfl, rfl, rfl, rfl, rfl, rfl, rfl, rfl, rfl, rfl, rfl, rfl, rfl, rfl, rfl, rfl, rfl, rfl, rfl, rfl, rfl, trivial⟩, hf0, at128x7, (by rw [hp1, hp2] at hK128x7; exact hK128x7)⟩
         refine .c1 rfl rfl rfl rfl (.litR rfl sl_23_B ze_22_E rfl rfl (by omega) (by omega) rfl rfl) ?_
         rintro _ H125x8 ⟨g125x8, rfl, le125x8, ge125x8, at125x8⟩
         replace hbl := hbl.trans le125x8
         refine ⟨hbl, ?_⟩
         have nx_H125x8 := le125x8.1
         replace hle := hle.trans le125x8
         replace lst1 := lst1.le le125x8
         replace lst2 := lst2.le le125x8
         replace lst3 := lst3.le le125x8
         replace hf0 := hf0.le le125x8
         replace at35 := le125x8.2 _ _ at35
         replace at4008 := le125x8.2 _ _ at4008
         replace at81 := le125x8.2 _ _ at81
         replace at_L9 := le125x8.2 _ _ at_L9
         replace at124x4 := le125x8.2 _ _ at124x4
         replace at113x2 := le125x8.2 _ _ at113x2
         replace at114x4 := le125x8.2 _ _ at114x4
         replace lv_v21 := Keep.le lv_v21 le125x8
         replace v21 := bs_v21.keep lv_v21 (Nat.le_refl _)
         have lt_at125x8 := GHeap.lt_of_get at125x8
         replace h := base_h.mono hle
         replace h' := base_h'.mono hle
         clear fs ft c10 c11 j1 j2 hm hi hms his hmt hit fshb c5b c6b i1b i2b hmb hib hmshb hishb s0 s1 s2 s3 s4 si1 si2 si3 si4
         obtain ⟨fs, ft, c10, c11, j1, j2⟩ := h.get
         have hm : MemN _ _ _ _ _ := ⟨rfl, h.1⟩
         have hi := h.2
         have hms : MemN _ _ _ _ _ := ⟨rfl, fs.1⟩
         have his := fs.2
         have hmt : MemN _ _ _ _ _ := ⟨rfl, ft.1⟩
         have hit := ft.2
         obtain ⟨fshb, c5b, c6b, i1b, i2b⟩ := h'.get
         have hmb : MemN _ _ _ _ _ := ⟨rfl, h'.1⟩
         have hib := h'.2
         have hmshb : MemN _ _ _ _ _ := ⟨rfl, fshb.1⟩
         have hishb := fshb.2
         obtain ⟨s0, s1, s2, s3, s4, si1, si2, si3, si4⟩ := fs.get
         clear i21
         have i21 := v21.intss
         clear mm23
         have mm23 : MemN _ _ _ _ _ := ⟨rfl, Mem.of_get at23⟩
         clear i43
         have i43 := Ints.of_get at43
         clear u2
         have u2 := i2b.2 a (by omega)
         clear i81
         have i81 := Ints.of_get at81
         refine .callQ1 rfl rfl rfl rfl rfl @Try.call96 rfl (key_c (xs := lcT k a ((k.t.hom (k.ob.getD (k.s.tgt.getD a 0).toNat 0) y).getD i 0) e) (by assumption) (Ints.of_get (xs := lcT k a ((k.t.hom (k.ob.getD (k.s.tgt.getD a 0).toNat 0) y).getD i 0) e) (by assumption)) rfl (fun j hj => kb1.2 j hj) (by show 3 ≤ 1000; omega)) hbl ?_
         refine .m rfl rfl rfl rfl hbl (.lookupS mps_117_Ke zv_2_Pb rfl rfl (by assumption)) ?_
         refine .callQ1 rfl rfl rfl rfl rfl @Try.call96 rfl (key_c (xs := lcU k f a ((k.t.hom (k.ob.getD (k.s.tgt.getD a 0).toNat 0) y).getD i 0) e) (by assumption) (Ints.of_get (xs := lcU k f a ((k.t.hom (k.ob.getD (k.s.tgt.getD a 0).toNat 0) y).getD i 0) e) (by assumption)) rfl (fun j hj => kb2.2 j hj) (by show 3 ≤ 1000; omega)) (.refl _) ?_
         refine .m rfl rfl rfl rfl (.refl _) (.lookupS mps_117_Ke zv_2_Pb rfl rfl (by assumption)) ?_
         refine .call0 rfl rfl rfl rfl rfl @Try.call95 rfl (join_c (hK := hJ)) ?_
         rintro _ H128x8 ⟨⟨b128x8, rfl⟩, st128x8, js128x8, at128x8, hK128x8⟩
         have nx_H128x8 := st128x8.nx
         replace hle := hle.st st128x8 (fun k hk => ⟨by omega, trivial⟩)
         replace lst1 := lst1.st st128x8 (fun k hk ho => by simp only [out, and_true] at ho ⊢ <;> first | omega | (first | exact ho | exact ho.1 | exact ho.2 | exact ho.2.1 | exact ho.2.2 | exact ho.2.2.1 | exact ho.2.2.2))
         replace lst2 := lst2.st st128x8 (fun k hk ho => by simp only [out, and_true] at ho ⊢ <;> first | omega | (first | exact ho | exact ho.1 | exact ho.2 | exact ho.2.1 | exact ho.2.2 | exact ho.2.2.1 | exact ho.2.2.2))
         replace lst3 := lst3.st st128x8 (fun k hk ho => by simp only [out, and_true] at ho ⊢ <;> first | omega | (first | exact ho | exact ho.1 | exact ho.2 | exact ho.2.1 | exact ho.2.2 | exact ho.2.2.1 | exact ho.2.2.2))
         replace hf0 := hf0.st st128x8 (fun k hk ho => by simp only [out, and_true] at ho ⊢ <;> first | omega | (first | exact ho | exact ho.1 | exact ho.2 | exact ho.2.1 | exact ho.2.2 | exact ho.2.2.1 | exact ho.2.2.2))
         replace at35 := st128x8.same _ _ ⟨ne_g35_g43, trivial⟩ at35
         replace at4008 := st128x8.same _ _ ⟨ne_g23_g43, trivial⟩ at4008
         replace at81 := st128x8.same _ _ ⟨ne_g81_g43, trivial⟩ at81
         have ne_g124x4_g43 : g124x4 ≠ g43 := by omega
         replace at124x4 := st128x8.same _ _ ⟨ne_g124x4_g43, trivial⟩ at124x4
         have ne_g113x2_g43 : g113x2 ≠ g43 := by omega
         replace at113x2 := st128x8.same _ _ ⟨ne_g113x2_g43, trivial⟩ at113x2
         have ne_g114x4_g43 : g114x4 ≠ g43 := by omega
         replace at114x4 := st128x8.same _ _ ⟨ne_g114x4_g43, trivial⟩ at114x4
         have ne_g125x8_g43 : g125x8 ≠ g43 := by omega
         replace at125x8 := st128x8.same _ _ ⟨ne_g125x8_g43, trivial⟩ at125x8
         replace lv_v21 := Keep.st lv_v21 st128x8 (fun k hb hk => ⟨by omega, trivial⟩)
         replace v21 := bs_v21.keep lv_v21 (Nat.le_refl _)
         have lt_at128x8 := GHeap.lt_of_get at128x8
         replace h := base_h.mono hle
         replace h' := base_h'.mono hle
         clear fs ft c10 c11 j1 j2 hm hi hms his hmt hit fshb c5b c6b i1b i2b hmb hib hmshb hishb s0 s1 s2 s3 s4 si1 si2 si3 si4
         obtain ⟨fs, ft, c10, c11, j1, j2⟩ := h.get
         have hm : MemN _ _ _ _ _ := ⟨rfl, h.1⟩
         have hi := h.2
         have hms : MemN _ _ _ _ _ := ⟨rfl, fs.1⟩
         have his := fs.2
         have hmt : MemN _ _ _ _ _ := ⟨rfl, ft.1⟩
         have hit := ft.2
         obtain ⟨fshb, c5b, c6b, i1b, i2b⟩ := h'.get
         have hmb : MemN _ _ _ _ _ := ⟨rfl, h'.1⟩
         have hib := h'.2
         have hmshb : MemN _ _ _ _ _ := ⟨rfl, fshb.1⟩
         have hishb := fshb.2
         obtain ⟨s0, s1, s2, s3, s4, si1, si2, si3, si4⟩ := fs.get
         clear i21
         have i21 := v21.intss
         clear mm23
         have mm23 : MemN _ _ _ _ _ := ⟨rfl, Mem.of_get at23⟩
         clear i43
         have i43 := Ints.of_get at43
         clear u2
         have u2 := i2b.2 a (by omega)
         clear i81
         have i81 := Ints.of_get at81
         refine .done ?_
         exact ⟨_, ⟨rfl, rfl, rfl, rfl, rfl, rfl, rfl, rfl, rfl, rfl, rfl, rfl, rfl, rfl, rfl, rfl, rfl, rfl, rfl, rfl, rfl, rfl, rfl, rfl, trivial⟩, hf0, at128x8, (by rw [hp1, hp2] at hK128x8; exact hK128x8)⟩
        refine .c1 rfl rfl rfl rfl (.litR rfl sl_23_B ze_22_E rfl rfl (by omega) (by omega) rfl rfl) ?_
        rintro _ H125x9 ⟨g125x9, rfl, le125x9, ge125x9, at125x9⟩
        replace hbl := hbl.trans le125x9
        refine ⟨hbl, ?_⟩
        have nx_H125x9 := le125x9.1
        replace hle := hle.trans le125x9
        replace lst1 := lst1.le le125x9
        replace lst2 := lst2.le le125x9
        replace lst3 := lst3.le le125x9
        replace hf0 := hf0.le le125x9
        replace at35 := le125x9.2 _ _ at35
        replace at4008 := le125x9.2 _ _ at4008
        replace at81 := le125x9.2 _ _ at81
        replace at_L9 := le125x9.2 _ _ at_L9
        replace at124x4 := le125x9.2 _ _ at124x4
        replace at113x2 := le125x9.2 _ _ at113x2
        replace lv_v21 := Keep.le lv_v21 le125x9
        replace v21 := bs_v21.keep lv_v21 (Nat.le_refl _)
        have lt_at125x9 := GHeap.lt_of_get at125x9
        replace h := base_h.mono hle
        replace h' := base_h'.mono hle
        clear fs ft c10 c11 j1 j2 hm hi hms his hmt hit fshb c5b c6b i1b i2b hmb hib hmshb hishb s0 s1 s2 s3 s4 si1 si2 si3 si4
        obtain ⟨fs, ft, c10, c11, j1, j2⟩ := h.get
        have hm : MemN _ _ _ _ _ := ⟨rfl, h.1⟩
        have hi := h.2
        have hms : MemN _ _ _ _ _ := ⟨rfl, fs.1⟩
        have his := fs.2
        have hmt : MemN _ _ _ _ _ := ⟨rfl, ft.1⟩
        have hit := ft.2
        obtain ⟨fshb, c5b, c6b, i1b, i2b⟩ := h'.get
        have hmb : MemN _ _ _ _ _ := ⟨rfl, h'.1⟩
        have hib := h'.2
        have hmshb : MemN _ _ _ _ _ := ⟨rfl, fshb.1⟩
        have hishb := fshb.2
        obtain ⟨s0, s1, s2, s3, s4, si1, si2, si3, si4⟩ := fs.get
        clear i21
        have i21 := v21.intss
        clear mm23
        have mm23 : MemN _ _ _ _ _ := ⟨rfl, Mem.of_get at23⟩
        clear i43
        have i43 := Ints.of_get at43
        clear u2
        have u2 := i2b.2 a (by omega)
        clear i81
        have i81 := Ints.of_get at81
        refine .c1 rfl rfl rfl rfl (.litR rfl sl_23_B ze_22_E rfl rfl (by omega) (by omega) rfl rfl) ?_
        rintro _ H114x5 ⟨g114x5, rfl, le114x5, ge114x5, at114x5⟩
        replace hbl := hbl.trans le114x5
        refine ⟨hbl, ?_⟩
        have nx_H114x5 := le114x5.1
        replace hle := hle.trans le114x5
        replace lst1 := lst1.le le114x5
        replace lst2 := lst2.le le114x5
        replace lst3 := lst3.le le114x5
        replace hf0 := hf0.le le114x5
        replace at35 := le114x5.2 _ _ at35
        replace at4008 := le114x5.2 _ _ at4008
        replace at81 := le114x5.2 _ _ at81
        replace at_L9 := le114x5.2 _ _ at_L9
        replace at124x4 := le114x5.2 _ _ at124x4
        replace at113x2 := le114x5.2 _ _ at113x2
        replace at125x9 := le114x5.2 _ _ at125x9
        replace lv_v21 := Keep.le lv_v21 le114x5
        replace v21 := bs_v21.keep lv_v21 (Nat.le_refl _)
        have lt_at114x5 := GHeap.lt_of_get at114x5
        replace h := base_h.mono hle
        replace h' := base_h'.mono hle
        clear fs ft c10 c11 j1 j2 hm hi hms his hmt hit fshb c5b c6b i1b i2b hmb hib hmshb hishb s0 s1 s2 s3 s4 si1 si2 si3 si4
        obtain ⟨fs, ft, c10, c11, j1, j2⟩ := h.get
        have hm : MemN _ _ _ _ _ := ⟨rfl, h.1⟩
        have hi := h.2
        have hms : MemN _ _ _ _ _ := ⟨rfl, fs.1⟩
        have his := fs.2
        have hmt : MemN _ _ _ _ _ := ⟨rfl, ft.1⟩
        have hit := ft.2
        obtain ⟨fshb, c5b, c6b, i1b, i2b⟩ := h'.get
        have hmb : MemN _ _ _ _ _ := ⟨rfl, h'.1⟩
        have hib := h'.2
        have hmshb : MemN _ _ _ _ _ := ⟨rfl, fshb.1⟩
        have hishb := fshb.2
        obtain ⟨s0, s1, s2, s3, s4, si1, si2, si3, si4⟩ := fs.get
        clear i21
        have i21 := v21.intss
        clear mm23
        have mm23 : MemN _ _ _ _ _ := ⟨rfl, Mem.of_get at23⟩
        clear i43
        have i43 := Ints.of_get at43
        clear u2
        have u2 := i2b.2 a (by omega)
        clear i81
        have i81 := Ints.of_get at81
        refine .callQ1 rfl rfl rfl rfl rfl @Try.call96 rfl (key_c (xs := lcT k a ((k.t.hom (k.ob.getD (k.s.tgt.getD a 0).toNat 0) y).getD i 0) e) (by assumption) (Ints.of_get (xs := lcT k a ((k.t.hom (k.ob.getD (k.s.tgt.getD a 0).toNat 0) y).getD i 0) e) (by assumption)) rfl (fun j hj => kb1.2 j hj) (by show 3 ≤ 1000; omega)) hbl ?_
        refine .m rfl rfl rfl rfl hbl (.lookupS mps_117_Ke zv_2_Pb rfl rfl (by assumption)) ?_
        refine .callQ1 rfl rfl rfl rfl rfl @Try.call96 rfl (key_c (xs := lcU k f a ((k.t.hom (k.ob.getD (k.s.tgt.getD a 0).toNat 0) y).getD i 0) e) (by assumption) (Ints.of_get (xs := lcU k f a ((k.t.hom (k.ob.getD (k.s.tgt.getD a 0).toNat 0) y).getD i 0) e) (by assumption)) rfl (fun j hj => kb2.2 j hj) (by show 3 ≤ 1000; omega)) (.refl _) ?_
        refine .m rfl rfl rfl rfl (.refl _) (.lookupS mps_117_Ke zv_2_Pb rfl rfl (by assumption)) ?_
        refine .call0 rfl rfl rfl rfl rfl @Try.call95 rfl (join_c (hK := hJ)) ?_
        rintro _ H128x9 ⟨⟨b128x9, rfl⟩, st128x9, js128x9, at128x9, hK128x9⟩
        have nx_H128x9 := st128x9.nx
        replace hle := hle.st st128x9 (fun k hk => ⟨by omega, trivial⟩)
        replace lst1 := lst1.st st128x9 (fun k hk ho => by simp only [out, and_true] at ho ⊢ <;> first | omega | (first | exact ho | exact ho.1 | exact ho.2 | exact ho.2.1 | exact ho.2.2 | exact ho.2.2.1 | exact ho.2.2.2))
        replace lst2 := lst2.st st128x9 (fun k hk ho => by simp only [out, and_true] at ho ⊢ <;> first | omega | (first | exact ho | exact ho.1 | exact ho.2 | exact ho.2.1 | exact ho.2.2 | exact ho.2.2.1 | exact ho.2.2.2))
        replace lst3 := lst3.st st128x9 (fun k hk ho => by simp only [out, and_true] at ho ⊢ <;> first | omega | (first | exact ho | exact ho.1 | exact ho.2 | exact ho.2.1 | exact ho.2.2 | exact ho.2.2.1 | exact ho.2.2.2))
        replace hf0 := hf0.st st128x9 (fun k hk ho => by simp only [out, and_true] at ho ⊢ <;> first | omega | (first | exact ho | exact ho.1 | exact ho.2 | exact ho.2.1 | exact ho.2.2 | exact ho.2.2.1 | exact ho.2.2.2))
        replace at35 := st128x9.same _ _ ⟨ne_g35_g43, trivial⟩ at35
        replace at4008 := st128x9.same _ _ ⟨ne_g23_g43, trivial⟩ at4008
        replace at81 := st128x9.same _ _ ⟨ne_g81_g43, trivial⟩ at81
        have ne_g124x4_g43 : g124x4 ≠ g43 := by omega
        replace at124x4 := st128x9.same _ _ ⟨ne_g124x4_g43, trivial⟩ at124x4
        have ne_g113x2_g43 : g113x2 ≠ g43 := by omega
        replace at113x2 := st128x9.same _ _ ⟨ne_g113x2_g43, trivial⟩ at113x2
        have ne_g125x9_g43 : g125x9 ≠ g43 := by omega
        replace at125x9 := st128x9.same _ _ ⟨ne_g125x9_g43, trivial⟩ at125x9
        have ne_g114x5_g43 : g114x5 ≠ g43 := by omega
        replace at114x5 := st128x9.same _ _ ⟨ne_g114x5_g43, trivial⟩ at114x5
        replace lv_v21 := Keep.st lv_v21 st128x9 (fun k hb hk => ⟨by omega, trivial⟩)
        replace v21 := bs_v21.keep lv_v21 (Nat.le_refl _)
        have lt_at128x9 := GHeap.lt_of_get at128x9
        replace h := base_h.mono hle
        replace h' := base_h'.mono hle
        clear fs ft c10 c11 j1 j2 hm hi hms his hmt hit fshb c5b c6b i1b i2b hmb hib hmshb hishb s0 s1 s2 s3 s4 si1 si2 si3 si4
        obtain ⟨fs, ft, c10, c11, j1, j2⟩ := h.get
        have hm : MemN _ _ _ _ _ := ⟨rfl, h.1⟩
        have hi := h.2
        have hms : MemN _ _ _ _ _ := ⟨rfl, fs.1⟩
        have his := fs.2
        have hmt : MemN _ _ _ _ _ := ⟨rfl, ft.1⟩
        have hit := ft.2
        obtain ⟨fshb, c5b, c6b, i1b, i2b⟩ := h'.get
        have hmb : MemN _ _ _ _ _ := ⟨rfl, h'.1⟩
        have hib := h'.2
        have hmshb : MemN _ _ _ _ _ := ⟨rfl, fshb.1⟩
        have hishb := fshb.2
        obtain ⟨s0, s1, s2, s3, s4, si1, si2, si3, si4⟩ := fs.get
        clear i21
        have i21 := v21.intss
        clear mm23
        have mm23 : MemN _ _ _ _ _ := ⟨rfl, Mem.of_get at23⟩
        clear i43
        have i43 := Ints.of_get at43
        clear u2
        have u2 := i2b.2 a (by omega)
        clear i81
        have i81 := Ints.of_get at81
        refine .done ?_
        exact ⟨_, ⟨rfl, rfl, rfl, rfl, rfl, rfl, rfl, rfl, rfl, rfl, rfl, rfl, rfl, rfl, rfl, rfl, rfl, rfl, rfl, rfl, rfl, rfl, rfl, rfl, trivial⟩, hf0, at128x9, (by rw [hp1, hp2] at hK128x9; exact hK128x9)⟩
       refine .c1 rfl rfl rfl rfl (.litR rfl sl_23_B ze_22_E rfl rfl (by omega) (by omega) rfl rfl) ?_
       rintro _ H125x10 ⟨g125x10, rfl, le125x10, ge125x10, at125x10⟩
       replace hbl := hbl.trans le125x10
       refine ⟨hbl, ?_⟩
       have nx_H125x10 := le125x10.1
       replace hle := hle.trans le125x10
       replace lst1 := lst1.le le125x10
       replace lst2 := lst2.le le125x10
       replace lst3 := lst3.le le125x10
       replace hf0 := hf0.le le125x10
       replace at35 := le125x10.2 _ _ at35
       replace at4008 := le125x10.2 _ _ at4008
       replace at81 := le125x10.2 _ _ at81
       replace at_L9 := le125x10.2 _ _ at_L9
       replace at124x4 := le125x10.2 _ _ at124x4
       replace lv_v21 := Keep.le lv_v21 le125x10
       replace v21 := bs_v21.keep lv_v21 (Nat.le_refl _)
       have lt_at125x10 := GHeap.lt_of_get at125x10
       replace h := base_h.mono hle
       replace h' := base_h'.mono hle
       clear fs ft c10 c11 j1 j2 hm hi hms his hmt hit fshb c5b c6b i1b i2b hmb hib hmshb hishb s0 s1 s2 s3 s4 si1 si2 si3 si4
       obtain ⟨fs, ft, c10, c11, j1, j2⟩ := h.get
       have hm : MemN _ _ _ _ _ := ⟨rfl, h.1⟩
       have hi := h.2
       have hms : MemN _ _ _ _ _ := ⟨rfl, fs.1⟩
       have his := fs.2
       have hmt : MemN _ _ _ _ _ := ⟨rfl, ft.1⟩
       have hit := ft.2
       obtain ⟨fshb, c5b, c6b, i1b, i2b⟩ := h'.get
       have hmb : MemN _ _ _ _ _ := ⟨rfl, h'.1⟩
       have hib := h'.2
       have hmshb : MemN _ _ _ _ _ := ⟨rfl, fshb.1⟩
       have hishb := fshb.2
       obtain ⟨s0, s1, s2, s3, s4, si1, si2, si3, si4⟩ := fs.get
       clear i21
       have i21 := v21.intss
       clear mm23
       have mm23 : MemN _ _ _ _ _ := ⟨rfl, Mem.of_get at23⟩
       clear i43
       have i43 := Ints.of_get at43
       clear u2
       have u2 := i2b.2 a (by omega)
       clear i81
       have i81 := Ints.of_get at81
       refine .c1 rfl rfl rfl rfl (.litR rfl sl_22_A ze_2_E rfl rfl (by omega) (by omega) rfl rfl) ?_
       rintro _ H113x3 ⟨g113x3, rfl, le113x3, ge113x3, at113x3⟩
       replace hbl := hbl.trans le113x3
       refine ⟨hbl, ?_⟩
       have nx_H113x3 := le113x3.1
       replace hle := hle.trans le113x3
       replace lst1 := lst1.le le113x3
       replace lst2 := lst2.le le113x3
       replace lst3 := lst3.le le113x3
       replace hf0 := hf0.le le113x3
       replace at35 := le113x3.2 _ _ at35
       replace at4008 := le113x3.2 _ _ at4008
       replace at81 := le113x3.2 _ _ at81
       replace at_L9 := le113x3.2 _ _ at_L9
       replace at124x4 := le113x3.2 _ _ at124x4
       replace at125x10 := le113x3.2 _ _ at125x10
       replace lv_v21 := Keep.le lv_v21 le113x3
       replace v21 := bs_v21.keep lv_v21 (Nat.le_refl _)
       have lt_at113x3 := GHeap.lt_of_get at113x3
       replace h := base_h.mono hle
       replace h' := base_h'.mono hle
       clear fs ft c10 c11 j1 j2 hm hi hms his hmt hit fshb c5b c6b i1b i2b hmb hib hmshb hishb s0 s1 s2 s3 s4 si1 si2 si3 si4
       obtain ⟨fs, ft, c10, c11, j1, j2⟩ := h.get
       have hm : MemN _ _ _ _ _ := ⟨rfl, h.1⟩
       have hi := h.2
       have hms : MemN _ _ _ _ _ := ⟨rfl, fs.1⟩
       have his := fs.2
       have hmt : MemN _ _ _ _ _ := ⟨rfl, ft.1⟩
       have hit := ft.2
       obtain ⟨fshb, c5b, c6b, i1b, i2b⟩ := h'.get
       have hmb : MemN _ _ _ _ _ := ⟨rfl, h'.1⟩
       have hib := h'.2
       have hmshb : MemN _ _ _ _ _ := ⟨rfl, fshb.1⟩
       have hishb := fshb.2
       obtain ⟨s0, s1, s2, s3, s4, si1, si2, si3, si4⟩ := fs.get
       clear i21
       have i21 := v21.intss
       clear mm23
       have mm23 : MemN _ _ _ _ _ := ⟨rfl, Mem.of_get at23⟩
       clear i43
       have i43 := Ints.of_get at43
       clear u2
       have u2 := i2b.2 a (by omega)
       clear i81
       have i81 := Ints.of_get at81
       refine .c1 rfl rfl rfl rfl (.litR rfl sl_23_B ze_22_E rfl rfl (by omega) (by omega) rfl rfl) ?_
       rintro _ H114x6 ⟨g114x6, rfl, le114x6, ge114x6, at114x6⟩
       replace hbl := hbl.trans le114x6
       refine ⟨hbl, ?_⟩
       have nx_H114x6 := le114x6.1
       replace hle := hle.trans le114x6
       replace lst1 := lst1.le le114x6
       replace lst2 := lst2.le le114x6
       replace lst3 := lst3.le le114x6
       replace hf0 := hf0.le le114x6
       replace at35 := le114x6.2 _ _ at35
       replace at4008 := le114x6.2 _ _ at4008
       replace at81 := le114x6.2 _ _ at81
       replace at_L9 := le114x6.2 _ _ at_L9
       replace at124x4 := le114x6.2 _ _ at124x4
       replace at125x10 := le114x6.2 _ _ at125x10
       replace at113x3 := le114x6.2 _ _ at113x3
       replace lv_v21 := Keep.le lv_v21 le114x6
       replace v21 := bs_v21.keep lv_v21 (Nat.le_refl _)
       have lt_at114x6 := GHeap.lt_of_get at114x6
       replace h := base_h.mono hle
       replace h' := base_h'.mono hle
       clear fs ft c10 c11 j1 j2 hm hi hms his hmt hit fshb c5b c6b i1b i2b hmb hib hmshb hishb s0 s1 s2 s3 s4 si1 si2 si3 si4
       obtain ⟨fs, ft, c10, c11, j1, j2⟩ := h.get
       have hm : MemN _ _ _ _ _ := ⟨rfl, h.1⟩
       have hi := h.2
       have hms : MemN _ _ _ _ _ := ⟨rfl, fs.1⟩
       have his := fs.2
       have hmt : MemN _ _ _ _ _ := ⟨rfl, ft.1⟩
       have hit := ft.2
       obtain ⟨fshb, c5b, c6b, i1b, i2b⟩ := h'.get
       have hmb : MemN _ _ _ _ _ := ⟨rfl, h'.1⟩
       have hib := h'.2
       have hmshb : MemN _ _ _ _ _ := ⟨rfl, fshb.1⟩
       have hishb := fshb.2
       obtain ⟨s0, s1, s2, s3, s4, si1, si2, si3, si4⟩ := fs.get
       clear i21
       have i21 := v21.intss
       clear mm23
       have mm23 : MemN _ _ _ _ _ := ⟨rfl, Mem.of_get at23⟩
       clear i43
       have i43 := Ints.of_get at43
       clear u2
       have u2 := i2b.2 a (by omega)
       clear i81
       have i81 := Ints.of_get at81
       refine .callQ1 rfl rfl rfl rfl rfl @Try.call96 rfl (key_c (xs := lcT k a ((k.t.hom (k.ob.getD (k.s.tgt.getD a 0).toNat 0) y).getD i 0) e) (by assumption) (Ints.of_get (xs := lcT k a ((k.t.hom (k.ob.getD (k.s.tgt.getD a 0).toNat 0) y).getD i 0) e) (by assumption)) rfl (fun j hj => kb1.2 j hj) (by show 3 ≤ 1000; omega)) hbl ?_
       refine .m rfl rfl rfl rfl hbl (.lookupS mps_117_Ke zv_2_Pb rfl rfl (by assumption)) ?_
       refine .callQ1 rfl rfl rfl rfl rfl @Try.call96 rfl (key_c (xs := lcU k f a ((k.t.hom (k.ob.getD (k.s.tgt.getD a 0).toNat 0) y).getD i 0) e) (by assumption) (Ints.of_get (xs := lcU k f a ((k.t.hom (k.ob.getD (k.s.tgt.getD a 0).toNat 0) y).getD i 0) e) (by assumption)) rfl (fun j hj => kb2.2 j hj) (by show 3 ≤ 1000; omega)) (.refl _) ?_
       refine .m rfl rfl rfl rfl (.refl _) (.lookupS mps_117_Ke zv_2_Pb rfl rfl (by assumption)) ?_
       refine .call0 rfl rfl rfl rfl rfl @Try.call95 rfl (join_c (hK := hJ)) ?_
       rintro _ H128x10 ⟨⟨b128x10, rfl⟩, st128x10, js128x10, at128x10, hK128x10⟩
       have nx_H128x10 := st128x10.nx
       replace hle := hle.st st128x10 (fun k hk => ⟨by omega, trivial⟩)
       replace lst1 := lst1.st st128x10 (fun k hk ho => by simp only [out, and_true] at ho ⊢ <;> first | omega | (first | exact ho | exact ho.1 | exact ho.2 | exact ho.2.1 | exact ho.2.2 | exact ho.2.2.1 | exact ho.2.2.2))
       replace lst2 := lst2.st st128x10 (fun k hk ho => by simp only [out, and_true] at ho ⊢ <;> first | omega | (first | exact ho | exact ho.1 | exact ho.2 | exact ho.2.1 | exact ho.2.2 | exact ho.2.2.1 | exact ho.2.2.2))
       replace lst3 := lst3.st st128x10 (fun k hk ho => by simp only [out, and_true] at ho ⊢ <;> first | omega | (first | exact ho | exact ho.1 | exact ho.2 | exact ho.2.1 | exact ho.2.2 | exact ho.2.2.1 | exact ho.2.2.2))
       replace hf0 := hf0.st st128x10 (fun k hk ho => by simp only [out, and_true] at ho ⊢ <;> first | omega | (first | exact ho | exact ho.1 | exact ho.2 | exact ho.2.1 | exact ho.2.2 | exact ho.2.2.1 | exact ho.2.2.2))
       replace at35 := st128x10.same _ _ ⟨ne_g35_g43, trivial⟩ at35
       replace at4008 := st128x10.same _ _ ⟨ne_g23_g43, trivial⟩ at4008
       replace at81 := st128x10.same _ _ ⟨ne_g81_g43, trivial⟩ at81
       have ne_g124x4_g43 : g124x4 ≠ g43 := by omega
       replace at124x4 := st128x10.same _ _ ⟨ne_g124x4_g43, trivial⟩ at124x4
       have ne_g125x10_g43 : g125x10 ≠ g43 := by omega
       replace at125x10 := st128x10.same _ _ ⟨ne_g125x10_g43, trivial⟩ at125x10
       have ne_g113x3_g43 : g113x3 ≠ g43 := by omega
       replace at113x3 := st128x10.same _ _ ⟨ne_g113x3_g43, trivial⟩ at113x3
       have ne_g114x6_g43 : g114x6 ≠ g43 := by omega
       replace at114x6 := st128x10.same _ _ ⟨ne_g114x6_g43, trivial⟩ at114x6
       replace lv_v21 := Keep.st lv_v21 st128x10 (fun k hb hk => ⟨by omega, trivial⟩)
       replace v21 := bs_v21.keep lv_v21 (Nat.le_refl _)
       have lt_at128x10 := GHeap.lt_of_get at128x10
       replace h := base_h.mono hle
       replace h' := base_h'.mono hle
       clear fs ft c10 c11 j1 j2 hm hi hms his hmt hit fshb c5b c6b i1b i2b hmb hib hmshb hishb s0 s1 s2 s3 s4 si1 si2 si3 si4
       obtain ⟨fs, ft, c10, c11, j1, j2⟩ := h.get
       have hm : MemN _ _ _ _ _ := ⟨rfl, h.1⟩
       have hi := h.2
       have hms : MemN _ _ _ _ _ := ⟨rfl, fs.1⟩
       have his := fs.2
       have hmt : MemN _ _ _ _ _ := ⟨rfl, ft.1⟩
       have hit := ft.2
       obtain ⟨fshb, c5b, c6b, i1b, i2b⟩ := h'.get
       have hmb : MemN _ _ _ _ _ := ⟨rfl, h'.1⟩
       have hib := h'.2
       have hmshb : MemN _ _ _ _ _ := ⟨rfl, fshb.1⟩
       have hishb := fshb.2
       obtain ⟨s0, s1, s2, s3, s4, si1, si2, si3, si4⟩ := fs.get
       clear i21
       have i21 := v21.intss
       clear mm23
       have mm23 : MemN _ _ _ _ _ := ⟨rfl, Mem.of_get at23⟩
       clear i43
       have i43 := Ints.of_get at43
       clear u2
       have u2 := i2b.2 a (by omega)
       clear i81
       have i81 := Ints.of_get at81
       refine .done ?_
       exact ⟨_, ⟨rfl, rfl, rfl, rfl, rfl, rfl, rfl, rfl, rfl, rfl, rfl, rfl, rfl, rfl, rfl, rfl, rfl, rfl, rfl, rfl, rfl, rfl, rfl, rfl, trivial⟩, hf0, at128x10, (by rw [hp1, hp2] at hK128x10; exact hK128x10)⟩
      refine .c1 rfl rfl rfl rfl (.litR rfl sl_22_A ze_2_E rfl rfl (by omega) (by omega) rfl rfl) ?_
      rintro _ H124x5 ⟨g124x5, rfl, le124x5, ge124x5, at124x5⟩
      have hbl := le124x5
      refine ⟨hbl, ?_⟩
      have nx_H124x5 := le124x5.1
      replace hle := hle.trans le124x5
      replace lst1 := lst1.le le124x5
      replace lst2 := lst2.le le124x5
      replace lst3 := lst3.le le124x5
      replace hf0 := hf0.le le124x5
      replace at35 := le124x5.2 _ _ at35
      replace at4008 := le124x5.2 _ _ at4008
      replace at81 := le124x5.2 _ _ at81
      replace at_L9 := le124x5.2 _ _ at_L9
      replace lv_v21 := Keep.le lv_v21 le124x5
      replace v21 := bs_v21.keep lv_v21 (Nat.le_refl _)
      have lt_at124x5 := GHeap.lt_of_get at124x5
      replace h := base_h.mono hle
      replace h' := base_h'.mono hle
      clear fs ft c10 c11 j1 j2 hm hi hms his hmt hit fshb c5b c6b i1b i2b hmb hib hmshb hishb s0 s1 s2 s3 s4 si1 si2 si3 si4
      obtain ⟨fs, ft, c10, c11, j1, j2⟩ := h.get
      have hm : MemN _ _ _ _ _ := ⟨rfl, h.1⟩
      have hi := h.2
      have hms : MemN _ _ _ _ _ := ⟨rfl, fs.1⟩
      have his := fs.2
      have hmt : MemN _ _ _ _ _ := ⟨rfl, ft.1⟩
      have hit := ft.2
      obtain ⟨fshb, c5b, c6b, i1b, i2b⟩ := h'.get
      have hmb : MemN _ _ _ _ _ := ⟨rfl, h'.1⟩
      have hib := h'.2
      have hmshb : MemN _ _ _ _ _ := ⟨rfl, fshb.1⟩
      have hishb := fshb.2
      obtain ⟨s0, s1, s2, s3, s4, si1, si2, si3, si4⟩ := fs.get
      clear i21
      have i21 := v21.intss
      clear mm23
      have mm23 : MemN _ _ _ _ _ := ⟨rfl, Mem.of_get at23⟩
      clear i43
      have i43 := Ints.of_get at43
      clear u2
      have u2 := i2b.2 a (by omega)
      clear i81
      have i81 := Ints.of_get at81
      refine .orI ?_ ?_
      ·
       refine .callQ1 rfl rfl rfl rfl rfl @Try.call65 rfl (then_s) hbl ?_
       refine .orI ?_ ?_
       ·
        refine .c1 rfl rfl rfl rfl (.litR rfl sl_22_A ze_2_E rfl rfl (by omega) (by omega) rfl rfl) ?_
        rintro _ H113x4 ⟨g113x4, rfl, le113x4, ge113x4, at113x4⟩
        replace hbl := hbl.trans le113x4
        refine ⟨hbl, ?_⟩
        have nx_H113x4 := le113x4.1
        replace hle := hle.trans le113x4
        replace lst1 := lst1.le le113x4
        replace lst2 := lst2.le le113x4
        replace lst3 := lst3.le le113x4
        replace hf0 := hf0.le le113x4
        replace at35 := le113x4.2 _ _ at35
        replace at4008 := le113x4.2 _ _ at4008
        replace at81 := le113x4.2 _ _ at81
        replace at_L9 := le113x4.2 _ _ at_L9
        replace at124x5 := le113x4.2 _ _ at124x5
        replace lv_v21 := Keep.le lv_v21 le113x4
        replace v21 := bs_v21.keep lv_v21 (Nat.le_refl _)
        have lt_at113x4 := GHeap.lt_of_get at113x4
        replace h := base_h.mono hle
        replace h' := base_h'.mono hle
        clear fs ft c10 c11 j1 j2 hm hi hms his hmt hit fshb c5b c6b i1b i2b hmb hib hmshb hishb s0 s1 s2 s3 s4 si1 si2 si3 si4
        obtain ⟨fs, ft, c10, c11, j1, j2⟩ := h.get
        have hm : MemN _ _ _ _ _ := ⟨rfl, h.1⟩
        have hi := h.2
        have hms : MemN _ _ _ _ _ := ⟨rfl, fs.1⟩
        have his := fs.2
        have hmt : MemN _ _ _ _ _ := ⟨rfl, ft.1⟩
        have hit := ft.2
        obtain ⟨fshb, c5b, c6b, i1b, i2b⟩ := h'.get
        have hmb : MemN _ _ _ _ _ := ⟨rfl, h'.1⟩
        have hib := h'.2
        have hmshb : MemN _ _ _ _ _ := ⟨rfl, fshb.1⟩
        have hishb := fshb.2
        obtain ⟨s0, s1, s2, s3, s4, si1, si2, si3, si4⟩ := fs.get
        clear i21
        have i21 := v21.intss
        clear mm23
        have mm23 : MemN _ _ _ _ _ := ⟨rfl, Mem.of_get at23⟩
        clear i43
        have i43 := Ints.of_get at43
        clear u2
        have u2 := i2b.2 a (by omega)
        clear i81
        have i81 := Ints.of_get at81
        refine .orI ?_ ?_
        ·
         refine .c1 rfl rfl rfl rfl (.litR rfl sl_23_B ze_22_E rfl rfl (by omega) (by omega) rfl rfl) ?_
         rintro _ H114x7 ⟨g114x7, rfl, le114x7, ge114x7, at114x7⟩
         replace hbl := hbl.trans le114x7
         refine ⟨hbl, ?_⟩
         have nx_H114x7 := le114x7.1
         replace hle := hle.trans le114x7
         replace lst1 := lst1.le le114x7
         replace lst2 := lst2.le le114x7
         replace lst3 := lst3.le le114x7
         replace hf0 := hf0.le le114x7
         replace at35 := le114x7.2 _ _ at35
         replace at4008 := le114x7.2 _ _ at4008
         replace at81 := le114x7.2 _ _ at81
         replace at_L9 := le114x7.2 _ _ at_L9
         replace at124x5 := le114x7.2 _ _ at124x5
         replace at113x4 := le114x7.2 _ _ at113x4
         replace lv_v21 := Keep.le lv_v21 le114x7
         replace v21 := bs_v21.keep lv_v21 (Nat.le_refl _)
         have lt_at114x7 := GHeap.lt_of_get at114x7
         replace h := base_h.mono hle
         replace h' := base_h'.mono hle
         clear fs ft c10 c11 j1 j2 hm hi hms his hmt hit fshb c5b c6b i1b i2b hmb hib hmshb hishb s0 s1 s2 s3 s4 si1 si2 si3 si4
         obtain ⟨fs, ft, c10, c11, j1, j2⟩ := h.get
         have hm : MemN _ _ _ _ _ := ⟨rfl, h.1⟩
         have hi := h.2
         have hms : MemN _ _ _ _ _ := ⟨rfl, fs.1⟩
         have his := fs.2
         have hmt : MemN _ _ _ _ _ := ⟨rfl, ft.1⟩
         have hit := ft.2
         obtain ⟨fshb, c5b, c6b, i1b, i2b⟩ := h'.get
         have hmb : MemN _ _ _ _ _ := ⟨rfl, h'.1⟩
         have hib := h'.2
         have hmshb : MemN _ _ _ _ _ := ⟨rfl, fshb.1⟩
         have hishb := fshb.2
         obtain ⟨s0, s1, s2, s3, s4, si1, si2, si3, si4⟩ := fs.get
         clear i21
         have i21 := v21.intss
         clear mm23
         have mm23 : MemN _ _ _ _ _ := ⟨rfl, Mem.of_get at23⟩
         clear i43
         have i43 := Ints.of_get at43
         clear u2
         have u2 := i2b.2 a (by omega)
         clear i81
         have i81 := Ints.of_get at81
         refine .orI ?_ ?_
         ·
          refine .callQ1 rfl rfl rfl rfl rfl @Try.call96 rfl (key_c (xs := lcT k a ((k.t.hom (k.ob.getD (k.s.tgt.getD a 0).toNat 0) y).getD i 0) e) (by assumption) (Ints.of_get (xs := lcT k a ((k.t.hom (k.ob.getD (k.s.tgt.getD a 0).toNat 0) y).getD i 0) e) (by assumption)) rfl (fun j hj => kb1.2 j hj) (by show 3 ≤ 1000; omega)) hbl ?_
          refine .m rfl rfl rfl rfl hbl (.lookupS mps_117_Ke zv_2_Pb rfl rfl (by assumption)) ?_
          refine .c1 rfl rfl rfl rfl (.litR rfl sl_23_B ze_22_E rfl rfl (by omega) (by omega) rfl rfl) ?_
          rintro _ H125x11 ⟨g125x11, rfl, le125x11, ge125x11, at125x11⟩
          have hbl := le125x11
          refine ⟨hbl, ?_⟩
          have nx_H125x11 := le125x11.1
          replace hle := hle.trans le125x11
          replace lst1 := lst1.le le125x11
          replace lst2 := lst2.le le125x11
          replace lst3 := lst3.le le125x11
          replace hf0 := hf0.le le125x11
          replace at35 := le125x11.2 _ _ at35
          replace at4008 := le125x11.2 _ _ at4008
          replace at81 := le125x11.2 _ _ at81
          replace at_L9 := le125x11.2 _ _ at_L9
          replace at124x5 := le125x11.2 _ _ at124x5
          replace at113x4 := le125x11.2 _ _ at113x4
          replace at114x7 := le125x11.2 _ _ at114x7
          replace lv_v21 := Keep.le lv_v21 le125x11
          replace v21 := bs_v21.keep lv_v21 (Nat.le_refl _)
          have lt_at125x11 := GHeap.lt_of_get at125x11
          replace h := base_h.mono hle
          replace h' := base_h'.mono hle
          clear fs ft c10 c11 j1 j2 hm hi hms his hmt hit fshb c5b c6b i1b i2b hmb hib hmshb hishb s0 s1 s2 s3 s4 si1 si2 si3 si4
          obtain ⟨fs, ft, c10, c11, j1, j2⟩ := h.get
          have hm : MemN _ _ _ _ _ := ⟨rfl, h.1⟩
          have hi := h.2
          have hms : MemN _ _ _ _ _ := ⟨rfl, fs.1⟩
          have his := fs.2
          have hmt : MemN _ _ _ _ _ := ⟨rfl, ft.1⟩
          have hit := ft.2
          obtain ⟨fshb, c5b, c6b, i1b, i2b⟩ := h'.get
          have hmb : MemN _ _ _ _ _ := ⟨rfl, h'.1⟩
          have hib := h'.2
          have hmshb : MemN _ _ _ _ _ := ⟨rfl, fshb.1⟩
          have hishb := fshb.2
          obtain ⟨s0, s1, s2, s3, s4, si1, si2, si3, si4⟩ := fs.get
          clear i21
          have i21 := v21.intss
          clear mm23
          have mm23 : MemN _ _ _ _ _ := ⟨rfl, Mem.of_get at23⟩
          clear i43
          have i43 := Ints.of_get at43
          clear u2
          have u2 := i2b.2 a (by omega)
          clear i81
          have i81 := Ints.of_get at81
          refine .callQ1 rfl rfl rfl rfl rfl @Try.call96 rfl (key_c (xs := lcU k f a ((k.t.hom (k.ob.getD (k.s.tgt.getD a 0).toNat 0) y).getD i 0) e) (by assumption) (Ints.of_get (xs := lcU k f a ((k.t.hom (k.ob.getD (k.s.tgt.getD a 0).toNat 0) y).getD i 0) e) (by assumption)) rfl (fun j hj => kb2.2 j hj) (by show 3 ≤ 1000; omega)) hbl ?_
          refine .m rfl rfl rfl rfl hbl (.lookupS mps_117_Ke zv_2_Pb rfl rfl (by assumption)) ?_
          refine .call0 rfl rfl rfl rfl rfl @Try.call95 rfl (join_c (hK := hJ)) ?_
          rintro _ H128x11 ⟨⟨b128x11, rfl⟩, st128x11, js128x11, at128x11, hK128x11⟩
          have nx_H128x11 := st128x11.nx
          replace hle := hle.st st128x11 (fun k hk => ⟨by omega, trivial⟩)
          replace lst1 := lst1.st st128x11 (fun k hk ho => by simp only [out, and_true] at ho ⊢ <;> first | omega | (first | exact ho | exact ho.1 | exact ho.2 | exact ho.2.1 | exact ho.2.2 | exact ho.2.2.1 | exact ho.2.2.2))
          replace lst2 := lst2.st st128x11 (fun k hk ho => by simp only [out, and_true] at ho ⊢ <;> first | omega | (first | exact ho | exact ho.1 | exact ho.2 | exact ho.2.1 | exact ho.2.2 | exact ho.2.2.1 | exact ho.2.2.2))
          replace lst3 := lst3.st st128x11 (fun k hk ho => by simp only [out, and_true] at ho ⊢ <;> first | omega | (first | exact ho | exact ho.1 | exact ho.2 | exact ho.2.1 | exact ho.2.2 | exact ho.2.2.1 | exact ho.2.2.2))
          replace hf0 := hf0.st st128x11 (fun k hk ho => by simp only [out, and_true] at ho ⊢ <;> first | omega | (first | exact ho | exact ho.1 | exact ho.2 | exact ho.2.1 | exact ho.2.2 | exact ho.2.2.1 | exact ho.2.2.2))
          replace at35 := st128x11.same _ _ ⟨ne_g35_g43, trivial⟩ at35
          replace at4008 := st128x11.same _ _ ⟨ne_g23_g43, trivial⟩ at4008
          replace at81 := st128x11.same _ _ ⟨ne_g81_g43, trivial⟩ at81
          have ne_g124x5_g43 : g124x5 ≠ g43 := by omega
          replace at124x5 := st128x11.same _ _ ⟨ne_g124x5_g43, trivial⟩ at124x5
          have ne_g113x4_g43 : g113x4 ≠ g43 := by omega
          replace at113x4 := st128x11.same _ _ ⟨ne_g113x4_g43, trivial⟩ at113x4
          have ne_g114x7_g43 : g114x7 ≠ g43 := by omega
          replace at114x7 := st128x11.same _ _ ⟨ne_g114x7_g43, trivial⟩ at114x7
          have ne_g125x11_g43 : g125x11 ≠ g43 := by omega
          replace at125x11 := st128x11.same _ _ ⟨ne_g125x11_g43, trivial⟩ at125x11
          replace lv_v21 := Keep.st lv_v21 st128x11 (fun k hb hk => ⟨by omega, trivial⟩)
          replace v21 := bs_v21.keep lv_v21 (Nat.le_refl _)
          have lt_at128x11 := GHeap.lt_of_get at128x11
          replace h := base_h.mono hle
          replace h' := base_h'.mono hle
          clear fs ft c10 c11 j1 j2 hm hi hms his hmt hit fshb c5b c6b i1b i2b hmb hib hmshb hishb s0 s1 s2 s3 s4 si1 si2 si3 si4
          obtain ⟨fs, ft, c10, c11, j1, j2⟩ := h.get
          have hm : MemN _ _ _ _ _ := ⟨rfl, h.1⟩
          have hi := h.2
          have hms : MemN _ _ _ _ _ := ⟨rfl, fs.1⟩
          have his := fs.2
          have hmt : MemN _ _ _ _ _ := ⟨rfl, ft.1⟩
          have hit := ft.2
          obtain ⟨fshb, c5b, c6b, i1b, i2b⟩ := h'.get
          have hmb : MemN _ _ _ _ _ := ⟨rfl, h'.1⟩
          have hib := h'.2
          have hmshb : MemN _ _ _ _ _ := ⟨rfl, fshb.1⟩
          have hishb := fshb.2
          obtain ⟨s0, s1, s2, s3, s4, si1, si2, si3, si4⟩ := fs.get
          clear i21
          have i21 := v21.intss
          clear mm23
          have mm23 : MemN _ _ _ _ _ := ⟨rfl, Mem.of_get at23⟩
          clear i43
          have i43 := Ints.of_get at43
          clear u2
          have u2 := i2b.2 a (by omega)
          clear i81
          have i81 := Ints.of_get at81
          refine .done ?_
          exact ⟨_, ⟨rfl, rfl, rfl, rfl, rfl, rfl, rfl, rfl, rfl, rfl, rfl, rfl, rfl, rfl, rfl, rfl, rfl, rfl, rfl, rfl, rfl, rfl, rfl, rfl, trivial⟩, hf0, at128x11, (by rw [hp1, hp2] at hK128x11; exact hK128x11)⟩
         refine .c1 rfl rfl rfl rfl (.litR rfl sl_23_B ze_22_E rfl rfl (by omega) (by omega) rfl rfl) ?_
         rintro _ H125x12 ⟨g125x12, rfl, le125x12, ge125x12, at125x12⟩
         replace hbl := hbl.trans le125x12
         refine ⟨hbl, ?_⟩
         have nx_H125x12 := le125x12.1
         replace hle := hle.trans le125x12
         replace lst1 := lst1.le le125x12
         replace lst2 := lst2.le le125x12
         replace lst3 := lst3.le le125x12
         replace hf0 := hf0.le le125x12
         replace at35 := le125x12.2 _ _ at35
         replace at4008 := le125x12.2 _ _ at4008
         replace at81 := le125x12.2 _ _ at81
         replace at_L9 := le125x12.2 _ _ at_L9
         replace at124x5 := le125x12.2 _ _ at124x5
         replace at113x4 := le125x12.2 _ _ at113x4
         replace at114x7 := le125x12.2 _ _ at114x7
         replace lv_v21 := Keep.le lv_v21 le125x12
         replace v21 := bs_v21.keep lv_v21 (Nat.le_refl _)
         have lt_at125x12 := GHeap.lt_of_get at125x12
         replace h := base_h.mono hle
         replace h' := base_h'.mono hle
         clear fs ft c10 c11 j1 j2 hm hi hms his hmt hit fshb c5b c6b i1b i2b hmb hib hmshb hishb s0 s1 s2 s3 s4 si1 si2 si3 si4
         obtain ⟨fs, ft, c10, c11, j1, j2⟩ := h.get
         have hm : MemN _ _ _ _ _ := ⟨rfl, h.1⟩
         have hi := h.2
         have hms : MemN _ _ _ _ _ := ⟨rfl, fs.1⟩
         have his := fs.2
         have hmt : MemN _ _ _ _ _ := ⟨rfl, ft.1⟩
         have hit := ft.2
         obtain ⟨fshb, c5b, c6b, i1b, i2b⟩ := h'.get
         have hmb : MemN _ _ _ _ _ := ⟨rfl, h'.1⟩
         have hib := h'.2
         have hmshb : MemN _ _ _ _ _ := ⟨rfl, fshb.1⟩
         have hishb := fshb.2
         obtain ⟨s0, s1, s2, s3, s4, si1, si2, si3, si4⟩ := fs.get
         clear i21
         have i21 := v21.intss
         clear mm23
         have mm23 : MemN _ _ _ _ _ := ⟨rfl, Mem.of_get at23⟩
         clear i43
         have i43 := Ints.of_get at43
         clear u2
         have u2 := i2b.2 a (by omega)
         clear i81
         have i81 := Ints.of_get at81
         refine .callQ1 rfl rfl rfl rfl rfl @Try.call96 rfl (key_c (xs := lcT k a ((k.t.hom (k.ob.getD (k.s.tgt.getD a 0).toNat 0) y).getD i 0) e) (by assumption) (Ints.of_get (xs := lcT k a ((k.t.hom (k.ob.getD (k.s.tgt.getD a 0).toNat 0) y).getD i 0) e) (by assumption)) rfl (fun j hj => kb1.2 j hj) (by show 3 ≤ 1000; omega)) hbl ?_
         refine .m rfl rfl rfl rfl hbl (.lookupS mps_117_Ke zv_2_Pb rfl rfl (by assumption)) ?_
         refine .callQ1 rfl rfl rfl rfl rfl @Try.call96 rfl (key_c (xs := lcU k f a ((k.t.hom (k.ob.getD (k.s.tgt.getD a 0).toNat 0) y).getD i 0) e) (by assumption) (Ints.of_get (xs := lcU k f a ((k.t.hom (k.ob.getD (k.s.tgt.getD a 0).toNat 0) y).getD i 0) e) (by assumption)) rfl (fun j hj => kb2.2 j hj) (by show 3 ≤ 1000; omega)) (.refl _) ?_
         refine .m rfl rfl rfl rfl (.refl _) (.lookupS mps_117_Ke zv_2_Pb rfl rfl (by assumption)) ?_
         refine .call0 rfl rfl rfl rfl rfl @Try.call95 rfl (join_c (hK := hJ)) ?_
         rintro _ H128x12 ⟨⟨b128x12, rfl⟩, st128x12, js128x12, at128x12, hK128x12⟩
         have nx_H128x12 := st128x12.nx
         replace hle := hle.st st128x12 (fun k hk => ⟨by omega, trivial⟩)
         replace lst1 := lst1.st st128x12 (fun k hk ho => by simp only [out, and_true] at ho ⊢ <;> first | omega | (first | exact ho | exact ho.1 | exact ho.2 | exact ho.2.1 | exact ho.2.2 | exact ho.2.2.1 | exact ho.2.2.2))
         replace lst2 := lst2.st st128x12 (fun k hk ho => by simp only [out, and_true] at ho ⊢ <;> first | omega | (first | exact ho | exact ho.1 | exact ho.2 | exact ho.2.1 | exact ho.2.2 | exact ho.2.2.1 | exact ho.2.2.2))
         replace lst3 := lst3.st st128x12 (fun k hk ho => by simp only [out, and_true] at ho ⊢ <;> first | omega | (first | exact ho | exact ho.1 | exact ho.2 | exact ho.2.1 | exact ho.2.2 | exact ho.2.2.1 | exact ho.2.2.2))
         replace hf0 := hf0.st st128x12 (fun k hk ho => by simp only [out, and_true] at ho ⊢ <;> first | omega | (first | exact ho | exact ho.1 | exact ho.2 | exact ho.2.1 | exact ho.2.2 | exact ho.2.2.1 | exact ho.2.2.2))
         replace at35 := st128x12.same _ _ ⟨ne_g35_g43, trivial⟩ at35
         replace at4008 := st128x12.same _ _ ⟨ne_g23_g43, trivial⟩ at4008
         replace at81 := st128x12.same _ _ ⟨ne_g81_g43, trivial⟩ at81
         have ne_g124x5_g43 : g124x5 ≠ g43 := by omega
         replace at124x5 := st128x12.same _ _ ⟨ne_g124x5_g43, trivial⟩ at124x5
         have ne_g113x4_g43 : g113x4 ≠ g43 := by omega
         replace at113x4 := st128x12.same _ _ ⟨ne_g113x4_g43, trivial⟩ at113x4
         have ne_g114x7_g43 : g114x7 ≠ g43 := by omega
         replace at114x7 := st128x12.same _ _ ⟨ne_g114x7_g43, trivial⟩ at114x7
         have ne_g125x12_g43 : g125x12 ≠ g43 := by omega
         replace at125x12 := st128x12.same _ _ ⟨ne_g125x12_g43, trivial⟩ at125x12
         replace lv_v21 := Keep.st lv_v21 st128x12 (fun k hb hk => ⟨by omega, trivial⟩)
         replace v21 := bs_v21.keep lv_v21 (Nat.le_refl _)
         have lt_at128x12 := GHeap.lt_of_get at128x12
         replace h := base_h.mono hle
         replace h' := base_h'.mono hle
         clear fs ft c10 c11 j1 j2 hm hi hms his hmt hit fshb c5b c6b i1b i2b hmb hib hmshb hishb s0 s1 s2 s3 s4 si1 si2 si3 si4
         obtain ⟨fs, ft, c10, c11, j1, j2⟩ := h.get
         have hm : MemN _ _ _ _ _ := ⟨rfl, h.1⟩
         have hi := h.2
         have hms : MemN _ _ _ _ _ := ⟨rfl, fs.1⟩
         have his := fs.2
         have hmt : MemN _ _ _ _ _ := ⟨rfl, ft.1⟩
         have hit := ft.2
         obtain ⟨fshb, c5b, c6b, i1b, i2b⟩ := h'.get
         have hmb : MemN _ _ _ _ _ := ⟨rfl, h'.1⟩
         have hib := h'.2
         have hmshb : MemN _ _ _ _ _ := ⟨rfl, fshb.1⟩
         have hishb := fshb.2
         obtain ⟨s0, s1, s2, s3, s4, si1, si2, si3, si4⟩ := fs.get
         clear i21
         have i21 := v21.intss
         clear mm23
         have mm23 : MemN _ _ _ _ _ := ⟨rfl, Mem.of_get at23⟩
         clear i43
         have i43 := Ints.of_get at43
         clear u2
         have u2 := i2b.2 a (by omega)
         clear i81
         have i81 := Ints.of_get at81
         refine .done ?_
         exact ⟨_, ⟨rfl, rfl, rfl, rfl, rfl, rfl, rfl, rfl, rfl, rfl, rfl, rfl, rfl, rfl, rfl, rfl, rfl, rfl, rfl, rfl, rfl, rfl, rfl, rfl, trivial⟩, hf0, at128x12, (by rw [hp1, hp2] at hK128x12; exact hK128x12)⟩
        refine .c1 rfl rfl rfl rfl (.litR rfl sl_23_B ze_22_E rfl rfl (by omega) (by omega) rfl rfl) ?_
        rintro _ H125x13 ⟨g125x13, rfl, le125x13, ge125x13, at125x13⟩
        replace hbl := hbl.trans le125x13
        refine ⟨hbl, ?_⟩
        have nx_H125x13 := le125x13.1
        replace hle := hle.trans le125x13
        replace lst1 := lst1.le le125x13
        replace lst2 := lst2.le le125x13
        replace lst3 := lst3.le le125x13
        replace hf0 := hf0.le le125x13
        replace at35 := le125x13.2 _ _ at35
        replace at4008 := le125x13.2 _ _ at4008
        replace at81 := le125x13.2 _ _ at81
        replace at_L9 := le125x13.2 _ _ at_L9
        replace at124x5 := le125x13.2 _ _ at124x5
        replace at113x4 := le125x13.2 _ _ at113x4
        replace lv_v21 := Keep.le lv_v21 le125x13
        replace v21 := bs_v21.keep lv_v21 (Nat.le_refl _)
        have lt_at125x13 := GHeap.lt_of_get at125x13
        replace h := base_h.mono hle
        replace h' := base_h'.mono hle
        clear fs ft c10 c11 j1 j2 hm hi hms his hmt hit fshb c5b c6b i1b i2b hmb hib hmshb hishb s0 s1 s2 s3 s4 si1 si2 si3 si4
        obtain ⟨fs, ft, c10, c11, j1, j2⟩ := h.get
        have hm : MemN _ _ _ _ _ := ⟨rfl, h.1⟩
        have hi := h.2
        have hms : MemN _ _ _ _ _ := ⟨rfl, fs.1⟩
        have his := fs.2
        have hmt : MemN _ _ _ _ _ := ⟨rfl, ft.1⟩
        have hit := ft.2
        obtain ⟨fshb, c5b, c6b, i1b, i2b⟩ := h'.get
        have hmb : MemN _ _ _ _ _ := ⟨rfl, h'.1⟩
        have hib := h'.2
        have hmshb : MemN _ _ _ _ _ := ⟨rfl, fshb.1⟩
        have hishb := fshb.2
        obtain ⟨s0, s1, s2, s3, s4, si1, si2, si3, si4⟩ := fs.get
        clear i21
        have i21 := v21.intss
        clear mm23
        have mm23 : MemN _ _ _ _ _ := ⟨rfl, Mem.of_get at23⟩
        clear i43
        have i43 := Ints.of_get at43
        clear u2
        have u2 := i2b.2 a (by omega)
        clear i81
        have i81 := Ints.of_get at81
        refine .c1 rfl rfl rfl rfl (.litR rfl sl_23_B ze_22_E rfl rfl (by omega) (by omega) rfl rfl) ?_
        rintro _ H114x8 ⟨g114x8, rfl, le114x8, ge114x8, at114x8⟩
        replace hbl := hbl.trans le114x8
        refine ⟨hbl, ?_⟩
        have nx_H114x8 := le114x8.1
        replace hle := hle.trans le114x8
        replace lst1 := lst1.le le114x8
        replace lst2 := lst2.le le114x8
        replace lst3 := lst3.le le114x8
        replace hf0 := hf0.le le114x8
        replace at35 := le114x8.2 _ _ at35
        replace at4008 := le114x8.2 _ _ at4008
        replace at81 := le114x8.2 _ _ at81
        replace at_L9 := le114x8.2 _ _ at_L9
        replace at124x5 := le114x8.2 _ _ at124x5
        replace at113x4 := le114x8.2 _ _ at113x4
        replace at125x13 := le114x8.2 _ _ at125x13
        replace lv_v21 := Keep.le lv_v21 le114x8
        replace v21 := bs_v21.keep lv_v21 (Nat.le_refl _)
        have lt_at114x8 := GHeap.lt_of_get at114x8
        replace h := base_h.mono hle
        replace h' := base_h'.mono hle
        clear fs ft c10 c11 j1 j2 hm hi hms his hmt hit fshb c5b c6b i1b i2b hmb hib hmshb hishb s0 s1 s2 s3 s4 si1 si2 si3 si4
        obtain ⟨fs, ft, c10, c11, j1, j2⟩ := h.get
        have hm : MemN _ _ _ _ _ := ⟨rfl, h.1⟩
        have hi := h.2
        have hms : MemN _ _ _ _ _ := ⟨rfl, fs.1⟩
        have his := fs.2
        have hmt : MemN _ _ _ _ _ := ⟨rfl, ft.1⟩
        have hit := ft.2
        obtain ⟨fshb, c5b, c6b, i1b, i2b⟩ := h'.get
        have hmb : MemN _ _ _ _ _ := ⟨rfl, h'.1⟩
        have hib := h'.2
        have hmshb : MemN _ _ _ _ _ := ⟨rfl, fshb.1⟩
        have hishb := fshb.2
        obtain ⟨s0, s1, s2, s3, s4, si1, si2, si3, si4⟩ := fs.get
        clear i21
        have i21 := v21.intss
        clear mm23
        have mm23 : MemN _ _ _ _ _ := ⟨rfl, Mem.of_get at23⟩
        clear i43
        have i43 := Ints.of_get at43
        clear u2
        have u2 := i2b.2 a (by omega)
        clear i81
        have i81 := Ints.of_get at81
        refine .callQ1 rfl rfl rfl rfl rfl @Try.call96 rfl (key_c (xs := lcT k a ((k.t.hom (k.ob.getD (k.s.tgt.getD a 0).toNat 0) y).getD i 0) e) (by assumption) (Ints.of_get (xs := lcT k a ((k.t.hom (k.ob.getD (k.s.tgt.getD a 0).toNat 0) y).getD i 0) e) (by assumption)) rfl (fun j hj => kb1.2 j hj) (by show 3 ≤ 1000; omega)) hbl ?_
        refine .m rfl rfl rfl rfl hbl (.lookupS mps_117_Ke zv_2_Pb rfl rfl (by assumption)) ?_
        refine .callQ1 rfl rfl rfl rfl rfl @Try.call96 rfl (key_c (xs := lcU k f a ((k.t.hom (k.ob.getD (k.s.tgt.getD a 0).toNat 0) y).getD i 0) e) (by assumption) (Ints.of_get (xs := lcU k f a ((k.t.hom (k.ob.getD (k.s.tgt.getD a 0).toNat 0) y).getD i 0) e) (by assumption)) rfl (fun j hj => kb2.2 j hj) (by show 3 ≤ 1000; omega)) (.refl _) ?_
        refine .m rfl rfl rfl rfl (.refl _) (.lookupS mps_117_Ke zv_2_Pb rfl rfl (by assumption)) ?_
        refine .call0 rfl rfl rfl rfl rfl @Try.call95 rfl (join_c (hK := hJ)) ?_
        rintro _ H128x13 ⟨⟨b128x13, rfl⟩, st128x13, js128x13, at128x13, hK128x13⟩
        have nx_H128x13 := st128x13.nx
        replace hle := hle.st st128x13 (fun k hk => ⟨by omega, trivial⟩)
        replace lst1 := lst1.st st128x13 (fun k hk ho => by simp only [out, and_true] at ho ⊢ <;> first | omega | (first | exact ho | exact ho.1 | exact ho.2 | exact ho.2.1 | exact ho.2.2 | exact ho.2.2.1 | exact ho.2.2.2))
        replace lst2 := lst2.st st128x13 (fun k hk ho => by simp only [out, and_true] at ho ⊢ <;> first | omega | (first | exact ho | exact ho.1 | exact ho.2 | exact ho.2.1 | exact ho.2.2 | exact ho.2.2.1 | exact ho.2.2.2))
        replace lst3 := lst3.st st128x13 (fun k hk ho => by simp only [out, and_true] at ho ⊢ <;> first | omega | (first | exact ho | exact ho.1 | exact ho.2 | exact ho.2.1 | exact ho.2.2 | exact ho.2.2.1 | exact ho.2.2.2))
        replace hf0 := hf0.st st128x13 (fun k hk ho => by simp only [out, and_true] at ho ⊢ <;> first | omega | (first | exact ho | exact ho.1 | exact ho.2 | exact ho.2.1 | exact ho.2.2 | exact ho.2.2.1 | exact ho.2.2.2))
        replace at35 := st128x13.same _ _ ⟨ne_g35_g43, trivial⟩ at35
        replace at4008 := st128x13.same _ _ ⟨ne_g23_g43, trivial⟩ at4008
        replace at81 := st128x13.same _ _ ⟨ne_g81_g43, trivial⟩ at81
        have ne_g124x5_g43 : g124x5 ≠ g43 := by omega
        replace at124x5 := st128x13.same _ _ ⟨ne_g124x5_g43, trivial⟩ at124x5
        have ne_g113x4_g43 : g113x4 ≠ g43 := by omega
        replace at113x4 := st128x13.same _ _ ⟨ne_g113x4_g43, trivial⟩ at113x4
        have ne_g125x13_g43 : g125x13 ≠ g43 := by omega
        replace at125x13 := st128x13.same _ _ ⟨ne_g125x13_g43, trivial⟩ at125x13
        have ne_g114x8_g43 : g114x8 ≠ g43 := by omega
        replace at114x8 := st128x13.same _ _ ⟨ne_g114x8_g43, trivial⟩ at114x8
        replace lv_v21 := Keep.st lv_v21 st128x13 (fun k hb hk => ⟨by omega, trivial⟩)
        replace v21 := bs_v21.keep lv_v21 (Nat.le_refl _)
        have lt_at128x13 := GHeap.lt_of_get at128x13
        replace h := base_h.mono hle
        replace h' := base_h'.mono hle
        clear fs ft c10 c11 j1 j2 hm hi hms his hmt hit fshb c5b c6b i1b i2b hmb hib hmshb hishb s0 s1 s2 s3 s4 si1 si2 si3 si4
        obtain ⟨fs, ft, c10, c11, j1, j2⟩ := h.get
        have hm : MemN _ _ _ _ _ := ⟨rfl, h.1⟩
        have hi := h.2
        have hms : MemN _ _ _ _ _ := ⟨rfl, fs.1⟩
        have his := fs.2
        have hmt : MemN _ _ _ _ _ := ⟨rfl, ft.1⟩
        have hit := ft.2
        obtain ⟨fshb, c5b, c6b, i1b, i2b⟩ := h'.get
        have hmb : MemN _ _ _ _ _ := ⟨rfl, h'.1⟩
        have hib := h'.2
        have hmshb : MemN _ _ _ _ _ := ⟨rfl, fshb.1⟩
        have hishb := fshb.2
        obtain ⟨s0, s1, s2, s3, s4, si1, si2, si3, si4⟩ := fs.get
        clear i21
        have i21 := v21.intss
        clear mm23
        have mm23 : MemN _ _ _ _ _ := ⟨rfl, Mem.of_get at23⟩
        clear i43
        have i43 := Ints.of_get at43
        clear u2
        have u2 := i2b.2 a (by omega)
        clear i81
        have i81 := Ints.of_get at81
        refine .done ?_
        exact ⟨_, ⟨rfl, rfl, rfl, rfl, rfl, rfl, rfl, rfl, rfl, rfl, rfl, rfl, rfl, rfl, rfl, rfl, rfl, rfl, rfl, rfl, rfl, rfl, rfl, rfl, trivial⟩, hf0, at128x13, (by rw [hp1, hp2] at hK128x13; exact hK128x13)⟩
       refine .c1 rfl rfl rfl rfl (.litR rfl sl_23_B ze_22_E rfl rfl (by omega) (by omega) rfl rfl) ?_
       rintro _ H125x14 ⟨g125x14, rfl, le125x14, ge125x14, at125x14⟩
       replace hbl := hbl.trans le125x14
       refine ⟨hbl, ?_⟩
       have nx_H125x14 := le125x14.1
       replace hle := hle.trans le125x14
       replace lst1 := lst1.le le125x14
       replace lst2 := lst2.le le125x14
       replace lst3 := lst3.le le125x14
       replace hf0 := hf0.le le125x14
       replace at35 := le125x14.2 _ _ at35
       replace at4008 := le125x14.2 _ _ at4008
       replace at81 := le125x14.2 _ _ at81
       replace at_L9 := le125x14.2 _ _ at_L9
       replace at124x5 := le125x14.2 _ _ at124x5
       replace lv_v21 := Keep.le lv_v21 le125x14
       replace v21 := bs_v21.keep lv_v21 (Nat.le_refl _)
       have lt_at125x14 := GHeap.lt_of_get at125x14
       replace h := base_h.mono hle
       replace h' := base_h'.mono hle
       clear fs ft c10 c11 j1 j2 hm hi hms his hmt hit fshb c5b c6b i1b i2b hmb hib hmshb hishb s0 s1 s2 s3 s4 si1 si2 si3 si4
       obtain ⟨fs, ft, c10, c11, j1, j2⟩ := h.get
       have hm : MemN _ _ _ _ _ := ⟨rfl, h.1⟩
       have hi := h.2
       have hms : MemN _ _ _ _ _ := ⟨rfl, fs.1⟩
       have his := fs.2
       have hmt : MemN _ _ _ _ _ := ⟨rfl, ft.1⟩
       have hit := ft.2
       obtain ⟨fshb, c5b, c6b, i1b, i2b⟩ := h'.get
       have hmb : MemN _ _ _ _ _ := ⟨rfl, h'.1⟩
       have hib := h'.2
       have hmshb : MemN _ _ _ _ _ := ⟨rfl, fshb.1⟩
       have hishb := fshb.2
       obtain ⟨s0, s1, s2, s3, s4, si1, si2, si3, si4⟩ := fs.get
       clear i21
       have i21 := v21.intss
       clear mm23
       have mm23 : MemN _ _ _ _ _ := ⟨rfl, Mem.of_get at23⟩
       clear i43
       have i43 := Ints.of_get at43
       clear u2
       have u2 := i2b.2 a (by omega)
       clear i81
       have i81 := Ints.of_get at81
       refine .c1 rfl rfl rfl rfl (.litR rfl sl_22_A ze_2_E rfl rfl (by omega) (by omega) rfl rfl) ?_
       rintro _ H113x5 ⟨g113x5, rfl, le113x5, ge113x5, at113x5⟩
       replace hbl := hbl.trans le113x5
       refine ⟨hbl, ?_⟩
       have nx_H113x5 := le113x5.1
       replace hle := hle.trans le113x5
       replace lst1 := lst1.le le113x5
       replace lst2 := lst2.le le113x5
       replace lst3 := lst3.le le113x5
       replace hf0 := hf0.le le113x5
       replace at35 := le113x5.2 _ _ at35
       replace at4008 := le113x5.2 _ _ at4008
       replace at81 := le113x5.2 _ _ at81
       replace at_L9 := le113x5.2 _ _ at_L9
       replace at124x5 := le113x5.2 _ _ at124x5
       replace at125x14 := le113x5.2 _ _ at125x14
       replace lv_v21 := Keep.le lv_v21 le113x5
       replace v21 := bs_v21.keep lv_v21 (Nat.le_refl _)
       have lt_at113x5 := GHeap.lt_of_get at113x5
       replace h := base_h.mono hle
       replace h' := base_h'.mono hle
       clear fs ft c10 c11 j1 j2 hm hi hms his hmt hit fshb c5b c6b i1b i2b hmb hib hmshb hishb s0 s1 s2 s3 s4 si1 si2 si3 si4
       obtain ⟨fs, ft, c10, c11, j1, j2⟩ := h.get
       have hm : MemN _ _ _ _ _ := ⟨rfl, h.1⟩
       have hi := h.2
       have hms : MemN _ _ _ _ _ := ⟨rfl, fs.1⟩
       have his := fs.2
       have hmt : MemN _ _ _ _ _ := ⟨rfl, ft.1⟩
       have hit := ft.2
       obtain ⟨fshb, c5b, c6b, i1b, i2b⟩ := h'.get
       have hmb : MemN _ _ _ _ _ := ⟨rfl, h'.1⟩
       have hib := h'.2
       have hmshb : MemN _ _ _ _ _ := ⟨rfl, fshb.1⟩
       have hishb := fshb.2
       obtain ⟨s0, s1, s2, s3, s4, si1, si2, si3, si4⟩ := fs.get
       clear i21
       have i21 := v21.intss
       clear mm23
       have mm23 : MemN _ _ _ _ _ := ⟨rfl, Mem.of_get at23⟩
       clear i43
       have i43 := Ints.of_get at43
       clear u2
       have u2 := i2b.2 a (by omega)
       clear i81
       have i81 := Ints.of_get at81
       refine .c1 rfl rfl rfl rfl (.litR rfl sl_23_B ze_22_E rfl rfl (by omega) (by omega) rfl rfl) ?_
       rintro _ H114x9 ⟨g114x9, rfl, le114x9, ge114x9, at114x9⟩
       replace hbl := hbl.trans le114x9
       refine ⟨hbl, ?_⟩
       have nx_H114x9 := le114x9.1
       replace hle := hle.trans le114x9
       replace lst1 := lst1.le le114x9
       replace lst2 := lst2.le le114x9
       replace lst3 := lst3.le le114x9
       replace hf0 := hf0.le le114x9
       replace at35 := le114x9.2 _ _ at35
       replace at4008 := le114x9.2 _ _ at4008
       replace at81 := le114x9.2 _ _ at81
       replace at_L9 := le114x9.2 _ _ at_L9
       replace at124x5 := le114x9.2 _ _ at124x5
       replace at125x14 := le114x9.2 _ _ at125x14
       replace at113x5 := le114x9.2 _ _ at113x5
       replace lv_v21 := Keep.le lv_v21 le114x9
       replace v21 := bs_v21.keep lv_v21 (Nat.le_refl _)
       have lt_at114x9 := GHeap.lt_of_get at114x9
       replace h := base_h.mono hle
       replace h' := base_h'.mono hle
       clear fs ft c10 c11 j1 j2 hm hi hms his hmt hit fshb c5b c6b i1b i2b hmb hib hmshb hishb s0 s1 s2 s3 s4 si1 si2 si3 si4
       obtain ⟨fs, ft, c10, c11, j1, j2⟩ := h.get
       have hm : MemN _ _ _ _ _ := ⟨rfl, h.1⟩
       have hi := h.2
       have hms : MemN _ _ _ _ _ := ⟨rfl, fs.1⟩
       have his := fs.2
       have hmt : MemN _ _ _ _ _ := ⟨rfl, ft.1⟩
       have hit := ft.2
       obtain ⟨fshb, c5b, c6b, i1b, i2b⟩ := h'.get
       have hmb : MemN _ _ _ _ _ := ⟨rfl, h'.1⟩
       have hib := h'.2
       have hmshb : MemN _ _ _ _ _ := ⟨rfl, fshb.1⟩
       have hishb := fshb.2
       obtain ⟨s0, s1, s2, s3, s4, si1, si2, si3, si4⟩ := fs.get
       clear i21
       have i21 := v21.intss
       clear mm23
       have mm23 : MemN _ _ _ _ _ := ⟨rfl, Mem.of_get at23⟩
       clear i43
       have i43 := Ints.of_get at43
       clear u2
       have u2 := i2b.2 a (by omega)
       clear i81
       have i81 := Ints.of_get at81
       refine .callQ1 rfl rfl rfl rfl rfl @Try.call96 rfl (key_c (xs := lcT k a ((k.t.hom (k.ob.getD (k.s.tgt.getD a 0).toNat 0) y).getD i 0) e) (by assumption) (Ints.of_get (xs := lcT k a ((k.t.hom (k.ob.getD (k.s.tgt.getD a 0).toNat 0) y).getD i 0) e) (by assumption)) rfl (fun j hj => kb1.2 j hj) (by show 3 ≤ 1000; omega)) hbl ?_
       refine .m rfl rfl rfl rfl hbl (.lookupS mps_117_Ke zv_2_Pb rfl rfl (by assumption)) ?_
       refine .callQ1 rfl rfl rfl rfl rfl @Try.call96 rfl (key_c (xs := lcU k f a ((k.t.hom (k.ob.getD (k.s.tgt.getD a 0).toNat 0) y).getD i 0) e) (by assumption) (Ints.of_get (xs := lcU k f a ((k.t.hom (k.ob.getD (k.s.tgt.getD a 0).toNat 0) y).getD i 0) e) (by assumption)) rfl (fun j hj => kb2.2 j hj) (by show 3 ≤ 1000; omega)) (.refl _) ?_
       refine .m rfl rfl rfl rfl (.refl _) (.lookupS mps_117_Ke zv_2_Pb rfl rfl (by assumption)) ?_
       refine .call0 rfl rfl rfl rfl rfl @Try.call95 rfl (join_c (hK := hJ)) ?_
       rintro _ H128x14 ⟨⟨b128x14, rfl⟩, st128x14, js128x14, at128x14, hK128x14⟩
       have nx_H128x14 := st128x14.nx
       replace hle := hle.st st128x14 (fun k hk => ⟨by omega, trivial⟩)
       replace lst1 := lst1.st st128x14 (fun k hk ho => by simp only [out, and_true] at ho ⊢ <;> first | omega | (first | exact ho | exact ho.1 | exact ho.2 | exact ho.2.1 | exact ho.2.2 | exact ho.2.2.1 | exact ho.2.2.2))
       replace lst2 := lst2.st st128x14 (fun k hk ho => by simp only [out, and_true] at ho ⊢ <;> first | omega | (first | exact ho | exact ho.1 | exact ho.2 | exact ho.2.1 | exact ho.2.2 | exact ho.2.2.1 | exact ho.2.2.2))
       replace lst3 := lst3.st st128x14 (fun k hk ho => by simp only [out, and_true] at ho ⊢ <;> first | omega | (first | exact ho | exact ho.1 | exact ho.2 | exact ho.2.1 | exact ho.2.2 | exact ho.2.2.1 | exact ho.2.2.2))
       replace hf0 := hf0.st st128x14 (fun k hk ho => by simp only [out, and_true] at ho ⊢ <;> first | omega | (first | exact ho | exact ho.1 | exact ho.2 | exact ho.2.1 | exact ho.2.2 | exact ho.2.2.1 | exact ho.2.2.2))
       replace at35 := st128x14.same _ _ ⟨ne_g35_g43, trivial⟩ at35
       replace at4008 := st128x14.same _ _ ⟨ne_g23_g43, trivial⟩ at4008
       replace at81 := st128x14.same _ _ ⟨ne_g81_g43, trivial⟩ at81
       have ne_g124x5_g43 : g124x5 ≠ g43 := by omega
       replace at124x5 := st128x14.same _ _ ⟨ne_g124x5_g43, trivial⟩ at124x5
       have ne_g125x14_g43 : g125x14 ≠ g43 := by omega
       replace at125x14 := st128x14.same _ _ ⟨ne_g125x14_g43, trivial⟩ at125x14
       have ne_g113x5_g43 : g113x5 ≠ g43 := by omega
       replace at113x5 := st128x14.same _ _ ⟨ne_g113x5_g43, trivial⟩ at113x5
       have ne_g114x9_g43 : g114x9 ≠ g43 := by omega
       replace at114x9 := st128x14.same _ _ ⟨ne_g114x9_g43, trivial⟩ at114x9
       replace lv_v21 := Keep.st lv_v21 st128x14 (fun k hb hk => ⟨by omega, trivial⟩)
       replace v21 := bs_v21.keep lv_v21 (Nat.le_refl _)
       have lt_at128x14 := GHeap.lt_of_get at128x14
       replace h := base_h.mono hle
       replace h' := base_h'.mono hle
       clear fs ft c10 c11 j1 j2 hm hi hms his hmt hit fshb c5b c6b i1b i2b hmb hib hmshb hishb s0 s1 s2 s3 s4 si1 si2 si3 si4
       obtain ⟨fs, ft, c10, c11, j1, j2⟩ := h.get
       have hm : MemN _ _ _ _ _ := ⟨rfl, h.1⟩
       have hi := h.2
       have hms : MemN _ _ _ _ _ := ⟨rfl, fs.1⟩
       have his := fs.2
       have hmt : MemN _ _ _ _ _ := ⟨rfl, ft.1⟩
       have hit := ft.2
       obtain ⟨fshb, c5b, c6b, i1b, i2b⟩ := h'.get
       have hmb : MemN _ _ _ _ _ := ⟨rfl, h'.1⟩
       have hib := h'.2
       have hmshb : MemN _ _ _ _ _ := ⟨rfl, fshb.1⟩
       have hishb := fshb.2
       obtain ⟨s0, s1, s2, s3, s4, si1, si2, si3, si4⟩ := fs.get
       clear i21
       have i21 := v21.intss
       clear mm23
       have mm23 : MemN _ _ _ _ _ := ⟨rfl, Mem.of_get at23⟩
       clear i43
       have i43 := Ints.of_get at43
       clear u2
       have u2 := i2b.2 a (by omega)
       clear i81
       have i81 := Ints.of_get at81
       refine .done ?_
       exact ⟨_, ⟨rfl, rfl, rfl, rfl, rfl, rfl, rfl, rfl, rfl, rfl, rfl, rfl, rfl, rfl, rfl, rfl, rfl, rfl, rfl, rfl, rfl, rfl, rfl, rfl, trivial⟩, hf0, at128x14, (by rw [hp1, hp2] at hK128x14; exact hK128x14)⟩
      refine .c1 rfl rfl rfl rfl (.litR rfl sl_23_B ze_22_E rfl rfl (by omega) (by omega) rfl rfl) ?_
      rintro _ H125x15 ⟨g125x15, rfl, le125x15, ge125x15, at125x15⟩
      replace hbl := hbl.trans le125x15
      refine ⟨hbl, ?_⟩
      have nx_H125x15 := le125x15.1
      replace hle := hle.trans le125x15
      replace lst1 := lst1.le le125x15
      replace lst2 := lst2.le le125x15
      replace lst3 := lst3.le le125x15
      replace hf0 := hf0.le le125x15
      replace at35 := le125x15.2 _ _ at35
      replace at4008 := le125x15.2 _ _ at4008
      replace at81 := le125x15.2 _ _ at81
      replace at_L9 := le125x15.2 _ _ at_L9
      replace at124x5 := le125x15.2 _ _ at124x5
      replace lv_v21 := Keep.le lv_v21 le125x15
      replace v21 := bs_v21.keep lv_v21 (Nat.le_refl _)
      have lt_at125x15 := GHeap.lt_of_get at125x15
      replace h := base_h.mono hle
      replace h' := base_h'.mono hle
      clear fs ft c10 c11 j1 j2 hm hi hms his hmt hit fshb c5b c6b i1b i2b hmb hib hmshb hishb s0 s1 s2 s3 s4 si1 si2 si3 si4
      obtain ⟨fs, ft, c10, c11, j1, j2⟩ := h.get
      have hm : MemN _ _ _ _ _ := ⟨rfl, h.1⟩
      have hi := h.2
      have hms : MemN _ _ _ _ _ := ⟨rfl, fs.1⟩
      have his := fs.2
      have hmt : MemN _ _ _ _ _ := ⟨rfl, ft.1⟩
      have hit := ft.2
      obtain ⟨fshb, c5b, c6b, i1b, i2b⟩ := h'.get
      have hmb : MemN _ _ _ _ _ := ⟨rfl, h'.1⟩
      have hib := h'.2
      have hmshb : MemN _ _ _ _ _ := ⟨rfl, fshb.1⟩
      have hishb := fshb.2
      obtain ⟨s0, s1, s2, s3, s4, si1, si2, si3, si4⟩ := fs.get
      clear i21
      have i21 := v21.intss
      clear mm23
      have mm23 : MemN _ _ _ _ _ := ⟨rfl, Mem.of_get at23⟩
      clear i43
      have i43 := Ints.of_get at43
      clear u2
      have u2 := i2b.2 a (by omega)
      clear i81
      have i81 := Ints.of_get at81
      refine .callQ1 rfl rfl rfl rfl rfl @Try.call65 rfl (then_s) hbl ?_
      refine .c1 rfl rfl rfl rfl (.litR rfl sl_22_A ze_2_E rfl rfl (by omega) (by omega) rfl rfl) ?_
      rintro _ H113x6 ⟨g113x6, rfl, le113x6, ge113x6, at113x6⟩
      replace hbl := hbl.trans le113x6
      refine ⟨hbl, ?_⟩
      have nx_H113x6 := le113x6.1
      replace hle := hle.trans le113x6
      replace lst1 := lst1.le le113x6
      replace lst2 := lst2.le le113x6
      replace lst3 := lst3.le le113x6
      replace hf0 := hf0.le le113x6
      replace at35 := le113x6.2 _ _ at35
      replace at4008 := le113x6.2 _ _ at4008
      replace at81 := le113x6.2 _ _ at81
      replace at_L9 := le113x6.2 _ _ at_L9
      replace at124x5 := le113x6.2 _ _ at124x5
      replace at125x15 := le113x6.2 _ _ at125x15
      replace lv_v21 := Keep.le lv_v21 le113x6
      replace v21 := bs_v21.keep lv_v21 (Nat.le_refl _)
      have lt_at113x6 := GHeap.lt_of_get at113x6
      replace h := base_h.mono hle
      replace h' := base_h'.mono hle
      clear fs ft c10 c11 j1 j2 hm hi hms his hmt hit fshb c5b c6b i1b i2b hmb hib hmshb hishb s0 s1 s2 s3 s4 si1 si2 si3 si4
      obtain ⟨fs, ft, c10, c11, j1, j2⟩ := h.get
      have hm : MemN _ _ _ _ _ := ⟨rfl, h.1⟩
      have hi := h.2
      have hms : MemN _ _ _ _ _ := ⟨rfl, fs.1⟩
      have his := fs.2
      have hmt : MemN _ _ _ _ _ := ⟨rfl, ft.1⟩
      have hit := ft.2
      obtain ⟨fshb, c5b, c6b, i1b, i2b⟩ := h'.get
      have hmb : MemN _ _ _ _ _ := ⟨rfl, h'.1⟩
      have hib := h'.2
      have hmshb : MemN _ _ _ _ _ := ⟨rfl, fshb.1⟩
      have hishb := fshb.2
      obtain ⟨s0, s1, s2, s3, s4, si1, si2, si3, si4⟩ := fs.get
      clear i21
      have i21 := v21.intss
      clear mm23
      have mm23 : MemN _ _ _ _ _ := ⟨rfl, Mem.of_get at23⟩
      clear i43
      have i43 := Ints.of_get at43
      clear u2
      have u2 := i2b.2 a (by omega)
      clear i81
      have i81 := Ints.of_get at81
      refine .c1 rfl rfl rfl rfl (.litR rfl sl_23_B ze_22_E rfl rfl (by omega) (by omega) rfl rfl) ?_
      rintro _ H114x10 ⟨g114x10, rfl, le114x10, ge114x10, at114x10⟩
      replace hbl := hbl.trans le114x10
      refine ⟨hbl, ?_⟩
      have nx_H114x10 := le114x10.1
      replace hle := hle.trans le114x10
      replace lst1 := lst1.le le114x10
      replace lst2 := lst2.le le114x10
      replace lst3 := lst3.le le114x10
      replace hf0 := hf0.le le114x10
      replace at35 := le114x10.2 _ _ at35
      replace at4008 := le114x10.2 _ _ at4008
      replace at81 := le114x10.2 _ _ at81
      replace at_L9 := le114x10.2 _ _ at_L9
      replace at124x5 := le114x10.2 _ _ at124x5
      replace at125x15 := le114x10.2 _ _ at125x15
      replace at113x6 := le114x10.2 _ _ at113x6
      replace lv_v21 := Keep.le lv_v21 le114x10
      replace v21 := bs_v21.keep lv_v21 (Nat.le_refl _)
      have lt_at114x10 := GHeap.lt_of_get at114x10
      replace h := base_h.mono hle
      replace h' := base_h'.mono hle
      clear fs ft c10 c11 j1 j2 hm hi hms his hmt hit fshb c5b c6b i1b i2b hmb hib hmshb hishb s0 s1 s2 s3 s4 si1 si2 si3 si4
      obtain ⟨fs, ft, c10, c11, j1, j2⟩ := h.get
      have hm : MemN _ _ _ _ _ := ⟨rfl, h.1⟩
      have hi := h.2
      have hms : MemN _ _ _ _ _ := ⟨rfl, fs.1⟩
      have his := fs.2
      have hmt : MemN _ _ _ _ _ := ⟨rfl, ft.1⟩
      have hit := ft.2
      obtain ⟨fshb, c5b, c6b, i1b, i2b⟩ := h'.get
      have hmb : MemN _ _ _ _ _ := ⟨rfl, h'.1⟩
      have hib := h'.2
      have hmshb : MemN _ _ _ _ _ := ⟨rfl, fshb.1⟩
      have hishb := fshb.2
      obtain ⟨s0, s1, s2, s3, s4, si1, si2, si3, si4⟩ := fs.get
      clear i21
      have i21 := v21.intss
      clear mm23
      have mm23 : MemN _ _ _ _ _ := ⟨rfl, Mem.of_get at23⟩
      clear i43
      have i43 := Ints.of_get at43
      clear u2
      have u2 := i2b.2 a (by omega)
      clear i81
      have i81 := Ints.of_get at81
      refine .callQ1 rfl rfl rfl rfl rfl @Try.call96 rfl (key_c (xs := lcT k a ((k.t.hom (k.ob.getD (k.s.tgt.getD a 0).toNat 0) y).getD i 0) e) (by assumption) (Ints.of_get (xs := lcT k a ((k.t.hom (k.ob.getD (k.s.tgt.getD a 0).toNat 0) y).getD i 0) e) (by assumption)) rfl (fun j hj => kb1.2 j hj) (by show 3 ≤ 1000; omega)) hbl ?_
      refine .m rfl rfl rfl rfl hbl (.lookupS mps_117_Ke zv_2_Pb rfl rfl (by assumption)) ?_
      refine .callQ1 rfl rfl rfl rfl rfl @Try.call96 rfl (key_c (xs := lcU k f a ((k.t.hom (k.ob.getD (k.s.tgt.getD a 0).toNat 0) y).getD i 0) e) (by assumption) (Ints.of_get (xs := lcU k f a ((k.t.hom (k.ob.getD (k.s.tgt.getD a 0).toNat 0) y).getD i 0) e) (by assumption)) rfl (fun j hj => kb2.2 j hj) (by show 3 ≤ 1000; omega)) (.refl _) ?_
      refine .m rfl rfl rfl rfl (.refl _) (.lookupS mps_117_Ke zv_2_Pb rfl rfl (by assumption)) ?_
      refine .call0 rfl rfl rfl rfl rfl @Try.call95 rfl (join_c (hK := hJ)) ?_
      rintro _ H128x15 ⟨⟨b128x15, rfl⟩, st128x15, js128x15, at128x15, hK128x15⟩
      have nx_H128x15 := st128x15.nx
      replace hle := hle.st st128x15 (fun k hk => ⟨by omega, trivial⟩)
      replace lst1 := lst1.st st128x15 (fun k hk ho => by simp only [out, and_true] at ho ⊢ <;> first | omega | (first | exact ho | exact ho.1 | exact ho.2 | exact ho.2.1 | exact ho.2.2 | exact ho.2.2.1 | exact ho.2.2.2))
      replace lst2 := lst2.st st128x15 (fun k hk ho => by simp only [out, and_true] at ho ⊢ <;> first | omega | (first | exact ho | exact ho.1 | exact ho.2 | exact ho.2.1 | exact ho.2.2 | exact ho.2.2.1 | exact ho.2.2.2))
      replace lst3 := lst3.st st128x15 (fun k hk ho => by simp only [out, and_true] at ho ⊢ <;> first | omega | (first | exact ho | exact ho.1 | exact ho.2 | exact ho.2.1 | exact ho.2.2 | exact ho.2.2.1 | exact ho.2.2.2))
      replace hf0 := hf0.st st128x15 (fun k hk ho => by simp only [out, and_true] at ho ⊢ <;> first | omega | (first | exact ho | exact ho.1 | exact ho.2 | exact ho.2.1 | exact ho.2.2 | exact ho.2.2.1 | exact ho.2.2.2))
      replace at35 := st128x15.same _ _ ⟨ne_g35_g43, trivial⟩ at35
      replace at4008 := st128x15.same _ _ ⟨ne_g23_g43, trivial⟩ at4008
      replace at81 := st128x15.same _ _ ⟨ne_g81_g43, trivial⟩ at81
      have ne_g124x5_g43 : g124x5 ≠ g43 := by omega
      replace at124x5 := st128x15.same _ _ ⟨ne_g124x5_g43, trivial⟩ at124x5
      have ne_g125x15_g43 : g125x15 ≠ g43 := by omega
      replace at125x15 := st128x15.same _ _ ⟨ne_g125x15_g43, trivial⟩ at125x15
      have ne_g113x6_g43 : g113x6 ≠ g43 := by omega
      replace at113x6 := st128x15.same _ _ ⟨ne_g113x6_g43, trivial⟩ at113x6
      have ne_g114x10_g43 : g114x10 ≠ g43 := by omega
      replace at114x10 := st128x15.same _ _ ⟨ne_g114x10_g43, trivial⟩ at114x10
      replace lv_v21 := Keep.st lv_v21 st128x15 (fun k hb hk => ⟨by omega, trivial⟩)
      replace v21 := bs_v21.keep lv_v21 (Nat.le_refl _)
      have lt_at128x15 := GHeap.lt_of_get at128x15
      replace h := base_h.mono hle
      replace h' := base_h'.mono hle
      clear fs ft c10 c11 j1 j2 hm hi hms his hmt hit fshb c5b c6b i1b i2b hmb hib hmshb hishb s0 s1 s2 s3 s4 si1 si2 si3 si4
      obtain ⟨fs, ft, c10, c11, j1, j2⟩ := h.get
      have hm : MemN _ _ _ _ _ := ⟨rfl, h.1⟩
      have hi := h.2
      have hms : MemN _ _ _ _ _ := ⟨rfl, fs.1⟩
      have his := fs.2
      have hmt : MemN _ _ _ _ _ := ⟨rfl, ft.1⟩
      have hit := ft.2
      obtain ⟨fshb, c5b, c6b, i1b, i2b⟩ := h'.get
      have hmb : MemN _ _ _ _ _ := ⟨rfl, h'.1⟩
      have hib := h'.2
      have hmshb : MemN _ _ _ _ _ := ⟨rfl, fshb.1⟩
      have hishb := fshb.2
      obtain ⟨s0, s1, s2, s3, s4, si1, si2, si3, si4⟩ := fs.get
      clear i21
      have i21 := v21.intss
      clear mm23
      have mm23 : MemN _ _ _ _ _ := ⟨rfl, Mem.of_get at23⟩
      clear i43
      have i43 := Ints.of_get at43
      clear u2
      have u2 := i2b.2 a (by omega)
      clear i81
      have i81 := Ints.of_get at81
      refine .done ?_
      exact ⟨_, ⟨rfl, rfl, rfl, rfl, rfl, rfl, rfl, rfl, rfl, rfl, rfl, rfl, rfl, rfl, rfl, rfl, rfl, rfl, rfl, rfl, rfl, rfl, rfl, rfl, trivial⟩, hf0, at128x15, (by rw [hp1, hp2] at hK128x15; exact hK128x15)⟩
     rintro fr916 H916 ⟨js916, hsub916, st916, at916, hK916⟩
     have nx_H916 := st916.nx
     replace hle := hle.st st916 (fun k hk => ⟨by omega, trivial⟩)
     replace lst1 := lst1.st st916 (fun k hk ho => by simp only [out, and_true] at ho ⊢ <;> first | omega | (first | exact ho | exact ho.1 | exact ho.2 | exact ho.2.1 | exact ho.2.2 | exact ho.2.2.1 | exact ho.2.2.2))
     replace lst2 := lst2.st st916 (fun k hk ho => by simp only [out, and_true] at ho ⊢ <;> first | omega | (first | exact ho | exact ho.1 | exact ho.2 | exact ho.2.1 | exact ho.2.2 | exact ho.2.2.1 | exact ho.2.2.2))
     replace lst3 := lst3.st st916 (fun k hk ho => by simp only [out, and_true] at ho ⊢ <;> first | omega | (first | exact ho | exact ho.1 | exact ho.2 | exact ho.2.1 | exact ho.2.2 | exact ho.2.2.1 | exact ho.2.2.2))
     replace at35 := st916.same _ _ ⟨ne_g35_g43, trivial⟩ at35
     replace at4008 := st916.same _ _ ⟨ne_g23_g43, trivial⟩ at4008
     replace at81 := st916.same _ _ ⟨ne_g81_g43, trivial⟩ at81
     replace lv_v21 := Keep.st lv_v21 st916 (fun k hb hk => ⟨by omega, trivial⟩)
     replace v21 := bs_v21.keep lv_v21 (Nat.le_refl _)
     have lt_at916 := GHeap.lt_of_get at916
     replace h := base_h.mono hle
     replace h' := base_h'.mono hle
     clear fs ft c10 c11 j1 j2 hm hi hms his hmt hit fshb c5b c6b i1b i2b hmb hib hmshb hishb s0 s1 s2 s3 s4 si1 si2 si3 si4
     obtain ⟨fs, ft, c10, c11, j1, j2⟩ := h.get
     have hm : MemN _ _ _ _ _ := ⟨rfl, h.1⟩
     have hi := h.2
     have hms : MemN _ _ _ _ _ := ⟨rfl, fs.1⟩
     have his := fs.2
     have hmt : MemN _ _ _ _ _ := ⟨rfl, ft.1⟩
     have hit := ft.2
     obtain ⟨fshb, c5b, c6b, i1b, i2b⟩ := h'.get
     have hmb : MemN _ _ _ _ _ := ⟨rfl, h'.1⟩
     have hib := h'.2
     have hmshb : MemN _ _ _ _ _ := ⟨rfl, fshb.1⟩
     have hishb := fshb.2
     obtain ⟨s0, s1, s2, s3, s4, si1, si2, si3, si4⟩ := fs.get
     clear i21
     have i21 := v21.intss
     clear mm23
     have mm23 : MemN _ _ _ _ _ := ⟨rfl, Mem.of_get at23⟩
     clear i43
     have i43 := Ints.of_get at43
     clear u2
     have u2 := i2b.2 a (by omega)
     clear i81
     have i81 := Ints.of_get at81
     refine hK22 _ _ ?_
     refine .forget hsub916 ?_
     refine .region ?_
     refine .m rfl rfl rfl (.add rfl rfl rfl (by omega) (by omega)) ?_
     refine .m rfl rfl rfl (.move rfl) (.nil ?_)
     refine hKL3 ((e + 1, js916)) _ _ ?_ ?_ ⟨rfl, rfl, rfl, rfl, rfl, rfl, rfl, rfl, rfl, rfl, rfl, rfl, rfl, rfl, rfl, rfl, rfl, rfl, trivial⟩
     ·
      refine ⟨lst3, by assumption, ?_⟩
      exact ⟨by omega, by rw [lcI_snoc, joinK_snoc, hpr]; exact hK916⟩
     (dsimp only; omega)
    try simp only [sps] at h90
    refine .exit ?_
    refine hK17 _ _ ?_
    refine .region ?_
    refine .m rfl rfl rfl (.add rfl rfl rfl (by omega) (by omega)) ?_
    refine .m rfl rfl rfl (.move rfl) (.nil ?_)
    obtain rfl : e = (f.ac.getD a []).length := by omega
    refine hKL2 ((i + 1, js3)) _ _ ?_ ?_ ⟨rfl, rfl, rfl, rfl, rfl, rfl, rfl, rfl, rfl, rfl, rfl, rfl, rfl, rfl, trivial⟩
    ·
     refine ⟨lst2, by assumption, ?_⟩
     exact ⟨by omega, by rw [lcI_next2]; exact hJ⟩
    (dsimp only; omega)
   try simp only [sps] at h84
   refine .exit ?_
   refine hK11 _ _ ?_
   refine .region ?_
   refine .m rfl rfl rfl (.add rfl rfl rfl (by omega) (by omega)) ?_
   refine .m rfl rfl rfl (.move rfl) (.nil ?_)
   obtain rfl : i = (k.t.hom (k.ob.getD (k.s.tgt.getD a 0).toNat 0) y).length := by omega
   refine hKL1 ((a + 1, js2)) _ _ ?_ ?_ ⟨rfl, rfl, rfl, rfl, rfl, rfl, rfl, trivial⟩
   ·
    refine ⟨lst1, by assumption, ?_⟩
    exact ⟨by omega, by rw [lcI_next1]; exact hJ⟩
   (dsimp only; omega)
  try simp only [sps] at h50
  refine .exit ?_
  refine hK7 _ _ ?_
  refine .seq (fun K24 hK24 => ?_)
  refine .region (.m rfl rfl rfl (.move rfl) (.m rfl rfl rfl (.move rfl) ?_))
  refine .call rfl rfl rfl rfl @Try.call97 rfl (partition_c (hK := hJ)) ?_
  rintro _ H134 ⟨g134, rfl, st134, ge134, at134⟩
  have nx_H134 := st134.nx
  replace hle := hle.st st134 (fun k hk => ⟨by omega, trivial⟩)
  replace lst1 := lst1.st st134 (fun k hk ho => by simp only [out, and_true] at ho ⊢ <;> first | omega | (first | exact ho | exact ho.1 | exact ho.2 | exact ho.2.1 | exact ho.2.2 | exact ho.2.2.1 | exact ho.2.2.2))
  replace at35 := st134.same _ _ ⟨ne_g35_g43, trivial⟩ at35
  replace at4008 := st134.same _ _ ⟨ne_g23_g43, trivial⟩ at4008
  replace lv_v21 := Keep.st lv_v21 st134 (fun k hb hk => ⟨by omega, trivial⟩)
  replace v21 := bs_v21.keep lv_v21 (Nat.le_refl _)
  have lt_at134 := GHeap.lt_of_get at134
  replace h := base_h.mono hle
  replace h' := base_h'.mono hle
  clear fs ft c10 c11 j1 j2 hm hi hms his hmt hit fshb c5b c6b i1b i2b hmb hib hmshb hishb s0 s1 s2 s3 s4 si1 si2 si3 si4
  obtain ⟨fs, ft, c10, c11, j1, j2⟩ := h.get
  have hm : MemN _ _ _ _ _ := ⟨rfl, h.1⟩
  have hi := h.2
  have hms : MemN _ _ _ _ _ := ⟨rfl, fs.1⟩
  have his := fs.2
  have hmt : MemN _ _ _ _ _ := ⟨rfl, ft.1⟩
  have hit := ft.2
  obtain ⟨fshb, c5b, c6b, i1b, i2b⟩ := h'.get
  have hmb : MemN _ _ _ _ _ := ⟨rfl, h'.1⟩
  have hib := h'.2
  have hmshb : MemN _ _ _ _ _ := ⟨rfl, fshb.1⟩
  have hishb := fshb.2
  obtain ⟨s0, s1, s2, s3, s4, si1, si2, si3, si4⟩ := fs.get
  clear i21
  have i21 := v21.intss
  clear mm23
  have mm23 : MemN _ _ _ _ _ := ⟨rfl, Mem.of_get at23⟩
  clear i43
  have i43 := Ints.of_get at43
  refine .m rfl rfl rfl (.nilCheck rfl) (.m rfl rfl rfl (.fieldAddr fo_119_2_Lc rfl) ?_)
  refine .r0 rfl rfl (.storeR rfl sz_106_Lc rfl rfl rfl (by assumption) (by first | exact Nat.le_of_ble_eq_true rfl | (simp; done) | (simp <;> omega))) ?_
  rintro _ H20005 ⟨rfl, st20005, at20005⟩
  have nx_H20005 := st20005.nx
  replace hle := hle.st st20005 (fun k hk => ⟨by omega, trivial⟩)
  replace at35 := st20005.same _ _ ⟨ne_g35_g23, trivial⟩ at35
  have ne_g134_g23 : g134 ≠ g23 := by omega
  replace at134 := st20005.same _ _ ⟨ne_g134_g23, trivial⟩ at134
  replace lv_v21 := Keep.st lv_v21 st20005 (fun k hb hk => ⟨by omega, trivial⟩)
  replace v21 := bs_v21.keep lv_v21 (Nat.le_refl _)
  have lt_at20005 := GHeap.lt_of_get at20005
  replace h := base_h.mono hle
  replace h' := base_h'.mono hle
  clear fs ft c10 c11 j1 j2 hm hi hms his hmt hit fshb c5b c6b i1b i2b hmb hib hmshb hishb s0 s1 s2 s3 s4 si1 si2 si3 si4
  obtain ⟨fs, ft, c10, c11, j1, j2⟩ := h.get
  have hm : MemN _ _ _ _ _ := ⟨rfl, h.1⟩
  have hi := h.2
  have hms : MemN _ _ _ _ _ := ⟨rfl, fs.1⟩
  have his := fs.2
  have hmt : MemN _ _ _ _ _ := ⟨rfl, ft.1⟩
  have hit := ft.2
  obtain ⟨fshb, c5b, c6b, i1b, i2b⟩ := h'.get
  have hmb : MemN _ _ _ _ _ := ⟨rfl, h'.1⟩
  have hib := h'.2
  have hmshb : MemN _ _ _ _ _ := ⟨rfl, fshb.1⟩
  have hishb := fshb.2
  obtain ⟨s0, s1, s2, s3, s4, si1, si2, si3, si4⟩ := fs.get
  clear i21
  have i21 := v21.intss
  clear mm23
  have mm23 : MemN _ _ _ _ _ := ⟨rfl, Mem.of_get at23⟩
  clear i43
  have i43 := Ints.of_get at43
  try simp only [Nat.zero_add, List.set_cons_succ, List.set_cons_zero] at at20005
  refine .nil ?_
  refine hK24 _ _ ?_
  refine .seq (fun K25 hK25 => ?_)
  refine .region (.m rfl rfl rfl (.move rfl) (.m rfl rfl rfl (.assign rfl) (.m rfl rfl rfl (.assign rfl) ?_)))
  refine .nil ?_
  refine hK25 _ _ ?_
  refine .ret ?_
  refine hret _ _ ?_
  refine ⟨_, _, rfl, rfl, ?_⟩
  obtain rfl : a = k.s.src.length := by omega
  rw [hnl] at at20005 at134
  exact ⟨hle, g23, g134, _, _, _, rfl, at20005, at134, by omega⟩
set_option maxHeartbeats 4000000 in
theorem leftClasses1_c {g o' g' o1 : Nat} {k : Fun} {p : FunP} {f : SFun} {q : SFunP} {y : Int} {H : GHeap} (h : Fun.At H g o' k p) (h' : SFun.At H g' o1 f q) (o : LcOk k f) (hL : ¬ (lcE k f y).length ≤ 256) :
    GCalls Try.prog 83 [.pointer (some ⟨g, o', none⟩), .pointer (some ⟨g', o1, none⟩), .int .i64 y] H (Ret (.tuple #[.pointer none, .bool false]) H) := by
  refine GCalls.ret rfl ?_
  have hKI := o.hk
  have hFI := o.hf
  obtain ⟨l1, l2, l3, l4, l5, l6, l7⟩ := o.len
  refine GCalls.body (N := 138) (rs := [.tmp 6, .tmp 7]) Try.func83 rfl rfl rfl rfl (fun Qx hret hend => ?_)
  refine .forget (fr' := [(0, some _), (1, some _), (2, some _)]) ⟨rfl, rfl, rfl, trivial⟩ ?_
  have hle := GHeap.Le.refl H
  have base_h := h
  have base_h' := h'
  have hL' : ¬ (leL k f y k.ob.length 0 0).length ≤ 256 := hL
  refine .seq (fun K1 hK1 => ?_)
  refine .region (.m rfl rfl rfl (.assign rfl) (.m rfl rfl rfl (.assign rfl) (.nil ?_)))
  refine hK1 _ _ ?_
  refine .seq (fun K2 hK2 => ?_)
  refine .region (.m rfl rfl rfl (.move rfl) (.m rfl rfl rfl (.move rfl) (.m rfl rfl rfl (.move rfl) ?_)))
  refine .call rfl rfl rfl rfl @Try.call128 rfl (leftEntries_c (hI := hKI) (hI' := hFI) (hn := l1)) ?_
  rintro _ H21 ⟨le21, a21, r21, rfl, v21⟩
  have nx_H21 := le21.1
  replace hle := hle.trans le21
  have bs_v21 := v21
  have lv_v21 : Keep H.next H21 H21 := fun _ _ _ h => h
  replace h := base_h.mono hle
  replace h' := base_h'.mono hle
  have i21 := v21.intss
  refine .m rfl rfl rfl (.build bt_119_Lc rfl rfl rfl) ?_
  refine .r rfl rfl rfl (.boxR rfl sz_119_Lc rfl) ?_
  rintro _ H23 ⟨g23, rfl, le23, ge23, at23⟩
  have nx_H23 := le23.1
  replace hle := hle.trans le23
  replace lv_v21 := Keep.le lv_v21 le23
  replace v21 := bs_v21.keep lv_v21 (Nat.le_refl _)
  have lt_at23 := GHeap.lt_of_get at23
  replace h := base_h.mono hle
  replace h' := base_h'.mono hle
  clear i21
  have i21 := v21.intss
  have mm23 : MemN _ _ _ _ _ := ⟨rfl, Mem.of_get at23⟩
  refine .m rfl rfl rfl (.assign rfl) (.nil ?_)
  refine hK2 _ _ ?_
  refine .seq (fun K3 hK3 => ?_)
  refine .seq (fun K4 hK4 => ?_)
  refine .region (.m rfl rfl rfl (.move rfl) (.m rfl rfl rfl (.nilCheck rfl) (.m rfl rfl rfl (.fieldAddr fo_119_0_Lc rfl) ?_)))
  refine .m rfl rfl rfl (.load on_23_B rfl (by first | assumption | exact Mem.of_get at23 0 _ rfl)) ?_
  refine .m rfl rfl rfl (.len sl_23_B rfl) (.m rfl rfl rfl (.cmp rfl rfl rfl) (.nil ?_))
  refine hK4 _ _ ?_
  refine .cond rfl (fun h29 => ?_) (fun h29 => ?_)
  ·
   try simp only [sps] at h29
   refine .seq (fun K5 hK5 => ?_)
   refine .region (.m rfl rfl rfl (.assign rfl) (.m rfl rfl rfl (.assign rfl) (.nil ?_)))
   refine hK5 _ _ ?_
   refine .ret ?_
   refine hret _ _ ?_
   refine ⟨_, _, rfl, rfl, ?_⟩
   exact ⟨rfl, hle⟩
  simp only [sps] at h29; omega
theorem specLeftClasses_c {k : Fun} {p : FunP} {f : SFun} {q : SFunP} {y : Int} {H : GHeap} (hin : k.In H p := by assumption) (hin1 : f.In H q := by assumption) (hs : k.Small := by assumption) (hs1 : f.Small := by assumption) :
    GCalls Try.prog 34 [.agg (k.cells p).toArray, .agg (f.cells q).toArray, .int .i64 y] H (fun v H' => H.Le H' ∧ ∃ a, v = .tuple #[.slice a (lcR k f y).length (lcR k f y).length, .int .i64 (lcC k f y)] ∧ IntsR H.next H' a (lcR k f y)) := by
  refine GCalls.body (N := 28) (rs := [.tmp 6, .tmp 7]) Try.func34 rfl rfl rfl rfl (fun Qx hret hend => ?_)
  refine .forget (fr' := [(0, some _), (1, some _), (2, some _)]) ⟨rfl, rfl, rfl, trivial⟩ ?_
  have hle := GHeap.Le.refl H
  have base_hin := hin
  have base_hin1 := hin1
  refine .seq (fun K1 hK1 => ?_)
  refine .region ?_
  refine .r rfl rfl rfl (.boxR rfl sz_62_E rfl) ?_
  rintro _ H3 ⟨g3, rfl, le3, ge3, at3⟩
  have nx_H3 := le3.1
  replace hle := hle.trans le3
  have lt_at3 := GHeap.lt_of_get at3
  replace hin := base_hin.mono hle
  replace hin1 := base_hin1.mono hle
  have hb3 : Fun.At _ g3 0 k p := ⟨Mem.of_get at3, hin⟩
  obtain ⟨fs3, ft3, c103, c113, j13, j23⟩ := hb3.get
  have hm3 : MemN _ _ _ _ _ := ⟨rfl, hb3.1⟩
  have hi3 := hb3.2
  have hms3 : MemN _ _ _ _ _ := ⟨rfl, fs3.1⟩
  have his3 := fs3.2
  have hmt3 : MemN _ _ _ _ _ := ⟨rfl, ft3.1⟩
  have hit3 := ft3.2
  refine .r rfl rfl rfl (.boxR rfl sz_65_VSFun rfl) ?_
  rintro _ H4 ⟨g4, rfl, le4, ge4, at4⟩
  have nx_H4 := le4.1
  replace hle := hle.trans le4
  replace at3 := le4.2 _ _ at3
  have lt_at4 := GHeap.lt_of_get at4
  replace hin := base_hin.mono hle
  replace hin1 := base_hin1.mono hle
  clear hb3 fs3 ft3 c103 c113 j13 j23 hm3 hi3 hms3 his3 hmt3 hit3
  have hb3 : Fun.At _ g3 0 k p := ⟨Mem.of_get at3, hin⟩
  obtain ⟨fs3, ft3, c103, c113, j13, j23⟩ := hb3.get
  have hm3 : MemN _ _ _ _ _ := ⟨rfl, hb3.1⟩
  have hi3 := hb3.2
  have hms3 : MemN _ _ _ _ _ := ⟨rfl, fs3.1⟩
  have his3 := fs3.2
  have hmt3 : MemN _ _ _ _ _ := ⟨rfl, ft3.1⟩
  have hit3 := ft3.2
  have hb4 : SFun.At _ g4 0 f q := ⟨Mem.of_get at4, hin1⟩
  obtain ⟨fsh4, c54, c64, i14, i24⟩ := hb4.get
  have hm4 : MemN _ _ _ _ _ := ⟨rfl, hb4.1⟩
  have hi4 := hb4.2
  have hmsh4 : MemN _ _ _ _ _ := ⟨rfl, fsh4.1⟩
  have hish4 := fsh4.2
  refine .m rfl rfl rfl (.assign rfl) (.m rfl rfl rfl (.assign rfl) (.nil ?_))
  refine hK1 _ _ ?_
  refine .seq (fun K2 hK2 => ?_)
  refine .seq (fun K3 hK3 => ?_)
  refine .region ?_
  refine .m rfl rfl rfl (.loadM ag_62_E rfl ⟨rfl, Mem.of_get at3⟩) ?_
  refine .m rfl rfl rfl (.loadM ag_65_VSFun rfl ⟨rfl, Mem.of_get at4⟩) ?_
  refine .m rfl rfl rfl (.move rfl) ?_
  refine .callQ rfl rfl rfl rfl @Try.call79 rfl (l23Place_c) ?_
  refine .m rfl rfl rfl (.assign rfl) (.nil ?_)
  refine hK3 _ _ ?_
  refine .seq (fun K4 hK4 => ?_)
  refine .region (.m rfl rfl rfl (.move rfl) (.m rfl rfl rfl (.cmp rfl rfl rfl) (.nil ?_)))
  refine hK4 _ _ ?_
  refine .cond rfl (fun h15 => ?_) (fun h15 => ?_)
  ·
   simp only [sps] at h15
   refine .seq (fun K5 hK5 => ?_)
   refine .region (.m rfl rfl rfl (.move rfl) (.m rfl rfl rfl (.assign rfl) (.m rfl rfl rfl (.assign rfl) ?_)))
   refine .nil ?_
   refine hK5 _ _ ?_
   refine .ret ?_
   refine hret _ _ ?_
   refine ⟨_, _, rfl, rfl, ?_⟩
   obtain ⟨e1, e2⟩ := lc_1 h15
   rw [e1, e2]
   exact ⟨hle, none, rfl, .inl ⟨rfl, rfl⟩⟩
  simp only [sps] at h15
  refine .skip ?_
  refine hK2 _ _ ?_
  refine .seq (fun K6 hK6 => ?_)
  refine .region ?_
  obtain ⟨z1, z2, z3, z4, z5⟩ := leCode_0 h15
  have z6 := leLen z1 z2 z5
  have o : LcOk k f := ⟨z1, z2, z5⟩
  refine .m rfl rfl rfl (.loadM ag_62_E rfl ⟨rfl, Mem.of_get at3⟩) ?_
  refine .m rfl rfl rfl (.loadM ag_65_VSFun rfl ⟨rfl, Mem.of_get at4⟩) ?_
  refine .m rfl rfl rfl (.move rfl) ?_
  refine .call rfl rfl rfl rfl @Try.call80 rfl (l23Entries_c) ?_
  rintro _ H20 ⟨le20, a20, r20, rfl, v20⟩
  have nx_H20 := le20.1
  replace hle := hle.trans le20
  replace at3 := le20.2 _ _ at3
  replace at4 := le20.2 _ _ at4
  have bs_v20 := v20
  have lv_v20 : Keep H4.next H20 H20 := fun _ _ _ h => h
  replace hin := base_hin.mono hle
  replace hin1 := base_hin1.mono hle
  clear hb3 fs3 ft3 c103 c113 j13 j23 hm3 hi3 hms3 his3 hmt3 hit3
  have hb3 : Fun.At _ g3 0 k p := ⟨Mem.of_get at3, hin⟩
  obtain ⟨fs3, ft3, c103, c113, j13, j23⟩ := hb3.get
  have hm3 : MemN _ _ _ _ _ := ⟨rfl, hb3.1⟩
  have hi3 := hb3.2
  have hms3 : MemN _ _ _ _ _ := ⟨rfl, fs3.1⟩
  have his3 := fs3.2
  have hmt3 : MemN _ _ _ _ _ := ⟨rfl, ft3.1⟩
  have hit3 := ft3.2
  clear hb4 fsh4 c54 c64 i14 i24 hm4 hi4 hmsh4 hish4
  have hb4 : SFun.At _ g4 0 f q := ⟨Mem.of_get at4, hin1⟩
  obtain ⟨fsh4, c54, c64, i14, i24⟩ := hb4.get
  have hm4 : MemN _ _ _ _ _ := ⟨rfl, hb4.1⟩
  have hi4 := hb4.2
  have hmsh4 : MemN _ _ _ _ _ := ⟨rfl, fsh4.1⟩
  have hish4 := fsh4.2
  have i20 := v20.intss
  refine .m rfl rfl rfl (.assign rfl) (.nil ?_)
  refine hK6 _ _ ?_
  refine .seq (fun K7 hK7 => ?_)
  refine .seq (fun K8 hK8 => ?_)
  refine .region (.m rfl rfl rfl (.move rfl) (.m rfl rfl rfl (.len sl_23_B rfl) (.m rfl rfl rfl (.cmp rfl rfl rfl) ?_)))
  refine .nil ?_
  refine hK8 _ _ ?_
  refine .cond rfl (fun h23 => ?_) (fun h23 => ?_)
  ·
   simp only [sps] at h23
   refine .seq (fun K9 hK9 => ?_)
   refine .region (.m rfl rfl rfl (.assign rfl) (.m rfl rfl rfl (.assign rfl) (.nil ?_)))
   refine hK9 _ _ ?_
   refine .ret ?_
   refine hret _ _ ?_
   refine ⟨_, _, rfl, rfl, ?_⟩
   obtain ⟨e1, e2⟩ := lc_2 h15 (show ¬ (leL k f y k.ob.length 0 0).length ≤ 256 by omega)
   rw [e1, e2]
   exact ⟨hle, none, rfl, .inl ⟨rfl, rfl⟩⟩
  simp only [sps] at h23
  have hL : (lcE k f y).length ≤ 256 := by show (leL k f y k.ob.length 0 0).length ≤ 256; omega
  refine .skip ?_
  refine hK7 _ _ ?_
  refine .seq (fun K10 hK10 => ?_)
  refine .region ?_
  refine .m rfl rfl rfl (.loadM ag_62_E rfl ⟨rfl, Mem.of_get at3⟩) ?_
  refine .m rfl rfl rfl (.loadM ag_65_VSFun rfl ⟨rfl, Mem.of_get at4⟩) ?_
  refine .m rfl rfl rfl (.move rfl) ?_
  refine .call rfl rfl rfl rfl @Try.call81 rfl (l23Classes_c hin hin1 i20 o hL) ?_
  rintro _ H27 ⟨le27, g27, rfl, at27, ge27⟩
  have nx_H27 := le27.1
  replace hle := hle.trans le27
  replace at3 := le27.2 _ _ at3
  replace at4 := le27.2 _ _ at4
  replace lv_v20 := Keep.le lv_v20 le27
  replace v20 := bs_v20.keep lv_v20 (Nat.le_refl _)
  have lt_at27 := GHeap.lt_of_get at27
  replace hin := base_hin.mono hle
  replace hin1 := base_hin1.mono hle
  clear hb3 fs3 ft3 c103 c113 j13 j23 hm3 hi3 hms3 his3 hmt3 hit3
  have hb3 : Fun.At _ g3 0 k p := ⟨Mem.of_get at3, hin⟩
  obtain ⟨fs3, ft3, c103, c113, j13, j23⟩ := hb3.get
  have hm3 : MemN _ _ _ _ _ := ⟨rfl, hb3.1⟩
  have hi3 := hb3.2
  have hms3 : MemN _ _ _ _ _ := ⟨rfl, fs3.1⟩
  have his3 := fs3.2
  have hmt3 : MemN _ _ _ _ _ := ⟨rfl, ft3.1⟩
  have hit3 := ft3.2
  clear hb4 fsh4 c54 c64 i14 i24 hm4 hi4 hmsh4 hish4
  have hb4 : SFun.At _ g4 0 f q := ⟨Mem.of_get at4, hin1⟩
  obtain ⟨fsh4, c54, c64, i14, i24⟩ := hb4.get
  have hm4 : MemN _ _ _ _ _ := ⟨rfl, hb4.1⟩
  have hi4 := hb4.2
  have hmsh4 : MemN _ _ _ _ _ := ⟨rfl, fsh4.1⟩
  have hish4 := fsh4.2
  clear i20
  have i20 := v20.intss
  have i27 := Ints.of_get at27
  refine .m rfl rfl rfl (.assign rfl) (.m rfl rfl rfl (.assign rfl) (.nil ?_))
  refine hK10 _ _ ?_
  refine .ret ?_
  refine hret _ _ ?_
  refine ⟨_, _, rfl, rfl, ?_⟩
  obtain ⟨e1, e2⟩ := lc_3 h15 hL
  rw [e1, e2]
  exact ⟨hle, _, rfl, IntsR.of_at at27 (by omega)⟩
theorem implLeftClasses_c {k : Fun} {p : FunP} {f : SFun} {q : SFunP} {y : Int} {H : GHeap} (hin : k.In H p := by assumption) (hin1 : f.In H q := by assumption) (hs : k.Small := by assumption) (hs1 : f.Small := by assumption) :
    GCalls Try.prog 37 [.agg (k.cells p).toArray, .agg (f.cells q).toArray, .int .i64 y] H (fun v H' => H.Le H' ∧ ∃ a, v = .tuple #[.slice a (lcR k f y).length (lcR k f y).length, .int .i64 (lcC k f y)] ∧ IntsR H.next H' a (lcR k f y)) := by
  by_cases hL : (lcE k f y).length ≤ 256
  refine GCalls.body (N := 27) (rs := [.tmp 6, .tmp 7]) Try.func37 rfl rfl rfl rfl (fun Qx hret hend => ?_)
  refine .forget (fr' := [(0, some _), (1, some _), (2, some _)]) ⟨rfl, rfl, rfl, trivial⟩ ?_
  have hle := GHeap.Le.refl H
  have base_hin := hin
  have base_hin1 := hin1
  refine .seq (fun K1 hK1 => ?_)
  refine .region ?_
  refine .r rfl rfl rfl (.boxR rfl sz_62_E rfl) ?_
  rintro _ H3 ⟨g3, rfl, le3, ge3, at3⟩
  have nx_H3 := le3.1
  replace hle := hle.trans le3
  have lt_at3 := GHeap.lt_of_get at3
  replace hin := base_hin.mono hle
  replace hin1 := base_hin1.mono hle
  have hb3 : Fun.At _ g3 0 k p := ⟨Mem.of_get at3, hin⟩
  obtain ⟨fs3, ft3, c103, c113, j13, j23⟩ := hb3.get
  have hm3 : MemN _ _ _ _ _ := ⟨rfl, hb3.1⟩
  have hi3 := hb3.2
  have hms3 : MemN _ _ _ _ _ := ⟨rfl, fs3.1⟩
  have his3 := fs3.2
  have hmt3 : MemN _ _ _ _ _ := ⟨rfl, ft3.1⟩
  have hit3 := ft3.2
  refine .r rfl rfl rfl (.boxR rfl sz_65_VSFun rfl) ?_
  rintro _ H4 ⟨g4, rfl, le4, ge4, at4⟩
  have nx_H4 := le4.1
  replace hle := hle.trans le4
  replace at3 := le4.2 _ _ at3
  have lt_at4 := GHeap.lt_of_get at4
  replace hin := base_hin.mono hle
  replace hin1 := base_hin1.mono hle
  clear hb3 fs3 ft3 c103 c113 j13 j23 hm3 hi3 hms3 his3 hmt3 hit3
  have hb3 : Fun.At _ g3 0 k p := ⟨Mem.of_get at3, hin⟩
  obtain ⟨fs3, ft3, c103, c113, j13, j23⟩ := hb3.get
  have hm3 : MemN _ _ _ _ _ := ⟨rfl, hb3.1⟩
  have hi3 := hb3.2
  have hms3 : MemN _ _ _ _ _ := ⟨rfl, fs3.1⟩
  have his3 := fs3.2
  have hmt3 : MemN _ _ _ _ _ := ⟨rfl, ft3.1⟩
  have hit3 := ft3.2
  have hb4 : SFun.At _ g4 0 f q := ⟨Mem.of_get at4, hin1⟩
  obtain ⟨fsh4, c54, c64, i14, i24⟩ := hb4.get
  have hm4 : MemN _ _ _ _ _ := ⟨rfl, hb4.1⟩
  have hi4 := hb4.2
  have hmsh4 : MemN _ _ _ _ _ := ⟨rfl, fsh4.1⟩
  have hish4 := fsh4.2
  refine .m rfl rfl rfl (.assign rfl) (.m rfl rfl rfl (.assign rfl) (.nil ?_))
  refine hK1 _ _ ?_
  refine .seq (fun K2 hK2 => ?_)
  refine .seq (fun K3 hK3 => ?_)
  refine .region (.m rfl rfl rfl (.move rfl) ?_)
  refine .callQ rfl rfl rfl rfl @Try.call82 rfl (baseAtCode_c) ?_
  refine .m rfl rfl rfl (.assign rfl) (.nil ?_)
  refine hK3 _ _ ?_
  refine .seq (fun K4 hK4 => ?_)
  refine .region (.m rfl rfl rfl (.move rfl) (.m rfl rfl rfl (.cmp rfl rfl rfl) (.nil ?_)))
  refine hK4 _ _ ?_
  refine .cond rfl (fun h14 => ?_) (fun h14 => ?_)
  ·
   simp only [sps] at h14
   refine .seq (fun K5 hK5 => ?_)
   refine .region (.m rfl rfl rfl (.move rfl) (.m rfl rfl rfl (.assign rfl) (.m rfl rfl rfl (.assign rfl) ?_)))
   refine .nil ?_
   refine hK5 _ _ ?_
   refine .ret ?_
   refine hret _ _ ?_
   refine ⟨_, _, rfl, rfl, ?_⟩
   obtain ⟨e1, e2⟩ := lc_1 h14
   rw [e1, e2]
   exact ⟨hle, none, rfl, .inl ⟨rfl, rfl⟩⟩
  ·
   simp only [sps] at h14
   refine .skip ?_
   refine hK2 _ _ ?_
   refine .seq (fun K6 hK6 => ?_)
   refine .region ?_
   obtain ⟨z1, z2, z3, z4, z5⟩ := leCode_0 h14
   have o : LcOk k f := ⟨z1, z2, z5⟩
   refine .m rfl rfl rfl (.move rfl) ?_
   refine .call rfl rfl rfl rfl @Try.call83 rfl (leftClasses_c hb3 hb4 o hL) ?_
   rintro _ H18 ⟨le18, gp18, gc18, c118, c218, e118, rfl, ap18, at18, ge18⟩
   have nx_H18 := le18.1
   replace hle := hle.trans le18
   replace at3 := le18.2 _ _ at3
   replace at4 := le18.2 _ _ at4
   have lt_ap18 := GHeap.lt_of_get ap18
   have lt_at18 := GHeap.lt_of_get at18
   replace hin := base_hin.mono hle
   replace hin1 := base_hin1.mono hle
   clear hb3 fs3 ft3 c103 c113 j13 j23 hm3 hi3 hms3 his3 hmt3 hit3
   have hb3 : Fun.At _ g3 0 k p := ⟨Mem.of_get at3, hin⟩
   obtain ⟨fs3, ft3, c103, c113, j13, j23⟩ := hb3.get
   have hm3 : MemN _ _ _ _ _ := ⟨rfl, hb3.1⟩
   have hi3 := hb3.2
   have hms3 : MemN _ _ _ _ _ := ⟨rfl, fs3.1⟩
   have his3 := fs3.2
   have hmt3 : MemN _ _ _ _ _ := ⟨rfl, ft3.1⟩
   have hit3 := ft3.2
   clear hb4 fsh4 c54 c64 i14 i24 hm4 hi4 hmsh4 hish4
   have hb4 : SFun.At _ g4 0 f q := ⟨Mem.of_get at4, hin1⟩
   obtain ⟨fsh4, c54, c64, i14, i24⟩ := hb4.get
   have hm4 : MemN _ _ _ _ _ := ⟨rfl, hb4.1⟩
   have hi4 := hb4.2
   have hmsh4 : MemN _ _ _ _ _ := ⟨rfl, fsh4.1⟩
   have hish4 := fsh4.2
   have cc18 := Mem.of_get ap18 2 _ rfl
   refine .m rfl rfl rfl (.move rfl) (.m rfl rfl rfl (.extract rfl rfl) (.m rfl rfl rfl (.extract rfl rfl) (.m rfl rfl rfl (.assign rfl) ?_)))
   refine .m rfl rfl rfl (.assign rfl) (.nil ?_)
   refine hK6 _ _ ?_
   refine .seq (fun K7 hK7 => ?_)
   refine .seq (fun K8 hK8 => ?_)
   refine .region (.m rfl rfl rfl (.move rfl) (.m rfl rfl rfl (.not rfl) (.nil ?_)))
   refine hK8 _ _ ?_
   refine .cond rfl (fun h22 => ?_) (fun h22 => ?_)
   ·
    simp at h22
   try simp only [sps] at h22
   refine .skip ?_
   refine hK7 _ _ ?_
   refine .seq (fun K9 hK9 => ?_)
   refine .region (.m rfl rfl rfl (.move rfl) (.m rfl rfl rfl (.nilCheck rfl) (.m rfl rfl rfl (.fieldAddr fo_119_2_Lc rfl) ?_)))
   refine .m rfl rfl rfl (.load on_106_Lc rfl (by assumption)) ?_
   refine .m rfl rfl rfl (.assign rfl) (.m rfl rfl rfl (.assign rfl) (.nil ?_))
   refine hK9 _ _ ?_
   refine .ret ?_
   refine hret _ _ ?_
   refine ⟨_, _, rfl, rfl, ?_⟩
   obtain ⟨e1, e2⟩ := lc_3 h14 hL
   rw [e1, e2]
   exact ⟨hle, _, by rw [length_joinL], IntsR.of_at at18 (by omega)⟩
  refine GCalls.body (N := 27) (rs := [.tmp 6, .tmp 7]) Try.func37 rfl rfl rfl rfl (fun Qx hret hend => ?_)
  refine .forget (fr' := [(0, some _), (1, some _), (2, some _)]) ⟨rfl, rfl, rfl, trivial⟩ ?_
  have hle := GHeap.Le.refl H
  have base_hin := hin
  have base_hin1 := hin1
  refine .seq (fun K1 hK1 => ?_)
  refine .region ?_
  refine .r rfl rfl rfl (.boxR rfl sz_62_E rfl) ?_
  rintro _ H3 ⟨g3, rfl, le3, ge3, at3⟩
  have nx_H3 := le3.1
  replace hle := hle.trans le3
  have lt_at3 := GHeap.lt_of_get at3
  replace hin := base_hin.mono hle
  replace hin1 := base_hin1.mono hle
  have hb3 : Fun.At _ g3 0 k p := ⟨Mem.of_get at3, hin⟩
  obtain ⟨fs3, ft3, c103, c113, j13, j23⟩ := hb3.get
  have hm3 : MemN _ _ _ _ _ := ⟨rfl, hb3.1⟩
  have hi3 := hb3.2
  have hms3 : MemN _ _ _ _ _ := ⟨rfl, fs3.1⟩
  have his3 := fs3.2
  have hmt3 : MemN _ _ _ _ _ := ⟨rfl, ft3.1⟩
  have hit3 := ft3.2
  refine .r rfl rfl rfl (.boxR rfl sz_65_VSFun rfl) ?_
  rintro _ H4 ⟨g4, rfl, le4, ge4, at4⟩
  have nx_H4 := le4.1
  replace hle := hle.trans le4
  replace at3 := le4.2 _ _ at3
  have lt_at4 := GHeap.lt_of_get at4
  replace hin := base_hin.mono hle
  replace hin1 := base_hin1.mono hle
  clear hb3 fs3 ft3 c103 c113 j13 j23 hm3 hi3 hms3 his3 hmt3 hit3
  have hb3 : Fun.At _ g3 0 k p := ⟨Mem.of_get at3, hin⟩
  obtain ⟨fs3, ft3, c103, c113, j13, j23⟩ := hb3.get
  have hm3 : MemN _ _ _ _ _ := ⟨rfl, hb3.1⟩
  have hi3 := hb3.2
  have hms3 : MemN _ _ _ _ _ := ⟨rfl, fs3.1⟩
  have his3 := fs3.2
  have hmt3 : MemN _ _ _ _ _ := ⟨rfl, ft3.1⟩
  have hit3 := ft3.2
  have hb4 : SFun.At _ g4 0 f q := ⟨Mem.of_get at4, hin1⟩
  obtain ⟨fsh4, c54, c64, i14, i24⟩ := hb4.get
  have hm4 : MemN _ _ _ _ _ := ⟨rfl, hb4.1⟩
  have hi4 := hb4.2
  have hmsh4 : MemN _ _ _ _ _ := ⟨rfl, fsh4.1⟩
  have hish4 := fsh4.2
  refine .m rfl rfl rfl (.assign rfl) (.m rfl rfl rfl (.assign rfl) (.nil ?_))
  refine hK1 _ _ ?_
  refine .seq (fun K2 hK2 => ?_)
  refine .seq (fun K3 hK3 => ?_)
  refine .region (.m rfl rfl rfl (.move rfl) ?_)
  refine .callQ rfl rfl rfl rfl @Try.call82 rfl (baseAtCode_c) ?_
  refine .m rfl rfl rfl (.assign rfl) (.nil ?_)
  refine hK3 _ _ ?_
  refine .seq (fun K4 hK4 => ?_)
  refine .region (.m rfl rfl rfl (.move rfl) (.m rfl rfl rfl (.cmp rfl rfl rfl) (.nil ?_)))
  refine hK4 _ _ ?_
  refine .cond rfl (fun h14 => ?_) (fun h14 => ?_)
  ·
   simp only [sps] at h14
   refine .seq (fun K5 hK5 => ?_)
   refine .region (.m rfl rfl rfl (.move rfl) (.m rfl rfl rfl (.assign rfl) (.m rfl rfl rfl (.assign rfl) ?_)))
   refine .nil ?_
   refine hK5 _ _ ?_
   refine .ret ?_
   refine hret _ _ ?_
   refine ⟨_, _, rfl, rfl, ?_⟩
   obtain ⟨e1, e2⟩ := lc_1 h14
   rw [e1, e2]
   exact ⟨hle, none, rfl, .inl ⟨rfl, rfl⟩⟩
  simp only [sps] at h14
  refine .skip ?_
  refine hK2 _ _ ?_
  refine .seq (fun K6 hK6 => ?_)
  refine .region ?_
  obtain ⟨z1, z2, z3, z4, z5⟩ := leCode_0 h14
  have o : LcOk k f := ⟨z1, z2, z5⟩
  refine .m rfl rfl rfl (.move rfl) ?_
  refine .callQ rfl rfl rfl rfl @Try.call83 rfl (leftClasses1_c hb3 hb4 o hL) ?_
  refine .m rfl rfl rfl (.move rfl) (.m rfl rfl rfl (.extract rfl rfl) (.m rfl rfl rfl (.extract rfl rfl) (.m rfl rfl rfl (.assign rfl) ?_)))
  refine .m rfl rfl rfl (.assign rfl) (.nil ?_)
  refine hK6 _ _ ?_
  refine .seq (fun K7 hK7 => ?_)
  refine .seq (fun K8 hK8 => ?_)
  refine .region (.m rfl rfl rfl (.move rfl) (.m rfl rfl rfl (.not rfl) (.nil ?_)))
  refine hK8 _ _ ?_
  refine .cond rfl (fun h22 => ?_) (fun h22 => ?_)
  ·
   try simp only [sps] at h22
   refine .seq (fun K9 hK9 => ?_)
   refine .region (.m rfl rfl rfl (.assign rfl) (.m rfl rfl rfl (.assign rfl) (.nil ?_)))
   refine hK9 _ _ ?_
   refine .ret ?_
   refine hret _ _ ?_
   refine ⟨_, _, rfl, rfl, ?_⟩
   obtain ⟨e1, e2⟩ := lc_2 h14 hL
   rw [e1, e2]
   exact ⟨hle, none, rfl, .inl ⟨rfl, rfl⟩⟩
  simp at h22
end Go.Proofs.Ytgnfekfdmgnhcaa
