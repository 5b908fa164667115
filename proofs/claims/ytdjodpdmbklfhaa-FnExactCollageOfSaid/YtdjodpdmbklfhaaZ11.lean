/- The collage, in the reference. No condition but those of each statement. -/
import Derived.Test.YtdjodpdmbklfhaaZ10
namespace Go.Proofs.Ytdjodpdmbklfhaa
open Go Go.GL Go.RowKit Go.Proofs
set_option maxHeartbeats 16000000 in
theorem l32Collage_c {m : Prof} {p : ProfP} {H : GHeap} (hin : m.In H p := by assumption) (hS : m.Shape) :
    GCalls Try.prog 44 [.agg (m.cells p).toArray] H (NewCatR H m.colFin) := by
  have hC := hS.cok
  have hc := hS.s.1.rect
  have hd := hS.t.1.rect
  have b1 := hC.s0
  have b2 := hC.s8
  have b3 := hC.t0
  have b4 := hC.t8
  have b5 := hS.s.1.n40
  have b6 := hS.t.1.n40
  have b7 := hC.all
  have b8 := hC.z.sl
  have b9 : m.colN ≤ 80 := by unfold Prof.colN; omega
  have b10 := m.sum_n
  have b11 := m.length_colS
  have b12 := hS.length_colT
  have b13 := hS.sum_cl
  refine GCalls.body (N := 216) (rs := [.cell 2 30]) Try.func44 rfl rfl rfl rfl (fun Qx hret hend => ?_)
  refine .forget (fr' := [(0, some _)]) ⟨rfl, trivial⟩ ?_
  have hle := GHeap.Le.refl H
  have base_hin := hin
  refine .seq (fun K1 hK1 => .region ?_)
  refine .r rfl rfl rfl (.boxR rfl sz_34_VProf rfl) ?_
  rintro _ H1 ⟨g1, rfl, le1, ge1, at1⟩
  have nx_H1 := le1.1
  replace hle := hle.trans le1
  have lt_at1 := GHeap.ltg at1
  replace hin := base_hin.mono hle
  have hb1 : Prof.At _ g1 0 m p := ⟨Mem.of_get at1, hin⟩
  obtain ⟨fs1, ft1, c101, c111, c121, i21, i31, i41⟩ := hb1.get
  have hm1 : MemN _ _ _ _ _ := ⟨rfl, hb1.1⟩
  have hi1 := hb1.2
  have hms1 : MemN _ _ _ _ _ := ⟨rfl, fs1.1⟩
  have his1 := fs1.2
  have hmt1 : MemN _ _ _ _ _ := ⟨rfl, ft1.1⟩
  have hit1 := ft1.2
  refine .r rfl rfl rfl (.allocR rfl ze_30_E rfl) ?_
  rintro _ H2 ⟨g2, rfl, le2, ge2, at2⟩
  have nx_H2 := le2.1
  replace hle := hle.trans le2
  replace at1 := le2.2 _ _ at1
  have lt_at2 := GHeap.ltg at2
  replace hin := base_hin.mono hle
  clear hb1 fs1 ft1 c101 c111 c121 i21 i31 i41 hm1 hi1 hms1 his1 hmt1 hit1
  have hb1 : Prof.At _ g1 0 m p := ⟨Mem.of_get at1, hin⟩
  obtain ⟨fs1, ft1, c101, c111, c121, i21, i31, i41⟩ := hb1.get
  have hm1 : MemN _ _ _ _ _ := ⟨rfl, hb1.1⟩
  have hi1 := hb1.2
  have hms1 : MemN _ _ _ _ _ := ⟨rfl, fs1.1⟩
  have his1 := fs1.2
  have hmt1 : MemN _ _ _ _ _ := ⟨rfl, ft1.1⟩
  have hit1 := ft1.2
  refine .nil (hK1 _ _ (.seq (fun K2 hK2 => ?_)))
  refine .regionD mo_B (.q 0 (.q 1 (.q 2 (.q 3 (.or (.c 4 1 (.c 5 1 (.c 6 1 (.c 7 0 .done)))) (.c 5 1 (.c 4 1 (.c 6 1 (.c 7 0 .done))))))))) (by kernel_rfl) ?_
  refine .m rfl rfl rfl rfl (.refl _) (.fieldAddr fo_34_0_VProf rfl) ?_
  refine .m rfl rfl rfl rfl (.refl _) (.loadM ag_30_D rfl (by assumption)) ?_
  refine .m rfl rfl rfl rfl (.refl _) (.fieldAddr fo_34_1_VProf rfl) ?_
  refine .m rfl rfl rfl rfl (.refl _) (.loadM ag_30_D rfl (by assumption)) ?_
  refine .two [(1, some _), (2, some _)] rfl rfl rfl rfl rfl rfl rfl rfl rfl rfl rfl rfl rfl rfl rfl rfl rfl rfl ze_30_E rfl sz_30_D rfl rfl rfl rfl rfl (by rfl) (by rfl) rfl rfl rfl rfl rfl ⟨rfl, rfl, trivial⟩ rfl rfl (.refl _) ?_
  intro g3 g4 H4 fr4 le4 ge3 ge4 at3 at4 hsub4
  have nx_H4 := le4.1
  replace hle := hle.trans le4
  replace at1 := le4.2 _ _ at1
  replace at2 := le4.2 _ _ at2
  have lt_at3 := GHeap.ltg at3
  have lt_at4 := GHeap.ltg at4
  replace hin := base_hin.mono hle
  clear hb1 fs1 ft1 c101 c111 c121 i21 i31 i41 hm1 hi1 hms1 his1 hmt1 hit1
  have hb1 : Prof.At _ g1 0 m p := ⟨Mem.of_get at1, hin⟩
  obtain ⟨fs1, ft1, c101, c111, c121, i21, i31, i41⟩ := hb1.get
  have hm1 : MemN _ _ _ _ _ := ⟨rfl, hb1.1⟩
  have hi1 := hb1.2
  have hms1 : MemN _ _ _ _ _ := ⟨rfl, fs1.1⟩
  have his1 := fs1.2
  have hmt1 : MemN _ _ _ _ _ := ⟨rfl, ft1.1⟩
  have hit1 := ft1.2
  have hb3 : Cat.At _ g3 0 m.s p.s := ⟨Mem.of_get at3, his1⟩
  obtain ⟨c03, c13, c23, c33, c43, i13, i23, i33, i43⟩ := hb3.get
  have hm3 : MemN _ _ _ _ _ := ⟨rfl, hb3.1⟩
  have hi3 := hb3.2
  have hb4 : Cat.At _ g4 0 m.t p.t := ⟨Mem.of_get at4, hit1⟩
  obtain ⟨c04, c14, c24, c34, c44, i14, i24, i34, i44⟩ := hb4.get
  have hm4 : MemN _ _ _ _ _ := ⟨rfl, hb4.1⟩
  have hi4 := hb4.2
  refine hK2 _ _ ?_
  refine .forget hsub4 ?_
  refine .seq (fun K3 hK3 => .region ?_)
  refine .m rfl rfl rfl (.loadM ag_30_D rfl ⟨rfl, Mem.of_get at3⟩) ?_
  refine .m rfl rfl rfl (.loadM ag_30_D rfl ⟨rfl, Mem.of_get at4⟩) ?_
  refine .call rfl rfl rfl rfl @Try.call93 rfl (l03Sum_c (hc := hc) (hd := hd) (hN := by omega)) ?_
  rintro _ H25 ⟨le25, gF, gT, gI, gC, r0, rfl, v25⟩
  have aF := v25.a1
  have aT := v25.a2
  have aI := v25.a3
  have aC := v25.a4
  have bF := v25.b1
  have bT := v25.b2
  have bI := v25.b3
  have bC := v25.b4
  have n12 := v25.n12
  have n13 := v25.n13
  have n23 := v25.n23
  have rk := St.refl [] H25
  have nx_H25 := le25.1
  replace hle := hle.trans le25
  replace at1 := le25.2 _ _ at1
  replace at2 := le25.2 _ _ at2
  replace at3 := le25.2 _ _ at3
  replace at4 := le25.2 _ _ at4
  have lt_aF := GHeap.ltg aF
  have lt_aT := GHeap.ltg aT
  have lt_aI := GHeap.ltg aI
  have lt_aC := GHeap.ltg aC
  replace hin := base_hin.mono hle
  clear hb1 fs1 ft1 c101 c111 c121 i21 i31 i41 hm1 hi1 hms1 his1 hmt1 hit1
  have hb1 : Prof.At _ g1 0 m p := ⟨Mem.of_get at1, hin⟩
  obtain ⟨fs1, ft1, c101, c111, c121, i21, i31, i41⟩ := hb1.get
  have hm1 : MemN _ _ _ _ _ := ⟨rfl, hb1.1⟩
  have hi1 := hb1.2
  have hms1 : MemN _ _ _ _ _ := ⟨rfl, fs1.1⟩
  have his1 := fs1.2
  have hmt1 : MemN _ _ _ _ _ := ⟨rfl, ft1.1⟩
  have hit1 := ft1.2
  clear hb3 c03 c13 c23 c33 c43 i13 i23 i33 i43 hm3 hi3
  have hb3 : Cat.At _ g3 0 m.s p.s := ⟨Mem.of_get at3, his1⟩
  obtain ⟨c03, c13, c23, c33, c43, i13, i23, i33, i43⟩ := hb3.get
  have hm3 : MemN _ _ _ _ _ := ⟨rfl, hb3.1⟩
  have hi3 := hb3.2
  clear hb4 c04 c14 c24 c34 c44 i14 i24 i34 i44 hm4 hi4
  have hb4 : Cat.At _ g4 0 m.t p.t := ⟨Mem.of_get at4, hit1⟩
  obtain ⟨c04, c14, c24, c34, c44, i14, i24, i34, i44⟩ := hb4.get
  have hm4 : MemN _ _ _ _ _ := ⟨rfl, hb4.1⟩
  have hi4 := hb4.2
  refine .r rfl rfl rfl (.allocR rfl ze_30_E rfl) ?_
  rintro _ H5 ⟨g5, rfl, le5, ge5, at5⟩
  have nx_H5 := le5.1
  replace hle := hle.trans le5
  replace rk := rk.le le5
  replace at1 := le5.2 _ _ at1
  replace at2 := le5.2 _ _ at2
  replace at3 := le5.2 _ _ at3
  replace at4 := le5.2 _ _ at4
  replace aF := le5.2 _ _ aF
  replace aT := le5.2 _ _ aT
  replace aI := le5.2 _ _ aI
  replace aC := le5.2 _ _ aC
  have lt_at5 := GHeap.ltg at5
  replace hin := base_hin.mono hle
  clear hb1 fs1 ft1 c101 c111 c121 i21 i31 i41 hm1 hi1 hms1 his1 hmt1 hit1
  have hb1 : Prof.At _ g1 0 m p := ⟨Mem.of_get at1, hin⟩
  obtain ⟨fs1, ft1, c101, c111, c121, i21, i31, i41⟩ := hb1.get
  have hm1 : MemN _ _ _ _ _ := ⟨rfl, hb1.1⟩
  have hi1 := hb1.2
  have hms1 : MemN _ _ _ _ _ := ⟨rfl, fs1.1⟩
  have his1 := fs1.2
  have hmt1 : MemN _ _ _ _ _ := ⟨rfl, ft1.1⟩
  have hit1 := ft1.2
  clear hb3 c03 c13 c23 c33 c43 i13 i23 i33 i43 hm3 hi3
  have hb3 : Cat.At _ g3 0 m.s p.s := ⟨Mem.of_get at3, his1⟩
  obtain ⟨c03, c13, c23, c33, c43, i13, i23, i33, i43⟩ := hb3.get
  have hm3 : MemN _ _ _ _ _ := ⟨rfl, hb3.1⟩
  have hi3 := hb3.2
  clear hb4 c04 c14 c24 c34 c44 i14 i24 i34 i44 hm4 hi4
  have hb4 : Cat.At _ g4 0 m.t p.t := ⟨Mem.of_get at4, hit1⟩
  obtain ⟨c04, c14, c24, c34, c44, i14, i24, i34, i44⟩ := hb4.get
  have hm4 : MemN _ _ _ _ _ := ⟨rfl, hb4.1⟩
  have hi4 := hb4.2
  refine .r0 rfl rfl (.fillR rfl sz_30_D rfl rfl rfl rfl (by assumption) (by first | rfl | exact Nat.le_of_ble_eq_true rfl | simp)) ?_
  rintro _ H2004 ⟨rfl, st2004, at2004⟩
  have nx_H2004 := st2004.nx
  replace hle := hle.st st2004 (fun k hk => ⟨by omega, trivial⟩)
  replace rk := rk.st st2004 (fun k hk ho => by simp only [out, and_true] at ho ⊢ <;> first | exact ho | exact ho.1 | exact ho.2 | exact ho.2.1 | exact ho.2.2 | exact ho.2.2.1 | exact ho.2.2.2 | omega)
  have ne_g1_g5 : g1 ≠ g5 := by first | assumption | omega
  replace at1 := st2004.same _ _ ⟨ne_g1_g5, trivial⟩ at1
  have ne_g2_g5 : g2 ≠ g5 := by first | assumption | omega
  replace at2 := st2004.same _ _ ⟨ne_g2_g5, trivial⟩ at2
  have ne_g3_g5 : g3 ≠ g5 := by first | assumption | omega
  replace at3 := st2004.same _ _ ⟨ne_g3_g5, trivial⟩ at3
  have ne_g4_g5 : g4 ≠ g5 := by first | assumption | omega
  replace at4 := st2004.same _ _ ⟨ne_g4_g5, trivial⟩ at4
  have ne_gF_g5 : gF ≠ g5 := by first | assumption | omega
  replace aF := st2004.same _ _ ⟨ne_gF_g5, trivial⟩ aF
  have ne_gT_g5 : gT ≠ g5 := by first | assumption | omega
  replace aT := st2004.same _ _ ⟨ne_gT_g5, trivial⟩ aT
  have ne_gI_g5 : gI ≠ g5 := by first | assumption | omega
  replace aI := st2004.same _ _ ⟨ne_gI_g5, trivial⟩ aI
  have ne_gC_g5 : gC ≠ g5 := by first | assumption | omega
  replace aC := st2004.same _ _ ⟨ne_gC_g5, trivial⟩ aC
  have lt_at2004 := GHeap.ltg at2004
  replace hin := base_hin.mono hle
  clear hb1 fs1 ft1 c101 c111 c121 i21 i31 i41 hm1 hi1 hms1 his1 hmt1 hit1
  have hb1 : Prof.At _ g1 0 m p := ⟨Mem.of_get at1, hin⟩
  obtain ⟨fs1, ft1, c101, c111, c121, i21, i31, i41⟩ := hb1.get
  have hm1 : MemN _ _ _ _ _ := ⟨rfl, hb1.1⟩
  have hi1 := hb1.2
  have hms1 : MemN _ _ _ _ _ := ⟨rfl, fs1.1⟩
  have his1 := fs1.2
  have hmt1 : MemN _ _ _ _ _ := ⟨rfl, ft1.1⟩
  have hit1 := ft1.2
  clear hb3 c03 c13 c23 c33 c43 i13 i23 i33 i43 hm3 hi3
  have hb3 : Cat.At _ g3 0 m.s p.s := ⟨Mem.of_get at3, his1⟩
  obtain ⟨c03, c13, c23, c33, c43, i13, i23, i33, i43⟩ := hb3.get
  have hm3 : MemN _ _ _ _ _ := ⟨rfl, hb3.1⟩
  have hi3 := hb3.2
  clear hb4 c04 c14 c24 c34 c44 i14 i24 i34 i44 hm4 hi4
  have hb4 : Cat.At _ g4 0 m.t p.t := ⟨Mem.of_get at4, hit1⟩
  obtain ⟨c04, c14, c24, c34, c44, i14, i24, i34, i44⟩ := hb4.get
  have hm4 : MemN _ _ _ _ _ := ⟨rfl, hb4.1⟩
  have hi4 := hb4.2
  refine .nil (hK3 _ _ (.seq (fun K4 hK4 => ?_)))
  refine .regionD mo_B (.q 0 (.q 1 (.q 2 (.q 3 (.q 4 (.q 5 (.q 6 (.q 7 (.done))))))))) (by kernel_rfl) ?_
  refine .m rfl rfl rfl rfl (.refl _) (.fieldAddr fo_30_1_B rfl) ?_
  refine .m rfl rfl rfl rfl (.refl _) (.load on_22_B rfl (by first | assumption | exact Mem.of_get at3 1 _ rfl)) ?_
  refine .m rfl rfl rfl rfl (.refl _) (.len sl_22_A rfl) (.m rfl rfl rfl rfl (.refl _) (.fieldAddr fo_30_1_B rfl) ?_)
  refine .m rfl rfl rfl rfl (.refl _) (.load on_22_B rfl (by first | assumption | exact Mem.of_get at2004 1 _ rfl)) ?_
  refine .m rfl rfl rfl rfl (.refl _) (.len sl_22_A rfl) (.mv rfl rfl (.mv rfl rfl ?_))
  refine .done ?_
  refine hK4 _ _ (.seq (fun K5 hK5 => .region ?_))
  rw [b10]
  refine .r rfl rfl rfl (.litR rfl sl_23_B ze_22_E rfl rfl (by omega) (by omega) rfl rfl) ?_
  rintro _ H32 ⟨g32, rfl, le32, ge32, at32⟩
  have nx_H32 := le32.1
  replace hle := hle.trans le32
  replace rk := rk.le le32
  replace at1 := le32.2 _ _ at1
  replace at2 := le32.2 _ _ at2
  replace at3 := le32.2 _ _ at3
  replace at4 := le32.2 _ _ at4
  replace aF := le32.2 _ _ aF
  replace aT := le32.2 _ _ aT
  replace aI := le32.2 _ _ aI
  replace aC := le32.2 _ _ aC
  replace at2004 := le32.2 _ _ at2004
  have lt_at32 := GHeap.ltg at32
  replace hin := base_hin.mono hle
  clear hb1 fs1 ft1 c101 c111 c121 i21 i31 i41 hm1 hi1 hms1 his1 hmt1 hit1
  have hb1 : Prof.At _ g1 0 m p := ⟨Mem.of_get at1, hin⟩
  obtain ⟨fs1, ft1, c101, c111, c121, i21, i31, i41⟩ := hb1.get
  have hm1 : MemN _ _ _ _ _ := ⟨rfl, hb1.1⟩
  have hi1 := hb1.2
  have hms1 : MemN _ _ _ _ _ := ⟨rfl, fs1.1⟩
  have his1 := fs1.2
  have hmt1 : MemN _ _ _ _ _ := ⟨rfl, ft1.1⟩
  have hit1 := ft1.2
  clear hb3 c03 c13 c23 c33 c43 i13 i23 i33 i43 hm3 hi3
  have hb3 : Cat.At _ g3 0 m.s p.s := ⟨Mem.of_get at3, his1⟩
  obtain ⟨c03, c13, c23, c33, c43, i13, i23, i33, i43⟩ := hb3.get
  have hm3 : MemN _ _ _ _ _ := ⟨rfl, hb3.1⟩
  have hi3 := hb3.2
  clear hb4 c04 c14 c24 c34 c44 i14 i24 i34 i44 hm4 hi4
  have hb4 : Cat.At _ g4 0 m.t p.t := ⟨Mem.of_get at4, hit1⟩
  obtain ⟨c04, c14, c24, c34, c44, i14, i24, i34, i44⟩ := hb4.get
  have hm4 : MemN _ _ _ _ _ := ⟨rfl, hb4.1⟩
  have hi4 := hb4.2
  refine .mv rfl (.nil (hK5 _ _ (.seq (fun K6 hK6 => .seq (fun K7 hK7 => .region (.mv rfl (.nil (hK7 _ _ ?_))))))))
  refine .block ?_
  refine .loopR (σ := Nat × (Nat → Option Addr) × Nat × Nat × Nat) [(1, some _), (2, some _), (3, some _), (4, some _), (5, some _), (6, some _), (7, some _)] (fun (x, r1, gV, gF, gT) => [(9, some (.int .i64 (x : Int))), (8, some (.slice (some ⟨gV, 0, none⟩) (m.colP x 0 0).length (m.colP x 0 0).length))]) (fun (x, r1, gV, gF, gT) H' => (x : Int) ≤ m.s.obj ∧ ColSt 2 22 30 34 H H' m p g1 g2 g3 g4 g5 gI gC r0 [.int .i64 0, .slice none 0 0, .slice none 0 0, .slice none 0 0, .slice none 0 0] x 0 0 r1 gV gF gT) (fun (x, r1, gV, gF, gT) => (m.s.obj - x : Int).toNat) ((0, (fun _ => none), g32, gF, gT)) ⟨rfl, rfl, rfl, rfl, rfl, rfl, rfl, trivial⟩ ⟨rfl, rfl, trivial⟩ ?_ ?_
  ·
   have e0 : m.colP 0 0 0 = [] := nest3_zero _ _ _
   have e1 : m.colSp 0 0 0 = (m.s.sum m.t).src := by unfold Prof.colSp; rw [e0]; simp
   have e2 : m.colTp 0 0 0 = (m.s.sum m.t).tgt := by unfold Prof.colTp; rw [e0]; simp
   have nil0 : ∀ {P : Nat → Prop}, ∀ i, i < (m.colP 0 0 0).length → P i := fun i hi => by rw [e0] at hi; simp at hi
   exact ⟨by omega, hle, at1, at2, at3, at4, by rw [e1, e2]; exact at2004, by rw [e1]; exact aF, by rw [e2]; exact aT, aI, aC, by rw [e0]; exact at32, (v25.rows.st rk (.nil _ _)).low (by omega), by rw [e0]; exact .nil _ _ _ _, v25.r1, v25.r2, v25.r3, nil0, nil0, by omega, by omega, by omega, by omega, by omega, by omega, n12, n13, n23, by omega, by omega, by omega, by omega, by omega⟩
  rintro ⟨x, r1, gV, gF, gT⟩ HL1 hI KL1 hKL1
  refine .forget (fr' := [(9, some (.int .i64 (x : Int))), (8, some (.slice (some ⟨gV, 0, none⟩) (m.colP x 0 0).length (m.colP x 0 0).length)), (1, some _), (2, some _), (3, some _), (4, some _), (5, some _), (6, some _), (7, some _)]) ⟨rfl, rfl, rfl, rfl, rfl, rfl, rfl, rfl, rfl, trivial⟩ ?_
  obtain ⟨hx, hQ⟩ := hI
  obtain ⟨hle, a1, a2, a3, a4, a5, aF, aT, aI, aC, aV, rows0, rows1, z1, z2, z3, w1, w2, bF, bT, bI, bC, bV, bg5, n12, n13, n23, nV, n15, n25, n35, n45⟩ := id hQ
  have nx_HL1 := hle.1
  have lt_a1 := GHeap.ltg a1
  have lt_a2 := GHeap.ltg a2
  have lt_a3 := GHeap.ltg a3
  have lt_a4 := GHeap.ltg a4
  have lt_a5 := GHeap.ltg a5
  have lt_aF := GHeap.ltg aF
  have lt_aT := GHeap.ltg aT
  have lt_aI := GHeap.ltg aI
  have lt_aC := GHeap.ltg aC
  have lt_aV := GHeap.ltg aV
  replace hin := base_hin.mono hle
  have hb1 : Prof.At _ g1 0 m p := ⟨Mem.of_get a1, hin⟩
  obtain ⟨fs1, ft1, c101, c111, c121, i21, i31, i41⟩ := hb1.get
  have hm1 : MemN _ _ _ _ _ := ⟨rfl, hb1.1⟩
  have hi1 := hb1.2
  have hms1 : MemN _ _ _ _ _ := ⟨rfl, fs1.1⟩
  have his1 := fs1.2
  have hmt1 : MemN _ _ _ _ _ := ⟨rfl, ft1.1⟩
  have hit1 := ft1.2
  refine .seq (fun K8 hK8 => .seq (fun K9 hK9 => .region (.mv rfl (.m rfl rfl rfl (.fieldAddr fo_30_0_B rfl) ?_))))
  refine .m rfl rfl rfl (.load on_2_A rfl (by first | assumption | exact Mem.of_get a3 0 _ rfl)) ?_
  refine .m rfl rfl rfl (.cmp rfl rfl rfl) (.nil (hK9 _ _ ?_))
  refine .cond rfl (fun h36 => ?_) (fun h36 => ?_)
  ·
   simp only [sps] at h36
   refine .skip ?_
   refine hK8 _ _ (.seq (fun K10 hK10 => ?_))
   refine .block ?_
   refine .seq (fun K11 hK11 => .region (.mv rfl (.nil (hK11 _ _ ?_))))
   refine .block ?_
   refine .loopR (σ := Nat × (Nat → Option Addr) × Nat × Nat × Nat) [(1, some _), (2, some _), (3, some _), (4, some _), (5, some _), (6, some _), (7, some _), (9, some _)] (fun (y, r2, gV2, gF2, gT2) => [(10, some (.int .i64 (y : Int))), (8, some (.slice (some ⟨gV2, 0, none⟩) (m.colP x y 0).length (m.colP x y 0).length))]) (fun (y, r2, gV2, gF2, gT2) H' => (y : Int) ≤ m.t.obj ∧ ColSt 2 22 30 34 H H' m p g1 g2 g3 g4 g5 gI gC r0 [.int .i64 0, .slice none 0 0, .slice none 0 0, .slice none 0 0, .slice none 0 0] x y 0 r2 gV2 gF2 gT2) (fun (y, r2, gV2, gF2, gT2) => (m.t.obj - y : Int).toNat) ((0, r1, gV, gF, gT)) ⟨rfl, rfl, rfl, rfl, rfl, rfl, rfl, rfl, trivial⟩ ⟨rfl, rfl, trivial⟩ ?_ ?_
   ·
    exact ⟨by omega, hQ⟩
   rintro ⟨y, r2, gV2, gF2, gT2⟩ HL2 hI KL2 hKL2
   refine .forget (fr' := [(10, some (.int .i64 (y : Int))), (8, some (.slice (some ⟨gV2, 0, none⟩) (m.colP x y 0).length (m.colP x y 0).length)), (1, some _), (2, some _), (3, some _), (4, some _), (5, some _), (6, some _), (7, some _), (9, some _)]) ⟨rfl, rfl, rfl, rfl, rfl, rfl, rfl, rfl, rfl, rfl, trivial⟩ ?_
   obtain ⟨hy, hQ⟩ := hI
   obtain ⟨hle, a1, a2, a3, a4, a5, aF, aT, aI, aC, aV, rows0, rows1, z1, z2, z3, w1, w2, bF, bT, bI, bC, bV, bg5, n12, n13, n23, nV, n15, n25, n35, n45⟩ := id hQ
   have nx_HL2 := hle.1
   have lt_a1 := GHeap.ltg a1
   have lt_a4 := GHeap.ltg a4
   replace hin := base_hin.mono hle
   have hb1 : Prof.At _ g1 0 m p := ⟨Mem.of_get a1, hin⟩
   obtain ⟨fs1, ft1, c101, c111, c121, i21, i31, i41⟩ := hb1.get
   have hm1 : MemN _ _ _ _ _ := ⟨rfl, hb1.1⟩
   have hi1 := hb1.2
   have hms1 : MemN _ _ _ _ _ := ⟨rfl, fs1.1⟩
   have his1 := fs1.2
   have hmt1 : MemN _ _ _ _ _ := ⟨rfl, ft1.1⟩
   have hit1 := ft1.2
   refine .seq (fun K12 hK12 => .seq (fun K13 hK13 => .region (.mv rfl (.m rfl rfl rfl (.fieldAddr fo_30_0_B rfl) ?_))))
   refine .m rfl rfl rfl (.load on_2_A rfl (by first | assumption | exact Mem.of_get a4 0 _ rfl)) ?_
   refine .m rfl rfl rfl (.cmp rfl rfl rfl) (.nil (hK13 _ _ ?_))
   refine .cond rfl (fun h42 => ?_) (fun h42 => ?_)
   ·
    simp only [sps] at h42
    have hz := hC.s2 (x := x) (y := y) (by omega) (by omega)
    have hzl := hC.z.at (x := x) (y := y) (by omega) (by omega)
    refine .skip ?_
    refine hK12 _ _ (.seq (fun K14 hK14 => ?_))
    refine .block ?_
    refine .seq (fun K15 hK15 => .region (.mv rfl (.nil (hK15 _ _ ?_))))
    refine .block ?_
    refine .loopR (σ := Nat × (Nat → Option Addr) × Nat × Nat × Nat) [(1, some _), (2, some _), (3, some _), (4, some _), (5, some _), (6, some _), (7, some _), (9, some _), (10, some _)] (fun (e, r4, gV3, gF3, gT3) => [(11, some (.int .i64 (e : Int))), (8, some (.slice (some ⟨gV3, 0, none⟩) (m.colP x y e).length (m.colP x y e).length))]) (fun (e, r4, gV3, gF3, gT3) H' => e ≤ m.colS2 x y ∧ ColSt 2 22 30 34 H H' m p g1 g2 g3 g4 g5 gI gC r0 [.int .i64 0, .slice none 0 0, .slice none 0 0, .slice none 0 0, .slice none 0 0] x y e r4 gV3 gF3 gT3) (fun (e, r4, gV3, gF3, gT3) => m.colS2 x y - e) ((0, r2, gV2, gF2, gT2)) ⟨rfl, rfl, rfl, rfl, rfl, rfl, rfl, rfl, rfl, trivial⟩ ⟨rfl, rfl, trivial⟩ ?_ ?_
    ·
     exact ⟨by omega, hQ⟩
    rintro ⟨e, r4, gV3, gF3, gT3⟩ HL3 hI KL3 hKL3
    refine .forget (fr' := [(11, some (.int .i64 (e : Int))), (8, some (.slice (some ⟨gV3, 0, none⟩) (m.colP x y e).length (m.colP x y e).length)), (1, some _), (2, some _), (3, some _), (4, some _), (5, some _), (6, some _), (7, some _), (9, some _), (10, some _)]) ⟨rfl, rfl, rfl, rfl, rfl, rfl, rfl, rfl, rfl, rfl, rfl, trivial⟩ ?_
    obtain ⟨he, hQ⟩ := hI
    obtain ⟨hle, a1, a2, a3, a4, a5, aF, aT, aI, aC, aV, rows0, rows1, z1, z2, z3, w1, w2, bF, bT, bI, bC, bV, bg5, n12, n13, n23, nV, n15, n25, n35, n45⟩ := id hQ
    have rk := St.refl [gV3, gF3, gT3, g5] HL3
    have q1 := row_ne a1 aV rfl
    have q2 := row_ne a3 aV rfl
    have q3 := row_ne a5 aV rfl
    have q4 := row_ne aF aV rfl
    have q5 := row_ne aT aV rfl
    have q6 := row_ne a1 aF rfl
    have q7 := row_ne a3 aF rfl
    have q8 := row_ne a5 aF rfl
    have q9 := row_ne aT a5 rfl
    have q10 := row_ne a1 aT rfl
    have q11 := row_ne a3 aT rfl
    have hpl := hC.le (x := x) (y := y) (e := e) (by omega) (by omega) he
    have hsl : (m.colSp x y e).length = m.colN + (m.colP x y e).length := by unfold Prof.colSp; rw [List.length_append, List.length_map, m.sum_n]
    have htl : (m.colTp x y e).length = m.colN + (m.colP x y e).length := by unfold Prof.colTp; rw [List.length_append, List.length_map]; congr 1; simp only [Cat.sum, Prof.colN, List.length_append, List.length_map]; have := hc.tl; have := hd.tl; omega
    have hfl : (slsL r4 (m.colP x y e)).length = (m.colP x y e).length := length_slsL _ _
    have nx_HL3 := hle.1
    have lt_a1 := GHeap.ltg a1
    have lt_a3 := GHeap.ltg a3
    have lt_a5 := GHeap.ltg a5
    have lt_aF := GHeap.ltg aF
    have lt_aT := GHeap.ltg aT
    have lt_aV := GHeap.ltg aV
    replace hin := base_hin.mono hle
    have hb1 : Prof.At _ g1 0 m p := ⟨Mem.of_get a1, hin⟩
    obtain ⟨fs1, ft1, c101, c111, c121, i21, i31, i41⟩ := hb1.get
    have hm1 : MemN _ _ _ _ _ := ⟨rfl, hb1.1⟩
    have hi1 := hb1.2
    have hms1 : MemN _ _ _ _ _ := ⟨rfl, fs1.1⟩
    have his1 := fs1.2
    have hmt1 : MemN _ _ _ _ _ := ⟨rfl, ft1.1⟩
    have hit1 := ft1.2
    have u1 := i21.2 x (by omega)
    refine .seq (fun K16 hK16 => .seq (fun K17 hK17 => .region (.mv rfl (.m rfl rfl rfl (.fieldAddr fo_34_2_VProf rfl) ?_))))
    refine .m rfl rfl rfl (.load on_23_B rfl (by first | assumption | exact Mem.of_get a1 10 _ rfl)) ?_
    refine .mv rfl ?_
    refine .m rfl rfl rfl (.idxN sl_23_B (Intss.sl (by assumption)) rfl rfl (by omega)) ?_
    refine .m rfl rfl rfl (.loadR on_22_B (by assumption) rfl (by omega)) ?_
    refine .mv rfl ?_
    refine .m rfl rfl rfl (.idxN sl_22_A (by assumption) rfl rfl (by omega)) ?_
    refine .m rfl rfl rfl (.loadI on_2_A (by assumption) rfl (by omega)) ?_
    refine .m rfl rfl rfl (.cmp rfl rfl rfl) (.nil (hK17 _ _ ?_))
    refine .cond rfl (fun h54 => ?_) (fun h54 => ?_)
    ·
     simp only [sps] at h54
     refine .skip ?_
     refine hK16 _ _ (.seq (fun K18 hK18 => ?_))
     refine .block ?_
     refine .seq (fun K19 hK19 => .region (.mv rfl (.mv rfl (.mv rfl (.mv rfl ?_)))))
     refine .r rfl rfl rfl (.litR rfl sl_22_A ze_2_E rfl rfl (by omega) (by omega) rfl rfl) ?_
     rintro _ H61 ⟨g61, rfl, le61, ge61, at61⟩
     have nx_H61 := le61.1
     replace hle := hle.trans le61
     replace rk := rk.le le61
     replace a1 := le61.2 _ _ a1
     replace a3 := le61.2 _ _ a3
     replace a5 := le61.2 _ _ a5
     replace aF := le61.2 _ _ aF
     replace aT := le61.2 _ _ aT
     replace aV := le61.2 _ _ aV
     have lt_at61 := GHeap.ltg at61
     replace hin := base_hin.mono hle
     clear hb1 fs1 ft1 c101 c111 c121 i21 i31 i41 hm1 hi1 hms1 his1 hmt1 hit1
     have hb1 : Prof.At _ g1 0 m p := ⟨Mem.of_get a1, hin⟩
     obtain ⟨fs1, ft1, c101, c111, c121, i21, i31, i41⟩ := hb1.get
     have hm1 : MemN _ _ _ _ _ := ⟨rfl, hb1.1⟩
     have hi1 := hb1.2
     have hms1 : MemN _ _ _ _ _ := ⟨rfl, fs1.1⟩
     have his1 := fs1.2
     have hmt1 : MemN _ _ _ _ _ := ⟨rfl, ft1.1⟩
     have hit1 := ft1.2
     clear u1
     have u1 := i21.2 x (by omega)
     refine .r rfl rfl rfl (.litR rfl sl_23_B ze_22_E rfl rfl (by omega) (by omega) rfl rfl) ?_
     rintro _ H62 ⟨g62, rfl, le62, ge62, at62⟩
     have nx_H62 := le62.1
     replace hle := hle.trans le62
     replace rk := rk.le le62
     replace a1 := le62.2 _ _ a1
     replace a3 := le62.2 _ _ a3
     replace a5 := le62.2 _ _ a5
     replace aF := le62.2 _ _ aF
     replace aT := le62.2 _ _ aT
     replace aV := le62.2 _ _ aV
     replace at61 := le62.2 _ _ at61
     have lt_at62 := GHeap.ltg at62
     replace hin := base_hin.mono hle
     clear hb1 fs1 ft1 c101 c111 c121 i21 i31 i41 hm1 hi1 hms1 his1 hmt1 hit1
     have hb1 : Prof.At _ g1 0 m p := ⟨Mem.of_get a1, hin⟩
     obtain ⟨fs1, ft1, c101, c111, c121, i21, i31, i41⟩ := hb1.get
     have hm1 : MemN _ _ _ _ _ := ⟨rfl, hb1.1⟩
     have hi1 := hb1.2
     have hms1 : MemN _ _ _ _ _ := ⟨rfl, fs1.1⟩
     have his1 := fs1.2
     have hmt1 : MemN _ _ _ _ _ := ⟨rfl, ft1.1⟩
     have hit1 := ft1.2
     clear u1
     have u1 := i21.2 x (by omega)
     refine .r rfl rfl rfl (.appendV rfl sl_23_B ze_22_E rfl by_22_E sl_23_B rfl rfl (by assumption) (by assumption) (by first | omega | (simp <;> omega)) rfl rfl (by omega) (by omega)) ?_
     rintro _ H63 ⟨g63, rfl, st63, ge63, at63⟩
     have nx_H63 := st63.nx
     replace hle := hle.st st63 (fun k hk => ⟨by omega, trivial⟩)
     replace rk := rk.st st63 (fun k hk ho => by simp only [out, and_true] at ho ⊢ <;> first | exact ho | exact ho.1 | exact ho.2 | exact ho.2.1 | exact ho.2.2 | exact ho.2.2.1 | exact ho.2.2.2 | omega)
     replace a1 := st63.same _ _ ⟨(by first | assumption | omega), trivial⟩ a1
     replace a3 := st63.same _ _ ⟨(by first | assumption | omega), trivial⟩ a3
     replace a5 := st63.same _ _ ⟨(by first | assumption | omega), trivial⟩ a5
     replace aF := st63.same _ _ ⟨(by first | assumption | omega), trivial⟩ aF
     replace aT := st63.same _ _ ⟨(by first | assumption | omega), trivial⟩ aT
     replace at61 := st63.same _ _ ⟨(by first | assumption | omega), trivial⟩ at61
     replace at62 := st63.same _ _ ⟨(by first | assumption | omega), trivial⟩ at62
     have lt_at63 := GHeap.ltg at63
     replace hin := base_hin.mono hle
     clear hb1 fs1 ft1 c101 c111 c121 i21 i31 i41 hm1 hi1 hms1 his1 hmt1 hit1
     have hb1 : Prof.At _ g1 0 m p := ⟨Mem.of_get a1, hin⟩
     obtain ⟨fs1, ft1, c101, c111, c121, i21, i31, i41⟩ := hb1.get
     have hm1 : MemN _ _ _ _ _ := ⟨rfl, hb1.1⟩
     have hi1 := hb1.2
     have hms1 : MemN _ _ _ _ _ := ⟨rfl, fs1.1⟩
     have his1 := fs1.2
     have hmt1 : MemN _ _ _ _ _ := ⟨rfl, ft1.1⟩
     have hit1 := ft1.2
     clear u1
     have u1 := i21.2 x (by omega)
     refine .mv rfl (.nil (hK19 _ _ (.seq (fun K20 hK20 => .region (.m rfl rfl rfl (.fieldAddr fo_30_1_B rfl) ?_)))))
     refine .m rfl rfl rfl (.load on_22_B rfl (by first | assumption | exact Mem.of_get a5 1 _ rfl)) ?_
     refine .mv rfl ?_
     refine .r rfl rfl rfl (.litR rfl sl_22_A ze_2_E rfl rfl (by omega) (by omega) rfl rfl) ?_
     rintro _ H67 ⟨g67, rfl, le67, ge67, at67⟩
     have nx_H67 := le67.1
     replace hle := hle.trans le67
     replace rk := rk.le le67
     replace a1 := le67.2 _ _ a1
     replace a3 := le67.2 _ _ a3
     replace a5 := le67.2 _ _ a5
     replace aF := le67.2 _ _ aF
     replace aT := le67.2 _ _ aT
     replace at61 := le67.2 _ _ at61
     replace at62 := le67.2 _ _ at62
     replace at63 := le67.2 _ _ at63
     have lt_at67 := GHeap.ltg at67
     replace hin := base_hin.mono hle
     clear hb1 fs1 ft1 c101 c111 c121 i21 i31 i41 hm1 hi1 hms1 his1 hmt1 hit1
     have hb1 : Prof.At _ g1 0 m p := ⟨Mem.of_get a1, hin⟩
     obtain ⟨fs1, ft1, c101, c111, c121, i21, i31, i41⟩ := hb1.get
     have hm1 : MemN _ _ _ _ _ := ⟨rfl, hb1.1⟩
     have hi1 := hb1.2
     have hms1 : MemN _ _ _ _ _ := ⟨rfl, fs1.1⟩
     have his1 := fs1.2
     have hmt1 : MemN _ _ _ _ _ := ⟨rfl, ft1.1⟩
     have hit1 := ft1.2
     clear u1
     have u1 := i21.2 x (by omega)
     refine .r rfl rfl rfl (.appendI rfl sl_22_A ze_2_E rfl by_2_E sl_22_A rfl rfl (by assumption) (by assumption) (by first | omega | (simp <;> omega)) (by omega) (by omega)) ?_
     rintro _ H68 ⟨g68, rfl, st68, ge68, at68⟩
     have nx_H68 := st68.nx
     replace hle := hle.st st68 (fun k hk => ⟨by omega, trivial⟩)
     replace rk := rk.st st68 (fun k hk ho => by simp only [out, and_true] at ho ⊢ <;> first | exact ho | exact ho.1 | exact ho.2 | exact ho.2.1 | exact ho.2.2 | exact ho.2.2.1 | exact ho.2.2.2 | omega)
     replace a1 := st68.same _ _ ⟨(by first | assumption | omega), trivial⟩ a1
     replace a3 := st68.same _ _ ⟨(by first | assumption | omega), trivial⟩ a3
     replace a5 := st68.same _ _ ⟨(by first | assumption | omega), trivial⟩ a5
     replace aT := st68.same _ _ ⟨(by first | assumption | omega), trivial⟩ aT
     replace at61 := st68.same _ _ ⟨(by first | assumption | omega), trivial⟩ at61
     replace at62 := st68.same _ _ ⟨(by first | assumption | omega), trivial⟩ at62
     replace at63 := st68.same _ _ ⟨(by first | assumption | omega), trivial⟩ at63
     replace at67 := st68.same _ _ ⟨(by first | assumption | omega), trivial⟩ at67
     have lt_at68 := GHeap.ltg at68
     replace hin := base_hin.mono hle
     clear hb1 fs1 ft1 c101 c111 c121 i21 i31 i41 hm1 hi1 hms1 his1 hmt1 hit1
     have hb1 : Prof.At _ g1 0 m p := ⟨Mem.of_get a1, hin⟩
     obtain ⟨fs1, ft1, c101, c111, c121, i21, i31, i41⟩ := hb1.get
     have hm1 : MemN _ _ _ _ _ := ⟨rfl, hb1.1⟩
     have hi1 := hb1.2
     have hms1 : MemN _ _ _ _ _ := ⟨rfl, fs1.1⟩
     have his1 := fs1.2
     have hmt1 : MemN _ _ _ _ _ := ⟨rfl, ft1.1⟩
     have hit1 := ft1.2
     clear u1
     have u1 := i21.2 x (by omega)
     refine .m rfl rfl rfl (.fieldAddr fo_30_1_B rfl) ?_
     refine .r0 rfl rfl (.storeR rfl sz_22_E rfl rfl rfl (by assumption) (by first | exact Nat.le_of_ble_eq_true rfl | (simp; done) | (simp <;> omega))) ?_
     rintro _ H15006 ⟨rfl, st15006, at15006⟩
     have nx_H15006 := st15006.nx
     replace hle := hle.st st15006 (fun k hk => ⟨by omega, trivial⟩)
     replace rk := rk.st st15006 (fun k hk ho => by simp only [out, and_true] at ho ⊢ <;> first | exact ho | exact ho.1 | exact ho.2 | exact ho.2.1 | exact ho.2.2 | exact ho.2.2.1 | exact ho.2.2.2 | omega)
     have ne_g1_g5 : g1 ≠ g5 := by first | assumption | omega
     replace a1 := st15006.same _ _ ⟨ne_g1_g5, trivial⟩ a1
     have ne_g3_g5 : g3 ≠ g5 := by first | assumption | omega
     replace a3 := st15006.same _ _ ⟨ne_g3_g5, trivial⟩ a3
     have ne_gT3_g5 : gT3 ≠ g5 := by first | assumption | omega
     replace aT := st15006.same _ _ ⟨ne_gT3_g5, trivial⟩ aT
     have ne_g61_g5 : g61 ≠ g5 := by first | assumption | omega
     replace at61 := st15006.same _ _ ⟨ne_g61_g5, trivial⟩ at61
     have ne_g62_g5 : g62 ≠ g5 := by first | assumption | omega
     replace at62 := st15006.same _ _ ⟨ne_g62_g5, trivial⟩ at62
     have ne_g63_g5 : g63 ≠ g5 := by first | assumption | omega
     replace at63 := st15006.same _ _ ⟨ne_g63_g5, trivial⟩ at63
     have ne_g67_g5 : g67 ≠ g5 := by first | assumption | omega
     replace at67 := st15006.same _ _ ⟨ne_g67_g5, trivial⟩ at67
     have ne_g68_g5 : g68 ≠ g5 := by first | assumption | omega
     replace at68 := st15006.same _ _ ⟨ne_g68_g5, trivial⟩ at68
     have lt_at15006 := GHeap.ltg at15006
     replace hin := base_hin.mono hle
     clear hb1 fs1 ft1 c101 c111 c121 i21 i31 i41 hm1 hi1 hms1 his1 hmt1 hit1
     have hb1 : Prof.At _ g1 0 m p := ⟨Mem.of_get a1, hin⟩
     obtain ⟨fs1, ft1, c101, c111, c121, i21, i31, i41⟩ := hb1.get
     have hm1 : MemN _ _ _ _ _ := ⟨rfl, hb1.1⟩
     have hi1 := hb1.2
     have hms1 : MemN _ _ _ _ _ := ⟨rfl, fs1.1⟩
     have his1 := fs1.2
     have hmt1 : MemN _ _ _ _ _ := ⟨rfl, ft1.1⟩
     have hit1 := ft1.2
     clear u1
     have u1 := i21.2 x (by omega)
     try simp only [Nat.zero_add, List.set_cons_succ, List.set_cons_zero] at at15006
     refine .nil (hK20 _ _ (.region (.m rfl rfl rfl (.fieldAddr fo_30_2_B rfl) ?_)))
     refine .m rfl rfl rfl (.load on_22_B rfl (by first | assumption | exact Mem.of_get at15006 2 _ rfl)) ?_
     refine .m rfl rfl rfl (.fieldAddr fo_30_0_B rfl) ?_
     refine .m rfl rfl rfl (.load on_2_A rfl (by first | assumption | exact Mem.of_get a3 0 _ rfl)) ?_
     refine .mv rfl ?_
     refine .m rfl rfl rfl (.add rfl rfl rfl (by omega) (by omega)) ?_
     refine .r rfl rfl rfl (.litR rfl sl_22_A ze_2_E rfl rfl (by omega) (by omega) rfl rfl) ?_
     rintro _ H76 ⟨g76, rfl, le76, ge76, at76⟩
     have nx_H76 := le76.1
     replace hle := hle.trans le76
     replace rk := rk.le le76
     replace a1 := le76.2 _ _ a1
     replace a3 := le76.2 _ _ a3
     replace aT := le76.2 _ _ aT
     replace at61 := le76.2 _ _ at61
     replace at62 := le76.2 _ _ at62
     replace at63 := le76.2 _ _ at63
     replace at67 := le76.2 _ _ at67
     replace at68 := le76.2 _ _ at68
     replace at15006 := le76.2 _ _ at15006
     have lt_at76 := GHeap.ltg at76
     replace hin := base_hin.mono hle
     clear hb1 fs1 ft1 c101 c111 c121 i21 i31 i41 hm1 hi1 hms1 his1 hmt1 hit1
     have hb1 : Prof.At _ g1 0 m p := ⟨Mem.of_get a1, hin⟩
     obtain ⟨fs1, ft1, c101, c111, c121, i21, i31, i41⟩ := hb1.get
     have hm1 : MemN _ _ _ _ _ := ⟨rfl, hb1.1⟩
     have hi1 := hb1.2
     have hms1 : MemN _ _ _ _ _ := ⟨rfl, fs1.1⟩
     have his1 := fs1.2
     have hmt1 : MemN _ _ _ _ _ := ⟨rfl, ft1.1⟩
     have hit1 := ft1.2
     clear u1
     have u1 := i21.2 x (by omega)
     refine .r rfl rfl rfl (.appendI rfl sl_22_A ze_2_E rfl by_2_E sl_22_A rfl rfl (by assumption) (by assumption) (by first | omega | (simp <;> omega)) (by omega) (by omega)) ?_
     rintro _ H77 ⟨g77, rfl, st77, ge77, at77⟩
     have nx_H77 := st77.nx
     replace hle := hle.st st77 (fun k hk => ⟨by omega, trivial⟩)
     replace rk := rk.st st77 (fun k hk ho => by simp only [out, and_true] at ho ⊢ <;> first | exact ho | exact ho.1 | exact ho.2 | exact ho.2.1 | exact ho.2.2 | exact ho.2.2.1 | exact ho.2.2.2 | omega)
     replace a1 := st77.same _ _ ⟨(by first | assumption | omega), trivial⟩ a1
     replace a3 := st77.same _ _ ⟨(by first | assumption | omega), trivial⟩ a3
     replace at61 := st77.same _ _ ⟨(by first | assumption | omega), trivial⟩ at61
     replace at62 := st77.same _ _ ⟨(by first | assumption | omega), trivial⟩ at62
     replace at63 := st77.same _ _ ⟨(by first | assumption | omega), trivial⟩ at63
     replace at67 := st77.same _ _ ⟨(by first | assumption | omega), trivial⟩ at67
     replace at68 := st77.same _ _ ⟨(by first | assumption | omega), trivial⟩ at68
     replace at15006 := st77.same _ _ ⟨(Ne.symm ne_gT3_g5), trivial⟩ at15006
     replace at76 := st77.same _ _ ⟨(by first | assumption | omega), trivial⟩ at76
     have lt_at77 := GHeap.ltg at77
     replace hin := base_hin.mono hle
     clear hb1 fs1 ft1 c101 c111 c121 i21 i31 i41 hm1 hi1 hms1 his1 hmt1 hit1
     have hb1 : Prof.At _ g1 0 m p := ⟨Mem.of_get a1, hin⟩
     obtain ⟨fs1, ft1, c101, c111, c121, i21, i31, i41⟩ := hb1.get
     have hm1 : MemN _ _ _ _ _ := ⟨rfl, hb1.1⟩
     have hi1 := hb1.2
     have hms1 : MemN _ _ _ _ _ := ⟨rfl, fs1.1⟩
     have his1 := fs1.2
     have hmt1 : MemN _ _ _ _ _ := ⟨rfl, ft1.1⟩
     have hit1 := ft1.2
     clear u1
     have u1 := i21.2 x (by omega)
     refine .m rfl rfl rfl (.fieldAddr fo_30_2_B rfl) ?_
     refine .r0 rfl rfl (.storeR rfl sz_22_E rfl rfl rfl (by assumption) (by first | exact Nat.le_of_ble_eq_true rfl | (simp; done) | (simp <;> omega))) ?_
     rintro _ H16009 ⟨rfl, st16009, at16009⟩
     have nx_H16009 := st16009.nx
     replace hle := hle.st st16009 (fun k hk => ⟨by omega, trivial⟩)
     replace rk := rk.st st16009 (fun k hk ho => by simp only [out, and_true] at ho ⊢ <;> first | exact ho | exact ho.1 | exact ho.2 | exact ho.2.1 | exact ho.2.2 | exact ho.2.2.1 | exact ho.2.2.2 | omega)
     replace a1 := st16009.same _ _ ⟨ne_g1_g5, trivial⟩ a1
     replace a3 := st16009.same _ _ ⟨ne_g3_g5, trivial⟩ a3
     replace at61 := st16009.same _ _ ⟨ne_g61_g5, trivial⟩ at61
     replace at62 := st16009.same _ _ ⟨ne_g62_g5, trivial⟩ at62
     replace at63 := st16009.same _ _ ⟨ne_g63_g5, trivial⟩ at63
     replace at67 := st16009.same _ _ ⟨ne_g67_g5, trivial⟩ at67
     replace at68 := st16009.same _ _ ⟨ne_g68_g5, trivial⟩ at68
     replace at76 := st16009.same _ _ ⟨(by first | assumption | omega), trivial⟩ at76
     replace at77 := st16009.same _ _ ⟨(by first | assumption | omega), trivial⟩ at77
     have lt_at16009 := GHeap.ltg at16009
     replace hin := base_hin.mono hle
     clear hb1 fs1 ft1 c101 c111 c121 i21 i31 i41 hm1 hi1 hms1 his1 hmt1 hit1
     have hb1 : Prof.At _ g1 0 m p := ⟨Mem.of_get a1, hin⟩
     obtain ⟨fs1, ft1, c101, c111, c121, i21, i31, i41⟩ := hb1.get
     have hm1 : MemN _ _ _ _ _ := ⟨rfl, hb1.1⟩
     have hi1 := hb1.2
     have hms1 : MemN _ _ _ _ _ := ⟨rfl, fs1.1⟩
     have his1 := fs1.2
     have hmt1 : MemN _ _ _ _ _ := ⟨rfl, ft1.1⟩
     have hit1 := ft1.2
     clear u1
     have u1 := i21.2 x (by omega)
     try simp only [Nat.zero_add, List.set_cons_succ, List.set_cons_zero] at at16009
     refine .nil (hK18 _ _ (.region (.mv rfl ?_)))
     refine .m rfl rfl rfl (.add rfl rfl rfl (by omega) (by omega)) ?_
     refine .mv rfl (.nil ?_)
     rw [show (m.colP x y e).length + 1 = (m.colP x y (e + 1)).length by rw [Prof.colP_snoc, List.length_append]; rfl]
     refine hKL3 ((e + 1, upd r4 (m.colP x y e).length (some ⟨g61, 0, none⟩), g63, g68, g77)) _ _ ?_ ?_ ⟨rfl, rfl, rfl, rfl, rfl, rfl, rfl, rfl, rfl, rfl, rfl, trivial⟩
     ·
      exact ⟨by omega, hQ.app rk rfl rfl rfl rfl rfl at61 (by omega) at63 (by omega) at68 (by omega) at77 (by omega) at16009 rfl rfl rfl (by omega) (by omega) (by omega)⟩
     (dsimp only; omega)
    try simp only [sps] at h54
    refine .exit ?_
    refine hK14 _ _ (.region (.mv rfl ?_))
    refine .m rfl rfl rfl (.add rfl rfl rfl (by omega) (by omega)) ?_
    refine .mv rfl (.nil ?_)
    obtain rfl : e = m.colS2 x y := by omega
    rw [← Prof.colP_next2]
    refine hKL2 ((y + 1, r4, gV3, gF3, gT3)) _ _ ?_ ?_ ⟨rfl, rfl, rfl, rfl, rfl, rfl, rfl, rfl, rfl, rfl, trivial⟩
    ·
     exact ⟨by omega, hQ.next2⟩
    (dsimp only; omega)
   try simp only [sps] at h42
   refine .exit ?_
   refine hK10 _ _ (.region (.mv rfl ?_))
   refine .m rfl rfl rfl (.add rfl rfl rfl (by omega) (by omega)) ?_
   refine .mv rfl (.nil ?_)
   obtain rfl : y = m.t.obj.toNat := by omega
   rw [← Prof.colP_next1]
   refine hKL1 ((x + 1, r2, gV2, gF2, gT2)) _ _ ?_ ?_ ⟨rfl, rfl, rfl, rfl, rfl, rfl, rfl, rfl, rfl, trivial⟩
   ·
    exact ⟨by omega, hQ.next1⟩
   (dsimp only; omega)
  try simp only [sps] at h36
  refine .exit ?_
  refine hK6 _ _ (.seq (fun K21 hK21 => .seq (fun K22 hK22 => .region ?_)))
  obtain rfl : x = m.s.obj.toNat := by omega
  rw [show m.colSp m.s.obj.toNat 0 0 = m.colS from rfl] at aF a5
  rw [show m.colTp m.s.obj.toNat 0 0 = m.colT from rfl] at aT a5
  rw [show m.colP m.s.obj.toNat 0 0 = m.colL from rfl] at aV rows1 ⊢
  have qF2 := row_ne aF a2 rfl
  have qT2 := row_ne aT a2 rfl
  have qV2 := row_ne aV a2 rfl
  have qF5 := row_ne aF a5 rfl
  have qT5 := row_ne aT a5 rfl
  have qV5 := row_ne aV a5 rfl
  have v8 : IntssAt H.next HL1 _ _ _ := (rows1.done aV bV).1.resolve_left (fun h => by cases h.2)
  have v5 : IntssAt H.next HL1 _ _ _ := (rows0.done aC bC).1.resolve_left (fun h => by cases h.2)
  refine .m rfl rfl rfl (.loadM ag_30_D rfl ⟨rfl, Mem.of_get a5⟩) ?_
  have bs_v8 := v8
  have lv_v8 : Keep H.next HL1 HL1 := fun _ _ _ h => h
  refine .callQ rfl rfl rfl rfl @Try.call73 rfl (l02Fits_c (c := m.colPre) (p := ownP gF gT gI gC r0) (hin := ⟨Ints.of_get aF, Ints.of_get aT, Ints.of_get aI, v5.intss⟩)) ?_
  refine .m rfl rfl rfl (.not rfl) ?_
  have bs_v5 := v5
  have lv_v5 : Keep H.next HL1 HL1 := fun _ _ _ h => h
  have j8 := v8.intss
  have j5 := v5.intss
  refine .nil (hK22 _ _ ?_)
  refine .cond rfl (fun h81 => ?_) (fun h81 => ?_)
  ·
   simp only [sps] at h81
   refine .seq (fun K23 hK23 => .region ?_)
   refine .m rfl rfl rfl (.loadM ag_30_D rfl ⟨rfl, Mem.of_get a5⟩) ?_
   have a2s := a2
   refine .r0 rfl rfl (.fillR rfl sz_30_D rfl rfl rfl rfl (by assumption) (by first | rfl | exact Nat.le_of_ble_eq_true rfl | simp)) ?_
   rintro _ H18001 ⟨rfl, st18001, at18001⟩
   have nx_H18001 := st18001.nx
   replace hle := hle.st st18001 (fun k hk => ⟨by omega, trivial⟩)
   have ne_g1_g2 : g1 ≠ g2 := by first | assumption | omega
   replace a1 := st18001.same _ _ ⟨ne_g1_g2, trivial⟩ a1
   have ne_g3_g2 : g3 ≠ g2 := by first | assumption | omega
   replace a3 := st18001.same _ _ ⟨ne_g3_g2, trivial⟩ a3
   have ne_g4_g2 : g4 ≠ g2 := by first | assumption | omega
   replace a4 := st18001.same _ _ ⟨ne_g4_g2, trivial⟩ a4
   replace a5 := st18001.same _ _ ⟨(by first | assumption | omega), trivial⟩ a5
   have ne_gF_g2 : gF ≠ g2 := by first | assumption | omega
   replace aF := st18001.same _ _ ⟨ne_gF_g2, trivial⟩ aF
   have ne_gT_g2 : gT ≠ g2 := by first | assumption | omega
   replace aT := st18001.same _ _ ⟨ne_gT_g2, trivial⟩ aT
   have ne_gI_g2 : gI ≠ g2 := by first | assumption | omega
   replace aI := st18001.same _ _ ⟨ne_gI_g2, trivial⟩ aI
   have ne_gC_g2 : gC ≠ g2 := by first | assumption | omega
   replace aC := st18001.same _ _ ⟨ne_gC_g2, trivial⟩ aC
   have ne_gV_g2 : gV ≠ g2 := by first | assumption | omega
   replace aV := st18001.same _ _ ⟨ne_gV_g2, trivial⟩ aV
   have lt_at18001 := GHeap.ltg at18001
   replace hin := base_hin.mono hle
   clear hb1 fs1 ft1 c101 c111 c121 i21 i31 i41 hm1 hi1 hms1 his1 hmt1 hit1
   have hb1 : Prof.At _ g1 0 m p := ⟨Mem.of_get a1, hin⟩
   obtain ⟨fs1, ft1, c101, c111, c121, i21, i31, i41⟩ := hb1.get
   have hm1 : MemN _ _ _ _ _ := ⟨rfl, hb1.1⟩
   have hi1 := hb1.2
   have hms1 : MemN _ _ _ _ _ := ⟨rfl, fs1.1⟩
   have his1 := fs1.2
   have hmt1 : MemN _ _ _ _ _ := ⟨rfl, ft1.1⟩
   have hit1 := ft1.2
   clear j8 j5
   have j8 := v8.intss
   have j5 := v5.intss
   refine .nil (hK23 _ _ ?_)
   refine .ret ?_
   refine hret _ _ ?_
   refine ⟨_, _, _, _, rfl, ag_30_D, (by rfl), (Mem.of_get at18001), ?_⟩
   refine ⟨hle, ownP gF gT gI gC r0, by rw [Prof.colFin_big h81]; rfl, ?_⟩
   rw [Prof.colFin_big h81]
   exact OwnCat.catR (eI := 2) (eS := 22) ⟨aF, aT, aI, aC, bF, bT, bI, bC, n12, n13, n23, rows0.st st18001 (.cons (rows0.neT a2s rfl) (.nil _ _)), z1, z2, z3⟩
  simp only [sps] at h81
  refine .skip ?_
  refine hK21 _ _ (.seq (fun K24 hK24 => .region ?_))
  refine .r rfl rfl rfl (.litR rfl sl_23_B ze_22_E rfl rfl (by omega) (by omega) rfl rfl) ?_
  rintro _ H83 ⟨g83, rfl, le83, ge83, at83⟩
  have nx_H83 := le83.1
  replace hle := hle.trans le83
  replace a1 := le83.2 _ _ a1
  replace a2 := le83.2 _ _ a2
  replace a3 := le83.2 _ _ a3
  replace a4 := le83.2 _ _ a4
  replace a5 := le83.2 _ _ a5
  replace aF := le83.2 _ _ aF
  replace aT := le83.2 _ _ aT
  replace aI := le83.2 _ _ aI
  replace aC := le83.2 _ _ aC
  replace aV := le83.2 _ _ aV
  replace lv_v8 := Keep.le lv_v8 le83
  replace v8 := bs_v8.keep lv_v8 (Nat.le_refl _)
  replace lv_v5 := Keep.le lv_v5 le83
  replace v5 := bs_v5.keep lv_v5 (Nat.le_refl _)
  have lt_at83 := GHeap.ltg at83
  replace hin := base_hin.mono hle
  clear hb1 fs1 ft1 c101 c111 c121 i21 i31 i41 hm1 hi1 hms1 his1 hmt1 hit1
  have hb1 : Prof.At _ g1 0 m p := ⟨Mem.of_get a1, hin⟩
  obtain ⟨fs1, ft1, c101, c111, c121, i21, i31, i41⟩ := hb1.get
  have hm1 : MemN _ _ _ _ _ := ⟨rfl, hb1.1⟩
  have hi1 := hb1.2
  have hms1 : MemN _ _ _ _ _ := ⟨rfl, fs1.1⟩
  have his1 := fs1.2
  have hmt1 : MemN _ _ _ _ _ := ⟨rfl, ft1.1⟩
  have hit1 := ft1.2
  clear j8 j5
  have j8 := v8.intss
  have j5 := v5.intss
  refine .mv rfl (.nil (hK24 _ _ (.seq (fun K25 hK25 => .seq (fun K26 hK26 => .region (.mv rfl (.nil (hK26 _ _ ?_))))))))
  refine .block ?_
  refine .loopR (σ := Nat × (Nat → Option Addr) × Nat × Nat) [(1, some _), (2, some _), (3, some _), (5, some _), (6, some _), (7, some _), (8, some _)] (fun (f, rr, gL12, nL12) => [(13, some (.int .i64 (f : Int))), (12, some (.slice (some ⟨gL12, 0, none⟩) nL12 nL12))]) (fun (f, rr, gL12, nL12) H' => St [g83] H83 H' ∧ H'.get gL12 = some (.row ((slsL rr (rowsOf (tabR m.colS m.colT m.colX m.colS.length) f))) 22 true) ∧ PL gL12 g83 H83.next ∧ nL12 = (slsL rr (rowsOf (tabR m.colS m.colT m.colX m.colS.length) f)).length ∧ f ≤ m.colS.length ∧ OwnL HL1.next H' 2 rr (rowsOf (tabR m.colS m.colT m.colX m.colS.length) f)) (fun (f, rr, gL12, nL12) => m.colS.length - f) ((0, fun _ => none, _, _)) ⟨rfl, rfl, rfl, rfl, rfl, rfl, rfl, trivial⟩ ⟨rfl, rfl, trivial⟩ ?_ ?_
  ·
   refine ⟨.refl _ _, by first | assumption | exact at83 | simpa using at83, ⟨.inl rfl⟩, by first | rfl | assumption | simp | omega, ?_⟩
   exact ⟨by omega, .nil _ _ _ _⟩
  rintro ⟨f, rr, gL12, nL12⟩ HL4 ⟨lst4, at_L12, pl_L12, ln_L12, hI⟩ KL4 hKL4
  refine .forget (fr' := [(13, some (.int .i64 (f : Int))), (12, some (.slice (some ⟨gL12, 0, none⟩) nL12 nL12)), (1, some _), (2, some _), (3, some _), (5, some _), (6, some _), (7, some _), (8, some _)]) ⟨rfl, rfl, rfl, rfl, rfl, rfl, rfl, rfl, rfl, trivial⟩ ?_
  have ge_L12 : H.next ≤ gL12 := pl_L12.ge (by omega) (by omega)
  have nx_HL4 := lst4.nx
  replace hle := hle.st lst4 (fun k hk => ⟨by omega, trivial⟩)
  have ne_g1_g83 : g1 ≠ g83 := by first | assumption | omega
  replace a1 := lst4.same _ _ ⟨ne_g1_g83, trivial⟩ a1
  have ne_g2_g83 : g2 ≠ g83 := by first | assumption | omega
  replace a2 := lst4.same _ _ ⟨ne_g2_g83, trivial⟩ a2
  have ne_g3_g83 : g3 ≠ g83 := by first | assumption | omega
  replace a3 := lst4.same _ _ ⟨ne_g3_g83, trivial⟩ a3
  have ne_g4_g83 : g4 ≠ g83 := by first | assumption | omega
  replace a4 := lst4.same _ _ ⟨ne_g4_g83, trivial⟩ a4
  have ne_g5_g83 : g5 ≠ g83 := by first | assumption | omega
  replace a5 := lst4.same _ _ ⟨ne_g5_g83, trivial⟩ a5
  have ne_gF_g83 : gF ≠ g83 := by first | assumption | omega
  replace aF := lst4.same _ _ ⟨ne_gF_g83, trivial⟩ aF
  have ne_gT_g83 : gT ≠ g83 := by first | assumption | omega
  replace aT := lst4.same _ _ ⟨ne_gT_g83, trivial⟩ aT
  have ne_gI_g83 : gI ≠ g83 := by first | assumption | omega
  replace aI := lst4.same _ _ ⟨ne_gI_g83, trivial⟩ aI
  have ne_gC_g83 : gC ≠ g83 := by first | assumption | omega
  replace aC := lst4.same _ _ ⟨ne_gC_g83, trivial⟩ aC
  have ne_gV_g83 : gV ≠ g83 := by first | assumption | omega
  replace aV := lst4.same _ _ ⟨ne_gV_g83, trivial⟩ aV
  replace lv_v8 := Keep.st lv_v8 lst4 (fun k hb hk => ⟨(by omega), trivial⟩)
  replace v8 := bs_v8.keep lv_v8 (Nat.le_refl _)
  replace lv_v5 := Keep.st lv_v5 lst4 (fun k hb hk => ⟨(by omega), trivial⟩)
  replace v5 := bs_v5.keep lv_v5 (Nat.le_refl _)
  have lt_at_L12 := GHeap.ltg at_L12
  replace hin := base_hin.mono hle
  clear hb1 fs1 ft1 c101 c111 c121 i21 i31 i41 hm1 hi1 hms1 his1 hmt1 hit1
  have hb1 : Prof.At _ g1 0 m p := ⟨Mem.of_get a1, hin⟩
  obtain ⟨fs1, ft1, c101, c111, c121, i21, i31, i41⟩ := hb1.get
  have hm1 : MemN _ _ _ _ _ := ⟨rfl, hb1.1⟩
  have hi1 := hb1.2
  have hms1 : MemN _ _ _ _ _ := ⟨rfl, fs1.1⟩
  have his1 := fs1.2
  have hmt1 : MemN _ _ _ _ _ := ⟨rfl, ft1.1⟩
  have hit1 := ft1.2
  clear j8 j5
  have j8 := v8.intss
  have j5 := v5.intss
  have rk := St.refl [gL12] HL4
  obtain ⟨hf, hR⟩ := hI
  have hat12 := at_L12
  have hql : (rowsOf (tabR m.colS m.colT m.colX m.colS.length) f).length = f := length_rowsOf _ _
  have hfl : (slsL rr (rowsOf (tabR m.colS m.colT m.colX m.colS.length) f)).length = f := by rw [length_slsL, hql]
  refine .seq (fun K27 hK27 => .seq (fun K28 hK28 => .region (.mv rfl (.m rfl rfl rfl (.fieldAddr fo_30_1_B rfl) ?_))))
  refine .m rfl rfl rfl (.load on_22_B rfl (by first | assumption | exact Mem.of_get a5 1 _ rfl)) ?_
  refine .m rfl rfl rfl (.len sl_22_A rfl) (.m rfl rfl rfl (.cmp rfl rfl rfl) (.nil (hK28 _ _ ?_)))
  refine .cond rfl (fun h88 => ?_) (fun h88 => ?_)
  ·
   simp only [sps] at h88
   refine .skip ?_
   refine hK27 _ _ (.seq (fun K29 hK29 => ?_))
   refine .block ?_
   refine .seq (fun K30 hK30 => .region ?_)
   refine .r rfl rfl rfl (.litR rfl sl_22_A ze_2_E rfl rfl (by omega) (by omega) rfl rfl) ?_
   rintro _ H91 ⟨g91, rfl, le91, ge91, at91⟩
   have nx_H91 := le91.1
   replace hle := hle.trans le91
   replace lst4 := lst4.le le91
   replace rk := rk.le le91
   replace a1 := le91.2 _ _ a1
   replace a2 := le91.2 _ _ a2
   replace a3 := le91.2 _ _ a3
   replace a4 := le91.2 _ _ a4
   replace a5 := le91.2 _ _ a5
   replace aF := le91.2 _ _ aF
   replace aT := le91.2 _ _ aT
   replace aI := le91.2 _ _ aI
   replace aC := le91.2 _ _ aC
   replace aV := le91.2 _ _ aV
   replace at_L12 := le91.2 _ _ at_L12
   replace lv_v8 := Keep.le lv_v8 le91
   replace v8 := bs_v8.keep lv_v8 (Nat.le_refl _)
   replace lv_v5 := Keep.le lv_v5 le91
   replace v5 := bs_v5.keep lv_v5 (Nat.le_refl _)
   have lt_at91 := GHeap.ltg at91
   replace hin := base_hin.mono hle
   clear hb1 fs1 ft1 c101 c111 c121 i21 i31 i41 hm1 hi1 hms1 his1 hmt1 hit1
   have hb1 : Prof.At _ g1 0 m p := ⟨Mem.of_get a1, hin⟩
   obtain ⟨fs1, ft1, c101, c111, c121, i21, i31, i41⟩ := hb1.get
   have hm1 : MemN _ _ _ _ _ := ⟨rfl, hb1.1⟩
   have hi1 := hb1.2
   have hms1 : MemN _ _ _ _ _ := ⟨rfl, fs1.1⟩
   have his1 := fs1.2
   have hmt1 : MemN _ _ _ _ _ := ⟨rfl, ft1.1⟩
   have hit1 := ft1.2
   clear j8 j5
   have j8 := v8.intss
   have j5 := v5.intss
   replace at91 : GHeap.get H91 g91 = some (.row (ints []) 2 true) := at91
   refine .mv rfl (.nil (hK30 _ _ (.seq (fun K31 hK31 => .seq (fun K32 hK32 => .region (.mv rfl (.nil (hK32 _ _ ?_))))))))
   refine .block ?_
   refine .loopR (σ := Nat × Nat × Nat) [(1, some _), (2, some _), (3, some _), (5, some _), (6, some _), (7, some _), (8, some _), (12, some _), (13, some _)] (fun (j, gL14, nL14) => [(15, some (.int .i64 (j : Int))), (14, some (.slice (some ⟨gL14, 0, none⟩) nL14 nL14))]) (fun (j, gL14, nL14) H' => St [g91] H91 H' ∧ H'.get gL14 = some (.row (ints ((List.range j).map (tabC m.colS m.colT m.colX f))) 2 true) ∧ PL gL14 g91 H91.next ∧ nL14 = ((List.range j).map (tabC m.colS m.colT m.colX f)).length ∧ j ≤ m.colS.length) (fun (j, gL14, nL14) => m.colS.length - j) ((0, _, _)) ⟨rfl, rfl, rfl, rfl, rfl, rfl, rfl, rfl, rfl, trivial⟩ ⟨rfl, rfl, trivial⟩ ?_ ?_
   ·
    refine ⟨.refl _ _, by first | assumption | exact at91 | simpa using at91, ⟨.inl rfl⟩, by first | rfl | assumption | simp | omega, ?_⟩
    omega
   rintro ⟨j, gL14, nL14⟩ HL5 ⟨lst5, at_L14, pl_L14, ln_L14, hI⟩ KL5 hKL5
   refine .forget (fr' := [(15, some (.int .i64 (j : Int))), (14, some (.slice (some ⟨gL14, 0, none⟩) nL14 nL14)), (1, some _), (2, some _), (3, some _), (5, some _), (6, some _), (7, some _), (8, some _), (12, some _), (13, some _)]) ⟨rfl, rfl, rfl, rfl, rfl, rfl, rfl, rfl, rfl, rfl, rfl, trivial⟩ ?_
   have ge_L14 : H.next ≤ gL14 := pl_L14.ge (by omega) (by omega)
   have nx_HL5 := lst5.nx
   replace hle := hle.st lst5 (fun k hk => ⟨by omega, trivial⟩)
   replace lst4 := lst4.st lst5 (fun k hk ho => by simp only [out, and_true] at ho ⊢ <;> first | exact ho | exact ho.1 | exact ho.2 | exact ho.2.1 | exact ho.2.2 | exact ho.2.2.1 | exact ho.2.2.2 | omega)
   replace rk := rk.st lst5 (fun k hk ho => by simp only [out, and_true] at ho ⊢ <;> first | exact ho | exact ho.1 | exact ho.2 | exact ho.2.1 | exact ho.2.2 | exact ho.2.2.1 | exact ho.2.2.2 | omega)
   have ne_g1_g91 : g1 ≠ g91 := by first | assumption | omega
   replace a1 := lst5.same _ _ ⟨ne_g1_g91, trivial⟩ a1
   have ne_g2_g91 : g2 ≠ g91 := by first | assumption | omega
   replace a2 := lst5.same _ _ ⟨ne_g2_g91, trivial⟩ a2
   have ne_g3_g91 : g3 ≠ g91 := by first | assumption | omega
   replace a3 := lst5.same _ _ ⟨ne_g3_g91, trivial⟩ a3
   have ne_g4_g91 : g4 ≠ g91 := by first | assumption | omega
   replace a4 := lst5.same _ _ ⟨ne_g4_g91, trivial⟩ a4
   have ne_g5_g91 : g5 ≠ g91 := by first | assumption | omega
   replace a5 := lst5.same _ _ ⟨ne_g5_g91, trivial⟩ a5
   have ne_gF_g91 : gF ≠ g91 := by first | assumption | omega
   replace aF := lst5.same _ _ ⟨ne_gF_g91, trivial⟩ aF
   have ne_gT_g91 : gT ≠ g91 := by first | assumption | omega
   replace aT := lst5.same _ _ ⟨ne_gT_g91, trivial⟩ aT
   have ne_gI_g91 : gI ≠ g91 := by first | assumption | omega
   replace aI := lst5.same _ _ ⟨ne_gI_g91, trivial⟩ aI
   have ne_gC_g91 : gC ≠ g91 := by first | assumption | omega
   replace aC := lst5.same _ _ ⟨ne_gC_g91, trivial⟩ aC
   have ne_gV_g91 : gV ≠ g91 := by first | assumption | omega
   replace aV := lst5.same _ _ ⟨ne_gV_g91, trivial⟩ aV
   have ne_gL12_g91 : gL12 ≠ g91 := by first | assumption | omega
   replace at_L12 := lst5.same _ _ ⟨ne_gL12_g91, trivial⟩ at_L12
   replace lv_v8 := Keep.st lv_v8 lst5 (fun k hb hk => ⟨(by omega), trivial⟩)
   replace v8 := bs_v8.keep lv_v8 (Nat.le_refl _)
   replace lv_v5 := Keep.st lv_v5 lst5 (fun k hb hk => ⟨(by omega), trivial⟩)
   replace v5 := bs_v5.keep lv_v5 (Nat.le_refl _)
   have lt_at_L14 := GHeap.ltg at_L14
   replace hin := base_hin.mono hle
   clear hb1 fs1 ft1 c101 c111 c121 i21 i31 i41 hm1 hi1 hms1 his1 hmt1 hit1
   have hb1 : Prof.At _ g1 0 m p := ⟨Mem.of_get a1, hin⟩
   obtain ⟨fs1, ft1, c101, c111, c121, i21, i31, i41⟩ := hb1.get
   have hm1 : MemN _ _ _ _ _ := ⟨rfl, hb1.1⟩
   have hi1 := hb1.2
   have hms1 : MemN _ _ _ _ _ := ⟨rfl, fs1.1⟩
   have his1 := fs1.2
   have hmt1 : MemN _ _ _ _ _ := ⟨rfl, ft1.1⟩
   have hit1 := ft1.2
   clear j8 j5
   have j8 := v8.intss
   have j5 := v5.intss
   have hjl : ((List.range j).map (tabC m.colS m.colT m.colX f)).length = j := by simp
   refine .seq (fun K33 hK33 => .seq (fun K34 hK34 => .region (.mv rfl (.m rfl rfl rfl (.fieldAddr fo_30_1_B rfl) ?_))))
   refine .m rfl rfl rfl (.load on_22_B rfl (by first | assumption | exact Mem.of_get a5 1 _ rfl)) ?_
   refine .m rfl rfl rfl (.len sl_22_A rfl) (.m rfl rfl rfl (.cmp rfl rfl rfl) (.nil (hK34 _ _ ?_)))
   refine .cond rfl (fun h96 => ?_) (fun h96 => ?_)
   ·
    simp only [sps] at h96
    refine .skip ?_
    refine hK33 _ _ (.seq (fun K35 hK35 => ?_))
    refine .block ?_
    refine .seq (fun K36 hK36 => .region (.mv rfl (.nil (hK36 _ _ (.seq (fun K37 hK37 => ?_))))))
    refine .block ?_
    refine .seq (fun K38 hK38 => ?_)
    refine .regionD mo_B (.q 0 (.q 1 (.q 2 (.q 3 (.q 4 (.q 5 (.q 6 (.q 7 (.q 8 (.q 9 (.q 10 (.q 11 (.done))))))))))))) (by kernel_rfl) ?_
    refine .m rfl rfl rfl rfl (.refl _) (.fieldAddr fo_30_2_B rfl) ?_
    refine .m rfl rfl rfl rfl (.refl _) (.load on_22_B rfl (by first | assumption | exact Mem.of_get a5 2 _ rfl)) ?_
    refine .mv rfl rfl ?_
    refine .m rfl rfl rfl rfl (.refl _) (.idxN sl_22_A (by first | assumption | exact SlA.of_row aT (by first | rfl | (simp; done) | (simp <;> omega))) rfl rfl (by omega)) ?_
    refine .m rfl rfl rfl rfl (.refl _) (.loadI on_2_A (by first | assumption | exact Ints.of_get aT) rfl (by omega)) ?_
    refine .m rfl rfl rfl rfl (.refl _) (.fieldAddr fo_30_1_B rfl) ?_
    refine .m rfl rfl rfl rfl (.refl _) (.load on_22_B rfl (by first | assumption | exact Mem.of_get a5 1 _ rfl)) ?_
    refine .mv rfl rfl ?_
    refine .m rfl rfl rfl rfl (.refl _) (.idxN sl_22_A (by first | assumption | exact SlA.of_row aF (by first | rfl | (simp; done) | (simp <;> omega))) rfl rfl (by omega)) ?_
    refine .m rfl rfl rfl rfl (.refl _) (.loadI on_2_A (by first | assumption | exact Ints.of_get aF) rfl (by omega)) ?_
    refine .m rfl rfl rfl rfl (.refl _) (.cmp rfl rfl rfl) (.mv rfl rfl ?_)
    refine .done ?_
    refine hK38 _ _ ?_
    refine .cond rfl (fun h138 => ?_) (fun h138 => ?_)
    ·
     simp only [sps] at h138
     have hX : tabC m.colS m.colT m.colX f j = -1 := tabC_F h138
     refine .skip ?_
     refine hK37 _ _ (.region (.mv rfl (.mv rfl ?_)))
     refine .r rfl rfl rfl (.litR rfl sl_22_A ze_2_E rfl rfl (by omega) (by omega) rfl rfl) ?_
     rintro _ H207 ⟨g207, rfl, le207, ge207, at207⟩
     have nx_H207 := le207.1
     replace hle := hle.trans le207
     replace lst4 := lst4.le le207
     replace rk := rk.le le207
     replace lst5 := lst5.le le207
     replace a1 := le207.2 _ _ a1
     replace a2 := le207.2 _ _ a2
     replace a3 := le207.2 _ _ a3
     replace a4 := le207.2 _ _ a4
     replace a5 := le207.2 _ _ a5
     replace aF := le207.2 _ _ aF
     replace aT := le207.2 _ _ aT
     replace aI := le207.2 _ _ aI
     replace aC := le207.2 _ _ aC
     replace aV := le207.2 _ _ aV
     replace at_L12 := le207.2 _ _ at_L12
     replace at_L14 := le207.2 _ _ at_L14
     replace lv_v8 := Keep.le lv_v8 le207
     replace v8 := bs_v8.keep lv_v8 (Nat.le_refl _)
     replace lv_v5 := Keep.le lv_v5 le207
     replace v5 := bs_v5.keep lv_v5 (Nat.le_refl _)
     have lt_at207 := GHeap.ltg at207
     replace hin := base_hin.mono hle
     clear hb1 fs1 ft1 c101 c111 c121 i21 i31 i41 hm1 hi1 hms1 his1 hmt1 hit1
     have hb1 : Prof.At _ g1 0 m p := ⟨Mem.of_get a1, hin⟩
     obtain ⟨fs1, ft1, c101, c111, c121, i21, i31, i41⟩ := hb1.get
     have hm1 : MemN _ _ _ _ _ := ⟨rfl, hb1.1⟩
     have hi1 := hb1.2
     have hms1 : MemN _ _ _ _ _ := ⟨rfl, fs1.1⟩
     have his1 := fs1.2
     have hmt1 : MemN _ _ _ _ _ := ⟨rfl, ft1.1⟩
     have hit1 := ft1.2
     clear j8 j5
     have j8 := v8.intss
     have j5 := v5.intss
     refine .r rfl rfl rfl (.appendI rfl sl_22_A ze_2_E rfl by_2_E sl_22_A rfl rfl (by assumption) (by assumption) (by first | omega | (simp <;> omega)) (by omega) (by omega)) ?_
     rintro _ H208 ⟨g208, rfl, st208, ge208, at208⟩
     have nx_H208 := st208.nx
     replace hle := hle.st st208 (fun k hk => ⟨by omega, trivial⟩)
     replace lst4 := lst4.st st208 (fun k hk ho => by simp only [out, and_true] at ho ⊢ <;> first | exact ho | exact ho.1 | exact ho.2 | exact ho.2.1 | exact ho.2.2 | exact ho.2.2.1 | exact ho.2.2.2 | exact pl_L14.ne (by first | exact ho | exact ho.1 | exact ho.2 | exact ho.2.1 | exact ho.2.2 | exact ho.2.2.1 | exact ho.2.2.2 | omega) (by omega) | omega)
     replace rk := rk.st st208 (fun k hk ho => by simp only [out, and_true] at ho ⊢ <;> first | exact ho | exact ho.1 | exact ho.2 | exact ho.2.1 | exact ho.2.2 | exact ho.2.2.1 | exact ho.2.2.2 | exact pl_L14.ne (by first | exact ho | exact ho.1 | exact ho.2 | exact ho.2.1 | exact ho.2.2 | exact ho.2.2.1 | exact ho.2.2.2 | omega) (by omega) | omega)
     replace lst5 := lst5.st st208 (fun k hk ho => by simp only [out, and_true] at ho ⊢ <;> first | exact ho | exact ho.1 | exact ho.2 | exact ho.2.1 | exact ho.2.2 | exact ho.2.2.1 | exact ho.2.2.2 | exact pl_L14.ne (by first | exact ho | exact ho.1 | exact ho.2 | exact ho.2.1 | exact ho.2.2 | exact ho.2.2.1 | exact ho.2.2.2 | omega) (by omega) | omega)
     have ne_g1_gL14 : g1 ≠ gL14 := pl_L14.ne ne_g1_g91 (by omega)
     replace a1 := st208.same _ _ ⟨ne_g1_gL14, trivial⟩ a1
     have ne_g2_gL14 : g2 ≠ gL14 := pl_L14.ne ne_g2_g91 (by omega)
     replace a2 := st208.same _ _ ⟨ne_g2_gL14, trivial⟩ a2
     have ne_g3_gL14 : g3 ≠ gL14 := pl_L14.ne ne_g3_g91 (by omega)
     replace a3 := st208.same _ _ ⟨ne_g3_gL14, trivial⟩ a3
     have ne_g4_gL14 : g4 ≠ gL14 := pl_L14.ne ne_g4_g91 (by omega)
     replace a4 := st208.same _ _ ⟨ne_g4_gL14, trivial⟩ a4
     have ne_g5_gL14 : g5 ≠ gL14 := pl_L14.ne ne_g5_g91 (by omega)
     replace a5 := st208.same _ _ ⟨ne_g5_gL14, trivial⟩ a5
     have ne_gF_gL14 : gF ≠ gL14 := pl_L14.ne ne_gF_g91 (by omega)
     replace aF := st208.same _ _ ⟨ne_gF_gL14, trivial⟩ aF
     have ne_gT_gL14 : gT ≠ gL14 := pl_L14.ne ne_gT_g91 (by omega)
     replace aT := st208.same _ _ ⟨ne_gT_gL14, trivial⟩ aT
     have ne_gI_gL14 : gI ≠ gL14 := pl_L14.ne ne_gI_g91 (by omega)
     replace aI := st208.same _ _ ⟨ne_gI_gL14, trivial⟩ aI
     have ne_gC_gL14 : gC ≠ gL14 := pl_L14.ne ne_gC_g91 (by omega)
     replace aC := st208.same _ _ ⟨ne_gC_gL14, trivial⟩ aC
     have ne_gV_gL14 : gV ≠ gL14 := pl_L14.ne ne_gV_g91 (by omega)
     replace aV := st208.same _ _ ⟨ne_gV_gL14, trivial⟩ aV
     have ne_gL12_gL14 : gL12 ≠ gL14 := pl_L14.ne ne_gL12_g91 (by omega)
     replace at_L12 := st208.same _ _ ⟨ne_gL12_gL14, trivial⟩ at_L12
     replace at207 := st208.same _ _ ⟨(by first | assumption | omega), trivial⟩ at207
     replace lv_v8 := Keep.st lv_v8 st208 (fun k hb hk => ⟨(by first | exact pl_L14.ne (by omega) (by omega) | omega), trivial⟩)
     replace v8 := bs_v8.keep lv_v8 (Nat.le_refl _)
     replace lv_v5 := Keep.st lv_v5 st208 (fun k hb hk => ⟨(by first | exact pl_L14.ne (by omega) (by omega) | omega), trivial⟩)
     replace v5 := bs_v5.keep lv_v5 (Nat.le_refl _)
     have lt_at208 := GHeap.ltg at208
     replace hin := base_hin.mono hle
     clear hb1 fs1 ft1 c101 c111 c121 i21 i31 i41 hm1 hi1 hms1 his1 hmt1 hit1
     have hb1 : Prof.At _ g1 0 m p := ⟨Mem.of_get a1, hin⟩
     obtain ⟨fs1, ft1, c101, c111, c121, i21, i31, i41⟩ := hb1.get
     have hm1 : MemN _ _ _ _ _ := ⟨rfl, hb1.1⟩
     have hi1 := hb1.2
     have hms1 : MemN _ _ _ _ _ := ⟨rfl, fs1.1⟩
     have his1 := fs1.2
     have hmt1 : MemN _ _ _ _ _ := ⟨rfl, ft1.1⟩
     have hit1 := ft1.2
     clear j8 j5
     have j8 := v8.intss
     have j5 := v5.intss
     refine .mv rfl (.nil (hK35 _ _ (.region (.mv rfl ?_))))
     refine .m rfl rfl rfl (.add rfl rfl rfl (by omega) (by omega)) ?_
     refine .mv rfl (.nil ?_)
     refine hKL5 ((j + 1, _, _)) _ _ ?_ ?_ ⟨rfl, rfl, rfl, rfl, rfl, rfl, rfl, rfl, rfl, rfl, rfl, trivial⟩
     ·
      refine ⟨lst5, by first | assumption | (rw [range_succ_map, hX]; assumption), by first | assumption | exact ⟨.inr (by omega)⟩ | exact ⟨.inl rfl⟩, by first | omega | (simp only [List.length_append, List.length_cons, List.length_nil] <;> omega) | (rw [range_succ_map, hX] <;> (first | omega | (simp only [List.length_append, List.length_cons, List.length_nil] <;> omega))), ?_⟩
      omega
     (dsimp only; omega)
    simp only [sps] at h138
    refine .seq (fun K39 hK39 => .region (.mv rfl (.mv rfl (.m rfl rfl rfl (.cmp rfl rfl rfl) (.mv rfl ?_)))))
    refine .split (fun h154 => ?_) (fun h154 => ?_)
    ·
     try simp only [sps] at h154
     refine .mg rfl rfl rfl rfl rfl (.move rfl) (.mg rfl rfl rfl rfl rfl (.move rfl) (.mg rfl rfl rfl rfl rfl (.cmp rfl rfl rfl) (.m rfl rfl rfl (.pickT rfl rfl) (.mv rfl (.nil (hK39 _ _ ?_))))))
     refine .cond rfl (fun h150 => ?_) (fun h150 => ?_)
     ·
      simp only [sps] at h150
      have hX : tabC m.colS m.colT m.colX f j = ((m.s.sum m.t).comp.getD f []).getD j 0 := by rw [tabC_T h138]; unfold Prof.colX; rw [if_pos ⟨by omega, by omega⟩]
      have q1 := hS.sum_row (f := f) (by omega)
      have u5 := j5.2 f (by omega)
      refine .region (.m rfl rfl rfl (.fieldAddr fo_30_4_B rfl) ?_)
      refine .m rfl rfl rfl (.load on_23_B rfl (by first | assumption | exact Mem.of_get a5 4 _ rfl)) ?_
      refine .mv rfl ?_
      refine .m rfl rfl rfl (.idxN sl_23_B (by first | exact (Intss.sl (by assumption)) | exact SlA.of_row aC (by first | rfl | (simp; done) | (simp <;> omega))) rfl rfl (by omega)) ?_
      refine .m rfl rfl rfl (.loadR on_22_B (by assumption) rfl (by omega)) ?_
      refine .mv rfl ?_
      refine .m rfl rfl rfl (.idxN sl_22_A (by assumption) rfl rfl (by omega)) ?_
      refine .m rfl rfl rfl (.loadI on_2_A (by assumption) rfl (by omega)) ?_
      refine .mv rfl (.nil (hK37 _ _ (.region (.mv rfl (.mv rfl ?_)))))
      refine .r rfl rfl rfl (.litR rfl sl_22_A ze_2_E rfl rfl (by omega) (by omega) rfl rfl) ?_
      rintro _ H207x2 ⟨g207x2, rfl, le207x2, ge207x2, at207x2⟩
      have nx_H207x2 := le207x2.1
      replace hle := hle.trans le207x2
      replace lst4 := lst4.le le207x2
      replace rk := rk.le le207x2
      replace lst5 := lst5.le le207x2
      replace a1 := le207x2.2 _ _ a1
      replace a2 := le207x2.2 _ _ a2
      replace a3 := le207x2.2 _ _ a3
      replace a4 := le207x2.2 _ _ a4
      replace a5 := le207x2.2 _ _ a5
      replace aF := le207x2.2 _ _ aF
      replace aT := le207x2.2 _ _ aT
      replace aI := le207x2.2 _ _ aI
      replace aC := le207x2.2 _ _ aC
      replace aV := le207x2.2 _ _ aV
      replace at_L12 := le207x2.2 _ _ at_L12
      replace at_L14 := le207x2.2 _ _ at_L14
      replace lv_v8 := Keep.le lv_v8 le207x2
      replace v8 := bs_v8.keep lv_v8 (Nat.le_refl _)
      replace lv_v5 := Keep.le lv_v5 le207x2
      replace v5 := bs_v5.keep lv_v5 (Nat.le_refl _)
      have lt_at207x2 := GHeap.ltg at207x2
      replace hin := base_hin.mono hle
      clear hb1 fs1 ft1 c101 c111 c121 i21 i31 i41 hm1 hi1 hms1 his1 hmt1 hit1
      have hb1 : Prof.At _ g1 0 m p := ⟨Mem.of_get a1, hin⟩
      obtain ⟨fs1, ft1, c101, c111, c121, i21, i31, i41⟩ := hb1.get
      have hm1 : MemN _ _ _ _ _ := ⟨rfl, hb1.1⟩
      have hi1 := hb1.2
      have hms1 : MemN _ _ _ _ _ := ⟨rfl, fs1.1⟩
      have his1 := fs1.2
      have hmt1 : MemN _ _ _ _ _ := ⟨rfl, ft1.1⟩
      have hit1 := ft1.2
      clear j8 j5
      have j8 := v8.intss
      have j5 := v5.intss
      clear u5
      have u5 := j5.2 f (by omega)
      refine .r rfl rfl rfl (.appendI rfl sl_22_A ze_2_E rfl by_2_E sl_22_A rfl rfl (by assumption) (by assumption) (by first | omega | (simp <;> omega)) (by omega) (by omega)) ?_
      rintro _ H208x2 ⟨g208x2, rfl, st208x2, ge208x2, at208x2⟩
      have nx_H208x2 := st208x2.nx
      replace hle := hle.st st208x2 (fun k hk => ⟨by omega, trivial⟩)
      replace lst4 := lst4.st st208x2 (fun k hk ho => by simp only [out, and_true] at ho ⊢ <;> first | exact ho | exact ho.1 | exact ho.2 | exact ho.2.1 | exact ho.2.2 | exact ho.2.2.1 | exact ho.2.2.2 | exact pl_L14.ne (by first | exact ho | exact ho.1 | exact ho.2 | exact ho.2.1 | exact ho.2.2 | exact ho.2.2.1 | exact ho.2.2.2 | omega) (by omega) | omega)
      replace rk := rk.st st208x2 (fun k hk ho => by simp only [out, and_true] at ho ⊢ <;> first | exact ho | exact ho.1 | exact ho.2 | exact ho.2.1 | exact ho.2.2 | exact ho.2.2.1 | exact ho.2.2.2 | exact pl_L14.ne (by first | exact ho | exact ho.1 | exact ho.2 | exact ho.2.1 | exact ho.2.2 | exact ho.2.2.1 | exact ho.2.2.2 | omega) (by omega) | omega)
      replace lst5 := lst5.st st208x2 (fun k hk ho => by simp only [out, and_true] at ho ⊢ <;> first | exact ho | exact ho.1 | exact ho.2 | exact ho.2.1 | exact ho.2.2 | exact ho.2.2.1 | exact ho.2.2.2 | exact pl_L14.ne (by first | exact ho | exact ho.1 | exact ho.2 | exact ho.2.1 | exact ho.2.2 | exact ho.2.2.1 | exact ho.2.2.2 | omega) (by omega) | omega)
      have ne_g1_gL14 : g1 ≠ gL14 := pl_L14.ne ne_g1_g91 (by omega)
      replace a1 := st208x2.same _ _ ⟨ne_g1_gL14, trivial⟩ a1
      have ne_g2_gL14 : g2 ≠ gL14 := pl_L14.ne ne_g2_g91 (by omega)
      replace a2 := st208x2.same _ _ ⟨ne_g2_gL14, trivial⟩ a2
      have ne_g3_gL14 : g3 ≠ gL14 := pl_L14.ne ne_g3_g91 (by omega)
      replace a3 := st208x2.same _ _ ⟨ne_g3_gL14, trivial⟩ a3
      have ne_g4_gL14 : g4 ≠ gL14 := pl_L14.ne ne_g4_g91 (by omega)
      replace a4 := st208x2.same _ _ ⟨ne_g4_gL14, trivial⟩ a4
      have ne_g5_gL14 : g5 ≠ gL14 := pl_L14.ne ne_g5_g91 (by omega)
      replace a5 := st208x2.same _ _ ⟨ne_g5_gL14, trivial⟩ a5
      have ne_gF_gL14 : gF ≠ gL14 := pl_L14.ne ne_gF_g91 (by omega)
      replace aF := st208x2.same _ _ ⟨ne_gF_gL14, trivial⟩ aF
      have ne_gT_gL14 : gT ≠ gL14 := pl_L14.ne ne_gT_g91 (by omega)
      replace aT := st208x2.same _ _ ⟨ne_gT_gL14, trivial⟩ aT
      have ne_gI_gL14 : gI ≠ gL14 := pl_L14.ne ne_gI_g91 (by omega)
      replace aI := st208x2.same _ _ ⟨ne_gI_gL14, trivial⟩ aI
      have ne_gC_gL14 : gC ≠ gL14 := pl_L14.ne ne_gC_g91 (by omega)
      replace aC := st208x2.same _ _ ⟨ne_gC_gL14, trivial⟩ aC
      have ne_gV_gL14 : gV ≠ gL14 := pl_L14.ne ne_gV_g91 (by omega)
      replace aV := st208x2.same _ _ ⟨ne_gV_gL14, trivial⟩ aV
      have ne_gL12_gL14 : gL12 ≠ gL14 := pl_L14.ne ne_gL12_g91 (by omega)
      replace at_L12 := st208x2.same _ _ ⟨ne_gL12_gL14, trivial⟩ at_L12
      replace at207x2 := st208x2.same _ _ ⟨(by first | assumption | omega), trivial⟩ at207x2
      replace lv_v8 := Keep.st lv_v8 st208x2 (fun k hb hk => ⟨(by first | exact pl_L14.ne (by omega) (by omega) | omega), trivial⟩)
      replace v8 := bs_v8.keep lv_v8 (Nat.le_refl _)
      replace lv_v5 := Keep.st lv_v5 st208x2 (fun k hb hk => ⟨(by first | exact pl_L14.ne (by omega) (by omega) | omega), trivial⟩)
      replace v5 := bs_v5.keep lv_v5 (Nat.le_refl _)
      have lt_at208x2 := GHeap.ltg at208x2
      replace hin := base_hin.mono hle
      clear hb1 fs1 ft1 c101 c111 c121 i21 i31 i41 hm1 hi1 hms1 his1 hmt1 hit1
      have hb1 : Prof.At _ g1 0 m p := ⟨Mem.of_get a1, hin⟩
      obtain ⟨fs1, ft1, c101, c111, c121, i21, i31, i41⟩ := hb1.get
      have hm1 : MemN _ _ _ _ _ := ⟨rfl, hb1.1⟩
      have hi1 := hb1.2
      have hms1 : MemN _ _ _ _ _ := ⟨rfl, fs1.1⟩
      have his1 := fs1.2
      have hmt1 : MemN _ _ _ _ _ := ⟨rfl, ft1.1⟩
      have hit1 := ft1.2
      clear j8 j5
      have j8 := v8.intss
      have j5 := v5.intss
      clear u5
      have u5 := j5.2 f (by omega)
      refine .mv rfl (.nil (hK35 _ _ (.region (.mv rfl ?_))))
      refine .m rfl rfl rfl (.add rfl rfl rfl (by omega) (by omega)) ?_
      refine .mv rfl (.nil ?_)
      refine hKL5 ((j + 1, _, _)) _ _ ?_ ?_ ⟨rfl, rfl, rfl, rfl, rfl, rfl, rfl, rfl, rfl, rfl, rfl, trivial⟩
      ·
       refine ⟨lst5, by first | assumption | (rw [range_succ_map, hX]; assumption), by first | assumption | exact ⟨.inr (by omega)⟩ | exact ⟨.inl rfl⟩, by first | omega | (simp only [List.length_append, List.length_cons, List.length_nil] <;> omega) | (rw [range_succ_map, hX] <;> (first | omega | (simp only [List.length_append, List.length_cons, List.length_nil] <;> omega))), ?_⟩
       omega
      (dsimp only; omega)
     try simp only [sps] at h150
     refine .seq (fun K40 hK40 => .region (.mv rfl (.mv rfl (.m rfl rfl rfl (.cmp rfl rfl rfl) (.mv rfl (.nil (hK40 _ _ ?_)))))))
     refine .cond rfl (fun h167 => ?_) (fun h167 => ?_)
     ·
      simp only [sps] at h167
      have hB := hS.meetB (f := f) (g := j) (by omega) (by omega) (by omega) h138
      have hX : tabC m.colS m.colT m.colX f j = (m.colN : Int) + idxLL m.colL (m.colK1 f j) := by rw [tabC_T h138, Prof.colX_b (by omega) (by omega)]
      obtain ⟨k1, k2, k3, k4, k5, k6, k7, k8, k9, k10, k11, k12, k13, k14, k15, k16, k17, k18, k19⟩ := id hB
      refine .seq (fun K41 hK41 => .region (.mv rfl (.mv rfl (.mv rfl ?_))))
      refine .m rfl rfl rfl (.sub rfl rfl rfl (by omega) (by omega)) ?_
      rw [show (j : Int) - (m.colN : Int) = ((j - m.colN : Nat) : Int) by omega]
      refine .m rfl rfl rfl (.idxN sl_23_B (by first | exact (Intss.sl (by assumption)) | exact SlA.of_row aV (by first | rfl | (simp; done) | (simp <;> omega))) rfl rfl (by omega)) ?_
      refine .m rfl rfl rfl (.loadR on_22_B (by assumption) rfl (by omega)) ?_
      have u8 : Ints _ _ (m.colR j) := j8.2 (j - m.colN) (by omega)
      refine .mv rfl (.nil (hK41 _ _ ?_))
      refine .regionD mo_B (.q 0 (.q 1 (.q 2 (.q 3 (.q 4 (.q 5 (.q 6 (.q 7 (.q 8 (.q 9 (.q 10 (.q 11 (.q 12 (.q 13 (.q 14 (.q 15 (.q 16 (.q 17 (.q 18 (.q 19 (.q 20 (.q 21 (.q 22 (.q 23 (.q 24 (.c 25 1 (.c 26 1 (.q 27 (.q 28 (.done)))))))))))))))))))))))))))))) (by kernel_rfl) ?_
      rw [show m.colL.getD (j - m.colN) [] = m.colR j from rfl]
      refine .mv rfl rfl (.mv rfl rfl (.m rfl rfl rfl rfl (.refl _) (.fieldAddr fo_30_1_B rfl) ?_))
      refine .m rfl rfl rfl rfl (.refl _) (.load on_22_B rfl (by first | assumption | exact Mem.of_get a5 1 _ rfl)) ?_
      refine .mv rfl rfl ?_
      refine .m rfl rfl rfl rfl (.refl _) (.idxN sl_22_A (by first | assumption | exact SlA.of_row aF (by first | rfl | (simp; done) | (simp <;> omega))) rfl rfl (by omega)) ?_
      refine .m rfl rfl rfl rfl (.refl _) (.loadI on_2_A (by first | assumption | exact Ints.of_get aF) rfl (by omega)) ?_
      refine .mv rfl rfl ?_
      refine .m rfl rfl rfl rfl (.refl _) (.idxN (j := 1) sl_22_A (by assumption) rfl rfl (by omega)) ?_
      refine .m rfl rfl rfl rfl (.refl _) (.loadI on_2_A (by assumption) rfl (by omega)) ?_
      refine .m rfl rfl rfl rfl (.refl _) (.fieldAddr fo_34_3_VProf rfl) ?_
      refine .m rfl rfl rfl rfl (.refl _) (.load on_26_VProf rfl (by first | assumption | exact Mem.of_get a1 11 _ rfl)) ?_
      refine .mv rfl rfl ?_
      refine .m rfl rfl rfl rfl (.refl _) (.idxN sl_26_VZ (Intsss.sl (by assumption)) rfl rfl (by omega)) ?_
      refine .m rfl rfl rfl rfl (.refl _) (.loadRR on_23_B (by assumption) rfl (by omega)) ?_
      have u3 := i31.2 f k8
      refine .mv rfl rfl ?_
      refine .m rfl rfl rfl rfl (.refl _) (.idxN (j := 1) sl_22_A (by assumption) rfl rfl (by omega)) ?_
      refine .m rfl rfl rfl rfl (.refl _) (.loadI on_2_A (by assumption) rfl (by omega)) ?_
      refine .m rfl rfl rfl rfl (.refl _) (.idx1 sl_23_B (Intss.sl (by assumption)) rfl rfl (by omega) (by omega)) ?_
      refine .m rfl rfl rfl rfl (.refl _) (.loadR on_22_B (by assumption) rfl (by omega)) ?_
      have w3 := u3.2 ((m.colR j).getD 1 0).toNat k9
      refine .mv rfl rfl ?_
      refine .m rfl rfl rfl rfl (.refl _) (.idxN (j := 2) sl_22_A (by assumption) rfl rfl (by omega)) ?_
      refine .m rfl rfl rfl rfl (.refl _) (.loadI on_2_A (by assumption) rfl (by omega)) ?_
      refine .m rfl rfl rfl rfl (.refl _) (.idx1 sl_22_A (by assumption) rfl rfl (by omega) (by omega)) ?_
      refine .m rfl rfl rfl rfl (.refl _) (.loadI on_2_A (by assumption) rfl (by omega)) ?_
      refine .c1 rfl rfl rfl rfl (.litR rfl sl_22_A ze_2_E rfl rfl (by omega) (by omega) rfl rfl) ?_
      rintro _ H202 ⟨g202, rfl, le202, ge202, at202⟩
      have hbl := le202
      refine ⟨hbl, ?_⟩
      have nx_H202 := le202.1
      replace hle := hle.trans le202
      replace lst4 := lst4.le le202
      replace rk := rk.le le202
      replace lst5 := lst5.le le202
      replace a1 := le202.2 _ _ a1
      replace a2 := le202.2 _ _ a2
      replace a3 := le202.2 _ _ a3
      replace a4 := le202.2 _ _ a4
      replace a5 := le202.2 _ _ a5
      replace aF := le202.2 _ _ aF
      replace aT := le202.2 _ _ aT
      replace aI := le202.2 _ _ aI
      replace aC := le202.2 _ _ aC
      replace aV := le202.2 _ _ aV
      replace at_L12 := le202.2 _ _ at_L12
      replace at_L14 := le202.2 _ _ at_L14
      replace lv_v8 := Keep.le lv_v8 le202
      replace v8 := bs_v8.keep lv_v8 (Nat.le_refl _)
      replace lv_v5 := Keep.le lv_v5 le202
      replace v5 := bs_v5.keep lv_v5 (Nat.le_refl _)
      have lt_at202 := GHeap.ltg at202
      replace hin := base_hin.mono hle
      clear hb1 fs1 ft1 c101 c111 c121 i21 i31 i41 hm1 hi1 hms1 his1 hmt1 hit1
      have hb1 : Prof.At _ g1 0 m p := ⟨Mem.of_get a1, hin⟩
      obtain ⟨fs1, ft1, c101, c111, c121, i21, i31, i41⟩ := hb1.get
      have hm1 : MemN _ _ _ _ _ := ⟨rfl, hb1.1⟩
      have hi1 := hb1.2
      have hms1 : MemN _ _ _ _ _ := ⟨rfl, fs1.1⟩
      have his1 := fs1.2
      have hmt1 : MemN _ _ _ _ _ := ⟨rfl, ft1.1⟩
      have hit1 := ft1.2
      clear j8 j5
      have j8 := v8.intss
      have j5 := v5.intss
      clear u8
      have u8 : Ints _ _ (m.colR j) := j8.2 (j - m.colN) (by omega)
      clear u3
      have u3 := i31.2 f k8
      clear w3
      have w3 := u3.2 ((m.colR j).getD 1 0).toNat k9
      refine .callQ1 rfl rfl rfl rfl rfl @Try.call74 rfl (l09Find_c (h := j8) (ht := Ints.of_get (xs := m.colK1 f j) at202) (htl := by show 3 ≤ 1048576; omega) (hl2 := fun i => by have := m.colL_three (i := i); omega)) hbl ?_
      refine .m rfl rfl rfl rfl hbl (.add rfl rfl rfl (by omega) (by omega)) ?_
      refine .mv rfl rfl ?_
      refine .done ?_
      refine hK37 _ _ (.region (.mv rfl (.mv rfl ?_)))
      refine .r rfl rfl rfl (.litR rfl sl_22_A ze_2_E rfl rfl (by omega) (by omega) rfl rfl) ?_
      rintro _ H207x3 ⟨g207x3, rfl, le207x3, ge207x3, at207x3⟩
      have nx_H207x3 := le207x3.1
      replace hle := hle.trans le207x3
      replace lst4 := lst4.le le207x3
      replace rk := rk.le le207x3
      replace lst5 := lst5.le le207x3
      replace a1 := le207x3.2 _ _ a1
      replace a2 := le207x3.2 _ _ a2
      replace a3 := le207x3.2 _ _ a3
      replace a4 := le207x3.2 _ _ a4
      replace a5 := le207x3.2 _ _ a5
      replace aF := le207x3.2 _ _ aF
      replace aT := le207x3.2 _ _ aT
      replace aI := le207x3.2 _ _ aI
      replace aC := le207x3.2 _ _ aC
      replace aV := le207x3.2 _ _ aV
      replace at_L12 := le207x3.2 _ _ at_L12
      replace at_L14 := le207x3.2 _ _ at_L14
      replace at202 := le207x3.2 _ _ at202
      replace lv_v8 := Keep.le lv_v8 le207x3
      replace v8 := bs_v8.keep lv_v8 (Nat.le_refl _)
      replace lv_v5 := Keep.le lv_v5 le207x3
      replace v5 := bs_v5.keep lv_v5 (Nat.le_refl _)
      have lt_at207x3 := GHeap.ltg at207x3
      replace hin := base_hin.mono hle
      clear hb1 fs1 ft1 c101 c111 c121 i21 i31 i41 hm1 hi1 hms1 his1 hmt1 hit1
      have hb1 : Prof.At _ g1 0 m p := ⟨Mem.of_get a1, hin⟩
      obtain ⟨fs1, ft1, c101, c111, c121, i21, i31, i41⟩ := hb1.get
      have hm1 : MemN _ _ _ _ _ := ⟨rfl, hb1.1⟩
      have hi1 := hb1.2
      have hms1 : MemN _ _ _ _ _ := ⟨rfl, fs1.1⟩
      have his1 := fs1.2
      have hmt1 : MemN _ _ _ _ _ := ⟨rfl, ft1.1⟩
      have hit1 := ft1.2
      clear j8 j5
      have j8 := v8.intss
      have j5 := v5.intss
      clear u8
      have u8 : Ints _ _ (m.colR j) := j8.2 (j - m.colN) (by omega)
      clear u3
      have u3 := i31.2 f k8
      clear w3
      have w3 := u3.2 ((m.colR j).getD 1 0).toNat k9
      refine .r rfl rfl rfl (.appendI rfl sl_22_A ze_2_E rfl by_2_E sl_22_A rfl rfl (by assumption) (by assumption) (by first | omega | (simp <;> omega)) (by omega) (by omega)) ?_
      rintro _ H208x3 ⟨g208x3, rfl, st208x3, ge208x3, at208x3⟩
      have nx_H208x3 := st208x3.nx
      replace hle := hle.st st208x3 (fun k hk => ⟨by omega, trivial⟩)
      replace lst4 := lst4.st st208x3 (fun k hk ho => by simp only [out, and_true] at ho ⊢ <;> first | exact ho | exact ho.1 | exact ho.2 | exact ho.2.1 | exact ho.2.2 | exact ho.2.2.1 | exact ho.2.2.2 | exact pl_L14.ne (by first | exact ho | exact ho.1 | exact ho.2 | exact ho.2.1 | exact ho.2.2 | exact ho.2.2.1 | exact ho.2.2.2 | omega) (by omega) | omega)
      replace rk := rk.st st208x3 (fun k hk ho => by simp only [out, and_true] at ho ⊢ <;> first | exact ho | exact ho.1 | exact ho.2 | exact ho.2.1 | exact ho.2.2 | exact ho.2.2.1 | exact ho.2.2.2 | exact pl_L14.ne (by first | exact ho | exact ho.1 | exact ho.2 | exact ho.2.1 | exact ho.2.2 | exact ho.2.2.1 | exact ho.2.2.2 | omega) (by omega) | omega)
      replace lst5 := lst5.st st208x3 (fun k hk ho => by simp only [out, and_true] at ho ⊢ <;> first | exact ho | exact ho.1 | exact ho.2 | exact ho.2.1 | exact ho.2.2 | exact ho.2.2.1 | exact ho.2.2.2 | exact pl_L14.ne (by first | exact ho | exact ho.1 | exact ho.2 | exact ho.2.1 | exact ho.2.2 | exact ho.2.2.1 | exact ho.2.2.2 | omega) (by omega) | omega)
      have ne_g1_gL14 : g1 ≠ gL14 := pl_L14.ne ne_g1_g91 (by omega)
      replace a1 := st208x3.same _ _ ⟨ne_g1_gL14, trivial⟩ a1
      have ne_g2_gL14 : g2 ≠ gL14 := pl_L14.ne ne_g2_g91 (by omega)
      replace a2 := st208x3.same _ _ ⟨ne_g2_gL14, trivial⟩ a2
      have ne_g3_gL14 : g3 ≠ gL14 := pl_L14.ne ne_g3_g91 (by omega)
      replace a3 := st208x3.same _ _ ⟨ne_g3_gL14, trivial⟩ a3
      have ne_g4_gL14 : g4 ≠ gL14 := pl_L14.ne ne_g4_g91 (by omega)
      replace a4 := st208x3.same _ _ ⟨ne_g4_gL14, trivial⟩ a4
      have ne_g5_gL14 : g5 ≠ gL14 := pl_L14.ne ne_g5_g91 (by omega)
      replace a5 := st208x3.same _ _ ⟨ne_g5_gL14, trivial⟩ a5
      have ne_gF_gL14 : gF ≠ gL14 := pl_L14.ne ne_gF_g91 (by omega)
      replace aF := st208x3.same _ _ ⟨ne_gF_gL14, trivial⟩ aF
      have ne_gT_gL14 : gT ≠ gL14 := pl_L14.ne ne_gT_g91 (by omega)
      replace aT := st208x3.same _ _ ⟨ne_gT_gL14, trivial⟩ aT
      have ne_gI_gL14 : gI ≠ gL14 := pl_L14.ne ne_gI_g91 (by omega)
      replace aI := st208x3.same _ _ ⟨ne_gI_gL14, trivial⟩ aI
      have ne_gC_gL14 : gC ≠ gL14 := pl_L14.ne ne_gC_g91 (by omega)
      replace aC := st208x3.same _ _ ⟨ne_gC_gL14, trivial⟩ aC
      have ne_gV_gL14 : gV ≠ gL14 := pl_L14.ne ne_gV_g91 (by omega)
      replace aV := st208x3.same _ _ ⟨ne_gV_gL14, trivial⟩ aV
      have ne_gL12_gL14 : gL12 ≠ gL14 := pl_L14.ne ne_gL12_g91 (by omega)
      replace at_L12 := st208x3.same _ _ ⟨ne_gL12_gL14, trivial⟩ at_L12
      replace at202 := st208x3.same _ _ ⟨(by first | assumption | omega), trivial⟩ at202
      replace at207x3 := st208x3.same _ _ ⟨(by first | assumption | omega), trivial⟩ at207x3
      replace lv_v8 := Keep.st lv_v8 st208x3 (fun k hb hk => ⟨(by first | exact pl_L14.ne (by omega) (by omega) | omega), trivial⟩)
      replace v8 := bs_v8.keep lv_v8 (Nat.le_refl _)
      replace lv_v5 := Keep.st lv_v5 st208x3 (fun k hb hk => ⟨(by first | exact pl_L14.ne (by omega) (by omega) | omega), trivial⟩)
      replace v5 := bs_v5.keep lv_v5 (Nat.le_refl _)
      have lt_at208x3 := GHeap.ltg at208x3
      replace hin := base_hin.mono hle
      clear hb1 fs1 ft1 c101 c111 c121 i21 i31 i41 hm1 hi1 hms1 his1 hmt1 hit1
      have hb1 : Prof.At _ g1 0 m p := ⟨Mem.of_get a1, hin⟩
      obtain ⟨fs1, ft1, c101, c111, c121, i21, i31, i41⟩ := hb1.get
      have hm1 : MemN _ _ _ _ _ := ⟨rfl, hb1.1⟩
      have hi1 := hb1.2
      have hms1 : MemN _ _ _ _ _ := ⟨rfl, fs1.1⟩
      have his1 := fs1.2
      have hmt1 : MemN _ _ _ _ _ := ⟨rfl, ft1.1⟩
      have hit1 := ft1.2
      clear j8 j5
      have j8 := v8.intss
      have j5 := v5.intss
      clear u8
      have u8 : Ints _ _ (m.colR j) := j8.2 (j - m.colN) (by omega)
      clear u3
      have u3 := i31.2 f k8
      clear w3
      have w3 := u3.2 ((m.colR j).getD 1 0).toNat k9
      refine .mv rfl (.nil (hK35 _ _ (.region (.mv rfl ?_))))
      refine .m rfl rfl rfl (.add rfl rfl rfl (by omega) (by omega)) ?_
      refine .mv rfl (.nil ?_)
      refine hKL5 ((j + 1, _, _)) _ _ ?_ ?_ ⟨rfl, rfl, rfl, rfl, rfl, rfl, rfl, rfl, rfl, rfl, rfl, trivial⟩
      ·
       refine ⟨lst5, by first | assumption | (rw [range_succ_map, hX]; assumption), by first | assumption | exact ⟨.inr (by omega)⟩ | exact ⟨.inl rfl⟩, by first | omega | (simp only [List.length_append, List.length_cons, List.length_nil] <;> omega) | (rw [range_succ_map, hX] <;> (first | omega | (simp only [List.length_append, List.length_cons, List.length_nil] <;> omega))), ?_⟩
       omega
      (dsimp only; omega)
     exfalso; simp only [sps] at h167; omega
    try simp only [sps] at h154
    refine .sg rfl rfl rfl rfl rfl (.sg rfl rfl rfl rfl rfl (.sg rfl rfl rfl rfl rfl (.m rfl rfl rfl (.pickF rfl rfl) (.mv rfl (.nil (hK39 _ _ ?_))))))
    refine .condF rfl ?_
    refine .seq (fun K42 hK42 => .region (.mv rfl (.mv rfl (.m rfl rfl rfl (.cmp rfl rfl rfl) (.mv rfl (.nil (hK42 _ _ ?_)))))))
    refine .cond rfl (fun h167 => ?_) (fun h167 => ?_)
    ·
     exfalso; simp only [sps] at h167; omega
    simp only [sps] at h167
    have hH := hS.meetH (f := f) (g := j) (by omega) (by omega) (by omega) h138
    have hX : tabC m.colS m.colT m.colX f j = (m.colN : Int) + idxLL m.colL (m.colK2 f j) := by rw [tabC_T h138, Prof.colX_h (by omega)]
    obtain ⟨k1, k2, k3, k4, k5, k6, k7, k8, k9, k10, k11, k12, k13, k14, k15, k16, k17, k18, k19, k20⟩ := id hH
    refine .seq (fun K43 hK43 => .region (.mv rfl (.mv rfl (.mv rfl ?_))))
    refine .m rfl rfl rfl (.sub rfl rfl rfl (by omega) (by omega)) ?_
    rw [show (f : Int) - (m.colN : Int) = ((f - m.colN : Nat) : Int) by omega]
    refine .m rfl rfl rfl (.idxN sl_23_B (by first | exact (Intss.sl (by assumption)) | exact SlA.of_row aV (by first | rfl | (simp; done) | (simp <;> omega))) rfl rfl (by omega)) ?_
    refine .m rfl rfl rfl (.loadR on_22_B (by assumption) rfl (by omega)) ?_
    have u8 : Ints _ _ (m.colR f) := j8.2 (f - m.colN) (by omega)
    refine .mv rfl (.nil (hK43 _ _ ?_))
    refine .regionD mo_B (.q 0 (.q 1 (.q 2 (.q 3 (.q 4 (.q 5 (.q 6 (.q 7 (.q 8 (.q 9 (.q 10 (.q 11 (.q 12 (.q 13 (.q 14 (.q 15 (.q 16 (.q 17 (.q 18 (.q 19 (.q 20 (.q 21 (.q 22 (.q 23 (.q 24 (.q 25 (.q 26 (.q 27 (.q 28 (.q 29 (.c 30 1 (.c 31 1 (.q 32 (.q 33 (.done))))))))))))))))))))))))))))))))))) (by kernel_rfl) ?_
    rw [show m.colL.getD (f - m.colN) [] = m.colR f from rfl]
    refine .mv rfl rfl (.mv rfl rfl (.mv rfl rfl ?_))
    refine .m rfl rfl rfl rfl (.refl _) (.idxN (j := 0) sl_22_A (by assumption) rfl rfl (by omega)) ?_
    refine .m rfl rfl rfl rfl (.refl _) (.loadI on_2_A (by assumption) rfl (by omega)) ?_
    refine .m rfl rfl rfl rfl (.refl _) (.fieldAddr fo_30_2_B rfl) ?_
    refine .m rfl rfl rfl rfl (.refl _) (.load on_22_B rfl (by first | assumption | exact Mem.of_get a5 2 _ rfl)) ?_
    refine .mv rfl rfl ?_
    refine .m rfl rfl rfl rfl (.refl _) (.idxN sl_22_A (by first | assumption | exact SlA.of_row aT (by first | rfl | (simp; done) | (simp <;> omega))) rfl rfl (by omega)) ?_
    refine .m rfl rfl rfl rfl (.refl _) (.loadI on_2_A (by first | assumption | exact Ints.of_get aT) rfl (by omega)) ?_
    refine .m rfl rfl rfl rfl (.refl _) (.fieldAddr fo_30_0_B rfl) ?_
    refine .m rfl rfl rfl rfl (.refl _) (.load on_2_A rfl (by first | assumption | exact Mem.of_get a3 0 _ rfl)) ?_
    refine .m rfl rfl rfl rfl (.refl _) (.sub rfl rfl rfl (by omega) (by omega)) ?_
    refine .m rfl rfl rfl rfl (.refl _) (.fieldAddr fo_34_4_VProf rfl) ?_
    refine .m rfl rfl rfl rfl (.refl _) (.load on_26_VProf rfl (by first | assumption | exact Mem.of_get a1 12 _ rfl)) ?_
    refine .mv rfl rfl (.mv rfl rfl ?_)
    refine .m rfl rfl rfl rfl (.refl _) (.sub rfl rfl rfl (by omega) (by omega)) ?_
    rw [show (j : Int) - (m.s.src.length : Int) = ((j - m.s.src.length : Nat) : Int) by omega]
    refine .m rfl rfl rfl rfl (.refl _) (.idxN sl_26_VZ (Intsss.sl (by assumption)) rfl rfl (by omega)) ?_
    refine .m rfl rfl rfl rfl (.refl _) (.loadRR on_23_B (by assumption) rfl (by omega)) ?_
    have u4 := i41.2 (j - m.s.src.length) k9
    refine .mv rfl rfl ?_
    refine .m rfl rfl rfl rfl (.refl _) (.idxN (j := 0) sl_22_A (by assumption) rfl rfl (by omega)) ?_
    refine .m rfl rfl rfl rfl (.refl _) (.loadI on_2_A (by assumption) rfl (by omega)) ?_
    refine .m rfl rfl rfl rfl (.refl _) (.idx1 sl_23_B (Intss.sl (by assumption)) rfl rfl (by omega) (by omega)) ?_
    refine .m rfl rfl rfl rfl (.refl _) (.loadR on_22_B (by assumption) rfl (by omega)) ?_
    have w4 := u4.2 ((m.colR f).getD 0 0).toNat k10
    refine .mv rfl rfl ?_
    refine .m rfl rfl rfl rfl (.refl _) (.idxN (j := 2) sl_22_A (by assumption) rfl rfl (by omega)) ?_
    refine .m rfl rfl rfl rfl (.refl _) (.loadI on_2_A (by assumption) rfl (by omega)) ?_
    refine .m rfl rfl rfl rfl (.refl _) (.idx1 sl_22_A (by assumption) rfl rfl (by omega) (by omega)) ?_
    refine .m rfl rfl rfl rfl (.refl _) (.loadI on_2_A (by assumption) rfl (by omega)) ?_
    refine .c1 rfl rfl rfl rfl (.litR rfl sl_22_A ze_2_E rfl rfl (by omega) (by omega) rfl rfl) ?_
    rintro _ H135 ⟨g135, rfl, le135, ge135, at135⟩
    have hbl := le135
    refine ⟨hbl, ?_⟩
    have nx_H135 := le135.1
    replace hle := hle.trans le135
    replace lst4 := lst4.le le135
    replace rk := rk.le le135
    replace lst5 := lst5.le le135
    replace a1 := le135.2 _ _ a1
    replace a2 := le135.2 _ _ a2
    replace a3 := le135.2 _ _ a3
    replace a4 := le135.2 _ _ a4
    replace a5 := le135.2 _ _ a5
    replace aF := le135.2 _ _ aF
    replace aT := le135.2 _ _ aT
    replace aI := le135.2 _ _ aI
    replace aC := le135.2 _ _ aC
    replace aV := le135.2 _ _ aV
    replace at_L12 := le135.2 _ _ at_L12
    replace at_L14 := le135.2 _ _ at_L14
    replace lv_v8 := Keep.le lv_v8 le135
    replace v8 := bs_v8.keep lv_v8 (Nat.le_refl _)
    replace lv_v5 := Keep.le lv_v5 le135
    replace v5 := bs_v5.keep lv_v5 (Nat.le_refl _)
    have lt_at135 := GHeap.ltg at135
    replace hin := base_hin.mono hle
    clear hb1 fs1 ft1 c101 c111 c121 i21 i31 i41 hm1 hi1 hms1 his1 hmt1 hit1
    have hb1 : Prof.At _ g1 0 m p := ⟨Mem.of_get a1, hin⟩
    obtain ⟨fs1, ft1, c101, c111, c121, i21, i31, i41⟩ := hb1.get
    have hm1 : MemN _ _ _ _ _ := ⟨rfl, hb1.1⟩
    have hi1 := hb1.2
    have hms1 : MemN _ _ _ _ _ := ⟨rfl, fs1.1⟩
    have his1 := fs1.2
    have hmt1 : MemN _ _ _ _ _ := ⟨rfl, ft1.1⟩
    have hit1 := ft1.2
    clear j8 j5
    have j8 := v8.intss
    have j5 := v5.intss
    clear u8
    have u8 : Ints _ _ (m.colR f) := j8.2 (f - m.colN) (by omega)
    clear u4
    have u4 := i41.2 (j - m.s.src.length) k9
    clear w4
    have w4 := u4.2 ((m.colR f).getD 0 0).toNat k10
    refine .callQ1 rfl rfl rfl rfl rfl @Try.call74 rfl (l09Find_c (h := j8) (ht := Ints.of_get (xs := m.colK2 f j) at135) (htl := by show 3 ≤ 1048576; omega) (hl2 := fun i => by have := m.colL_three (i := i); omega)) hbl ?_
    refine .m rfl rfl rfl rfl hbl (.add rfl rfl rfl (by omega) (by omega)) ?_
    refine .mv rfl rfl ?_
    refine .done ?_
    refine hK37 _ _ (.region (.mv rfl (.mv rfl ?_)))
    refine .r rfl rfl rfl (.litR rfl sl_22_A ze_2_E rfl rfl (by omega) (by omega) rfl rfl) ?_
    rintro _ H207x4 ⟨g207x4, rfl, le207x4, ge207x4, at207x4⟩
    have nx_H207x4 := le207x4.1
    replace hle := hle.trans le207x4
    replace lst4 := lst4.le le207x4
    replace rk := rk.le le207x4
    replace lst5 := lst5.le le207x4
    replace a1 := le207x4.2 _ _ a1
    replace a2 := le207x4.2 _ _ a2
    replace a3 := le207x4.2 _ _ a3
    replace a4 := le207x4.2 _ _ a4
    replace a5 := le207x4.2 _ _ a5
    replace aF := le207x4.2 _ _ aF
    replace aT := le207x4.2 _ _ aT
    replace aI := le207x4.2 _ _ aI
    replace aC := le207x4.2 _ _ aC
    replace aV := le207x4.2 _ _ aV
    replace at_L12 := le207x4.2 _ _ at_L12
    replace at_L14 := le207x4.2 _ _ at_L14
    replace at135 := le207x4.2 _ _ at135
    replace lv_v8 := Keep.le lv_v8 le207x4
    replace v8 := bs_v8.keep lv_v8 (Nat.le_refl _)
    replace lv_v5 := Keep.le lv_v5 le207x4
    replace v5 := bs_v5.keep lv_v5 (Nat.le_refl _)
    have lt_at207x4 := GHeap.ltg at207x4
    replace hin := base_hin.mono hle
    clear hb1 fs1 ft1 c101 c111 c121 i21 i31 i41 hm1 hi1 hms1 his1 hmt1 hit1
    have hb1 : Prof.At _ g1 0 m p := ⟨Mem.of_get a1, hin⟩
    obtain ⟨fs1, ft1, c101, c111, c121, i21, i31, i41⟩ := hb1.get
    have hm1 : MemN _ _ _ _ _ := ⟨rfl, hb1.1⟩
    have hi1 := hb1.2
    have hms1 : MemN _ _ _ _ _ := ⟨rfl, fs1.1⟩
    have his1 := fs1.2
    have hmt1 : MemN _ _ _ _ _ := ⟨rfl, ft1.1⟩
    have hit1 := ft1.2
    clear j8 j5
    have j8 := v8.intss
    have j5 := v5.intss
    clear u8
    have u8 : Ints _ _ (m.colR f) := j8.2 (f - m.colN) (by omega)
    clear u4
    have u4 := i41.2 (j - m.s.src.length) k9
    clear w4
    have w4 := u4.2 ((m.colR f).getD 0 0).toNat k10
    refine .r rfl rfl rfl (.appendI rfl sl_22_A ze_2_E rfl by_2_E sl_22_A rfl rfl (by assumption) (by assumption) (by first | omega | (simp <;> omega)) (by omega) (by omega)) ?_
    rintro _ H208x4 ⟨g208x4, rfl, st208x4, ge208x4, at208x4⟩
    have nx_H208x4 := st208x4.nx
    replace hle := hle.st st208x4 (fun k hk => ⟨by omega, trivial⟩)
    replace lst4 := lst4.st st208x4 (fun k hk ho => by simp only [out, and_true] at ho ⊢ <;> first | exact ho | exact ho.1 | exact ho.2 | exact ho.2.1 | exact ho.2.2 | exact ho.2.2.1 | exact ho.2.2.2 | exact pl_L14.ne (by first | exact ho | exact ho.1 | exact ho.2 | exact ho.2.1 | exact ho.2.2 | exact ho.2.2.1 | exact ho.2.2.2 | omega) (by omega) | omega)
    replace rk := rk.st st208x4 (fun k hk ho => by simp only [out, and_true] at ho ⊢ <;> first | exact ho | exact ho.1 | exact ho.2 | exact ho.2.1 | exact ho.2.2 | exact ho.2.2.1 | exact ho.2.2.2 | exact pl_L14.ne (by first | exact ho | exact ho.1 | exact ho.2 | exact ho.2.1 | exact ho.2.2 | exact ho.2.2.1 | exact ho.2.2.2 | omega) (by omega) | omega)
    replace lst5 := lst5.st st208x4 (fun k hk ho => by simp only [out, and_true] at ho ⊢ <;> first | exact ho | exact ho.1 | exact ho.2 | exact ho.2.1 | exact ho.2.2 | exact ho.2.2.1 | exact ho.2.2.2 | exact pl_L14.ne (by first | exact ho | exact ho.1 | exact ho.2 | exact ho.2.1 | exact ho.2.2 | exact ho.2.2.1 | exact ho.2.2.2 | omega) (by omega) | omega)
    have ne_g1_gL14 : g1 ≠ gL14 := pl_L14.ne ne_g1_g91 (by omega)
    replace a1 := st208x4.same _ _ ⟨ne_g1_gL14, trivial⟩ a1
    have ne_g2_gL14 : g2 ≠ gL14 := pl_L14.ne ne_g2_g91 (by omega)
    replace a2 := st208x4.same _ _ ⟨ne_g2_gL14, trivial⟩ a2
    have ne_g3_gL14 : g3 ≠ gL14 := pl_L14.ne ne_g3_g91 (by omega)
    replace a3 := st208x4.same _ _ ⟨ne_g3_gL14, trivial⟩ a3
    have ne_g4_gL14 : g4 ≠ gL14 := pl_L14.ne ne_g4_g91 (by omega)
    replace a4 := st208x4.same _ _ ⟨ne_g4_gL14, trivial⟩ a4
    have ne_g5_gL14 : g5 ≠ gL14 := pl_L14.ne ne_g5_g91 (by omega)
    replace a5 := st208x4.same _ _ ⟨ne_g5_gL14, trivial⟩ a5
    have ne_gF_gL14 : gF ≠ gL14 := pl_L14.ne ne_gF_g91 (by omega)
    replace aF := st208x4.same _ _ ⟨ne_gF_gL14, trivial⟩ aF
    have ne_gT_gL14 : gT ≠ gL14 := pl_L14.ne ne_gT_g91 (by omega)
    replace aT := st208x4.same _ _ ⟨ne_gT_gL14, trivial⟩ aT
    have ne_gI_gL14 : gI ≠ gL14 := pl_L14.ne ne_gI_g91 (by omega)
    replace aI := st208x4.same _ _ ⟨ne_gI_gL14, trivial⟩ aI
    have ne_gC_gL14 : gC ≠ gL14 := pl_L14.ne ne_gC_g91 (by omega)
    replace aC := st208x4.same _ _ ⟨ne_gC_gL14, trivial⟩ aC
    have ne_gV_gL14 : gV ≠ gL14 := pl_L14.ne ne_gV_g91 (by omega)
    replace aV := st208x4.same _ _ ⟨ne_gV_gL14, trivial⟩ aV
    have ne_gL12_gL14 : gL12 ≠ gL14 := pl_L14.ne ne_gL12_g91 (by omega)
    replace at_L12 := st208x4.same _ _ ⟨ne_gL12_gL14, trivial⟩ at_L12
    replace at135 := st208x4.same _ _ ⟨(by first | assumption | omega), trivial⟩ at135
    replace at207x4 := st208x4.same _ _ ⟨(by first | assumption | omega), trivial⟩ at207x4
    replace lv_v8 := Keep.st lv_v8 st208x4 (fun k hb hk => ⟨(by first | exact pl_L14.ne (by omega) (by omega) | omega), trivial⟩)
    replace v8 := bs_v8.keep lv_v8 (Nat.le_refl _)
    replace lv_v5 := Keep.st lv_v5 st208x4 (fun k hb hk => ⟨(by first | exact pl_L14.ne (by omega) (by omega) | omega), trivial⟩)
    replace v5 := bs_v5.keep lv_v5 (Nat.le_refl _)
    have lt_at208x4 := GHeap.ltg at208x4
    replace hin := base_hin.mono hle
    clear hb1 fs1 ft1 c101 c111 c121 i21 i31 i41 hm1 hi1 hms1 his1 hmt1 hit1
    have hb1 : Prof.At _ g1 0 m p := ⟨Mem.of_get a1, hin⟩
    obtain ⟨fs1, ft1, c101, c111, c121, i21, i31, i41⟩ := hb1.get
    have hm1 : MemN _ _ _ _ _ := ⟨rfl, hb1.1⟩
    have hi1 := hb1.2
    have hms1 : MemN _ _ _ _ _ := ⟨rfl, fs1.1⟩
    have his1 := fs1.2
    have hmt1 : MemN _ _ _ _ _ := ⟨rfl, ft1.1⟩
    have hit1 := ft1.2
    clear j8 j5
    have j8 := v8.intss
    have j5 := v5.intss
    clear u8
    have u8 : Ints _ _ (m.colR f) := j8.2 (f - m.colN) (by omega)
    clear u4
    have u4 := i41.2 (j - m.s.src.length) k9
    clear w4
    have w4 := u4.2 ((m.colR f).getD 0 0).toNat k10
    refine .mv rfl (.nil (hK35 _ _ (.region (.mv rfl ?_))))
    refine .m rfl rfl rfl (.add rfl rfl rfl (by omega) (by omega)) ?_
    refine .mv rfl (.nil ?_)
    refine hKL5 ((j + 1, _, _)) _ _ ?_ ?_ ⟨rfl, rfl, rfl, rfl, rfl, rfl, rfl, rfl, rfl, rfl, rfl, trivial⟩
    ·
     refine ⟨lst5, by first | assumption | (rw [range_succ_map, hX]; assumption), by first | assumption | exact ⟨.inr (by omega)⟩ | exact ⟨.inl rfl⟩, by first | omega | (simp only [List.length_append, List.length_cons, List.length_nil] <;> omega) | (rw [range_succ_map, hX] <;> (first | omega | (simp only [List.length_append, List.length_cons, List.length_nil] <;> omega))), ?_⟩
     omega
    (dsimp only; omega)
   try simp only [sps] at h96
   refine .exit ?_
   refine hK31 _ _ (.region ?_)
   obtain rfl : j = m.colS.length := by omega
   have hjl : ((List.range m.colS.length).map (tabC m.colS m.colT m.colX f)).length = m.colS.length := by simp
   rw [hjl] at ln_L14
   obtain rfl := ln_L14
   refine .mv rfl (.mv rfl ?_)
   refine .r rfl rfl rfl (.litR rfl sl_23_B ze_22_E rfl rfl (by omega) (by omega) rfl rfl) ?_
   rintro _ H211 ⟨g211, rfl, le211, ge211, at211⟩
   have nx_H211 := le211.1
   replace hle := hle.trans le211
   replace lst4 := lst4.le le211
   replace rk := rk.le le211
   replace a1 := le211.2 _ _ a1
   replace a2 := le211.2 _ _ a2
   replace a3 := le211.2 _ _ a3
   replace a4 := le211.2 _ _ a4
   replace a5 := le211.2 _ _ a5
   replace aF := le211.2 _ _ aF
   replace aT := le211.2 _ _ aT
   replace aI := le211.2 _ _ aI
   replace aC := le211.2 _ _ aC
   replace aV := le211.2 _ _ aV
   replace at_L12 := le211.2 _ _ at_L12
   replace at_L14 := le211.2 _ _ at_L14
   replace lv_v8 := Keep.le lv_v8 le211
   replace v8 := bs_v8.keep lv_v8 (Nat.le_refl _)
   replace lv_v5 := Keep.le lv_v5 le211
   replace v5 := bs_v5.keep lv_v5 (Nat.le_refl _)
   have lt_at211 := GHeap.ltg at211
   replace hin := base_hin.mono hle
   clear hb1 fs1 ft1 c101 c111 c121 i21 i31 i41 hm1 hi1 hms1 his1 hmt1 hit1
   have hb1 : Prof.At _ g1 0 m p := ⟨Mem.of_get a1, hin⟩
   obtain ⟨fs1, ft1, c101, c111, c121, i21, i31, i41⟩ := hb1.get
   have hm1 : MemN _ _ _ _ _ := ⟨rfl, hb1.1⟩
   have hi1 := hb1.2
   have hms1 : MemN _ _ _ _ _ := ⟨rfl, fs1.1⟩
   have his1 := fs1.2
   have hmt1 : MemN _ _ _ _ _ := ⟨rfl, ft1.1⟩
   have hit1 := ft1.2
   clear j8 j5
   have j8 := v8.intss
   have j5 := v5.intss
   refine .r rfl rfl rfl (.appendV rfl sl_23_B ze_22_E rfl by_22_E sl_23_B rfl rfl (by assumption) (by assumption) (by first | omega | (simp <;> omega)) rfl rfl (by omega) (by omega)) ?_
   rintro _ H212 ⟨g212, rfl, st212, ge212, at212⟩
   have nx_H212 := st212.nx
   replace hle := hle.st st212 (fun k hk => ⟨by omega, trivial⟩)
   replace lst4 := lst4.st st212 (fun k hk ho => by simp only [out, and_true] at ho ⊢ <;> first | exact ho | exact ho.1 | exact ho.2 | exact ho.2.1 | exact ho.2.2 | exact ho.2.2.1 | exact ho.2.2.2 | exact pl_L12.ne (by first | exact ho | exact ho.1 | exact ho.2 | exact ho.2.1 | exact ho.2.2 | exact ho.2.2.1 | exact ho.2.2.2 | omega) (by omega) | omega)
   replace rk := rk.st st212 (fun k hk ho => by simp only [out, and_true] at ho ⊢ <;> first | exact ho | exact ho.1 | exact ho.2 | exact ho.2.1 | exact ho.2.2 | exact ho.2.2.1 | exact ho.2.2.2 | exact pl_L12.ne (by first | exact ho | exact ho.1 | exact ho.2 | exact ho.2.1 | exact ho.2.2 | exact ho.2.2.1 | exact ho.2.2.2 | omega) (by omega) | omega)
   have ne_g1_gL12 : g1 ≠ gL12 := pl_L12.ne ne_g1_g83 (by omega)
   replace a1 := st212.same _ _ ⟨ne_g1_gL12, trivial⟩ a1
   have ne_g2_gL12 : g2 ≠ gL12 := pl_L12.ne ne_g2_g83 (by omega)
   replace a2 := st212.same _ _ ⟨ne_g2_gL12, trivial⟩ a2
   have ne_g3_gL12 : g3 ≠ gL12 := pl_L12.ne ne_g3_g83 (by omega)
   replace a3 := st212.same _ _ ⟨ne_g3_gL12, trivial⟩ a3
   have ne_g4_gL12 : g4 ≠ gL12 := pl_L12.ne ne_g4_g83 (by omega)
   replace a4 := st212.same _ _ ⟨ne_g4_gL12, trivial⟩ a4
   have ne_g5_gL12 : g5 ≠ gL12 := pl_L12.ne ne_g5_g83 (by omega)
   replace a5 := st212.same _ _ ⟨ne_g5_gL12, trivial⟩ a5
   have ne_gF_gL12 : gF ≠ gL12 := pl_L12.ne ne_gF_g83 (by omega)
   replace aF := st212.same _ _ ⟨ne_gF_gL12, trivial⟩ aF
   have ne_gT_gL12 : gT ≠ gL12 := pl_L12.ne ne_gT_g83 (by omega)
   replace aT := st212.same _ _ ⟨ne_gT_gL12, trivial⟩ aT
   have ne_gI_gL12 : gI ≠ gL12 := pl_L12.ne ne_gI_g83 (by omega)
   replace aI := st212.same _ _ ⟨ne_gI_gL12, trivial⟩ aI
   have ne_gC_gL12 : gC ≠ gL12 := pl_L12.ne ne_gC_g83 (by omega)
   replace aC := st212.same _ _ ⟨ne_gC_gL12, trivial⟩ aC
   have ne_gV_gL12 : gV ≠ gL12 := pl_L12.ne ne_gV_g83 (by omega)
   replace aV := st212.same _ _ ⟨ne_gV_gL12, trivial⟩ aV
   have ne_gL12_gL14 : gL12 ≠ gL14 := pl_L14.ne ne_gL12_g91 (by omega)
   replace at_L14 := st212.same _ _ ⟨(Ne.symm ne_gL12_gL14), trivial⟩ at_L14
   replace at211 := st212.same _ _ ⟨(by first | assumption | omega), trivial⟩ at211
   replace lv_v8 := Keep.st lv_v8 st212 (fun k hb hk => ⟨(by first | exact pl_L12.ne (by omega) (by omega) | omega), trivial⟩)
   replace v8 := bs_v8.keep lv_v8 (Nat.le_refl _)
   replace lv_v5 := Keep.st lv_v5 st212 (fun k hb hk => ⟨(by first | exact pl_L12.ne (by omega) (by omega) | omega), trivial⟩)
   replace v5 := bs_v5.keep lv_v5 (Nat.le_refl _)
   have lt_at212 := GHeap.ltg at212
   replace hin := base_hin.mono hle
   clear hb1 fs1 ft1 c101 c111 c121 i21 i31 i41 hm1 hi1 hms1 his1 hmt1 hit1
   have hb1 : Prof.At _ g1 0 m p := ⟨Mem.of_get a1, hin⟩
   obtain ⟨fs1, ft1, c101, c111, c121, i21, i31, i41⟩ := hb1.get
   have hm1 : MemN _ _ _ _ _ := ⟨rfl, hb1.1⟩
   have hi1 := hb1.2
   have hms1 : MemN _ _ _ _ _ := ⟨rfl, fs1.1⟩
   have his1 := fs1.2
   have hmt1 : MemN _ _ _ _ _ := ⟨rfl, ft1.1⟩
   have hit1 := ft1.2
   clear j8 j5
   have j8 := v8.intss
   have j5 := v5.intss
   refine .mv rfl (.nil (hK29 _ _ (.region (.mv rfl ?_))))
   refine .m rfl rfl rfl (.add rfl rfl rfl (by omega) (by omega)) ?_
   refine .mv rfl (.nil ?_)
   have hfl2 : (slsL (upd rr (rowsOf (tabR m.colS m.colT m.colX m.colS.length) f).length (some ⟨gL14, 0, none⟩)) (rowsOf (tabR m.colS m.colT m.colX m.colS.length) (f + 1))).length = f + 1 := by rw [length_slsL]; exact length_rowsOf _ _
   have hg9 : g91 ≤ gL14 := pl_L14.ge (Nat.le_refl _) (by omega)
   refine hKL4 ((f + 1, upd rr (rowsOf (tabR m.colS m.colT m.colX m.colS.length) f).length (some ⟨gL14, 0, none⟩), _, _)) _ _ ?_ ?_ ⟨rfl, rfl, rfl, rfl, rfl, rfl, rfl, rfl, rfl, trivial⟩
   ·
    refine ⟨lst4, by first | assumption | (rw [show rowsOf (tabR m.colS m.colT m.colX m.colS.length) (f + 1) = rowsOf (tabR m.colS m.colT m.colX m.colS.length) f ++ [tabR m.colS m.colT m.colX m.colS.length f] from range_succ_map, slsL_snoc, length_tabR]; assumption), by first | assumption | exact ⟨.inr (by omega)⟩ | exact ⟨.inl rfl⟩, by first | omega | (simp only [List.length_append, List.length_cons, List.length_nil] <;> omega), ?_⟩
    exact ⟨by omega, by rw [show rowsOf (tabR m.colS m.colT m.colX m.colS.length) (f + 1) = rowsOf (tabR m.colS m.colT m.colX m.colS.length) f ++ [tabR m.colS m.colT m.colX m.colS.length f] from range_succ_map]; exact hR.snoc (rk.lasts1 hat12 rfl) (by assumption) (by omega) (by omega)⟩
   (dsimp only; omega)
  try simp only [sps] at h88
  refine .exit ?_
  refine hK25 _ _ (.seq (fun K44 hK44 => .region (.mv rfl (.m rfl rfl rfl (.fieldAddr fo_30_4_B rfl) ?_))))
  obtain rfl : f = m.colS.length := by omega
  have a5s := a5
  refine .r0 rfl rfl (.storeR rfl sz_23_E rfl rfl rfl a5 (by first | exact Nat.le_of_ble_eq_true rfl | (simp; done) | (simp <;> omega))) ?_
  rintro _ H38002 ⟨rfl, st38002, at38002⟩
  have nx_H38002 := st38002.nx
  replace hle := hle.st st38002 (fun k hk => ⟨by omega, trivial⟩)
  have ne_g1_g5 : g1 ≠ g5 := by first | assumption | omega
  replace a1 := st38002.same _ _ ⟨ne_g1_g5, trivial⟩ a1
  have ne_g2_g5 : g2 ≠ g5 := by first | assumption | omega
  replace a2 := st38002.same _ _ ⟨ne_g2_g5, trivial⟩ a2
  have ne_g3_g5 : g3 ≠ g5 := by first | assumption | omega
  replace a3 := st38002.same _ _ ⟨ne_g3_g5, trivial⟩ a3
  have ne_g4_g5 : g4 ≠ g5 := by first | assumption | omega
  replace a4 := st38002.same _ _ ⟨ne_g4_g5, trivial⟩ a4
  have ne_gF_g5 : gF ≠ g5 := by first | assumption | omega
  replace aF := st38002.same _ _ ⟨ne_gF_g5, trivial⟩ aF
  have ne_gT_g5 : gT ≠ g5 := by first | assumption | omega
  replace aT := st38002.same _ _ ⟨ne_gT_g5, trivial⟩ aT
  have ne_gI_g5 : gI ≠ g5 := by first | assumption | omega
  replace aI := st38002.same _ _ ⟨ne_gI_g5, trivial⟩ aI
  have ne_gC_g5 : gC ≠ g5 := by first | assumption | omega
  replace aC := st38002.same _ _ ⟨ne_gC_g5, trivial⟩ aC
  replace aV := st38002.same _ _ ⟨(by first | assumption | omega), trivial⟩ aV
  have ne_g5_gL12 : g5 ≠ gL12 := pl_L12.ne ne_g5_g83 (by omega)
  replace at_L12 := st38002.same _ _ ⟨(Ne.symm ne_g5_gL12), trivial⟩ at_L12
  have lt_at38002 := GHeap.ltg at38002
  replace hin := base_hin.mono hle
  clear hb1 fs1 ft1 c101 c111 c121 i21 i31 i41 hm1 hi1 hms1 his1 hmt1 hit1
  have hb1 : Prof.At _ g1 0 m p := ⟨Mem.of_get a1, hin⟩
  obtain ⟨fs1, ft1, c101, c111, c121, i21, i31, i41⟩ := hb1.get
  have hm1 : MemN _ _ _ _ _ := ⟨rfl, hb1.1⟩
  have hi1 := hb1.2
  have hms1 : MemN _ _ _ _ _ := ⟨rfl, fs1.1⟩
  have his1 := fs1.2
  have hmt1 : MemN _ _ _ _ _ := ⟨rfl, ft1.1⟩
  have hit1 := ft1.2
  clear j8 j5
  have j8 := v8.intss
  have j5 := v5.intss
  try simp only [Nat.zero_add, List.set_cons_succ, List.set_cons_zero] at at38002
  refine .nil (hK44 _ _ (.seq (fun K45 hK45 => .region ?_)))
  refine .m rfl rfl rfl (.loadM ag_30_D rfl ⟨rfl, Mem.of_get at38002⟩) ?_
  have a2s := a2
  refine .r0 rfl rfl (.fillR rfl sz_30_D rfl rfl rfl rfl (by assumption) (by first | rfl | exact Nat.le_of_ble_eq_true rfl | simp)) ?_
  rintro _ H39001 ⟨rfl, st39001, at39001⟩
  have nx_H39001 := st39001.nx
  replace hle := hle.st st39001 (fun k hk => ⟨by omega, trivial⟩)
  have ne_g1_g2 : g1 ≠ g2 := by first | assumption | omega
  replace a1 := st39001.same _ _ ⟨ne_g1_g2, trivial⟩ a1
  have ne_g3_g2 : g3 ≠ g2 := by first | assumption | omega
  replace a3 := st39001.same _ _ ⟨ne_g3_g2, trivial⟩ a3
  have ne_g4_g2 : g4 ≠ g2 := by first | assumption | omega
  replace a4 := st39001.same _ _ ⟨ne_g4_g2, trivial⟩ a4
  have ne_gF_g2 : gF ≠ g2 := by first | assumption | omega
  replace aF := st39001.same _ _ ⟨ne_gF_g2, trivial⟩ aF
  have ne_gT_g2 : gT ≠ g2 := by first | assumption | omega
  replace aT := st39001.same _ _ ⟨ne_gT_g2, trivial⟩ aT
  have ne_gI_g2 : gI ≠ g2 := by first | assumption | omega
  replace aI := st39001.same _ _ ⟨ne_gI_g2, trivial⟩ aI
  have ne_gC_g2 : gC ≠ g2 := by first | assumption | omega
  replace aC := st39001.same _ _ ⟨ne_gC_g2, trivial⟩ aC
  have ne_gV_g2 : gV ≠ g2 := by first | assumption | omega
  replace aV := st39001.same _ _ ⟨ne_gV_g2, trivial⟩ aV
  have ne_g2_gL12 : g2 ≠ gL12 := pl_L12.ne ne_g2_g83 (by omega)
  replace at_L12 := st39001.same _ _ ⟨(Ne.symm ne_g2_gL12), trivial⟩ at_L12
  replace at38002 := st39001.same _ _ ⟨(Ne.symm ne_g2_g5), trivial⟩ at38002
  have lt_at39001 := GHeap.ltg at39001
  replace hin := base_hin.mono hle
  clear hb1 fs1 ft1 c101 c111 c121 i21 i31 i41 hm1 hi1 hms1 his1 hmt1 hit1
  have hb1 : Prof.At _ g1 0 m p := ⟨Mem.of_get a1, hin⟩
  obtain ⟨fs1, ft1, c101, c111, c121, i21, i31, i41⟩ := hb1.get
  have hm1 : MemN _ _ _ _ _ := ⟨rfl, hb1.1⟩
  have hi1 := hb1.2
  have hms1 : MemN _ _ _ _ _ := ⟨rfl, fs1.1⟩
  have his1 := fs1.2
  have hmt1 : MemN _ _ _ _ _ := ⟨rfl, ft1.1⟩
  have hit1 := ft1.2
  clear j8 j5
  have j8 := v8.intss
  have j5 := v5.intss
  refine .nil (hK45 _ _ ?_)
  refine .ret ?_
  refine hret _ _ ?_
  refine ⟨_, _, _, _, rfl, ag_30_D, (by rfl), (Mem.of_get at39001), ?_⟩
  have hR2 := (hR.st st38002 (.cons (hR.neT a5s rfl) (.nil _ _)))
  have hR3 := hR2.st st39001 (.cons (hR2.neT a2s rfl) (.nil _ _))
  refine ⟨hle, ownP gF gT gI gL12 rr, by rw [Prof.colFin_ok h81, ln_L12, hfl]; simp [Cat.cells, Prof.col, ownP, tabL], ?_⟩
  rw [Prof.colFin_ok h81]
  exact OwnCat.catR (eI := 2) (eS := 22) ⟨aF, aT, aI, at_L12, bF, bT, bI, ge_L12, n12, n13, n23, hR3.low (by omega), hR3.lowNe (by omega), hR3.lowNe (by omega), hR3.lowNe (by omega)⟩
end Go.Proofs.Ytdjodpdmbklfhaa
namespace Go.Proofs.Ytdjodpdmbklfhaa
open Go Go.GL Go.RowKit Go.Proofs
theorem ze_22_Tb : zeroT Try.prog 22 = some ([.slice none 0 0], 1) := by kernel_rfl
theorem by_22_Tb : (Try.prog.info? 22).map (·.bytes) = some 24 := by kernel_rfl
theorem sz_23_Tb : (Try.prog.info? 23).map (·.size) = some 1 := by kernel_rfl
theorem ze_2_Tb : zeroT Try.prog 2 = some ([.int .i64 0], 1) := by kernel_rfl
theorem by_2_Tb : (Try.prog.info? 2).map (·.bytes) = some 8 := by kernel_rfl
theorem sz_22_Tb : (Try.prog.info? 22).map (·.size) = some 1 := by kernel_rfl
theorem sz_2_Tb : (Try.prog.info? 2).map (·.size) = some 1 := by kernel_rfl
theorem arrowsN_c {g : Nat} {ob : Int} {a1 a2 : Option Addr} {n : Nat} {v3 v4 : Value} {T : TypeId} {H : GHeap} (hg : H.get g = some (.row [.int .i64 ob, .slice a1 n n, .slice a2 n n, v3, v4] T true)) :
    GCalls Try.prog 49 [.pointer (some ⟨g, 0, none⟩)] H (Ret (.int .i64 (n : Int)) H) := by
  refine GCalls.body (N := 8) (rs := [.tmp 2]) Try.func49 rfl rfl rfl rfl (fun Qx hret hend => ?_)
  refine .forget (fr' := [(0, some _)]) ⟨rfl, trivial⟩ ?_
  have hle := GHeap.Le.refl H
  have lt_hg := GHeap.ltg hg
  refine .seq (fun K1 hK1 => .region (.mv rfl (.nil (hK1 _ _ (.seq (fun K2 hK2 => .region (.mv rfl (.m rfl rfl rfl (.nilCheck rfl) (.m rfl rfl rfl (.fieldAddr fo_30_1_B rfl) ?_)))))))))
  refine .m rfl rfl rfl (.load on_22_B rfl (by first | assumption | exact Mem.of_get hg 1 _ rfl)) ?_
  refine .m rfl rfl rfl (.len sl_22_A rfl) (.mv rfl (.nil (hK2 _ _ ?_)))
  refine .ret ?_
  refine hret _ _ ?_
  refine ⟨_, rfl, ?_⟩
  exact .mk
set_option maxHeartbeats 4000000 in
theorem tableO_c {g n fn : Nat} {ob : Int} {a1 a2 : Option Addr} {v3 v4 : Value} {src tgt : List Int} {cap : Array Value} {X : Nat → Nat → Int} {H : GHeap} (hg : H.get g = some (.row [.int .i64 ob, .slice a1 n n, .slice a2 n n, v3, v4] 30 true)) (h1 : src.length = n) (h2 : tgt.length = n) (hn : n ≤ 1048576)
    (k1 : ∀ H', St [g] H H' → Ints H' a1 src) (k2 : ∀ H', St [g] H H' → Ints H' a2 tgt)
    (hcall : ∀ (xs : Array Value) (w : World), (callFunc fn xs).run Try.prog w = .ok (.enter fn xs) w)
    (hq : ∀ H' v, St [g] H H' → H'.get g = some (.row [.int .i64 ob, .slice a1 n n, .slice a2 n n, v3, v] 30 true) → ∀ i j : Nat, i < n → j < n → tgt.getD i 0 = src.getD j 0 → GCalls Try.prog fn ([.int .i64 (i : Int), .int .i64 (j : Int)] ++ cap.toList) H' (fun v H'' => H'.Le H'' ∧ v = .int .i64 (X i j))) :
    GCalls Try.prog 54 [.pointer (some ⟨g, 0, none⟩), .func (.func fn) #[] cap] H (fun _ H' => St [g] H H' ∧ ∃ gC r, H'.get g = some (.row [.int .i64 ob, .slice a1 n n, .slice a2 n n, v3, .slice (some ⟨gC, 0, none⟩) n n] 30 true) ∧ H.next ≤ gC ∧
      IntssR H.next H' (some ⟨gC, 0, none⟩) (tabL src tgt X n) r ∧ ∀ i, i < n → ∀ x, r i = some ⟨x, 0, none⟩ → H.next ≤ x) := by
  refine GCalls.body (N := 80) (rs := []) Try.func54 rfl rfl rfl rfl (fun Qx hret hend => ?_)
  refine .forget (fr' := [(0, some _), (1, some _)]) ⟨rfl, rfl, trivial⟩ ?_
  have lt_hg := GHeap.ltg hg
  have hst := St.refl [g] H
  have i1 := k1 _ hst
  have i2 := k2 _ hst
  have j1 := i1.slN h1
  have j2 := i2.slN h2
  refine .seq (fun K1 hK1 => .region (.mv rfl ?_))
  refine .callQ rfl rfl rfl rfl @Try.call49 rfl (arrowsN_c (by assumption)) ?_
  refine .mv rfl (.nil (hK1 _ _ (.seq (fun K2 hK2 => .region (.mv rfl (.mv rfl ?_))))))
  refine .r rfl rfl rfl (.makeV rfl sl_23_B ze_22_Tb by_22_Tb rfl rfl rfl (by omega) (by omega) (by omega) (by omega)) ?_
  rintro _ H11 ⟨g11, rfl, le11, ge11, at11⟩
  have nx_H11 := le11.1
  replace hst := hst.le le11
  replace hg := le11.2 _ _ hg
  have lt_at11 := GHeap.ltg at11
  clear i1 i2 j1 j2
  have i1 := k1 _ hst
  have i2 := k2 _ hst
  have j1 := i1.slN h1
  have j2 := i2.slN h2
  refine .m rfl rfl rfl (.nilCheck rfl) (.m rfl rfl rfl (.fieldAddr fo_30_4_B rfl) ?_)
  simp only [Int.toNat_natCast] at at11
  refine .r0 rfl rfl (.storeR rfl sz_23_Tb rfl rfl rfl (by assumption) (by first | exact Nat.le_of_ble_eq_true rfl | (simp; done) | (simp <;> omega))) ?_
  rintro _ H1005 ⟨rfl, st1005, at1005⟩
  have nx_H1005 := st1005.nx
  replace hst := hst.st st1005 (fun k hk ho => by simp only [out, and_true] at ho ⊢ <;> first | exact ho | exact ho.1 | exact ho.2 | exact ho.2.1 | exact ho.2.2 | exact ho.2.2.1 | exact ho.2.2.2 | omega)
  have ne_g11_g : g11 ≠ g := by first | assumption | omega
  replace at11 := st1005.same _ _ ⟨ne_g11_g, trivial⟩ at11
  have lt_at1005 := GHeap.ltg at1005
  clear i1 i2 j1 j2
  have i1 := k1 _ hst
  have i2 := k2 _ hst
  have j1 := i1.slN h1
  have j2 := i2.slN h2
  try simp only [Nat.zero_add, List.set_cons_succ, List.set_cons_zero] at at1005
  simp only [Int.toNat_natCast] at at1005
  refine .nil (hK2 _ _ (.seq (fun K3 hK3 => .region (.mv rfl (.m rfl rfl rfl (.nilCheck rfl) (.m rfl rfl rfl (.fieldAddr fo_30_4_B rfl) ?_))))))
  refine .m rfl rfl rfl (.load on_23_B rfl (by first | assumption | exact Mem.of_get at1005 4 _ rfl)) ?_
  refine .m rfl rfl rfl (.len sl_23_B rfl) (.mv rfl (.nil (hK3 _ _ ?_)))
  refine .block ?_
  refine .loopR (σ := Nat × (Nat → Option Addr)) [(0, some _), (1, some _), (4, some _), (18, some _)] (fun (k, rr) => [(19, some (.int .i64 (k : Int)))]) (fun (k, rr) H' => St [g11] H1005 H' ∧ H'.get g11 = some (.row ((fillS rr n k)) 22 true) ∧ k ≤ n ∧ OwnRows H.next H' 2 rr (tabR src tgt X n) k) (fun (k, rr) => n - k) ((0, fun _ => none)) ⟨rfl, rfl, rfl, rfl, trivial⟩ ⟨rfl, trivial⟩ ?_ ?_
  ·
   refine ⟨.refl _ _, by first | assumption | (rw [fillS_zero]; simpa using at11), ?_⟩
   exact ⟨by omega, .zero _ _ _ _ _⟩
  rintro ⟨k, rr⟩ HL1 ⟨lst1, at_Lg11, hI⟩ KL1 hKL1
  refine .forget (fr' := [(19, some (.int .i64 (k : Int))), (0, some _), (1, some _), (4, some _), (18, some _)]) ⟨rfl, rfl, rfl, rfl, rfl, trivial⟩ ?_
  have nx_HL1 := lst1.nx
  replace hst := hst.st lst1 (fun k hk ho => by simp only [out, and_true] at ho ⊢ <;> first | exact ho | exact ho.1 | exact ho.2 | exact ho.2.1 | exact ho.2.2 | exact ho.2.2.1 | exact ho.2.2.2 | omega)
  replace at1005 := lst1.same _ _ ⟨(Ne.symm ne_g11_g), trivial⟩ at1005
  have lt_at_Lg11 := GHeap.ltg at_Lg11
  clear i1 i2 j1 j2
  have i1 := k1 _ hst
  have i2 := k2 _ hst
  have j1 := i1.slN h1
  have j2 := i2.slN h2
  have rk := St.refl [g11] HL1
  obtain ⟨hk, hR⟩ := hI
  have hatC := at_Lg11
  refine .seq (fun K4 hK4 => .region (.m rfl rfl rfl (.cmp rfl rfl rfl) (.nil (hK4 _ _ (.seq (fun K5 hK5 => ?_))))))
  refine .cond rfl (fun h20 => ?_) (fun h20 => ?_)
  ·
   simp only [sps] at h20
   refine .skip ?_
   refine hK5 _ _ (.seq (fun K6 hK6 => ?_))
   refine .block ?_
   refine .seq (fun K7 hK7 => .region (.mv rfl (.mv rfl (.nil (hK7 _ _ (.seq (fun K8 hK8 => ?_)))))))
   refine .regionD mo_B (.q 0 (.q 1 (.q 2 (.q 3 (.q 4 (.q 5 (.c 6 1 (.q 7 (.c 8 0 (.done)))))))))) (by kernel_rfl) ?_
   refine .mv rfl rfl (.m rfl rfl rfl rfl (.refl _) (.nilCheck rfl) (.m rfl rfl rfl rfl (.refl _) (.fieldAddr fo_30_4_B rfl) ?_))
   refine .m rfl rfl rfl rfl (.refl _) (.load on_23_B rfl (by first | assumption | exact Mem.of_get at1005 4 _ rfl)) ?_
   refine .mv rfl rfl (.mv rfl rfl ?_)
   refine .c1 rfl rfl rfl rfl (.makeI rfl sl_22_A ze_2_Tb by_2_Tb rfl rfl (by omega) (by omega) (by omega) (by omega)) ?_
   rintro _ H28 ⟨g28, rfl, le28, ge28, at28⟩
   have hbl := le28
   refine ⟨hbl, ?_⟩
   have nx_H28 := le28.1
   replace hst := hst.le le28
   replace lst1 := lst1.le le28
   replace rk := rk.le le28
   replace at1005 := le28.2 _ _ at1005
   replace at_Lg11 := le28.2 _ _ at_Lg11
   have lt_at28 := GHeap.ltg at28
   clear i1 i2 j1 j2
   have i1 := k1 _ hst
   have i2 := k2 _ hst
   have j1 := i1.slN h1
   have j2 := i2.slN h2
   refine .m rfl rfl rfl rfl hbl (.idxN sl_23_B (by first | exact (Intss.sl (by assumption)) | exact SlA.of_row at_Lg11 (by first | rfl | (simp; done) | (simp <;> omega))) rfl rfl (by omega)) ?_
   refine .r0 rfl rfl rfl (.storeR rfl sz_22_Tb rfl rfl rfl (by assumption) (by first | exact Nat.le_of_ble_eq_true rfl | (simp; done) | (simp <;> omega))) ?_
   rintro _ H5008 ⟨rfl, st5008, at5008⟩
   have nx_H5008 := st5008.nx
   replace hst := hst.st st5008 (fun k hk ho => by simp only [out, and_true] at ho ⊢ <;> first | exact ho | exact ho.1 | exact ho.2 | exact ho.2.1 | exact ho.2.2 | exact ho.2.2.1 | exact ho.2.2.2 | omega)
   replace lst1 := lst1.st st5008 (fun k hk ho => by simp only [out, and_true] at ho ⊢ <;> first | exact ho | exact ho.1 | exact ho.2 | exact ho.2.1 | exact ho.2.2 | exact ho.2.2.1 | exact ho.2.2.2 | omega)
   replace rk := rk.st st5008 (fun k hk ho => by simp only [out, and_true] at ho ⊢ <;> first | exact ho | exact ho.1 | exact ho.2 | exact ho.2.1 | exact ho.2.2 | exact ho.2.2.1 | exact ho.2.2.2 | omega)
   replace at1005 := st5008.same _ _ ⟨(Ne.symm ne_g11_g), trivial⟩ at1005
   have ne_g28_g11 : g28 ≠ g11 := by first | assumption | omega
   replace at28 := st5008.same _ _ ⟨ne_g28_g11, trivial⟩ at28
   have lt_at5008 := GHeap.ltg at5008
   clear i1 i2 j1 j2
   have i1 := k1 _ hst
   have i2 := k2 _ hst
   have j1 := i1.slN h1
   have j2 := i2.slN h2
   simp only [Int.toNat_natCast, Nat.zero_add] at at5008 at28
   rw [fillS_set (by omega)] at at5008
   have cC := fillS_cell (i := k) at5008 (by omega) (by omega)
   refine .done ?_
   refine hK8 _ _ (.seq (fun K9 hK9 => .region (.mv rfl (.m rfl rfl rfl (.nilCheck rfl) (.m rfl rfl rfl (.fieldAddr fo_30_4_B rfl) ?_)))))
   refine .m rfl rfl rfl (.load on_23_B rfl (by first | assumption | exact Mem.of_get at1005 4 _ rfl)) ?_
   refine .mv rfl ?_
   refine .m rfl rfl rfl (.idxN sl_23_B (by first | exact (Intss.sl (by assumption)) | exact SlA.of_row at5008 (by first | rfl | (simp; done) | (simp <;> omega))) rfl rfl (by omega)) ?_
   refine .m rfl rfl rfl (.load on_22_B rfl (by rw [upd_eq] at cC; exact cC)) ?_
   refine .m rfl rfl rfl (.len sl_22_A rfl) (.mv rfl (.nil (hK9 _ _ ?_)))
   refine .block ?_
   refine .loopR (σ := Nat) [(0, some _), (1, some _), (4, some _), (5, some _), (18, some _), (19, some _), (37, some _)] (fun j => [(38, some (.int .i64 (j : Int)))]) (fun j H' => St [g28] H5008 H' ∧ H'.get g28 = some (.row (ints (fillI (tabC src tgt X k) n j)) 2 true) ∧ j ≤ n) (fun j => n - j) (0) ⟨rfl, rfl, rfl, rfl, rfl, rfl, rfl, trivial⟩ ⟨rfl, trivial⟩ ?_ ?_
   ·
    refine ⟨.refl _ _, by (rw [fillI_zero]; simpa using at28), ?_⟩
    omega
   rintro j HL2 ⟨lst2, at_Lg28, hI⟩ KL2 hKL2
   refine .forget (fr' := [(38, some (.int .i64 (j : Int))), (0, some _), (1, some _), (4, some _), (5, some _), (18, some _), (19, some _), (37, some _)]) ⟨rfl, rfl, rfl, rfl, rfl, rfl, rfl, rfl, trivial⟩ ?_
   have nx_HL2 := lst2.nx
   replace hst := hst.st lst2 (fun k hk ho => by simp only [out, and_true] at ho ⊢ <;> first | exact ho | exact ho.1 | exact ho.2 | exact ho.2.1 | exact ho.2.2 | exact ho.2.2.1 | exact ho.2.2.2 | omega)
   replace lst1 := lst1.st lst2 (fun k hk ho => by simp only [out, and_true] at ho ⊢ <;> first | exact ho | exact ho.1 | exact ho.2 | exact ho.2.1 | exact ho.2.2 | exact ho.2.2.1 | exact ho.2.2.2 | omega)
   replace rk := rk.st lst2 (fun k hk ho => by simp only [out, and_true] at ho ⊢ <;> first | exact ho | exact ho.1 | exact ho.2 | exact ho.2.1 | exact ho.2.2 | exact ho.2.2.1 | exact ho.2.2.2 | omega)
   have ne_g_g28 : g ≠ g28 := by first | assumption | omega
   replace at1005 := lst2.same _ _ ⟨ne_g_g28, trivial⟩ at1005
   replace at5008 := lst2.same _ _ ⟨(Ne.symm ne_g28_g11), trivial⟩ at5008
   have lt_at_Lg28 := GHeap.ltg at_Lg28
   clear i1 i2 j1 j2
   have i1 := k1 _ hst
   have i2 := k2 _ hst
   have j1 := i1.slN h1
   have j2 := i2.slN h2
   clear cC
   have cC := fillS_cell (i := k) at5008 (by omega) (by omega)
   refine .seq (fun K10 hK10 => .region (.m rfl rfl rfl (.cmp rfl rfl rfl) (.nil (hK10 _ _ (.seq (fun K11 hK11 => ?_))))))
   refine .cond rfl (fun h39 => ?_) (fun h39 => ?_)
   ·
    simp only [sps] at h39
    refine .skip ?_
    refine hK11 _ _ (.seq (fun K12 hK12 => ?_))
    refine .block ?_
    refine .seq (fun K13 hK13 => .region (.mv rfl (.mv rfl (.nil (hK13 _ _ (.seq (fun K14 hK14 => .region (.mv rfl (.m rfl rfl rfl (.nilCheck rfl) (.m rfl rfl rfl (.fieldAddr fo_30_4_B rfl) ?_))))))))))
    refine .m rfl rfl rfl (.load on_23_B rfl (by first | assumption | exact Mem.of_get at1005 4 _ rfl)) ?_
    refine .mv rfl ?_
    refine .m rfl rfl rfl (.idxN sl_23_B (by first | exact (Intss.sl (by assumption)) | exact SlA.of_row at5008 (by first | rfl | (simp; done) | (simp <;> omega))) rfl rfl (by omega)) ?_
    refine .m rfl rfl rfl (.load on_22_B rfl (by rw [upd_eq] at cC; exact cC)) ?_
    refine .mv rfl ?_
    refine .m rfl rfl rfl (.idxN sl_22_A (by first | assumption | exact SlA.of_row at_Lg28 (by first | rfl | (simp; done) | (simp <;> omega))) rfl rfl (by omega)) ?_
    refine .r0 rfl rfl (.storeI rfl sz_2_Tb rfl rfl (by assumption) (by first | omega | (simp <;> omega))) ?_
    rintro _ H9009 ⟨rfl, st9009, at9009⟩
    have nx_H9009 := st9009.nx
    replace hst := hst.st st9009 (fun k hk ho => by simp only [out, and_true] at ho ⊢ <;> first | exact ho | exact ho.1 | exact ho.2 | exact ho.2.1 | exact ho.2.2 | exact ho.2.2.1 | exact ho.2.2.2 | omega)
    replace lst1 := lst1.st st9009 (fun k hk ho => by simp only [out, and_true] at ho ⊢ <;> first | exact ho | exact ho.1 | exact ho.2 | exact ho.2.1 | exact ho.2.2 | exact ho.2.2.1 | exact ho.2.2.2 | omega)
    replace rk := rk.st st9009 (fun k hk ho => by simp only [out, and_true] at ho ⊢ <;> first | exact ho | exact ho.1 | exact ho.2 | exact ho.2.1 | exact ho.2.2 | exact ho.2.2.1 | exact ho.2.2.2 | omega)
    replace lst2 := lst2.st st9009 (fun k hk ho => by simp only [out, and_true] at ho ⊢ <;> first | exact ho | exact ho.1 | exact ho.2 | exact ho.2.1 | exact ho.2.2 | exact ho.2.2.1 | exact ho.2.2.2 | omega)
    replace at1005 := st9009.same _ _ ⟨ne_g_g28, trivial⟩ at1005
    replace at5008 := st9009.same _ _ ⟨(Ne.symm ne_g28_g11), trivial⟩ at5008
    have lt_at9009 := GHeap.ltg at9009
    clear i1 i2 j1 j2
    have i1 := k1 _ hst
    have i2 := k2 _ hst
    have j1 := i1.slN h1
    have j2 := i2.slN h2
    clear cC
    have cC := fillS_cell (i := k) at5008 (by omega) (by omega)
    refine .nil (hK14 _ _ (.seq (fun K15 hK15 => ?_)))
    refine .regionD mo_B (.q 0 (.q 1 (.q 2 (.q 3 (.q 4 (.q 5 (.q 6 (.q 7 (.q 8 (.q 9 (.q 10 (.q 11 (.q 12 (.q 13 (.q 14 (.done)))))))))))))))) (by kernel_rfl) ?_
    refine .mv rfl rfl (.m rfl rfl rfl rfl (.refl _) (.nilCheck rfl) (.m rfl rfl rfl rfl (.refl _) (.fieldAddr fo_30_2_B rfl) ?_))
    refine .m rfl rfl rfl rfl (.refl _) (.load on_22_B rfl (by first | assumption | exact Mem.of_get at1005 2 _ rfl)) ?_
    refine .mv rfl rfl ?_
    refine .m rfl rfl rfl rfl (.refl _) (.idxN sl_22_A (by assumption) rfl rfl (by omega)) ?_
    refine .m rfl rfl rfl rfl (.refl _) (.loadI on_2_A (by assumption) rfl (by omega)) ?_
    refine .mv rfl rfl (.m rfl rfl rfl rfl (.refl _) (.nilCheck rfl) (.m rfl rfl rfl rfl (.refl _) (.fieldAddr fo_30_1_B rfl) ?_))
    refine .m rfl rfl rfl rfl (.refl _) (.load on_22_B rfl (by first | assumption | exact Mem.of_get at1005 1 _ rfl)) ?_
    refine .mv rfl rfl ?_
    refine .m rfl rfl rfl rfl (.refl _) (.idxN sl_22_A (by assumption) rfl rfl (by omega)) ?_
    refine .m rfl rfl rfl rfl (.refl _) (.loadI on_2_A (by assumption) rfl (by omega)) ?_
    refine .m rfl rfl rfl rfl (.refl _) (.cmp rfl rfl rfl) ?_
    refine .done ?_
    refine hK15 _ _ ?_
    refine .cond rfl (fun h64 => ?_) (fun h64 => ?_)
    ·
     simp only [sps] at h64
     refine .regionD mo_B (.q 0 (.q 1 (.q 2 (.q 3 (.q 4 (.q 5 (.q 6 (.q 7 (.q 8 (.q 9 (.q 10 (.c 11 1 (.q 12 (.c 13 0 (.done))))))))))))))) (by kernel_rfl) ?_
     refine .mv rfl rfl (.m rfl rfl rfl rfl (.refl _) (.nilCheck rfl) (.m rfl rfl rfl rfl (.refl _) (.fieldAddr fo_30_4_B rfl) ?_))
     refine .m rfl rfl rfl rfl (.refl _) (.load on_23_B rfl (by first | assumption | exact Mem.of_get at1005 4 _ rfl)) ?_
     refine .mv rfl rfl ?_
     refine .m rfl rfl rfl rfl (.refl _) (.idxN sl_23_B (by first | exact (Intss.sl (by assumption)) | exact SlA.of_row at5008 (by first | rfl | (simp; done) | (simp <;> omega))) rfl rfl (by omega)) ?_
     refine .m rfl rfl rfl rfl (.refl _) (.load on_22_B rfl (by rw [upd_eq] at cC; exact cC)) ?_
     refine .mv rfl rfl (.mv rfl rfl (.mv rfl rfl (.mv rfl rfl ?_)))
     refine .callV1 rfl rfl rfl rfl rfl rfl hcall rfl ((hq _ _ hst at1005 k j (by omega) (by omega) h64)) ?_
     rintro _ H76 ⟨le76, rfl⟩
     have hbl := le76
     refine ⟨hbl, ?_⟩
     have nx_H76 := le76.1
     replace hst := hst.le le76
     replace lst1 := lst1.le le76
     replace rk := rk.le le76
     replace lst2 := lst2.le le76
     replace at1005 := le76.2 _ _ at1005
     replace at5008 := le76.2 _ _ at5008
     replace at9009 := le76.2 _ _ at9009
     clear i1 i2 j1 j2
     have i1 := k1 _ hst
     have i2 := k2 _ hst
     have j1 := i1.slN h1
     have j2 := i2.slN h2
     clear cC
     have cC := fillS_cell (i := k) at5008 (by omega) (by omega)
     refine .m rfl rfl rfl rfl hbl (.idxN sl_22_A (by first | assumption | exact SlA.of_row at9009 (by first | rfl | (simp; done) | (simp <;> omega))) rfl rfl (by omega)) ?_
     refine .r0 rfl rfl rfl (.storeI rfl sz_2_Tb rfl rfl (by assumption) (by first | omega | (simp <;> omega))) ?_
     rintro _ H11013 ⟨rfl, st11013, at11013⟩
     have nx_H11013 := st11013.nx
     replace hst := hst.st st11013 (fun k hk ho => by simp only [out, and_true] at ho ⊢ <;> first | exact ho | exact ho.1 | exact ho.2 | exact ho.2.1 | exact ho.2.2 | exact ho.2.2.1 | exact ho.2.2.2 | omega)
     replace lst1 := lst1.st st11013 (fun k hk ho => by simp only [out, and_true] at ho ⊢ <;> first | exact ho | exact ho.1 | exact ho.2 | exact ho.2.1 | exact ho.2.2 | exact ho.2.2.1 | exact ho.2.2.2 | omega)
     replace rk := rk.st st11013 (fun k hk ho => by simp only [out, and_true] at ho ⊢ <;> first | exact ho | exact ho.1 | exact ho.2 | exact ho.2.1 | exact ho.2.2 | exact ho.2.2.1 | exact ho.2.2.2 | omega)
     replace lst2 := lst2.st st11013 (fun k hk ho => by simp only [out, and_true] at ho ⊢ <;> first | exact ho | exact ho.1 | exact ho.2 | exact ho.2.1 | exact ho.2.2 | exact ho.2.2.1 | exact ho.2.2.2 | omega)
     replace at1005 := st11013.same _ _ ⟨ne_g_g28, trivial⟩ at1005
     replace at5008 := st11013.same _ _ ⟨(Ne.symm ne_g28_g11), trivial⟩ at5008
     have lt_at11013 := GHeap.ltg at11013
     clear i1 i2 j1 j2
     have i1 := k1 _ hst
     have i2 := k2 _ hst
     have j1 := i1.slN h1
     have j2 := i2.slN h2
     clear cC
     have cC := fillS_cell (i := k) at5008 (by omega) (by omega)
     refine .done ?_
     refine hK12 _ _ (.region ?_)
     refine .m rfl rfl rfl (.add rfl rfl rfl (by omega) (by omega)) ?_
     refine .mv rfl (.nil ?_)
     refine hKL2 (j + 1) _ _ ?_ ?_ ⟨rfl, rfl, rfl, rfl, rfl, rfl, rfl, rfl, trivial⟩
     ·
      refine ⟨lst2, by first | assumption | (rw [← fillI_set (by omega) (tabC_F h64).symm]; simpa using at9009) | (rw [← fillI_set (by omega) (tabC_T h64).symm, ← List.set_set (-1)]; simpa using at11013), ?_⟩
      omega
     omega
    simp only [sps] at h64
    refine .skip ?_
    refine hK12 _ _ (.region ?_)
    refine .m rfl rfl rfl (.add rfl rfl rfl (by omega) (by omega)) ?_
    refine .mv rfl (.nil ?_)
    refine hKL2 (j + 1) _ _ ?_ ?_ ⟨rfl, rfl, rfl, rfl, rfl, rfl, rfl, rfl, trivial⟩
    ·
     refine ⟨lst2, by first | assumption | (rw [← fillI_set (by omega) (tabC_F h64).symm]; simpa using at9009) | (rw [← fillI_set (by omega) (tabC_T h64).symm, ← List.set_set (-1)]; simpa using at11013), ?_⟩
     omega
    omega
   try simp only [sps] at h39
   refine .exit ?_
   refine hK6 _ _ (.region ?_)
   refine .m rfl rfl rfl (.add rfl rfl rfl (by omega) (by omega)) ?_
   refine .mv rfl (.nil ?_)
   obtain rfl : j = n := by omega
   refine hKL1 ((k + 1, upd rr k (some ⟨g28, 0, none⟩))) _ _ ?_ ?_ ⟨rfl, rfl, rfl, rfl, rfl, trivial⟩
   ·
    refine ⟨lst1, by assumption, ?_⟩
    exact ⟨by omega, hR.succ rk hatC rfl (by rw [tabR, ← fillI_all]; assumption) (by omega) (by omega)⟩
   (dsimp only; omega)
  try simp only [sps] at h20
  refine .exit ?_
  refine hend _ _ ?_
  obtain rfl : k = n := by omega
  exact ⟨hst, g11, rr, at1005, by omega, (OwnRows.done hR (by rw [← fillS_all (fun i _ => length_tabR _ _ _ _ _)]; exact at_Lg11) (by omega)), fun i hi x hx => by obtain ⟨y, y1, y2, _⟩ := hR.row i hi; rw [y1] at hx; cases hx; exact y2⟩
end Go.Proofs.Ytdjodpdmbklfhaa
namespace Go.Proofs.Ytdjodpdmbklfhaa
open Go Go.GL Go.RowKit Go.Proofs
theorem l03Made_c {c : Cat} {p : CatP} {H : GHeap} (hin : c.In H p := by assumption) :
    GCalls Try.prog 43 [.agg (c.cells p).toArray] H (fun v H' => H.Le H' ∧ ∃ c' q k, v = .tuple #[.agg (Cat.cells c' q).toArray, .int .i64 k] ∧ ((c.obj ≤ 8 ∧ c.src.length ≤ 40) ∧ c' = c ∧ q = p ∧ k = 0 ∨ ¬ (c.obj ≤ 8 ∧ c.src.length ≤ 40) ∧ c' = .zero ∧ q = .zero ∧ k = 3)) := by
  refine GCalls.body (N := 9) (rs := [.cell 2 30, .tmp 3]) Try.func43 rfl rfl rfl rfl (fun Qx hret hend => ?_)
  refine .forget (fr' := [(0, some _)]) ⟨rfl, trivial⟩ ?_
  have hle := GHeap.Le.refl H
  have base_hin := hin
  refine .seq (fun K1 hK1 => .region ?_)
  refine .r rfl rfl rfl (.boxR rfl sz_30_D rfl) ?_
  rintro _ H1 ⟨g1, rfl, le1, ge1, at1⟩
  replace hle := hle.trans le1
  have lt_at1 := GHeap.ltg at1
  replace hin := base_hin.mono hle
  have hb1 : Cat.At _ g1 0 c p := ⟨Mem.of_get at1, hin⟩
  obtain ⟨c01, c11, c21, c31, c41, i11, i21, i31, i41⟩ := hb1.get
  refine .r rfl rfl rfl (.allocR rfl ze_30_E rfl) ?_
  rintro _ H2 ⟨g2, rfl, le2, ge2, at2⟩
  replace hle := hle.trans le2
  replace at1 := le2.2 _ _ at1
  have lt_at2 := GHeap.ltg at2
  replace hin := base_hin.mono hle
  clear hb1 c01 c11 c21 c31 c41 i11 i21 i31 i41
  have hb1 : Cat.At _ g1 0 c p := ⟨Mem.of_get at1, hin⟩
  obtain ⟨c01, c11, c21, c31, c41, i11, i21, i31, i41⟩ := hb1.get
  refine .mv rfl (.nil (hK1 _ _ (.seq (fun K2 hK2 => .seq (fun K3 hK3 => .region ?_)))))
  refine .m rfl rfl rfl (.loadM ag_30_D rfl ⟨rfl, Mem.of_get at1⟩) ?_
  refine .callQ rfl rfl rfl rfl @Try.call73 rfl (l02Fits_c) ?_
  refine .m rfl rfl rfl (.not rfl) (.nil (hK3 _ _ ?_))
  refine .cond rfl (fun h6 => ?_) (fun h6 => ?_)
  ·
   simp only [sps] at h6
   refine .seq (fun K4 hK4 => .region (.m rfl rfl rfl (.build bt_30_Hj rfl rfl rfl) ?_))
   refine .r0 rfl rfl (.fillR rfl sz_30_D rfl rfl rfl rfl (by assumption) (by first | rfl | exact Nat.le_of_ble_eq_true rfl | simp)) ?_
   rintro _ H2001 ⟨rfl, st2001, at2001⟩
   replace hle := hle.st st2001 (fun k hk => ⟨by omega, trivial⟩)
   have ne_g1_g2 : g1 ≠ g2 := by first | assumption | omega
   replace at1 := st2001.same _ _ ⟨ne_g1_g2, trivial⟩ at1
   have lt_at2001 := GHeap.ltg at2001
   replace hin := base_hin.mono hle
   clear hb1 c01 c11 c21 c31 c41 i11 i21 i31 i41
   have hb1 : Cat.At _ g1 0 c p := ⟨Mem.of_get at1, hin⟩
   obtain ⟨c01, c11, c21, c31, c41, i11, i21, i31, i41⟩ := hb1.get
   refine .mv rfl (.nil (hK4 _ _ ?_))
   refine .ret ?_
   refine hret _ _ ?_
   refine ⟨_, _, _, _, _, rfl, ag_30_D, (by rfl), (Mem.of_get at2001), rfl, ?_⟩
   exact ⟨hle, .zero, .zero, 3, rfl, .inr ⟨h6, rfl, rfl, rfl⟩⟩
  simp only [sps] at h6
  refine .skip ?_
  refine hK2 _ _ (.seq (fun K5 hK5 => .region ?_))
  refine .m rfl rfl rfl (.loadM ag_30_D rfl ⟨rfl, Mem.of_get at1⟩) ?_
  refine .r0 rfl rfl (.fillR rfl sz_30_D rfl rfl rfl rfl (by assumption) (by first | rfl | exact Nat.le_of_ble_eq_true rfl | simp)) ?_
  rintro _ H3001 ⟨rfl, st3001, at3001⟩
  replace hle := hle.st st3001 (fun k hk => ⟨by omega, trivial⟩)
  have ne_g1_g2 : g1 ≠ g2 := by first | assumption | omega
  replace at1 := st3001.same _ _ ⟨ne_g1_g2, trivial⟩ at1
  have lt_at3001 := GHeap.ltg at3001
  replace hin := base_hin.mono hle
  clear hb1 c01 c11 c21 c31 c41 i11 i21 i31 i41
  have hb1 : Cat.At _ g1 0 c p := ⟨Mem.of_get at1, hin⟩
  obtain ⟨c01, c11, c21, c31, c41, i11, i21, i31, i41⟩ := hb1.get
  refine .mv rfl (.nil (hK5 _ _ ?_))
  refine .ret ?_
  refine hret _ _ ?_
  refine ⟨_, _, _, _, _, rfl, ag_30_D, (by rfl), (Mem.of_get at3001), rfl, ?_⟩
  exact ⟨hle, c, p, 0, rfl, .inl ⟨h6, rfl, rfl, rfl⟩⟩
theorem specCollageOf_c {m : Prof} {p : ProfP} {H : GHeap} (hin : m.In H p := by assumption) (hs : m.Small := by assumption) :
    GCalls Try.prog 10 [.agg (m.cells p).toArray] H (fun v H' => H.Le H' ∧ ∃ q, v = .tuple #[.agg (m.colRes.cells q).toArray, .int .i64 m.colC] ∧ CatR H.next H' m.colRes q) := by
  refine GCalls.body (N := 13) (rs := [.cell 2 30, .tmp 3]) Try.func10 rfl rfl rfl rfl (fun Qx hret hend => ?_)
  refine .forget (fr' := [(0, some _)]) ⟨rfl, trivial⟩ ?_
  have hle := GHeap.Le.refl H
  have base_hin := hin
  refine .seq (fun K1 hK1 => .region ?_)
  refine .r rfl rfl rfl (.boxR rfl sz_34_VProf rfl) ?_
  rintro _ H1 ⟨g1, rfl, le1, ge1, at1⟩
  replace hle := hle.trans le1
  have lt_at1 := GHeap.ltg at1
  replace hin := base_hin.mono hle
  have hb1 : Prof.At _ g1 0 m p := ⟨Mem.of_get at1, hin⟩
  obtain ⟨fs1, ft1, c101, c111, c121, i21, i31, i41⟩ := hb1.get
  refine .r rfl rfl rfl (.allocR rfl ze_30_E rfl) ?_
  rintro _ H2 ⟨g2, rfl, le2, ge2, at2⟩
  replace hle := hle.trans le2
  replace at1 := le2.2 _ _ at1
  have lt_at2 := GHeap.ltg at2
  replace hin := base_hin.mono hle
  clear hb1 fs1 ft1 c101 c111 c121 i21 i31 i41
  have hb1 : Prof.At _ g1 0 m p := ⟨Mem.of_get at1, hin⟩
  obtain ⟨fs1, ft1, c101, c111, c121, i21, i31, i41⟩ := hb1.get
  refine .mv rfl (.nil (hK1 _ _ (.seq (fun K2 hK2 => .seq (fun K3 hK3 => .region ?_)))))
  refine .m rfl rfl rfl (.loadM ag_34_VProf rfl ⟨rfl, Mem.of_get at1⟩) ?_
  refine .callQ rfl rfl rfl rfl @Try.call42 rfl (l22Is_c) ?_
  refine .m rfl rfl rfl (.not rfl) (.nil (hK3 _ _ ?_))
  refine .cond rfl (fun h6 => ?_) (fun h6 => ?_)
  ·
   simp only [sps] at h6
   refine .seq (fun K4 hK4 => .region (.m rfl rfl rfl (.build bt_30_Hj rfl rfl rfl) ?_))
   refine .r0 rfl rfl (.fillR rfl sz_30_D rfl rfl rfl rfl (by assumption) (by first | rfl | exact Nat.le_of_ble_eq_true rfl | simp)) ?_
   rintro _ H2001 ⟨rfl, st2001, at2001⟩
   replace hle := hle.st st2001 (fun k hk => ⟨by omega, trivial⟩)
   have ne_g1_g2 : g1 ≠ g2 := by first | assumption | omega
   replace at1 := st2001.same _ _ ⟨ne_g1_g2, trivial⟩ at1
   have lt_at2001 := GHeap.ltg at2001
   replace hin := base_hin.mono hle
   clear hb1 fs1 ft1 c101 c111 c121 i21 i31 i41
   have hb1 : Prof.At _ g1 0 m p := ⟨Mem.of_get at1, hin⟩
   obtain ⟨fs1, ft1, c101, c111, c121, i21, i31, i41⟩ := hb1.get
   refine .mv rfl (.nil (hK4 _ _ ?_))
   refine .ret ?_
   refine hret _ _ ?_
   refine ⟨_, _, _, _, _, rfl, ag_30_D, (by rfl), (Mem.of_get at2001), rfl, ?_⟩
   obtain ⟨e1, e2⟩ := Prof.col_nis h6
   rw [e1, e2]
   exact ⟨hle, .zero, rfl, CatR.zero _ _⟩
  simp only [sps] at h6
  refine .skip ?_
  refine hK2 _ _ (.seq (fun K5 hK5 => .region ?_))
  refine .m rfl rfl rfl (.loadM ag_34_VProf rfl ⟨rfl, Mem.of_get at1⟩) ?_
  refine .call rfl rfl rfl rfl @Try.call44 rfl (l32Collage_c (hS := h6.1)) ?_
  rintro _ H9 ⟨le9, p9, rfl, v9⟩
  replace hle := hle.trans le9
  replace at1 := le9.2 _ _ at1
  replace at2 := le9.2 _ _ at2
  have bs_v9 := v9
  have lv_v9 : Keep H2.next H9 H9 := fun _ _ _ h => h
  replace hin := base_hin.mono hle
  clear hb1 fs1 ft1 c101 c111 c121 i21 i31 i41
  have hb1 : Prof.At _ g1 0 m p := ⟨Mem.of_get at1, hin⟩
  obtain ⟨fs1, ft1, c101, c111, c121, i21, i31, i41⟩ := hb1.get
  have i9 := v9.inn
  refine .call rfl rfl rfl rfl @Try.call43 rfl (l03Made_c) ?_
  rintro _ H10 ⟨le10, c10, q10, k10, rfl, hm10⟩
  replace hle := hle.trans le10
  replace at1 := le10.2 _ _ at1
  replace at2 := le10.2 _ _ at2
  replace lv_v9 := Keep.le lv_v9 le10
  replace v9 := bs_v9.keep lv_v9 (Nat.le_refl _)
  replace hin := base_hin.mono hle
  clear hb1 fs1 ft1 c101 c111 c121 i21 i31 i41
  have hb1 : Prof.At _ g1 0 m p := ⟨Mem.of_get at1, hin⟩
  obtain ⟨fs1, ft1, c101, c111, c121, i21, i31, i41⟩ := hb1.get
  clear i9
  have i9 := v9.inn
  refine .m rfl rfl rfl (.extract rfl rfl) (.m rfl rfl rfl (.extract rfl rfl) ?_)
  refine .r0 rfl rfl (.fillR rfl sz_30_D rfl rfl rfl rfl (by assumption) (by first | rfl | exact Nat.le_of_ble_eq_true rfl | simp)) ?_
  rintro _ H3005 ⟨rfl, st3005, at3005⟩
  replace hle := hle.st st3005 (fun k hk => ⟨by omega, trivial⟩)
  have ne_g1_g2 : g1 ≠ g2 := by first | assumption | omega
  replace at1 := st3005.same _ _ ⟨ne_g1_g2, trivial⟩ at1
  replace lv_v9 := Keep.st lv_v9 st3005 (fun k hb hk => ⟨by omega, trivial⟩)
  replace v9 := bs_v9.keep lv_v9 (Nat.le_refl _)
  have lt_at3005 := GHeap.ltg at3005
  replace hin := base_hin.mono hle
  clear hb1 fs1 ft1 c101 c111 c121 i21 i31 i41
  have hb1 : Prof.At _ g1 0 m p := ⟨Mem.of_get at1, hin⟩
  obtain ⟨fs1, ft1, c101, c111, c121, i21, i31, i41⟩ := hb1.get
  clear i9
  have i9 := v9.inn
  refine .mv rfl (.nil (hK5 _ _ ?_))
  refine .ret ?_
  refine hret _ _ ?_
  refine ⟨_, _, _, _, _, rfl, ag_30_D, (by rfl), (Mem.of_get at3005), rfl, ?_⟩
  obtain ⟨f1, f2⟩ := m.colFin_fits
  rw [f1, f2] at hm10
  rcases hm10 with ⟨hf, rfl, rfl, rfl⟩ | ⟨hf, rfl, rfl, rfl⟩
  · obtain ⟨e1, e2⟩ := Prof.col_ok h6 hf
    rw [e1, e2]
    rw [Prof.colFin_ok hf] at v9 ⊢
    exact ⟨hle, _, rfl, v9.keep (.of_le (.refl _)) (by omega)⟩
  · obtain ⟨e1, e2⟩ := Prof.col_big h6 hf
    rw [e1, e2]
    exact ⟨hle, .zero, rfl, CatR.zero _ _⟩
set_option maxHeartbeats 4000000 in
theorem collage1_c {m : Prof} {p : ProfP} {gp go gn gm gc gr gd ga gF gT f g : Nat} {ob : Int} {v3 v4 : Value} {aa : Option Addr} {rq : Nat → Option Addr} {eO eI eP eS : TypeId} {H : GHeap} (hp : Prof.At H gp 0 m p)
    (hO : H.get go = some (.row [.int .i64 ob, .slice (some ⟨gF, 0, none⟩) m.colS.length m.colS.length, .slice (some ⟨gT, 0, none⟩) m.colT.length m.colT.length, v3, v4] eO true)) (hF : Ints H (some ⟨gF, 0, none⟩) m.colS) (hT : Ints H (some ⟨gT, 0, none⟩) m.colT)
    (hN : H.get gn = some (.row [.int .i64 m.s.obj] eI true)) (hM : H.get gm = some (.row [.int .i64 (m.s.src.length : Int)] eI true)) (hR : H.get gr = some (.row [.int .i64 (m.colN : Int)] eI true)) (hC : H.get gc = some (.row [.pointer (some ⟨gp, 0, none⟩)] eP true)) (hD : H.get gd = some (.row [.pointer (some ⟨gp, 5, none⟩)] eP true))
    (hA : H.get ga = some (.row [.slice aa (m.colQ m.sz.length).length (m.colQ m.sz.length).length] eS true)) (hq : Intss H aa (m.colQ m.sz.length) rq) (hS : m.Shape) (h1 : f < m.colS.length) (h2 : g < m.colS.length) (e : m.colT.getD f 0 = m.colS.getD g 0) :
    GCalls Try.prog 55 [.int .i64 (f : Int), .int .i64 (g : Int), .pointer (some ⟨go, 0, none⟩), .pointer (some ⟨gn, 0, none⟩), .pointer (some ⟨gm, 0, none⟩), .pointer (some ⟨gc, 0, none⟩), .pointer (some ⟨gr, 0, none⟩), .pointer (some ⟨gd, 0, none⟩), .pointer (some ⟨ga, 0, none⟩), .pointer (some ⟨gp, 0, none⟩)] H (Ret (.int .i64 (m.colX f g)) H) := by
  have k1 : H.cell go 1 = some (.slice (some ⟨gF, 0, none⟩) m.colS.length m.colS.length) := by rw [GHeap.cell_of hO]; rfl
  have k2 : H.cell go 2 = some (.slice (some ⟨gT, 0, none⟩) m.colT.length m.colT.length) := by rw [GHeap.cell_of hO]; rfl
  have k3 : H.cell gn 0 = some (.int .i64 m.s.obj) := by rw [GHeap.cell_of hN]; rfl
  have k4 : H.cell gm 0 = some (.int .i64 (m.s.src.length : Int)) := by rw [GHeap.cell_of hM]; rfl
  have k5 : H.cell gr 0 = some (.int .i64 (m.colN : Int)) := by rw [GHeap.cell_of hR]; rfl
  have k6 : H.cell gc 0 = some (.pointer (some ⟨gp, 0, none⟩)) := by rw [GHeap.cell_of hC]; rfl
  have k7 : H.cell gd 0 = some (.pointer (some ⟨gp, 5, none⟩)) := by rw [GHeap.cell_of hD]; rfl
  have k8 : H.cell ga 0 = some (.slice aa (m.colQ m.sz.length).length (m.colQ m.sz.length).length) := by rw [GHeap.cell_of hA]; rfl
  obtain ⟨fsb, ftb, c10b, c11b, c12b, i2b, i3b, i4b⟩ := hp.get
  obtain ⟨y0, y1, y2, y3, y4, j1, j2, j3, j4⟩ := fsb.get
  obtain ⟨z0, z1, z2, z3, z4, l1, l2, l3, l4⟩ := ftb.get
  have hC := hS.cok
  have b1 := hC.s0
  have b2 := hC.s8
  have b3 := hC.t0
  have b4 := hC.t8
  have b5 := hS.s.1.n40
  have b6 := hS.t.1.n40
  have b7 := hC.all
  have b9 : m.colN = m.s.src.length + m.t.src.length := rfl
  have b11 := m.length_colS
  have b12 := hS.length_colT
  have b13 := hS.s.1.tl
  have b14 := hS.t.1.tl
  have hmt := hS.tgtAt (f := g) (by omega)
  have hmb := hS.colT_bd (f := g) (by omega)
  have hsb := hS.srcAt (g := f) (by omega)
  refine GCalls.body (N := 138) (rs := [.tmp 12]) Try.func55 rfl rfl rfl rfl (fun Qx hret hend => ?_)
  refine .forget (fr' := [(0, some _), (1, some _), (2, some _), (3, some _), (4, some _), (5, some _), (6, some _), (7, some _), (8, some _), (9, some _)]) ⟨rfl, rfl, rfl, rfl, rfl, rfl, rfl, rfl, rfl, rfl, trivial⟩ ?_
  refine .seq (fun K1 hK1 => .region (.mv rfl (.nil (hK1 _ _ (.seq (fun K2 hK2 => ?_))))))
  refine .regionD mo_B (.q 0 (.q 1 (.q 2 (.q 3 (.q 4 (.q 5 (.q 6 (.q 7 (.q 8 (.q 9 (.q 10 (.q 11 (.q 12 (.q 13 (.done))))))))))))))) (by kernel_rfl) ?_
  refine .m rfl rfl rfl rfl (.refl _) (.fieldAddr fo_30_1_B rfl) ?_
  refine .m rfl rfl rfl rfl (.refl _) (.load on_22_B rfl (by assumption)) ?_
  refine .mv rfl rfl ?_
  refine .m rfl rfl rfl rfl (.refl _) (.idxN sl_22_A (by assumption) rfl rfl (by omega)) ?_
  refine .m rfl rfl rfl rfl (.refl _) (.loadI on_2_A (by assumption) rfl (by omega)) ?_
  refine .m rfl rfl rfl rfl (.refl _) (.fieldAddr fo_30_2_B rfl) ?_
  refine .m rfl rfl rfl rfl (.refl _) (.load on_22_B rfl (by assumption)) ?_
  refine .mv rfl rfl ?_
  refine .m rfl rfl rfl rfl (.refl _) (.idxN sl_22_A (by assumption) rfl rfl (by omega)) ?_
  refine .m rfl rfl rfl rfl (.refl _) (.loadI on_2_A (by assumption) rfl (by omega)) ?_
  refine .m rfl rfl rfl rfl (.refl _) (.load on_2_A rfl (by assumption)) ?_
  refine .m rfl rfl rfl rfl (.refl _) (.sub rfl rfl rfl (by omega) (by omega)) ?_
  refine .mv rfl rfl (.mv rfl rfl ?_)
  refine .done ?_
  refine hK2 _ _ (.seq (fun K3 hK3 => ?_))
  refine .block ?_
  refine .seq (fun K4 hK4 => .region (.mv rfl ?_))
  refine .m rfl rfl rfl (.load on_2_A rfl (by assumption)) ?_
  refine .m rfl rfl rfl (.cmp rfl rfl rfl) (.mv rfl ?_)
  refine .split (fun h31 => ?_) (fun h31 => ?_)
  ·
   try simp only [sps] at h31
   refine .mg rfl rfl rfl rfl rfl (.move rfl) ?_
   refine .mg rfl rfl rfl rfl rfl (.load on_2_A rfl (by assumption)) ?_
   refine .mg rfl rfl rfl rfl rfl (.cmp rfl rfl rfl) (.m rfl rfl rfl (.pickT rfl rfl) (.mv rfl (.nil (hK4 _ _ ?_))))
   refine .cond rfl (fun h27 => ?_) (fun h27 => ?_)
   ·
    simp only [sps] at h27
    refine .seq (fun K5 hK5 => .region ?_)
    refine .m rfl rfl rfl (.load on_77_F rfl (by assumption)) ?_
    refine .mv rfl (.mv rfl ?_)
    refine .callQ rfl rfl rfl rfl @Try.call56 rfl (then_s (h := fsb) (hS := hS.s.1)) ?_
    refine .mv rfl (.nil (hK5 _ _ ?_))
    refine .ret ?_
    refine hret _ _ ?_
    refine ⟨_, rfl, ?_⟩
    exact .of (congrArg _ (hS.colX_c (f := f) (g := g) (by omega) (by omega)))
   simp only [sps] at h27
   refine .seq (fun K6 hK6 => .region (.mv rfl ?_))
   refine .m rfl rfl rfl (.load on_2_A rfl (by assumption)) ?_
   refine .m rfl rfl rfl (.load on_2_A rfl (by assumption)) ?_
   refine .m rfl rfl rfl (.sub rfl rfl rfl (by omega) (by omega)) ?_
   refine .callQ rfl rfl rfl rfl @Try.call57 rfl (inRange_c) ?_
   refine .mv rfl (.nil (hK6 _ _ ?_))
   refine .cond rfl (fun h40 => ?_) (fun h40 => ?_)
   ·
    exfalso; simp only [sps, inR_iff] at h40; omega
   simp only [sps, inR_iff] at h40
   refine .seq (fun K7 hK7 => .region (.mv rfl ?_))
   refine .m rfl rfl rfl (.load on_2_A rfl (by assumption)) ?_
   refine .m rfl rfl rfl (.cmp rfl rfl rfl) (.mv rfl (.nil (hK7 _ _ ?_)))
   refine .cond rfl (fun h56 => ?_) (fun h56 => ?_)
   ·
    simp only [sps] at h56
    have hB : m.ColB f g := by
      rcases hS.meet (f := f) (g := g) (by omega) (by omega) e with ⟨_, q⟩ | ⟨q, _⟩ | ⟨_, _, q⟩ | ⟨q, _⟩ <;> first | exact q | omega
    have hgN : m.colN ≤ g := by
      rcases hS.meet (f := f) (g := g) (by omega) (by omega) e with ⟨_, q⟩ | ⟨q, _⟩ | ⟨_, q, _⟩ | ⟨q, _⟩ <;> first | exact q | omega
    obtain ⟨k1, k2', k3', k4', k5', k6', k7', k8', k9, k10, k11, k12, k13, k14, k15, k16, k17, k18, k19⟩ := id hB
    have qx := hC.q (x := m.s.src.getD f 0) (y := (m.colR g).getD 1 0) k11 k12 k5' k6'
    have qy := hC.q (x := m.s.tgt.getD f 0) (y := (m.colR g).getD 1 0) k13 k14 k5' k6'
    have w8 := hq.2 (m.s.src.getD f 0).toNat (by omega)
    have w9 := hq.2 (m.s.tgt.getD f 0).toNat (by omega)
    have v3 := i3b.2 f k8'
    have w3 := v3.2 ((m.colR g).getD 1 0).toNat k9
    have hbv : ((m.be.getD f []).getD ((m.colR g).getD 1 0).toNat []).getD ((m.colR g).getD 2 0).toNat 0 = m.colB f g := rfl
    refine .seq (fun K8 hK8 => ?_)
    refine .regionD mo_B (.q 0 (.q 1 (.q 2 (.q 3 (.q 4 (.q 5 (.q 6 (.q 7 (.q 8 (.q 9 (.q 10 (.q 11 (.q 12 (.q 13 (.q 14 (.q 15 (.q 16 (.q 17 (.q 18 (.q 19 (.q 20 (.q 21 (.q 22 (.q 23 (.q 24 (.q 25 (.q 26 (.q 27 (.q 28 (.q 29 (.q 30 (.q 31 (.q 32 (.q 33 (.q 34 (.q 35 (.q 36 (.q 37 (.done))))))))))))))))))))))))))))))))))))))) (by kernel_rfl) ?_
    rw [k2', show m.colT.getD g 0 - m.s.obj = (m.colR g).getD 1 0 by omega]
    refine .m rfl rfl rfl rfl (.refl _) (.load on_2_A rfl (by assumption)) ?_
    refine .m rfl rfl rfl rfl (.refl _) (.load on_23_B rfl (by assumption)) ?_
    refine .mv rfl rfl ?_
    refine .m rfl rfl rfl rfl (.refl _) (.idx1 sl_23_B (Intss.sl (by assumption)) rfl rfl (by omega) (by omega)) ?_
    refine .m rfl rfl rfl rfl (.refl _) (.loadR on_22_B (by assumption) rfl (by omega)) ?_
    refine .mv rfl rfl ?_
    refine .m rfl rfl rfl rfl (.refl _) (.idx1 sl_22_A (by assumption) rfl rfl (by omega) (by omega)) ?_
    refine .m rfl rfl rfl rfl (.refl _) (.loadI on_2_A (by assumption) rfl (by omega)) ?_
    refine .m rfl rfl rfl rfl (.refl _) (.add rfl rfl rfl (by omega) (by omega)) ?_
    refine .m rfl rfl rfl rfl (.refl _) (.fieldAddr fo_34_3_VProf rfl) ?_
    refine .m rfl rfl rfl rfl (.refl _) (.load on_26_VProf rfl (by assumption)) ?_
    refine .mv rfl rfl ?_
    refine .m rfl rfl rfl rfl (.refl _) (.idxN sl_26_VZ (Intsss.sl (by assumption)) rfl rfl (by omega)) ?_
    refine .m rfl rfl rfl rfl (.refl _) (.loadRR on_23_B (by assumption) rfl (by omega)) ?_
    refine .mv rfl rfl ?_
    refine .m rfl rfl rfl rfl (.refl _) (.idx1 sl_23_B (Intss.sl (by assumption)) rfl rfl (by omega) (by omega)) ?_
    refine .m rfl rfl rfl rfl (.refl _) (.loadR on_22_B (by assumption) rfl (by omega)) ?_
    refine .mv rfl rfl ?_
    refine .m rfl rfl rfl rfl (.refl _) (.load on_2_A rfl (by assumption)) ?_
    refine .m rfl rfl rfl rfl (.refl _) (.sub rfl rfl rfl (by omega) (by omega)) ?_
    refine .m rfl rfl rfl rfl (.refl _) (.load on_23_B rfl (by assumption)) ?_
    refine .m rfl rfl rfl rfl (.refl _) (.load on_77_F rfl (by assumption)) ?_
    refine .m rfl rfl rfl rfl (.refl _) (.nilCheck rfl) (.m rfl rfl rfl rfl (.refl _) (.fieldAddr fo_30_2_B rfl) ?_)
    refine .m rfl rfl rfl rfl (.refl _) (.load on_22_B rfl (by assumption)) ?_
    refine .mv rfl rfl ?_
    refine .m rfl rfl rfl rfl (.refl _) (.idxN sl_22_A (by assumption) rfl rfl (by omega)) ?_
    refine .m rfl rfl rfl rfl (.refl _) (.loadI on_2_A (by assumption) rfl (by omega)) ?_
    refine .m rfl rfl rfl rfl (.refl _) (.idx1 sl_23_B (Intss.sl (by assumption)) rfl rfl (by omega) (by omega)) ?_
    refine .m rfl rfl rfl rfl (.refl _) (.loadR on_22_B (by assumption) rfl (by omega)) ?_
    refine .mv rfl rfl ?_
    refine .m rfl rfl rfl rfl (.refl _) (.idx1 sl_22_A (by assumption) rfl rfl (by omega) (by omega)) ?_
    refine .m rfl rfl rfl rfl (.refl _) (.loadI on_2_A (by assumption) rfl (by omega)) ?_
    refine .m rfl rfl rfl rfl (.refl _) (.sub rfl rfl rfl (by omega) (by omega)) ?_
    rw [qy.2.2.1, k15]
    refine .m rfl rfl rfl rfl (.refl _) (.idx1 sl_22_A (by assumption) rfl rfl (by omega) (by omega)) ?_
    refine .m rfl rfl rfl rfl (.refl _) (.loadI on_2_A (by assumption) rfl (by omega)) ?_
    refine .m rfl rfl rfl rfl (.refl _) (.add rfl rfl rfl (by omega) (by omega)) ?_
    refine .mv rfl rfl ?_
    refine .done ?_
    refine hK8 _ _ ?_
    refine .ret ?_
    refine hret _ _ ?_
    refine ⟨_, rfl, ?_⟩
    exact .of (congrArg _ (by rw [Prof.colX_b (by omega) (by omega), k16, qx.2.2.1]; unfold Prof.colB; omega))
   exfalso; simp only [sps] at h56; omega
  try simp only [sps] at h31
  refine .sg rfl rfl rfl rfl rfl (.sg rfl rfl rfl rfl rfl (.sg rfl rfl rfl rfl rfl (.m rfl rfl rfl (.pickF rfl rfl) (.mv rfl (.nil (hK4 _ _ ?_))))))
  refine .condF rfl ?_
  refine .seq (fun K9 hK9 => .region (.mv rfl ?_))
  refine .m rfl rfl rfl (.load on_2_A rfl (by assumption)) ?_
  refine .m rfl rfl rfl (.load on_2_A rfl (by assumption)) ?_
  refine .m rfl rfl rfl (.sub rfl rfl rfl (by omega) (by omega)) ?_
  refine .callQ rfl rfl rfl rfl @Try.call57 rfl (inRange_c) ?_
  refine .mv rfl (.nil (hK9 _ _ ?_))
  refine .cond rfl (fun h40 => ?_) (fun h40 => ?_)
  ·
   simp only [sps, inR_iff] at h40
   have hgd : m.s.src.length ≤ g ∧ g < m.colN := by
     rcases hS.meet (f := f) (g := g) (by omega) (by omega) e with ⟨q, _⟩ | ⟨_, _, q⟩ | ⟨q, _⟩ | ⟨q, _⟩ <;> first | exact q | omega
   have hd := hS.colX_d (f := f) (g := g) (by omega) (by omega) hgd.1 hgd.2 e
   have e3 : m.t.th ((f : Int) - (m.s.src.length : Int)) ((g : Int) - (m.s.src.length : Int)) = (m.t.comp.getD (f - m.s.src.length) []).getD (g - m.s.src.length) 0 := by unfold Cat.th; rw [show ((f : Int) - (m.s.src.length : Int)).toNat = f - m.s.src.length by omega, show ((g : Int) - (m.s.src.length : Int)).toNat = g - m.s.src.length by omega]
   refine .seq (fun K10 hK10 => ?_)
   refine .regionD mo_B (.q 0 (.q 1 (.q 2 (.q 3 (.q 4 (.q 5 (.q 6 (.q 7 (.c 8 1 (.q 9 (.q 10 (.done)))))))))))) (by kernel_rfl) ?_
   refine .m rfl rfl rfl rfl (.refl _) (.load on_2_A rfl (by assumption)) ?_
   refine .m rfl rfl rfl rfl (.refl _) (.load on_77_F rfl (by assumption)) ?_
   refine .mv rfl rfl ?_
   refine .m rfl rfl rfl rfl (.refl _) (.load on_2_A rfl (by assumption)) ?_
   refine .m rfl rfl rfl rfl (.refl _) (.sub rfl rfl rfl (by omega) (by omega)) ?_
   refine .mv rfl rfl ?_
   refine .m rfl rfl rfl rfl (.refl _) (.load on_2_A rfl (by assumption)) ?_
   refine .m rfl rfl rfl rfl (.refl _) (.sub rfl rfl rfl (by omega) (by omega)) ?_
   refine .callQ1 rfl rfl rfl rfl rfl @Try.call56 rfl (then_s (h := ftb) (hS := hS.t.1)) (.refl _) ?_
   refine .m rfl rfl rfl rfl (.refl _) (.add rfl rfl rfl (by omega) (by omega)) ?_
   refine .mv rfl rfl ?_
   refine .done ?_
   refine hK10 _ _ ?_
   refine .ret ?_
   refine hret _ _ ?_
   refine ⟨_, rfl, ?_⟩
   exact .of (congrArg _ (by rw [e3, hd.1]))
  simp only [sps, inR_iff] at h40
  refine .seq (fun K11 hK11 => .region (.mv rfl ?_))
  refine .m rfl rfl rfl (.load on_2_A rfl (by assumption)) ?_
  refine .m rfl rfl rfl (.cmp rfl rfl rfl) (.mv rfl (.nil (hK11 _ _ ?_)))
  refine .cond rfl (fun h56 => ?_) (fun h56 => ?_)
  ·
   exfalso; simp only [sps] at h56; omega
  simp only [sps] at h56
  have hH := hS.meetH (f := f) (g := g) (by omega) (by omega) (by omega) e
  obtain ⟨k1, k2', k3', k4', k5', k6', k7', k8', k9, k10, k11, k12, k13, k14, k15, k16, k17, k18, k19, k20⟩ := id hH
  have qx := hC.q (x := (m.colR f).getD 0 0) (y := m.t.tgt.getD (g - m.s.src.length) 0) k6' k7' k14 k15
  have qy := hC.q (x := (m.colR f).getD 0 0) (y := m.t.src.getD (g - m.s.src.length) 0) k6' k7' k12 k13
  have w8 := hq.2 ((m.colR f).getD 0 0).toNat (by omega)
  have v4 := i4b.2 (g - m.s.src.length) k9
  have w4 := v4.2 ((m.colR f).getD 0 0).toNat k10
  have hbv : ((m.bh.getD (g - m.s.src.length) []).getD ((m.colR f).getD 0 0).toNat []).getD ((m.colR f).getD 2 0).toNat 0 = m.colH f g := rfl
  refine .skip ?_
  refine hK3 _ _ (.seq (fun K12 hK12 => ?_))
  refine .regionD mo_B (.q 0 (.q 1 (.q 2 (.q 3 (.q 4 (.q 5 (.q 6 (.q 7 (.q 8 (.q 9 (.q 10 (.q 11 (.q 12 (.q 13 (.q 14 (.q 15 (.q 16 (.q 17 (.q 18 (.q 19 (.q 20 (.q 21 (.q 22 (.q 23 (.q 24 (.q 25 (.q 26 (.q 27 (.q 28 (.q 29 (.q 30 (.q 31 (.q 32 (.q 33 (.q 34 (.q 35 (.q 36 (.q 37 (.q 38 (.q 39 (.q 40 (.q 41 (.done))))))))))))))))))))))))))))))))))))))))))) (by kernel_rfl) ?_
  rw [k3', k4']
  refine .m rfl rfl rfl rfl (.refl _) (.load on_2_A rfl (by assumption)) ?_
  refine .m rfl rfl rfl rfl (.refl _) (.load on_23_B rfl (by assumption)) ?_
  refine .mv rfl rfl ?_
  refine .m rfl rfl rfl rfl (.refl _) (.idx1 sl_23_B (Intss.sl (by assumption)) rfl rfl (by omega) (by omega)) ?_
  refine .m rfl rfl rfl rfl (.refl _) (.loadR on_22_B (by assumption) rfl (by omega)) ?_
  refine .mv rfl rfl ?_
  refine .m rfl rfl rfl rfl (.refl _) (.idx1 sl_22_A (by assumption) rfl rfl (by omega) (by omega)) ?_
  refine .m rfl rfl rfl rfl (.refl _) (.loadI on_2_A (by assumption) rfl (by omega)) ?_
  refine .m rfl rfl rfl rfl (.refl _) (.add rfl rfl rfl (by omega) (by omega)) ?_
  refine .m rfl rfl rfl rfl (.refl _) (.fieldAddr fo_34_4_VProf rfl) ?_
  refine .m rfl rfl rfl rfl (.refl _) (.load on_26_VProf rfl (by assumption)) ?_
  refine .mv rfl rfl ?_
  refine .m rfl rfl rfl rfl (.refl _) (.load on_2_A rfl (by assumption)) ?_
  refine .m rfl rfl rfl rfl (.refl _) (.sub rfl rfl rfl (by omega) (by omega)) ?_
  rw [show (g : Int) - (m.s.src.length : Int) = ((g - m.s.src.length : Nat) : Int) by omega]
  refine .m rfl rfl rfl rfl (.refl _) (.idxN sl_26_VZ (Intsss.sl (by assumption)) rfl rfl (by omega)) ?_
  refine .m rfl rfl rfl rfl (.refl _) (.loadRR on_23_B (by assumption) rfl (by omega)) ?_
  refine .mv rfl rfl ?_
  refine .m rfl rfl rfl rfl (.refl _) (.idx1 sl_23_B (Intss.sl (by assumption)) rfl rfl (by omega) (by omega)) ?_
  refine .m rfl rfl rfl rfl (.refl _) (.loadR on_22_B (by assumption) rfl (by omega)) ?_
  refine .mv rfl rfl ?_
  refine .m rfl rfl rfl rfl (.refl _) (.load on_2_A rfl (by assumption)) ?_
  refine .m rfl rfl rfl rfl (.refl _) (.sub rfl rfl rfl (by omega) (by omega)) ?_
  refine .m rfl rfl rfl rfl (.refl _) (.load on_23_B rfl (by assumption)) ?_
  refine .mv rfl rfl ?_
  refine .m rfl rfl rfl rfl (.refl _) (.idx1 sl_23_B (Intss.sl (by assumption)) rfl rfl (by omega) (by omega)) ?_
  refine .m rfl rfl rfl rfl (.refl _) (.loadR on_22_B (by assumption) rfl (by omega)) ?_
  refine .m rfl rfl rfl rfl (.refl _) (.load on_77_F rfl (by assumption)) ?_
  refine .m rfl rfl rfl rfl (.refl _) (.nilCheck rfl) (.m rfl rfl rfl rfl (.refl _) (.fieldAddr fo_30_1_B rfl) ?_)
  refine .m rfl rfl rfl rfl (.refl _) (.load on_22_B rfl (by assumption)) ?_
  refine .mv rfl rfl ?_
  refine .m rfl rfl rfl rfl (.refl _) (.load on_2_A rfl (by assumption)) ?_
  refine .m rfl rfl rfl rfl (.refl _) (.sub rfl rfl rfl (by omega) (by omega)) ?_
  rw [show (g : Int) - (m.s.src.length : Int) = ((g - m.s.src.length : Nat) : Int) by omega]
  refine .m rfl rfl rfl rfl (.refl _) (.idxN sl_22_A (by assumption) rfl rfl (by omega)) ?_
  refine .m rfl rfl rfl rfl (.refl _) (.loadI on_2_A (by assumption) rfl (by omega)) ?_
  refine .m rfl rfl rfl rfl (.refl _) (.idx1 sl_22_A (by assumption) rfl rfl (by omega) (by omega)) ?_
  refine .m rfl rfl rfl rfl (.refl _) (.loadI on_2_A (by assumption) rfl (by omega)) ?_
  refine .m rfl rfl rfl rfl (.refl _) (.sub rfl rfl rfl (by omega) (by omega)) ?_
  rw [qy.2.2.1, k16]
  refine .m rfl rfl rfl rfl (.refl _) (.idx1 sl_22_A (by assumption) rfl rfl (by omega) (by omega)) ?_
  refine .m rfl rfl rfl rfl (.refl _) (.loadI on_2_A (by assumption) rfl (by omega)) ?_
  refine .m rfl rfl rfl rfl (.refl _) (.add rfl rfl rfl (by omega) (by omega)) ?_
  refine .mv rfl rfl ?_
  refine .done ?_
  refine hK12 _ _ ?_
  refine .ret ?_
  refine hret _ _ ?_
  refine ⟨_, rfl, ?_⟩
  exact .of (congrArg _ (by rw [Prof.colX_h (by omega), k17, qx.2.2.1]; unfold Prof.colH; omega))
end Go.Proofs.Ytdjodpdmbklfhaa
