/- The sum of two categories. No condition but those of each statement. -/
import Derived.Test.YtjdedelneppnlaaZ7
namespace Go.Proofs.Ytjdedelneppnlaa
open Go Go.GL Go.RowKit Go.Proofs
theorem sz_2_Ch : (Try.prog.info? 2).map (·.size) = some 1 := by kernel_rfl
theorem sz_22_Ch : (Try.prog.info? 22).map (·.size) = some 1 := by kernel_rfl
theorem sz_23_Ch : (Try.prog.info? 23).map (·.size) = some 1 := by kernel_rfl
set_option maxHeartbeats 8000000 in
theorem l03Sum_c {c d : Cat} {p q : CatP} {N : Nat} {H : GHeap} (hin : c.In H p := by assumption) (hin1 : d.In H q := by assumption) (hc : c.Rect N) (hd : d.Rect N) (hN : N ≤ 100000) :
    GCalls Try.prog 139 [.agg (c.cells p).toArray, .agg (d.cells q).toArray] H (NewCatO 2 22 H (c.sum d)) := by
  obtain ⟨a1, a2, a3, -, -, a6, -, a8, a9, -⟩ := id hc
  obtain ⟨b1, b2, b3, b4, b5, b6, b7, b8, b9, b10⟩ := id hd
  refine GCalls.body (N := 142) (rs := [.cell 4 29]) Try.func139 rfl rfl rfl rfl (fun Qx hret hend => ?_)
  refine .fg [0, 1] rfl ?_
  have hle := GHeap.Le.refl H
  have base_hin := hin
  have base_hin1 := hin1
  refine .seq (fun K1 hK1 => .region ?_)
  refine .R rfl (.boxR rfl sz_29_D rfl) ?_
  rintro _ H2 ⟨g2, rfl, le2, ge2, at2⟩
  replace hle := hle.trans le2
  have lt_at2 := GHeap.ltg at2
  replace hin := base_hin.mono hle
  have hb2 : Cat.At _ g2 0 c p := ⟨Mem.of_get at2, hin⟩
  refine .R rfl (.boxR rfl sz_29_D rfl) ?_
  rintro _ H3 ⟨g3, rfl, le3, ge3, at3⟩
  replace hle := hle.trans le3
  replace at2 := le3.2 _ _ at2
  have lt_at3 := GHeap.ltg at3
  replace hin := base_hin.mono hle
  replace hin1 := base_hin1.mono hle
  clear hb2
  have hb2 : Cat.At _ g2 0 c p := ⟨Mem.of_get at2, hin⟩
  have hb3 : Cat.At _ g3 0 d q := ⟨Mem.of_get at3, hin1⟩
  refine .R rfl (.allocR rfl ze_29_Hj rfl) ?_
  rintro _ H4 ⟨g4, rfl, le4, ge4, at4⟩
  have nx_H4 := le4.1
  replace hle := hle.trans le4
  replace at2 := le4.2 _ _ at2
  replace at3 := le4.2 _ _ at3
  have lt_at4 := GHeap.ltg at4
  replace hin := base_hin.mono hle
  replace hin1 := base_hin1.mono hle
  clear hb2
  have hb2 : Cat.At _ g2 0 c p := ⟨Mem.of_get at2, hin⟩
  obtain ⟨c02, c12, -, -, -, -, -, -, -⟩ := hb2.get
  have hi2 := hb2.2
  clear hb3
  have hb3 : Cat.At _ g3 0 d q := ⟨Mem.of_get at3, hin1⟩
  refine .nil (hK1 _ _ (.seq (fun K2 hK2 => ?_)))
  refine .regionD mo_B (.q 0 (.q 1 (.q 2 (.q 3 (.q 4 (.q 5 (.q 6 (.done)))))))) (by kernel_rfl) ?_
  refine .q rfl (.fieldAddr fo_29_0_B rfl) ?_
  refine .q rfl (.load on_2_A rfl (by first | assumption | exact Mem.of_get at2 0 _ rfl)) ?_
  refine .q rfl (.fieldAddr fo_29_1_B rfl) ?_
  refine .q rfl (.load on_22_B rfl (by first | assumption | exact Mem.of_get at2 1 _ rfl)) ?_
  refine .q rfl (.len sl_22_A rfl) (.mv rfl rfl (.mv rfl rfl ?_))
  refine .done ?_
  refine hK2 _ _ (.seq (fun K3 hK3 => .region ?_))
  refine .q rfl (.loadM ag_29_D rfl ⟨rfl, Mem.of_get at2⟩) ?_
  refine .call rfl rfl rfl rfl @Try.call142 rfl (l02OwnO_c (hs := hc.small (by omega))) ?_
  rintro _ H22 ⟨le22, gF, gT, gI, gC, rr, rfl, v22⟩
  have aF := v22.a1
  have aT := v22.a2
  have aI := v22.a3
  have aC := v22.a4
  have bF := v22.b1
  have bT := v22.b2
  have bI := v22.b3
  have bC := v22.b4
  have n12 := v22.n12
  have n13 := v22.n13
  have n23 := v22.n23
  have n4 := row_ne aC aF rfl
  have n5 := row_ne aC aT rfl
  have n6 := row_ne aC aI rfl
  have rk := St.refl [gI] H22
  replace hle := hle.trans le22
  replace at2 := le22.2 _ _ at2
  replace at3 := le22.2 _ _ at3
  replace at4 := le22.2 _ _ at4
  have lt_aF := GHeap.ltg aF
  have lt_aT := GHeap.ltg aT
  have lt_aI := GHeap.ltg aI
  have lt_aC := GHeap.ltg aC
  replace hin := base_hin.mono hle
  replace hin1 := base_hin1.mono hle
  clear hb2 c02 c12 hi2
  have hb2 : Cat.At _ g2 0 c p := ⟨Mem.of_get at2, hin⟩
  clear hb3
  have hb3 : Cat.At _ g3 0 d q := ⟨Mem.of_get at3, hin1⟩
  refine .R rfl (.allocR rfl ze_29_Hj rfl) ?_
  rintro _ H7 ⟨g7, rfl, le7, ge7, at7⟩
  have nx_H7 := le7.1
  replace hle := hle.trans le7
  replace rk := rk.le le7
  replace at2 := le7.2 _ _ at2
  replace at3 := le7.2 _ _ at3
  replace at4 := le7.2 _ _ at4
  replace aF := le7.2 _ _ aF
  replace aT := le7.2 _ _ aT
  replace aI := le7.2 _ _ aI
  replace aC := le7.2 _ _ aC
  replace hin := base_hin.mono hle
  replace hin1 := base_hin1.mono hle
  clear hb2
  have hb2 : Cat.At _ g2 0 c p := ⟨Mem.of_get at2, hin⟩
  clear hb3
  have hb3 : Cat.At _ g3 0 d q := ⟨Mem.of_get at3, hin1⟩
  refine .r0 rfl rfl (.fillA rfl sz_29_D rfl rfl rfl rfl) ?_
  rintro _ H2003 ⟨rfl, st2003, at2003⟩
  have nx_H2003 := st2003.nx
  replace hle := hle.st st2003 (fun k hk => ⟨by omega, trivial⟩)
  replace rk := rk.sA st2003
  have ne_g2_g7 : NE g2 g7 := .a
  replace at2 := st2003.s at2 ne_g2_g7.ne
  have ne_g3_g7 : NE g3 g7 := .a
  replace at3 := st2003.s at3 ne_g3_g7.ne
  have ne_g4_g7 : NE g4 g7 := .a
  replace at4 := st2003.s at4 ne_g4_g7.ne
  have ne_gF_g7 : NE gF g7 := .a
  replace aF := st2003.s aF ne_gF_g7.ne
  have ne_gT_g7 : NE gT g7 := .a
  replace aT := st2003.s aT ne_gT_g7.ne
  have ne_gI_g7 : NE gI g7 := .a
  replace aI := st2003.s aI ne_gI_g7.ne
  have ne_gC_g7 : NE gC g7 := .a
  replace aC := st2003.s aC ne_gC_g7.ne
  replace hin := base_hin.mono hle
  replace hin1 := base_hin1.mono hle
  clear hb2
  have hb2 : Cat.At _ g2 0 c p := ⟨Mem.of_get at2, hin⟩
  clear hb3
  have hb3 : Cat.At _ g3 0 d q := ⟨Mem.of_get at3, hin1⟩
  obtain ⟨c03, -, -, -, -, -, -, -, -⟩ := hb3.get
  refine .nil (hK3 _ _ (.seq (fun K4 hK4 => .region (.mv rfl (.q rfl (.fieldAddr fo_29_0_B rfl) ?_)))))
  refine .q rfl (.load on_2_A rfl (by first | assumption | exact Mem.of_get at3 0 _ rfl)) ?_
  refine .q rfl (.add rfl rfl rfl (by omega) (by omega)) ?_
  refine .q rfl (.fieldAddr fo_29_0_B rfl) ?_
  refine .r0 rfl rfl (.storeR rfl sz_2_Ch rfl rfl rfl (by assumption) (by first | exact Nat.le_of_ble_eq_true rfl | (simp; done) | (simp <;> omega))) ?_
  rintro _ H3005 ⟨rfl, st3005, at3005⟩
  have nx_H3005 := st3005.nx
  replace hle := hle.st st3005 (fun k hk => ⟨by omega, trivial⟩)
  replace rk := rk.sA st3005
  replace at2 := st3005.s at2 ne_g2_g7.ne
  replace at3 := st3005.s at3 ne_g3_g7.ne
  replace at4 := st3005.s at4 ne_g4_g7.ne
  replace aF := st3005.s aF ne_gF_g7.ne
  replace aT := st3005.s aT ne_gT_g7.ne
  replace aI := st3005.s aI ne_gI_g7.ne
  replace aC := st3005.s aC ne_gC_g7.ne
  have lt_at3005 := GHeap.ltg at3005
  replace hin := base_hin.mono hle
  replace hin1 := base_hin1.mono hle
  clear hb2
  have hb2 : Cat.At _ g2 0 c p := ⟨Mem.of_get at2, hin⟩
  clear hb3 c03
  have hb3 : Cat.At _ g3 0 d q := ⟨Mem.of_get at3, hin1⟩
  try simp only [Nat.zero_add, List.set_cons_succ, List.set_cons_zero] at at3005
  refine .nil (hK4 _ _ (.seq (fun K5 hK5 => .seq (fun K6 hK6 => .region (.mv rfl (.nil (hK6 _ _ ?_)))))))
  refine .block ?_
  refine .loopR (σ := Nat × Nat) [(3, some _), (4, some _), (5, some _), (6, some _), (7, some _)] (fun (y, gLI) => [(8, some (.int .i64 (y : Int)))]) (fun (y, gLI) H' => St [gI, g7] H3005 H' ∧ H'.get gLI = some (.row (ints (c.idn ++ (d.idn.take y).map (· + (c.src.length : Int)))) 2 true) ∧ PL gLI gI H3005.next ∧ H'.get g7 = some (.row ([.int .i64 (c.obj + d.obj), .slice (some ⟨gF, 0, none⟩) c.src.length c.src.length, .slice (some ⟨gT, 0, none⟩) c.tgt.length c.tgt.length, .slice (some ⟨gLI, 0, none⟩) (c.idn.length + y) (c.idn.length + y), .slice (some ⟨gC, 0, none⟩) c.comp.length c.comp.length]) 29 true) ∧ gLI ≠ g7 ∧ (y : Int) ≤ d.obj) (fun (y, gLI) => (d.obj - y : Int).toNat) ((0, gI)) ⟨rfl, rfl, rfl, rfl, rfl, trivial⟩ ⟨rfl, trivial⟩ ?_ ?_
  ·
   refine ⟨.refl _ _, by simpa using aI, ⟨.inl rfl⟩, by assumption, by omega, ?_⟩
   omega
  rintro ⟨y, gLI⟩ HL1 ⟨lst1, at_LI, pl_LI, at_Lg7, ap1_0, hI⟩ KL1 hKL1
  refine .forget (fr' := [(8, some (.int .i64 (y : Int))), (3, some _), (4, some _), (5, some _), (6, some _), (7, some _)]) ⟨rfl, rfl, rfl, rfl, rfl, rfl, trivial⟩ ?_
  have ge_LI : H.next ≤ gLI := pl_LI.ge (by omega) (by omega)
  have nx_HL1 := lst1.nx
  replace hle := hle.st lst1 (fun k hk => ⟨by omega, by omega, trivial⟩)
  replace rk := rk.st lst1 (fun k hk ho => by simp only [out, and_true] at ho ⊢ <;> exact ⟨by first | exact ho | exact ho.1 | exact ho.2 | exact ho.2.1 | exact ho.2.2 | exact ho.2.2.1 | exact ho.2.2.2 | omega, by first | exact ho | exact ho.1 | exact ho.2 | exact ho.2.1 | exact ho.2.2 | exact ho.2.2.1 | exact ho.2.2.2 | omega⟩)
  have ne_g2_gI : NE g2 gI := .a
  replace at2 := lst1.same _ _ ⟨ne_g2_gI.ne, ne_g2_g7.ne, trivial⟩ at2
  have ne_g3_gI : NE g3 gI := .a
  replace at3 := lst1.same _ _ ⟨ne_g3_gI.ne, ne_g3_g7.ne, trivial⟩ at3
  replace at4 := lst1.same _ _ ⟨(by first | assumption | omega), ne_g4_g7.ne, trivial⟩ at4
  replace aF := lst1.same _ _ ⟨(by first | assumption | omega), ne_gF_g7.ne, trivial⟩ aF
  replace aT := lst1.same _ _ ⟨(by first | assumption | omega), ne_gT_g7.ne, trivial⟩ aT
  replace aC := lst1.same _ _ ⟨(by first | assumption | omega), ne_gC_g7.ne, trivial⟩ aC
  have lt_at_Lg7 := GHeap.ltg at_Lg7
  replace hin := base_hin.mono hle
  replace hin1 := base_hin1.mono hle
  clear hb2
  have hb2 : Cat.At _ g2 0 c p := ⟨Mem.of_get at2, hin⟩
  clear hb3
  have hb3 : Cat.At _ g3 0 d q := ⟨Mem.of_get at3, hin1⟩
  obtain ⟨c03, -, -, c33, -, -, -, i33, -⟩ := hb3.get
  have hfl : (c.idn ++ (d.idn.take y).map (· + (c.src.length : Int))).length = c.idn.length + y := by simp; omega
  refine .seq (fun K7 hK7 => .seq (fun K8 hK8 => .region (.mv rfl (.q rfl (.fieldAddr fo_29_0_B rfl) ?_))))
  refine .q rfl (.load on_2_A rfl (by first | assumption | exact Mem.of_get at3 0 _ rfl)) ?_
  refine .q rfl (.cmp rfl rfl rfl) (.nil (hK8 _ _ ?_))
  refine .cond rfl (fun h31 => ?_) (fun h31 => ?_)
  ·
   simp only [sps] at h31
   have r1 := b7 y (by omega)
   refine .skip ?_
   refine hK7 _ _ (.seq (fun K9 hK9 => ?_))
   refine .block ?_
   refine .regionD mo_B (.q 0 (.q 1 (.q 2 (.q 3 (.q 4 (.q 5 (.q 6 (.q 7 (.q 8 (.c 9 1 (.c 10 0 (.q 11 (.c 12 0 (.done)))))))))))))) (by kernel_rfl) ?_
   refine .q rfl (.fieldAddr fo_29_3_B rfl) ?_
   refine .q rfl (.load on_22_B rfl (by first | assumption | exact Mem.of_get at_Lg7 3 _ rfl)) ?_
   refine .q rfl (.fieldAddr fo_29_3_B rfl) ?_
   refine .q rfl (.load on_22_B rfl (by first | assumption | exact Mem.of_get at3 3 _ rfl)) ?_
   refine .mv rfl rfl ?_
   refine .q rfl (.idxN sl_22_A (by assumption) rfl rfl (by omega)) ?_
   refine .q rfl (.loadI on_2_A (by assumption) rfl (by omega)) ?_
   refine .mv rfl rfl ?_
   refine .q rfl (.add rfl rfl rfl (by omega) (by omega)) ?_
   refine .c1 rfl rfl rfl rfl (.litA rfl sl_22_A ze_2_L rfl rfl rfl rfl) ?_
   rintro _ H43 ⟨g43, rfl, le43, ge43, at43⟩
   have hbl := le43
   refine ⟨hbl, ?_⟩
   replace hle := hle.trans le43
   replace lst1 := lst1.le le43
   replace at2 := le43.2 _ _ at2
   replace at3 := le43.2 _ _ at3
   replace at_LI := le43.2 _ _ at_LI
   replace at_Lg7 := le43.2 _ _ at_Lg7
   have lt_at43 := GHeap.ltg at43
   replace hin := base_hin.mono hle
   replace hin1 := base_hin1.mono hle
   clear hb2
   have hb2 : Cat.At _ g2 0 c p := ⟨Mem.of_get at2, hin⟩
   clear hb3 c03 c33 i33
   have hb3 : Cat.At _ g3 0 d q := ⟨Mem.of_get at3, hin1⟩
   refine .c0 rfl rfl rfl rfl (.appendI rfl sl_22_A ze_2_L rfl by_2_L sl_22_A rfl rfl (by assumption) (by assumption) (by first | omega | (simp <;> omega)) (by omega) (by omega)) ?_
   rintro _ H44 ⟨g44, rfl, st44, ge44, at44⟩
   replace hle := hle.st st44 (fun k hk => ⟨by omega, trivial⟩)
   replace lst1 := lst1.sP st44
   replace at2 := st44.same _ _ ⟨(pl_LI.ne ne_g2_gI.ne (by omega)), trivial⟩ at2
   replace at3 := st44.same _ _ ⟨(pl_LI.ne ne_g3_gI.ne (by omega)), trivial⟩ at3
   replace at_Lg7 := st44.same _ _ ⟨(Ne.symm ap1_0), trivial⟩ at_Lg7
   replace hin := base_hin.mono hle
   replace hin1 := base_hin1.mono hle
   clear hb2
   have hb2 : Cat.At _ g2 0 c p := ⟨Mem.of_get at2, hin⟩
   clear hb3
   have hb3 : Cat.At _ g3 0 d q := ⟨Mem.of_get at3, hin1⟩
   refine .q rfl (.fieldAddr fo_29_3_B rfl) ?_
   refine .r0 rfl rfl rfl (.storeR rfl sz_22_Ch rfl rfl rfl (by assumption) (by first | exact Nat.le_of_ble_eq_true rfl | (simp; done) | (simp <;> omega))) ?_
   rintro _ H7012 ⟨rfl, st7012, at7012⟩
   replace hle := hle.st st7012 (fun k hk => ⟨by omega, trivial⟩)
   replace lst1 := lst1.sA st7012
   replace at2 := st7012.s at2 ne_g2_g7.ne
   replace at3 := st7012.s at3 ne_g3_g7.ne
   replace at44 := st7012.s at44
   replace hin := base_hin.mono hle
   replace hin1 := base_hin1.mono hle
   clear hb2
   have hb2 : Cat.At _ g2 0 c p := ⟨Mem.of_get at2, hin⟩
   clear hb3
   have hb3 : Cat.At _ g3 0 d q := ⟨Mem.of_get at3, hin1⟩
   try simp only [Nat.zero_add, List.set_cons_succ, List.set_cons_zero] at at7012
   refine .done ?_
   refine hK9 _ _ (.region (.mv rfl ?_))
   refine .q rfl (.add rfl rfl rfl (by omega) (by omega)) ?_
   refine .mv rfl (.nil ?_)
   refine hKL1 ((y + 1, g44)) _ _ ?_ ?_ ⟨rfl, rfl, rfl, rfl, rfl, rfl, trivial⟩
   ·
    refine ⟨lst1, by (rw [take_map_snoc (d := 0) (by omega), ← List.append_assoc]; assumption), by exact ⟨.inr (by omega)⟩, by assumption, by omega, ?_⟩
    omega
   (dsimp only; omega)
  try simp only [sps] at h31
  refine .exit ?_
  refine hK5 _ _ (.seq (fun K10 hK10 => .seq (fun K11 hK11 => .region ?_)))
  obtain rfl : y = d.obj.toNat := by omega
  have hI9 : (d.idn.take d.obj.toNat) = d.idn := List.take_of_length_le (by omega)
  rw [hI9] at at_LI
  have k1 := row_ne aC at_LI rfl
  have ne_gF_gLI : gF ≠ gLI := pl_LI.ne n13 (by omega)
  have ne_gT_gLI : gT ≠ gLI := pl_LI.ne n23 (by omega)
  refine .mv rfl (.nil (hK11 _ _ ?_))
  refine .block ?_
  refine .loopR (σ := Nat × (Nat → Option Addr)) [(3, some _), (4, some _), (5, some _), (6, some _), (7, some _)] (fun (f, rr) => [(9, some (.int .i64 (f : Int)))]) (fun (f, rr) H' => f ≤ c.comp.length ∧ SumSt 2 22 29 H H' c d q g3 g4 g7 gF gT gLI gC [.int .i64 0, .slice none 0 0, .slice none 0 0, .slice none 0 0, .slice none 0 0] rr f 0) (fun (f, rr) => c.comp.length - f) ((0, rr)) ⟨rfl, rfl, rfl, rfl, rfl, trivial⟩ ⟨rfl, trivial⟩ ?_ ?_
  ·
   refine ⟨by omega, hle, by omega, ?_, at4, at_Lg7, aF, aT, at_LI, by rw [extL_zero]; exact aC, by rw [extL_zero]; exact (v22.rows.st rk (.cons v22.r3 (.nil _ _))).low (by omega), v22.r1, v22.r2, ?_⟩
   · assumption
   · exact fun i hi e => by
       obtain ⟨x, h1, h2, h3⟩ := v22.rows.row i hi
       rw [h1] at e
       cases e
       have := GHeap.ltg h3
       exact pl_LI.ne (fun e => v22.r3 i hi (by rw [h1, e])) (by omega) rfl
  rintro ⟨f, rr⟩ HL2 hI KL2 hKL2
  refine .forget (fr' := [(9, some (.int .i64 (f : Int))), (3, some _), (4, some _), (5, some _), (6, some _), (7, some _)]) ⟨rfl, rfl, rfl, rfl, rfl, rfl, trivial⟩ ?_
  obtain ⟨hf, hS⟩ := hI
  obtain ⟨hle, bC, aD, aR, aS, aF, aT, aI, aC, hR, hr1, hr2, hr3⟩ := id hS
  have nx_HL2 := hle.1
  have lt_aD := GHeap.ltg aD
  have lt_aR := GHeap.ltg aR
  have lt_aF := GHeap.ltg aF
  have lt_aI := GHeap.ltg aI
  replace hin1 := base_hin1.mono hle
  have hb3 : Cat.At _ g3 0 d q := ⟨Mem.of_get aD, hin1⟩
  refine .seq (fun K12 hK12 => .seq (fun K13 hK13 => .region (.mv rfl (.q rfl (.fieldAddr fo_29_4_B rfl) ?_))))
  refine .q rfl (.load on_23_B rfl (by first | assumption | exact Mem.of_get aS 4 _ rfl)) ?_
  refine .q rfl (.len sl_23_B rfl) (.q rfl (.cmp rfl rfl rfl) (.nil (hK13 _ _ ?_)))
  refine .cond rfl (fun h50 => ?_) (fun h50 => ?_)
  ·
   simp only [sps] at h50
   refine .skip ?_
   refine hK12 _ _ (.seq (fun K14 hK14 => ?_))
   refine .block ?_
   refine .seq (fun K15 hK15 => .region (.mv rfl (.nil (hK15 _ _ ?_))))
   refine .block ?_
   refine .loopR (σ := Nat × (Nat → Option Addr)) [(3, some _), (4, some _), (5, some _), (6, some _), (7, some _), (9, some _)] (fun (j, r2) => [(10, some (.int .i64 (j : Int)))]) (fun (j, r2) H' => j ≤ d.src.length ∧ SumSt 2 22 29 H H' c d q g3 g4 g7 gF gT gLI gC [.int .i64 0, .slice none 0 0, .slice none 0 0, .slice none 0 0, .slice none 0 0] r2 f j) (fun (j, r2) => d.src.length - j) ((0, rr)) ⟨rfl, rfl, rfl, rfl, rfl, rfl, trivial⟩ ⟨rfl, trivial⟩ ?_ ?_
   ·
    exact ⟨by omega, hS⟩
   rintro ⟨j, r2⟩ HL3 hI KL3 hKL3
   refine .forget (fr' := [(10, some (.int .i64 (j : Int))), (3, some _), (4, some _), (5, some _), (6, some _), (7, some _), (9, some _)]) ⟨rfl, rfl, rfl, rfl, rfl, rfl, rfl, trivial⟩ ?_
   obtain ⟨hj, hS⟩ := hI
   obtain ⟨-, -, aD, aR, aS, -, -, aI, aC, hR, -, -, -⟩ := id hS
   have hel := extL_len (xss := c.comp) (k := d.src.length) (f := f) (j := j) (i := f) hj (by omega)
   have hrow := a9 f (by omega)
   refine .seq (fun K16 hK16 => .seq (fun K17 hK17 => .region (.mv rfl (.q rfl (.fieldAddr fo_29_1_B rfl) ?_))))
   refine .q rfl (.load on_22_B rfl (by first | assumption | exact Mem.of_get aD 1 _ rfl)) ?_
   refine .q rfl (.len sl_22_A rfl) (.q rfl (.cmp rfl rfl rfl) (.nil (hK17 _ _ ?_)))
   refine .cond rfl (fun h57 => ?_) (fun h57 => ?_)
   ·
    simp only [sps] at h57
    obtain ⟨gi, hgi, -, hati0⟩ := hR.row f (by rw [length_extL]; omega)
    have hati := hati0
    have m1 := row_ne aS hati rfl
    have m3 := row_ne aC hati rfl
    refine .skip ?_
    refine hK16 _ _ (.seq (fun K18 hK18 => ?_))
    refine .block ?_
    refine .regionDB mo_B (.q 0 (.q 1 (.q 2 (.q 3 (.q 4 (.q 5 (.q 6 (.q 7 (.c 8 1 (.c 9 1 (.q 10 (.c 11 0 (.done))))))))))))) (by kernel_rfl) (GHeap.le_erase HL3 gi) ?_
    have hbl := GHeap.le_erase HL3 gi
    have aSB := GHeap.get_erase_of aS m1
    have aCB := GHeap.get_erase_of aC m3
    have cC := slsL_cell aCB (i := f) (by rw [length_extL]; omega)
    rw [hgi] at cC
    refine .qB rfl hbl (.fieldAddr fo_29_4_B rfl) (.qB rfl hbl (.load on_23_B rfl (Mem.of_get aSB 4 _ rfl)) (.qB rfl hbl (.move rfl) (.qB rfl hbl (.fieldAddr fo_29_4_B rfl) (.qB rfl hbl (.load on_23_B rfl (Mem.of_get aSB 4 _ rfl)) (.qB rfl hbl (.move rfl) ?_)))))
    refine .qB rfl hbl (.idxN sl_23_B (SlA.of_row aCB (by simp)) rfl rfl (by omega)) ?_
    refine .qB rfl hbl (.load on_22_B rfl cC) ?_
    refine .c1 rfl rfl rfl rfl (.litA rfl sl_22_A ze_2_L rfl rfl rfl rfl) ?_
    rintro _ H68 ⟨g68, rfl, le68, ge68, at68⟩
    replace hbl := hbl.trans le68
    refine ⟨hbl, ?_⟩
    replace aC := le68.2 _ _ aC
    replace hati := le68.2 _ _ hati
    refine .c1 rfl rfl rfl rfl (.appendI rfl sl_22_A ze_2_L rfl by_2_L sl_22_A rfl rfl (by assumption) (by assumption) (by first | omega | (simp <;> omega)) (by omega) (by omega)) ?_
    rintro _ H69 ⟨g69, rfl, st69, ge69, at69⟩
    refine ⟨(hbl.erase_st st69), ?_⟩
    replace aC := st69.s aC
    replace hbl := hbl.erase_st st69
    refine .qB rfl hbl (.idxN sl_23_B (SlA.of_row aCB (by simp)) rfl rfl (by omega)) ?_
    have at69s := at69
    refine .r0 rfl rfl rfl (.storeR rfl sz_22_Ch rfl rfl rfl (by assumption) (by first | exact Nat.le_of_ble_eq_true rfl | (simp; done) | (simp <;> omega))) ?_
    rintro _ H14011 ⟨rfl, st14011, at14011⟩
    rw [Nat.zero_add] at at14011
    refine .done ?_
    refine hK18 _ _ (.region (.mv rfl ?_))
    refine .q rfl (.add rfl rfl rfl (by omega) (by omega)) ?_
    refine .mv rfl (.nil ?_)
    refine hKL3 ((j + 1, upd r2 f (some ⟨g69, 0, none⟩))) _ _ ?_ ?_ ⟨rfl, rfl, rfl, rfl, rfl, rfl, rfl, trivial⟩
    ·
     exact ⟨by omega, hS.app rfl rfl rfl (by omega) hati0 hgi le68 st69 ge69 at69s st14011 at14011 rfl⟩
    (dsimp only; omega)
   try simp only [sps] at h57
   refine .exit ?_
   refine hK14 _ _ (.region (.mv rfl ?_))
   refine .q rfl (.add rfl rfl rfl (by omega) (by omega)) ?_
   refine .mv rfl (.nil ?_)
   refine hKL2 ((f + 1, r2)) _ _ ?_ ?_ ⟨rfl, rfl, rfl, rfl, rfl, rfl, trivial⟩
   ·
    obtain rfl : j = d.src.length := by omega
    exact ⟨by omega, hS.next⟩
   (dsimp only; omega)
  try simp only [sps] at h50
  refine .exit ?_
  refine hK10 _ _ (.seq (fun K19 hK19 => .seq (fun K20 hK20 => .region ?_)))
  obtain rfl : f = c.comp.length := by omega
  rw [Cat.extL_all] at aC hR
  have ne_g3_gF := row_ne aD aF rfl
  have ne_g3_gT := row_ne aD aT rfl
  have ne_g3_gC := row_ne aD aC rfl
  have ne_g4_gF := row_ne aR aF rfl
  have ne_gLI_g4 := row_ne aI aR rfl
  have ne_g4_gT := row_ne aR aT rfl
  have ne_g4_gC := row_ne aR aC rfl
  have ne_g7_gF := row_ne aS aF rfl
  have ne_g7_gT := row_ne aS aT rfl
  have ne_g7_gC := row_ne aS aC rfl
  refine .mv rfl (.nil (hK20 _ _ ?_))
  refine .block ?_
  refine .loopR (σ := Nat × (Nat → Option Addr) × Nat × Nat × Nat) [(3, some _), (4, some _), (5, some _), (6, some _), (7, some _)] (fun (i, r3, gLF, gLT, gLC) => [(11, some (.int .i64 (i : Int)))]) (fun (i, r3, gLF, gLT, gLC) H' => St [gF, gT, gC, g7] HL2 H' ∧ H'.get gLF = some (.row (ints (c.src ++ (d.src.take i).map (· + c.obj))) 2 true) ∧ PL gLF gF HL2.next ∧ H'.get gLT = some (.row (ints (c.tgt ++ (d.tgt.take i).map (· + c.obj))) 2 true) ∧ PL gLT gT HL2.next ∧ H'.get gLC = some (.row ((slsL r3 (c.sumL d ++ (d.comp.take i).map (sumRow c.src.length)))) 22 true) ∧ PL gLC gC HL2.next ∧ H'.get g7 = some (.row ([.int .i64 (c.obj + d.obj), .slice (some ⟨gLF, 0, none⟩) (c.src.length + i) (c.src.length + i), .slice (some ⟨gLT, 0, none⟩) (c.tgt.length + i) (c.tgt.length + i), .slice (some ⟨gLI, 0, none⟩) (c.idn.length + d.obj.toNat) (c.idn.length + d.obj.toNat), .slice (some ⟨gLC, 0, none⟩) (c.comp.length + i) (c.comp.length + i)]) 29 true) ∧ gLF ≠ gLT ∧ gLF ≠ gLC ∧ gLF ≠ g7 ∧ gLT ≠ gLC ∧ gLT ≠ g7 ∧ gLC ≠ g7 ∧ i ≤ d.src.length ∧ OwnL H.next H' 2 r3 (c.sumL d ++ (d.comp.take i).map (sumRow c.src.length)) ∧ (∀ j, j < (c.sumL d ++ (d.comp.take i).map (sumRow c.src.length)).length → r3 j ≠ some ⟨gLF, 0, none⟩) ∧ (∀ j, j < (c.sumL d ++ (d.comp.take i).map (sumRow c.src.length)).length → r3 j ≠ some ⟨gLT, 0, none⟩) ∧ ∀ j, j < (c.sumL d ++ (d.comp.take i).map (sumRow c.src.length)).length → r3 j ≠ some ⟨gLI, 0, none⟩) (fun (i, r3, gLF, gLT, gLC) => d.src.length - i) ((0, rr, gF, gT, gC)) ⟨rfl, rfl, rfl, rfl, rfl, trivial⟩ ⟨rfl, trivial⟩ ?_ ?_
  ·
   refine ⟨.refl _ _, by simpa using aF, ⟨.inl rfl⟩, by simpa using aT, ⟨.inl rfl⟩, by simpa using aC, ⟨.inl rfl⟩, by assumption, by omega, by omega, by omega, by omega, by omega, by omega, ?_⟩
   have e0 : c.sumL d ++ (d.comp.take 0).map (sumRow c.src.length) = c.sumL d := by simp
   rw [e0]
   have e1 : (c.sumL d).length = c.comp.length := by simp [Cat.sumL]
   exact ⟨by omega, hR, fun j hj => hr1 j (by omega), fun j hj => hr2 j (by omega), fun j hj => hr3 j (by omega)⟩
  rintro ⟨i, r3, gLF, gLT, gLC⟩ HL4 ⟨lst4, at_LF, pl_LF, at_LT, pl_LT, at_LC, pl_LC, at_Lg7, ap4_0, ap4_1, ap4_2, ap4_3, ap4_4, ap4_5, hI⟩ KL4 hKL4
  refine .forget (fr' := [(11, some (.int .i64 (i : Int))), (3, some _), (4, some _), (5, some _), (6, some _), (7, some _)]) ⟨rfl, rfl, rfl, rfl, rfl, rfl, trivial⟩ ?_
  have ge_LF : H.next ≤ gLF := pl_LF.ge (by omega) (by omega)
  have ge_LT : H.next ≤ gLT := pl_LT.ge (by omega) (by omega)
  have ge_LC : H.next ≤ gLC := pl_LC.ge (by omega) (by omega)
  have nx_HL4 := lst4.nx
  replace hle := hle.st lst4 (fun k hk => ⟨by omega, by omega, by omega, by omega, trivial⟩)
  have ne_g3_gF : NE g3 gF := .a
  have ne_g3_gT : NE g3 gT := .a
  have ne_g3_gC : NE g3 gC := .a
  have ne_g3_g7 : NE g3 g7 := .a
  replace aD := lst4.same _ _ ⟨ne_g3_gF.ne, ne_g3_gT.ne, ne_g3_gC.ne, ne_g3_g7.ne, trivial⟩ aD
  have ne_g4_gF : NE g4 gF := .a
  have ne_g4_gT : NE g4 gT := .a
  have ne_g4_gC : NE g4 gC := .a
  have ne_g4_g7 : NE g4 g7 := .a
  replace aR := lst4.same _ _ ⟨ne_g4_gF.ne, ne_g4_gT.ne, ne_g4_gC.ne, ne_g4_g7.ne, trivial⟩ aR
  have ne_gLI_gF : NE gLI gF := .a
  have ne_gLI_g7 : NE gLI g7 := .a
  replace aI := lst4.same _ _ ⟨ne_gLI_gF.ne, (by first | assumption | omega), (by first | assumption | omega), ne_gLI_g7.ne, trivial⟩ aI
  have lt_at_LF := GHeap.ltg at_LF
  have lt_at_LT := GHeap.ltg at_LT
  have lt_at_LC := GHeap.ltg at_LC
  have lt_at_Lg7 := GHeap.ltg at_Lg7
  replace hin1 := base_hin1.mono hle
  clear hb3
  have hb3 : Cat.At _ g3 0 d q := ⟨Mem.of_get aD, hin1⟩
  obtain ⟨-, c13, -, -, -, i13, -, -, -⟩ := hb3.get
  have rk := St.refl [gLF, gLT, gLC, g7] HL4
  obtain ⟨hi, hR, hF, hT, hId⟩ := hI
  have hatC := at_LC
  have nFI : gLI ≠ gLF := pl_LF.ne (Ne.symm ne_gF_gLI) (by omega)
  have nTI : gLI ≠ gLT := pl_LT.ne (Ne.symm ne_gT_gLI) (by omega)
  have hat7 := at_Lg7
  have hql : (c.sumL d ++ (d.comp.take i).map (sumRow c.src.length)).length = c.comp.length + i := by simp [Cat.sumL]; omega
  have hl1 : (c.src ++ (d.src.take i).map (· + c.obj)).length = c.src.length + i := by simp; omega
  have hl2 : (c.tgt ++ (d.tgt.take i).map (· + c.obj)).length = c.tgt.length + i := by simp; omega
  have hfl : (slsL r3 (c.sumL d ++ (d.comp.take i).map (sumRow c.src.length))).length = c.comp.length + i := by rw [length_slsL, hql]
  refine .seq (fun K21 hK21 => .seq (fun K22 hK22 => .region (.mv rfl (.q rfl (.fieldAddr fo_29_1_B rfl) ?_))))
  refine .q rfl (.load on_22_B rfl (by first | assumption | exact Mem.of_get aD 1 _ rfl)) ?_
  refine .q rfl (.len sl_22_A rfl) (.q rfl (.cmp rfl rfl rfl) (.nil (hK22 _ _ ?_)))
  refine .cond rfl (fun h75 => ?_) (fun h75 => ?_)
  ·
   simp only [sps] at h75
   have q1 := b4 i (by omega)
   have q2 := b5 i (by omega)
   have q3 := b9 i (by omega)
   refine .skip ?_
   refine hK21 _ _ (.seq (fun K23 hK23 => ?_))
   refine .block ?_
   refine .seq (fun K24 hK24 => ?_)
   refine .regionD mo_B (.q 0 (.q 1 (.q 2 (.q 3 (.q 4 (.q 5 (.q 6 (.q 7 (.q 8 (.c 9 1 (.c 10 0 (.q 11 (.c 12 0 (.done)))))))))))))) (by kernel_rfl) ?_
   refine .q rfl (.fieldAddr fo_29_1_B rfl) ?_
   refine .q rfl (.load on_22_B rfl (by first | assumption | exact Mem.of_get at_Lg7 1 _ rfl)) ?_
   refine .q rfl (.fieldAddr fo_29_1_B rfl) ?_
   refine .q rfl (.load on_22_B rfl (by first | assumption | exact Mem.of_get aD 1 _ rfl)) ?_
   refine .mv rfl rfl ?_
   refine .q rfl (.idxN sl_22_A (by assumption) rfl rfl (by omega)) ?_
   refine .q rfl (.loadI on_2_A (by assumption) rfl (by omega)) ?_
   refine .mv rfl rfl ?_
   refine .q rfl (.add rfl rfl rfl (by omega) (by omega)) ?_
   refine .c1 rfl rfl rfl rfl (.litA rfl sl_22_A ze_2_L rfl rfl rfl rfl) ?_
   rintro _ H87 ⟨g87, rfl, le87, ge87, at87⟩
   have hbl := le87
   refine ⟨hbl, ?_⟩
   replace hle := hle.trans le87
   replace lst4 := lst4.le le87
   replace rk := rk.le le87
   replace aD := le87.2 _ _ aD
   replace aR := le87.2 _ _ aR
   replace aI := le87.2 _ _ aI
   replace at_LF := le87.2 _ _ at_LF
   replace at_LT := le87.2 _ _ at_LT
   replace at_LC := le87.2 _ _ at_LC
   replace at_Lg7 := le87.2 _ _ at_Lg7
   have lt_at87 := GHeap.ltg at87
   replace hin1 := base_hin1.mono hle
   clear hb3 c13 i13
   have hb3 : Cat.At _ g3 0 d q := ⟨Mem.of_get aD, hin1⟩
   refine .c0 rfl rfl rfl rfl (.appendI rfl sl_22_A ze_2_L rfl by_2_L sl_22_A rfl rfl (by assumption) (by assumption) (by first | omega | (simp <;> omega)) (by omega) (by omega)) ?_
   rintro _ H88 ⟨g88, rfl, st88, ge88, at88⟩
   replace hle := hle.st st88 (fun k hk => ⟨by omega, trivial⟩)
   replace lst4 := lst4.sP st88
   replace rk := rk.sP st88
   replace aD := st88.same _ _ ⟨(pl_LF.ne ne_g3_gF.ne (by omega)), trivial⟩ aD
   have ne_g4_gLF : NE g4 gLF := ⟨pl_LF.ne ne_g4_gF.ne (by omega)⟩
   replace aR := st88.s aR ne_g4_gLF.ne
   replace aI := st88.same _ _ ⟨(pl_LF.ne ne_gLI_gF.ne (by omega)), trivial⟩ aI
   replace at_LT := st88.same _ _ ⟨(Ne.symm ap4_0), trivial⟩ at_LT
   replace at_LC := st88.same _ _ ⟨(Ne.symm ap4_1), trivial⟩ at_LC
   replace at_Lg7 := st88.same _ _ ⟨(Ne.symm ap4_2), trivial⟩ at_Lg7
   replace at87 := st88.s at87
   have lt_at88 := GHeap.ltg at88
   replace hin := base_hin.mono hle
   replace hin1 := base_hin1.mono hle
   clear hb3
   have hb3 : Cat.At _ g3 0 d q := ⟨Mem.of_get aD, hin1⟩
   obtain ⟨c03, c13, c23, c33, c43, i13, i23, i33, i43⟩ := hb3.get
   have hm3 : MemN _ _ _ _ _ := ⟨rfl, hb3.1⟩
   have hi3 := hb3.2
   refine .q rfl (.fieldAddr fo_29_1_B rfl) ?_
   refine .r0 rfl rfl rfl (.storeR rfl sz_22_Ch rfl rfl rfl (by assumption) (by first | exact Nat.le_of_ble_eq_true rfl | (simp; done) | (simp <;> omega))) ?_
   rintro _ H18012 ⟨rfl, st18012, at18012⟩
   have nx_H18012 := st18012.nx
   replace hle := hle.st st18012 (fun k hk => ⟨by omega, trivial⟩)
   replace lst4 := lst4.sA st18012
   replace rk := rk.sA st18012
   replace aD := st18012.s aD ne_g3_g7.ne
   replace aR := st18012.s aR ne_g4_g7.ne
   replace aI := st18012.s aI ne_gLI_g7.ne
   replace at_LT := st18012.same _ _ ⟨ap4_4, trivial⟩ at_LT
   replace at_LC := st18012.same _ _ ⟨ap4_5, trivial⟩ at_LC
   replace at87 := st18012.s at87
   have ne_g88_g7 : NE g88 g7 := .a
   replace at88 := st18012.s at88 ne_g88_g7.ne
   have lt_at18012 := GHeap.ltg at18012
   replace hin := base_hin.mono hle
   replace hin1 := base_hin1.mono hle
   clear hb3 c03 c13 c23 c33 c43 i13 i23 i33 i43 hm3 hi3
   have hb3 : Cat.At _ g3 0 d q := ⟨Mem.of_get aD, hin1⟩
   obtain ⟨c03, c13, c23, c33, c43, i13, i23, i33, i43⟩ := hb3.get
   have hm3 : MemN _ _ _ _ _ := ⟨rfl, hb3.1⟩
   have hi3 := hb3.2
   try simp only [Nat.zero_add, List.set_cons_succ, List.set_cons_zero] at at18012
   refine .done ?_
   refine hK24 _ _ (.seq (fun K25 hK25 => ?_))
   refine .regionD mo_B (.q 0 (.q 1 (.q 2 (.q 3 (.q 4 (.q 5 (.q 6 (.q 7 (.q 8 (.c 9 1 (.c 10 0 (.q 11 (.c 12 0 (.done)))))))))))))) (by kernel_rfl) ?_
   refine .q rfl (.fieldAddr fo_29_2_B rfl) ?_
   refine .q rfl (.load on_22_B rfl (by first | assumption | exact Mem.of_get at18012 2 _ rfl)) ?_
   refine .q rfl (.fieldAddr fo_29_2_B rfl) ?_
   refine .q rfl (.load on_22_B rfl (by first | assumption | exact Mem.of_get aD 2 _ rfl)) ?_
   refine .mv rfl rfl ?_
   refine .q rfl (.idxN sl_22_A (by assumption) rfl rfl (by omega)) ?_
   refine .q rfl (.loadI on_2_A (by assumption) rfl (by omega)) ?_
   refine .mv rfl rfl ?_
   refine .q rfl (.add rfl rfl rfl (by omega) (by omega)) ?_
   refine .c1 rfl rfl rfl rfl (.litA rfl sl_22_A ze_2_L rfl rfl rfl rfl) ?_
   rintro _ H99 ⟨g99, rfl, le99, ge99, at99⟩
   have hbl := le99
   refine ⟨hbl, ?_⟩
   have nx_H99 := le99.1
   replace hle := hle.trans le99
   replace lst4 := lst4.le le99
   replace rk := rk.le le99
   replace aD := le99.2 _ _ aD
   replace aR := le99.2 _ _ aR
   replace aI := le99.2 _ _ aI
   replace at_LT := le99.2 _ _ at_LT
   replace at_LC := le99.2 _ _ at_LC
   replace at87 := le99.2 _ _ at87
   replace at88 := le99.2 _ _ at88
   replace at18012 := le99.2 _ _ at18012
   have lt_at99 := GHeap.ltg at99
   replace hin := base_hin.mono hle
   replace hin1 := base_hin1.mono hle
   clear hb3 c03 c13 c23 c33 c43 i13 i23 i33 i43 hm3 hi3
   have hb3 : Cat.At _ g3 0 d q := ⟨Mem.of_get aD, hin1⟩
   obtain ⟨c03, c13, c23, c33, c43, i13, i23, i33, i43⟩ := hb3.get
   have hm3 : MemN _ _ _ _ _ := ⟨rfl, hb3.1⟩
   have hi3 := hb3.2
   refine .c0 rfl rfl rfl rfl (.appendI rfl sl_22_A ze_2_L rfl by_2_L sl_22_A rfl rfl (by assumption) (by assumption) (by first | omega | (simp <;> omega)) (by omega) (by omega)) ?_
   rintro _ H100 ⟨g100, rfl, st100, ge100, at100⟩
   replace hle := hle.st st100 (fun k hk => ⟨by omega, trivial⟩)
   replace lst4 := lst4.sP st100
   replace rk := rk.sP st100
   replace aD := st100.same _ _ ⟨(pl_LT.ne ne_g3_gT.ne (by omega)), trivial⟩ aD
   replace at_LC := st100.same _ _ ⟨(Ne.symm ap4_3), trivial⟩ at_LC
   replace at88 := st100.s at88
   replace at18012 := st100.same _ _ ⟨(Ne.symm ap4_4), trivial⟩ at18012
   have lt_at100 := GHeap.ltg at100
   replace hin1 := base_hin1.mono hle
   clear hb3 c03 c13 c23 c33 c43 i13 i23 i33 i43 hm3 hi3
   have hb3 : Cat.At _ g3 0 d q := ⟨Mem.of_get aD, hin1⟩
   refine .q rfl (.fieldAddr fo_29_2_B rfl) ?_
   refine .r0 rfl rfl rfl (.storeR rfl sz_22_Ch rfl rfl rfl (by assumption) (by first | exact Nat.le_of_ble_eq_true rfl | (simp; done) | (simp <;> omega))) ?_
   rintro _ H19012 ⟨rfl, st19012, at19012⟩
   have nx_H19012 := st19012.nx
   replace hle := hle.st st19012 (fun k hk => ⟨by omega, trivial⟩)
   replace lst4 := lst4.sA st19012
   replace rk := rk.sA st19012
   replace aD := st19012.s aD ne_g3_g7.ne
   replace at_LC := st19012.same _ _ ⟨ap4_5, trivial⟩ at_LC
   replace at88 := st19012.s at88 ne_g88_g7.ne
   have ne_g100_g7 : NE g100 g7 := .a
   replace at100 := st19012.s at100 ne_g100_g7.ne
   have lt_at19012 := GHeap.ltg at19012
   replace hin1 := base_hin1.mono hle
   clear hb3
   have hb3 : Cat.At _ g3 0 d q := ⟨Mem.of_get aD, hin1⟩
   try simp only [Nat.zero_add, List.set_cons_succ, List.set_cons_zero] at at19012
   refine .done ?_
   refine hK25 _ _ (.seq (fun K26 hK26 => .region ?_))
   refine .R rfl (.litA rfl sl_22_A ze_2_L rfl rfl rfl rfl) ?_
   rintro _ H102 ⟨g102, rfl, le102, ge102, at102⟩
   replace hle := hle.trans le102
   replace lst4 := lst4.le le102
   replace rk := rk.le le102
   replace aD := le102.2 _ _ aD
   replace at_LC := le102.2 _ _ at_LC
   replace at88 := le102.2 _ _ at88
   replace at100 := le102.2 _ _ at100
   replace at19012 := le102.2 _ _ at19012
   have lt_at102 := GHeap.ltg at102
   replace hin1 := base_hin1.mono hle
   clear hb3
   have hb3 : Cat.At _ g3 0 d q := ⟨Mem.of_get aD, hin1⟩
   replace at102 : GHeap.get H102 g102 = some (.row (ints []) 2 true) := at102
   refine .mv rfl (.nil (hK26 _ _ (.seq (fun K27 hK27 => .seq (fun K28 hK28 => .region (.mv rfl (.nil (hK28 _ _ ?_))))))))
   refine .block ?_
   refine .loopR (σ := Nat × Nat × Nat) [(3, some _), (4, some _), (5, some _), (6, some _), (7, some _), (11, some _)] (fun (j, gL12, nL12) => [(13, some (.int .i64 (j : Int))), (12, some (.slice (some ⟨gL12, 0, none⟩) nL12 nL12))]) (fun (j, gL12, nL12) H' => St [g102] H102 H' ∧ H'.get gL12 = some (.row (ints (List.replicate j (-1))) 2 true) ∧ PL gL12 g102 H102.next ∧ nL12 = (List.replicate j (-1)).length ∧ j ≤ c.src.length) (fun (j, gL12, nL12) => c.src.length - j) ((0, _, _)) ⟨rfl, rfl, rfl, rfl, rfl, rfl, trivial⟩ ⟨rfl, rfl, trivial⟩ ?_ ?_
   ·
    refine ⟨.refl _ _, by assumption, ⟨.inl rfl⟩, by rfl, ?_⟩
    omega
   rintro ⟨j, gL12, nL12⟩ HL5 ⟨lst5, at_L12, pl_L12, ln_L12, hI⟩ KL5 hKL5
   refine .forget (fr' := [(13, some (.int .i64 (j : Int))), (12, some (.slice (some ⟨gL12, 0, none⟩) nL12 nL12)), (3, some _), (4, some _), (5, some _), (6, some _), (7, some _), (11, some _)]) ⟨rfl, rfl, rfl, rfl, rfl, rfl, rfl, rfl, trivial⟩ ?_
   have ge_L12 : H.next ≤ gL12 := pl_L12.ge (by omega) (by omega)
   have nx_HL5 := lst5.nx
   replace hle := hle.st lst5 (fun k hk => ⟨by omega, trivial⟩)
   replace lst4 := lst4.sA lst5
   replace rk := rk.sA lst5
   have ne_g3_g102 : NE g3 g102 := .a
   replace aD := lst5.s aD ne_g3_g102.ne
   have ne_gLC_g102 : NE gLC g102 := .a
   replace at_LC := lst5.s at_LC ne_gLC_g102.ne
   have ne_g88_g102 : NE g88 g102 := .a
   replace at88 := lst5.s at88 ne_g88_g102.ne
   have ne_g100_g102 : NE g100 g102 := .a
   replace at100 := lst5.s at100 ne_g100_g102.ne
   have ne_g7_g102 : NE g7 g102 := .a
   replace at19012 := lst5.s at19012 ne_g7_g102.ne
   have lt_at_L12 := GHeap.ltg at_L12
   replace hin1 := base_hin1.mono hle
   clear hb3
   have hb3 : Cat.At _ g3 0 d q := ⟨Mem.of_get aD, hin1⟩
   have hz : (List.replicate j (-1 : Int)).length = j := List.length_replicate
   refine .seq (fun K29 hK29 => .seq (fun K30 hK30 => .region (.mv rfl (.mv rfl (.q rfl (.cmp rfl rfl rfl) (.nil (hK30 _ _ ?_)))))))
   refine .cond rfl (fun h105 => ?_) (fun h105 => ?_)
   ·
    simp only [sps] at h105
    refine .skip ?_
    refine hK29 _ _ (.seq (fun K31 hK31 => ?_))
    refine .block ?_
    refine .region (.mv rfl ?_)
    refine .R rfl (.litA rfl sl_22_A ze_2_L rfl rfl rfl rfl) ?_
    rintro _ H109 ⟨g109, rfl, le109, ge109, at109⟩
    replace hle := hle.trans le109
    replace lst5 := lst5.le le109
    replace aD := le109.2 _ _ aD
    replace at_L12 := le109.2 _ _ at_L12
    have lt_at109 := GHeap.ltg at109
    replace hin1 := base_hin1.mono hle
    clear hb3
    have hb3 : Cat.At _ g3 0 d q := ⟨Mem.of_get aD, hin1⟩
    refine .R rfl (.appendI rfl sl_22_A ze_2_L rfl by_2_L sl_22_A rfl rfl (by assumption) (by assumption) (by first | omega | (simp <;> omega)) (by omega) (by omega)) ?_
    rintro _ H110 ⟨g110, rfl, st110, ge110, at110⟩
    replace hle := hle.st st110 (fun k hk => ⟨by omega, trivial⟩)
    replace lst5 := lst5.sP st110
    have ne_g3_gL12 : NE g3 gL12 := ⟨pl_L12.ne ne_g3_g102.ne (by omega)⟩
    replace aD := st110.s aD ne_g3_gL12.ne
    replace hin1 := base_hin1.mono hle
    clear hb3
    have hb3 : Cat.At _ g3 0 d q := ⟨Mem.of_get aD, hin1⟩
    refine .mv rfl (.nil (hK31 _ _ (.region (.mv rfl ?_))))
    refine .q rfl (.add rfl rfl rfl (by omega) (by omega)) ?_
    refine .mv rfl (.nil ?_)
    refine hKL5 ((j + 1, _, _)) _ _ ?_ ?_ ⟨rfl, rfl, rfl, rfl, rfl, rfl, rfl, rfl, trivial⟩
    ·
     refine ⟨lst5, by (rw [List.replicate_succ']; assumption), by exact ⟨.inr (by omega)⟩, by (rw [List.replicate_succ'] <;> (first | omega | (simp only [List.length_append, List.length_cons, List.length_nil] <;> omega))), ?_⟩
     omega
    (dsimp only; omega)
   try simp only [sps] at h105
   refine .exit ?_
   refine hK27 _ _ (.seq (fun K32 hK32 => .seq (fun K33 hK33 => .region ?_)))
   obtain rfl : j = c.src.length := by omega
   have h9 : nL12 = (sumRow c.src.length ((d.comp.getD i []).take 0)).length := by rw [length_sumRow, ln_L12]; simp
   refine .mv rfl (.nil (hK33 _ _ ?_))
   refine .block ?_
   refine .loopR (σ := Nat × Nat × Nat) [(3, some _), (4, some _), (5, some _), (6, some _), (7, some _), (11, some _)] (fun (j, gL12v6, nL12v6) => [(14, some (.int .i64 (j : Int))), (12, some (.slice (some ⟨gL12v6, 0, none⟩) nL12v6 nL12v6))]) (fun (j, gL12v6, nL12v6) H' => St [gL12] HL5 H' ∧ H'.get gL12v6 = some (.row (ints (sumRow c.src.length ((d.comp.getD i []).take j))) 2 true) ∧ PL gL12v6 gL12 HL5.next ∧ nL12v6 = (sumRow c.src.length ((d.comp.getD i []).take j)).length ∧ j ≤ d.src.length) (fun (j, gL12v6, nL12v6) => d.src.length - j) ((0, _, _)) ⟨rfl, rfl, rfl, rfl, rfl, rfl, trivial⟩ ⟨rfl, rfl, trivial⟩ ?_ ?_
   ·
    refine ⟨.refl _ _, by (rw [List.take_zero, sumRow_nil]; assumption), ⟨.inl rfl⟩, by assumption, ?_⟩
    omega
   rintro ⟨j, gL12v6, nL12v6⟩ HL6 ⟨lst6, at_L12v6, pl_L12v6, ln_L12v6, hI⟩ KL6 hKL6
   refine .forget (fr' := [(14, some (.int .i64 (j : Int))), (12, some (.slice (some ⟨gL12v6, 0, none⟩) nL12v6 nL12v6)), (3, some _), (4, some _), (5, some _), (6, some _), (7, some _), (11, some _)]) ⟨rfl, rfl, rfl, rfl, rfl, rfl, rfl, rfl, trivial⟩ ?_
   have ge_L12v6 : H.next ≤ gL12v6 := pl_L12v6.ge (by omega) (by omega)
   have nx_HL6 := lst6.nx
   replace hle := hle.st lst6 (fun k hk => ⟨by omega, trivial⟩)
   replace lst4 := lst4.sP lst6
   replace rk := rk.sP lst6
   have ne_g3_gL12 : NE g3 gL12 := ⟨pl_L12.ne ne_g3_g102.ne (by omega)⟩
   replace aD := lst6.s aD ne_g3_gL12.ne
   have ne_gLC_gL12 : NE gLC gL12 := ⟨pl_L12.ne ne_gLC_g102.ne (by omega)⟩
   replace at_LC := lst6.s at_LC ne_gLC_gL12.ne
   replace at88 := lst6.same _ _ ⟨(pl_L12.ne ne_g88_g102.ne (by omega)), trivial⟩ at88
   replace at100 := lst6.same _ _ ⟨(pl_L12.ne ne_g100_g102.ne (by omega)), trivial⟩ at100
   have ne_g7_gL12 : NE g7 gL12 := ⟨pl_L12.ne ne_g7_g102.ne (by omega)⟩
   replace at19012 := lst6.s at19012 ne_g7_gL12.ne
   replace hin1 := base_hin1.mono hle
   have hb3 : Cat.At _ g3 0 d q := ⟨Mem.of_get aD, hin1⟩
   obtain ⟨-, c13, -, -, c43, -, -, -, i43⟩ := hb3.get
   have hz : (sumRow c.src.length ((d.comp.getD i []).take j)).length = c.src.length + j := by rw [length_sumRow, List.length_take]; omega
   refine .seq (fun K34 hK34 => .seq (fun K35 hK35 => .region (.mv rfl (.q rfl (.fieldAddr fo_29_1_B rfl) ?_))))
   refine .q rfl (.load on_22_B rfl (by first | assumption | exact Mem.of_get aD 1 _ rfl)) ?_
   refine .q rfl (.len sl_22_A rfl) (.q rfl (.cmp rfl rfl rfl) (.nil (hK35 _ _ ?_)))
   refine .cond rfl (fun h115 => ?_) (fun h115 => ?_)
   ·
    simp only [sps] at h115
    have q4 := b10 i (by omega) j (by omega)
    have hz2 : (sumRow c.src.length ((d.comp.getD i []).take (j + 1))).length = c.src.length + (j + 1) := by rw [length_sumRow, List.length_take]; omega
    have u1 := i43.2 i (by omega)
    refine .skip ?_
    refine hK34 _ _ (.seq (fun K36 hK36 => ?_))
    refine .block ?_
    refine .seq (fun K37 hK37 => .region (.q rfl (.fieldAddr fo_29_4_B rfl) ?_))
    refine .q rfl (.load on_23_B rfl (by first | assumption | exact Mem.of_get aD 4 _ rfl)) ?_
    refine .mv rfl ?_
    refine .q rfl (.idxN sl_23_B (Intss.sl (by assumption)) rfl rfl (by omega)) ?_
    refine .q rfl (.loadR on_22_B (by assumption) rfl (by omega)) ?_
    refine .mv rfl ?_
    refine .q rfl (.idxN sl_22_A (by assumption) rfl rfl (by omega)) ?_
    refine .q rfl (.loadI on_2_A (by assumption) rfl (by omega)) ?_
    refine .mv rfl (.nil (hK37 _ _ (.seq (fun K38 hK38 => .seq (fun K39 hK39 => .region (.mv rfl (.q rfl (.cmp rfl rfl rfl) (.nil (hK39 _ _ ?_)))))))))
    refine .cond rfl (fun h127 => ?_) (fun h127 => ?_)
    ·
     simp only [sps] at h127
     refine .region (.mv rfl (.mv rfl ?_))
     refine .q rfl (.add rfl rfl rfl (by omega) (by omega)) ?_
     refine .mv rfl (.nil (hK38 _ _ (.region (.mv rfl (.mv rfl ?_)))))
     refine .R rfl (.litA rfl sl_22_A ze_2_L rfl rfl rfl rfl) ?_
     rintro _ H133 ⟨g133, rfl, le133, ge133, at133⟩
     replace hle := hle.trans le133
     replace lst6 := lst6.le le133
     replace aD := le133.2 _ _ aD
     replace at_L12v6 := le133.2 _ _ at_L12v6
     have lt_at133 := GHeap.ltg at133
     replace hin1 := base_hin1.mono hle
     clear hb3 c13 c43 i43
     have hb3 : Cat.At _ g3 0 d q := ⟨Mem.of_get aD, hin1⟩
     clear u1
     refine .R rfl (.appendI rfl sl_22_A ze_2_L rfl by_2_L sl_22_A rfl rfl (by assumption) (by assumption) (by first | omega | (simp <;> omega)) (by omega) (by omega)) ?_
     rintro _ H134 ⟨g134, rfl, st134, ge134, at134⟩
     replace hle := hle.st st134 (fun k hk => ⟨by omega, trivial⟩)
     replace lst6 := lst6.sQ st134
     have ne_g3_gL12v6 : NE g3 gL12v6 := ⟨pl_L12v6.ne ne_g3_gL12.ne (by omega)⟩
     replace aD := st134.s aD ne_g3_gL12v6.ne
     replace hin1 := base_hin1.mono hle
     clear hb3
     have hb3 : Cat.At _ g3 0 d q := ⟨Mem.of_get aD, hin1⟩
     refine .mv rfl (.nil (hK36 _ _ (.region (.mv rfl ?_))))
     refine .q rfl (.add rfl rfl rfl (by omega) (by omega)) ?_
     refine .mv rfl (.nil ?_)
     refine hKL6 ((j + 1, _, _)) _ _ ?_ ?_ ⟨rfl, rfl, rfl, rfl, rfl, rfl, rfl, rfl, trivial⟩
     ·
      refine ⟨lst6, by (rw [sumRow_take (by omega), if_pos (by omega)]; assumption), by exact ⟨.inr (by omega)⟩, by omega, ?_⟩
      omega
     (dsimp only; omega)
    simp only [sps] at h127
    refine .skip ?_
    refine hK38 _ _ (.region (.mv rfl (.mv rfl ?_)))
    refine .R rfl (.litA rfl sl_22_A ze_2_L rfl rfl rfl rfl) ?_
    rintro _ H133x2 ⟨g133x2, rfl, le133x2, ge133x2, at133x2⟩
    replace hle := hle.trans le133x2
    replace lst6 := lst6.le le133x2
    replace aD := le133x2.2 _ _ aD
    replace at_L12v6 := le133x2.2 _ _ at_L12v6
    have lt_at133x2 := GHeap.ltg at133x2
    replace hin1 := base_hin1.mono hle
    have hb3 : Cat.At _ g3 0 d q := ⟨Mem.of_get aD, hin1⟩
    refine .R rfl (.appendI rfl sl_22_A ze_2_L rfl by_2_L sl_22_A rfl rfl (by assumption) (by assumption) (by first | omega | (simp <;> omega)) (by omega) (by omega)) ?_
    rintro _ H134x2 ⟨g134x2, rfl, st134x2, ge134x2, at134x2⟩
    replace hle := hle.st st134x2 (fun k hk => ⟨by omega, trivial⟩)
    replace lst6 := lst6.sQ st134x2
    have ne_g3_gL12v6 : NE g3 gL12v6 := ⟨pl_L12v6.ne ne_g3_gL12.ne (by omega)⟩
    replace aD := st134x2.s aD ne_g3_gL12v6.ne
    replace hin1 := base_hin1.mono hle
    clear hb3
    have hb3 : Cat.At _ g3 0 d q := ⟨Mem.of_get aD, hin1⟩
    refine .mv rfl (.nil (hK36 _ _ (.region (.mv rfl ?_))))
    refine .q rfl (.add rfl rfl rfl (by omega) (by omega)) ?_
    refine .mv rfl (.nil ?_)
    refine hKL6 ((j + 1, _, _)) _ _ ?_ ?_ ⟨rfl, rfl, rfl, rfl, rfl, rfl, rfl, rfl, trivial⟩
    ·
     refine ⟨lst6, by (rw [sumRow_take (by omega), if_neg (by omega)]; assumption), by exact ⟨.inr (by omega)⟩, by omega, ?_⟩
     omega
    (dsimp only; omega)
   try simp only [sps] at h115
   refine .exit ?_
   refine hK32 _ _ (.region ?_)
   obtain rfl : j = d.src.length := by omega
   rw [show (d.comp.getD i []).take d.src.length = d.comp.getD i [] from List.take_of_length_le (by omega)] at at_L12v6 ln_L12v6
   obtain rfl := ln_L12v6
   refine .q rfl (.fieldAddr fo_29_4_B rfl) ?_
   refine .q rfl (.load on_23_B rfl (by first | assumption | exact Mem.of_get at19012 4 _ rfl)) ?_
   refine .mv rfl ?_
   refine .R rfl (.litA rfl sl_23_B ze_22_Hj rfl rfl rfl rfl) ?_
   rintro _ H138 ⟨g138, rfl, le138, ge138, at138⟩
   replace hle := hle.trans le138
   replace lst4 := lst4.le le138
   replace rk := rk.le le138
   replace aD := le138.2 _ _ aD
   replace at_LC := le138.2 _ _ at_LC
   replace at88 := le138.2 _ _ at88
   replace at100 := le138.2 _ _ at100
   replace at19012 := le138.2 _ _ at19012
   replace at_L12v6 := le138.2 _ _ at_L12v6
   have lt_at138 := GHeap.ltg at138
   replace hin1 := base_hin1.mono hle
   have hb3 : Cat.At _ g3 0 d q := ⟨Mem.of_get aD, hin1⟩
   refine .R rfl (.appendV rfl sl_23_B ze_22_Hj rfl by_22_Hj sl_23_B rfl rfl (by assumption) (by assumption) (by first | omega | (simp <;> omega)) rfl rfl (by omega) (by omega)) ?_
   rintro _ H139 ⟨g139, rfl, st139, ge139, at139⟩
   replace hle := hle.st st139 (fun k hk => ⟨by omega, trivial⟩)
   replace lst4 := lst4.sP st139
   replace rk := rk.sP st139
   replace aD := st139.same _ _ ⟨(pl_LC.ne ne_g3_gC.ne (by omega)), trivial⟩ aD
   replace at88 := st139.s at88
   replace at100 := st139.s at100
   replace at19012 := st139.same _ _ ⟨(Ne.symm ap4_5), trivial⟩ at19012
   replace at_L12v6 := st139.same _ _ ⟨(Ne.symm (pl_L12v6.ne ne_gLC_gL12.ne (by omega))), trivial⟩ at_L12v6
   replace hin1 := base_hin1.mono hle
   clear hb3
   have hb3 : Cat.At _ g3 0 d q := ⟨Mem.of_get aD, hin1⟩
   refine .q rfl (.fieldAddr fo_29_4_B rfl) ?_
   refine .r0 rfl rfl (.storeR rfl sz_23_Ch rfl rfl rfl (by assumption) (by first | exact Nat.le_of_ble_eq_true rfl | (simp; done) | (simp <;> omega))) ?_
   rintro _ H32006 ⟨rfl, st32006, at32006⟩
   replace hle := hle.st st32006 (fun k hk => ⟨by omega, trivial⟩)
   replace lst4 := lst4.sA st32006
   replace rk := rk.sA st32006
   replace aD := st32006.s aD ne_g3_g7.ne
   replace at88 := st32006.s at88 ne_g88_g7.ne
   replace at100 := st32006.s at100 ne_g100_g7.ne
   replace at_L12v6 := st32006.same _ _ ⟨(Ne.symm (pl_L12v6.ne ne_g7_gL12.ne (by omega))), trivial⟩ at_L12v6
   replace at139 := st32006.s at139
   replace hin1 := base_hin1.mono hle
   clear hb3
   have hb3 : Cat.At _ g3 0 d q := ⟨Mem.of_get aD, hin1⟩
   try simp only [Nat.zero_add, List.set_cons_succ, List.set_cons_zero] at at32006
   refine .nil (hK23 _ _ (.region (.mv rfl ?_)))
   refine .q rfl (.add rfl rfl rfl (by omega) (by omega)) ?_
   refine .mv rfl (.nil ?_)
   refine hKL4 ((i + 1, upd r3 (c.sumL d ++ (d.comp.take i).map (sumRow c.src.length)).length (some ⟨gL12v6, 0, none⟩), g88, g100, g139)) _ _ ?_ ?_ ⟨rfl, rfl, rfl, rfl, rfl, rfl, trivial⟩
   ·
    refine ⟨lst4, by (rw [take_map_snoc (d := 0) (by omega), ← List.append_assoc]; assumption), by exact ⟨.inr (by omega)⟩, by (rw [take_map_snoc (d := 0) (by omega), ← List.append_assoc]; assumption), by exact ⟨.inr (by omega)⟩, by (rw [take_map_snoc (d := []) (by omega), ← List.append_assoc, slsL_snoc]; assumption), by exact ⟨.inr (by omega)⟩, by assumption, by omega, by omega, by omega, by omega, by omega, by omega, ?_⟩
    have hg9 : g102 ≤ gL12v6 := pl_L12v6.ge (pl_L12.ge (Nat.le_refl _) (by omega)) (by omega)
    have hR' := hR.st rk (.cons hF (.cons hT (.cons (hR.neT hatC rfl) (.cons (hR.neT hat7 rfl) (.nil _ _)))))
    have hn1 := hR.ne (g := gL12v6) (by omega)
    have hn2 := hR.ne (g := g88) (by omega)
    have hn3 := hR.ne (g := g100) (by omega)
    have hrow := at_L12v6
    rw [take_map_snoc (d := []) (by omega), ← List.append_assoc]
    exact ⟨by omega, hR'.snoc2 hrow hn1 (by omega), ne_snoc hn2 (by omega), ne_snoc hn3 (by omega), ne_snoc hId (by omega)⟩
   (dsimp only; omega)
  try simp only [sps] at h75
  refine .exit ?_
  refine hK19 _ _ (.seq (fun K40 hK40 => .region ?_))
  obtain rfl : i = d.src.length := by omega
  rw [List.take_length] at at_LF
  rw [show d.tgt.take d.src.length = d.tgt from List.take_of_length_le (by omega)] at at_LT
  rw [show d.comp.take d.src.length = d.comp from List.take_of_length_le (by omega)] at at_LC hR hF hT hId
  refine .q rfl (.loadM ag_29_D rfl ⟨rfl, Mem.of_get at_Lg7⟩) ?_
  have hat4 := aR
  refine .r0 rfl rfl (.fillA rfl sz_29_D rfl rfl rfl rfl) ?_
  rintro _ H33001 ⟨rfl, st33001, at33001⟩
  replace hle := hle.st st33001 (fun k hk => ⟨by omega, trivial⟩)
  replace aD := st33001.s aD
  have ne_gLI_g4 : NE gLI g4 := .a
  replace aI := st33001.s aI ne_gLI_g4.ne
  have ne_g4_gLF : NE g4 gLF := ⟨pl_LF.ne ne_g4_gF.ne (by omega)⟩
  replace at_LF := st33001.s at_LF (Ne.symm ne_g4_gLF.ne)
  replace at_LT := st33001.same _ _ ⟨(Ne.symm (pl_LT.ne ne_g4_gT.ne (by omega))), trivial⟩ at_LT
  replace at_LC := st33001.same _ _ ⟨(Ne.symm (pl_LC.ne ne_g4_gC.ne (by omega))), trivial⟩ at_LC
  replace hin1 := base_hin1.mono hle
  have hb3 : Cat.At _ g3 0 d q := ⟨Mem.of_get aD, hin1⟩
  refine .nil (hK40 _ _ ?_)
  refine .ret ?_
  refine hret _ _ ?_
  refine ⟨_, _, _, _, rfl, ag_29_D, (by rfl), (Mem.of_get at33001), ?_⟩
  exact ⟨hle, gLF, gLT, gLI, gLC, r3, by simp [Cat.cells, Cat.sum, ownP, Cat.sumL, b3, b8, show d.idn.length = d.obj.toNat by omega], ⟨at_LF, at_LT, aI, at_LC, ge_LF, ge_LT, ge_LI, ge_LC, by assumption, Ne.symm nFI, Ne.symm nTI, hR.st st33001 (.cons (hR.neT hat4 rfl) (.nil _ _)), hF, hT, hId⟩⟩
end Go.Proofs.Ytjdedelneppnlaa
namespace Go.GL
open Go.RowKit Go.WideShapes Go.ChangeShapes Go.Deep

structure Imp1 (P : Program) (t : TypeId) (R : GHeap → Value → Prop) : Prop where
  mono : ∀ {H H' : GHeap} {g : Value}, H.Le H' → R H g → R H' g
  imp : ∀ {T : Type} {enc : TypeId × Value → T} {B : Nat} {w0 : World} {ρ : Place} {H : GHeap} {w : World} {held : Bool} {base fuel : Nat} {v : Value} {x : DataW T × List MemPlace}, Sim P B w0 ρ H w → w.heap.size ≤ B →
    DataW.trod enc P w 0 (fun _ => true) held fuel t v.cells.toList = some x → Value.okWide P w .any base t v → ∃ ρ' H' g, Sim P B w0 ρ' H' w ∧ Ext ρ ρ' ∧ H.Le H' ∧ VRel ρ' g v ∧ R H' g

structure ImpAll (P : Program) (ts : List TypeId) (R : GHeap → List Value → Prop) : Prop where
  imp : ∀ {T : Type} {enc : TypeId × Value → T} {B : Nat} {w0 : World} {ρ : Place} {H : GHeap} {w : World} {base : Nat} {vs : List Value} {ds : List (DataW T)} {ps : List MemPlace}, Sim P B w0 ρ H w → w.heap.size ≤ B →
    DataW.TrodAll enc P w 0 (fun _ => true) true ts vs ds ps → (∀ (j : Nat) t v, ts[j]? = some t → vs[j]? = some v → Value.okWide P w .any base t v) → ds.length = ts.length ∧ ∃ ρ' H' gs, Sim P B w0 ρ' H' w ∧ Ext ρ ρ' ∧ H.Le H' ∧ LRel ρ' gs vs ∧ R H' gs
theorem ImpAll.nil {P : Program} : ImpAll P [] (fun _ gs => gs = []) where
  imp := by
    intro T enc B w0 ρ H w base vs ds ps hs hB h hv
    obtain ⟨rfl, rfl, rfl⟩ := trodAll_nil h
    exact ⟨rfl, ρ, H, [], hs, .refl ρ, .refl H, .nil ρ, rfl⟩
theorem ImpAll.cons {P : Program} {t : TypeId} {ts : List TypeId} {R1 : GHeap → Value → Prop} {R : GHeap → List Value → Prop} (h1 : Imp1 P t R1) (h2 : ImpAll P ts R) : ImpAll P (t :: ts) (fun H gs => ∃ g r, gs = g :: r ∧ R1 H g ∧ R H r) where
  imp := by
    intro T enc B w0 ρ H w base vs ds ps hs hB h hv
    obtain ⟨v, vs, d, ds, p, q, rfl, rfl, rfl, ⟨fuel, k1⟩, k2⟩ := trodAll_cons h
    obtain ⟨ρ1, H1, g, s1, e1, l1, v1, r1⟩ := h1.imp hs hB k1 (hv 0 t v rfl rfl)
    obtain ⟨hl, ρ2, H2, gs, s2, e2, l2, v2, r2⟩ := h2.imp s1 hB k2 (fun j t v ht hj => hv (j + 1) t v (by simpa using ht) (by simpa using hj))
    exact ⟨by simp [hl], ρ2, H2, g :: gs, s2, e1.trans e2, l1.trans l2, .cons (v1.mono e2) v2, g, gs, rfl, h1.mono l2 r1, r2⟩

theorem law_calls {P : Program} {f : FuncId} {fn : Func} {ts : List TypeId} {tb : TypeId} {R : GHeap → List Value → Prop} (hI : ImpAll P ts R) (hp : fn.params = ts.toArray)
    (hc : ∀ H gs, R H gs → GCalls P f gs H fun v _ => v = .bool true)
    {T : Type} {enc : TypeId × Value → T} {W : World} {base : Nat} {args : Array Value} {s : ChangeSpec} {apart fresh handsOn again : Bool} {ds gs : List (DataW T)} {before : List MemPlace}
    (hval : ∀ (j : Nat) t v, fn.params[j]? = some t → args[j]? = some v → Value.okWide P W .any base t v)
    (hW : DataW.Whole enc P fn.params.toList s.vars apart W args.toList ds gs before)
    (hl : laidOutB P = true) (hr : readB P fn.params.toList = true) (hv : s.vars = []) (hrt : fn.resultTypes = #[tb]) (htb : P.underlying tb = some .bool)
    (hs : ∀ ds : List (DataW T), ds.length = ts.length → (s.fn T ds).results = [.lit (.bool true)] ∧ (s.fn T ds).args = ds ∧ (s.fn T ds).vars = []) :
    Calls P f args W fun e W' => ∃ v, e = .returned v ∧ s.post enc P fn apart fresh handsOn again W args v W' := by
  have hWW := hW
  obtain ⟨p, q, hA, _⟩ := hW
  rw [hp] at hA
  obtain ⟨hlen, ρ, H, gs', hs', _, _, hrel, hR⟩ := hI.imp (base := base) (Sim.start P W) (Nat.le_refl _) (by simpa using hA) (fun j t v ht hj => hval j t v (by rw [hp]; simpa using ht) (by simpa using hj))
  have := (hc H gs' hR) _ _ ρ args.toList W hs' hrel
  rw [Array.toArray_toList] at this
  refine this.mono fun e W' ⟨v, c, ρ', H', he, hv', _, hsim, hrv⟩ => ?_
  subst hv'
  cases hrv
  exact ⟨_, he, law_post hl hr hv hrt htb hWW (hs ds hlen).1 (hs ds hlen).2.1 (hs ds hlen).2.2 hsim.below⟩
end Go.GL
namespace Go.GL
open Go.RowKit Go.WideShapes Go.ChangeShapes Go.Deep
def Bytes (H : GHeap) (a : Option Addr) (xs : List Int) : Prop := (SlA H a xs.length fun i => .int .u8 (xs.getD i 0)) ∧ ∀ i, 0 ≤ xs.getD i 0 ∧ xs.getD i 0 ≤ 255
theorem Bytes.mono {H H' : GHeap} {a : Option Addr} {xs : List Int} (h : Bytes H a xs) (hle : H.Le H') : Bytes H' a xs := ⟨SlA.mono h.1 hle, h.2⟩
def u8T (P : Program) (t : TypeId) : Bool := match P.underlying t with | some (.int .u8) => true | _ => false
def bytesDT (P : Program) (t : TypeId) : Bool := match P.underlying t with | some (.slice e) => u8T P e && (P.cellsOf e == 1) | _ => false
theorem bytesDT_run {P : Program} {t : TypeId} (h : bytesDT P t = true) : ∃ e, P.underlying t = some (.slice e) ∧ P.underlying e = some (.int .u8) ∧ P.cellsOf e = 1 := by
  unfold bytesDT at h
  split at h
  · simp only [Bool.and_eq_true, beq_iff_eq] at h
    refine ⟨_, by assumption, ?_, h.2⟩
    have h1 := h.1
    unfold u8T at h1
    split at h1
    · assumption
    · cases h1
  · cases h
def RBytes (ρ : Place) (H : GHeap) (cs : List Value) : Prop := ∃ a xs c, cs = [c] ∧ VRel ρ (.slice a xs.length xs.length) c ∧ Bytes H a xs ∧ xs.length ≤ 9223372036854775807
theorem import_bytes {P : Program} {t : TypeId} (ht : bytesDT P t = true) : Imports P t RBytes := by
  intro T enc B w0 ρ H w held fuel cs x hs hB h
  obtain ⟨e, h1, h2, h3⟩ := bytesDT_run ht
  rcases open_ints h1 h2 h3 h with ⟨rfl, _⟩ | ⟨a, len, cap, zs, rfl, _, hl, hm, hz, _, hc, hw⟩
  · exact ⟨ρ, H, hs, .refl ρ, .refl H, none, [], _, rfl, .nilSlice, ⟨.inl rfl, fun i => by simp⟩, by simp⟩
  · simp only [if_true] at hz
    have hlen : (zs.take len).length = len := by simp; omega
    obtain ⟨a', ρ', H', k1, k2, k3, k4, k5⟩ := hs.list hB (f := fun i => .int .u8 ((zs.take len).getD i 0)) hl hm (fun i hi => hc i (by omega)) (fun i hi => by rw [take_getD zs hi]; exact .int _ _)
    refine ⟨ρ', H', k1, k2, k3, a', zs.take len, _, rfl, by rw [hlen]; exact k4, ⟨by rw [hlen]; exact k5, fun i => ?_⟩, by rw [hlen]; unfold maxLen at hm; omega⟩
    rw [List.getD_eq_getElem?_getD]
    cases e : (zs.take len)[i]? with
    | none => simp
    | some n =>
      have := hw n (List.mem_of_mem_take (List.mem_of_getElem? e))
      simp [Lit.wf, IntKind.min, IntKind.max, IntKind.signed, IntKind.bits] at this
      simp only [Option.getD_some]
      omega
theorem imp1_bytes {P : Program} {t : TypeId} (ht : bytesDT P t = true) : Imp1 P t (fun H g => ∃ a xs, g = .slice a xs.length xs.length ∧ Bytes H a xs ∧ xs.length ≤ 9223372036854775807) where
  mono h := fun ⟨a, xs, h1, h2, h3⟩ => ⟨a, xs, h1, h2.mono h, h3⟩
  imp := by
    intro T enc B w0 ρ H w held base fuel v x hs hB h hv
    obtain ⟨e, hu, _⟩ := bytesDT_run ht
    obtain ⟨a, l, c, rfl⟩ := okWide_slice hu hv
    obtain ⟨ρ', H', h1, h2, h3, a', xs, c', h4, h5, h6, h7⟩ := import_bytes ht hs hB h
    have : Value.slice a l c = c' := by simpa [Value.cells] using h4
    subst this
    exact ⟨ρ', H', _, h1, h2, h3, h5, a', xs, rfl, h6, h7⟩
def andU (a b : Int) : Int := IntKind.wrap .u64 ((BitVec.ofInt 64 a &&& BitVec.ofInt 64 b).toNat : Nat)
theorem andU_le (a : Int) : 0 ≤ andU a 16777215 ∧ andU a 16777215 ≤ 16777215 := by
  have h : (BitVec.ofInt 64 a &&& BitVec.ofInt 64 16777215).toNat ≤ 16777215 := by
    rw [BitVec.toNat_and]
    exact Nat.le_trans Nat.and_le_right (by decide)
  unfold andU IntKind.wrap
  simp only [IntKind.bits, IntKind.signed, Bool.false_and, Bool.false_eq_true, if_false]
  omega
section
variable {P : Program} {fr : Slots} {H : GHeap}
theorem MStep.shrU {t u : TypeId} {x y : Operand} {j : IntKind} {a : Int} (hx : ev fr x = some (.int .u64 a)) (hy : ev fr y = some (.int j 33)) : MStep P fr H (.binOp .shr t x y u) (.int .u64 (a.fdiv (2 ^ 33))) :=
  .intOp hx hy fun w => by
    show (Op.shift .shr .u64 a j 33).run P w = _
    unfold Op.shift
    rw [if_neg (by decide)]
    rfl
theorem MStep.andU {t u : TypeId} {x y : Operand} {a b : Int} (hx : ev fr x = some (.int .u64 a)) (hy : ev fr y = some (.int .u64 b)) : MStep P fr H (.binOp .and t x y u) (.int .u64 (Go.GL.andU a b)) :=
  .intOp hx hy fun w => rfl
end
theorem cell_same {H H' : GHeap} {b i : Nat} {v : Value} (h : H.cell b i = some v) (s : ∀ o, H.get b = some o → H'.get b = some o) : H'.cell b i = some v := by
  unfold GHeap.cell at h ⊢
  cases e : H.get b with
  | none => rw [e] at h; simp at h
  | some o => rw [s o e]; rw [e] at h; exact h
theorem Bytes.st {H H' : GHeap} {a : Option Addr} {xs : List Int} {bs : List Nat} (h : Bytes H a xs) (s : St bs H H') (ho : ∀ b o t, a = some ⟨b, o, t⟩ → out bs b) : Bytes H' a xs := by
  refine ⟨h.1.imp id fun ⟨g, off, ha, hc⟩ => ⟨g, off, ha, fun i hi => cell_same (hc i hi) fun o hg => s.same g o (ho _ _ _ ha) hg⟩, h.2⟩
def DSrc (T : TypeId) (H : GHeap) (g : Nat) : Prop :=
  ∃ (a : Option Addr) (xs : List Int) (p h : Int), H.get g = some (.row [.slice a xs.length xs.length, .int .i64 p, .int .u64 h] T true) ∧ (0 ≤ p ∧ p ≤ 4096) ∧ xs.length ≤ 4096 ∧ Bytes H a xs ∧ ∀ b o t, a = some ⟨b, o, t⟩ → b < g
theorem DSrc.le {T : TypeId} {H H' : GHeap} {g : Nat} (h : DSrc T H g) (s : H.Le H') : DSrc T H' g := by
  obtain ⟨a, xs, p, hh, h1, h2, h3, h4, h5⟩ := h
  exact ⟨a, xs, p, hh, s.2 _ _ h1, h2, h3, h4.mono s, h5⟩
theorem DSrc.st {T : TypeId} {H H' : GHeap} {g : Nat} {bs : List Nat} (h : DSrc T H g) (s : St bs H H') (f : ∀ k, k < g + 1 → out [] k → out bs k) : DSrc T H' g := by
  obtain ⟨a, xs, p, hh, h1, h2, h3, h4, h5⟩ := h
  exact ⟨a, xs, p, hh, s.same _ _ (f g (by omega) trivial) h1, h2, h3, h4.st s fun b o t ha => f b (by have := h5 b o t ha; omega) trivial, h5⟩
theorem DSrc.sA {T : TypeId} {H H' : GHeap} {g : Nat} {bs : List Nat} (h : DSrc T H g) (s : St bs H H') (f : ∀ k, k < g + 1 → out [] k → out bs k := by intro k hk ho; simp only [out, and_true] at ho ⊢ <;> first | exact ho | exact ho.1 | exact ho.2 | exact ho.2.1 | exact ho.2.2 | exact ho.2.2.1 | exact ho.2.2.2 | omega) : DSrc T H' g := h.st s f
theorem DSrc.sQ {T : TypeId} {H H' : GHeap} {g : Nat} {bs : List Nat} (h : DSrc T H g) (s : St bs H H') (f : ∀ k, k < g + 1 → out [] k → out bs k := by intro k hk ho; simp only [out, and_true] at ho ⊢ <;> first | exact ho | exact ho.1 | exact ho.2 | exact ho.2.1 | exact ho.2.2 | exact ho.2.2.1 | exact ho.2.2.2 | exact PL.ne (by assumption) (by first | exact ho | exact ho.1 | exact ho.2 | exact ho.2.1 | exact ho.2.2 | exact ho.2.2.1 | exact ho.2.2.2 | exact PL.ne (by assumption) (by first | exact ho | exact ho.1 | exact ho.2 | exact ho.2.1 | exact ho.2.2 | exact ho.2.2.1 | exact ho.2.2.2 | exact PL.ne (by assumption) (by first | exact ho | exact ho.1 | exact ho.2 | exact ho.2.1 | exact ho.2.2 | exact ho.2.2.1 | exact ho.2.2.2 | omega) (by omega) | omega) (by omega) | omega) (by omega) | omega) : DSrc T H' g := h.st s f
theorem DSrc.sP {T : TypeId} {H H' : GHeap} {g : Nat} {bs : List Nat} (h : DSrc T H g) (s : St bs H H') (f : ∀ k, k < g + 1 → out [] k → out bs k := by intro k hk ho; simp only [out, and_true] at ho ⊢ <;> first | exact ho | exact ho.1 | exact ho.2 | exact ho.2.1 | exact ho.2.2 | exact ho.2.2.1 | exact ho.2.2.2 | exact PL.ne (by assumption) (by first | exact ho | exact ho.1 | exact ho.2 | exact ho.2.1 | exact ho.2.2 | exact ho.2.2.1 | exact ho.2.2.2 | omega) (by omega) | omega) : DSrc T H' g := h.st s f
theorem DSrc.lt {T : TypeId} {H : GHeap} {g : Nat} (h : DSrc T H g) : g < H.next := by
  obtain ⟨a, xs, p, hh, h1, _⟩ := h
  exact GHeap.ltg h1
theorem tmod_bd {x n : Int} (h0 : 0 ≤ x) (hn : 1 ≤ n) : 0 ≤ x.tmod n ∧ x.tmod n < n := ⟨Int.tmod_nonneg n h0, Int.tmod_lt_of_pos x (by omega)⟩
def Drawn (T : TypeId) (g : Nat) (n : Int) (H : GHeap) (v : Value) (H' : GHeap) : Prop := ∃ k, v = .int .i64 k ∧ 0 ≤ k ∧ (1 ≤ n → k < n) ∧ (n < 1 → k = 0) ∧ St [g] H H' ∧ DSrc T H' g
end Go.GL
namespace Go.Proofs.Ytjdedelneppnlaa
open Go Go.GL Go.RowKit Go.Proofs
theorem us_118_Da : (Try.prog.underlying 118).isSome = true := by kernel_rfl
theorem it_2_Da : intT Try.prog 2 = some .i64 := by kernel_rfl
theorem fo_120_2_Da : fieldOff Try.prog 120 2 = some 2 := by kernel_rfl
theorem on_118_Da : oneT Try.prog 118 = true := by kernel_rfl
theorem sz_118_Da : (Try.prog.info? 118).map (·.size) = some 1 := by kernel_rfl
theorem fo_120_1_Da : fieldOff Try.prog 120 1 = some 1 := by kernel_rfl
theorem on_3_Da : oneT Try.prog 3 = true := by kernel_rfl
theorem fo_120_0_Da : fieldOff Try.prog 120 0 = some 0 := by kernel_rfl
theorem on_36_Da : oneT Try.prog 36 = true := by kernel_rfl
theorem sl_36_Da : sliceT Try.prog 36 = some (5, 1) := by kernel_rfl
theorem on_5_Da : oneT Try.prog 5 = true := by kernel_rfl
theorem us_5_Da : (Try.prog.underlying 5).isSome = true := by kernel_rfl
theorem sz_3_Da : (Try.prog.info? 3).map (·.size) = some 1 := by kernel_rfl
theorem us_3_Da : (Try.prog.underlying 3).isSome = true := by kernel_rfl
theorem it_118_Da : intT Try.prog 118 = some .u64 := by kernel_rfl
theorem bt_120_Da : buildT Try.prog 120 = some ([.slice none 0 0, .int .i64 0, .int .u64 0], [(0, 1), (1, 1), (2, 1)]) := by kernel_rfl
theorem sz_120_Da : (Try.prog.info? 120).map (·.size) = some 3 := by kernel_rfl
theorem l01Next_c {gS : Nat} {n : Int} {H : GHeap} (hs : DSrc 120 H gS := by assumption) :
    GCalls Try.prog 70 [.pointer (some ⟨gS, 0, none⟩), .int .i64 n] H (Drawn 120 gS n H) := by
  obtain ⟨a, xs, p, hh, hg, ⟨p0, p1⟩, hx, hb, hlt⟩ := hs
  have hx0 := andU_le ((IntKind.wrap .u64 (IntKind.wrap .u64 (hh * 6364136223846793005) + 1442695040888963407)).fdiv (2 ^ 33))
  have hlo : ∀ b o t, a = some ⟨b, o, t⟩ → out [gS] b := fun b o t ha => ⟨by have := hlt b o t ha; omega, trivial⟩
  refine GCalls.body (N := 58) (rs := [.tmp 4]) Try.func70 rfl rfl rfl rfl (fun Qx hret hend => ?_)
  refine .fg [0, 1] rfl ?_
  have hst := St.refl [gS] H
  have hbs := hb.st hst hlo
  refine .seq (fun K1 hK1 => .region (.mv rfl (.nil (hK1 _ _ (.seq (fun K2 hK2 => .seq (fun K3 hK3 => .region (.mv rfl (.q rfl (.cmp rfl rfl rfl) (.nil (hK3 _ _ ?_)))))))))))
  refine .cond rfl (fun h7 => ?_) (fun h7 => ?_)
  ·
   try simp only [sps] at h7
   refine .seq (fun K4 hK4 => .region (.mv rfl (.nil (hK4 _ _ ?_))))
   refine .ret ?_
   refine hret _ _ ?_
   refine ⟨_, rfl, ?_⟩
   exact ⟨0, rfl, by omega, fun h => by omega, fun _ => rfl, hst, a, xs, p, hh, hg, ⟨p0, p1⟩, hx, hbs, hlt⟩
  try simp only [sps] at h7
  refine .skip ?_
  refine hK2 _ _ (.seq (fun K5 hK5 => .region (.mv rfl (.mv rfl (.q rfl (.nilCheck rfl) (.q rfl (.fieldAddr fo_120_2_Da rfl) ?_))))))
  refine .q rfl (.load on_118_Da rfl (by first | assumption | exact Mem.of_get hg 2 _ rfl)) ?_
  refine .q rfl (.arith rfl rfl rfl) (.q rfl (.arith rfl rfl rfl) (.q rfl (.nilCheck rfl) (.q rfl (.fieldAddr fo_120_2_Da rfl) ?_)))
  refine .r0 rfl rfl (.storeR rfl sz_118_Da rfl rfl rfl (by assumption) (by first | exact Nat.le_of_ble_eq_true rfl | (simp; done) | (simp <;> omega))) ?_
  rintro _ H3009 ⟨rfl, st3009, at3009⟩
  replace hst := hst.sA st3009
  clear hbs
  have hbs := hb.st hst hlo
  have c0 := hbs.1
  have c1 := hbs.2 p.toNat
  try simp only [Nat.zero_add, List.set_cons_succ, List.set_cons_zero] at at3009
  refine .nil (hK5 _ _ (.seq (fun K6 hK6 => .region (.mv rfl (.q rfl (.nilCheck rfl) (.q rfl (.fieldAddr fo_120_2_Da rfl) ?_))))))
  refine .q rfl (.load on_118_Da rfl (by first | assumption | exact Mem.of_get at3009 2 _ rfl)) ?_
  refine .q rfl (.shrU rfl rfl) (.q rfl (.andU rfl rfl) ?_)
  refine .q rfl (.conv64 us_118_Da it_2_Da rfl (Int.le_trans (by decide) (andU_le _).1) (Int.le_trans (andU_le _).2 (by decide))) ?_
  refine .mv rfl (.nil (hK6 _ _ (.seq (fun K7 hK7 => .seq (fun K8 hK8 => ?_)))))
  refine .regionD mo_B (.q 0 (.q 1 (.q 2 (.q 3 (.q 4 (.q 5 (.q 6 (.q 7 (.q 8 (.q 9 (.done))))))))))) (by kernel_rfl) ?_
  refine .mv rfl rfl (.q rfl (.nilCheck rfl) (.q rfl (.fieldAddr fo_120_1_Da rfl) ?_))
  refine .q rfl (.load on_3_Da rfl (by first | assumption | exact Mem.of_get at3009 1 _ rfl)) ?_
  refine .mv rfl rfl (.q rfl (.nilCheck rfl) (.q rfl (.fieldAddr fo_120_0_Da rfl) ?_))
  refine .q rfl (.load on_36_Da rfl (by first | assumption | exact Mem.of_get at3009 0 _ rfl)) ?_
  refine .q rfl (.len sl_36_Da rfl) (.q rfl (.cmp rfl rfl rfl) ?_)
  refine .done ?_
  refine hK8 _ _ ?_
  refine .cond rfl (fun h33 => ?_) (fun h33 => ?_)
  ·
   try simp only [sps] at h33
   refine .seq (fun K9 hK9 => ?_)
   refine .regionD mo_B (.q 0 (.q 1 (.q 2 (.q 3 (.q 4 (.q 5 (.q 6 (.q 7 (.q 8 (.q 9 (.q 10 (.q 11 (.q 12 (.c 13 0 (.done))))))))))))))) (by kernel_rfl) ?_
   refine .mv rfl rfl (.mv rfl rfl (.q rfl (.nilCheck rfl) (.q rfl (.fieldAddr fo_120_0_Da rfl) ?_)))
   refine .q rfl (.load on_36_Da rfl (by first | assumption | exact Mem.of_get at3009 0 _ rfl)) ?_
   refine .mv rfl rfl (.q rfl (.nilCheck rfl) (.q rfl (.fieldAddr fo_120_1_Da rfl) ?_))
   refine .q rfl (.load on_3_Da rfl (by first | assumption | exact Mem.of_get at3009 1 _ rfl)) ?_
   refine .q rfl (.idx1 sl_36_Da (by assumption) rfl rfl (by omega) (by omega)) ?_
   refine .q rfl (.loadE on_5_Da (by assumption) rfl (by omega)) ?_
   refine .q rfl (.conv64 us_5_Da it_2_Da rfl (by omega) (by omega)) ?_
   refine .q rfl (.add rfl rfl rfl (by omega) (by omega)) ?_
   refine .d0 rfl rfl rfl rfl (.quiet (.assign rfl) CIs.mk) ?_
   refine .done ?_
   refine hK9 _ _ (.region (.mv rfl (.mv rfl (.q rfl (.nilCheck rfl) (.q rfl (.fieldAddr fo_120_1_Da rfl) ?_)))))
   refine .q rfl (.load on_3_Da rfl (by first | assumption | exact Mem.of_get at3009 1 _ rfl)) ?_
   refine .q rfl (.add rfl rfl rfl (by omega) (by omega)) ?_
   refine .q rfl (.nilCheck rfl) (.q rfl (.fieldAddr fo_120_1_Da rfl) ?_)
   refine .r0 rfl rfl (.storeR rfl sz_3_Da rfl rfl rfl (by assumption) (by first | exact Nat.le_of_ble_eq_true rfl | (simp; done) | (simp <;> omega))) ?_
   rintro _ H7008 ⟨rfl, st7008, at7008⟩
   replace hst := hst.sA st7008
   clear hbs c0 c1
   have hbs := hb.st hst hlo
   have c1 := hbs.2 p.toNat
   try simp only [Nat.zero_add, List.set_cons_succ, List.set_cons_zero] at at7008
   refine .nil (hK7 _ _ (.seq (fun K10 hK10 => .region (.mv rfl (.mv rfl ?_)))))
   refine .q rfl (.rem rfl rfl (by omega)) ?_
   refine .mv rfl (.nil (hK10 _ _ ?_))
   refine .ret ?_
   refine hret _ _ ?_
   refine ⟨_, rfl, ?_⟩
   have hm := tmod_bd (x := Go.GL.andU ((IntKind.wrap .u64 (IntKind.wrap .u64 (hh * 6364136223846793005) + 1442695040888963407)).fdiv (2 ^ 33)) 16777215 + xs.getD p.toNat 0) (n := n) (by omega) (by omega)
   exact ⟨_, rfl, hm.1, fun _ => hm.2, fun h => by omega, hst, a, xs, p + 1, _, at7008, ⟨by omega, by omega⟩, hx, hbs, hlt⟩
  try simp only [sps] at h33
  refine .skip ?_
  refine hK7 _ _ (.seq (fun K11 hK11 => .region (.mv rfl (.mv rfl ?_))))
  refine .q rfl (.rem rfl rfl (by omega)) ?_
  refine .mv rfl (.nil (hK11 _ _ ?_))
  refine .ret ?_
  refine hret _ _ ?_
  refine ⟨_, rfl, ?_⟩
  have hm := tmod_bd (x := Go.GL.andU ((IntKind.wrap .u64 (IntKind.wrap .u64 (hh * 6364136223846793005) + 1442695040888963407)).fdiv (2 ^ 33)) 16777215) (n := n) (by omega) (by omega)
  exact ⟨_, rfl, hm.1, fun _ => hm.2, fun h => by omega, hst, a, xs, p, _, at3009, ⟨p0, p1⟩, hx, hbs, hlt⟩
theorem l01From_c {a : Option Addr} {xs : List Int} {H : GHeap} (hb : Bytes H a xs := by assumption) (hlt : ∀ b o t, a = some ⟨b, o, t⟩ → b < H.next) (hx : xs.length ≤ 4096 := by omega) :
    GCalls Try.prog 51 [.slice a xs.length xs.length] H (fun v H' => H.Le H' ∧ ∃ g, v = .pointer (some ⟨g, 0, none⟩) ∧ H.next ≤ g ∧ DSrc 120 H' g) := by
  refine GCalls.body (N := 38) (rs := [.tmp 2]) Try.func51 rfl rfl rfl rfl (fun Qx hret hend => ?_)
  refine .fg [0] rfl ?_
  have hle := GHeap.Le.refl H
  have base_hb := hb
  refine .seq (fun K1 hK1 => .region (.mv rfl (.nil (hK1 _ _ (.seq (fun K2 hK2 => .region (.mv rfl (.mv rfl (.q rfl (.len sl_36_Da rfl) (.q rfl (.conv us_3_Da it_118_Da rfl) (.q rfl (.arith rfl rfl rfl) (.q rfl (.build bt_120_Da rfl rfl rfl) ?_))))))))))))
  refine .R rfl (.boxR rfl sz_120_Da rfl) ?_
  rintro _ H11 ⟨g11, rfl, le11, ge11, at11⟩
  replace hle := hle.trans le11
  refine .mv rfl (.nil (hK2 _ _ (.seq (fun K3 hK3 => .seq (fun K4 hK4 => .region (.mv rfl (.nil (hK4 _ _ ?_))))))))
  refine .block ?_
  refine .loopR (σ := Nat × Int) [(0, some _), (3, some _)] (fun (k, hh) => [(4, some (.int .i64 (k : Int)))]) (fun (k, hh) H' => St [g11] H11 H' ∧ H'.get g11 = some (.row ([.slice a xs.length xs.length, .int .i64 0, .int .u64 hh]) 120 true) ∧ k ≤ xs.length) (fun (k, hh) => xs.length - k) ((0, IntKind.wrap .u64 (7019 + IntKind.wrap .u64 (xs.length : Int)))) ⟨rfl, rfl, trivial⟩ ⟨rfl, trivial⟩ ?_ ?_
  ·
   refine ⟨.refl _ _, by first | assumption | exact at11 | simpa using at11, ?_⟩
   omega
  rintro ⟨k, hh⟩ HL1 ⟨lst1, at_Lg11, hI⟩ KL1 hKL1
  refine .forget (fr' := [(4, some (.int .i64 (k : Int))), (0, some _), (3, some _)]) ⟨rfl, rfl, rfl, trivial⟩ ?_
  replace hle := hle.st lst1 (fun k hk => ⟨by omega, trivial⟩)
  replace hb := base_hb.mono hle
  refine .seq (fun K5 hK5 => .seq (fun K6 hK6 => .region (.mv rfl (.mv rfl (.q rfl (.len sl_36_Da rfl) (.q rfl (.cmp rfl rfl rfl) (.mv rfl ?_)))))))
  refine .split (fun h16 => ?_) (fun h16 => ?_)
  ·
   try simp only [sps] at h16
   refine .qg rfl (.move rfl) (.qg rfl (.cmp rfl rfl rfl) (.q rfl (.pickT rfl rfl) (.nil (hK6 _ _ ?_))))
   refine .cond rfl (fun h19 => ?_) (fun h19 => ?_)
   ·
    simp only [sps] at h19
    refine .skip ?_
    refine hK5 _ _ (.seq (fun K7 hK7 => ?_))
    refine .block ?_
    refine .regionD mo_B (.q 0 (.q 1 (.q 2 (.q 3 (.q 4 (.q 5 (.q 6 (.q 7 (.q 8 (.q 9 (.q 10 (.q 11 (.q 12 (.q 13 (.q 14 (.c 15 0 (.done))))))))))))))))) (by kernel_rfl) ?_
    have c0 := hb.1
    refine .mv rfl rfl (.mv rfl rfl (.q rfl (.nilCheck rfl) (.q rfl (.fieldAddr fo_120_2_Da rfl) ?_)))
    refine .q rfl (.load on_118_Da rfl (by first | assumption | exact Mem.of_get at_Lg11 2 _ rfl)) ?_
    refine .q rfl (.arith rfl rfl rfl) (.mv rfl rfl (.mv rfl rfl ?_))
    refine .q rfl (.idxN sl_36_Da (by assumption) rfl rfl (by omega)) ?_
    refine .q rfl (.loadE on_5_Da (by assumption) rfl (by omega)) ?_
    refine .q rfl (.conv us_5_Da it_118_Da rfl) (.q rfl (.arith rfl rfl rfl) (.q rfl (.arith rfl rfl rfl) (.q rfl (.nilCheck rfl) (.q rfl (.fieldAddr fo_120_2_Da rfl) ?_))))
    refine .r0 rfl rfl rfl (.storeR rfl sz_118_Da rfl rfl rfl (by assumption) (by first | exact Nat.le_of_ble_eq_true rfl | (simp; done) | (simp <;> omega))) ?_
    rintro _ H5015 ⟨rfl, st5015, at5015⟩
    replace lst1 := lst1.sA st5015
    try simp only [Nat.zero_add, List.set_cons_succ, List.set_cons_zero] at at5015
    refine .done ?_
    refine hK7 _ _ (.region (.mv rfl ?_))
    refine .q rfl (.add rfl rfl rfl (by omega) (by omega)) ?_
    refine .mv rfl (.nil ?_)
    refine hKL1 ((k + 1, IntKind.wrap .u64 (IntKind.wrap .u64 (IntKind.wrap .u64 (hh * 1099511628211) + IntKind.wrap .u64 (xs.getD k 0)) + 7))) _ _ ?_ ?_ ⟨rfl, rfl, rfl, trivial⟩
    ·
     refine ⟨lst1, by assumption, ?_⟩
     omega
    (dsimp only; omega)
   simp only [sps] at h19
   refine .exit ?_
   refine hK3 _ _ (.seq (fun K8 hK8 => .region (.mv rfl (.mv rfl (.nil (hK8 _ _ ?_))))))
   refine .ret ?_
   refine hret _ _ ?_
   refine ⟨_, rfl, ?_⟩
   exact ⟨hle, g11, rfl, by omega, a, xs, 0, hh, at_Lg11, ⟨by omega, by omega⟩, hx, hb, fun b o t ha => by have := hlt b o t ha; omega⟩
  try simp only [sps] at h16
  refine .z rfl (.z rfl (.q rfl (.pickF rfl rfl) (.nil (hK6 _ _ ?_))))
  refine .condF rfl ?_
  refine .exit ?_
  refine hK3 _ _ (.seq (fun K9 hK9 => .region (.mv rfl (.mv rfl (.nil (hK9 _ _ ?_))))))
  refine .ret ?_
  refine hret _ _ ?_
  refine ⟨_, rfl, ?_⟩
  exact ⟨hle, g11, rfl, by omega, a, xs, 0, hh, at_Lg11, ⟨by omega, by omega⟩, hx, hb, fun b o t ha => by have := hlt b o t ha; omega⟩
theorem l01Pick_c {gS : Nat} {a : Option Addr} {xs : List Int} {H : GHeap} (hs : DSrc 120 H gS := by assumption) (hl : ∀ H', St [gS] H H' → Ints H' a xs) (h0 : 0 < xs.length) :
    GCalls Try.prog 102 [.pointer (some ⟨gS, 0, none⟩), .slice a xs.length xs.length] H (fun v H' => ∃ i, i < xs.length ∧ v = .int .i64 (xs.getD i 0) ∧ St [gS] H H' ∧ DSrc 120 H' gS) := by
  refine GCalls.body (N := 12) (rs := [.tmp 4]) Try.func102 rfl rfl rfl rfl (fun Qx hret hend => ?_)
  refine .fg [0, 1] rfl ?_
  have hst := St.refl [gS] H
  refine .seq (fun K1 hK1 => .region (.mv rfl (.nil (hK1 _ _ (.seq (fun K2 hK2 => .region (.mv rfl (.mv rfl (.mv rfl (.q rfl (.len sl_22_A rfl) ?_))))))))))
  refine .call rfl rfl rfl rfl @Try.call70 rfl (l01Next_c) ?_
  rintro _ H9 ⟨k9, rfl, ka9, kb9, kc9, st9, hs⟩
  replace hst := hst.sA st9
  have i0 := hl _ hst
  refine .q rfl (.idx1 sl_22_A (by assumption) rfl rfl (by omega) (by omega)) ?_
  refine .q rfl (.loadI on_2_A (by assumption) rfl (by omega)) ?_
  refine .mv rfl (.nil (hK2 _ _ ?_))
  refine .ret ?_
  refine hret _ _ ?_
  refine ⟨_, rfl, ?_⟩
  exact ⟨_, by omega, rfl, hst, hs⟩
end Go.Proofs.Ytjdedelneppnlaa
namespace Go.GL
theorem rng_snoc {f : Nat → Int} {i : Nat} : (List.range (i + 1)).map f = (List.range i).map f ++ [f i] := by rw [List.range_succ, List.map_append]; rfl
def Cat.opRow (c : Cat) (f g : Nat) : List Int := (List.range g).map fun g => (c.comp.getD g []).getD f 0
def Cat.opTab (c : Cat) (k : Nat) : List (List Int) := (List.range k).map fun f => c.opRow f c.src.length
def Cat.op (c : Cat) : Cat := ⟨c.obj, c.tgt, c.src, c.idn, c.opTab c.src.length⟩
@[simp] theorem Cat.length_opRow (c : Cat) (f g : Nat) : (c.opRow f g).length = g := by simp [opRow]
@[simp] theorem Cat.length_opTab (c : Cat) (k : Nat) : (c.opTab k).length = k := by simp [opTab]
theorem Cat.opRow_snoc {c : Cat} {f g : Nat} : c.opRow f (g + 1) = c.opRow f g ++ [(c.comp.getD g []).getD f 0] := rng_snoc
theorem Cat.opTab_snoc {c : Cat} {k : Nat} : c.opTab (k + 1) = c.opTab k ++ [c.opRow k c.src.length] := by unfold opTab; rw [List.range_succ, List.map_append]; rfl
theorem Cat.opTab_get {c : Cat} {k i : Nat} (h : i < k) : (c.opTab k).getD i [] = c.opRow i c.src.length := by unfold opTab; simp [List.getD_eq_getElem?_getD, h]
theorem Cat.opRow_get {c : Cat} {f g j : Nat} (h : j < g) : (c.opRow f g).getD j 0 = (c.comp.getD j []).getD f 0 := by unfold opRow; simp [List.getD_eq_getElem?_getD, h]
theorem Cat.Rect.op {c : Cat} {N : Nat} (h : c.Rect N) : c.op.Rect N := by
  obtain ⟨h1, h2, h3, h4, h5, h6, h7, h8, h9, h10⟩ := h
  refine ⟨h1, by simp only [Cat.op]; omega, by simp only [Cat.op]; omega, h5, h4, h6, h7, by simp [Cat.op]; omega, fun f hf => ?_, fun f hf g hg => ?_⟩
  · simp only [Cat.op, length_opTab] at hf ⊢
    rw [opTab_get hf, length_opRow]; omega
  · simp only [Cat.op, length_opTab] at hf hg ⊢
    rw [opTab_get hf, opRow_get (by omega)]
    exact h10 g (by omega) f hf
theorem Cat.Rect.mono {c : Cat} {N M : Nat} (h : c.Rect N) (hm : N ≤ M) : c.Rect M := by
  obtain ⟨h1, h2, h3, h4, h5, h6, h7, h8, h9, h10⟩ := h
  exact ⟨⟨h1.1, by omega⟩, by omega, h3, fun i hi => by have := h4 i hi; omega, fun i hi => by have := h5 i hi; omega, h6, fun i hi => by have := h7 i hi; omega, h8, h9, fun f hf g hg => by have := h10 f hf g hg; omega⟩
end Go.GL
namespace Go.GL
def Bd (lo hi : Int) (l : List Int) : Prop := ∀ i, i < l.length → lo ≤ l.getD i 0 ∧ l.getD i 0 ≤ hi
theorem Bd.nil (lo hi : Int) : Bd lo hi [] := fun i h => by simp at h
theorem Bd.snoc {lo hi x : Int} {l : List Int} (h : Bd lo hi l) (h1 : lo ≤ x) (h2 : x ≤ hi) : Bd lo hi (l ++ [x]) := fun i hi => by
  rw [List.length_append, List.length_singleton] at hi
  by_cases e : i = l.length
  · subst e
    simp only [List.getD_eq_getElem?_getD, List.getElem?_concat_length, Option.getD_some]
    omega
  · have : i < l.length := by omega
    have h3 := h i this
    simp only [List.getD_eq_getElem?_getD, List.getElem?_append_left this] at h3 ⊢
    exact h3
theorem Bd.mono {lo hi lo' hi' : Int} {l : List Int} (h : Bd lo hi l) (h1 : lo' ≤ lo) (h2 : hi ≤ hi') : Bd lo' hi' l := fun i hi => by have := h i hi; omega
theorem Bd.rep {lo hi x : Int} (n : Nat) (h1 : lo ≤ x) (h2 : x ≤ hi) : Bd lo hi (List.replicate n x) := fun i hi => by
  rw [List.length_replicate] at hi
  simp [List.getD_eq_getElem?_getD, hi, h1, h2]
def Tb (lo hi : Int) (w : Nat) (T : List (List Int)) : Prop := ∀ i, i < T.length → (T.getD i []).length = w ∧ Bd lo hi (T.getD i [])
theorem Tb.nil (lo hi : Int) (w : Nat) : Tb lo hi w [] := fun i h => by simp at h
theorem Tb.snoc {lo hi : Int} {w : Nat} {x : List Int} {l : List (List Int)} (h : Tb lo hi w l) (h1 : x.length = w) (h2 : Bd lo hi x) : Tb lo hi w (l ++ [x]) := fun i hi => by
  rw [List.length_append, List.length_singleton] at hi
  by_cases e : i = l.length
  · subst e
    simp only [List.getD_eq_getElem?_getD, List.getElem?_concat_length, Option.getD_some]
    exact ⟨h1, h2⟩
  · have : i < l.length := by omega
    have h3 := h i this
    simp only [List.getD_eq_getElem?_getD, List.getElem?_append_left this] at h3 ⊢
    exact h3
theorem Tb.mono {lo hi lo' hi' : Int} {w : Nat} {l : List (List Int)} (h : Tb lo hi w l) (h1 : lo' ≤ lo) (h2 : hi ≤ hi') : Tb lo' hi' w l := fun i hi => ⟨(h i hi).1, (h i hi).2.mono h1 h2⟩
theorem Tb.at {lo hi : Int} {w i j : Nat} {T : List (List Int)} (h : Tb lo hi w T) (h1 : i < T.length) (hj : j < w) : lo ≤ (T.getD i []).getD j 0 ∧ (T.getD i []).getD j 0 ≤ hi := (h i h1).2 j (by rw [(h i h1).1]; exact hj)
theorem rect_mk {n : Int} {N : Nat} {ss ts is : List Int} {cs : List (List Int)} (h0 : 0 ≤ n ∧ n ≤ N) (h1 : ss.length ≤ N) (h2 : ts.length = ss.length) (h3 : Bd 0 N ss) (h4 : Bd 0 N ts) (h5 : (is.length : Int) = n) (h6 : Bd 0 N is) (h7 : cs.length = ss.length) (h8 : Tb (-(N : Int) - 1) N ss.length cs) : Cat.Rect ⟨n, ss, ts, is, cs⟩ N :=
  ⟨h0, h1, h2, h3, h4, h5, h6, h7, fun f hf => (h8 f hf).1, fun f hf g hg => h8.at hf hg⟩
theorem bd_iff {lo hi : Int} {l : List Int} : Bd lo hi l ↔ ∀ x ∈ l, lo ≤ x ∧ x ≤ hi := by
  constructor
  · intro h x hx
    obtain ⟨i, h1, rfl⟩ := List.getElem_of_mem hx
    have := h i h1
    rwa [List.getD_eq_getElem?_getD, List.getElem?_eq_getElem h1] at this
  · intro h i hi
    rw [List.getD_eq_getElem?_getD, List.getElem?_eq_getElem hi]
    exact h _ (List.getElem_mem hi)
theorem tb_iff {lo hi : Int} {w : Nat} {T : List (List Int)} : Tb lo hi w T ↔ ∀ r ∈ T, r.length = w ∧ ∀ x ∈ r, lo ≤ x ∧ x ≤ hi := by
  constructor
  · intro h r hr
    obtain ⟨i, h1, rfl⟩ := List.getElem_of_mem hr
    have := h i h1
    rw [List.getD_eq_getElem?_getD, List.getElem?_eq_getElem h1] at this
    exact ⟨this.1, bd_iff.1 this.2⟩
  · intro h i hi
    rw [List.getD_eq_getElem?_getD, List.getElem?_eq_getElem hi]
    have := h _ (List.getElem_mem hi)
    exact ⟨this.1, bd_iff.2 this.2⟩
theorem Cat.Rect.sum {c d : Cat} {N M : Nat} (h : c.Rect N) (h' : d.Rect M) : (c.sum d).Rect (N + M) := by
  obtain ⟨a1, a2, a3, a4, a5, a6, a7, a8, a9, a10⟩ := h
  obtain ⟨b1, b2, b3, b4, b5, b6, b7, b8, b9, b10⟩ := h'
  have s1 := bd_iff.1 (show Bd 0 N c.src from a4)
  have s2 := bd_iff.1 (show Bd 0 N c.tgt from a5)
  have s3 := bd_iff.1 (show Bd 0 N c.idn from a7)
  have t1 := bd_iff.1 (show Bd 0 M d.src from b4)
  have t2 := bd_iff.1 (show Bd 0 M d.tgt from b5)
  have t3 := bd_iff.1 (show Bd 0 M d.idn from b7)
  have s4 := tb_iff.1 (show Tb (-(N : Int) - 1) N c.src.length c.comp from fun i hi => ⟨a9 i hi, fun j hj => a10 i hi j (by rw [← a9 i hi]; exact hj)⟩)
  have t4 := tb_iff.1 (show Tb (-(M : Int) - 1) M d.src.length d.comp from fun i hi => ⟨b9 i hi, fun j hj => b10 i hi j (by rw [← b9 i hi]; exact hj)⟩)
  refine rect_mk (by omega) (by simp [Cat.sum]; omega) (by simp [Cat.sum]; omega) (bd_iff.2 ?_) (bd_iff.2 ?_) (by simp [Cat.sum]; omega) (bd_iff.2 ?_) (by simp [Cat.sum, Cat.sumL]; omega) (tb_iff.2 ?_)
  · intro x hx
    simp only [Cat.sum, List.mem_append, List.mem_map] at hx
    rcases hx with h | ⟨y, h, rfl⟩
    · have := s1 x h; omega
    · have := t1 y h; omega
  · intro x hx
    simp only [Cat.sum, List.mem_append, List.mem_map] at hx
    rcases hx with h | ⟨y, h, rfl⟩
    · have := s2 x h; omega
    · have := t2 y h; omega
  · intro x hx
    simp only [Cat.sum, List.mem_append, List.mem_map] at hx
    rcases hx with h | ⟨y, h, rfl⟩
    · have := s3 x h; omega
    · have := t3 y h; omega
  · intro r hr
    simp only [Cat.sum, Cat.sumL, List.mem_append, List.mem_map] at hr
    rcases hr with ⟨y, h, rfl⟩ | ⟨y, h, rfl⟩
    · have := s4 y h
      refine ⟨by simp [Cat.sum]; omega, fun x hx => ?_⟩
      rcases List.mem_append.1 hx with h | h
      · have := this.2 x h; omega
      · have := (List.mem_replicate.1 h).2; omega
    · have := t4 y h
      refine ⟨by simp [Cat.sum, sumRow]; omega, fun x hx => ?_⟩
      rcases List.mem_append.1 hx with h | h
      · have := (List.mem_replicate.1 h).2; omega
      · obtain ⟨z, h1, rfl⟩ := List.mem_map.1 h
        have := this.2 z h1
        split <;> omega
def NewRc (eI eS : TypeId) (N : Nat) (H : GHeap) (v : Value) (H' : GHeap) : Prop := ∃ c, c.Rect N ∧ NewCatO eI eS H c v H'
end Go.GL
namespace Go.GL
def LitAt (b : Nat) (H : GHeap) (e : TypeId) : List Nat → List (List Int) → Prop
  | [], [] => True
  | g :: gs, x :: T => (b ≤ g ∧ H.get g = some (.row (ints x) e true)) ∧ LitAt b H e gs T
  | _, _ => False
theorem LitAt.get {b : Nat} {H : GHeap} {e : TypeId} : ∀ {gs : List Nat} {T : List (List Int)}, LitAt b H e gs T → gs.length = T.length ∧ ∀ i, i < T.length → b ≤ gs.getD i 0 ∧ H.get (gs.getD i 0) = some (.row (ints (T.getD i [])) e true)
  | [], [], _ => ⟨rfl, fun i h => by simp at h⟩
  | g :: gs, x :: T, h => by
    obtain ⟨h1, h2⟩ := h.2.get
    refine ⟨by simp [h1], fun i hi => ?_⟩
    cases i with
    | zero => exact h.1
    | succ i => exact h2 i (by simpa using hi)
  | [], _ :: _, h => h.elim
  | _ :: _, [], h => h.elim
theorem lit_own {b : Nat} {H : GHeap} {e : TypeId} {gs : List Nat} {T : List (List Int)} (h : LitAt b H e gs T) (hd : gs.Nodup) : OwnL b H e (fun i => some ⟨gs.getD i 0, 0, none⟩) T := by
  obtain ⟨h1, h2⟩ := h.get
  refine ⟨fun i hi => ⟨_, rfl, h2 i hi⟩, fun i j hi hj e => ?_⟩
  have e' : gs.getD i 0 = gs.getD j 0 := by simpa using e
  simp only [List.getD_eq_getElem?_getD, List.getElem?_eq_getElem (show i < gs.length by omega), List.getElem?_eq_getElem (show j < gs.length by omega), Option.getD_some] at e'
  exact (List.getElem_inj hd).1 e'
theorem row_nes {gs : List Nat} {g n : Nat} (h : g ∉ gs) (hn : n ≤ gs.length := by exact Nat.le_refl _) : ∀ i, i < n → (fun i => some (⟨gs.getD i 0, 0, none⟩ : Addr)) i ≠ some ⟨g, 0, none⟩ := fun i hi e => h (by
  have e' : gs.getD i 0 = g := by simpa using e
  rw [List.getD_eq_getElem?_getD, List.getElem?_eq_getElem (by omega)] at e'
  exact e' ▸ List.getElem_mem (by omega))
def NewTab (TS : TypeId) (gS : Nat) (H : GHeap) (v : Value) (H' : GHeap) : Prop := ∃ a T r, v = .slice a T.length T.length ∧ IntssR H.next H' a T r ∧ (1 ≤ T.length ∧ T.length ≤ 4) ∧ Tb 0 3 T.length T ∧ St [gS] H H' ∧ DSrc TS H' gS
theorem OwnCat.low {eI eS : TypeId} {b b' : Nat} {H : GHeap} {c : Cat} {g1 g2 g3 g4 : Nat} {rr : Nat → Option Addr} (h : OwnCat eI eS b H c g1 g2 g3 g4 rr) (hb : b' ≤ b) : OwnCat eI eS b' H c g1 g2 g3 g4 rr :=
  ⟨h.a1, h.a2, h.a3, h.a4, Nat.le_trans hb h.b1, Nat.le_trans hb h.b2, Nat.le_trans hb h.b3, Nat.le_trans hb h.b4, h.n12, h.n13, h.n23, h.rows.low hb, h.r1, h.r2, h.r3⟩
theorem mul_bdg {a b A B : Int} (h : 0 ≤ a ∧ a ≤ A) (h' : 0 ≤ b ∧ b ≤ B) : 0 ≤ a * b ∧ a * b ≤ A * B := ⟨Int.mul_nonneg h.1 h'.1, Int.mul_le_mul h.2 h'.2 h'.1 (by omega)⟩
theorem mul_bd {a b : Int} (h : 0 ≤ a ∧ a ≤ 256) (h' : 0 ≤ b ∧ b ≤ 128) : 0 ≤ a * b ∧ a * b ≤ 32768 := ⟨Int.mul_nonneg h.1 h'.1, by have := Int.mul_le_mul h.2 h'.2 h'.1 (by omega : (0 : Int) ≤ 256); omega⟩
theorem mulN_bd {a b : Nat} (h : a ≤ 256) (h' : b ≤ 128) : a * b ≤ 32768 := Nat.mul_le_mul h h'
theorem sm (a m : Nat) : (a + 1) * m = a * m + m := Nat.succ_mul a m
theorem smz (x : Nat) (z : Int) : ((x + 1 : Nat) : Int) * z = x * z + z := by rw [Int.natCast_add, Int.add_mul]; simp
end Go.GL
namespace Go.Proofs.Ytjdedelneppnlaa
open Go Go.GL Go.RowKit Go.Proofs
theorem sz_160_Dg : (Try.prog.info? 160).map (·.size) = some 3 := by kernel_rfl
theorem fo_160_0_Dg : fieldOff Try.prog 160 0 = some 0 := by kernel_rfl
theorem fo_160_1_Dg : fieldOff Try.prog 160 1 = some 1 := by kernel_rfl
theorem fo_160_2_Dg : fieldOff Try.prog 160 2 = some 2 := by kernel_rfl
theorem l01Less_c {a b : Option Addr} {xs ys : List Int} {H : GHeap} (ha : Ints H a xs := by assumption) (hb : Ints H b ys := by assumption) (hx : xs.length ≤ 1048576 := by omega) :
    GCalls Try.prog 156 [.slice a xs.length xs.length, .slice b ys.length ys.length] H (fun v H' => H.Le H' ∧ ∃ q, v = .bool q) := by
  refine GCalls.body (N := 41) (rs := [.tmp 4]) Try.func156 rfl rfl rfl rfl (fun Qx hret hend => ?_)
  refine .fg [0, 1] rfl ?_
  have hle := GHeap.Le.refl H
  have base_ha := ha
  have base_hb := hb
  refine .seq (fun K1 hK1 => .region (.mv rfl (.nil (hK1 _ _ (.seq (fun K2 hK2 => .seq (fun K3 hK3 => .region (.mv rfl (.nil (hK3 _ _ ?_))))))))))
  refine .block ?_
  refine .loopR (σ := Nat) [(0, some _), (1, some _)] (fun i => [(5, some (.int .i64 (i : Int)))]) (fun i H' => H = H' ∧ i ≤ xs.length) (fun i => xs.length - i) (0) ⟨rfl, rfl, trivial⟩ ⟨rfl, trivial⟩ ?_ ?_
  ·
   refine ⟨rfl, ?_⟩
   omega
  rintro i _ ⟨rfl, hI⟩ KL1 hKL1
  refine .forget (fr' := [(5, some (.int .i64 (i : Int))), (0, some _), (1, some _)]) ⟨rfl, rfl, rfl, trivial⟩ ?_
  refine .seq (fun K4 hK4 => .seq (fun K5 hK5 => .region (.mv rfl (.mv rfl (.q rfl (.len sl_22_A rfl) (.q rfl (.cmp rfl rfl rfl) (.mv rfl ?_)))))))
  refine .split (fun h10 => ?_) (fun h10 => ?_)
  ·
   simp only [sps] at h10
   refine .qg rfl (.move rfl) (.qg rfl (.move rfl) (.qg rfl (.len sl_22_A rfl) (.qg rfl (.cmp rfl rfl rfl) (.q rfl (.pickT rfl rfl) (.nil (hK5 _ _ ?_))))))
   refine .cond rfl (fun h15 => ?_) (fun h15 => ?_)
   ·
    simp only [sps] at h15
    refine .skip ?_
    refine hK4 _ _ (.seq (fun K6 hK6 => ?_))
    refine .block ?_
    refine .seq (fun K7 hK7 => ?_)
    refine .regionD mo_B (.q 0 (.q 1 (.q 2 (.q 3 (.q 4 (.q 5 (.q 6 (.q 7 (.q 8 (.done)))))))))) (by kernel_rfl) ?_
    refine .mv rfl rfl (.mv rfl rfl ?_)
    refine .q rfl (.idxN sl_22_A (by assumption) rfl rfl (by omega)) ?_
    refine .q rfl (.loadI on_2_A (by assumption) rfl (by omega)) ?_
    refine .mv rfl rfl (.mv rfl rfl ?_)
    refine .q rfl (.idxN sl_22_A (by assumption) rfl rfl (by omega)) ?_
    refine .q rfl (.loadI on_2_A (by assumption) rfl (by omega)) ?_
    refine .q rfl (.cmp rfl rfl rfl) ?_
    refine .done ?_
    refine hK7 _ _ ?_
    refine .cond rfl (fun h26 => ?_) (fun h26 => ?_)
    ·
     try simp only [sps] at h26
     refine .seq (fun K8 hK8 => ?_)
     refine .regionD mo_B (.q 0 (.q 1 (.q 2 (.q 3 (.q 4 (.q 5 (.q 6 (.q 7 (.q 8 (.q 9 (.done))))))))))) (by kernel_rfl) ?_
     refine .mv rfl rfl (.mv rfl rfl ?_)
     refine .q rfl (.idxN sl_22_A (by assumption) rfl rfl (by omega)) ?_
     refine .q rfl (.loadI on_2_A (by assumption) rfl (by omega)) ?_
     refine .mv rfl rfl (.mv rfl rfl ?_)
     refine .q rfl (.idxN sl_22_A (by assumption) rfl rfl (by omega)) ?_
     refine .q rfl (.loadI on_2_A (by assumption) rfl (by omega)) ?_
     refine .q rfl (.cmp rfl rfl rfl) (.mv rfl rfl ?_)
     refine .done ?_
     refine hK8 _ _ ?_
     refine .ret ?_
     refine hret _ _ ?_
     refine ⟨_, rfl, ?_⟩
     exact ⟨hle, _, rfl⟩
    try simp only [sps] at h26
    refine .skip ?_
    refine hK6 _ _ (.region (.mv rfl ?_))
    refine .q rfl (.add rfl rfl rfl (by omega) (by omega)) ?_
    refine .mv rfl (.nil ?_)
    refine hKL1 (i + 1) _ _ ?_ ?_ ⟨rfl, rfl, rfl, trivial⟩
    ·
     refine ⟨rfl, ?_⟩
     omega
    omega
   simp only [sps] at h15
   refine .exit ?_
   refine hK2 _ _ (.seq (fun K9 hK9 => .region (.mv rfl (.q rfl (.len sl_22_A rfl) (.mv rfl (.q rfl (.len sl_22_A rfl) (.q rfl (.cmp rfl rfl rfl) (.mv rfl (.nil (hK9 _ _ ?_))))))))))
   refine .ret ?_
   refine hret _ _ ?_
   refine ⟨_, rfl, ?_⟩
   exact ⟨hle, _, rfl⟩
  simp only [sps] at h10
  refine .z rfl (.z rfl (.z rfl (.z rfl (.q rfl (.pickF rfl rfl) (.nil (hK5 _ _ ?_))))))
  refine .condF rfl ?_
  refine .exit ?_
  refine hK2 _ _ (.seq (fun K10 hK10 => .region (.mv rfl (.q rfl (.len sl_22_A rfl) (.mv rfl (.q rfl (.len sl_22_A rfl) (.q rfl (.cmp rfl rfl rfl) (.mv rfl (.nil (hK10 _ _ ?_))))))))))
  refine .ret ?_
  refine hret _ _ ?_
  refine ⟨_, rfl, ?_⟩
  exact ⟨hle, _, rfl⟩
theorem l03Before_c {a b : Option Addr} {xs ys : List Int} {x1 x2 y1 y2 : Int} {H : GHeap} (ha : Ints H a xs := by assumption) (hb : Ints H b ys := by assumption) (hx : xs.length ≤ 1048576 := by omega) :
    GCalls Try.prog 155 [.agg #[.int .i64 x1, .int .i64 y1, .slice a xs.length xs.length], .agg #[.int .i64 x2, .int .i64 y2, .slice b ys.length ys.length]] H (fun v H' => H.Le H' ∧ ∃ q, v = .bool q) := by
  refine GCalls.body (N := 30) (rs := [.tmp 4]) Try.func155 rfl rfl rfl rfl (fun Qx hret hend => ?_)
  refine .fg [0, 1] rfl ?_
  have hle := GHeap.Le.refl H
  have base_ha := ha
  have base_hb := hb
  refine .seq (fun K1 hK1 => .region ?_)
  refine .R rfl (.boxR rfl sz_160_Dg rfl) ?_
  rintro _ H2 ⟨g2, rfl, le2, ge2, at2⟩
  replace hle := hle.trans le2
  refine .R rfl (.boxR rfl sz_160_Dg rfl) ?_
  rintro _ H3 ⟨g3, rfl, le3, ge3, at3⟩
  replace hle := hle.trans le3
  replace at2 := le3.2 _ _ at2
  replace ha := base_ha.mono hle
  replace hb := base_hb.mono hle
  refine .mv rfl (.nil (hK1 _ _ (.seq (fun K2 hK2 => .seq (fun K3 hK3 => .region (.q rfl (.fieldAddr fo_160_0_Dg rfl) ?_))))))
  refine .q rfl (.load on_2_A rfl (by first | assumption | exact Mem.of_get at2 0 _ rfl)) ?_
  refine .q rfl (.fieldAddr fo_160_0_Dg rfl) ?_
  refine .q rfl (.load on_2_A rfl (by first | assumption | exact Mem.of_get at3 0 _ rfl)) ?_
  refine .q rfl (.cmp rfl rfl rfl) (.nil (hK3 _ _ ?_))
  refine .cond rfl (fun h9 => ?_) (fun h9 => ?_)
  ·
   try simp only [sps] at h9
   refine .seq (fun K4 hK4 => .region (.q rfl (.fieldAddr fo_160_0_Dg rfl) ?_))
   refine .q rfl (.load on_2_A rfl (by first | assumption | exact Mem.of_get at2 0 _ rfl)) ?_
   refine .q rfl (.fieldAddr fo_160_0_Dg rfl) ?_
   refine .q rfl (.load on_2_A rfl (by first | assumption | exact Mem.of_get at3 0 _ rfl)) ?_
   refine .q rfl (.cmp rfl rfl rfl) (.mv rfl (.nil (hK4 _ _ ?_)))
   refine .ret ?_
   refine hret _ _ ?_
   refine ⟨_, rfl, ?_⟩
   exact ⟨hle, _, rfl⟩
  try simp only [sps] at h9
  refine .skip ?_
  refine hK2 _ _ (.seq (fun K5 hK5 => .seq (fun K6 hK6 => .region (.q rfl (.fieldAddr fo_160_1_Dg rfl) ?_))))
  refine .q rfl (.load on_2_A rfl (by first | assumption | exact Mem.of_get at2 1 _ rfl)) ?_
  refine .q rfl (.fieldAddr fo_160_1_Dg rfl) ?_
  refine .q rfl (.load on_2_A rfl (by first | assumption | exact Mem.of_get at3 1 _ rfl)) ?_
  refine .q rfl (.cmp rfl rfl rfl) (.nil (hK6 _ _ ?_))
  refine .cond rfl (fun h19 => ?_) (fun h19 => ?_)
  ·
   try simp only [sps] at h19
   refine .seq (fun K7 hK7 => .region (.q rfl (.fieldAddr fo_160_1_Dg rfl) ?_))
   refine .q rfl (.load on_2_A rfl (by first | assumption | exact Mem.of_get at2 1 _ rfl)) ?_
   refine .q rfl (.fieldAddr fo_160_1_Dg rfl) ?_
   refine .q rfl (.load on_2_A rfl (by first | assumption | exact Mem.of_get at3 1 _ rfl)) ?_
   refine .q rfl (.cmp rfl rfl rfl) (.mv rfl (.nil (hK7 _ _ ?_)))
   refine .ret ?_
   refine hret _ _ ?_
   refine ⟨_, rfl, ?_⟩
   exact ⟨hle, _, rfl⟩
  try simp only [sps] at h19
  refine .skip ?_
  refine hK5 _ _ (.seq (fun K8 hK8 => .region (.q rfl (.fieldAddr fo_160_2_Dg rfl) ?_)))
  refine .q rfl (.load on_22_B rfl (by first | assumption | exact Mem.of_get at2 2 _ rfl)) ?_
  refine .q rfl (.fieldAddr fo_160_2_Dg rfl) ?_
  refine .q rfl (.load on_22_B rfl (by first | assumption | exact Mem.of_get at3 2 _ rfl)) ?_
  refine .call rfl rfl rfl rfl @Try.call156 rfl (l01Less_c) ?_
  rintro _ H29 ⟨le29, q29, rfl⟩
  replace hle := hle.trans le29
  refine .mv rfl (.nil (hK8 _ _ ?_))
  refine .ret ?_
  refine hret _ _ ?_
  refine ⟨_, rfl, ?_⟩
  exact ⟨hle, _, rfl⟩
end Go.Proofs.Ytjdedelneppnlaa
namespace Go.GL
theorem slsL_lens {r : Nat → Option Addr} {X Y : List (List Int)} (hl : X.length = Y.length) (h : ∀ i, (X.getD i []).length = (Y.getD i []).length) : slsL r X = slsL r Y := by
  unfold slsL slsOf
  rw [hl]
  exact List.map_congr_left fun i _ => by rw [h i]
theorem getD_set_len {T : List (List Int)} {i : Nat} {ys : List Int} (h : ys.length = (T.getD i []).length) (j : Nat) : ((T.set i ys).getD j []).length = (T.getD j []).length := by
  rw [List.getD_eq_getElem?_getD, List.getElem?_set, List.getD_eq_getElem?_getD]
  by_cases e : i = j
  · subst e
    rw [if_pos rfl]
    split
    · simpa [List.getD_eq_getElem?_getD] using h
    · rw [List.getElem?_eq_none (by omega)]
  · rw [if_neg e]
theorem OwnL.setR {b gi i : Nat} {H H' : GHeap} {e : TypeId} {r : Nat → Option Addr} {xss : List (List Int)} {ys : List Int} (h : OwnL b H e r xss) (s : St [gi] H H') (hi : i < xss.length) (hr : r i = some ⟨gi, 0, none⟩) (hg : H'.get gi = some (.row (ints ys) e true)) : OwnL b H' e r (xss.set i ys) := by
  unfold OwnL
  rw [List.length_set]
  refine ⟨fun j hj => ?_, h.inj⟩
  obtain ⟨x, h1, h2, h3⟩ := h.row j hj
  rw [List.getD_eq_getElem?_getD, List.getElem?_set]
  by_cases ej : i = j
  · subst ej
    rw [hr] at h1; cases h1
    exact ⟨gi, hr, h2, by rw [if_pos rfl, if_pos hi]; exact hg⟩
  · refine ⟨x, h1, h2, ?_⟩
    rw [if_neg ej, ← List.getD_eq_getElem?_getD]
    exact s.same x _ ⟨fun ex => by
      subst ex
      exact ej (h.inj i j hi hj (by rw [hr, h1])), trivial⟩ h3
structure RelSt (TS eI eS : TypeId) (H H' : GHeap) (gS g5 n k : Nat) (rr : Nat → Option Addr) (T : List (List Int)) : Prop where
  st : St [gS] H H'
  a5 : H'.get g5 = some (.row (slsL rr T) eS true)
  b5 : H.next ≤ g5
  own : OwnL H.next H' eI rr T
  len : T.length = k
  row : ∀ i, i < T.length → (T.getD i []).length = n
  hs : DSrc TS H' gS
theorem RelSt.set1 {TS eI eS : TypeId} {H H1 H2 : GHeap} {gS g5 n k gi i : Nat} {rr : Nat → Option Addr} {T : List (List Int)} {ys : List Int} (h : RelSt TS eI eS H H1 gS g5 n k rr T) (hi : i < T.length) (hg : rr i = some ⟨gi, 0, none⟩) (hb : H.next ≤ gi) (s : St [gi] H1 H2) (hat : H2.get gi = some (.row (ints ys) eI true)) (hl : ys.length = n) (h5 : g5 ≠ gi) (hS : gS < H.next) : RelSt TS eI eS H H2 gS g5 n k rr (T.set i ys) := by
  have hl' : ys.length = (T.getD i []).length := by rw [hl, h.row i hi]
  refine ⟨h.st.st s (fun k hk ho => ⟨by omega, trivial⟩), ?_, h.b5, h.own.setR s hi hg hat, by rw [List.length_set]; exact h.len, fun j hj => ?_, h.hs.st s (fun k hk ho => ⟨by omega, trivial⟩)⟩
  · rw [slsL_lens (Y := T) (by simp) (getD_set_len hl')]
    exact s.same _ _ ⟨h5, trivial⟩ h.a5
  · rw [List.length_set] at hj
    rw [getD_set_len hl']
    exact h.row j hj
theorem RelSt.ex {TS eI eS : TypeId} {H H1 : GHeap} {gS g5 n k : Nat} {rr : Nat → Option Addr} {T : List (List Int)} (h : RelSt TS eI eS H H1 gS g5 n k rr T) : ∃ T', RelSt TS eI eS H H1 gS g5 n k rr T' := ⟨_, h⟩
theorem rows_snoc {n : Nat} {T : List (List Int)} {x : List Int} (h : ∀ i, i < T.length → (T.getD i []).length = n) (hx : x.length = n) : ∀ i, i < (T ++ [x]).length → ((T ++ [x]).getD i []).length = n := fun i hi => by
  rw [List.length_append, List.length_singleton] at hi
  rw [getD_snoc]
  split
  · exact h i (by assumption)
  · rw [if_pos (by omega)]; exact hx
def NewRel (TS : TypeId) (gS n : Nat) (H : GHeap) (v : Value) (H' : GHeap) : Prop := ∃ a T r, v = .slice a T.length T.length ∧ IntssR H.next H' a T r ∧ T.length = n ∧ (∀ i, i < T.length → (T.getD i []).length = T.length) ∧ St [gS] H H' ∧ DSrc TS H' gS
end Go.GL
namespace Go.GL
structure Pth where
  f : Int
  t : Int
  e : List Int
  g : Nat
def Pth.cs (p : Pth) : List Value := [.int .i64 p.f, .int .i64 p.t, .slice (some ⟨p.g, 0, none⟩) p.e.length p.e.length]
def pz : Pth := ⟨0, 0, [], 0⟩
def pcells (ps : List Pth) : List Value := ps.flatMap Pth.cs
theorem pcells_append (l r : List Pth) : pcells (l ++ r) = pcells l ++ pcells r := by simp [pcells]
theorem pcells_snoc (ps : List Pth) (p : Pth) : pcells (ps ++ [p]) = pcells ps ++ p.cs := by simp [pcells]
theorem pcells_len (ps : List Pth) : (pcells ps).length = ps.length * 3 := by
  induction ps with
  | nil => rfl
  | cons x r ih =>
    unfold pcells at ih ⊢
    simp only [List.flatMap_cons, List.length_append, Pth.cs, List.length_cons, List.length_nil] at ih ⊢
    omega
theorem split_at {ps : List Pth} {i : Nat} (hi : i < ps.length) : ∃ l r, ps = l ++ (ps.getD i pz :: r) ∧ l.length = i := by
  refine ⟨ps.take i, ps.drop (i + 1), ?_, by simp; omega⟩
  rw [List.getD_eq_getElem?_getD, List.getElem?_eq_getElem hi, Option.getD_some, ← List.drop_eq_getElem_cons hi, List.take_append_drop]
theorem pcells_get {ps : List Pth} {i j : Nat} (hi : i < ps.length) (hj : j < 3) : (pcells ps)[i * 3 + j]? = (ps.getD i pz).cs[j]? := by
  obtain ⟨l, r, e, hl⟩ := split_at hi
  have h1 := pcells_len l
  have h2 : pcells (ps.getD i pz :: r) = (ps.getD i pz).cs ++ pcells r := by simp [pcells]
  have h3 : (ps.getD i pz).cs.length = 3 := rfl
  conv => lhs; rw [e]
  rw [pcells_append, h2, List.getElem?_append_right (by omega), show i * 3 + j - (pcells l).length = j by omega, List.getElem?_append_left (by omega)]
theorem pcells_slA {H : GHeap} {g : Nat} {e : TypeId} {own : Bool} {ps : List Pth} (hg : H.get g = some (.row (pcells ps) e own)) : SlA H (some ⟨g, 0, none⟩) (ps.length * 3) (fun i => (pcells ps).getD i undef) :=
  .inr ⟨g, 0, rfl, fun i hi => by
    rw [GHeap.cell_of hg, Nat.zero_add]
    show _ = some ((pcells ps).getD i undef)
    rw [List.getD_eq_getElem?_getD, List.getElem?_eq_getElem (by rw [pcells_len]; exact hi)]; rfl⟩
theorem pcells_mem {H : GHeap} {g : Nat} {e : TypeId} {own : Bool} {ps : List Pth} (hg : H.get g = some (.row (pcells ps) e own)) {i : Nat} (hi : i < ps.length) : MemN H g (0 + (i : Int).toNat * 3) 3 (ps.getD i pz).cs := by
  refine ⟨rfl, fun j v hv => ?_⟩
  have hj : j < 3 := by
    have := (List.getElem?_eq_some_iff.1 hv).1
    exact this
  rw [GHeap.cell_of hg, Int.toNat_natCast, Nat.zero_add, pcells_get hi hj]
  exact hv
theorem pcells_set {ps : List Pth} {i : Nat} (q : Pth) (hi : i < ps.length) : setAll (pcells ps) (i * 3) q.cs = pcells (ps.set i q) := by
  obtain ⟨l, r, e, hl⟩ := split_at hi
  have h1 := pcells_len l
  have h2 : pcells ps = pcells l ++ ((ps.getD i pz).cs ++ pcells r) := by
    conv => lhs; rw [e]
    rw [pcells_append]
    simp [pcells]
  have h3 : ps.set i q = l ++ q :: r := by
    conv => lhs; rw [e]
    rw [← hl, List.set_append_right _ _ (Nat.le_refl _)]
    simp
  rw [h2, h3, show i * 3 = (pcells l).length by omega, setAll_gen q.cs (pcells l) (ps.getD i pz).cs (pcells r) rfl, pcells_append]
  simp [pcells]
def PthOk (b : Nat) (eI : TypeId) (N : Int) (H : GHeap) (ps : List Pth) : Prop := ∀ p ∈ ps, (0 ≤ p.f ∧ p.f ≤ N) ∧ (0 ≤ p.t ∧ p.t ≤ N) ∧ p.e.length ≤ ps.length ∧ b ≤ p.g ∧ H.get p.g = some (.row (ints p.e) eI true)
theorem PthOk.nil (b : Nat) (eI : TypeId) (N : Int) (H : GHeap) : PthOk b eI N H [] := fun p hp => by simp at hp
theorem PthOk.keep {b : Nat} {eI : TypeId} {N : Int} {H H' : GHeap} {ps : List Pth} (h : PthOk b eI N H ps) (s : Lasts eI H H') : PthOk b eI N H' ps := fun p hp => by
  obtain ⟨h1, h2, h3, h4, h5⟩ := h p hp
  exact ⟨h1, h2, h3, h4, s _ _ h5⟩
theorem PthOk.at {b : Nat} {eI : TypeId} {N : Int} {H : GHeap} {ps : List Pth} (h : PthOk b eI N H ps) {i : Nat} (hi : i < ps.length) : (0 ≤ (ps.getD i pz).f ∧ (ps.getD i pz).f ≤ N) ∧ (0 ≤ (ps.getD i pz).t ∧ (ps.getD i pz).t ≤ N) ∧ (ps.getD i pz).e.length ≤ ps.length ∧ b ≤ (ps.getD i pz).g ∧ H.get (ps.getD i pz).g = some (.row (ints (ps.getD i pz).e) eI true) :=
  h _ (by rw [List.getD_eq_getElem?_getD, List.getElem?_eq_getElem hi]; exact List.getElem_mem hi)
theorem PthOk.snoc {b : Nat} {eI : TypeId} {N : Int} {H : GHeap} {ps : List Pth} (h : PthOk b eI N H ps) {p : Pth} (h1 : 0 ≤ p.f ∧ p.f ≤ N) (h2 : 0 ≤ p.t ∧ p.t ≤ N) (h3 : p.e.length ≤ ps.length + 1) (h4 : b ≤ p.g) (h5 : H.get p.g = some (.row (ints p.e) eI true)) : PthOk b eI N H (ps ++ [p]) := fun q hq => by
  rw [List.length_append, List.length_singleton]
  rcases List.mem_append.1 hq with hq | hq
  · obtain ⟨a1, a2, a3, a4, a5⟩ := h q hq
    exact ⟨a1, a2, by omega, a4, a5⟩
  · obtain rfl := List.mem_singleton.1 hq
    exact ⟨h1, h2, h3, h4, h5⟩
theorem PthOk.set {b : Nat} {eI : TypeId} {N : Int} {H : GHeap} {ps : List Pth} (h : PthOk b eI N H ps) {i j : Nat} (hj : j < ps.length) : PthOk b eI N H (ps.set i (ps.getD j pz)) := fun q hq => by
  rw [List.length_set]
  rcases List.mem_or_eq_of_mem_set hq with hq | rfl
  · exact h q hq
  · exact h.at hj
def pw (t : Int) : Nat := if t ≤ 0 then 13 else if t ≤ 1 then 4 else 1
def pws (ps : List Pth) : Nat := (ps.map fun p => pw p.t).sum
def pwn (x : Nat) : Nat := if x = 0 then 0 else if x = 1 then 13 else if x = 2 then 17 else 18
theorem pw_pos (t : Int) : 1 ≤ pw t := by
  unfold pw
  repeat' split
  all_goals omega
theorem pw_up {t u : Int} (h0 : 0 ≤ t) (h : t < u) (h2 : u ≤ 2) : 3 * pw u + 1 ≤ pw t := by
  unfold pw
  rw [if_neg (show ¬ u ≤ 0 by omega)]
  by_cases e : t ≤ 0
  · rw [if_pos e]
    split <;> omega
  · rw [if_neg e, if_pos (show t ≤ 1 by omega), if_neg (show ¬ u ≤ 1 by omega)]
    omega
theorem pwn_succ {x : Nat} (h : x ≤ 2) : pwn x + pw (x : Int) = pwn (x + 1) := by
  have : x = 0 ∨ x = 1 ∨ x = 2 := by omega
  rcases this with rfl | rfl | rfl <;> rfl
theorem pwn_le (x : Nat) : pwn x ≤ 18 := by
  unfold pwn
  repeat' split
  all_goals omega
theorem pws_snoc (ps : List Pth) (p : Pth) : pws (ps ++ [p]) = pws ps + pw p.t := by simp [pws]
theorem pws_ge (ps : List Pth) : ps.length ≤ pws ps := by
  induction ps with
  | nil => exact Nat.le_refl _
  | cons p r ih =>
    have := pw_pos p.t
    simp only [pws, List.map_cons, List.sum_cons, List.length_cons] at ih ⊢
    omega
theorem pws_drop {ps : List Pth} {k : Nat} (h : k < ps.length) : pws (ps.drop k) = pw (ps.getD k pz).t + pws (ps.drop (k + 1)) := by
  rw [List.drop_eq_getElem_cons h, List.getD_eq_getElem?_getD, List.getElem?_eq_getElem h]
  rfl
theorem pws_drop_snoc {ps : List Pth} {p : Pth} {k : Nat} (h : k ≤ ps.length) : pws ((ps ++ [p]).drop k) = pws (ps.drop k) + pw p.t := by
  rw [List.drop_append_of_le_length h, pws_snoc]
theorem pws_len {ps : List Pth} {k : Nat} (h : k ≤ ps.length) (h' : k + pws (ps.drop k) ≤ 18) : ps.length ≤ 18 := by
  have := pws_ge (ps.drop k)
  rw [List.length_drop] at this
  omega
def NewPaths (eI eP : TypeId) (N : Int) (H : GHeap) (v : Value) (H' : GHeap) : Prop := H.Le H' ∧ ∃ g ps, v = .slice (some ⟨g, 0, none⟩) ps.length ps.length ∧ H.next ≤ g ∧ H'.get g = some (.row (pcells ps) eP true) ∧ PthOk H.next eI N H' ps ∧ ps.length ≤ 18
end Go.GL
namespace Go.Proofs.Ytjdedelneppnlaa
open Go Go.GL Go.RowKit Go.Proofs
theorem sl_157_Di : sliceT Try.prog 157 = some (160, 3) := by kernel_rfl
theorem ze_160_Di : zeroT Try.prog 160 = some ([.int .i64 0, .int .i64 0, .slice none 0 0], 3) := by kernel_rfl
theorem bt_160_Di : buildT Try.prog 160 = some ([.int .i64 0, .int .i64 0, .slice none 0 0], [(0, 1), (1, 1), (2, 1)]) := by kernel_rfl
theorem by_160_Di : (Try.prog.info? 160).map (·.bytes) = some 40 := by kernel_rfl
theorem ag_160_Di : aggT Try.prog 160 = some 3 := by kernel_rfl
set_option maxHeartbeats 8000000 in
theorem l03All_c {a b : Option Addr} {xs ys : List Int} {n : Nat} {H : GHeap} (ha : Ints H a xs := by assumption) (hb : Ints H b ys := by assumption) (hl : ys.length = xs.length) (hx : xs.length ≤ 3) (hn : n ≤ 3) (hy : Bd 0 ((n : Int) - 1) ys) (hup : ∀ e, e < xs.length → xs.getD e 0 < ys.getD e 0) :
    GCalls Try.prog 153 [.int .i64 (n : Int), .slice a xs.length xs.length, .slice b ys.length ys.length] H (NewPaths 2 160 ((n : Int) - 1) H) := by
  refine GCalls.body (N := 117) (rs := [.tmp 6]) Try.func153 rfl rfl rfl rfl (fun Qx hret hend => ?_)
  refine .fg [0, 1, 2] rfl ?_
  have hle := GHeap.Le.refl H
  have base_ha := ha
  have base_hb := hb
  refine .seq (fun K1 hK1 => .region (.mv rfl (.nil (hK1 _ _ (.seq (fun K2 hK2 => .region ?_))))))
  refine .R rfl (.litA rfl sl_157_Di ze_160_Di rfl rfl rfl rfl) ?_
  rintro _ H14 ⟨g14, rfl, le14, ge14, at14⟩
  have nx_H14 := le14.1
  replace hle := hle.trans le14
  have lt_at14 := GHeap.ltg at14
  refine .mv rfl (.nil (hK2 _ _ (.seq (fun K3 hK3 => .seq (fun K4 hK4 => .region (.mv rfl (.nil (hK4 _ _ ?_))))))))
  refine .block ?_
  refine .loopR (σ := Nat × List Pth × Nat × Nat) [(0, some _), (1, some _), (2, some _)] (fun (x, ps, gL7, nL7) => [(8, some (.int .i64 (x : Int))), (7, some (.slice (some ⟨gL7, 0, none⟩) nL7 nL7))]) (fun (x, ps, gL7, nL7) H' => St [g14] H14 H' ∧ H'.get gL7 = some (.row (pcells ps) 160 true) ∧ PL gL7 g14 H14.next ∧ nL7 = ps.length ∧ (x ≤ n ∧ ps.length = x ∧ pws ps ≤ pwn x) ∧ PthOk H.next 2 ((n : Int) - 1) H' ps) (fun (x, ps, gL7, nL7) => n - x) ((0, [], _, _)) ⟨rfl, rfl, rfl, trivial⟩ ⟨rfl, rfl, trivial⟩ ?_ ?_
  ·
   refine ⟨.refl _ _, by assumption, ⟨.inl rfl⟩, by rfl, ?_⟩
   exact ⟨⟨by omega, rfl, Nat.le_refl _⟩, .nil _ _ _ _⟩
  rintro ⟨x, ps, gL7, nL7⟩ HL1 ⟨lst1, at_L7, pl_L7, ln_L7, hI⟩ KL1 hKL1
  refine .forget (fr' := [(8, some (.int .i64 (x : Int))), (7, some (.slice (some ⟨gL7, 0, none⟩) nL7 nL7)), (0, some _), (1, some _), (2, some _)]) ⟨rfl, rfl, rfl, rfl, rfl, trivial⟩ ?_
  have ge_L7 : H.next ≤ gL7 := pl_L7.ge (by omega) (by omega)
  have nx_HL1 := lst1.nx
  replace hle := hle.st lst1 (fun k hk => ⟨by omega, trivial⟩)
  have lt_at_L7 := GHeap.ltg at_L7
  have rk := St.refl [gL7] HL1
  obtain ⟨⟨hxn, hpl, hw⟩, hP⟩ := hI
  have htl := pcells_len ps
  have hat7 := at_L7
  refine .seq (fun K5 hK5 => .seq (fun K6 hK6 => .region (.mv rfl (.mv rfl (.q rfl (.cmp rfl rfl rfl) (.nil (hK6 _ _ ?_)))))))
  refine .cond rfl (fun h17 => ?_) (fun h17 => ?_)
  ·
   simp only [sps] at h17
   refine .skip ?_
   refine hK5 _ _ (.seq (fun K7 hK7 => ?_))
   refine .block ?_
   refine .region (.mv rfl (.mv rfl (.mv rfl ?_)))
   refine .R rfl (.litA rfl sl_22_A ze_2_L rfl rfl rfl rfl) ?_
   rintro _ H23 ⟨g23, rfl, le23, ge23, at23⟩
   replace lst1 := lst1.le le23
   replace rk := rk.le le23
   replace at_L7 := le23.2 _ _ at_L7
   have lt_at23 := GHeap.ltg at23
   replace at23 : GHeap.get H23 g23 = some (.row (ints []) 2 true) := at23
   refine .q rfl (.build bt_160_Di rfl rfl rfl) ?_
   refine .R rfl (.litA rfl sl_157_Di ze_160_Di rfl rfl rfl rfl) ?_
   rintro _ H25 ⟨g25, rfl, le25, ge25, at25⟩
   replace lst1 := lst1.le le25
   replace rk := rk.le le25
   replace at_L7 := le25.2 _ _ at_L7
   replace at23 := le25.2 _ _ at23
   have lt_at25 := GHeap.ltg at25
   refine .R rfl (.appendV rfl sl_157_Di ze_160_Di rfl by_160_Di sl_157_Di rfl rfl (by assumption) (by assumption) (by first | omega | (simp <;> omega)) rfl rfl (by omega) (by omega)) ?_
   rintro _ H26 ⟨g26, rfl, st26, ge26, at26⟩
   replace lst1 := lst1.sP st26
   replace rk := rk.sP st26
   replace at23 := st26.s at23
   refine .mv rfl (.nil (hK7 _ _ (.region (.mv rfl ?_))))
   refine .q rfl (.add rfl rfl rfl (by omega) (by omega)) ?_
   refine .mv rfl (.nil ?_)
   refine hKL1 ((x + 1, ps ++ [⟨(x : Int), (x : Int), [], g23⟩], _, _)) _ _ ?_ ?_ ⟨rfl, rfl, rfl, rfl, rfl, trivial⟩
   ·
    refine ⟨lst1, by (rw [pcells_snoc]; assumption), by exact ⟨.inr (by omega)⟩, by (simp only [List.length_append, List.length_cons, List.length_nil] <;> omega), ?_⟩
    exact ⟨⟨by omega, by simp; omega, by rw [pws_snoc, ← pwn_succ (by omega)]; exact Nat.add_le_add_right hw _⟩, (hP.keep (rk.lasts1 hat7 rfl)).snoc ⟨by simp, by simp; omega⟩ ⟨by simp, by simp; omega⟩ (by simp) (by simp; omega) (by assumption)⟩
   (dsimp only; omega)
  try simp only [sps] at h17
  refine .exit ?_
  refine hK3 _ _ (.seq (fun K8 hK8 => .seq (fun K9 hK9 => .region (.mv rfl (.nil (hK9 _ _ ?_))))))
  refine .block ?_
  refine .loopR (σ := Nat × List Pth × Nat × Nat) [(1, some _), (2, some _)] (fun (k, ps, gL7v2, nL7v2) => [(9, some (.int .i64 (k : Int))), (7, some (.slice (some ⟨gL7v2, 0, none⟩) nL7v2 nL7v2))]) (fun (k, ps, gL7v2, nL7v2) H' => St [gL7] HL1 H' ∧ H'.get gL7v2 = some (.row (pcells ps) 160 true) ∧ PL gL7v2 gL7 HL1.next ∧ nL7v2 = ps.length ∧ (k ≤ ps.length ∧ k + pws (ps.drop k) ≤ 18) ∧ PthOk H.next 2 ((n : Int) - 1) H' ps) (fun (k, ps, gL7v2, nL7v2) => 60 - k) ((0, ps, _, _)) ⟨rfl, rfl, trivial⟩ ⟨rfl, rfl, trivial⟩ ?_ ?_
  ·
   refine ⟨.refl _ _, by assumption, ⟨.inl rfl⟩, by assumption, ?_⟩
   exact ⟨⟨by omega, by have := pwn_le x; rw [List.drop_zero]; omega⟩, hP⟩
  rintro ⟨k, ps, gL7v2, nL7v2⟩ HL2 ⟨lst2, at_L7v2, pl_L7v2, ln_L7v2, hI⟩ KL2 hKL2
  refine .forget (fr' := [(9, some (.int .i64 (k : Int))), (7, some (.slice (some ⟨gL7v2, 0, none⟩) nL7v2 nL7v2)), (1, some _), (2, some _)]) ⟨rfl, rfl, rfl, rfl, trivial⟩ ?_
  have ge_L7v2 : H.next ≤ gL7v2 := pl_L7v2.ge (by omega) (by omega)
  have nx_HL2 := lst2.nx
  replace hle := hle.st lst2 (fun k hk => ⟨by omega, trivial⟩)
  obtain ⟨⟨hk, hwk⟩, hP⟩ := hI
  have hpl := pws_len hk hwk
  refine .seq (fun K10 hK10 => .seq (fun K11 hK11 => .region (.mv rfl (.mv rfl (.q rfl (.len sl_157_Di rfl) (.q rfl (.cmp rfl rfl rfl) (.mv rfl ?_)))))))
  refine .split (fun h31 => ?_) (fun h31 => ?_)
  ·
   simp only [sps] at h31
   refine .qg rfl (.move rfl) (.qg rfl (.len sl_157_Di rfl) (.qg rfl (.cmp rfl rfl rfl) (.q rfl (.pickT rfl rfl) (.nil (hK11 _ _ ?_)))))
   refine .cond rfl (fun h35 => ?_) (fun h35 => ?_)
   ·
    simp only [sps] at h35
    refine .skip ?_
    refine hK10 _ _ (.seq (fun K12 hK12 => ?_))
    refine .block ?_
    refine .seq (fun K13 hK13 => .region (.mv rfl (.nil (hK13 _ _ ?_))))
    refine .block ?_
    refine .loopR (σ := Nat × List Pth × Nat × Nat) [(1, some _), (2, some _), (9, some _), (32, some _), (33, some _), (34, some _)] (fun (e, p2, gL7v3, nL7v3) => [(10, some (.int .i64 (e : Int))), (7, some (.slice (some ⟨gL7v3, 0, none⟩) nL7v3 nL7v3))]) (fun (e, p2, gL7v3, nL7v3) H' => St [gL7v2] HL2 H' ∧ H'.get gL7v3 = some (.row (pcells p2) 160 true) ∧ PL gL7v3 gL7v2 HL2.next ∧ nL7v3 = p2.length ∧ (e ≤ xs.length ∧ ps.length ≤ p2.length ∧ p2.getD k pz = ps.getD k pz ∧ k + 1 + pws (p2.drop (k + 1)) + 3 * ((pw (ps.getD k pz).t - 1) / 3) ≤ 18 + e * ((pw (ps.getD k pz).t - 1) / 3)) ∧ PthOk H.next 2 ((n : Int) - 1) H' p2) (fun (e, p2, gL7v3, nL7v3) => xs.length - e) ((0, ps, _, _)) ⟨rfl, rfl, rfl, rfl, rfl, rfl, trivial⟩ ⟨rfl, rfl, trivial⟩ ?_ ?_
    ·
     refine ⟨.refl _ _, by assumption, ⟨.inl rfl⟩, by assumption, ?_⟩
     have hd := pws_drop (ps := ps) (k := k) (by omega)
     have h1 := pw_pos (ps.getD k pz).t
     exact ⟨⟨by omega, by omega, rfl, by omega⟩, hP⟩
    rintro ⟨e, p2, gL7v3, nL7v3⟩ HL3 ⟨lst3, at_L7v3, pl_L7v3, ln_L7v3, hI⟩ KL3 hKL3
    refine .forget (fr' := [(10, some (.int .i64 (e : Int))), (7, some (.slice (some ⟨gL7v3, 0, none⟩) nL7v3 nL7v3)), (1, some _), (2, some _), (9, some _), (32, some _), (33, some _), (34, some _)]) ⟨rfl, rfl, rfl, rfl, rfl, rfl, rfl, rfl, trivial⟩ ?_
    have nx_HL3 := lst3.nx
    replace hle := hle.st lst3 (fun k hk => ⟨by omega, trivial⟩)
    replace lst2 := lst2.sQ lst3
    have lt_at_L7v3 := GHeap.ltg at_L7v3
    replace ha := base_ha.mono hle
    replace hb := base_hb.mono hle
    obtain ⟨⟨he, hp1, hp2, hwe⟩, hP⟩ := hI
    have hl18 : p2.length ≤ 18 := by
      have hB := Nat.mul_le_mul_right ((pw (ps.getD k pz).t - 1) / 3) (show e ≤ 3 by omega)
      exact pws_len (k := k + 1) (by omega) (by omega)
    have htl := pcells_len p2
    refine .seq (fun K14 hK14 => .seq (fun K15 hK15 => .region (.mv rfl (.mv rfl (.q rfl (.len sl_22_A rfl) (.q rfl (.cmp rfl rfl rfl) (.nil (hK15 _ _ ?_))))))))
    refine .cond rfl (fun h41 => ?_) (fun h41 => ?_)
    ·
     simp only [sps] at h41
     refine .skip ?_
     refine hK14 _ _ (.seq (fun K16 hK16 => ?_))
     refine .block ?_
     refine .seq (fun K17 hK17 => ?_)
     refine .regionD mo_B (.q 0 (.q 1 (.q 2 (.q 3 (.q 4 (.q 5 (.q 6 (.q 7 (.q 8 (.q 9 (.done))))))))))) (by kernel_rfl) ?_
     obtain rfl := ln_L7v3
     have sA := pcells_slA at_L7v3
     have mk := pcells_mem at_L7v3 (i := k) (by omega)
     refine .mv rfl rfl (.mv rfl rfl ?_)
     refine .q rfl (.idxN sl_22_A (by assumption) rfl rfl (by omega)) ?_
     refine .q rfl (.loadI on_2_A (by assumption) rfl (by omega)) ?_
     refine .mv rfl rfl (.mv rfl rfl ?_)
     refine .q rfl (.idx sl_157_Di (by assumption) (by omega) rfl rfl (by omega) (by omega) rfl) ?_
     refine .q rfl (.fieldAddr fo_160_1_Dg rfl) (.q rfl (.load on_2_A rfl (mk.2 1 _ rfl)) (.q rfl (.cmp rfl rfl rfl) ?_))
     refine .done ?_
     refine hK17 _ _ ?_
     refine .cond rfl (fun h53 => ?_) (fun h53 => ?_)
     ·
      simp only [sps] at h53
      have pk := hP.at (i := k) (by omega)
      have iE := Ints.of_get pk.2.2.2.2
      have yb := hy e (by omega)
      have pk1 := pk.1
      have hh : ((p2.getD k pz).e ++ [(e : Int)]).length = (p2.getD k pz).e.length + 1 := by rw [List.length_append]; rfl
      refine .regionD mo_B (.q 0 (.q 1 (.q 2 (.q 3 (.q 4 (.q 5 (.q 6 (.q 7 (.q 8 (.q 9 (.q 10 (.q 11 (.q 12 (.q 13 (.q 14 (.q 16 (.or (.c 15 1 (.c 17 1 (.c 18 1 (.q 19 (.c 20 1 (.c 21 0 (.c 22 0 (.done)))))))) (.c 17 1 (.c 15 1 (.c 18 1 (.q 19 (.c 20 1 (.c 21 0 (.c 22 0 (.done))))))))))))))))))))))))) (by kernel_rfl) ?_
      refine .cut [(1, some _), (2, some _), (9, some _), (10, some _), (32, some _), (33, some _), (34, some _), (38, some _), (39, some _), (40, some _), (41, some _), (44, some _), (45, some _), (46, some _), (47, some _), (48, some _), (49, some _), (50, some _), (51, some _), (52, some _), (53, some _)] ⟨rfl, rfl, rfl, rfl, rfl, rfl, rfl, rfl, rfl, rfl, rfl, rfl, rfl, rfl, rfl, rfl, rfl, rfl, rfl, rfl, rfl, trivial⟩ (fun rest fr' H' => ∃ (gE : Nat) (gV : Nat), Sub ((7, some (.slice (some ⟨gV, 0, none⟩) (p2.length + 1) (p2.length + 1))) :: rest) fr' ∧ St [gL7v3] HL3 H' ∧ H'.get gE = some (.row (ints ((p2.getD k pz).e ++ [(e : Int)])) 2 true) ∧ HL3.next ≤ gE ∧ H'.get gV = some (.row (pcells (p2 ++ [⟨(p2.getD k pz).f, ys.getD e 0, (p2.getD k pz).e ++ [(e : Int)], gE⟩])) 160 true) ∧ HL3.next ≤ gV) ?_ ?_
      ·
       have hf0 := St.refl [gL7v3] HL3
       refine .qB rfl (.refl _) (.move rfl) (.qB rfl (.refl _) (.move rfl) (.qB rfl (.refl _) (.move rfl) ?_))
       refine .q rfl (.idx sl_157_Di (by assumption) (by omega) rfl rfl (by omega) (by omega) rfl) ?_
       refine .qB rfl (.refl _) (.fieldAddr fo_160_0_Dg rfl) (.q rfl (.load on_2_A rfl (mk.2 0 _ rfl)) (.qB rfl (.refl _) (.move rfl) (.qB rfl (.refl _) (.move rfl) ?_)))
       refine .q rfl (.idxN sl_22_A (by assumption) rfl rfl (by omega)) ?_
       refine .q rfl (.loadI on_2_A (by assumption) rfl (by omega)) ?_
       refine .qB rfl (.refl _) (.move rfl) (.qB rfl (.refl _) (.move rfl) ?_)
       refine .q rfl (.idx sl_157_Di (by assumption) (by omega) rfl rfl (by omega) (by omega) rfl) ?_
       refine .qB rfl (.refl _) (.fieldAddr fo_160_2_Dg rfl) (.q rfl (.load on_22_B rfl (mk.2 2 _ rfl)) (.qB rfl (.refl _) (.move rfl) ?_))
       refine .orI ?_ ?_
       ·
        refine .call1 rfl rfl rfl rfl rfl @Try.call92 rfl (l01Own_c (by first | exact iE | exact Ints.mono iE (by assumption))) ?_
        rintro _ H69 ⟨le69, g69, rfl, at69, ge69⟩
        have hbl := le69
        refine ⟨hbl, ?_⟩
        replace hf0 := hf0.le le69
        replace at_L7v3 := le69.2 _ _ at_L7v3
        have lt_at69 := GHeap.ltg at69
        refine .c1 rfl rfl rfl rfl (.litA rfl sl_22_A ze_2_L rfl rfl rfl rfl) ?_
        rintro _ H71 ⟨g71, rfl, le71, ge71, at71⟩
        replace hbl := hbl.trans le71
        refine ⟨hbl, ?_⟩
        replace hf0 := hf0.le le71
        replace at_L7v3 := le71.2 _ _ at_L7v3
        replace at69 := le71.2 _ _ at69
        have lt_at71 := GHeap.ltg at71
        refine .c1 rfl rfl rfl rfl (.appendI rfl sl_22_A ze_2_L rfl by_2_L sl_22_A rfl rfl (by assumption) (by assumption) (by first | omega | (simp <;> omega)) (by omega) (by omega)) ?_
        rintro _ H72 ⟨g72, rfl, st72, ge72, at72⟩
        replace hbl := hbl.st st72 (fun k hk => ⟨by omega, trivial⟩)
        refine ⟨hbl, ?_⟩
        replace hf0 := hf0.sA st72
        replace at_L7v3 := st72.s at_L7v3
        have lt_at72 := GHeap.ltg at72
        refine .qB rfl hbl (.build bt_160_Di rfl rfl rfl) ?_
        refine .c1 rfl rfl rfl rfl (.litA rfl sl_157_Di ze_160_Di rfl rfl rfl rfl) ?_
        rintro _ H74 ⟨g74, rfl, le74, ge74, at74⟩
        replace hbl := hbl.trans le74
        refine ⟨hbl, ?_⟩
        replace hf0 := hf0.le le74
        replace at_L7v3 := le74.2 _ _ at_L7v3
        replace at72 := le74.2 _ _ at72
        have lt_at74 := GHeap.ltg at74
        refine .c0 rfl rfl rfl rfl (.appendV rfl sl_157_Di ze_160_Di rfl by_160_Di sl_157_Di rfl rfl (by assumption) (by assumption) (by first | omega | (simp <;> omega)) rfl rfl (by omega) (by omega)) ?_
        rintro _ H75 ⟨g75, rfl, st75, ge75, at75⟩
        replace hf0 := hf0.sQ st75
        replace at72 := st75.s at72
        refine .d0 rfl rfl rfl rfl (.quiet (.assign rfl) CIs.mk) ?_
        refine .done ?_
        exact ⟨_, _, ⟨rfl, rfl, rfl, rfl, rfl, rfl, rfl, rfl, rfl, rfl, rfl, rfl, rfl, rfl, rfl, rfl, rfl, rfl, rfl, rfl, rfl, rfl, trivial⟩, hf0, by assumption, by omega, by (rw [pcells_snoc]; unfold Pth.cs; dsimp only; rw [hh]; assumption), by omega⟩
       refine .c1 rfl rfl rfl rfl (.litA rfl sl_22_A ze_2_L rfl rfl rfl rfl) ?_
       rintro _ H71x2 ⟨g71x2, rfl, le71x2, ge71x2, at71x2⟩
       have hbl := le71x2
       refine ⟨hbl, ?_⟩
       replace hf0 := hf0.le le71x2
       replace at_L7v3 := le71x2.2 _ _ at_L7v3
       have lt_at71x2 := GHeap.ltg at71x2
       refine .call1 rfl rfl rfl rfl rfl @Try.call92 rfl (l01Own_c (by first | exact iE | exact Ints.mono iE (by assumption))) ?_
       rintro _ H69x2 ⟨le69x2, g69x2, rfl, at69x2, ge69x2⟩
       replace hbl := hbl.trans le69x2
       refine ⟨hbl, ?_⟩
       replace hf0 := hf0.le le69x2
       replace at_L7v3 := le69x2.2 _ _ at_L7v3
       replace at71x2 := le69x2.2 _ _ at71x2
       have lt_at69x2 := GHeap.ltg at69x2
       refine .c1 rfl rfl rfl rfl (.appendI rfl sl_22_A ze_2_L rfl by_2_L sl_22_A rfl rfl (by assumption) (by assumption) (by first | omega | (simp <;> omega)) (by omega) (by omega)) ?_
       rintro _ H72x2 ⟨g72x2, rfl, st72x2, ge72x2, at72x2⟩
       replace hbl := hbl.st st72x2 (fun k hk => ⟨by omega, trivial⟩)
       refine ⟨hbl, ?_⟩
       replace hf0 := hf0.sA st72x2
       replace at_L7v3 := st72x2.s at_L7v3
       have lt_at72x2 := GHeap.ltg at72x2
       refine .qB rfl hbl (.build bt_160_Di rfl rfl rfl) ?_
       refine .c1 rfl rfl rfl rfl (.litA rfl sl_157_Di ze_160_Di rfl rfl rfl rfl) ?_
       rintro _ H74x2 ⟨g74x2, rfl, le74x2, ge74x2, at74x2⟩
       replace hbl := hbl.trans le74x2
       refine ⟨hbl, ?_⟩
       replace hf0 := hf0.le le74x2
       replace at_L7v3 := le74x2.2 _ _ at_L7v3
       replace at72x2 := le74x2.2 _ _ at72x2
       have lt_at74x2 := GHeap.ltg at74x2
       refine .c0 rfl rfl rfl rfl (.appendV rfl sl_157_Di ze_160_Di rfl by_160_Di sl_157_Di rfl rfl (by assumption) (by assumption) (by first | omega | (simp <;> omega)) rfl rfl (by omega) (by omega)) ?_
       rintro _ H75x2 ⟨g75x2, rfl, st75x2, ge75x2, at75x2⟩
       replace hf0 := hf0.sQ st75x2
       replace at72x2 := st75x2.s at72x2
       refine .d0 rfl rfl rfl rfl (.quiet (.assign rfl) CIs.mk) ?_
       refine .done ?_
       exact ⟨_, _, ⟨rfl, rfl, rfl, rfl, rfl, rfl, rfl, rfl, rfl, rfl, rfl, rfl, rfl, rfl, rfl, rfl, rfl, rfl, rfl, rfl, rfl, rfl, trivial⟩, hf0, by assumption, by omega, by (rw [pcells_snoc]; unfold Pth.cs; dsimp only; rw [hh]; assumption), by omega⟩
      rintro fr913 H913 ⟨gE13, gV13, hsub913, st913, aE, ge913, at913, gv913⟩
      have hpu := pw_up (t := (ps.getD k pz).t) (u := ys.getD e 0) (by rw [← hp2]; exact pk.2.1.1) (by rw [← hp2]; have := hup e (by omega); omega) (by omega)
      obtain ⟨p3, hp3, hl3, hg3, hw3, hP3⟩ : ∃ p3, p3 = p2 ++ [⟨(p2.getD k pz).f, ys.getD e 0, (p2.getD k pz).e ++ [(e : Int)], gE13⟩] ∧ p3.length = p2.length + 1 ∧ p3.getD k pz = p2.getD k pz ∧ pws (p3.drop (k + 1)) ≤ pws (p2.drop (k + 1)) + (pw (ps.getD k pz).t - 1) / 3 ∧ PthOk H.next 2 ((n : Int) - 1) H913 p3 := ⟨_, rfl, by simp, by rw [getD_snoc, if_pos (by omega)], by rw [pws_drop_snoc (by omega)]; dsimp only; omega, PthOk.snoc (p := ⟨(p2.getD k pz).f, ys.getD e 0, (p2.getD k pz).e ++ [(e : Int)], gE13⟩) (hP.keep (st913.lasts1 at_L7v3 rfl)) pk1 yb (by dsimp only; omega) (by dsimp only; omega) aE⟩
      rw [← hp3] at at913
      replace lst3 := lst3.sQ st913
      refine hK16 _ _ ?_
      refine .forget hsub913 ?_
      refine .region (.mv rfl ?_)
      refine .q rfl (.add rfl rfl rfl (by omega) (by omega)) ?_
      refine .mv rfl (.nil ?_)
      refine hKL3 ((e + 1, p3, _, _)) _ _ ?_ ?_ ⟨rfl, rfl, rfl, rfl, rfl, rfl, rfl, rfl, trivial⟩
      ·
       refine ⟨lst3, by assumption, by exact ⟨.inr (by omega)⟩, by omega, ?_⟩
       have e1 := sm e ((pw (ps.getD k pz).t - 1) / 3)
       exact ⟨⟨by omega, by omega, by rw [hg3, hp2], by omega⟩, hP3⟩
      (dsimp only; omega)
     obtain ⟨p3, hp3, hl3, hg3, hw3, hP3⟩ : ∃ p3, p3 = p2 ∧ p3.length = p2.length ∧ p3.getD k pz = p2.getD k pz ∧ pws (p3.drop (k + 1)) ≤ pws (p2.drop (k + 1)) + (pw (ps.getD k pz).t - 1) / 3 ∧ PthOk H.next 2 ((n : Int) - 1) HL3 p3 := ⟨_, rfl, rfl, rfl, by omega, hP⟩
     refine .skip ?_
     refine hK16 _ _ (.region (.mv rfl ?_))
     refine .q rfl (.add rfl rfl rfl (by omega) (by omega)) ?_
     refine .mv rfl (.nil ?_)
     refine hKL3 ((e + 1, p3, _, _)) _ _ ?_ ?_ ⟨rfl, rfl, rfl, rfl, rfl, rfl, rfl, rfl, trivial⟩
     ·
      refine ⟨lst3, by (rw [hp3]; assumption), by assumption, by omega, ?_⟩
      have e1 := sm e ((pw (ps.getD k pz).t - 1) / 3)
      exact ⟨⟨by omega, by omega, by rw [hg3, hp2], by omega⟩, hP3⟩
     (dsimp only; omega)
    try simp only [sps] at h41
    refine .exit ?_
    refine hK12 _ _ (.region (.mv rfl ?_))
    refine .q rfl (.add rfl rfl rfl (by omega) (by omega)) ?_
    refine .mv rfl (.nil ?_)
    refine hKL2 ((k + 1, p2, _, _)) _ _ ?_ ?_ ⟨rfl, rfl, rfl, rfl, trivial⟩
    ·
     refine ⟨lst2, by assumption, by exact pl_L7v3.trans pl_L7v2 (by omega), by omega, ?_⟩
     have hB := Nat.mul_le_mul_right ((pw (ps.getD k pz).t - 1) / 3) (show e ≤ 3 by omega)
     exact ⟨⟨by omega, by omega⟩, hP⟩
    (dsimp only; omega)
   try simp only [sps] at h35
   refine .exit ?_
   refine hK8 _ _ (.seq (fun K18 hK18 => .seq (fun K19 hK19 => .region ?_)))
   obtain rfl := ln_L7v2
   refine .mv rfl (.nil (hK19 _ _ ?_))
   refine .block ?_
   refine .loopR (σ := Nat × List Pth) [(7, some _)] (fun (i, q4) => [(11, some (.int .i64 (i : Int)))]) (fun (i, q4) H' => St [gL7v2] HL2 H' ∧ H'.get gL7v2 = some (.row (pcells q4) 160 true) ∧ (i ≤ 44 ∧ q4.length = ps.length) ∧ PthOk H.next 2 ((n : Int) - 1) H' q4) (fun (i, q4) => 60 - i) ((1, ps)) ⟨rfl, trivial⟩ ⟨rfl, trivial⟩ ?_ ?_
   ·
    refine ⟨.refl _ _, by assumption, ?_⟩
    exact ⟨⟨by omega, by omega⟩, hP⟩
   rintro ⟨i, q4⟩ HL4 ⟨lst4, at_L7, hI⟩ KL4 hKL4
   refine .forget (fr' := [(11, some (.int .i64 (i : Int))), (7, some _)]) ⟨rfl, rfl, trivial⟩ ?_
   replace hle := hle.st lst4 (fun k hk => ⟨by omega, trivial⟩)
   obtain ⟨⟨hi4, hpl⟩, hP⟩ := hI
   refine .seq (fun K20 hK20 => .seq (fun K21 hK21 => .region (.mv rfl (.mv rfl (.q rfl (.len sl_157_Di rfl) (.q rfl (.cmp rfl rfl rfl) (.nil (hK21 _ _ ?_))))))))
   refine .cond rfl (fun h79 => ?_) (fun h79 => ?_)
   ·
    simp only [sps] at h79
    refine .skip ?_
    refine hK20 _ _ (.seq (fun K22 hK22 => ?_))
    refine .block ?_
    refine .seq (fun K23 hK23 => .region (.mv rfl (.mv rfl (.nil (hK23 _ _ ?_)))))
    refine .block ?_
    refine .loopR (σ := Nat × List Pth) [(7, some _), (11, some _)] (fun (z, qs) => [(12, some (.int .i64 (z : Int)))]) (fun (z, qs) H' => St [gL7v2] HL4 H' ∧ H'.get gL7v2 = some (.row (pcells qs) 160 true) ∧ (z < qs.length ∧ qs.length = ps.length) ∧ PthOk H.next 2 ((n : Int) - 1) H' qs) (fun (z, qs) => z) ((i, q4)) ⟨rfl, rfl, trivial⟩ ⟨rfl, trivial⟩ ?_ ?_
    ·
     refine ⟨.refl _ _, by assumption, ?_⟩
     exact ⟨⟨by omega, by omega⟩, hP⟩
    rintro ⟨z, qs⟩ HL5 ⟨lst5, at_L7, hI⟩ KL5 hKL5
    refine .forget (fr' := [(12, some (.int .i64 (z : Int))), (7, some _), (11, some _)]) ⟨rfl, rfl, rfl, trivial⟩ ?_
    replace lst4 := lst4.sQ lst5
    have rk := St.refl [gL7v2] HL5
    obtain ⟨⟨hz, hql⟩, hP⟩ := hI
    have hat7 := at_L7
    refine .seq (fun K24 hK24 => .seq (fun K25 hK25 => ?_))
    refine .regionD mo_B (.q 0 (.q 1 (.q 2 (.q 3 (.q 4 (.q 5 (.q 6 (.q 7 (.q 8 (.q 9 (.q 10 (.q 11 (.c 12 0 (.q 13 (.done))))))))))))))) (by kernel_rfl) ?_
    refine .mv rfl rfl (.q rfl (.cmp rfl rfl rfl) (.mv rfl rfl ?_))
    refine .split (fun h85 => ?_) (fun h85 => ?_)
    ·
     simp only [sps] at h85
     obtain ⟨w, rfl⟩ : ∃ w, z = w + 1 := ⟨z - 1, by omega⟩
     have sA := pcells_slA at_L7
     rw [hql] at sA
     have mz := pcells_mem at_L7 (i := w + 1) (by omega)
     have mw := pcells_mem at_L7 (i := w) (by omega)
     have pz1 := hP.at (i := w + 1) (by omega)
     have pz2 := hP.at (i := w) (by omega)
     refine .qg rfl (.move rfl) (.qg rfl (.move rfl) ?_)
     refine .qg rfl (.idx sl_157_Di (by assumption) (by omega) rfl rfl (by omega) (by omega) rfl) ?_
     refine .qg rfl (.loadM ag_160_Di rfl (by assumption)) ?_
     refine .qg rfl (.move rfl) (.qg rfl (.move rfl) ?_)
     refine .qg rfl (.sub (r := (w : Int)) rfl rfl (by omega) (by omega) (by omega)) ?_
     refine .qg rfl (.idx sl_157_Di (by assumption) (by omega) rfl rfl (by omega) (by omega) rfl) ?_
     refine .qg rfl (.loadM ag_160_Di rfl (by assumption)) ?_
     refine .call0g rfl rfl rfl rfl rfl rfl rfl @Try.call155 rfl (l03Before_c (Ints.of_get pz1.2.2.2.2) (Ints.of_get pz2.2.2.2.2) (by omega)) ?_
     rintro _ H95 ⟨le95, q95, rfl⟩
     replace lst4 := lst4.le le95
     replace lst5 := lst5.le le95
     replace rk := rk.le le95
     replace at_L7 := le95.2 _ _ at_L7
     refine .q rfl (.pickT rfl rfl) ?_
     refine .done ?_
     refine hK25 _ _ ?_
     refine .cond rfl (fun h96 => ?_) (fun h96 => ?_)
     ·
      try simp only [sps] at h96
      refine .skip ?_
      refine hK24 _ _ (.seq (fun K26 hK26 => ?_))
      refine .block ?_
      refine .seq (fun K27 hK27 => .region ?_)
      have mz := pcells_mem at_L7 (i := w + 1) (by omega)
      have sA := pcells_slA at_L7
      rw [hql] at sA
      refine .mv rfl (.mv rfl ?_)
      refine .q rfl (.idx sl_157_Di (by assumption) (by omega) rfl rfl (by omega) (by omega) rfl) ?_
      refine .q rfl (.loadM ag_160_Di rfl (by assumption)) ?_
      refine .R rfl (.allocR rfl ze_160_Di rfl) ?_
      rintro _ H13 ⟨g13, rfl, le13, ge13, at13⟩
      replace lst5 := lst5.le le13
      replace rk := rk.le le13
      replace at_L7 := le13.2 _ _ at_L7
      refine .r0 rfl rfl (.fillA rfl sz_160_Dg rfl rfl rfl rfl) ?_
      rintro _ H20005 ⟨rfl, st20005, at20005⟩
      replace lst5 := lst5.sA st20005
      replace rk := rk.sA st20005
      have ne_gL7v2_g13 : NE gL7v2 g13 := .a
      replace at_L7 := st20005.s at_L7 ne_gL7v2_g13.ne
      refine .nil (hK27 _ _ (.seq (fun K28 hK28 => .region ?_)))
      have mw := pcells_mem at_L7 (i := w) (by omega)
      have sA := pcells_slA at_L7
      rw [hql] at sA
      refine .mv rfl (.mv rfl (.mv rfl (.mv rfl ?_)))
      refine .q rfl (.sub (r := (w : Int)) rfl rfl (by omega) (by omega) (by omega)) ?_
      refine .q rfl (.idx sl_157_Di (by assumption) (by omega) rfl rfl (by omega) (by omega) rfl) ?_
      refine .q rfl (.loadM ag_160_Di rfl (by assumption)) ?_
      refine .q rfl (.idx sl_157_Di (by assumption) (by omega) rfl rfl (by omega) (by omega) rfl) ?_
      refine .r0 rfl rfl (.storeNR rfl sz_160_Dg rfl rfl rfl rfl (by assumption) (by rw [pcells_len]; simp; omega)) ?_
      rintro _ H21008 ⟨rfl, st21008, at21008⟩
      replace lst5 := lst5.sQ st21008
      replace rk := rk.sQ st21008
      replace at20005 := st21008.s at20005 (Ne.symm ne_gL7v2_g13.ne)
      obtain ⟨q5, hq5, hl5, hP5⟩ : ∃ q5, q5 = qs.set (w + 1) (qs.getD w pz) ∧ q5.length = qs.length ∧ PthOk H.next 2 ((n : Int) - 1) H21008 q5 := ⟨_, rfl, by simp, (hP.keep (rk.lasts1 hat7 rfl)).set (by omega)⟩
      replace at21008 : GHeap.get H21008 gL7v2 = some (.row (pcells q5) 160 true) := by
        have hx := at21008
        simp only [Int.toNat_natCast, Nat.zero_add] at hx
        rw [hq5, ← pcells_set _ (by omega)]
        exact hx
      have sA := pcells_slA at21008
      rw [hl5, hql] at sA
      refine .nil (hK28 _ _ (.region (.mv rfl (.mv rfl ?_))))
      refine .q rfl (.sub (r := (w : Int)) rfl rfl (by omega) (by omega) (by omega)) ?_
      refine .q rfl (.loadM ag_160_Di rfl ⟨rfl, Mem.of_get at20005⟩) ?_
      refine .q rfl (.idx sl_157_Di (by assumption) (by omega) rfl rfl (by omega) (by omega) rfl) ?_
      refine .r0 rfl rfl (.storeNR rfl sz_160_Dg rfl rfl rfl rfl (by assumption) (by rw [pcells_len]; simp; omega)) ?_
      rintro _ H22005 ⟨rfl, st22005, at22005⟩
      replace lst5 := lst5.sQ st22005
      replace rk := rk.sQ st22005
      obtain ⟨q6, hq6, hl6, hP6⟩ : ∃ q6, q6 = q5.set w (qs.getD (w + 1) pz) ∧ q6.length = qs.length ∧ PthOk H.next 2 ((n : Int) - 1) H22005 q6 := ⟨_, rfl, by simp; omega, fun p hp => by
        rcases List.mem_or_eq_of_mem_set hp with h | rfl
        · have h9 := (hP.keep (rk.lasts1 hat7 rfl)).set (i := w + 1) (j := w) (by omega) p (by rw [← hq5]; exact h)
          rw [List.length_set] at h9 ⊢
          rw [hl5]
          exact h9
        · have h9 := (hP.keep (rk.lasts1 hat7 rfl)).at (i := w + 1) (by omega)
          rw [List.length_set, hl5]
          exact h9⟩
      replace at22005 : GHeap.get H22005 gL7v2 = some (.row (pcells q6) 160 true) := by
        have hx := at22005
        simp only [Int.toNat_natCast, Nat.zero_add] at hx
        rw [hq6, ← pcells_set _ (by omega)]
        exact hx
      refine .nil (hK26 _ _ (.region (.mv rfl ?_)))
      refine .q rfl (.sub (r := (w : Int)) rfl rfl (by omega) (by omega) (by omega)) ?_
      refine .mv rfl (.nil ?_)
      refine hKL5 ((w, q6)) _ _ ?_ ?_ ⟨rfl, rfl, rfl, trivial⟩
      ·
       refine ⟨lst5, by assumption, ?_⟩
       exact ⟨⟨by omega, by omega⟩, hP6⟩
      (dsimp only; omega)
     try simp only [sps] at h96
     refine .exit ?_
     refine hK22 _ _ (.region (.mv rfl ?_))
     refine .q rfl (.add rfl rfl rfl (by omega) (by omega)) ?_
     refine .mv rfl (.nil ?_)
     refine hKL4 ((i + 1, qs)) _ _ ?_ ?_ ⟨rfl, rfl, trivial⟩
     ·
      refine ⟨lst4, by assumption, ?_⟩
      exact ⟨⟨by omega, by omega⟩, by first | exact hP | exact hP.keep (.of_le (by assumption))⟩
     (dsimp only; omega)
    try simp only [sps] at h85
    refine .z rfl (.z rfl (.z rfl (.z rfl (.z rfl (.z rfl (.z rfl (.z rfl (.z rfl (.sgc rfl rfl rfl rfl rfl rfl (.q rfl (.pickF rfl rfl) ?_))))))))))
    refine .done ?_
    refine hK25 _ _ ?_
    refine .condF rfl ?_
    refine .exit ?_
    refine hK22 _ _ (.region (.mv rfl ?_))
    refine .q rfl (.add rfl rfl rfl (by omega) (by omega)) ?_
    refine .mv rfl (.nil ?_)
    refine hKL4 ((i + 1, qs)) _ _ ?_ ?_ ⟨rfl, rfl, trivial⟩
    ·
     refine ⟨lst4, by assumption, ?_⟩
     exact ⟨⟨by omega, by omega⟩, by first | exact hP | exact hP.keep (.of_le (by assumption))⟩
    (dsimp only; omega)
   try simp only [sps] at h79
   refine .exit ?_
   refine hK18 _ _ (.seq (fun K29 hK29 => .region (.mv rfl (.mv rfl (.nil (hK29 _ _ ?_))))))
   refine .ret ?_
   refine hret _ _ ?_
   refine ⟨_, rfl, ?_⟩
   exact ⟨hle, gL7v2, q4, by rw [‹q4.length = _›], by omega, by assumption, hP, by omega⟩
  try simp only [sps] at h31
  refine .z rfl (.z rfl (.z rfl (.q rfl (.pickF rfl rfl) (.nil (hK11 _ _ ?_)))))
  refine .condF rfl ?_
  refine .exit ?_
  refine hK8 _ _ (.seq (fun K30 hK30 => .seq (fun K31 hK31 => .region ?_)))
  obtain rfl := ln_L7v2
  refine .mv rfl (.nil (hK31 _ _ ?_))
  refine .block ?_
  refine .loopR (σ := Nat × List Pth) [(7, some _)] (fun (i, q4) => [(11, some (.int .i64 (i : Int)))]) (fun (i, q4) H' => St [gL7v2] HL2 H' ∧ H'.get gL7v2 = some (.row (pcells q4) 160 true) ∧ (i ≤ 44 ∧ q4.length = ps.length) ∧ PthOk H.next 2 ((n : Int) - 1) H' q4) (fun (i, q4) => 60 - i) ((1, ps)) ⟨rfl, trivial⟩ ⟨rfl, trivial⟩ ?_ ?_
  ·
   refine ⟨.refl _ _, by assumption, ?_⟩
   exact ⟨⟨by omega, by omega⟩, hP⟩
  rintro ⟨i, q4⟩ HL4 ⟨lst4, at_L7, hI⟩ KL4 hKL4
  refine .forget (fr' := [(11, some (.int .i64 (i : Int))), (7, some _)]) ⟨rfl, rfl, trivial⟩ ?_
  replace hle := hle.st lst4 (fun k hk => ⟨by omega, trivial⟩)
  obtain ⟨⟨hi4, hpl⟩, hP⟩ := hI
  refine .seq (fun K32 hK32 => .seq (fun K33 hK33 => .region (.mv rfl (.mv rfl (.q rfl (.len sl_157_Di rfl) (.q rfl (.cmp rfl rfl rfl) (.nil (hK33 _ _ ?_))))))))
  refine .cond rfl (fun h79 => ?_) (fun h79 => ?_)
  ·
   simp only [sps] at h79
   refine .skip ?_
   refine hK32 _ _ (.seq (fun K34 hK34 => ?_))
   refine .block ?_
   refine .seq (fun K35 hK35 => .region (.mv rfl (.mv rfl (.nil (hK35 _ _ ?_)))))
   refine .block ?_
   refine .loopR (σ := Nat × List Pth) [(7, some _), (11, some _)] (fun (z, qs) => [(12, some (.int .i64 (z : Int)))]) (fun (z, qs) H' => St [gL7v2] HL4 H' ∧ H'.get gL7v2 = some (.row (pcells qs) 160 true) ∧ (z < qs.length ∧ qs.length = ps.length) ∧ PthOk H.next 2 ((n : Int) - 1) H' qs) (fun (z, qs) => z) ((i, q4)) ⟨rfl, rfl, trivial⟩ ⟨rfl, trivial⟩ ?_ ?_
   ·
    refine ⟨.refl _ _, by assumption, ?_⟩
    exact ⟨⟨by omega, by omega⟩, hP⟩
   rintro ⟨z, qs⟩ HL5 ⟨lst5, at_L7, hI⟩ KL5 hKL5
   refine .forget (fr' := [(12, some (.int .i64 (z : Int))), (7, some _), (11, some _)]) ⟨rfl, rfl, rfl, trivial⟩ ?_
   have nx_HL5 := lst5.nx
   replace lst4 := lst4.sQ lst5
   have lt_at_L7 := GHeap.ltg at_L7
   have rk := St.refl [gL7v2] HL5
   obtain ⟨⟨hz, hql⟩, hP⟩ := hI
   have hat7 := at_L7
   refine .seq (fun K36 hK36 => .seq (fun K37 hK37 => ?_))
   refine .regionD mo_B (.q 0 (.q 1 (.q 2 (.q 3 (.q 4 (.q 5 (.q 6 (.q 7 (.q 8 (.q 9 (.q 10 (.q 11 (.c 12 0 (.q 13 (.done))))))))))))))) (by kernel_rfl) ?_
   refine .mv rfl rfl (.q rfl (.cmp rfl rfl rfl) (.mv rfl rfl ?_))
   refine .split (fun h85 => ?_) (fun h85 => ?_)
   ·
    simp only [sps] at h85
    obtain ⟨w, rfl⟩ : ∃ w, z = w + 1 := ⟨z - 1, by omega⟩
    have sA := pcells_slA at_L7
    rw [hql] at sA
    have mz := pcells_mem at_L7 (i := w + 1) (by omega)
    have mw := pcells_mem at_L7 (i := w) (by omega)
    have pz1 := hP.at (i := w + 1) (by omega)
    have pz2 := hP.at (i := w) (by omega)
    refine .qg rfl (.move rfl) (.qg rfl (.move rfl) ?_)
    refine .qg rfl (.idx sl_157_Di (by assumption) (by omega) rfl rfl (by omega) (by omega) rfl) ?_
    refine .qg rfl (.loadM ag_160_Di rfl (by assumption)) ?_
    refine .qg rfl (.move rfl) (.qg rfl (.move rfl) ?_)
    refine .qg rfl (.sub (r := (w : Int)) rfl rfl (by omega) (by omega) (by omega)) ?_
    refine .qg rfl (.idx sl_157_Di (by assumption) (by omega) rfl rfl (by omega) (by omega) rfl) ?_
    refine .qg rfl (.loadM ag_160_Di rfl (by assumption)) ?_
    refine .call0g rfl rfl rfl rfl rfl rfl rfl @Try.call155 rfl (l03Before_c (Ints.of_get pz1.2.2.2.2) (Ints.of_get pz2.2.2.2.2) (by omega)) ?_
    rintro _ H95x2 ⟨le95x2, q95x2, rfl⟩
    have nx_H95x2 := le95x2.1
    replace lst4 := lst4.le le95x2
    replace lst5 := lst5.le le95x2
    replace rk := rk.le le95x2
    replace at_L7 := le95x2.2 _ _ at_L7
    refine .q rfl (.pickT rfl rfl) ?_
    refine .done ?_
    refine hK37 _ _ ?_
    refine .cond rfl (fun h96 => ?_) (fun h96 => ?_)
    ·
     try simp only [sps] at h96
     refine .skip ?_
     refine hK36 _ _ (.seq (fun K38 hK38 => ?_))
     refine .block ?_
     refine .seq (fun K39 hK39 => .region ?_)
     have mz := pcells_mem at_L7 (i := w + 1) (by omega)
     have sA := pcells_slA at_L7
     rw [hql] at sA
     refine .mv rfl (.mv rfl ?_)
     refine .q rfl (.idx sl_157_Di (by assumption) (by omega) rfl rfl (by omega) (by omega) rfl) ?_
     refine .q rfl (.loadM ag_160_Di rfl (by assumption)) ?_
     refine .R rfl (.allocR rfl ze_160_Di rfl) ?_
     rintro _ H13x2 ⟨g13x2, rfl, le13x2, ge13x2, at13x2⟩
     replace lst5 := lst5.le le13x2
     replace rk := rk.le le13x2
     replace at_L7 := le13x2.2 _ _ at_L7
     refine .r0 rfl rfl (.fillA rfl sz_160_Dg rfl rfl rfl rfl) ?_
     rintro _ H20005x2 ⟨rfl, st20005x2, at20005x2⟩
     replace lst5 := lst5.sA st20005x2
     replace rk := rk.sA st20005x2
     have ne_gL7v2_g13x2 : NE gL7v2 g13x2 := .a
     replace at_L7 := st20005x2.s at_L7 ne_gL7v2_g13x2.ne
     refine .nil (hK39 _ _ (.seq (fun K40 hK40 => .region ?_)))
     have mw := pcells_mem at_L7 (i := w) (by omega)
     have sA := pcells_slA at_L7
     rw [hql] at sA
     refine .mv rfl (.mv rfl (.mv rfl (.mv rfl ?_)))
     refine .q rfl (.sub (r := (w : Int)) rfl rfl (by omega) (by omega) (by omega)) ?_
     refine .q rfl (.idx sl_157_Di (by assumption) (by omega) rfl rfl (by omega) (by omega) rfl) ?_
     refine .q rfl (.loadM ag_160_Di rfl (by assumption)) ?_
     refine .q rfl (.idx sl_157_Di (by assumption) (by omega) rfl rfl (by omega) (by omega) rfl) ?_
     refine .r0 rfl rfl (.storeNR rfl sz_160_Dg rfl rfl rfl rfl (by assumption) (by rw [pcells_len]; simp; omega)) ?_
     rintro _ H21008x2 ⟨rfl, st21008x2, at21008x2⟩
     replace lst5 := lst5.sQ st21008x2
     replace rk := rk.sQ st21008x2
     replace at20005x2 := st21008x2.s at20005x2 (Ne.symm ne_gL7v2_g13x2.ne)
     obtain ⟨q5, hq5, hl5, hP5⟩ : ∃ q5, q5 = qs.set (w + 1) (qs.getD w pz) ∧ q5.length = qs.length ∧ PthOk H.next 2 ((n : Int) - 1) H21008x2 q5 := ⟨_, rfl, by simp, (hP.keep (rk.lasts1 hat7 rfl)).set (by omega)⟩
     replace at21008x2 : GHeap.get H21008x2 gL7v2 = some (.row (pcells q5) 160 true) := by
       have hx := at21008x2
       simp only [Int.toNat_natCast, Nat.zero_add] at hx
       rw [hq5, ← pcells_set _ (by omega)]
       exact hx
     have sA := pcells_slA at21008x2
     rw [hl5, hql] at sA
     refine .nil (hK40 _ _ (.region (.mv rfl (.mv rfl ?_))))
     refine .q rfl (.sub (r := (w : Int)) rfl rfl (by omega) (by omega) (by omega)) ?_
     refine .q rfl (.loadM ag_160_Di rfl ⟨rfl, Mem.of_get at20005x2⟩) ?_
     refine .q rfl (.idx sl_157_Di (by assumption) (by omega) rfl rfl (by omega) (by omega) rfl) ?_
     refine .r0 rfl rfl (.storeNR rfl sz_160_Dg rfl rfl rfl rfl (by assumption) (by rw [pcells_len]; simp; omega)) ?_
     rintro _ H22005x2 ⟨rfl, st22005x2, at22005x2⟩
     replace lst5 := lst5.sQ st22005x2
     replace rk := rk.sQ st22005x2
     obtain ⟨q6, hq6, hl6, hP6⟩ : ∃ q6, q6 = q5.set w (qs.getD (w + 1) pz) ∧ q6.length = qs.length ∧ PthOk H.next 2 ((n : Int) - 1) H22005x2 q6 := ⟨_, rfl, by simp; omega, fun p hp => by
       rcases List.mem_or_eq_of_mem_set hp with h | rfl
       · have h9 := (hP.keep (rk.lasts1 hat7 rfl)).set (i := w + 1) (j := w) (by omega) p (by rw [← hq5]; exact h)
         rw [List.length_set] at h9 ⊢
         rw [hl5]
         exact h9
       · have h9 := (hP.keep (rk.lasts1 hat7 rfl)).at (i := w + 1) (by omega)
         rw [List.length_set, hl5]
         exact h9⟩
     replace at22005x2 : GHeap.get H22005x2 gL7v2 = some (.row (pcells q6) 160 true) := by
       have hx := at22005x2
       simp only [Int.toNat_natCast, Nat.zero_add] at hx
       rw [hq6, ← pcells_set _ (by omega)]
       exact hx
     refine .nil (hK38 _ _ (.region (.mv rfl ?_)))
     refine .q rfl (.sub (r := (w : Int)) rfl rfl (by omega) (by omega) (by omega)) ?_
     refine .mv rfl (.nil ?_)
     refine hKL5 ((w, q6)) _ _ ?_ ?_ ⟨rfl, rfl, rfl, trivial⟩
     ·
      refine ⟨lst5, by assumption, ?_⟩
      exact ⟨⟨by omega, by omega⟩, hP6⟩
     (dsimp only; omega)
    try simp only [sps] at h96
    refine .exit ?_
    refine hK34 _ _ (.region (.mv rfl ?_))
    refine .q rfl (.add rfl rfl rfl (by omega) (by omega)) ?_
    refine .mv rfl (.nil ?_)
    refine hKL4 ((i + 1, qs)) _ _ ?_ ?_ ⟨rfl, rfl, trivial⟩
    ·
     refine ⟨lst4, by assumption, ?_⟩
     exact ⟨⟨by omega, by omega⟩, by first | exact hP | exact hP.keep (.of_le (by assumption))⟩
    (dsimp only; omega)
   try simp only [sps] at h85
   refine .z rfl (.z rfl (.z rfl (.z rfl (.z rfl (.z rfl (.z rfl (.z rfl (.z rfl (.sgc rfl rfl rfl rfl rfl rfl (.q rfl (.pickF rfl rfl) ?_))))))))))
   refine .done ?_
   refine hK37 _ _ ?_
   refine .condF rfl ?_
   refine .exit ?_
   refine hK34 _ _ (.region (.mv rfl ?_))
   refine .q rfl (.add rfl rfl rfl (by omega) (by omega)) ?_
   refine .mv rfl (.nil ?_)
   refine hKL4 ((i + 1, qs)) _ _ ?_ ?_ ⟨rfl, rfl, trivial⟩
   ·
    refine ⟨lst4, by assumption, ?_⟩
    exact ⟨⟨by omega, by omega⟩, by first | exact hP | exact hP.keep (.of_le (by assumption))⟩
   (dsimp only; omega)
  try simp only [sps] at h79
  refine .exit ?_
  refine hK30 _ _ (.seq (fun K41 hK41 => .region (.mv rfl (.mv rfl (.nil (hK41 _ _ ?_))))))
  refine .ret ?_
  refine hret _ _ ?_
  refine ⟨_, rfl, ?_⟩
  exact ⟨hle, gL7v2, q4, by rw [‹q4.length = _›], by omega, by assumption, hP, by omega⟩
end Go.Proofs.Ytjdedelneppnlaa
namespace Go.GL
structure PthK (b : Nat) (eI : TypeId) (N : Int) (H : GHeap) (ps : List Pth) : Prop where
  ok : PthOk b eI N H ps
theorem PthK.keep {b b' : Nat} {eI : TypeId} {N : Int} {H H' : GHeap} {ps : List Pth} (h : PthK b eI N H ps) (k : Keep b' H H') (hb : b' ≤ b) : PthK b eI N H' ps := ⟨fun p hp => by
  obtain ⟨h1, h2, h3, h4, h5⟩ := h.ok p hp
  exact ⟨h1, h2, h3, h4, k _ _ (Nat.le_trans hb h4) h5⟩⟩
theorem up_snoc {xs ys : List Int} {x y : Int} (hl : ys.length = xs.length) (h : ∀ e, e < xs.length → xs.getD e 0 < ys.getD e 0) (hxy : x < y) : ∀ e, e < (xs ++ [x]).length → (xs ++ [x]).getD e 0 < (ys ++ [y]).getD e 0 := fun e he => by
  rw [List.length_append, List.length_singleton] at he
  rw [getD_snoc, getD_snoc]
  by_cases e1 : e < xs.length
  · rw [if_pos e1, if_pos (by omega)]; exact h e e1
  · rw [if_neg e1, if_pos (by omega), if_neg (by omega), if_pos (by omega)]; exact hxy
def DrawnCat (TS : TypeId) (N : Nat) (gS : Nat) (H : GHeap) (v : Value) (H' : GHeap) : Prop := ∃ c p, v = .agg (c.cells p).toArray ∧ c.Rect N ∧ CatR H.next H' c p ∧ St [gS] H H' ∧ DSrc TS H' gS
theorem Keep.mono {b b' : Nat} {H H' : GHeap} (k : Keep b' H H') (h : b' ≤ b) : Keep b H H' := fun g o hb hg => k g o (Nat.le_trans h hb) hg
theorem Keep.trans {b : Nat} {A B C : GHeap} (k : Keep b A B) (k' : Keep b B C) : Keep b A C := fun g o hb hg => k' g o hb (k g o hb hg)
structure KIn (b : Nat) (H : GHeap) (c : Cat) (p : CatP) : Prop where
  all : ∀ H', Keep b H H' → c.In H' p
theorem KIn.inn {b : Nat} {H : GHeap} {c : Cat} {p : CatP} (h : KIn b H c p) : c.In H p := h.all _ (fun _ _ _ x => x)
theorem KIn.keep {b b' : Nat} {H H1 : GHeap} {c : Cat} {p : CatP} (h : KIn b H c p) (k : Keep b' H H1) (hb : b' ≤ b) : KIn b' H1 c p := ⟨fun H' k' => h.all H' ((k.trans k').mono hb)⟩
theorem CatR.kin {b : Nat} {H : GHeap} {c : Cat} {p : CatP} (h : CatR b H c p) : KIn b H c p := ⟨fun _ k => (h.keep k (Nat.le_refl _)).inn⟩
theorem KIn.parts {eI eS : TypeId} {b : Nat} {H : GHeap} {c : Cat} {g1 g2 g3 g4 : Nat} {rr : Nat → Option Addr} (a1 : H.get g1 = some (.row (ints c.src) eI true)) (b1 : b ≤ g1) (a2 : H.get g2 = some (.row (ints c.tgt) eI true)) (b2 : b ≤ g2) (a3 : H.get g3 = some (.row (ints c.idn) eI true)) (b3 : b ≤ g3) (a4 : H.get g4 = some (.row (slsL rr c.comp) eS true)) (b4 : b ≤ g4)
    (hr : ∀ i, i < c.comp.length → ∀ H', Keep b H H' → Ints H' (rr i) (c.comp.getD i [])) : KIn b H c (ownP g1 g2 g3 g4 rr) :=
  ⟨fun H' k => ⟨Ints.of_get (k _ _ b1 a1), Ints.of_get (k _ _ b2 a2), Ints.of_get (k _ _ b3 a3), .inr ⟨g4, 0, rfl, fun i hi => slsL_cell (k _ _ b4 a4) hi⟩, fun i hi => hr i hi H' k⟩⟩
theorem KIn.own {eI eS : TypeId} {b : Nat} {H : GHeap} {c : Cat} {g1 g2 g3 g4 : Nat} {rr : Nat → Option Addr} (a1 : H.get g1 = some (.row (ints c.src) eI true)) (b1 : b ≤ g1) (a2 : H.get g2 = some (.row (ints c.tgt) eI true)) (b2 : b ≤ g2) (a3 : H.get g3 = some (.row (ints c.idn) eI true)) (b3 : b ≤ g3) (a4 : H.get g4 = some (.row (slsL rr c.comp) eS true)) (b4 : b ≤ g4) (hR : OwnL b H eI rr c.comp) : KIn b H c (ownP g1 g2 g3 g4 rr) :=
  .parts a1 b1 a2 b2 a3 b3 a4 b4 fun i hi H' k => by
    obtain ⟨x, h1, h2, h3⟩ := hR.row i hi
    rw [h1]
    exact Ints.of_get (k _ _ h2 h3)
def DrawnK (TS : TypeId) (gS : Nat) (H : GHeap) (v : Value) (H' : GHeap) : Prop := ∃ c p, v = .agg (c.cells p).toArray ∧ c.Small ∧ KIn H.next H' c p ∧ St [gS] H H' ∧ DSrc TS H' gS
theorem getD_set_le {T : List (List Int)} {i N : Nat} {ys : List Int} (h : ∀ j, (T.getD j []).length ≤ N) (hy : ys.length ≤ N) (j : Nat) : ((T.set i ys).getD j []).length ≤ N := by
  rw [List.getD_eq_getElem?_getD, List.getElem?_set]
  by_cases e : i = j
  · subst e
    rw [if_pos rfl]
    split
    · exact hy
    · exact Nat.zero_le _
  · rw [if_neg e, ← List.getD_eq_getElem?_getD]
    exact h j
theorem Ints.tail {H : GHeap} {g : Nat} {xs : List Int} {e : TypeId} {own : Bool} (h : H.get g = some (.row (ints xs) e own)) : Ints H (some ⟨g, 1, none⟩) xs.tail := .inr ⟨g, 1, rfl, fun i hi => by
  rw [List.length_tail] at hi
  rw [GHeap.cell_of h, ints_get (by omega)]
  simp only [List.getD_eq_getElem?_getD, List.getElem?_tail, Nat.add_comm]⟩
theorem bend_set {eI : TypeId} {b gi f : Nat} {H H1 : GHeap} {T : List (List Int)} {rr : Nat → Option Addr} {ys : List Int} (hR : OwnL b H eI rr T) (s : St [gi] H H1) (hf : f < T.length) (hg : rr f = some ⟨gi, 0, none⟩) (hat : H1.get gi = some (.row (ints ys) eI true)) (hl : ys.length = (T.getD f []).length) :
    ∃ T', slsL rr T' = slsL rr T ∧ T'.length = T.length ∧ (∀ j, (T'.getD j []).length = (T.getD j []).length) ∧ OwnL b H1 eI rr T' :=
  ⟨T.set f ys, slsL_lens (by simp) (getD_set_len hl), by simp, getD_set_len hl, hR.setR s hf hg hat⟩
theorem bend_cut {eI : TypeId} {b gi f : Nat} {H : GHeap} {T : List (List Int)} {rr : Nat → Option Addr} (hR : OwnL b H eI rr T) (hf : f < T.length) (hg : rr f = some ⟨gi, 0, none⟩) {n : Nat} (hn : n = (T.getD f []).length - 1) :
    ∃ rr' T', (slsL rr T).set f (.slice (some ⟨gi, 1, none⟩) n n) = slsL rr' T' ∧ T'.length = T.length ∧ (∀ N, (∀ j, (T.getD j []).length ≤ N) → ∀ j, (T'.getD j []).length ≤ N) ∧ ∀ i, i < T'.length → ∀ H', Keep b H H' → Ints H' (rr' i) (T'.getD i []) := by
  refine ⟨upd rr f (some ⟨gi, 1, none⟩), T.set f (T.getD f []).tail, slsL_set hf (by rw [hn, List.length_tail]), by simp, fun N h => getD_set_le h (by rw [List.length_tail]; have := h f; omega), fun i hi H' k => ?_⟩
  rw [List.length_set] at hi
  obtain ⟨x, h1, h2, h3⟩ := hR.row i hi
  rw [getD_set2 hf]
  by_cases e : f = i
  · subst e
    rw [hg] at h1
    cases h1
    rw [upd_eq, if_pos rfl]
    exact Ints.tail (k _ _ h2 h3)
  · rw [upd_ne (Ne.symm e), if_neg e, h1]
    exact Ints.of_get (k _ _ h2 h3)
theorem vrel_place {ρ : Place} {a : Addr} {n : Nat} {c : Value} (h : VRel ρ (.slice (some a) n n) c) : ∃ s, ρ a.block = some s := by
  generalize hv : Value.slice (some a) n n = v at h
  cases h with
  | slice h' _ _ _ => cases hv; exact ⟨_, h'⟩
  | empty h' => cases hv; exact ⟨_, h'⟩
  | _ => cases hv
theorem imp1_code {P : Program} {t : TypeId} (ht : bytesDT P t = true) : Imp1 P t (fun H g => ∃ a xs, g = .slice a xs.length xs.length ∧ Bytes H a xs ∧ xs.length ≤ 9223372036854775807 ∧ ∀ b o t, a = some ⟨b, o, t⟩ → b < H.next) where
  mono h := fun ⟨a, xs, h1, h2, h3, h4⟩ => ⟨a, xs, h1, h2.mono h, h3, fun b o t e => Nat.lt_of_lt_of_le (h4 b o t e) h.1⟩
  imp := by
    intro T enc B w0 ρ H w held base fuel v x hs hB h hv
    obtain ⟨ρ', H', g, h1, h2, h3, h4, a, xs, rfl, h5, h6⟩ := (imp1_bytes ht).imp hs hB h hv
    refine ⟨ρ', H', _, h1, h2, h3, h4, a, xs, rfl, h5, h6, fun b o t e => ?_⟩
    subst e
    refine Nat.lt_of_not_le fun hb => ?_
    obtain ⟨s, hs'⟩ := vrel_place h4
    rw [h1.dom b hb] at hs'
    cases hs'
end Go.GL
namespace Go.Proofs.Ytjdedelneppnlaa
open Go Go.GL Go.RowKit Go.Proofs
set_option maxHeartbeats 8000000 in
theorem l03Paths_c {a b : Option Addr} {xs ys : List Int} {n : Nat} {H : GHeap} (ha : Ints H a xs := by assumption) (hb : Ints H b ys := by assumption) (hl : ys.length = xs.length) (hx : xs.length ≤ 3) (hn : n ≤ 3) (hy : Bd 0 ((n : Int) - 1) ys) (hup : ∀ e, e < xs.length → xs.getD e 0 < ys.getD e 0) :
    GCalls Try.prog 147 [.int .i64 (n : Int), .slice a xs.length xs.length, .slice b ys.length ys.length] H (NewRc 2 22 18 H) := by
  refine GCalls.body (N := 147) (rs := [.cell 6 29]) Try.func147 rfl rfl rfl rfl (fun Qx hret hend => ?_)
  refine .fg [0, 1, 2] rfl ?_
  have hle := GHeap.Le.refl H
  have base_ha := ha
  have base_hb := hb
  refine .seq (fun K1 hK1 => .region ?_)
  refine .R rfl (.allocR rfl ze_29_Hj rfl) ?_
  rintro _ H6 ⟨g6, rfl, le6, ge6, at6⟩
  replace hle := hle.trans le6
  have lt_at6 := GHeap.ltg at6
  replace ha := base_ha.mono hle
  replace hb := base_hb.mono hle
  refine .nil (hK1 _ _ (.seq (fun K2 hK2 => .region (.mv rfl (.mv rfl (.mv rfl ?_))))))
  refine .call rfl rfl rfl rfl @Try.call153 rfl (l03All_c ha hb hl hx hn hy hup) ?_
  rintro _ H19 ⟨le19, gP, ps, rfl, bP, aP, hP0, hp18⟩
  have hK : PthK _ _ _ H19 ps := ⟨hP0⟩
  replace hle := hle.trans le19
  replace at6 := le19.2 _ _ at6
  have lt_aP := GHeap.ltg aP
  have bs_hK := hK
  have lv_hK : Keep H6.next H19 H19 := fun _ _ _ h => h
  refine .mv rfl (.nil (hK2 _ _ (.seq (fun K3 hK3 => .region (.mv rfl ?_)))))
  refine .R rfl (.litA rfl sl_22_A ze_2_L rfl rfl rfl rfl) ?_
  rintro _ H21 ⟨g21, rfl, le21, ge21, at21⟩
  replace hle := hle.trans le21
  replace at6 := le21.2 _ _ at6
  replace aP := le21.2 _ _ aP
  replace lv_hK := Keep.le lv_hK le21
  have lt_at21 := GHeap.ltg at21
  replace at21 : GHeap.get H21 g21 = some (.row (ints []) 2 true) := at21
  refine .R rfl (.litA rfl sl_22_A ze_2_L rfl rfl rfl rfl) ?_
  rintro _ H22 ⟨g22, rfl, le22, ge22, at22⟩
  replace hle := hle.trans le22
  replace at6 := le22.2 _ _ at6
  replace aP := le22.2 _ _ aP
  replace at21 := le22.2 _ _ at21
  replace lv_hK := Keep.le lv_hK le22
  have lt_at22 := GHeap.ltg at22
  replace at22 : GHeap.get H22 g22 = some (.row (ints []) 2 true) := at22
  refine .mv rfl ?_
  refine .R rfl (.makeI rfl sl_22_A ze_2_L by_2_L rfl rfl (by omega) (by omega) (by omega) (by omega)) ?_
  rintro _ H24 ⟨g24, rfl, le24, ge24, at24⟩
  have nx_H24 := le24.1
  replace hle := hle.trans le24
  replace at6 := le24.2 _ _ at6
  replace aP := le24.2 _ _ aP
  replace at21 := le24.2 _ _ at21
  replace at22 := le24.2 _ _ at22
  replace lv_hK := Keep.le lv_hK le24
  have lt_at24 := GHeap.ltg at24
  simp only [Int.toNat_natCast] at at24
  refine .R rfl (.litA rfl sl_23_B ze_22_Hj rfl rfl rfl rfl) ?_
  rintro _ H25 ⟨g25, rfl, le25, ge25, at25⟩
  replace hle := hle.trans le25
  replace at6 := le25.2 _ _ at6
  replace aP := le25.2 _ _ aP
  replace at21 := le25.2 _ _ at21
  replace at22 := le25.2 _ _ at22
  replace at24 := le25.2 _ _ at24
  replace lv_hK := Keep.le lv_hK le25
  have lt_at25 := GHeap.ltg at25
  refine .q rfl (.build bt_29_Hj rfl rfl rfl) ?_
  refine .R rfl (.allocR rfl ze_29_Hj rfl) ?_
  rintro _ H8 ⟨g8, rfl, le8, ge8, at8⟩
  have nx_H8 := le8.1
  replace hle := hle.trans le8
  replace at6 := le8.2 _ _ at6
  replace aP := le8.2 _ _ aP
  replace at21 := le8.2 _ _ at21
  replace at22 := le8.2 _ _ at22
  replace at24 := le8.2 _ _ at24
  replace at25 := le8.2 _ _ at25
  replace lv_hK := Keep.le lv_hK le8
  refine .r0 rfl rfl (.fillA rfl sz_29_D rfl rfl rfl rfl) ?_
  rintro _ H2008 ⟨rfl, st2008, at2008⟩
  have nx_H2008 := st2008.nx
  replace hle := hle.st st2008 (fun k hk => ⟨by omega, trivial⟩)
  have ne_g6_g8 : NE g6 g8 := .a
  replace at6 := st2008.s at6 ne_g6_g8.ne
  have ne_gP_g8 : NE gP g8 := .a
  replace aP := st2008.s aP ne_gP_g8.ne
  replace at21 := st2008.s at21
  replace at22 := st2008.s at22
  replace at24 := st2008.s at24
  have ne_g25_g8 : NE g25 g8 := .a
  replace at25 := st2008.s at25 ne_g25_g8.ne
  replace lv_hK := Keep.st lv_hK st2008 (fun k hb hk => ⟨(by omega), trivial⟩)
  refine .nil (hK3 _ _ (.seq (fun K4 hK4 => .seq (fun K5 hK5 => .region (.mv rfl (.nil (hK5 _ _ ?_)))))))
  refine .block ?_
  refine .loopR (σ := Nat × List Int × List Int × List Int × Nat × Nat) [(6, some _), (7, some _), (8, some _)] (fun (i, ss, ts, is, gLF, gLT) => [(9, some (.int .i64 (i : Int)))]) (fun (i, ss, ts, is, gLF, gLT) H' => St [g21, g22, g24, g8] H2008 H' ∧ H'.get gLF = some (.row (ints ss) 2 true) ∧ PL gLF g21 H2008.next ∧ H'.get gLT = some (.row (ints ts) 2 true) ∧ PL gLT g22 H2008.next ∧ H'.get g24 = some (.row (ints is) 2 true) ∧ H'.get g8 = some (.row ([.int .i64 (n : Int), .slice (some ⟨gLF, 0, none⟩) i i, .slice (some ⟨gLT, 0, none⟩) i i, .slice (some ⟨g24, 0, none⟩) n n, .slice (some ⟨g25, 0, none⟩) 0 0]) 29 true) ∧ gLF ≠ gLT ∧ gLF ≠ g24 ∧ gLF ≠ g8 ∧ gLT ≠ g24 ∧ gLT ≠ g8 ∧ g24 ≠ g8 ∧ (i ≤ ps.length ∧ ss.length = i ∧ ts.length = i ∧ is.length = n) ∧ Bd 0 18 ss ∧ Bd 0 18 ts ∧ Bd 0 18 is) (fun (i, ss, ts, is, gLF, gLT) => ps.length - i) ((0, [], [], List.replicate n 0, g21, g22)) ⟨rfl, rfl, rfl, trivial⟩ ⟨rfl, trivial⟩ ?_ ?_
  ·
   refine ⟨.refl _ _, by assumption, ⟨.inl rfl⟩, by assumption, ⟨.inl rfl⟩, by assumption, by assumption, by omega, by omega, by omega, by omega, by omega, by omega, ?_⟩
   exact ⟨⟨by omega, rfl, rfl, by simp⟩, .nil _ _, .nil _ _, .rep _ (by omega) (by omega)⟩
  rintro ⟨i, ss, ts, is, gLF, gLT⟩ HL1 ⟨lst1, at_LF, pl_LF, at_LT, pl_LT, at_Lg24, at_Lg8, ap1_0, ap1_1, ap1_2, ap1_3, ap1_4, ap1_5, hI⟩ KL1 hKL1
  refine .forget (fr' := [(9, some (.int .i64 (i : Int))), (6, some _), (7, some _), (8, some _)]) ⟨rfl, rfl, rfl, rfl, trivial⟩ ?_
  have ge_LF : H.next ≤ gLF := pl_LF.ge (by omega) (by omega)
  have ge_LT : H.next ≤ gLT := pl_LT.ge (by omega) (by omega)
  have nx_HL1 := lst1.nx
  replace hle := hle.st lst1 (fun k hk => ⟨by omega, by omega, by omega, by omega, trivial⟩)
  have ne_g6_g21 : NE g6 g21 := .a
  have ne_g6_g22 : NE g6 g22 := .a
  have ne_g6_g24 : NE g6 g24 := .a
  replace at6 := lst1.same _ _ ⟨ne_g6_g21.ne, ne_g6_g22.ne, ne_g6_g24.ne, ne_g6_g8.ne, trivial⟩ at6
  have ne_gP_g21 : NE gP g21 := .a
  have ne_gP_g22 : NE gP g22 := .a
  replace aP := lst1.same _ _ ⟨ne_gP_g21.ne, ne_gP_g22.ne, (by first | assumption | omega), ne_gP_g8.ne, trivial⟩ aP
  have ne_g25_g21 : NE g25 g21 := .a
  have ne_g25_g22 : NE g25 g22 := .a
  have ne_g25_g24 : NE g25 g24 := .a
  replace at25 := lst1.same _ _ ⟨ne_g25_g21.ne, ne_g25_g22.ne, ne_g25_g24.ne, ne_g25_g8.ne, trivial⟩ at25
  replace lv_hK := Keep.st lv_hK lst1 (fun k hb hk => ⟨(by omega), (by omega), (by omega), (by omega), trivial⟩)
  replace hK := bs_hK.keep lv_hK (Nat.le_refl _)
  have lt_at_LF := GHeap.ltg at_LF
  have lt_at_LT := GHeap.ltg at_LT
  have lt_at_Lg24 := GHeap.ltg at_Lg24
  have lt_at_Lg8 := GHeap.ltg at_Lg8
  have hP := hK.ok
  obtain ⟨⟨hi, hsl, htl, hil⟩, hS, hT, hI⟩ := hI
  refine .seq (fun K6 hK6 => .seq (fun K7 hK7 => .region (.mv rfl (.mv rfl (.q rfl (.len sl_157_Di rfl) (.q rfl (.cmp rfl rfl rfl) (.nil (hK7 _ _ ?_))))))))
  refine .cond rfl (fun h30 => ?_) (fun h30 => ?_)
  ·
   simp only [sps] at h30
   have pk1 := (hP.at (i := i) (by omega)).1
   have pk2 := (hP.at (i := i) (by omega)).2.1
   refine .skip ?_
   refine hK6 _ _ (.seq (fun K8 hK8 => ?_))
   refine .block ?_
   refine .seq (fun K9 hK9 => ?_)
   refine .regionD mo_B (.q 0 (.q 1 (.q 2 (.q 3 (.q 4 (.q 5 (.q 6 (.c 7 1 (.c 8 0 (.q 9 (.c 10 0 (.done)))))))))))) (by kernel_rfl) ?_
   have sA := pcells_slA aP
   have mk := pcells_mem aP (i := i) (by omega)
   refine .q rfl (.fieldAddr fo_29_1_B rfl) ?_
   refine .q rfl (.load on_22_B rfl (by first | assumption | exact Mem.of_get at_Lg8 1 _ rfl)) ?_
   refine .mv rfl rfl (.mv rfl rfl ?_)
   refine .q rfl (.idx sl_157_Di (by assumption) (by omega) rfl rfl (by omega) (by omega) rfl) ?_
   refine .q rfl (.fieldAddr fo_160_0_Dg rfl) (.q rfl (.load on_2_A rfl (mk.2 0 _ rfl)) ?_)
   refine .c1 rfl rfl rfl rfl (.litA rfl sl_22_A ze_2_L rfl rfl rfl rfl) ?_
   rintro _ H40 ⟨g40, rfl, le40, ge40, at40⟩
   have hbl := le40
   refine ⟨hbl, ?_⟩
   replace lst1 := lst1.le le40
   replace aP := le40.2 _ _ aP
   replace at_LF := le40.2 _ _ at_LF
   replace at_LT := le40.2 _ _ at_LT
   replace at_Lg24 := le40.2 _ _ at_Lg24
   replace at_Lg8 := le40.2 _ _ at_Lg8
   have lt_at40 := GHeap.ltg at40
   clear hP
   refine .c0 rfl rfl rfl rfl (.appendI rfl sl_22_A ze_2_L rfl by_2_L sl_22_A rfl rfl (by assumption) (by assumption) (by first | omega | (simp <;> omega)) (by omega) (by omega)) ?_
   rintro _ H41 ⟨g41, rfl, st41, ge41, at41⟩
   replace lst1 := lst1.sP st41
   replace aP := st41.same _ _ ⟨(pl_LF.ne ne_gP_g21.ne (by omega)), trivial⟩ aP
   replace at_LT := st41.same _ _ ⟨(Ne.symm ap1_0), trivial⟩ at_LT
   replace at_Lg24 := st41.same _ _ ⟨(Ne.symm ap1_1), trivial⟩ at_Lg24
   replace at_Lg8 := st41.same _ _ ⟨(Ne.symm ap1_2), trivial⟩ at_Lg8
   have lt_at41 := GHeap.ltg at41
   refine .q rfl (.fieldAddr fo_29_1_B rfl) ?_
   refine .r0 rfl rfl rfl (.storeR rfl sz_22_Ch rfl rfl rfl (by assumption) (by first | exact Nat.le_of_ble_eq_true rfl | (simp; done) | (simp <;> omega))) ?_
   rintro _ H6010 ⟨rfl, st6010, at6010⟩
   have nx_H6010 := st6010.nx
   replace lst1 := lst1.sA st6010
   replace aP := st6010.s aP ne_gP_g8.ne
   replace at_LT := st6010.same _ _ ⟨ap1_4, trivial⟩ at_LT
   replace at_Lg24 := st6010.same _ _ ⟨ap1_5, trivial⟩ at_Lg24
   have ne_g41_g8 : NE g41 g8 := .a
   replace at41 := st6010.s at41 ne_g41_g8.ne
   try simp only [Nat.zero_add, List.set_cons_succ, List.set_cons_zero] at at6010
   refine .done ?_
   refine hK9 _ _ (.seq (fun K10 hK10 => ?_))
   refine .regionD mo_B (.q 0 (.q 1 (.q 2 (.q 3 (.q 4 (.q 5 (.q 6 (.c 7 1 (.c 8 0 (.q 9 (.c 10 0 (.done)))))))))))) (by kernel_rfl) ?_
   have sA := pcells_slA aP
   have mk := pcells_mem aP (i := i) (by omega)
   refine .q rfl (.fieldAddr fo_29_2_B rfl) ?_
   refine .q rfl (.load on_22_B rfl (by first | assumption | exact Mem.of_get at6010 2 _ rfl)) ?_
   refine .mv rfl rfl (.mv rfl rfl ?_)
   refine .q rfl (.idx sl_157_Di (by assumption) (by omega) rfl rfl (by omega) (by omega) rfl) ?_
   refine .q rfl (.fieldAddr fo_160_1_Dg rfl) (.q rfl (.load on_2_A rfl (mk.2 1 _ rfl)) ?_)
   refine .c1 rfl rfl rfl rfl (.litA rfl sl_22_A ze_2_L rfl rfl rfl rfl) ?_
   rintro _ H50 ⟨g50, rfl, le50, ge50, at50⟩
   have hbl := le50
   refine ⟨hbl, ?_⟩
   replace lst1 := lst1.le le50
   replace aP := le50.2 _ _ aP
   replace at_LT := le50.2 _ _ at_LT
   replace at_Lg24 := le50.2 _ _ at_Lg24
   replace at41 := le50.2 _ _ at41
   replace at6010 := le50.2 _ _ at6010
   have lt_at50 := GHeap.ltg at50
   refine .c0 rfl rfl rfl rfl (.appendI rfl sl_22_A ze_2_L rfl by_2_L sl_22_A rfl rfl (by assumption) (by assumption) (by first | omega | (simp <;> omega)) (by omega) (by omega)) ?_
   rintro _ H51 ⟨g51, rfl, st51, ge51, at51⟩
   replace lst1 := lst1.sP st51
   replace aP := st51.same _ _ ⟨(pl_LT.ne ne_gP_g22.ne (by omega)), trivial⟩ aP
   replace at_Lg24 := st51.same _ _ ⟨(Ne.symm ap1_3), trivial⟩ at_Lg24
   replace at41 := st51.s at41
   replace at6010 := st51.same _ _ ⟨(Ne.symm ap1_4), trivial⟩ at6010
   refine .q rfl (.fieldAddr fo_29_2_B rfl) ?_
   refine .r0 rfl rfl rfl (.storeR rfl sz_22_Ch rfl rfl rfl (by assumption) (by first | exact Nat.le_of_ble_eq_true rfl | (simp; done) | (simp <;> omega))) ?_
   rintro _ H7010 ⟨rfl, st7010, at7010⟩
   replace lst1 := lst1.sA st7010
   replace aP := st7010.s aP ne_gP_g8.ne
   replace at_Lg24 := st7010.same _ _ ⟨ap1_5, trivial⟩ at_Lg24
   replace at41 := st7010.s at41 ne_g41_g8.ne
   replace at51 := st7010.s at51
   try simp only [Nat.zero_add, List.set_cons_succ, List.set_cons_zero] at at7010
   refine .done ?_
   refine hK10 _ _ (.seq (fun K11 hK11 => .region ?_))
   have sA := pcells_slA aP
   have mk := pcells_mem aP (i := i) (by omega)
   refine .mv rfl (.mv rfl ?_)
   refine .q rfl (.idx sl_157_Di (by assumption) (by omega) rfl rfl (by omega) (by omega) rfl) ?_
   refine .q rfl (.fieldAddr fo_160_2_Dg rfl) (.q rfl (.load on_22_B rfl (mk.2 2 _ rfl)) (.q rfl (.len sl_22_A rfl) (.q rfl (.cmp rfl rfl rfl) (.nil (hK11 _ _ ?_)))))
   refine .cond rfl (fun h59 => ?_) (fun h59 => ?_)
   ·
    obtain ⟨i9, hi9, hl9, hB9⟩ : ∃ i9, i9 = is.set (ps.getD i pz).f.toNat (i : Int) ∧ i9.length = is.length ∧ Bd 0 18 i9 := ⟨_, rfl, by simp, bd_iff.2 fun x hx => by
      rcases List.mem_or_eq_of_mem_set hx with h | rfl
      · exact bd_iff.1 hI x h
      · omega⟩
    refine .regionD mo_B (.q 0 (.q 1 (.q 2 (.q 3 (.q 4 (.q 5 (.q 6 (.q 7 (.q 8 (.c 9 0 (.done))))))))))) (by kernel_rfl) ?_
    refine .q rfl (.fieldAddr fo_29_3_B rfl) ?_
    refine .q rfl (.load on_22_B rfl (by first | assumption | exact Mem.of_get at7010 3 _ rfl)) ?_
    refine .mv rfl rfl (.mv rfl rfl ?_)
    refine .q rfl (.idx sl_157_Di (by assumption) (by omega) rfl rfl (by omega) (by omega) rfl) ?_
    refine .q rfl (.fieldAddr fo_160_0_Dg rfl) (.q rfl (.load on_2_A rfl (mk.2 0 _ rfl)) (.mv rfl rfl ?_))
    refine .q rfl (.idx1 sl_22_A (by first | assumption | exact SlA.of_row at_Lg24 (by first | rfl | (simp; done) | (simp <;> omega))) rfl rfl (by omega) (by omega)) ?_
    refine .r0 rfl rfl rfl (.storeI rfl sz_2_Ch rfl rfl (by assumption) (by first | omega | (simp <;> omega))) ?_
    rintro _ H9009 ⟨rfl, st9009, at9009⟩
    replace lst1 := lst1.sA st9009
    replace at41 := st9009.s at41
    replace at51 := st9009.s at51
    replace at7010 := st9009.same _ _ ⟨(Ne.symm ap1_5), trivial⟩ at7010
    rw [Nat.zero_add] at at9009
    refine .done ?_
    refine hK8 _ _ (.region (.mv rfl ?_))
    refine .q rfl (.add rfl rfl rfl (by omega) (by omega)) ?_
    refine .mv rfl (.nil ?_)
    refine hKL1 ((i + 1, ss ++ [(ps.getD i pz).f], ts ++ [(ps.getD i pz).t], i9, g41, g51)) _ _ ?_ ?_ ⟨rfl, rfl, rfl, rfl, trivial⟩
    ·
     refine ⟨lst1, by assumption, by exact ⟨.inr (by omega)⟩, by assumption, by exact ⟨.inr (by omega)⟩, by (rw [hi9]; assumption), by assumption, by omega, by omega, by omega, by omega, by omega, by assumption, ?_⟩
     exact ⟨⟨by omega, by simp; omega, by simp; omega, by omega⟩, hS.snoc pk1.1 (by omega), hT.snoc pk2.1 (by omega), hB9⟩
    (dsimp only; omega)
   obtain ⟨i9, hi9, hl9, hB9⟩ : ∃ i9, i9 = is ∧ i9.length = is.length ∧ Bd 0 18 i9 := ⟨_, rfl, rfl, hI⟩
   refine .skip ?_
   refine hK8 _ _ (.region (.mv rfl ?_))
   refine .q rfl (.add rfl rfl rfl (by omega) (by omega)) ?_
   refine .mv rfl (.nil ?_)
   refine hKL1 ((i + 1, ss ++ [(ps.getD i pz).f], ts ++ [(ps.getD i pz).t], i9, g41, g51)) _ _ ?_ ?_ ⟨rfl, rfl, rfl, rfl, trivial⟩
   ·
    refine ⟨lst1, by assumption, by exact ⟨.inr (by omega)⟩, by assumption, by exact ⟨.inr (by omega)⟩, by (rw [hi9]; assumption), by assumption, by omega, by omega, by omega, by omega, by omega, by assumption, ?_⟩
    exact ⟨⟨by omega, by simp; omega, by simp; omega, by omega⟩, hS.snoc pk1.1 (by omega), hT.snoc pk2.1 (by omega), hB9⟩
   (dsimp only; omega)
  try simp only [sps] at h30
  refine .exit ?_
  refine hK4 _ _ (.seq (fun K12 hK12 => .seq (fun K13 hK13 => .region ?_)))
  have hx4 : gLF ≠ g24 := pl_LF.ne' (by omega) (by omega)
  have hx5 : gLT ≠ g24 := pl_LT.ne' (by omega) (by omega)
  have hin0 : (Cat.mk (n : Int) ss ts is []).In HL1 (ownP gLF gLT g24 g25 fun _ => none) := (OwnCat.catR (b := H.next) ⟨at_LF, at_LT, at_Lg24, at25, by omega, by omega, by omega, by omega, by omega, by omega, by omega, .nil _ _ _ _, fun _ h => by simp at h, fun _ h => by simp at h, fun _ h => by simp at h⟩).inn
  refine .q rfl (.loadM ag_29_D rfl ⟨rfl, Mem.of_get at_Lg8⟩) ?_
  refine .callQ rfl rfl rfl rfl @Try.call141 rfl ((by have hh := l02Fits_c (c := Cat.mk (n : Int) ss ts is []) (p := ownP gLF gLT g24 g25 fun _ => none) hin0; simp only [Cat.cells, ownP, hsl, htl, hil, List.length_nil] at hh; exact hh)) ?_
  refine .q rfl (.not rfl) (.nil (hK13 _ _ ?_))
  refine .cond rfl (fun h71 => ?_) (fun h71 => ?_)
  ·
   exact absurd h71 (by simp [B]; omega)
  try simp only [sps] at h71
  refine .skip ?_
  refine hK12 _ _ (.seq (fun K14 hK14 => .seq (fun K15 hK15 => .region ?_)))
  obtain rfl : i = ps.length := by omega
  refine .mv rfl (.nil (hK15 _ _ ?_))
  refine .block ?_
  refine .loopR (σ := Nat × (Nat → Option Addr) × List (List Int) × Nat) [(6, some _), (7, some _), (8, some _)] (fun (f, rr, cs, gLC) => [(10, some (.int .i64 (f : Int)))]) (fun (f, rr, cs, gLC) H' => St [g25, g8] HL1 H' ∧ H'.get gLC = some (.row ((slsL rr cs)) 22 true) ∧ PL gLC g25 HL1.next ∧ H'.get g8 = some (.row ([.int .i64 (n : Int), .slice (some ⟨gLF, 0, none⟩) ps.length ps.length, .slice (some ⟨gLT, 0, none⟩) ps.length ps.length, .slice (some ⟨g24, 0, none⟩) n n, .slice (some ⟨gLC, 0, none⟩) f f]) 29 true) ∧ gLC ≠ g8 ∧ (f ≤ ps.length ∧ cs.length = f) ∧ Tb (-1) 18 ps.length cs ∧ OwnL H.next H' 2 rr cs ∧ (∀ j, j < cs.length → rr j ≠ some ⟨gLF, 0, none⟩) ∧ (∀ j, j < cs.length → rr j ≠ some ⟨gLT, 0, none⟩) ∧ ∀ j, j < cs.length → rr j ≠ some ⟨g24, 0, none⟩) (fun (f, rr, cs, gLC) => ps.length - f) ((0, fun _ => none, [], g25)) ⟨rfl, rfl, rfl, trivial⟩ ⟨rfl, trivial⟩ ?_ ?_
  ·
   refine ⟨.refl _ _, by assumption, ⟨.inl rfl⟩, by assumption, by omega, ?_⟩
   exact ⟨⟨by omega, rfl⟩, .nil _ _ _, .nil _ _ _ _, fun _ h => by simp at h, fun _ h => by simp at h, fun _ h => by simp at h⟩
  rintro ⟨f, rr, cs, gLC⟩ HL2 ⟨lst2, at_LC, pl_LC, at_Lg8, ap2_0, hI⟩ KL2 hKL2
  refine .forget (fr' := [(10, some (.int .i64 (f : Int))), (6, some _), (7, some _), (8, some _)]) ⟨rfl, rfl, rfl, rfl, trivial⟩ ?_
  have ge_LC : H.next ≤ gLC := pl_LC.ge (by omega) (by omega)
  have nx_HL2 := lst2.nx
  replace hle := hle.st lst2 (fun k hk => ⟨by omega, by omega, trivial⟩)
  have ne_g6_g25 : NE g6 g25 := .a
  replace at6 := lst2.same _ _ ⟨ne_g6_g25.ne, ne_g6_g8.ne, trivial⟩ at6
  replace aP := lst2.same _ _ ⟨(by first | assumption | omega), ne_gP_g8.ne, trivial⟩ aP
  replace at_LF := lst2.same _ _ ⟨(Ne.symm (pl_LF.ne ne_g25_g21.ne (by omega))), ap1_2, trivial⟩ at_LF
  replace at_LT := lst2.same _ _ ⟨(Ne.symm (pl_LT.ne ne_g25_g22.ne (by omega))), ap1_4, trivial⟩ at_LT
  replace at_Lg24 := lst2.same _ _ ⟨(Ne.symm ne_g25_g24.ne), ap1_5, trivial⟩ at_Lg24
  replace lv_hK := Keep.st lv_hK lst2 (fun k hb hk => ⟨(by omega), (by omega), trivial⟩)
  have lt_at_LC := GHeap.ltg at_LC
  have lt_at_Lg8 := GHeap.ltg at_Lg8
  have rk := St.refl [gLC, g8] HL2
  obtain ⟨⟨hf, hcl⟩, hC, hR, hF1, hT1, hI1⟩ := hI
  have hatC := at_LC
  have hat8 := at_Lg8
  have hfl : (slsL rr cs).length = cs.length := length_slsL _ _
  refine .seq (fun K16 hK16 => .seq (fun K17 hK17 => .region (.mv rfl (.mv rfl (.q rfl (.len sl_157_Di rfl) (.q rfl (.cmp rfl rfl rfl) (.nil (hK17 _ _ ?_))))))))
  refine .cond rfl (fun h76 => ?_) (fun h76 => ?_)
  ·
   simp only [sps] at h76
   refine .skip ?_
   refine hK16 _ _ (.seq (fun K18 hK18 => ?_))
   refine .block ?_
   refine .seq (fun K19 hK19 => .region ?_)
   refine .R rfl (.litA rfl sl_22_A ze_2_L rfl rfl rfl rfl) ?_
   rintro _ H79 ⟨g79, rfl, le79, ge79, at79⟩
   have nx_H79 := le79.1
   replace lst2 := lst2.le le79
   replace rk := rk.le le79
   replace aP := le79.2 _ _ aP
   replace at_LC := le79.2 _ _ at_LC
   replace at_Lg8 := le79.2 _ _ at_Lg8
   replace lv_hK := Keep.le lv_hK le79
   have lt_at79 := GHeap.ltg at79
   replace at79 : GHeap.get H79 g79 = some (.row (ints []) 2 true) := at79
   refine .mv rfl (.nil (hK19 _ _ (.seq (fun K20 hK20 => .seq (fun K21 hK21 => .region (.mv rfl (.nil (hK21 _ _ ?_))))))))
   refine .block ?_
   refine .loopR (σ := Nat × List Int × Nat × Nat) [(6, some _), (7, some _), (8, some _), (10, some _)] (fun (g, row, gL11, nL11) => [(12, some (.int .i64 (g : Int))), (11, some (.slice (some ⟨gL11, 0, none⟩) nL11 nL11))]) (fun (g, row, gL11, nL11) H' => St [g79] H79 H' ∧ H'.get gL11 = some (.row (ints row) 2 true) ∧ PL gL11 g79 H79.next ∧ nL11 = row.length ∧ (g ≤ ps.length ∧ row.length = g) ∧ Bd (-1) 18 row) (fun (g, row, gL11, nL11) => ps.length - g) ((0, [], _, _)) ⟨rfl, rfl, rfl, rfl, trivial⟩ ⟨rfl, rfl, trivial⟩ ?_ ?_
   ·
    refine ⟨.refl _ _, by assumption, ⟨.inl rfl⟩, by rfl, ?_⟩
    exact ⟨⟨by omega, rfl⟩, .nil _ _⟩
   rintro ⟨g, row, gL11, nL11⟩ HL3 ⟨lst3, at_L11, pl_L11, ln_L11, hI⟩ KL3 hKL3
   refine .forget (fr' := [(12, some (.int .i64 (g : Int))), (11, some (.slice (some ⟨gL11, 0, none⟩) nL11 nL11)), (6, some _), (7, some _), (8, some _), (10, some _)]) ⟨rfl, rfl, rfl, rfl, rfl, rfl, trivial⟩ ?_
   have ge_L11 : H.next ≤ gL11 := pl_L11.ge (by omega) (by omega)
   have nx_HL3 := lst3.nx
   replace lst2 := lst2.sA lst3
   replace rk := rk.sA lst3
   replace aP := lst3.s aP
   have ne_gLC_g79 : NE gLC g79 := .a
   replace at_LC := lst3.s at_LC ne_gLC_g79.ne
   have ne_g8_g79 : NE g8 g79 := .a
   replace at_Lg8 := lst3.s at_Lg8 ne_g8_g79.ne
   replace lv_hK := Keep.st lv_hK lst3 (fun k hb hk => ⟨(by omega), trivial⟩)
   replace hK := bs_hK.keep lv_hK (Nat.le_refl _)
   have lt_at_L11 := GHeap.ltg at_L11
   have hP := hK.ok
   obtain ⟨⟨hg, hrl⟩, hW⟩ := hI
   refine .seq (fun K22 hK22 => .seq (fun K23 hK23 => .region (.mv rfl (.mv rfl (.q rfl (.len sl_157_Di rfl) (.q rfl (.cmp rfl rfl rfl) (.nil (hK23 _ _ ?_))))))))
   refine .cond rfl (fun h83 => ?_) (fun h83 => ?_)
   ·
    simp only [sps] at h83
    refine .skip ?_
    refine hK22 _ _ (.seq (fun K24 hK24 => ?_))
    refine .block ?_
    refine .seq (fun K25 hK25 => .region (.mv rfl (.nil (hK25 _ _ (.seq (fun K26 hK26 => .seq (fun K27 hK27 => ?_)))))))
    refine .regionD mo_B (.q 0 (.q 1 (.q 2 (.q 3 (.q 4 (.q 5 (.q 6 (.q 7 (.q 8 (.q 9 (.q 10 (.done)))))))))))) (by kernel_rfl) ?_
    have sA := pcells_slA aP
    have mf := pcells_mem aP (i := f) (by omega)
    have mg := pcells_mem aP (i := g) (by omega)
    refine .mv rfl rfl (.mv rfl rfl ?_)
    refine .q rfl (.idx sl_157_Di (by assumption) (by omega) rfl rfl (by omega) (by omega) rfl) ?_
    refine .q rfl (.fieldAddr fo_160_1_Dg rfl) (.q rfl (.load on_2_A rfl (mf.2 1 _ rfl)) (.mv rfl rfl (.mv rfl rfl ?_)))
    refine .q rfl (.idx sl_157_Di (by assumption) (by omega) rfl rfl (by omega) (by omega) rfl) ?_
    refine .q rfl (.fieldAddr fo_160_0_Dg rfl) (.q rfl (.load on_2_A rfl (mg.2 0 _ rfl)) (.q rfl (.cmp rfl rfl rfl) ?_))
    refine .done ?_
    refine hK27 _ _ ?_
    refine .cond rfl (fun h96 => ?_) (fun h96 => ?_)
    ·
     try simp only [sps] at h96
     refine .seq (fun K28 hK28 => ?_)
     refine .regionD mo_B (.q 0 (.q 1 (.q 2 (.q 3 (.q 4 (.q 6 (.q 7 (.q 8 (.q 9 (.q 10 (.c 5 1 (.c 11 0 (.q 12 (.done)))))))))))))) (by kernel_rfl) ?_
     have pf := hP.at (i := f) (by omega)
     have pg := hP.at (i := g) (by omega)
     refine .mv rfl rfl (.mv rfl rfl ?_)
     refine .q rfl (.idx sl_157_Di (by assumption) (by omega) rfl rfl (by omega) (by omega) rfl) ?_
     refine .q rfl (.fieldAddr fo_160_2_Dg rfl) (.q rfl (.load on_22_B rfl (mf.2 2 _ rfl)) (.mv rfl rfl (.mv rfl rfl ?_)))
     refine .q rfl (.idx sl_157_Di (by assumption) (by omega) rfl rfl (by omega) (by omega) rfl) ?_
     refine .q rfl (.fieldAddr fo_160_2_Dg rfl) (.q rfl (.load on_22_B rfl (mg.2 2 _ rfl)) ?_)
     refine .call1 rfl rfl rfl rfl rfl @Try.call92 rfl (l01Own_c (Ints.of_get pf.2.2.2.2)) ?_
     rintro _ H102 ⟨le102, g102, rfl, at102, ge102⟩
     have hbl := le102
     refine ⟨hbl, ?_⟩
     replace lst3 := lst3.le le102
     replace aP := le102.2 _ _ aP
     replace at_L11 := le102.2 _ _ at_L11
     replace lv_hK := Keep.le lv_hK le102
     replace hK := bs_hK.keep lv_hK (Nat.le_refl _)
     have lt_at102 := GHeap.ltg at102
     clear hP
     have hP := hK.ok
     have iG := Ints.of_get (hP.at (i := g) (by omega)).2.2.2.2
     refine .c0 rfl rfl rfl rfl (.appendL rfl sl_22_A ze_2_L rfl by_2_L sl_22_A rfl rfl (by assumption) (by first | assumption | exact Ints.of_get (by assumption)) (by first | omega | (simp <;> omega)) (by omega) (by omega)) ?_
     rintro _ H108 ⟨g108, rfl, st108, ge108, at108⟩
     replace lst3 := lst3.sA st108
     replace aP := st108.s aP
     replace at_L11 := st108.s at_L11
     replace lv_hK := Keep.st lv_hK st108 (fun k hb hk => ⟨(by omega), trivial⟩)
     replace hK := bs_hK.keep lv_hK (Nat.le_refl _)
     have lt_at108 := GHeap.ltg at108
     clear hP
     have hP := hK.ok
     refine .mv rfl rfl ?_
     refine .done ?_
     refine hK28 _ _ (.seq (fun K29 hK29 => .region (.mv rfl (.nil (hK29 _ _ ?_)))))
     refine .block ?_
     refine .loopR (σ := Nat × Int) [(6, some _), (7, some _), (8, some _), (10, some _), (11, some _), (12, some _), (14, some _)] (fun (k, h3) => [(15, some (.int .i64 (k : Int))), (13, some (.int .i64 h3))]) (fun (k, h3) H' => H108 = H' ∧ k ≤ ps.length ∧ -1 ≤ h3 ∧ h3 ≤ 18) (fun (k, h3) => ps.length - k) ((0, -1)) ⟨rfl, rfl, rfl, rfl, rfl, rfl, rfl, trivial⟩ ⟨rfl, rfl, trivial⟩ ?_ ?_
     ·
      refine ⟨rfl, ?_⟩
      exact ⟨by omega, by omega, by omega⟩
     rintro ⟨k, h3⟩ _ ⟨rfl, hI⟩ KL4 hKL4
     refine .forget (fr' := [(15, some (.int .i64 (k : Int))), (13, some (.int .i64 h3)), (6, some _), (7, some _), (8, some _), (10, some _), (11, some _), (12, some _), (14, some _)]) ⟨rfl, rfl, rfl, rfl, rfl, rfl, rfl, rfl, rfl, trivial⟩ ?_
     obtain ⟨hk, n3⟩ := hI
     refine .seq (fun K30 hK30 => .seq (fun K31 hK31 => .region (.mv rfl (.mv rfl (.q rfl (.len sl_157_Di rfl) (.q rfl (.cmp rfl rfl rfl) (.nil (hK31 _ _ ?_))))))))
     refine .cond rfl (fun h112 => ?_) (fun h112 => ?_)
     ·
      simp only [sps] at h112
      refine .skip ?_
      refine hK30 _ _ (.seq (fun K32 hK32 => ?_))
      refine .block ?_
      refine .seq (fun K33 hK33 => ?_)
      refine .regionD mo_B (.q 0 (.q 1 (.q 2 (.q 3 (.q 4 (.q 5 (.q 6 (.q 7 (.q 8 (.q 9 (.q 10 (.q 11 (.q 12 (.q 13 (.q 14 (.q 15 (.q 16 (.q 17 (.c 18 0 (.q 19 (.done))))))))))))))))))))) (by kernel_rfl) ?_
      have sA := pcells_slA aP
      have mk := pcells_mem aP (i := k) (by omega)
      have mf := pcells_mem aP (i := f) (by omega)
      have pk := hP.at (i := k) (by omega)
      refine .mv rfl rfl (.mv rfl rfl ?_)
      refine .q rfl (.idx sl_157_Di (by assumption) (by omega) rfl rfl (by omega) (by omega) rfl) ?_
      refine .q rfl (.fieldAddr fo_160_0_Dg rfl) (.q rfl (.load on_2_A rfl (mk.2 0 _ rfl)) (.mv rfl rfl (.mv rfl rfl ?_)))
      refine .q rfl (.idx sl_157_Di (by assumption) (by omega) rfl rfl (by omega) (by omega) rfl) ?_
      refine .q rfl (.fieldAddr fo_160_0_Dg rfl) (.q rfl (.load on_2_A rfl (mf.2 0 _ rfl)) (.q rfl (.cmp rfl rfl rfl) (.mv rfl rfl ?_)))
      refine .split (fun h126 => ?_) (fun h126 => ?_)
      ·
       try simp only [sps] at h126
       refine .qg rfl (.move rfl) (.qg rfl (.move rfl) ?_)
       refine .qg rfl (.idx sl_157_Di (by assumption) (by omega) rfl rfl (by omega) (by omega) rfl) ?_
       refine .qg rfl (.fieldAddr fo_160_2_Dg rfl) (.qg rfl (.load on_22_B rfl (mk.2 2 _ rfl)) (.qg rfl (.move rfl) ?_))
       refine .callQ0g rfl rfl rfl rfl rfl rfl rfl @Try.call154 rfl ((by have hh := l01Same_c (h := Ints.of_get pk.2.2.2.2) (h' := Ints.of_get at108) (hy := by rw [List.length_append]; omega); rw [List.length_append] at hh; exact hh)) ?_
       refine .q rfl (.pickT rfl rfl) ?_
       refine .done ?_
       refine hK33 _ _ ?_
       refine .cond rfl (fun h134 => ?_) (fun h134 => ?_)
       ·
        try simp only [sps] at h134
        refine .region (.mv rfl (.mv rfl (.nil (hK32 _ _ (.region (.mv rfl ?_))))))
        refine .q rfl (.add rfl rfl rfl (by omega) (by omega)) ?_
        refine .mv rfl (.nil ?_)
        refine hKL4 ((k + 1, _)) _ _ ?_ ?_ ⟨rfl, rfl, rfl, rfl, rfl, rfl, rfl, rfl, rfl, trivial⟩
        ·
         refine ⟨rfl, ?_⟩
         exact ⟨by omega, by omega, by omega⟩
        (dsimp only; omega)
       try simp only [sps] at h134
       refine .skip ?_
       refine hK32 _ _ (.region (.mv rfl ?_))
       refine .q rfl (.add rfl rfl rfl (by omega) (by omega)) ?_
       refine .mv rfl (.nil ?_)
       refine hKL4 ((k + 1, _)) _ _ ?_ ?_ ⟨rfl, rfl, rfl, rfl, rfl, rfl, rfl, rfl, rfl, trivial⟩
       ·
        refine ⟨rfl, ?_⟩
        exact ⟨by omega, by omega, by omega⟩
       (dsimp only; omega)
      try simp only [sps] at h126
      refine .z rfl (.z rfl (.z rfl (.z rfl (.z rfl (.z rfl (.sgc rfl rfl rfl rfl rfl rfl (.q rfl (.pickF rfl rfl) ?_)))))))
      refine .done ?_
      refine hK33 _ _ ?_
      refine .condF rfl ?_
      refine .skip ?_
      refine hK32 _ _ (.region (.mv rfl ?_))
      refine .q rfl (.add rfl rfl rfl (by omega) (by omega)) ?_
      refine .mv rfl (.nil ?_)
      refine hKL4 ((k + 1, _)) _ _ ?_ ?_ ⟨rfl, rfl, rfl, rfl, rfl, rfl, rfl, rfl, rfl, trivial⟩
      ·
       refine ⟨rfl, ?_⟩
       exact ⟨by omega, by omega, by omega⟩
      (dsimp only; omega)
     try simp only [sps] at h112
     refine .exit ?_
     refine hK26 _ _ (.region (.mv rfl (.mv rfl ?_)))
     refine .R rfl (.litA rfl sl_22_A ze_2_L rfl rfl rfl rfl) ?_
     rintro _ H138 ⟨g138, rfl, le138, ge138, at138⟩
     replace lst3 := lst3.le le138
     replace at_L11 := le138.2 _ _ at_L11
     have lt_at138 := GHeap.ltg at138
     clear hP
     refine .R rfl (.appendI rfl sl_22_A ze_2_L rfl by_2_L sl_22_A rfl rfl (by assumption) (by assumption) (by first | omega | (simp <;> omega)) (by omega) (by omega)) ?_
     rintro _ H139 ⟨g139, rfl, st139, ge139, at139⟩
     replace lst3 := lst3.sP st139
     refine .mv rfl (.nil (hK24 _ _ (.region (.mv rfl ?_))))
     refine .q rfl (.add rfl rfl rfl (by omega) (by omega)) ?_
     refine .mv rfl (.nil ?_)
     refine hKL3 ((g + 1, row ++ [h3], _, _)) _ _ ?_ ?_ ⟨rfl, rfl, rfl, rfl, rfl, rfl, trivial⟩
     ·
      refine ⟨lst3, by assumption, by exact ⟨.inr (by omega)⟩, by (simp only [List.length_append, List.length_cons, List.length_nil] <;> omega), ?_⟩
      exact ⟨⟨by omega, by simp; omega⟩, hW.snoc (by omega) (by omega)⟩
     (dsimp only; omega)
    obtain ⟨h3, hh3, n3⟩ : ∃ h3 : Int, h3 = -1 ∧ -1 ≤ h3 ∧ h3 ≤ 18 := ⟨_, rfl, by omega, by omega⟩
    refine .skip ?_
    refine hK26 _ _ (.region (.mv rfl (.mv rfl ?_)))
    refine .R rfl (.litA rfl sl_22_A ze_2_L rfl rfl rfl rfl) ?_
    rintro _ H138x2 ⟨g138x2, rfl, le138x2, ge138x2, at138x2⟩
    replace lst3 := lst3.le le138x2
    replace at_L11 := le138x2.2 _ _ at_L11
    have lt_at138x2 := GHeap.ltg at138x2
    refine .R rfl (.appendI rfl sl_22_A ze_2_L rfl by_2_L sl_22_A rfl rfl (by assumption) (by assumption) (by first | omega | (simp <;> omega)) (by omega) (by omega)) ?_
    rintro _ H139x2 ⟨g139x2, rfl, st139x2, ge139x2, at139x2⟩
    replace lst3 := lst3.sP st139x2
    refine .mv rfl (.nil (hK24 _ _ (.region (.mv rfl ?_))))
    refine .q rfl (.add rfl rfl rfl (by omega) (by omega)) ?_
    refine .mv rfl (.nil ?_)
    refine hKL3 ((g + 1, row ++ [h3], _, _)) _ _ ?_ ?_ ⟨rfl, rfl, rfl, rfl, rfl, rfl, trivial⟩
    ·
     refine ⟨lst3, by (rw [hh3]; assumption), by exact ⟨.inr (by omega)⟩, by (simp only [List.length_append, List.length_cons, List.length_nil] <;> omega), ?_⟩
     exact ⟨⟨by omega, by simp; omega⟩, hW.snoc (by omega) (by omega)⟩
    (dsimp only; omega)
   try simp only [sps] at h83
   refine .exit ?_
   refine hK20 _ _ (.region ?_)
   obtain rfl : g = ps.length := by omega
   obtain rfl := ln_L11
   refine .q rfl (.fieldAddr fo_29_4_B rfl) ?_
   refine .q rfl (.load on_23_B rfl (by first | assumption | exact Mem.of_get at_Lg8 4 _ rfl)) ?_
   refine .mv rfl ?_
   refine .R rfl (.litA rfl sl_23_B ze_22_Hj rfl rfl rfl rfl) ?_
   rintro _ H143 ⟨g143, rfl, le143, ge143, at143⟩
   replace lst2 := lst2.le le143
   replace rk := rk.le le143
   replace at_LC := le143.2 _ _ at_LC
   replace at_Lg8 := le143.2 _ _ at_Lg8
   replace at_L11 := le143.2 _ _ at_L11
   have lt_at143 := GHeap.ltg at143
   refine .R rfl (.appendV rfl sl_23_B ze_22_Hj rfl by_22_Hj sl_23_B rfl rfl (by assumption) (by assumption) (by first | omega | (simp <;> omega)) rfl rfl (by omega) (by omega)) ?_
   rintro _ H144 ⟨g144, rfl, st144, ge144, at144⟩
   replace lst2 := lst2.sP st144
   replace rk := rk.sP st144
   replace at_Lg8 := st144.same _ _ ⟨(Ne.symm ap2_0), trivial⟩ at_Lg8
   replace at_L11 := st144.same _ _ ⟨(Ne.symm (pl_L11.ne ne_gLC_g79.ne (by omega))), trivial⟩ at_L11
   refine .q rfl (.fieldAddr fo_29_4_B rfl) ?_
   refine .r0 rfl rfl (.storeR rfl sz_23_Ch rfl rfl rfl (by assumption) (by first | exact Nat.le_of_ble_eq_true rfl | (simp; done) | (simp <;> omega))) ?_
   rintro _ H28006 ⟨rfl, st28006, at28006⟩
   replace lst2 := lst2.sA st28006
   replace rk := rk.sA st28006
   replace at_L11 := st28006.same _ _ ⟨(Ne.symm (pl_L11.ne ne_g8_g79.ne (by omega))), trivial⟩ at_L11
   replace at144 := st28006.s at144
   try simp only [Nat.zero_add, List.set_cons_succ, List.set_cons_zero] at at28006
   refine .nil (hK18 _ _ (.region (.mv rfl ?_)))
   refine .q rfl (.add rfl rfl rfl (by omega) (by omega)) ?_
   refine .mv rfl (.nil ?_)
   refine hKL2 ((f + 1, upd rr cs.length (some ⟨gL11, 0, none⟩), cs ++ [row], g144)) _ _ ?_ ?_ ⟨rfl, rfl, rfl, rfl, trivial⟩
   ·
    refine ⟨lst2, by (rw [slsL_snoc]; assumption), by exact ⟨.inr (by omega)⟩, by assumption, by omega, ?_⟩
    have hR' := hR.st rk (.cons (hR.neT hatC rfl) (.cons (hR.neT hat8 rfl) (.nil _ _)))
    have hn1 := hR.ne (g := gL11) (pl_L11.ge (by omega) (by omega))
    have hx1 : gL11 ≠ gLF := pl_L11.ne' (by omega) (by omega)
    have hx2 : gL11 ≠ gLT := pl_L11.ne' (by omega) (by omega)
    have hx3 : gL11 ≠ g24 := pl_L11.ne' (by omega) (by omega)
    exact ⟨⟨by omega, by simp; omega⟩, hC.snoc (by omega) hW, hR'.snoc2 (by assumption) hn1 (by omega), ne_snoc hF1 (by omega), ne_snoc hT1 (by omega), ne_snoc hI1 (by omega)⟩
   (dsimp only; omega)
  try simp only [sps] at h76
  refine .exit ?_
  refine hK14 _ _ (.seq (fun K34 hK34 => .region ?_))
  refine .q rfl (.loadM ag_29_D rfl ⟨rfl, Mem.of_get at_Lg8⟩) ?_
  refine .r0 rfl rfl (.fillA rfl sz_29_D rfl rfl rfl rfl) ?_
  rintro _ H29001 ⟨rfl, st29001, at29001⟩
  replace hle := hle.st st29001 (fun k hk => ⟨by omega, trivial⟩)
  replace at_LF := st29001.same _ _ ⟨(Ne.symm (pl_LF.ne ne_g6_g21.ne (by omega))), trivial⟩ at_LF
  replace at_LT := st29001.same _ _ ⟨(Ne.symm (pl_LT.ne ne_g6_g22.ne (by omega))), trivial⟩ at_LT
  replace at_Lg24 := st29001.s at_Lg24 (Ne.symm ne_g6_g24.ne)
  replace at_LC := st29001.same _ _ ⟨(Ne.symm (pl_LC.ne ne_g6_g25.ne (by omega))), trivial⟩ at_LC
  replace at_Lg8 := st29001.s at_Lg8 (Ne.symm ne_g6_g8.ne)
  have mm29001 : MemN _ _ _ _ _ := ⟨rfl, Mem.of_get at29001⟩
  refine .nil (hK34 _ _ ?_)
  refine .ret ?_
  refine hret _ _ ?_
  refine ⟨_, _, _, _, rfl, ag_29_D, (by rfl), (Mem.of_get at29001), ?_⟩
  obtain rfl : f = ps.length := by omega
  have hx4 : gLF ≠ g24 := pl_LF.ne' (by omega) (by omega)
  have hx5 : gLT ≠ g24 := pl_LT.ne' (by omega) (by omega)
  have hat6 := at6
  have hR' := hR.st st29001 (.cons (hR.neT hat6 rfl) (.nil _ _))
  exact ⟨⟨n, ss, ts, is, cs⟩, rect_mk (by omega) (by omega) (by omega) (hS.mono (by omega) (by omega)) (hT.mono (by omega) (by omega)) (by omega) (hI.mono (by omega) (by omega)) (by omega) (by rw [hsl]; exact hC.mono (by omega) (by omega)), hle, gLF, gLT, g24, gLC, rr, by simp [Cat.cells, ownP, hsl, htl, hil, hcl], ⟨at_LF, at_LT, at_Lg24, at_LC, by omega, by omega, by omega, by omega, by omega, by omega, by omega, hR', hF1, hT1, hI1⟩⟩
end Go.Proofs.Ytjdedelneppnlaa
