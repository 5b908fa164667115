/- The sum of two categories. No condition but those of each statement. -/
import Derived.Test.YtolfggcanbpknaaZ8
namespace Go.Proofs.Ytolfggcanbpknaa
open Go Go.GL Go.RowKit Go.Proofs
theorem sz_2_Ch : (Try.prog.info? 2).map (·.size) = some 1 := by kernel_rfl
theorem sz_24_Ch : (Try.prog.info? 24).map (·.size) = some 1 := by kernel_rfl
theorem sz_25_Ch : (Try.prog.info? 25).map (·.size) = some 1 := by kernel_rfl
set_option maxHeartbeats 8000000 in
theorem l03Sum_c {c d : Cat} {p q : CatP} {N : Nat} {H : GHeap} (hin : c.In H p := by assumption) (hin1 : d.In H q := by assumption) (hc : c.Rect N) (hd : d.Rect N) (hN : N ≤ 100000) :
    GCalls Try.prog 107 [.agg (c.cells p).toArray, .agg (d.cells q).toArray] H (NewCatO 2 24 H (c.sum d)) := by
  obtain ⟨a1, a2, a3, -, -, a6, -, a8, a9, -⟩ := id hc
  obtain ⟨b1, b2, b3, b4, b5, b6, b7, b8, b9, b10⟩ := id hd
  refine GCalls.body (N := 142) (rs := [.cell 4 27]) Try.func107 rfl rfl rfl rfl (fun Qx hret hend => ?_)
  refine .fg [0, 1] rfl ?_
  have hle := GHeap.Le.refl H
  have base_hin := hin
  have base_hin1 := hin1
  refine .seq (fun K1 hK1 => .region ?_)
  refine .R rfl (.boxR rfl sz_27_D rfl) ?_
  rintro _ H2 ⟨g2, rfl, le2, ge2, at2⟩
  replace hle := hle.trans le2
  have lt_at2 := GHeap.ltg at2
  replace hin := base_hin.mono hle
  have hb2 : Cat.At _ g2 0 c p := ⟨Mem.of_get at2, hin⟩
  refine .R rfl (.boxR rfl sz_27_D rfl) ?_
  rintro _ H3 ⟨g3, rfl, le3, ge3, at3⟩
  replace hle := hle.trans le3
  replace at2 := le3.2 _ _ at2
  have lt_at3 := GHeap.ltg at3
  replace hin := base_hin.mono hle
  replace hin1 := base_hin1.mono hle
  clear hb2
  have hb2 : Cat.At _ g2 0 c p := ⟨Mem.of_get at2, hin⟩
  have hb3 : Cat.At _ g3 0 d q := ⟨Mem.of_get at3, hin1⟩
  refine .R rfl (.allocR rfl ze_27_Hj rfl) ?_
  rintro _ H4 ⟨g4, rfl, le4, ge4, at4⟩
  have nx_H4 := le4.1
  replace hle := hle.trans le4
  replace at2 := le4.2 _ _ at2
  replace at3 := le4.2 _ _ at3
  have lt_at4 := GHeap.ltg at4
  replace hin := base_hin.mono hle
  replace hin1 := base_hin1.mono hle
  clear hb2
  have hb2 : Cat.At _ g2 0 c p := ⟨Mem.of_get at2, hin⟩
  obtain ⟨c02, c12, -, -, -, -, -, -, -⟩ := hb2.get
  have hi2 := hb2.2
  clear hb3
  have hb3 : Cat.At _ g3 0 d q := ⟨Mem.of_get at3, hin1⟩
  refine .nil (hK1 _ _ (.seq (fun K2 hK2 => ?_)))
  refine .regionD mo_B (.q 0 (.q 1 (.q 2 (.q 3 (.q 4 (.q 5 (.q 6 (.done)))))))) (by kernel_rfl) ?_
  refine .q rfl (.fieldAddr fo_27_0_B rfl) ?_
  refine .q rfl (.load on_2_A rfl (by first | assumption | exact Mem.of_get at2 0 _ rfl)) ?_
  refine .q rfl (.fieldAddr fo_27_1_B rfl) ?_
  refine .q rfl (.load on_24_B rfl (by first | assumption | exact Mem.of_get at2 1 _ rfl)) ?_
  refine .q rfl (.len sl_24_A rfl) (.mv rfl rfl (.mv rfl rfl ?_))
  refine .done ?_
  refine hK2 _ _ (.seq (fun K3 hK3 => .region ?_))
  refine .q rfl (.loadM ag_27_D rfl ⟨rfl, Mem.of_get at2⟩) ?_
  refine .call rfl rfl rfl rfl @Try.call111 rfl (l02OwnO_c (hs := hc.small (by omega))) ?_
  rintro _ H22 ⟨le22, gF, gT, gI, gC, rr, rfl, v22⟩
  have aF := v22.a1
  have aT := v22.a2
  have aI := v22.a3
  have aC := v22.a4
  have bF := v22.b1
  have bT := v22.b2
  have bI := v22.b3
  have bC := v22.b4
  have n12 := v22.n12
  have n13 := v22.n13
  have n23 := v22.n23
  have n4 := row_ne aC aF rfl
  have n5 := row_ne aC aT rfl
  have n6 := row_ne aC aI rfl
  have rk := St.refl [gI] H22
  replace hle := hle.trans le22
  replace at2 := le22.2 _ _ at2
  replace at3 := le22.2 _ _ at3
  replace at4 := le22.2 _ _ at4
  have lt_aF := GHeap.ltg aF
  have lt_aT := GHeap.ltg aT
  have lt_aI := GHeap.ltg aI
  have lt_aC := GHeap.ltg aC
  replace hin := base_hin.mono hle
  replace hin1 := base_hin1.mono hle
  clear hb2 c02 c12 hi2
  have hb2 : Cat.At _ g2 0 c p := ⟨Mem.of_get at2, hin⟩
  clear hb3
  have hb3 : Cat.At _ g3 0 d q := ⟨Mem.of_get at3, hin1⟩
  refine .R rfl (.allocR rfl ze_27_Hj rfl) ?_
  rintro _ H7 ⟨g7, rfl, le7, ge7, at7⟩
  have nx_H7 := le7.1
  replace hle := hle.trans le7
  replace rk := rk.le le7
  replace at2 := le7.2 _ _ at2
  replace at3 := le7.2 _ _ at3
  replace at4 := le7.2 _ _ at4
  replace aF := le7.2 _ _ aF
  replace aT := le7.2 _ _ aT
  replace aI := le7.2 _ _ aI
  replace aC := le7.2 _ _ aC
  replace hin := base_hin.mono hle
  replace hin1 := base_hin1.mono hle
  clear hb2
  have hb2 : Cat.At _ g2 0 c p := ⟨Mem.of_get at2, hin⟩
  clear hb3
  have hb3 : Cat.At _ g3 0 d q := ⟨Mem.of_get at3, hin1⟩
  refine .r0 rfl rfl (.fillA rfl sz_27_D rfl rfl rfl rfl) ?_
  rintro _ H2003 ⟨rfl, st2003, at2003⟩
  have nx_H2003 := st2003.nx
  replace hle := hle.st st2003 (fun k hk => ⟨by omega, trivial⟩)
  replace rk := rk.sA st2003
  have ne_g2_g7 : NE g2 g7 := .a
  replace at2 := st2003.s at2 ne_g2_g7.ne
  have ne_g3_g7 : NE g3 g7 := .a
  replace at3 := st2003.s at3 ne_g3_g7.ne
  have ne_g4_g7 : NE g4 g7 := .a
  replace at4 := st2003.s at4 ne_g4_g7.ne
  have ne_gF_g7 : NE gF g7 := .a
  replace aF := st2003.s aF ne_gF_g7.ne
  have ne_gT_g7 : NE gT g7 := .a
  replace aT := st2003.s aT ne_gT_g7.ne
  have ne_gI_g7 : NE gI g7 := .a
  replace aI := st2003.s aI ne_gI_g7.ne
  have ne_gC_g7 : NE gC g7 := .a
  replace aC := st2003.s aC ne_gC_g7.ne
  replace hin := base_hin.mono hle
  replace hin1 := base_hin1.mono hle
  clear hb2
  have hb2 : Cat.At _ g2 0 c p := ⟨Mem.of_get at2, hin⟩
  clear hb3
  have hb3 : Cat.At _ g3 0 d q := ⟨Mem.of_get at3, hin1⟩
  obtain ⟨c03, -, -, -, -, -, -, -, -⟩ := hb3.get
  refine .nil (hK3 _ _ (.seq (fun K4 hK4 => .region (.mv rfl (.q rfl (.fieldAddr fo_27_0_B rfl) ?_)))))
  refine .q rfl (.load on_2_A rfl (by first | assumption | exact Mem.of_get at3 0 _ rfl)) ?_
  refine .q rfl (.add rfl rfl rfl (by omega) (by omega)) ?_
  refine .q rfl (.fieldAddr fo_27_0_B rfl) ?_
  refine .r0 rfl rfl (.storeR rfl sz_2_Ch rfl rfl rfl (by assumption) (by first | exact Nat.le_of_ble_eq_true rfl | (simp; done) | (simp <;> omega))) ?_
  rintro _ H3005 ⟨rfl, st3005, at3005⟩
  have nx_H3005 := st3005.nx
  replace hle := hle.st st3005 (fun k hk => ⟨by omega, trivial⟩)
  replace rk := rk.sA st3005
  replace at2 := st3005.s at2 ne_g2_g7.ne
  replace at3 := st3005.s at3 ne_g3_g7.ne
  replace at4 := st3005.s at4 ne_g4_g7.ne
  replace aF := st3005.s aF ne_gF_g7.ne
  replace aT := st3005.s aT ne_gT_g7.ne
  replace aI := st3005.s aI ne_gI_g7.ne
  replace aC := st3005.s aC ne_gC_g7.ne
  have lt_at3005 := GHeap.ltg at3005
  replace hin := base_hin.mono hle
  replace hin1 := base_hin1.mono hle
  clear hb2
  have hb2 : Cat.At _ g2 0 c p := ⟨Mem.of_get at2, hin⟩
  clear hb3 c03
  have hb3 : Cat.At _ g3 0 d q := ⟨Mem.of_get at3, hin1⟩
  try simp only [Nat.zero_add, List.set_cons_succ, List.set_cons_zero] at at3005
  refine .nil (hK4 _ _ (.seq (fun K5 hK5 => .seq (fun K6 hK6 => .region (.mv rfl (.nil (hK6 _ _ ?_)))))))
  refine .block ?_
  refine .loopR (σ := Nat × Nat) [(3, some _), (4, some _), (5, some _), (6, some _), (7, some _)] (fun (y, gLI) => [(8, some (.int .i64 (y : Int)))]) (fun (y, gLI) H' => St [gI, g7] H3005 H' ∧ H'.get gLI = some (.row (ints (c.idn ++ (d.idn.take y).map (· + (c.src.length : Int)))) 2 true) ∧ PL gLI gI H3005.next ∧ H'.get g7 = some (.row ([.int .i64 (c.obj + d.obj), .slice (some ⟨gF, 0, none⟩) c.src.length c.src.length, .slice (some ⟨gT, 0, none⟩) c.tgt.length c.tgt.length, .slice (some ⟨gLI, 0, none⟩) (c.idn.length + y) (c.idn.length + y), .slice (some ⟨gC, 0, none⟩) c.comp.length c.comp.length]) 27 true) ∧ gLI ≠ g7 ∧ (y : Int) ≤ d.obj) (fun (y, gLI) => (d.obj - y : Int).toNat) ((0, gI)) ⟨rfl, rfl, rfl, rfl, rfl, trivial⟩ ⟨rfl, trivial⟩ ?_ ?_
  ·
   refine ⟨.refl _ _, by simpa using aI, ⟨.inl rfl⟩, by assumption, by omega, ?_⟩
   omega
  rintro ⟨y, gLI⟩ HL1 ⟨lst1, at_LI, pl_LI, at_Lg7, ap1_0, hI⟩ KL1 hKL1
  refine .forget (fr' := [(8, some (.int .i64 (y : Int))), (3, some _), (4, some _), (5, some _), (6, some _), (7, some _)]) ⟨rfl, rfl, rfl, rfl, rfl, rfl, trivial⟩ ?_
  have ge_LI : H.next ≤ gLI := pl_LI.ge (by omega) (by omega)
  have nx_HL1 := lst1.nx
  replace hle := hle.st lst1 (fun k hk => ⟨by omega, by omega, trivial⟩)
  replace rk := rk.st lst1 (fun k hk ho => by simp only [out, and_true] at ho ⊢ <;> exact ⟨by first | exact ho | exact ho.1 | exact ho.2 | exact ho.2.1 | exact ho.2.2 | exact ho.2.2.1 | exact ho.2.2.2 | omega, by first | exact ho | exact ho.1 | exact ho.2 | exact ho.2.1 | exact ho.2.2 | exact ho.2.2.1 | exact ho.2.2.2 | omega⟩)
  have ne_g2_gI : NE g2 gI := .a
  replace at2 := lst1.same _ _ ⟨ne_g2_gI.ne, ne_g2_g7.ne, trivial⟩ at2
  have ne_g3_gI : NE g3 gI := .a
  replace at3 := lst1.same _ _ ⟨ne_g3_gI.ne, ne_g3_g7.ne, trivial⟩ at3
  replace at4 := lst1.same _ _ ⟨(by first | assumption | omega), ne_g4_g7.ne, trivial⟩ at4
  replace aF := lst1.same _ _ ⟨(by first | assumption | omega), ne_gF_g7.ne, trivial⟩ aF
  replace aT := lst1.same _ _ ⟨(by first | assumption | omega), ne_gT_g7.ne, trivial⟩ aT
  replace aC := lst1.same _ _ ⟨(by first | assumption | omega), ne_gC_g7.ne, trivial⟩ aC
  have lt_at_Lg7 := GHeap.ltg at_Lg7
  replace hin := base_hin.mono hle
  replace hin1 := base_hin1.mono hle
  clear hb2
  have hb2 : Cat.At _ g2 0 c p := ⟨Mem.of_get at2, hin⟩
  clear hb3
  have hb3 : Cat.At _ g3 0 d q := ⟨Mem.of_get at3, hin1⟩
  obtain ⟨c03, -, -, c33, -, -, -, i33, -⟩ := hb3.get
  have hfl : (c.idn ++ (d.idn.take y).map (· + (c.src.length : Int))).length = c.idn.length + y := by simp; omega
  refine .seq (fun K7 hK7 => .seq (fun K8 hK8 => .region (.mv rfl (.q rfl (.fieldAddr fo_27_0_B rfl) ?_))))
  refine .q rfl (.load on_2_A rfl (by first | assumption | exact Mem.of_get at3 0 _ rfl)) ?_
  refine .q rfl (.cmp rfl rfl rfl) (.nil (hK8 _ _ ?_))
  refine .cond rfl (fun h31 => ?_) (fun h31 => ?_)
  ·
   simp only [sps] at h31
   have r1 := b7 y (by omega)
   refine .skip ?_
   refine hK7 _ _ (.seq (fun K9 hK9 => ?_))
   refine .block ?_
   refine .regionD mo_B (.q 0 (.q 1 (.q 2 (.q 3 (.q 4 (.q 5 (.q 6 (.q 7 (.q 8 (.c 9 1 (.c 10 0 (.q 11 (.c 12 0 (.done)))))))))))))) (by kernel_rfl) ?_
   refine .q rfl (.fieldAddr fo_27_3_B rfl) ?_
   refine .q rfl (.load on_24_B rfl (by first | assumption | exact Mem.of_get at_Lg7 3 _ rfl)) ?_
   refine .q rfl (.fieldAddr fo_27_3_B rfl) ?_
   refine .q rfl (.load on_24_B rfl (by first | assumption | exact Mem.of_get at3 3 _ rfl)) ?_
   refine .mv rfl rfl ?_
   refine .q rfl (.idxN sl_24_A (by assumption) rfl rfl (by omega)) ?_
   refine .q rfl (.loadI on_2_A (by assumption) rfl (by omega)) ?_
   refine .mv rfl rfl ?_
   refine .q rfl (.add rfl rfl rfl (by omega) (by omega)) ?_
   refine .c1 rfl rfl rfl rfl (.litA rfl sl_24_A ze_2_L rfl rfl rfl rfl) ?_
   rintro _ H43 ⟨g43, rfl, le43, ge43, at43⟩
   have hbl := le43
   refine ⟨hbl, ?_⟩
   replace hle := hle.trans le43
   replace lst1 := lst1.le le43
   replace at2 := le43.2 _ _ at2
   replace at3 := le43.2 _ _ at3
   replace at_LI := le43.2 _ _ at_LI
   replace at_Lg7 := le43.2 _ _ at_Lg7
   have lt_at43 := GHeap.ltg at43
   replace hin := base_hin.mono hle
   replace hin1 := base_hin1.mono hle
   clear hb2
   have hb2 : Cat.At _ g2 0 c p := ⟨Mem.of_get at2, hin⟩
   clear hb3 c03 c33 i33
   have hb3 : Cat.At _ g3 0 d q := ⟨Mem.of_get at3, hin1⟩
   refine .c0 rfl rfl rfl rfl (.appendI rfl sl_24_A ze_2_L rfl by_2_L sl_24_A rfl rfl (by assumption) (by assumption) (by first | omega | (simp <;> omega)) (by omega) (by omega)) ?_
   rintro _ H44 ⟨g44, rfl, st44, ge44, at44⟩
   replace hle := hle.st st44 (fun k hk => ⟨by omega, trivial⟩)
   replace lst1 := lst1.sP st44
   replace at2 := st44.same _ _ ⟨(pl_LI.ne ne_g2_gI.ne (by omega)), trivial⟩ at2
   replace at3 := st44.same _ _ ⟨(pl_LI.ne ne_g3_gI.ne (by omega)), trivial⟩ at3
   replace at_Lg7 := st44.same _ _ ⟨(Ne.symm ap1_0), trivial⟩ at_Lg7
   replace hin := base_hin.mono hle
   replace hin1 := base_hin1.mono hle
   clear hb2
   have hb2 : Cat.At _ g2 0 c p := ⟨Mem.of_get at2, hin⟩
   clear hb3
   have hb3 : Cat.At _ g3 0 d q := ⟨Mem.of_get at3, hin1⟩
   refine .q rfl (.fieldAddr fo_27_3_B rfl) ?_
   refine .r0 rfl rfl rfl (.storeR rfl sz_24_Ch rfl rfl rfl (by assumption) (by first | exact Nat.le_of_ble_eq_true rfl | (simp; done) | (simp <;> omega))) ?_
   rintro _ H7012 ⟨rfl, st7012, at7012⟩
   replace hle := hle.st st7012 (fun k hk => ⟨by omega, trivial⟩)
   replace lst1 := lst1.sA st7012
   replace at2 := st7012.s at2 ne_g2_g7.ne
   replace at3 := st7012.s at3 ne_g3_g7.ne
   replace at44 := st7012.s at44
   replace hin := base_hin.mono hle
   replace hin1 := base_hin1.mono hle
   clear hb2
   have hb2 : Cat.At _ g2 0 c p := ⟨Mem.of_get at2, hin⟩
   clear hb3
   have hb3 : Cat.At _ g3 0 d q := ⟨Mem.of_get at3, hin1⟩
   try simp only [Nat.zero_add, List.set_cons_succ, List.set_cons_zero] at at7012
   refine .done ?_
   refine hK9 _ _ (.region (.mv rfl ?_))
   refine .q rfl (.add rfl rfl rfl (by omega) (by omega)) ?_
   refine .mv rfl (.nil ?_)
   refine hKL1 ((y + 1, g44)) _ _ ?_ ?_ ⟨rfl, rfl, rfl, rfl, rfl, rfl, trivial⟩
   ·
    refine ⟨lst1, by (rw [take_map_snoc (d := 0) (by omega), ← List.append_assoc]; assumption), by exact ⟨.inr (by omega)⟩, by assumption, by omega, ?_⟩
    omega
   (dsimp only; omega)
  try simp only [sps] at h31
  refine .exit ?_
  refine hK5 _ _ (.seq (fun K10 hK10 => .seq (fun K11 hK11 => .region ?_)))
  obtain rfl : y = d.obj.toNat := by omega
  have hI9 : (d.idn.take d.obj.toNat) = d.idn := List.take_of_length_le (by omega)
  rw [hI9] at at_LI
  have k1 := row_ne aC at_LI rfl
  have ne_gF_gLI : gF ≠ gLI := pl_LI.ne n13 (by omega)
  have ne_gT_gLI : gT ≠ gLI := pl_LI.ne n23 (by omega)
  refine .mv rfl (.nil (hK11 _ _ ?_))
  refine .block ?_
  refine .loopR (σ := Nat × (Nat → Option Addr)) [(3, some _), (4, some _), (5, some _), (6, some _), (7, some _)] (fun (f, rr) => [(9, some (.int .i64 (f : Int)))]) (fun (f, rr) H' => f ≤ c.comp.length ∧ SumSt 2 24 27 H H' c d q g3 g4 g7 gF gT gLI gC [.int .i64 0, .slice none 0 0, .slice none 0 0, .slice none 0 0, .slice none 0 0] rr f 0) (fun (f, rr) => c.comp.length - f) ((0, rr)) ⟨rfl, rfl, rfl, rfl, rfl, trivial⟩ ⟨rfl, trivial⟩ ?_ ?_
  ·
   refine ⟨by omega, hle, by omega, ?_, at4, at_Lg7, aF, aT, at_LI, by rw [extL_zero]; exact aC, by rw [extL_zero]; exact (v22.rows.st rk (.cons v22.r3 (.nil _ _))).low (by omega), v22.r1, v22.r2, ?_⟩
   · assumption
   · exact fun i hi e => by
       obtain ⟨x, h1, h2, h3⟩ := v22.rows.row i hi
       rw [h1] at e
       cases e
       have := GHeap.ltg h3
       exact pl_LI.ne (fun e => v22.r3 i hi (by rw [h1, e])) (by omega) rfl
  rintro ⟨f, rr⟩ HL2 hI KL2 hKL2
  refine .forget (fr' := [(9, some (.int .i64 (f : Int))), (3, some _), (4, some _), (5, some _), (6, some _), (7, some _)]) ⟨rfl, rfl, rfl, rfl, rfl, rfl, trivial⟩ ?_
  obtain ⟨hf, hS⟩ := hI
  obtain ⟨hle, bC, aD, aR, aS, aF, aT, aI, aC, hR, hr1, hr2, hr3⟩ := id hS
  have nx_HL2 := hle.1
  have lt_aD := GHeap.ltg aD
  have lt_aR := GHeap.ltg aR
  have lt_aF := GHeap.ltg aF
  have lt_aI := GHeap.ltg aI
  replace hin1 := base_hin1.mono hle
  have hb3 : Cat.At _ g3 0 d q := ⟨Mem.of_get aD, hin1⟩
  refine .seq (fun K12 hK12 => .seq (fun K13 hK13 => .region (.mv rfl (.q rfl (.fieldAddr fo_27_4_B rfl) ?_))))
  refine .q rfl (.load on_25_B rfl (by first | assumption | exact Mem.of_get aS 4 _ rfl)) ?_
  refine .q rfl (.len sl_25_B rfl) (.q rfl (.cmp rfl rfl rfl) (.nil (hK13 _ _ ?_)))
  refine .cond rfl (fun h50 => ?_) (fun h50 => ?_)
  ·
   simp only [sps] at h50
   refine .skip ?_
   refine hK12 _ _ (.seq (fun K14 hK14 => ?_))
   refine .block ?_
   refine .seq (fun K15 hK15 => .region (.mv rfl (.nil (hK15 _ _ ?_))))
   refine .block ?_
   refine .loopR (σ := Nat × (Nat → Option Addr)) [(3, some _), (4, some _), (5, some _), (6, some _), (7, some _), (9, some _)] (fun (j, r2) => [(10, some (.int .i64 (j : Int)))]) (fun (j, r2) H' => j ≤ d.src.length ∧ SumSt 2 24 27 H H' c d q g3 g4 g7 gF gT gLI gC [.int .i64 0, .slice none 0 0, .slice none 0 0, .slice none 0 0, .slice none 0 0] r2 f j) (fun (j, r2) => d.src.length - j) ((0, rr)) ⟨rfl, rfl, rfl, rfl, rfl, rfl, trivial⟩ ⟨rfl, trivial⟩ ?_ ?_
   ·
    exact ⟨by omega, hS⟩
   rintro ⟨j, r2⟩ HL3 hI KL3 hKL3
   refine .forget (fr' := [(10, some (.int .i64 (j : Int))), (3, some _), (4, some _), (5, some _), (6, some _), (7, some _), (9, some _)]) ⟨rfl, rfl, rfl, rfl, rfl, rfl, rfl, trivial⟩ ?_
   obtain ⟨hj, hS⟩ := hI
   obtain ⟨-, -, aD, aR, aS, -, -, aI, aC, hR, -, -, -⟩ := id hS
   have hel := extL_len (xss := c.comp) (k := d.src.length) (f := f) (j := j) (i := f) hj (by omega)
   have hrow := a9 f (by omega)
   refine .seq (fun K16 hK16 => .seq (fun K17 hK17 => .region (.mv rfl (.q rfl (.fieldAddr fo_27_1_B rfl) ?_))))
   refine .q rfl (.load on_24_B rfl (by first | assumption | exact Mem.of_get aD 1 _ rfl)) ?_
   refine .q rfl (.len sl_24_A rfl) (.q rfl (.cmp rfl rfl rfl) (.nil (hK17 _ _ ?_)))
   refine .cond rfl (fun h57 => ?_) (fun h57 => ?_)
   ·
    simp only [sps] at h57
    obtain ⟨gi, hgi, -, hati0⟩ := hR.row f (by rw [length_extL]; omega)
    have hati := hati0
    have m1 := row_ne aS hati rfl
    have m3 := row_ne aC hati rfl
    refine .skip ?_
    refine hK16 _ _ (.seq (fun K18 hK18 => ?_))
    refine .block ?_
    refine .regionDB mo_B (.q 0 (.q 1 (.q 2 (.q 3 (.q 4 (.q 5 (.q 6 (.q 7 (.c 8 1 (.c 9 1 (.q 10 (.c 11 0 (.done))))))))))))) (by kernel_rfl) (GHeap.le_erase HL3 gi) ?_
    have hbl := GHeap.le_erase HL3 gi
    have aSB := GHeap.get_erase_of aS m1
    have aCB := GHeap.get_erase_of aC m3
    have cC := slsL_cell aCB (i := f) (by rw [length_extL]; omega)
    rw [hgi] at cC
    refine .qB rfl hbl (.fieldAddr fo_27_4_B rfl) (.qB rfl hbl (.load on_25_B rfl (Mem.of_get aSB 4 _ rfl)) (.qB rfl hbl (.move rfl) (.qB rfl hbl (.fieldAddr fo_27_4_B rfl) (.qB rfl hbl (.load on_25_B rfl (Mem.of_get aSB 4 _ rfl)) (.qB rfl hbl (.move rfl) ?_)))))
    refine .qB rfl hbl (.idxN sl_25_B (SlA.of_row aCB (by simp)) rfl rfl (by omega)) ?_
    refine .qB rfl hbl (.load on_24_B rfl cC) ?_
    refine .c1 rfl rfl rfl rfl (.litA rfl sl_24_A ze_2_L rfl rfl rfl rfl) ?_
    rintro _ H68 ⟨g68, rfl, le68, ge68, at68⟩
    replace hbl := hbl.trans le68
    refine ⟨hbl, ?_⟩
    replace aC := le68.2 _ _ aC
    replace hati := le68.2 _ _ hati
    refine .c1 rfl rfl rfl rfl (.appendI rfl sl_24_A ze_2_L rfl by_2_L sl_24_A rfl rfl (by assumption) (by assumption) (by first | omega | (simp <;> omega)) (by omega) (by omega)) ?_
    rintro _ H69 ⟨g69, rfl, st69, ge69, at69⟩
    refine ⟨(hbl.erase_st st69), ?_⟩
    replace aC := st69.s aC
    replace hbl := hbl.erase_st st69
    refine .qB rfl hbl (.idxN sl_25_B (SlA.of_row aCB (by simp)) rfl rfl (by omega)) ?_
    have at69s := at69
    refine .r0 rfl rfl rfl (.storeR rfl sz_24_Ch rfl rfl rfl (by assumption) (by first | exact Nat.le_of_ble_eq_true rfl | (simp; done) | (simp <;> omega))) ?_
    rintro _ H14011 ⟨rfl, st14011, at14011⟩
    rw [Nat.zero_add] at at14011
    refine .done ?_
    refine hK18 _ _ (.region (.mv rfl ?_))
    refine .q rfl (.add rfl rfl rfl (by omega) (by omega)) ?_
    refine .mv rfl (.nil ?_)
    refine hKL3 ((j + 1, upd r2 f (some ⟨g69, 0, none⟩))) _ _ ?_ ?_ ⟨rfl, rfl, rfl, rfl, rfl, rfl, rfl, trivial⟩
    ·
     exact ⟨by omega, hS.app rfl rfl rfl (by omega) hati0 hgi le68 st69 ge69 at69s st14011 at14011 rfl⟩
    (dsimp only; omega)
   try simp only [sps] at h57
   refine .exit ?_
   refine hK14 _ _ (.region (.mv rfl ?_))
   refine .q rfl (.add rfl rfl rfl (by omega) (by omega)) ?_
   refine .mv rfl (.nil ?_)
   refine hKL2 ((f + 1, r2)) _ _ ?_ ?_ ⟨rfl, rfl, rfl, rfl, rfl, rfl, trivial⟩
   ·
    obtain rfl : j = d.src.length := by omega
    exact ⟨by omega, hS.next⟩
   (dsimp only; omega)
  try simp only [sps] at h50
  refine .exit ?_
  refine hK10 _ _ (.seq (fun K19 hK19 => .seq (fun K20 hK20 => .region ?_)))
  obtain rfl : f = c.comp.length := by omega
  rw [Cat.extL_all] at aC hR
  have ne_g3_gF := row_ne aD aF rfl
  have ne_g3_gT := row_ne aD aT rfl
  have ne_g3_gC := row_ne aD aC rfl
  have ne_g4_gF := row_ne aR aF rfl
  have ne_gLI_g4 := row_ne aI aR rfl
  have ne_g4_gT := row_ne aR aT rfl
  have ne_g4_gC := row_ne aR aC rfl
  have ne_g7_gF := row_ne aS aF rfl
  have ne_g7_gT := row_ne aS aT rfl
  have ne_g7_gC := row_ne aS aC rfl
  refine .mv rfl (.nil (hK20 _ _ ?_))
  refine .block ?_
  refine .loopR (σ := Nat × (Nat → Option Addr) × Nat × Nat × Nat) [(3, some _), (4, some _), (5, some _), (6, some _), (7, some _)] (fun (i, r3, gLF, gLT, gLC) => [(11, some (.int .i64 (i : Int)))]) (fun (i, r3, gLF, gLT, gLC) H' => St [gF, gT, gC, g7] HL2 H' ∧ H'.get gLF = some (.row (ints (c.src ++ (d.src.take i).map (· + c.obj))) 2 true) ∧ PL gLF gF HL2.next ∧ H'.get gLT = some (.row (ints (c.tgt ++ (d.tgt.take i).map (· + c.obj))) 2 true) ∧ PL gLT gT HL2.next ∧ H'.get gLC = some (.row ((slsL r3 (c.sumL d ++ (d.comp.take i).map (sumRow c.src.length)))) 24 true) ∧ PL gLC gC HL2.next ∧ H'.get g7 = some (.row ([.int .i64 (c.obj + d.obj), .slice (some ⟨gLF, 0, none⟩) (c.src.length + i) (c.src.length + i), .slice (some ⟨gLT, 0, none⟩) (c.tgt.length + i) (c.tgt.length + i), .slice (some ⟨gLI, 0, none⟩) (c.idn.length + d.obj.toNat) (c.idn.length + d.obj.toNat), .slice (some ⟨gLC, 0, none⟩) (c.comp.length + i) (c.comp.length + i)]) 27 true) ∧ gLF ≠ gLT ∧ gLF ≠ gLC ∧ gLF ≠ g7 ∧ gLT ≠ gLC ∧ gLT ≠ g7 ∧ gLC ≠ g7 ∧ i ≤ d.src.length ∧ OwnL H.next H' 2 r3 (c.sumL d ++ (d.comp.take i).map (sumRow c.src.length)) ∧ (∀ j, j < (c.sumL d ++ (d.comp.take i).map (sumRow c.src.length)).length → r3 j ≠ some ⟨gLF, 0, none⟩) ∧ (∀ j, j < (c.sumL d ++ (d.comp.take i).map (sumRow c.src.length)).length → r3 j ≠ some ⟨gLT, 0, none⟩) ∧ ∀ j, j < (c.sumL d ++ (d.comp.take i).map (sumRow c.src.length)).length → r3 j ≠ some ⟨gLI, 0, none⟩) (fun (i, r3, gLF, gLT, gLC) => d.src.length - i) ((0, rr, gF, gT, gC)) ⟨rfl, rfl, rfl, rfl, rfl, trivial⟩ ⟨rfl, trivial⟩ ?_ ?_
  ·
   refine ⟨.refl _ _, by simpa using aF, ⟨.inl rfl⟩, by simpa using aT, ⟨.inl rfl⟩, by simpa using aC, ⟨.inl rfl⟩, by assumption, by omega, by omega, by omega, by omega, by omega, by omega, ?_⟩
   have e0 : c.sumL d ++ (d.comp.take 0).map (sumRow c.src.length) = c.sumL d := by simp
   rw [e0]
   have e1 : (c.sumL d).length = c.comp.length := by simp [Cat.sumL]
   exact ⟨by omega, hR, fun j hj => hr1 j (by omega), fun j hj => hr2 j (by omega), fun j hj => hr3 j (by omega)⟩
  rintro ⟨i, r3, gLF, gLT, gLC⟩ HL4 ⟨lst4, at_LF, pl_LF, at_LT, pl_LT, at_LC, pl_LC, at_Lg7, ap4_0, ap4_1, ap4_2, ap4_3, ap4_4, ap4_5, hI⟩ KL4 hKL4
  refine .forget (fr' := [(11, some (.int .i64 (i : Int))), (3, some _), (4, some _), (5, some _), (6, some _), (7, some _)]) ⟨rfl, rfl, rfl, rfl, rfl, rfl, trivial⟩ ?_
  have ge_LF : H.next ≤ gLF := pl_LF.ge (by omega) (by omega)
  have ge_LT : H.next ≤ gLT := pl_LT.ge (by omega) (by omega)
  have ge_LC : H.next ≤ gLC := pl_LC.ge (by omega) (by omega)
  have nx_HL4 := lst4.nx
  replace hle := hle.st lst4 (fun k hk => ⟨by omega, by omega, by omega, by omega, trivial⟩)
  have ne_g3_gF : NE g3 gF := .a
  have ne_g3_gT : NE g3 gT := .a
  have ne_g3_gC : NE g3 gC := .a
  have ne_g3_g7 : NE g3 g7 := .a
  replace aD := lst4.same _ _ ⟨ne_g3_gF.ne, ne_g3_gT.ne, ne_g3_gC.ne, ne_g3_g7.ne, trivial⟩ aD
  have ne_g4_gF : NE g4 gF := .a
  have ne_g4_gT : NE g4 gT := .a
  have ne_g4_gC : NE g4 gC := .a
  have ne_g4_g7 : NE g4 g7 := .a
  replace aR := lst4.same _ _ ⟨ne_g4_gF.ne, ne_g4_gT.ne, ne_g4_gC.ne, ne_g4_g7.ne, trivial⟩ aR
  have ne_gLI_gF : NE gLI gF := .a
  have ne_gLI_g7 : NE gLI g7 := .a
  replace aI := lst4.same _ _ ⟨ne_gLI_gF.ne, (by first | assumption | omega), (by first | assumption | omega), ne_gLI_g7.ne, trivial⟩ aI
  have lt_at_LF := GHeap.ltg at_LF
  have lt_at_LT := GHeap.ltg at_LT
  have lt_at_LC := GHeap.ltg at_LC
  have lt_at_Lg7 := GHeap.ltg at_Lg7
  replace hin1 := base_hin1.mono hle
  clear hb3
  have hb3 : Cat.At _ g3 0 d q := ⟨Mem.of_get aD, hin1⟩
  obtain ⟨-, c13, -, -, -, i13, -, -, -⟩ := hb3.get
  have rk := St.refl [gLF, gLT, gLC, g7] HL4
  obtain ⟨hi, hR, hF, hT, hId⟩ := hI
  have hatC := at_LC
  have nFI : gLI ≠ gLF := pl_LF.ne (Ne.symm ne_gF_gLI) (by omega)
  have nTI : gLI ≠ gLT := pl_LT.ne (Ne.symm ne_gT_gLI) (by omega)
  have hat7 := at_Lg7
  have hql : (c.sumL d ++ (d.comp.take i).map (sumRow c.src.length)).length = c.comp.length + i := by simp [Cat.sumL]; omega
  have hl1 : (c.src ++ (d.src.take i).map (· + c.obj)).length = c.src.length + i := by simp; omega
  have hl2 : (c.tgt ++ (d.tgt.take i).map (· + c.obj)).length = c.tgt.length + i := by simp; omega
  have hfl : (slsL r3 (c.sumL d ++ (d.comp.take i).map (sumRow c.src.length))).length = c.comp.length + i := by rw [length_slsL, hql]
  refine .seq (fun K21 hK21 => .seq (fun K22 hK22 => .region (.mv rfl (.q rfl (.fieldAddr fo_27_1_B rfl) ?_))))
  refine .q rfl (.load on_24_B rfl (by first | assumption | exact Mem.of_get aD 1 _ rfl)) ?_
  refine .q rfl (.len sl_24_A rfl) (.q rfl (.cmp rfl rfl rfl) (.nil (hK22 _ _ ?_)))
  refine .cond rfl (fun h75 => ?_) (fun h75 => ?_)
  ·
   simp only [sps] at h75
   have q1 := b4 i (by omega)
   have q2 := b5 i (by omega)
   have q3 := b9 i (by omega)
   refine .skip ?_
   refine hK21 _ _ (.seq (fun K23 hK23 => ?_))
   refine .block ?_
   refine .seq (fun K24 hK24 => ?_)
   refine .regionD mo_B (.q 0 (.q 1 (.q 2 (.q 3 (.q 4 (.q 5 (.q 6 (.q 7 (.q 8 (.c 9 1 (.c 10 0 (.q 11 (.c 12 0 (.done)))))))))))))) (by kernel_rfl) ?_
   refine .q rfl (.fieldAddr fo_27_1_B rfl) ?_
   refine .q rfl (.load on_24_B rfl (by first | assumption | exact Mem.of_get at_Lg7 1 _ rfl)) ?_
   refine .q rfl (.fieldAddr fo_27_1_B rfl) ?_
   refine .q rfl (.load on_24_B rfl (by first | assumption | exact Mem.of_get aD 1 _ rfl)) ?_
   refine .mv rfl rfl ?_
   refine .q rfl (.idxN sl_24_A (by assumption) rfl rfl (by omega)) ?_
   refine .q rfl (.loadI on_2_A (by assumption) rfl (by omega)) ?_
   refine .mv rfl rfl ?_
   refine .q rfl (.add rfl rfl rfl (by omega) (by omega)) ?_
   refine .c1 rfl rfl rfl rfl (.litA rfl sl_24_A ze_2_L rfl rfl rfl rfl) ?_
   rintro _ H87 ⟨g87, rfl, le87, ge87, at87⟩
   have hbl := le87
   refine ⟨hbl, ?_⟩
   replace hle := hle.trans le87
   replace lst4 := lst4.le le87
   replace rk := rk.le le87
   replace aD := le87.2 _ _ aD
   replace aR := le87.2 _ _ aR
   replace aI := le87.2 _ _ aI
   replace at_LF := le87.2 _ _ at_LF
   replace at_LT := le87.2 _ _ at_LT
   replace at_LC := le87.2 _ _ at_LC
   replace at_Lg7 := le87.2 _ _ at_Lg7
   have lt_at87 := GHeap.ltg at87
   replace hin1 := base_hin1.mono hle
   clear hb3 c13 i13
   have hb3 : Cat.At _ g3 0 d q := ⟨Mem.of_get aD, hin1⟩
   refine .c0 rfl rfl rfl rfl (.appendI rfl sl_24_A ze_2_L rfl by_2_L sl_24_A rfl rfl (by assumption) (by assumption) (by first | omega | (simp <;> omega)) (by omega) (by omega)) ?_
   rintro _ H88 ⟨g88, rfl, st88, ge88, at88⟩
   replace hle := hle.st st88 (fun k hk => ⟨by omega, trivial⟩)
   replace lst4 := lst4.sP st88
   replace rk := rk.sP st88
   replace aD := st88.same _ _ ⟨(pl_LF.ne ne_g3_gF.ne (by omega)), trivial⟩ aD
   have ne_g4_gLF : NE g4 gLF := ⟨pl_LF.ne ne_g4_gF.ne (by omega)⟩
   replace aR := st88.s aR ne_g4_gLF.ne
   replace aI := st88.same _ _ ⟨(pl_LF.ne ne_gLI_gF.ne (by omega)), trivial⟩ aI
   replace at_LT := st88.same _ _ ⟨(Ne.symm ap4_0), trivial⟩ at_LT
   replace at_LC := st88.same _ _ ⟨(Ne.symm ap4_1), trivial⟩ at_LC
   replace at_Lg7 := st88.same _ _ ⟨(Ne.symm ap4_2), trivial⟩ at_Lg7
   replace at87 := st88.s at87
   have lt_at88 := GHeap.ltg at88
   replace hin := base_hin.mono hle
   replace hin1 := base_hin1.mono hle
   clear hb3
   have hb3 : Cat.At _ g3 0 d q := ⟨Mem.of_get aD, hin1⟩
   obtain ⟨c03, c13, c23, c33, c43, i13, i23, i33, i43⟩ := hb3.get
   have hm3 : MemN _ _ _ _ _ := ⟨rfl, hb3.1⟩
   have hi3 := hb3.2
   refine .q rfl (.fieldAddr fo_27_1_B rfl) ?_
   refine .r0 rfl rfl rfl (.storeR rfl sz_24_Ch rfl rfl rfl (by assumption) (by first | exact Nat.le_of_ble_eq_true rfl | (simp; done) | (simp <;> omega))) ?_
   rintro _ H18012 ⟨rfl, st18012, at18012⟩
   have nx_H18012 := st18012.nx
   replace hle := hle.st st18012 (fun k hk => ⟨by omega, trivial⟩)
   replace lst4 := lst4.sA st18012
   replace rk := rk.sA st18012
   replace aD := st18012.s aD ne_g3_g7.ne
   replace aR := st18012.s aR ne_g4_g7.ne
   replace aI := st18012.s aI ne_gLI_g7.ne
   replace at_LT := st18012.same _ _ ⟨ap4_4, trivial⟩ at_LT
   replace at_LC := st18012.same _ _ ⟨ap4_5, trivial⟩ at_LC
   replace at87 := st18012.s at87
   have ne_g88_g7 : NE g88 g7 := .a
   replace at88 := st18012.s at88 ne_g88_g7.ne
   have lt_at18012 := GHeap.ltg at18012
   replace hin := base_hin.mono hle
   replace hin1 := base_hin1.mono hle
   clear hb3 c03 c13 c23 c33 c43 i13 i23 i33 i43 hm3 hi3
   have hb3 : Cat.At _ g3 0 d q := ⟨Mem.of_get aD, hin1⟩
   obtain ⟨c03, c13, c23, c33, c43, i13, i23, i33, i43⟩ := hb3.get
   have hm3 : MemN _ _ _ _ _ := ⟨rfl, hb3.1⟩
   have hi3 := hb3.2
   try simp only [Nat.zero_add, List.set_cons_succ, List.set_cons_zero] at at18012
   refine .done ?_
   refine hK24 _ _ (.seq (fun K25 hK25 => ?_))
   refine .regionD mo_B (.q 0 (.q 1 (.q 2 (.q 3 (.q 4 (.q 5 (.q 6 (.q 7 (.q 8 (.c 9 1 (.c 10 0 (.q 11 (.c 12 0 (.done)))))))))))))) (by kernel_rfl) ?_
   refine .q rfl (.fieldAddr fo_27_2_B rfl) ?_
   refine .q rfl (.load on_24_B rfl (by first | assumption | exact Mem.of_get at18012 2 _ rfl)) ?_
   refine .q rfl (.fieldAddr fo_27_2_B rfl) ?_
   refine .q rfl (.load on_24_B rfl (by first | assumption | exact Mem.of_get aD 2 _ rfl)) ?_
   refine .mv rfl rfl ?_
   refine .q rfl (.idxN sl_24_A (by assumption) rfl rfl (by omega)) ?_
   refine .q rfl (.loadI on_2_A (by assumption) rfl (by omega)) ?_
   refine .mv rfl rfl ?_
   refine .q rfl (.add rfl rfl rfl (by omega) (by omega)) ?_
   refine .c1 rfl rfl rfl rfl (.litA rfl sl_24_A ze_2_L rfl rfl rfl rfl) ?_
   rintro _ H99 ⟨g99, rfl, le99, ge99, at99⟩
   have hbl := le99
   refine ⟨hbl, ?_⟩
   have nx_H99 := le99.1
   replace hle := hle.trans le99
   replace lst4 := lst4.le le99
   replace rk := rk.le le99
   replace aD := le99.2 _ _ aD
   replace aR := le99.2 _ _ aR
   replace aI := le99.2 _ _ aI
   replace at_LT := le99.2 _ _ at_LT
   replace at_LC := le99.2 _ _ at_LC
   replace at87 := le99.2 _ _ at87
   replace at88 := le99.2 _ _ at88
   replace at18012 := le99.2 _ _ at18012
   have lt_at99 := GHeap.ltg at99
   replace hin := base_hin.mono hle
   replace hin1 := base_hin1.mono hle
   clear hb3 c03 c13 c23 c33 c43 i13 i23 i33 i43 hm3 hi3
   have hb3 : Cat.At _ g3 0 d q := ⟨Mem.of_get aD, hin1⟩
   obtain ⟨c03, c13, c23, c33, c43, i13, i23, i33, i43⟩ := hb3.get
   have hm3 : MemN _ _ _ _ _ := ⟨rfl, hb3.1⟩
   have hi3 := hb3.2
   refine .c0 rfl rfl rfl rfl (.appendI rfl sl_24_A ze_2_L rfl by_2_L sl_24_A rfl rfl (by assumption) (by assumption) (by first | omega | (simp <;> omega)) (by omega) (by omega)) ?_
   rintro _ H100 ⟨g100, rfl, st100, ge100, at100⟩
   replace hle := hle.st st100 (fun k hk => ⟨by omega, trivial⟩)
   replace lst4 := lst4.sP st100
   replace rk := rk.sP st100
   replace aD := st100.same _ _ ⟨(pl_LT.ne ne_g3_gT.ne (by omega)), trivial⟩ aD
   replace at_LC := st100.same _ _ ⟨(Ne.symm ap4_3), trivial⟩ at_LC
   replace at88 := st100.s at88
   replace at18012 := st100.same _ _ ⟨(Ne.symm ap4_4), trivial⟩ at18012
   have lt_at100 := GHeap.ltg at100
   replace hin1 := base_hin1.mono hle
   clear hb3 c03 c13 c23 c33 c43 i13 i23 i33 i43 hm3 hi3
   have hb3 : Cat.At _ g3 0 d q := ⟨Mem.of_get aD, hin1⟩
   refine .q rfl (.fieldAddr fo_27_2_B rfl) ?_
   refine .r0 rfl rfl rfl (.storeR rfl sz_24_Ch rfl rfl rfl (by assumption) (by first | exact Nat.le_of_ble_eq_true rfl | (simp; done) | (simp <;> omega))) ?_
   rintro _ H19012 ⟨rfl, st19012, at19012⟩
   have nx_H19012 := st19012.nx
   replace hle := hle.st st19012 (fun k hk => ⟨by omega, trivial⟩)
   replace lst4 := lst4.sA st19012
   replace rk := rk.sA st19012
   replace aD := st19012.s aD ne_g3_g7.ne
   replace at_LC := st19012.same _ _ ⟨ap4_5, trivial⟩ at_LC
   replace at88 := st19012.s at88 ne_g88_g7.ne
   have ne_g100_g7 : NE g100 g7 := .a
   replace at100 := st19012.s at100 ne_g100_g7.ne
   have lt_at19012 := GHeap.ltg at19012
   replace hin1 := base_hin1.mono hle
   clear hb3
   have hb3 : Cat.At _ g3 0 d q := ⟨Mem.of_get aD, hin1⟩
   try simp only [Nat.zero_add, List.set_cons_succ, List.set_cons_zero] at at19012
   refine .done ?_
   refine hK25 _ _ (.seq (fun K26 hK26 => .region ?_))
   refine .R rfl (.litA rfl sl_24_A ze_2_L rfl rfl rfl rfl) ?_
   rintro _ H102 ⟨g102, rfl, le102, ge102, at102⟩
   replace hle := hle.trans le102
   replace lst4 := lst4.le le102
   replace rk := rk.le le102
   replace aD := le102.2 _ _ aD
   replace at_LC := le102.2 _ _ at_LC
   replace at88 := le102.2 _ _ at88
   replace at100 := le102.2 _ _ at100
   replace at19012 := le102.2 _ _ at19012
   have lt_at102 := GHeap.ltg at102
   replace hin1 := base_hin1.mono hle
   clear hb3
   have hb3 : Cat.At _ g3 0 d q := ⟨Mem.of_get aD, hin1⟩
   replace at102 : GHeap.get H102 g102 = some (.row (ints []) 2 true) := at102
   refine .mv rfl (.nil (hK26 _ _ (.seq (fun K27 hK27 => .seq (fun K28 hK28 => .region (.mv rfl (.nil (hK28 _ _ ?_))))))))
   refine .block ?_
   refine .loopR (σ := Nat × Nat × Nat) [(3, some _), (4, some _), (5, some _), (6, some _), (7, some _), (11, some _)] (fun (j, gL12, nL12) => [(13, some (.int .i64 (j : Int))), (12, some (.slice (some ⟨gL12, 0, none⟩) nL12 nL12))]) (fun (j, gL12, nL12) H' => St [g102] H102 H' ∧ H'.get gL12 = some (.row (ints (List.replicate j (-1))) 2 true) ∧ PL gL12 g102 H102.next ∧ nL12 = (List.replicate j (-1)).length ∧ j ≤ c.src.length) (fun (j, gL12, nL12) => c.src.length - j) ((0, _, _)) ⟨rfl, rfl, rfl, rfl, rfl, rfl, trivial⟩ ⟨rfl, rfl, trivial⟩ ?_ ?_
   ·
    refine ⟨.refl _ _, by assumption, ⟨.inl rfl⟩, by rfl, ?_⟩
    omega
   rintro ⟨j, gL12, nL12⟩ HL5 ⟨lst5, at_L12, pl_L12, ln_L12, hI⟩ KL5 hKL5
   refine .forget (fr' := [(13, some (.int .i64 (j : Int))), (12, some (.slice (some ⟨gL12, 0, none⟩) nL12 nL12)), (3, some _), (4, some _), (5, some _), (6, some _), (7, some _), (11, some _)]) ⟨rfl, rfl, rfl, rfl, rfl, rfl, rfl, rfl, trivial⟩ ?_
   have ge_L12 : H.next ≤ gL12 := pl_L12.ge (by omega) (by omega)
   have nx_HL5 := lst5.nx
   replace hle := hle.st lst5 (fun k hk => ⟨by omega, trivial⟩)
   replace lst4 := lst4.sA lst5
   replace rk := rk.sA lst5
   have ne_g3_g102 : NE g3 g102 := .a
   replace aD := lst5.s aD ne_g3_g102.ne
   have ne_gLC_g102 : NE gLC g102 := .a
   replace at_LC := lst5.s at_LC ne_gLC_g102.ne
   have ne_g88_g102 : NE g88 g102 := .a
   replace at88 := lst5.s at88 ne_g88_g102.ne
   have ne_g100_g102 : NE g100 g102 := .a
   replace at100 := lst5.s at100 ne_g100_g102.ne
   have ne_g7_g102 : NE g7 g102 := .a
   replace at19012 := lst5.s at19012 ne_g7_g102.ne
   have lt_at_L12 := GHeap.ltg at_L12
   replace hin1 := base_hin1.mono hle
   clear hb3
   have hb3 : Cat.At _ g3 0 d q := ⟨Mem.of_get aD, hin1⟩
   have hz : (List.replicate j (-1 : Int)).length = j := List.length_replicate
   refine .seq (fun K29 hK29 => .seq (fun K30 hK30 => .region (.mv rfl (.mv rfl (.q rfl (.cmp rfl rfl rfl) (.nil (hK30 _ _ ?_)))))))
   refine .cond rfl (fun h105 => ?_) (fun h105 => ?_)
   ·
    simp only [sps] at h105
    refine .skip ?_
    refine hK29 _ _ (.seq (fun K31 hK31 => ?_))
    refine .block ?_
    refine .region (.mv rfl ?_)
    refine .R rfl (.litA rfl sl_24_A ze_2_L rfl rfl rfl rfl) ?_
    rintro _ H109 ⟨g109, rfl, le109, ge109, at109⟩
    replace hle := hle.trans le109
    replace lst5 := lst5.le le109
    replace aD := le109.2 _ _ aD
    replace at_L12 := le109.2 _ _ at_L12
    have lt_at109 := GHeap.ltg at109
    replace hin1 := base_hin1.mono hle
    clear hb3
    have hb3 : Cat.At _ g3 0 d q := ⟨Mem.of_get aD, hin1⟩
    refine .R rfl (.appendI rfl sl_24_A ze_2_L rfl by_2_L sl_24_A rfl rfl (by assumption) (by assumption) (by first | omega | (simp <;> omega)) (by omega) (by omega)) ?_
    rintro _ H110 ⟨g110, rfl, st110, ge110, at110⟩
    replace hle := hle.st st110 (fun k hk => ⟨by omega, trivial⟩)
    replace lst5 := lst5.sP st110
    have ne_g3_gL12 : NE g3 gL12 := ⟨pl_L12.ne ne_g3_g102.ne (by omega)⟩
    replace aD := st110.s aD ne_g3_gL12.ne
    replace hin1 := base_hin1.mono hle
    clear hb3
    have hb3 : Cat.At _ g3 0 d q := ⟨Mem.of_get aD, hin1⟩
    refine .mv rfl (.nil (hK31 _ _ (.region (.mv rfl ?_))))
    refine .q rfl (.add rfl rfl rfl (by omega) (by omega)) ?_
    refine .mv rfl (.nil ?_)
    refine hKL5 ((j + 1, _, _)) _ _ ?_ ?_ ⟨rfl, rfl, rfl, rfl, rfl, rfl, rfl, rfl, trivial⟩
    ·
     refine ⟨lst5, by (rw [List.replicate_succ']; assumption), by exact ⟨.inr (by omega)⟩, by (rw [List.replicate_succ'] <;> (first | omega | (simp only [List.length_append, List.length_cons, List.length_nil] <;> omega))), ?_⟩
     omega
    (dsimp only; omega)
   try simp only [sps] at h105
   refine .exit ?_
   refine hK27 _ _ (.seq (fun K32 hK32 => .seq (fun K33 hK33 => .region ?_)))
   obtain rfl : j = c.src.length := by omega
   have h9 : nL12 = (sumRow c.src.length ((d.comp.getD i []).take 0)).length := by rw [length_sumRow, ln_L12]; simp
   refine .mv rfl (.nil (hK33 _ _ ?_))
   refine .block ?_
   refine .loopR (σ := Nat × Nat × Nat) [(3, some _), (4, some _), (5, some _), (6, some _), (7, some _), (11, some _)] (fun (j, gL12v6, nL12v6) => [(14, some (.int .i64 (j : Int))), (12, some (.slice (some ⟨gL12v6, 0, none⟩) nL12v6 nL12v6))]) (fun (j, gL12v6, nL12v6) H' => St [gL12] HL5 H' ∧ H'.get gL12v6 = some (.row (ints (sumRow c.src.length ((d.comp.getD i []).take j))) 2 true) ∧ PL gL12v6 gL12 HL5.next ∧ nL12v6 = (sumRow c.src.length ((d.comp.getD i []).take j)).length ∧ j ≤ d.src.length) (fun (j, gL12v6, nL12v6) => d.src.length - j) ((0, _, _)) ⟨rfl, rfl, rfl, rfl, rfl, rfl, trivial⟩ ⟨rfl, rfl, trivial⟩ ?_ ?_
   ·
    refine ⟨.refl _ _, by (rw [List.take_zero, sumRow_nil]; assumption), ⟨.inl rfl⟩, by assumption, ?_⟩
    omega
   rintro ⟨j, gL12v6, nL12v6⟩ HL6 ⟨lst6, at_L12v6, pl_L12v6, ln_L12v6, hI⟩ KL6 hKL6
   refine .forget (fr' := [(14, some (.int .i64 (j : Int))), (12, some (.slice (some ⟨gL12v6, 0, none⟩) nL12v6 nL12v6)), (3, some _), (4, some _), (5, some _), (6, some _), (7, some _), (11, some _)]) ⟨rfl, rfl, rfl, rfl, rfl, rfl, rfl, rfl, trivial⟩ ?_
   have ge_L12v6 : H.next ≤ gL12v6 := pl_L12v6.ge (by omega) (by omega)
   have nx_HL6 := lst6.nx
   replace hle := hle.st lst6 (fun k hk => ⟨by omega, trivial⟩)
   replace lst4 := lst4.sP lst6
   replace rk := rk.sP lst6
   have ne_g3_gL12 : NE g3 gL12 := ⟨pl_L12.ne ne_g3_g102.ne (by omega)⟩
   replace aD := lst6.s aD ne_g3_gL12.ne
   have ne_gLC_gL12 : NE gLC gL12 := ⟨pl_L12.ne ne_gLC_g102.ne (by omega)⟩
   replace at_LC := lst6.s at_LC ne_gLC_gL12.ne
   replace at88 := lst6.same _ _ ⟨(pl_L12.ne ne_g88_g102.ne (by omega)), trivial⟩ at88
   replace at100 := lst6.same _ _ ⟨(pl_L12.ne ne_g100_g102.ne (by omega)), trivial⟩ at100
   have ne_g7_gL12 : NE g7 gL12 := ⟨pl_L12.ne ne_g7_g102.ne (by omega)⟩
   replace at19012 := lst6.s at19012 ne_g7_gL12.ne
   replace hin1 := base_hin1.mono hle
   have hb3 : Cat.At _ g3 0 d q := ⟨Mem.of_get aD, hin1⟩
   obtain ⟨-, c13, -, -, c43, -, -, -, i43⟩ := hb3.get
   have hz : (sumRow c.src.length ((d.comp.getD i []).take j)).length = c.src.length + j := by rw [length_sumRow, List.length_take]; omega
   refine .seq (fun K34 hK34 => .seq (fun K35 hK35 => .region (.mv rfl (.q rfl (.fieldAddr fo_27_1_B rfl) ?_))))
   refine .q rfl (.load on_24_B rfl (by first | assumption | exact Mem.of_get aD 1 _ rfl)) ?_
   refine .q rfl (.len sl_24_A rfl) (.q rfl (.cmp rfl rfl rfl) (.nil (hK35 _ _ ?_)))
   refine .cond rfl (fun h115 => ?_) (fun h115 => ?_)
   ·
    simp only [sps] at h115
    have q4 := b10 i (by omega) j (by omega)
    have hz2 : (sumRow c.src.length ((d.comp.getD i []).take (j + 1))).length = c.src.length + (j + 1) := by rw [length_sumRow, List.length_take]; omega
    have u1 := i43.2 i (by omega)
    refine .skip ?_
    refine hK34 _ _ (.seq (fun K36 hK36 => ?_))
    refine .block ?_
    refine .seq (fun K37 hK37 => .region (.q rfl (.fieldAddr fo_27_4_B rfl) ?_))
    refine .q rfl (.load on_25_B rfl (by first | assumption | exact Mem.of_get aD 4 _ rfl)) ?_
    refine .mv rfl ?_
    refine .q rfl (.idxN sl_25_B (Intss.sl (by assumption)) rfl rfl (by omega)) ?_
    refine .q rfl (.loadR on_24_B (by assumption) rfl (by omega)) ?_
    refine .mv rfl ?_
    refine .q rfl (.idxN sl_24_A (by assumption) rfl rfl (by omega)) ?_
    refine .q rfl (.loadI on_2_A (by assumption) rfl (by omega)) ?_
    refine .mv rfl (.nil (hK37 _ _ (.seq (fun K38 hK38 => .seq (fun K39 hK39 => .region (.mv rfl (.q rfl (.cmp rfl rfl rfl) (.nil (hK39 _ _ ?_)))))))))
    refine .cond rfl (fun h127 => ?_) (fun h127 => ?_)
    ·
     simp only [sps] at h127
     refine .region (.mv rfl (.mv rfl ?_))
     refine .q rfl (.add rfl rfl rfl (by omega) (by omega)) ?_
     refine .mv rfl (.nil (hK38 _ _ (.region (.mv rfl (.mv rfl ?_)))))
     refine .R rfl (.litA rfl sl_24_A ze_2_L rfl rfl rfl rfl) ?_
     rintro _ H133 ⟨g133, rfl, le133, ge133, at133⟩
     replace hle := hle.trans le133
     replace lst6 := lst6.le le133
     replace aD := le133.2 _ _ aD
     replace at_L12v6 := le133.2 _ _ at_L12v6
     have lt_at133 := GHeap.ltg at133
     replace hin1 := base_hin1.mono hle
     clear hb3 c13 c43 i43
     have hb3 : Cat.At _ g3 0 d q := ⟨Mem.of_get aD, hin1⟩
     clear u1
     refine .R rfl (.appendI rfl sl_24_A ze_2_L rfl by_2_L sl_24_A rfl rfl (by assumption) (by assumption) (by first | omega | (simp <;> omega)) (by omega) (by omega)) ?_
     rintro _ H134 ⟨g134, rfl, st134, ge134, at134⟩
     replace hle := hle.st st134 (fun k hk => ⟨by omega, trivial⟩)
     replace lst6 := lst6.sQ st134
     have ne_g3_gL12v6 : NE g3 gL12v6 := ⟨pl_L12v6.ne ne_g3_gL12.ne (by omega)⟩
     replace aD := st134.s aD ne_g3_gL12v6.ne
     replace hin1 := base_hin1.mono hle
     clear hb3
     have hb3 : Cat.At _ g3 0 d q := ⟨Mem.of_get aD, hin1⟩
     refine .mv rfl (.nil (hK36 _ _ (.region (.mv rfl ?_))))
     refine .q rfl (.add rfl rfl rfl (by omega) (by omega)) ?_
     refine .mv rfl (.nil ?_)
     refine hKL6 ((j + 1, _, _)) _ _ ?_ ?_ ⟨rfl, rfl, rfl, rfl, rfl, rfl, rfl, rfl, trivial⟩
     ·
      refine ⟨lst6, by (rw [sumRow_take (by omega), if_pos (by omega)]; assumption), by exact ⟨.inr (by omega)⟩, by omega, ?_⟩
      omega
     (dsimp only; omega)
    simp only [sps] at h127
    refine .skip ?_
    refine hK38 _ _ (.region (.mv rfl (.mv rfl ?_)))
    refine .R rfl (.litA rfl sl_24_A ze_2_L rfl rfl rfl rfl) ?_
    rintro _ H133x2 ⟨g133x2, rfl, le133x2, ge133x2, at133x2⟩
    replace hle := hle.trans le133x2
    replace lst6 := lst6.le le133x2
    replace aD := le133x2.2 _ _ aD
    replace at_L12v6 := le133x2.2 _ _ at_L12v6
    have lt_at133x2 := GHeap.ltg at133x2
    replace hin1 := base_hin1.mono hle
    have hb3 : Cat.At _ g3 0 d q := ⟨Mem.of_get aD, hin1⟩
    refine .R rfl (.appendI rfl sl_24_A ze_2_L rfl by_2_L sl_24_A rfl rfl (by assumption) (by assumption) (by first | omega | (simp <;> omega)) (by omega) (by omega)) ?_
    rintro _ H134x2 ⟨g134x2, rfl, st134x2, ge134x2, at134x2⟩
    replace hle := hle.st st134x2 (fun k hk => ⟨by omega, trivial⟩)
    replace lst6 := lst6.sQ st134x2
    have ne_g3_gL12v6 : NE g3 gL12v6 := ⟨pl_L12v6.ne ne_g3_gL12.ne (by omega)⟩
    replace aD := st134x2.s aD ne_g3_gL12v6.ne
    replace hin1 := base_hin1.mono hle
    clear hb3
    have hb3 : Cat.At _ g3 0 d q := ⟨Mem.of_get aD, hin1⟩
    refine .mv rfl (.nil (hK36 _ _ (.region (.mv rfl ?_))))
    refine .q rfl (.add rfl rfl rfl (by omega) (by omega)) ?_
    refine .mv rfl (.nil ?_)
    refine hKL6 ((j + 1, _, _)) _ _ ?_ ?_ ⟨rfl, rfl, rfl, rfl, rfl, rfl, rfl, rfl, trivial⟩
    ·
     refine ⟨lst6, by (rw [sumRow_take (by omega), if_neg (by omega)]; assumption), by exact ⟨.inr (by omega)⟩, by omega, ?_⟩
     omega
    (dsimp only; omega)
   try simp only [sps] at h115
   refine .exit ?_
   refine hK32 _ _ (.region ?_)
   obtain rfl : j = d.src.length := by omega
   rw [show (d.comp.getD i []).take d.src.length = d.comp.getD i [] from List.take_of_length_le (by omega)] at at_L12v6 ln_L12v6
   obtain rfl := ln_L12v6
   refine .q rfl (.fieldAddr fo_27_4_B rfl) ?_
   refine .q rfl (.load on_25_B rfl (by first | assumption | exact Mem.of_get at19012 4 _ rfl)) ?_
   refine .mv rfl ?_
   refine .R rfl (.litA rfl sl_25_B ze_24_Hj rfl rfl rfl rfl) ?_
   rintro _ H138 ⟨g138, rfl, le138, ge138, at138⟩
   replace hle := hle.trans le138
   replace lst4 := lst4.le le138
   replace rk := rk.le le138
   replace aD := le138.2 _ _ aD
   replace at_LC := le138.2 _ _ at_LC
   replace at88 := le138.2 _ _ at88
   replace at100 := le138.2 _ _ at100
   replace at19012 := le138.2 _ _ at19012
   replace at_L12v6 := le138.2 _ _ at_L12v6
   have lt_at138 := GHeap.ltg at138
   replace hin1 := base_hin1.mono hle
   have hb3 : Cat.At _ g3 0 d q := ⟨Mem.of_get aD, hin1⟩
   refine .R rfl (.appendV rfl sl_25_B ze_24_Hj rfl by_24_Hj sl_25_B rfl rfl (by assumption) (by assumption) (by first | omega | (simp <;> omega)) rfl rfl (by omega) (by omega)) ?_
   rintro _ H139 ⟨g139, rfl, st139, ge139, at139⟩
   replace hle := hle.st st139 (fun k hk => ⟨by omega, trivial⟩)
   replace lst4 := lst4.sP st139
   replace rk := rk.sP st139
   replace aD := st139.same _ _ ⟨(pl_LC.ne ne_g3_gC.ne (by omega)), trivial⟩ aD
   replace at88 := st139.s at88
   replace at100 := st139.s at100
   replace at19012 := st139.same _ _ ⟨(Ne.symm ap4_5), trivial⟩ at19012
   replace at_L12v6 := st139.same _ _ ⟨(Ne.symm (pl_L12v6.ne ne_gLC_gL12.ne (by omega))), trivial⟩ at_L12v6
   replace hin1 := base_hin1.mono hle
   clear hb3
   have hb3 : Cat.At _ g3 0 d q := ⟨Mem.of_get aD, hin1⟩
   refine .q rfl (.fieldAddr fo_27_4_B rfl) ?_
   refine .r0 rfl rfl (.storeR rfl sz_25_Ch rfl rfl rfl (by assumption) (by first | exact Nat.le_of_ble_eq_true rfl | (simp; done) | (simp <;> omega))) ?_
   rintro _ H32006 ⟨rfl, st32006, at32006⟩
   replace hle := hle.st st32006 (fun k hk => ⟨by omega, trivial⟩)
   replace lst4 := lst4.sA st32006
   replace rk := rk.sA st32006
   replace aD := st32006.s aD ne_g3_g7.ne
   replace at88 := st32006.s at88 ne_g88_g7.ne
   replace at100 := st32006.s at100 ne_g100_g7.ne
   replace at_L12v6 := st32006.same _ _ ⟨(Ne.symm (pl_L12v6.ne ne_g7_gL12.ne (by omega))), trivial⟩ at_L12v6
   replace at139 := st32006.s at139
   replace hin1 := base_hin1.mono hle
   clear hb3
   have hb3 : Cat.At _ g3 0 d q := ⟨Mem.of_get aD, hin1⟩
   try simp only [Nat.zero_add, List.set_cons_succ, List.set_cons_zero] at at32006
   refine .nil (hK23 _ _ (.region (.mv rfl ?_)))
   refine .q rfl (.add rfl rfl rfl (by omega) (by omega)) ?_
   refine .mv rfl (.nil ?_)
   refine hKL4 ((i + 1, upd r3 (c.sumL d ++ (d.comp.take i).map (sumRow c.src.length)).length (some ⟨gL12v6, 0, none⟩), g88, g100, g139)) _ _ ?_ ?_ ⟨rfl, rfl, rfl, rfl, rfl, rfl, trivial⟩
   ·
    refine ⟨lst4, by (rw [take_map_snoc (d := 0) (by omega), ← List.append_assoc]; assumption), by exact ⟨.inr (by omega)⟩, by (rw [take_map_snoc (d := 0) (by omega), ← List.append_assoc]; assumption), by exact ⟨.inr (by omega)⟩, by (rw [take_map_snoc (d := []) (by omega), ← List.append_assoc, slsL_snoc]; assumption), by exact ⟨.inr (by omega)⟩, by assumption, by omega, by omega, by omega, by omega, by omega, by omega, ?_⟩
    have hg9 : g102 ≤ gL12v6 := pl_L12v6.ge (pl_L12.ge (Nat.le_refl _) (by omega)) (by omega)
    have hR' := hR.st rk (.cons hF (.cons hT (.cons (hR.neT hatC rfl) (.cons (hR.neT hat7 rfl) (.nil _ _)))))
    have hn1 := hR.ne (g := gL12v6) (by omega)
    have hn2 := hR.ne (g := g88) (by omega)
    have hn3 := hR.ne (g := g100) (by omega)
    have hrow := at_L12v6
    rw [take_map_snoc (d := []) (by omega), ← List.append_assoc]
    exact ⟨by omega, hR'.snoc2 hrow hn1 (by omega), ne_snoc hn2 (by omega), ne_snoc hn3 (by omega), ne_snoc hId (by omega)⟩
   (dsimp only; omega)
  try simp only [sps] at h75
  refine .exit ?_
  refine hK19 _ _ (.seq (fun K40 hK40 => .region ?_))
  obtain rfl : i = d.src.length := by omega
  rw [List.take_length] at at_LF
  rw [show d.tgt.take d.src.length = d.tgt from List.take_of_length_le (by omega)] at at_LT
  rw [show d.comp.take d.src.length = d.comp from List.take_of_length_le (by omega)] at at_LC hR hF hT hId
  refine .q rfl (.loadM ag_27_D rfl ⟨rfl, Mem.of_get at_Lg7⟩) ?_
  have hat4 := aR
  refine .r0 rfl rfl (.fillA rfl sz_27_D rfl rfl rfl rfl) ?_
  rintro _ H33001 ⟨rfl, st33001, at33001⟩
  replace hle := hle.st st33001 (fun k hk => ⟨by omega, trivial⟩)
  replace aD := st33001.s aD
  have ne_gLI_g4 : NE gLI g4 := .a
  replace aI := st33001.s aI ne_gLI_g4.ne
  have ne_g4_gLF : NE g4 gLF := ⟨pl_LF.ne ne_g4_gF.ne (by omega)⟩
  replace at_LF := st33001.s at_LF (Ne.symm ne_g4_gLF.ne)
  replace at_LT := st33001.same _ _ ⟨(Ne.symm (pl_LT.ne ne_g4_gT.ne (by omega))), trivial⟩ at_LT
  replace at_LC := st33001.same _ _ ⟨(Ne.symm (pl_LC.ne ne_g4_gC.ne (by omega))), trivial⟩ at_LC
  replace hin1 := base_hin1.mono hle
  have hb3 : Cat.At _ g3 0 d q := ⟨Mem.of_get aD, hin1⟩
  refine .nil (hK40 _ _ ?_)
  refine .ret ?_
  refine hret _ _ ?_
  refine ⟨_, _, _, _, rfl, ag_27_D, (by rfl), (Mem.of_get at33001), ?_⟩
  exact ⟨hle, gLF, gLT, gLI, gLC, r3, by simp [Cat.cells, Cat.sum, ownP, Cat.sumL, b3, b8, show d.idn.length = d.obj.toNat by omega], ⟨at_LF, at_LT, aI, at_LC, ge_LF, ge_LT, ge_LI, ge_LC, by assumption, Ne.symm nFI, Ne.symm nTI, hR.st st33001 (.cons (hR.neT hat4 rfl) (.nil _ _)), hF, hT, hId⟩⟩
end Go.Proofs.Ytolfggcanbpknaa
namespace Go.Proofs.Ytolfggcanbpknaa
open Go Go.GL Go.RowKit Go.Proofs
theorem us_44_Da : (Try.prog.underlying 44).isSome = true := by kernel_rfl
theorem it_2_Da : intT Try.prog 2 = some .i64 := by kernel_rfl
theorem fo_90_2_Da : fieldOff Try.prog 90 2 = some 2 := by kernel_rfl
theorem on_44_Da : oneT Try.prog 44 = true := by kernel_rfl
theorem sz_44_Da : (Try.prog.info? 44).map (·.size) = some 1 := by kernel_rfl
theorem fo_90_1_Da : fieldOff Try.prog 90 1 = some 1 := by kernel_rfl
theorem on_3_Da : oneT Try.prog 3 = true := by kernel_rfl
theorem fo_90_0_Da : fieldOff Try.prog 90 0 = some 0 := by kernel_rfl
theorem on_22_Da : oneT Try.prog 22 = true := by kernel_rfl
theorem sl_22_Da : sliceT Try.prog 22 = some (5, 1) := by kernel_rfl
theorem on_5_Da : oneT Try.prog 5 = true := by kernel_rfl
theorem us_5_Da : (Try.prog.underlying 5).isSome = true := by kernel_rfl
theorem sz_3_Da : (Try.prog.info? 3).map (·.size) = some 1 := by kernel_rfl
theorem us_3_Da : (Try.prog.underlying 3).isSome = true := by kernel_rfl
theorem it_44_Da : intT Try.prog 44 = some .u64 := by kernel_rfl
theorem bt_90_Da : buildT Try.prog 90 = some ([.slice none 0 0, .int .i64 0, .int .u64 0], [(0, 1), (1, 1), (2, 1)]) := by kernel_rfl
theorem sz_90_Da : (Try.prog.info? 90).map (·.size) = some 3 := by kernel_rfl
theorem l01Next_c {gS : Nat} {n : Int} {H : GHeap} (hs : DSrc 90 H gS := by assumption) :
    GCalls Try.prog 48 [.pointer (some ⟨gS, 0, none⟩), .int .i64 n] H (Drawn 90 gS n H) := by
  obtain ⟨a, xs, p, hh, hg, ⟨p0, p1⟩, hx, hb, hlt⟩ := hs
  have hx0 := andU_le ((IntKind.wrap .u64 (IntKind.wrap .u64 (hh * 6364136223846793005) + 1442695040888963407)).fdiv (2 ^ 33))
  have hlo : ∀ b o t, a = some ⟨b, o, t⟩ → out [gS] b := fun b o t ha => ⟨by have := hlt b o t ha; omega, trivial⟩
  refine GCalls.body (N := 58) (rs := [.tmp 4]) Try.func48 rfl rfl rfl rfl (fun Qx hret hend => ?_)
  refine .fg [0, 1] rfl ?_
  have hst := St.refl [gS] H
  have hbs := hb.st hst hlo
  refine .seq (fun K1 hK1 => .region (.mv rfl (.nil (hK1 _ _ (.seq (fun K2 hK2 => .seq (fun K3 hK3 => .region (.mv rfl (.q rfl (.cmp rfl rfl rfl) (.nil (hK3 _ _ ?_)))))))))))
  refine .cond rfl (fun h7 => ?_) (fun h7 => ?_)
  ·
   try simp only [sps] at h7
   refine .seq (fun K4 hK4 => .region (.mv rfl (.nil (hK4 _ _ ?_))))
   refine .ret ?_
   refine hret _ _ ?_
   refine ⟨_, rfl, ?_⟩
   exact ⟨0, rfl, by omega, fun h => by omega, fun _ => rfl, hst, a, xs, p, hh, hg, ⟨p0, p1⟩, hx, hbs, hlt⟩
  try simp only [sps] at h7
  refine .skip ?_
  refine hK2 _ _ (.seq (fun K5 hK5 => .region (.mv rfl (.mv rfl (.q rfl (.nilCheck rfl) (.q rfl (.fieldAddr fo_90_2_Da rfl) ?_))))))
  refine .q rfl (.load on_44_Da rfl (by first | assumption | exact Mem.of_get hg 2 _ rfl)) ?_
  refine .q rfl (.arith rfl rfl rfl) (.q rfl (.arith rfl rfl rfl) (.q rfl (.nilCheck rfl) (.q rfl (.fieldAddr fo_90_2_Da rfl) ?_)))
  refine .r0 rfl rfl (.storeR rfl sz_44_Da rfl rfl rfl (by assumption) (by first | exact Nat.le_of_ble_eq_true rfl | (simp; done) | (simp <;> omega))) ?_
  rintro _ H3009 ⟨rfl, st3009, at3009⟩
  replace hst := hst.sA st3009
  clear hbs
  have hbs := hb.st hst hlo
  have c0 := hbs.1
  have c1 := hbs.2 p.toNat
  try simp only [Nat.zero_add, List.set_cons_succ, List.set_cons_zero] at at3009
  refine .nil (hK5 _ _ (.seq (fun K6 hK6 => .region (.mv rfl (.q rfl (.nilCheck rfl) (.q rfl (.fieldAddr fo_90_2_Da rfl) ?_))))))
  refine .q rfl (.load on_44_Da rfl (by first | assumption | exact Mem.of_get at3009 2 _ rfl)) ?_
  refine .q rfl (.shrU rfl rfl) (.q rfl (.andU rfl rfl) ?_)
  refine .q rfl (.conv64 us_44_Da it_2_Da rfl (Int.le_trans (by decide) (andU_le _).1) (Int.le_trans (andU_le _).2 (by decide))) ?_
  refine .mv rfl (.nil (hK6 _ _ (.seq (fun K7 hK7 => .seq (fun K8 hK8 => ?_)))))
  refine .regionD mo_B (.q 0 (.q 1 (.q 2 (.q 3 (.q 4 (.q 5 (.q 6 (.q 7 (.q 8 (.q 9 (.done))))))))))) (by kernel_rfl) ?_
  refine .mv rfl rfl (.q rfl (.nilCheck rfl) (.q rfl (.fieldAddr fo_90_1_Da rfl) ?_))
  refine .q rfl (.load on_3_Da rfl (by first | assumption | exact Mem.of_get at3009 1 _ rfl)) ?_
  refine .mv rfl rfl (.q rfl (.nilCheck rfl) (.q rfl (.fieldAddr fo_90_0_Da rfl) ?_))
  refine .q rfl (.load on_22_Da rfl (by first | assumption | exact Mem.of_get at3009 0 _ rfl)) ?_
  refine .q rfl (.len sl_22_Da rfl) (.q rfl (.cmp rfl rfl rfl) ?_)
  refine .done ?_
  refine hK8 _ _ ?_
  refine .cond rfl (fun h33 => ?_) (fun h33 => ?_)
  ·
   try simp only [sps] at h33
   refine .seq (fun K9 hK9 => ?_)
   refine .regionD mo_B (.q 0 (.q 1 (.q 2 (.q 3 (.q 4 (.q 5 (.q 6 (.q 7 (.q 8 (.q 9 (.q 10 (.q 11 (.q 12 (.c 13 0 (.done))))))))))))))) (by kernel_rfl) ?_
   refine .mv rfl rfl (.mv rfl rfl (.q rfl (.nilCheck rfl) (.q rfl (.fieldAddr fo_90_0_Da rfl) ?_)))
   refine .q rfl (.load on_22_Da rfl (by first | assumption | exact Mem.of_get at3009 0 _ rfl)) ?_
   refine .mv rfl rfl (.q rfl (.nilCheck rfl) (.q rfl (.fieldAddr fo_90_1_Da rfl) ?_))
   refine .q rfl (.load on_3_Da rfl (by first | assumption | exact Mem.of_get at3009 1 _ rfl)) ?_
   refine .q rfl (.idx1 sl_22_Da (by assumption) rfl rfl (by omega) (by omega)) ?_
   refine .q rfl (.loadE on_5_Da (by assumption) rfl (by omega)) ?_
   refine .q rfl (.conv64 us_5_Da it_2_Da rfl (by omega) (by omega)) ?_
   refine .q rfl (.add rfl rfl rfl (by omega) (by omega)) ?_
   refine .d0 rfl rfl rfl rfl (.quiet (.assign rfl) CIs.mk) ?_
   refine .done ?_
   refine hK9 _ _ (.region (.mv rfl (.mv rfl (.q rfl (.nilCheck rfl) (.q rfl (.fieldAddr fo_90_1_Da rfl) ?_)))))
   refine .q rfl (.load on_3_Da rfl (by first | assumption | exact Mem.of_get at3009 1 _ rfl)) ?_
   refine .q rfl (.add rfl rfl rfl (by omega) (by omega)) ?_
   refine .q rfl (.nilCheck rfl) (.q rfl (.fieldAddr fo_90_1_Da rfl) ?_)
   refine .r0 rfl rfl (.storeR rfl sz_3_Da rfl rfl rfl (by assumption) (by first | exact Nat.le_of_ble_eq_true rfl | (simp; done) | (simp <;> omega))) ?_
   rintro _ H7008 ⟨rfl, st7008, at7008⟩
   replace hst := hst.sA st7008
   clear hbs c0 c1
   have hbs := hb.st hst hlo
   have c1 := hbs.2 p.toNat
   try simp only [Nat.zero_add, List.set_cons_succ, List.set_cons_zero] at at7008
   refine .nil (hK7 _ _ (.seq (fun K10 hK10 => .region (.mv rfl (.mv rfl ?_)))))
   refine .q rfl (.rem rfl rfl (by omega)) ?_
   refine .mv rfl (.nil (hK10 _ _ ?_))
   refine .ret ?_
   refine hret _ _ ?_
   refine ⟨_, rfl, ?_⟩
   have hm := tmod_bd (x := Go.GL.andU ((IntKind.wrap .u64 (IntKind.wrap .u64 (hh * 6364136223846793005) + 1442695040888963407)).fdiv (2 ^ 33)) 16777215 + xs.getD p.toNat 0) (n := n) (by omega) (by omega)
   exact ⟨_, rfl, hm.1, fun _ => hm.2, fun h => by omega, hst, a, xs, p + 1, _, at7008, ⟨by omega, by omega⟩, hx, hbs, hlt⟩
  try simp only [sps] at h33
  refine .skip ?_
  refine hK7 _ _ (.seq (fun K11 hK11 => .region (.mv rfl (.mv rfl ?_))))
  refine .q rfl (.rem rfl rfl (by omega)) ?_
  refine .mv rfl (.nil (hK11 _ _ ?_))
  refine .ret ?_
  refine hret _ _ ?_
  refine ⟨_, rfl, ?_⟩
  have hm := tmod_bd (x := Go.GL.andU ((IntKind.wrap .u64 (IntKind.wrap .u64 (hh * 6364136223846793005) + 1442695040888963407)).fdiv (2 ^ 33)) 16777215) (n := n) (by omega) (by omega)
  exact ⟨_, rfl, hm.1, fun _ => hm.2, fun h => by omega, hst, a, xs, p, _, at3009, ⟨p0, p1⟩, hx, hbs, hlt⟩
theorem l01From_c {a : Option Addr} {xs : List Int} {H : GHeap} (hb : Bytes H a xs := by assumption) (hlt : ∀ b o t, a = some ⟨b, o, t⟩ → b < H.next) (hx : xs.length ≤ 4096 := by omega) :
    GCalls Try.prog 47 [.slice a xs.length xs.length] H (fun v H' => H.Le H' ∧ ∃ g, v = .pointer (some ⟨g, 0, none⟩) ∧ H.next ≤ g ∧ DSrc 90 H' g) := by
  refine GCalls.body (N := 38) (rs := [.tmp 2]) Try.func47 rfl rfl rfl rfl (fun Qx hret hend => ?_)
  refine .fg [0] rfl ?_
  have hle := GHeap.Le.refl H
  have base_hb := hb
  refine .seq (fun K1 hK1 => .region (.mv rfl (.nil (hK1 _ _ (.seq (fun K2 hK2 => .region (.mv rfl (.mv rfl (.q rfl (.len sl_22_Da rfl) (.q rfl (.conv us_3_Da it_44_Da rfl) (.q rfl (.arith rfl rfl rfl) (.q rfl (.build bt_90_Da rfl rfl rfl) ?_))))))))))))
  refine .R rfl (.boxR rfl sz_90_Da rfl) ?_
  rintro _ H11 ⟨g11, rfl, le11, ge11, at11⟩
  replace hle := hle.trans le11
  refine .mv rfl (.nil (hK2 _ _ (.seq (fun K3 hK3 => .seq (fun K4 hK4 => .region (.mv rfl (.nil (hK4 _ _ ?_))))))))
  refine .block ?_
  refine .loopR (σ := Nat × Int) [(0, some _), (3, some _)] (fun (k, hh) => [(4, some (.int .i64 (k : Int)))]) (fun (k, hh) H' => St [g11] H11 H' ∧ H'.get g11 = some (.row ([.slice a xs.length xs.length, .int .i64 0, .int .u64 hh]) 90 true) ∧ k ≤ xs.length) (fun (k, hh) => xs.length - k) ((0, IntKind.wrap .u64 (7019 + IntKind.wrap .u64 (xs.length : Int)))) ⟨rfl, rfl, trivial⟩ ⟨rfl, trivial⟩ ?_ ?_
  ·
   refine ⟨.refl _ _, by first | assumption | exact at11 | simpa using at11, ?_⟩
   omega
  rintro ⟨k, hh⟩ HL1 ⟨lst1, at_Lg11, hI⟩ KL1 hKL1
  refine .forget (fr' := [(4, some (.int .i64 (k : Int))), (0, some _), (3, some _)]) ⟨rfl, rfl, rfl, trivial⟩ ?_
  replace hle := hle.st lst1 (fun k hk => ⟨by omega, trivial⟩)
  replace hb := base_hb.mono hle
  refine .seq (fun K5 hK5 => .seq (fun K6 hK6 => .region (.mv rfl (.mv rfl (.q rfl (.len sl_22_Da rfl) (.q rfl (.cmp rfl rfl rfl) (.mv rfl ?_)))))))
  refine .split (fun h16 => ?_) (fun h16 => ?_)
  ·
   try simp only [sps] at h16
   refine .qg rfl (.move rfl) (.qg rfl (.cmp rfl rfl rfl) (.q rfl (.pickT rfl rfl) (.nil (hK6 _ _ ?_))))
   refine .cond rfl (fun h19 => ?_) (fun h19 => ?_)
   ·
    simp only [sps] at h19
    refine .skip ?_
    refine hK5 _ _ (.seq (fun K7 hK7 => ?_))
    refine .block ?_
    refine .regionD mo_B (.q 0 (.q 1 (.q 2 (.q 3 (.q 4 (.q 5 (.q 6 (.q 7 (.q 8 (.q 9 (.q 10 (.q 11 (.q 12 (.q 13 (.q 14 (.c 15 0 (.done))))))))))))))))) (by kernel_rfl) ?_
    have c0 := hb.1
    refine .mv rfl rfl (.mv rfl rfl (.q rfl (.nilCheck rfl) (.q rfl (.fieldAddr fo_90_2_Da rfl) ?_)))
    refine .q rfl (.load on_44_Da rfl (by first | assumption | exact Mem.of_get at_Lg11 2 _ rfl)) ?_
    refine .q rfl (.arith rfl rfl rfl) (.mv rfl rfl (.mv rfl rfl ?_))
    refine .q rfl (.idxN sl_22_Da (by assumption) rfl rfl (by omega)) ?_
    refine .q rfl (.loadE on_5_Da (by assumption) rfl (by omega)) ?_
    refine .q rfl (.conv us_5_Da it_44_Da rfl) (.q rfl (.arith rfl rfl rfl) (.q rfl (.arith rfl rfl rfl) (.q rfl (.nilCheck rfl) (.q rfl (.fieldAddr fo_90_2_Da rfl) ?_))))
    refine .r0 rfl rfl rfl (.storeR rfl sz_44_Da rfl rfl rfl (by assumption) (by first | exact Nat.le_of_ble_eq_true rfl | (simp; done) | (simp <;> omega))) ?_
    rintro _ H5015 ⟨rfl, st5015, at5015⟩
    replace lst1 := lst1.sA st5015
    try simp only [Nat.zero_add, List.set_cons_succ, List.set_cons_zero] at at5015
    refine .done ?_
    refine hK7 _ _ (.region (.mv rfl ?_))
    refine .q rfl (.add rfl rfl rfl (by omega) (by omega)) ?_
    refine .mv rfl (.nil ?_)
    refine hKL1 ((k + 1, IntKind.wrap .u64 (IntKind.wrap .u64 (IntKind.wrap .u64 (hh * 1099511628211) + IntKind.wrap .u64 (xs.getD k 0)) + 7))) _ _ ?_ ?_ ⟨rfl, rfl, rfl, trivial⟩
    ·
     refine ⟨lst1, by assumption, ?_⟩
     omega
    (dsimp only; omega)
   simp only [sps] at h19
   refine .exit ?_
   refine hK3 _ _ (.seq (fun K8 hK8 => .region (.mv rfl (.mv rfl (.nil (hK8 _ _ ?_))))))
   refine .ret ?_
   refine hret _ _ ?_
   refine ⟨_, rfl, ?_⟩
   exact ⟨hle, g11, rfl, by omega, a, xs, 0, hh, at_Lg11, ⟨by omega, by omega⟩, hx, hb, fun b o t ha => by have := hlt b o t ha; omega⟩
  try simp only [sps] at h16
  refine .z rfl (.z rfl (.q rfl (.pickF rfl rfl) (.nil (hK6 _ _ ?_))))
  refine .condF rfl ?_
  refine .exit ?_
  refine hK3 _ _ (.seq (fun K9 hK9 => .region (.mv rfl (.mv rfl (.nil (hK9 _ _ ?_))))))
  refine .ret ?_
  refine hret _ _ ?_
  refine ⟨_, rfl, ?_⟩
  exact ⟨hle, g11, rfl, by omega, a, xs, 0, hh, at_Lg11, ⟨by omega, by omega⟩, hx, hb, fun b o t ha => by have := hlt b o t ha; omega⟩
theorem l01Pick_c {gS : Nat} {a : Option Addr} {xs : List Int} {H : GHeap} (hs : DSrc 90 H gS := by assumption) (hl : ∀ H', St [gS] H H' → Ints H' a xs) (h0 : 0 < xs.length) :
    GCalls Try.prog 85 [.pointer (some ⟨gS, 0, none⟩), .slice a xs.length xs.length] H (fun v H' => ∃ i, i < xs.length ∧ v = .int .i64 (xs.getD i 0) ∧ St [gS] H H' ∧ DSrc 90 H' gS) := by
  refine GCalls.body (N := 12) (rs := [.tmp 4]) Try.func85 rfl rfl rfl rfl (fun Qx hret hend => ?_)
  refine .fg [0, 1] rfl ?_
  have hst := St.refl [gS] H
  refine .seq (fun K1 hK1 => .region (.mv rfl (.nil (hK1 _ _ (.seq (fun K2 hK2 => .region (.mv rfl (.mv rfl (.mv rfl (.q rfl (.len sl_24_A rfl) ?_))))))))))
  refine .call rfl rfl rfl rfl @Try.call48 rfl (l01Next_c) ?_
  rintro _ H9 ⟨k9, rfl, ka9, kb9, kc9, st9, hs⟩
  replace hst := hst.sA st9
  have i0 := hl _ hst
  refine .q rfl (.idx1 sl_24_A (by assumption) rfl rfl (by omega) (by omega)) ?_
  refine .q rfl (.loadI on_2_A (by assumption) rfl (by omega)) ?_
  refine .mv rfl (.nil (hK2 _ _ ?_))
  refine .ret ?_
  refine hret _ _ ?_
  refine ⟨_, rfl, ?_⟩
  exact ⟨_, by omega, rfl, hst, hs⟩
end Go.Proofs.Ytolfggcanbpknaa
namespace Go.Proofs.Ytolfggcanbpknaa
open Go Go.GL Go.RowKit Go.Proofs
set_option maxHeartbeats 8000000 in
theorem l03Op_c {c : Cat} {p : CatP} {N : Nat} {H : GHeap} (hin : c.In H p := by assumption) (hr : c.Rect N) (hN : N ≤ 100000) :
    GCalls Try.prog 65 [.agg (c.cells p).toArray] H (NewCatO 2 24 H c.op) := by
  obtain ⟨b1, b2, b3, -, -, b6, -, b8, b9, -⟩ := id hr
  refine GCalls.body (N := 53) (rs := [.cell 2 27]) Try.func65 rfl rfl rfl rfl (fun Qx hret hend => ?_)
  refine .fg [0] rfl ?_
  have hle := GHeap.Le.refl H
  have base_hin := hin
  refine .seq (fun K1 hK1 => .region ?_)
  refine .R rfl (.boxR rfl sz_27_D rfl) ?_
  rintro _ H1 ⟨g1, rfl, le1, ge1, at1⟩
  replace hle := hle.trans le1
  have lt_at1 := GHeap.ltg at1
  replace hin := base_hin.mono hle
  have hb1 : Cat.At _ g1 0 c p := ⟨Mem.of_get at1, hin⟩
  refine .R rfl (.allocR rfl ze_27_Hj rfl) ?_
  rintro _ H2 ⟨g2, rfl, le2, ge2, at2⟩
  replace hle := hle.trans le2
  replace at1 := le2.2 _ _ at1
  have lt_at2 := GHeap.ltg at2
  replace hin := base_hin.mono hle
  clear hb1
  have hb1 : Cat.At _ g1 0 c p := ⟨Mem.of_get at1, hin⟩
  obtain ⟨c01, c11, c21, c31, -, -, i21, -, -⟩ := hb1.get
  refine .nil (hK1 _ _ (.seq (fun K2 hK2 => ?_)))
  refine .regionD mo_B (.q 0 (.q 1 (.q 2 (.q 3 (.q 5 (.q 6 (.q 8 (.q 9 (.or (.c 4 1 (.or (.c 7 1 (.or (.c 10 1 (.or (.c 11 1 (.q 12 (.c 13 1 (.c 14 1 (.done))))) (.c 13 1 (.c 11 1 (.q 12 (.c 14 1 (.done))))))) (.or (.c 11 1 (.or (.c 10 1 (.q 12 (.c 13 1 (.c 14 1 (.done))))) (.c 13 1 (.c 10 1 (.q 12 (.c 14 1 (.done))))))) (.c 13 1 (.or (.c 10 1 (.c 11 1 (.q 12 (.c 14 1 (.done))))) (.c 11 1 (.c 10 1 (.q 12 (.c 14 1 (.done)))))))))) (.or (.c 11 1 (.or (.c 7 1 (.or (.c 10 1 (.q 12 (.c 13 1 (.c 14 1 (.done))))) (.c 13 1 (.c 10 1 (.q 12 (.c 14 1 (.done))))))) (.c 13 1 (.c 7 1 (.c 10 1 (.q 12 (.c 14 1 (.done)))))))) (.c 13 1 (.or (.c 7 1 (.or (.c 10 1 (.c 11 1 (.q 12 (.c 14 1 (.done))))) (.c 11 1 (.c 10 1 (.q 12 (.c 14 1 (.done))))))) (.c 11 1 (.c 7 1 (.c 10 1 (.q 12 (.c 14 1 (.done))))))))))) (.or (.c 11 1 (.or (.c 4 1 (.or (.c 7 1 (.or (.c 10 1 (.q 12 (.c 13 1 (.c 14 1 (.done))))) (.c 13 1 (.c 10 1 (.q 12 (.c 14 1 (.done))))))) (.c 13 1 (.c 7 1 (.c 10 1 (.q 12 (.c 14 1 (.done)))))))) (.c 13 1 (.c 4 1 (.c 7 1 (.c 10 1 (.q 12 (.c 14 1 (.done))))))))) (.c 13 1 (.or (.c 4 1 (.or (.c 7 1 (.or (.c 10 1 (.c 11 1 (.q 12 (.c 14 1 (.done))))) (.c 11 1 (.c 10 1 (.q 12 (.c 14 1 (.done))))))) (.c 11 1 (.c 7 1 (.c 10 1 (.q 12 (.c 14 1 (.done)))))))) (.c 11 1 (.c 4 1 (.c 7 1 (.c 10 1 (.q 12 (.c 14 1 (.done))))))))))))))))))) (by kernel_rfl) ?_
  refine .cut [(0, some _), (1, some _), (2, some _)] ⟨rfl, rfl, rfl, trivial⟩ (fun rest fr' H' => ∃ g11 g14 g17 g18 g3, Sub ((11, some (.slice (some ⟨g11, 0, none⟩) c.tgt.length c.tgt.length)) :: (14, some (.slice (some ⟨g14, 0, none⟩) c.src.length c.src.length)) :: (17, some (.slice (some ⟨g17, 0, none⟩) c.idn.length c.idn.length)) :: (18, some (.slice (some ⟨g18, 0, none⟩) 0 0)) :: (3, some (.pointer (some ⟨g3, 0, none⟩))) :: rest) fr' ∧ H2.Le H' ∧ H2.next ≤ g11 ∧ H2.next ≤ g14 ∧ H2.next ≤ g17 ∧ H2.next ≤ g18 ∧ H2.next ≤ g3 ∧ H'.get g11 = some (.row (ints c.tgt) 2 true) ∧ H'.get g14 = some (.row (ints c.src) 2 true) ∧ H'.get g17 = some (.row (ints c.idn) 2 true) ∧ H'.get g18 = some (.row ([]) 24 true) ∧ H'.get g3 = some (.row ([.int .i64 c.obj, .slice (some ⟨g11, 0, none⟩) c.tgt.length c.tgt.length, .slice (some ⟨g14, 0, none⟩) c.src.length c.src.length, .slice (some ⟨g17, 0, none⟩) c.idn.length c.idn.length, .slice (some ⟨g18, 0, none⟩) 0 0]) 27 true) ∧ g11 ≠ g14 ∧ g11 ≠ g17 ∧ g11 ≠ g18 ∧ g11 ≠ g3 ∧ g14 ≠ g17 ∧ g14 ≠ g18 ∧ g14 ≠ g3 ∧ g17 ≠ g18 ∧ g17 ≠ g3 ∧ g18 ≠ g3) ?_ ?_
  ·
   have hf0 := GHeap.Le.refl H2
   refine .qB rfl (.refl _) (.fieldAddr fo_27_0_B rfl) ?_
   refine .q rfl (.load on_2_A rfl (by first | assumption | exact Mem.of_get at1 0 _ rfl)) ?_
   refine .qB rfl (.refl _) (.fieldAddr fo_27_2_B rfl) ?_
   refine .q rfl (.load on_24_B rfl (by first | assumption | exact Mem.of_get at1 2 _ rfl)) ?_
   refine .qB rfl (.refl _) (.fieldAddr fo_27_1_B rfl) ?_
   refine .q rfl (.load on_24_B rfl (by first | assumption | exact Mem.of_get at1 1 _ rfl)) ?_
   refine .qB rfl (.refl _) (.fieldAddr fo_27_3_B rfl) ?_
   refine .q rfl (.load on_24_B rfl (by first | assumption | exact Mem.of_get at1 3 _ rfl)) ?_
   refine .orI ?_ ?_
   ·
    refine .call1 rfl rfl rfl rfl rfl @Try.call102 rfl (l01Own_c) ?_
    rintro _ H11x2 ⟨le11x2, g11x2, rfl, at11x2, ge11x2⟩
    have hbl := le11x2
    refine ⟨hbl, ?_⟩
    replace hle := hle.trans le11x2
    replace at1 := le11x2.2 _ _ at1
    have lt_at11x2 := GHeap.ltg at11x2
    replace hf0 := hf0.trans le11x2
    refine .orI ?_ ?_
    ·
     replace hin := base_hin.mono hle
     clear hb1 c01 c11 c21 c31 i21
     have hb1 : Cat.At _ g1 0 c p := ⟨Mem.of_get at1, hin⟩
     obtain ⟨-, -, -, -, -, i11, -, -, -⟩ := hb1.get
     refine .call1 rfl rfl rfl rfl rfl @Try.call102 rfl (l01Own_c) ?_
     rintro _ H14x2 ⟨le14x2, g14x2, rfl, at14x2, ge14x2⟩
     replace hbl := hbl.trans le14x2
     refine ⟨hbl, ?_⟩
     replace hle := hle.trans le14x2
     replace at1 := le14x2.2 _ _ at1
     replace at11x2 := le14x2.2 _ _ at11x2
     have lt_at14x2 := GHeap.ltg at14x2
     replace hf0 := hf0.trans le14x2
     refine .orI ?_ ?_
     ·
      replace hin := base_hin.mono hle
      clear hb1 i11
      have hb1 : Cat.At _ g1 0 c p := ⟨Mem.of_get at1, hin⟩
      obtain ⟨-, -, -, -, -, -, -, i31, -⟩ := hb1.get
      refine .call1 rfl rfl rfl rfl rfl @Try.call102 rfl (l01Own_c) ?_
      rintro _ H17x2 ⟨le17x2, g17x2, rfl, at17x2, ge17x2⟩
      replace hbl := hbl.trans le17x2
      refine ⟨hbl, ?_⟩
      replace at11x2 := le17x2.2 _ _ at11x2
      replace at14x2 := le17x2.2 _ _ at14x2
      have lt_at17x2 := GHeap.ltg at17x2
      replace hf0 := hf0.trans le17x2
      refine .orI ?_ ?_
      ·
       refine .c1 rfl rfl rfl rfl (.litA rfl sl_25_B ze_24_Hj rfl rfl rfl rfl) ?_
       rintro _ H18x2 ⟨g18x2, rfl, le18x2, ge18x2, at18x2⟩
       replace hbl := hbl.trans le18x2
       refine ⟨hbl, ?_⟩
       replace at11x2 := le18x2.2 _ _ at11x2
       replace at14x2 := le18x2.2 _ _ at14x2
       replace at17x2 := le18x2.2 _ _ at17x2
       have lt_at18x2 := GHeap.ltg at18x2
       replace hf0 := hf0.trans le18x2
       refine .qB rfl hbl (.build bt_27_Hj rfl rfl rfl) ?_
       refine .c1 rfl rfl rfl rfl (.allocR rfl ze_27_Hj rfl) ?_
       rintro _ H3x2 ⟨g3x2, rfl, le3x2, ge3x2, at3x2⟩
       replace hbl := hbl.trans le3x2
       refine ⟨hbl, ?_⟩
       replace at11x2 := le3x2.2 _ _ at11x2
       replace at14x2 := le3x2.2 _ _ at14x2
       replace at17x2 := le3x2.2 _ _ at17x2
       replace at18x2 := le3x2.2 _ _ at18x2
       replace hf0 := hf0.trans le3x2
       refine .r1 rfl rfl rfl (.fillA rfl sz_27_D rfl rfl rfl rfl) ?_
       rintro _ H1014 ⟨rfl, st1014, at1014⟩
       replace hbl := hbl.st st1014 (fun k hk => ⟨by omega, trivial⟩)
       refine ⟨hbl, ?_⟩
       replace at11x2 := st1014.s at11x2
       replace at14x2 := st1014.s at14x2
       replace at17x2 := st1014.s at17x2
       replace at18x2 := st1014.s at18x2
       replace hf0 := hf0.st st1014 (fun k hk => ⟨by omega, trivial⟩)
       refine .done ?_
       exact ⟨g11x2, g14x2, g17x2, g18x2, g3x2, ⟨rfl, rfl, rfl, rfl, rfl, rfl, rfl, rfl, trivial⟩, hf0, by omega, by omega, by omega, by omega, by omega, by first | assumption | simpa using at11x2, by first | assumption | simpa using at14x2, by first | assumption | simpa using at17x2, by first | assumption | simpa using at18x2, by first | assumption | simpa using at1014, by omega, by omega, by omega, by omega, by omega, by omega, by omega, by omega, by omega, by omega⟩
      refine .c1 rfl rfl rfl rfl (.allocR rfl ze_27_Hj rfl) ?_
      rintro _ H3x3 ⟨g3x3, rfl, le3x3, ge3x3, at3x3⟩
      replace hbl := hbl.trans le3x3
      refine ⟨hbl, ?_⟩
      replace at11x2 := le3x3.2 _ _ at11x2
      replace at14x2 := le3x3.2 _ _ at14x2
      replace at17x2 := le3x3.2 _ _ at17x2
      have lt_at3x3 := GHeap.ltg at3x3
      replace hf0 := hf0.trans le3x3
      refine .c1 rfl rfl rfl rfl (.litA rfl sl_25_B ze_24_Hj rfl rfl rfl rfl) ?_
      rintro _ H18x3 ⟨g18x3, rfl, le18x3, ge18x3, at18x3⟩
      replace hbl := hbl.trans le18x3
      refine ⟨hbl, ?_⟩
      replace at11x2 := le18x3.2 _ _ at11x2
      replace at14x2 := le18x3.2 _ _ at14x2
      replace at17x2 := le18x3.2 _ _ at17x2
      replace at3x3 := le18x3.2 _ _ at3x3
      replace hf0 := hf0.trans le18x3
      refine .qB rfl hbl (.build bt_27_Hj rfl rfl rfl) ?_
      refine .r1 rfl rfl rfl (.fillA rfl sz_27_D rfl rfl rfl rfl) ?_
      rintro _ H1014x2 ⟨rfl, st1014x2, at1014x2⟩
      replace hbl := hbl.st st1014x2 (fun k hk => ⟨by omega, trivial⟩)
      refine ⟨hbl, ?_⟩
      replace at11x2 := st1014x2.s at11x2
      replace at14x2 := st1014x2.s at14x2
      replace at17x2 := st1014x2.s at17x2
      replace at18x3 := st1014x2.s at18x3
      replace hf0 := hf0.st st1014x2 (fun k hk => ⟨by omega, trivial⟩)
      refine .done ?_
      exact ⟨g11x2, g14x2, g17x2, g18x3, g3x3, ⟨rfl, rfl, rfl, rfl, rfl, rfl, rfl, rfl, trivial⟩, hf0, by omega, by omega, by omega, by omega, by omega, by first | assumption | simpa using at11x2, by first | assumption | simpa using at14x2, by first | assumption | simpa using at17x2, by first | assumption | simpa using at18x3, by first | assumption | simpa using at1014x2, by omega, by omega, by omega, by omega, by omega, by omega, by omega, by omega, by omega, by omega⟩
     refine .orI ?_ ?_
     ·
      refine .c1 rfl rfl rfl rfl (.litA rfl sl_25_B ze_24_Hj rfl rfl rfl rfl) ?_
      rintro _ H18x4 ⟨g18x4, rfl, le18x4, ge18x4, at18x4⟩
      replace hbl := hbl.trans le18x4
      refine ⟨hbl, ?_⟩
      replace hle := hle.trans le18x4
      replace at1 := le18x4.2 _ _ at1
      replace at11x2 := le18x4.2 _ _ at11x2
      replace at14x2 := le18x4.2 _ _ at14x2
      have lt_at18x4 := GHeap.ltg at18x4
      replace hf0 := hf0.trans le18x4
      refine .orI ?_ ?_
      ·
       replace hin := base_hin.mono hle
       have hb1 : Cat.At _ g1 0 c p := ⟨Mem.of_get at1, hin⟩
       obtain ⟨-, -, -, -, -, -, -, i31, -⟩ := hb1.get
       refine .call1 rfl rfl rfl rfl rfl @Try.call102 rfl (l01Own_c) ?_
       rintro _ H17x3 ⟨le17x3, g17x3, rfl, at17x3, ge17x3⟩
       replace hbl := hbl.trans le17x3
       refine ⟨hbl, ?_⟩
       replace at11x2 := le17x3.2 _ _ at11x2
       replace at14x2 := le17x3.2 _ _ at14x2
       replace at18x4 := le17x3.2 _ _ at18x4
       have lt_at17x3 := GHeap.ltg at17x3
       replace hf0 := hf0.trans le17x3
       refine .qB rfl hbl (.build bt_27_Hj rfl rfl rfl) ?_
       refine .c1 rfl rfl rfl rfl (.allocR rfl ze_27_Hj rfl) ?_
       rintro _ H3x4 ⟨g3x4, rfl, le3x4, ge3x4, at3x4⟩
       replace hbl := hbl.trans le3x4
       refine ⟨hbl, ?_⟩
       replace at11x2 := le3x4.2 _ _ at11x2
       replace at14x2 := le3x4.2 _ _ at14x2
       replace at18x4 := le3x4.2 _ _ at18x4
       replace at17x3 := le3x4.2 _ _ at17x3
       replace hf0 := hf0.trans le3x4
       refine .r1 rfl rfl rfl (.fillA rfl sz_27_D rfl rfl rfl rfl) ?_
       rintro _ H1014x3 ⟨rfl, st1014x3, at1014x3⟩
       replace hbl := hbl.st st1014x3 (fun k hk => ⟨by omega, trivial⟩)
       refine ⟨hbl, ?_⟩
       replace at11x2 := st1014x3.s at11x2
       replace at14x2 := st1014x3.s at14x2
       replace at18x4 := st1014x3.s at18x4
       replace at17x3 := st1014x3.s at17x3
       replace hf0 := hf0.st st1014x3 (fun k hk => ⟨by omega, trivial⟩)
       refine .done ?_
       exact ⟨g11x2, g14x2, g17x3, g18x4, g3x4, ⟨rfl, rfl, rfl, rfl, rfl, rfl, rfl, rfl, trivial⟩, hf0, by omega, by omega, by omega, by omega, by omega, by first | assumption | simpa using at11x2, by first | assumption | simpa using at14x2, by first | assumption | simpa using at17x3, by first | assumption | simpa using at18x4, by first | assumption | simpa using at1014x3, by omega, by omega, by omega, by omega, by omega, by omega, by omega, by omega, by omega, by omega⟩
      refine .c1 rfl rfl rfl rfl (.allocR rfl ze_27_Hj rfl) ?_
      rintro _ H3x5 ⟨g3x5, rfl, le3x5, ge3x5, at3x5⟩
      replace hbl := hbl.trans le3x5
      refine ⟨hbl, ?_⟩
      replace hle := hle.trans le3x5
      replace at1 := le3x5.2 _ _ at1
      replace at11x2 := le3x5.2 _ _ at11x2
      replace at14x2 := le3x5.2 _ _ at14x2
      replace at18x4 := le3x5.2 _ _ at18x4
      have lt_at3x5 := GHeap.ltg at3x5
      replace hf0 := hf0.trans le3x5
      replace hin := base_hin.mono hle
      have hb1 : Cat.At _ g1 0 c p := ⟨Mem.of_get at1, hin⟩
      obtain ⟨-, -, -, -, -, -, -, i31, -⟩ := hb1.get
      refine .call1 rfl rfl rfl rfl rfl @Try.call102 rfl (l01Own_c) ?_
      rintro _ H17x4 ⟨le17x4, g17x4, rfl, at17x4, ge17x4⟩
      replace hbl := hbl.trans le17x4
      refine ⟨hbl, ?_⟩
      replace at11x2 := le17x4.2 _ _ at11x2
      replace at14x2 := le17x4.2 _ _ at14x2
      replace at18x4 := le17x4.2 _ _ at18x4
      replace at3x5 := le17x4.2 _ _ at3x5
      replace hf0 := hf0.trans le17x4
      refine .qB rfl hbl (.build bt_27_Hj rfl rfl rfl) ?_
      refine .r1 rfl rfl rfl (.fillA rfl sz_27_D rfl rfl rfl rfl) ?_
      rintro _ H1014x4 ⟨rfl, st1014x4, at1014x4⟩
      replace hbl := hbl.st st1014x4 (fun k hk => ⟨by omega, trivial⟩)
      refine ⟨hbl, ?_⟩
      replace at11x2 := st1014x4.s at11x2
      replace at14x2 := st1014x4.s at14x2
      replace at18x4 := st1014x4.s at18x4
      replace at17x4 := st1014x4.s at17x4
      replace hf0 := hf0.st st1014x4 (fun k hk => ⟨by omega, trivial⟩)
      refine .done ?_
      exact ⟨g11x2, g14x2, g17x4, g18x4, g3x5, ⟨rfl, rfl, rfl, rfl, rfl, rfl, rfl, rfl, trivial⟩, hf0, by omega, by omega, by omega, by omega, by omega, by first | assumption | simpa using at11x2, by first | assumption | simpa using at14x2, by first | assumption | simpa using at17x4, by first | assumption | simpa using at18x4, by first | assumption | simpa using at1014x4, by omega, by omega, by omega, by omega, by omega, by omega, by omega, by omega, by omega, by omega⟩
     refine .c1 rfl rfl rfl rfl (.allocR rfl ze_27_Hj rfl) ?_
     rintro _ H3x6 ⟨g3x6, rfl, le3x6, ge3x6, at3x6⟩
     replace hbl := hbl.trans le3x6
     refine ⟨hbl, ?_⟩
     replace hle := hle.trans le3x6
     replace at1 := le3x6.2 _ _ at1
     replace at11x2 := le3x6.2 _ _ at11x2
     replace at14x2 := le3x6.2 _ _ at14x2
     have lt_at3x6 := GHeap.ltg at3x6
     replace hf0 := hf0.trans le3x6
     refine .orI ?_ ?_
     ·
      replace hin := base_hin.mono hle
      have hb1 : Cat.At _ g1 0 c p := ⟨Mem.of_get at1, hin⟩
      obtain ⟨-, -, -, -, -, -, -, i31, -⟩ := hb1.get
      refine .call1 rfl rfl rfl rfl rfl @Try.call102 rfl (l01Own_c) ?_
      rintro _ H17x5 ⟨le17x5, g17x5, rfl, at17x5, ge17x5⟩
      replace hbl := hbl.trans le17x5
      refine ⟨hbl, ?_⟩
      replace at11x2 := le17x5.2 _ _ at11x2
      replace at14x2 := le17x5.2 _ _ at14x2
      replace at3x6 := le17x5.2 _ _ at3x6
      have lt_at17x5 := GHeap.ltg at17x5
      replace hf0 := hf0.trans le17x5
      refine .c1 rfl rfl rfl rfl (.litA rfl sl_25_B ze_24_Hj rfl rfl rfl rfl) ?_
      rintro _ H18x5 ⟨g18x5, rfl, le18x5, ge18x5, at18x5⟩
      replace hbl := hbl.trans le18x5
      refine ⟨hbl, ?_⟩
      replace at11x2 := le18x5.2 _ _ at11x2
      replace at14x2 := le18x5.2 _ _ at14x2
      replace at3x6 := le18x5.2 _ _ at3x6
      replace at17x5 := le18x5.2 _ _ at17x5
      replace hf0 := hf0.trans le18x5
      refine .qB rfl hbl (.build bt_27_Hj rfl rfl rfl) ?_
      refine .r1 rfl rfl rfl (.fillA rfl sz_27_D rfl rfl rfl rfl) ?_
      rintro _ H1014x5 ⟨rfl, st1014x5, at1014x5⟩
      replace hbl := hbl.st st1014x5 (fun k hk => ⟨by omega, trivial⟩)
      refine ⟨hbl, ?_⟩
      have ne_g11x2_g3x6 : NE g11x2 g3x6 := .a
      replace at11x2 := st1014x5.s at11x2 ne_g11x2_g3x6.ne
      have ne_g14x2_g3x6 : NE g14x2 g3x6 := .a
      replace at14x2 := st1014x5.s at14x2 ne_g14x2_g3x6.ne
      replace at17x5 := st1014x5.s at17x5
      replace at18x5 := st1014x5.s at18x5
      replace hf0 := hf0.st st1014x5 (fun k hk => ⟨by omega, trivial⟩)
      refine .done ?_
      exact ⟨g11x2, g14x2, g17x5, g18x5, g3x6, ⟨rfl, rfl, rfl, rfl, rfl, rfl, rfl, rfl, trivial⟩, hf0, by omega, by omega, by omega, by omega, by omega, by first | assumption | simpa using at11x2, by first | assumption | simpa using at14x2, by first | assumption | simpa using at17x5, by first | assumption | simpa using at18x5, by first | assumption | simpa using at1014x5, by omega, by omega, by omega, by omega, by omega, by omega, by omega, by omega, by omega, by omega⟩
     refine .c1 rfl rfl rfl rfl (.litA rfl sl_25_B ze_24_Hj rfl rfl rfl rfl) ?_
     rintro _ H18x6 ⟨g18x6, rfl, le18x6, ge18x6, at18x6⟩
     replace hbl := hbl.trans le18x6
     refine ⟨hbl, ?_⟩
     replace hle := hle.trans le18x6
     replace at1 := le18x6.2 _ _ at1
     replace at11x2 := le18x6.2 _ _ at11x2
     replace at14x2 := le18x6.2 _ _ at14x2
     replace at3x6 := le18x6.2 _ _ at3x6
     have lt_at18x6 := GHeap.ltg at18x6
     replace hf0 := hf0.trans le18x6
     replace hin := base_hin.mono hle
     have hb1 : Cat.At _ g1 0 c p := ⟨Mem.of_get at1, hin⟩
     obtain ⟨-, -, -, -, -, -, -, i31, -⟩ := hb1.get
     refine .call1 rfl rfl rfl rfl rfl @Try.call102 rfl (l01Own_c) ?_
     rintro _ H17x6 ⟨le17x6, g17x6, rfl, at17x6, ge17x6⟩
     replace hbl := hbl.trans le17x6
     refine ⟨hbl, ?_⟩
     replace at11x2 := le17x6.2 _ _ at11x2
     replace at14x2 := le17x6.2 _ _ at14x2
     replace at3x6 := le17x6.2 _ _ at3x6
     replace at18x6 := le17x6.2 _ _ at18x6
     replace hf0 := hf0.trans le17x6
     refine .qB rfl hbl (.build bt_27_Hj rfl rfl rfl) ?_
     refine .r1 rfl rfl rfl (.fillA rfl sz_27_D rfl rfl rfl rfl) ?_
     rintro _ H1014x6 ⟨rfl, st1014x6, at1014x6⟩
     replace hbl := hbl.st st1014x6 (fun k hk => ⟨by omega, trivial⟩)
     refine ⟨hbl, ?_⟩
     have ne_g11x2_g3x6 : NE g11x2 g3x6 := .a
     replace at11x2 := st1014x6.s at11x2 ne_g11x2_g3x6.ne
     have ne_g14x2_g3x6 : NE g14x2 g3x6 := .a
     replace at14x2 := st1014x6.s at14x2 ne_g14x2_g3x6.ne
     replace at18x6 := st1014x6.s at18x6
     replace at17x6 := st1014x6.s at17x6
     replace hf0 := hf0.st st1014x6 (fun k hk => ⟨by omega, trivial⟩)
     refine .done ?_
     exact ⟨g11x2, g14x2, g17x6, g18x6, g3x6, ⟨rfl, rfl, rfl, rfl, rfl, rfl, rfl, rfl, trivial⟩, hf0, by omega, by omega, by omega, by omega, by omega, by first | assumption | simpa using at11x2, by first | assumption | simpa using at14x2, by first | assumption | simpa using at17x6, by first | assumption | simpa using at18x6, by first | assumption | simpa using at1014x6, by omega, by omega, by omega, by omega, by omega, by omega, by omega, by omega, by omega, by omega⟩
    refine .orI ?_ ?_
    ·
     refine .c1 rfl rfl rfl rfl (.litA rfl sl_25_B ze_24_Hj rfl rfl rfl rfl) ?_
     rintro _ H18x7 ⟨g18x7, rfl, le18x7, ge18x7, at18x7⟩
     replace hbl := hbl.trans le18x7
     refine ⟨hbl, ?_⟩
     replace hle := hle.trans le18x7
     replace at1 := le18x7.2 _ _ at1
     replace at11x2 := le18x7.2 _ _ at11x2
     have lt_at18x7 := GHeap.ltg at18x7
     replace hf0 := hf0.trans le18x7
     refine .orI ?_ ?_
     ·
      replace hin := base_hin.mono hle
      have hb1 : Cat.At _ g1 0 c p := ⟨Mem.of_get at1, hin⟩
      obtain ⟨-, -, -, -, -, i11, -, -, -⟩ := hb1.get
      refine .call1 rfl rfl rfl rfl rfl @Try.call102 rfl (l01Own_c) ?_
      rintro _ H14x3 ⟨le14x3, g14x3, rfl, at14x3, ge14x3⟩
      replace hbl := hbl.trans le14x3
      refine ⟨hbl, ?_⟩
      replace hle := hle.trans le14x3
      replace at1 := le14x3.2 _ _ at1
      replace at11x2 := le14x3.2 _ _ at11x2
      replace at18x7 := le14x3.2 _ _ at18x7
      have lt_at14x3 := GHeap.ltg at14x3
      replace hf0 := hf0.trans le14x3
      refine .orI ?_ ?_
      ·
       replace hin := base_hin.mono hle
       clear hb1 i11
       have hb1 : Cat.At _ g1 0 c p := ⟨Mem.of_get at1, hin⟩
       obtain ⟨-, -, -, -, -, -, -, i31, -⟩ := hb1.get
       refine .call1 rfl rfl rfl rfl rfl @Try.call102 rfl (l01Own_c) ?_
       rintro _ H17x7 ⟨le17x7, g17x7, rfl, at17x7, ge17x7⟩
       replace hbl := hbl.trans le17x7
       refine ⟨hbl, ?_⟩
       replace at11x2 := le17x7.2 _ _ at11x2
       replace at18x7 := le17x7.2 _ _ at18x7
       replace at14x3 := le17x7.2 _ _ at14x3
       have lt_at17x7 := GHeap.ltg at17x7
       replace hf0 := hf0.trans le17x7
       refine .qB rfl hbl (.build bt_27_Hj rfl rfl rfl) ?_
       refine .c1 rfl rfl rfl rfl (.allocR rfl ze_27_Hj rfl) ?_
       rintro _ H3x7 ⟨g3x7, rfl, le3x7, ge3x7, at3x7⟩
       replace hbl := hbl.trans le3x7
       refine ⟨hbl, ?_⟩
       replace at11x2 := le3x7.2 _ _ at11x2
       replace at18x7 := le3x7.2 _ _ at18x7
       replace at14x3 := le3x7.2 _ _ at14x3
       replace at17x7 := le3x7.2 _ _ at17x7
       replace hf0 := hf0.trans le3x7
       refine .r1 rfl rfl rfl (.fillA rfl sz_27_D rfl rfl rfl rfl) ?_
       rintro _ H1014x7 ⟨rfl, st1014x7, at1014x7⟩
       replace hbl := hbl.st st1014x7 (fun k hk => ⟨by omega, trivial⟩)
       refine ⟨hbl, ?_⟩
       replace at11x2 := st1014x7.s at11x2
       replace at18x7 := st1014x7.s at18x7
       replace at14x3 := st1014x7.s at14x3
       replace at17x7 := st1014x7.s at17x7
       replace hf0 := hf0.st st1014x7 (fun k hk => ⟨by omega, trivial⟩)
       refine .done ?_
       exact ⟨g11x2, g14x3, g17x7, g18x7, g3x7, ⟨rfl, rfl, rfl, rfl, rfl, rfl, rfl, rfl, trivial⟩, hf0, by omega, by omega, by omega, by omega, by omega, by first | assumption | simpa using at11x2, by first | assumption | simpa using at14x3, by first | assumption | simpa using at17x7, by first | assumption | simpa using at18x7, by first | assumption | simpa using at1014x7, by omega, by omega, by omega, by omega, by omega, by omega, by omega, by omega, by omega, by omega⟩
      refine .c1 rfl rfl rfl rfl (.allocR rfl ze_27_Hj rfl) ?_
      rintro _ H3x8 ⟨g3x8, rfl, le3x8, ge3x8, at3x8⟩
      replace hbl := hbl.trans le3x8
      refine ⟨hbl, ?_⟩
      replace hle := hle.trans le3x8
      replace at1 := le3x8.2 _ _ at1
      replace at11x2 := le3x8.2 _ _ at11x2
      replace at18x7 := le3x8.2 _ _ at18x7
      replace at14x3 := le3x8.2 _ _ at14x3
      have lt_at3x8 := GHeap.ltg at3x8
      replace hf0 := hf0.trans le3x8
      replace hin := base_hin.mono hle
      have hb1 : Cat.At _ g1 0 c p := ⟨Mem.of_get at1, hin⟩
      obtain ⟨-, -, -, -, -, -, -, i31, -⟩ := hb1.get
      refine .call1 rfl rfl rfl rfl rfl @Try.call102 rfl (l01Own_c) ?_
      rintro _ H17x8 ⟨le17x8, g17x8, rfl, at17x8, ge17x8⟩
      replace hbl := hbl.trans le17x8
      refine ⟨hbl, ?_⟩
      replace at11x2 := le17x8.2 _ _ at11x2
      replace at18x7 := le17x8.2 _ _ at18x7
      replace at14x3 := le17x8.2 _ _ at14x3
      replace at3x8 := le17x8.2 _ _ at3x8
      replace hf0 := hf0.trans le17x8
      refine .qB rfl hbl (.build bt_27_Hj rfl rfl rfl) ?_
      refine .r1 rfl rfl rfl (.fillA rfl sz_27_D rfl rfl rfl rfl) ?_
      rintro _ H1014x8 ⟨rfl, st1014x8, at1014x8⟩
      replace hbl := hbl.st st1014x8 (fun k hk => ⟨by omega, trivial⟩)
      refine ⟨hbl, ?_⟩
      replace at11x2 := st1014x8.s at11x2
      replace at18x7 := st1014x8.s at18x7
      replace at14x3 := st1014x8.s at14x3
      replace at17x8 := st1014x8.s at17x8
      replace hf0 := hf0.st st1014x8 (fun k hk => ⟨by omega, trivial⟩)
      refine .done ?_
      exact ⟨g11x2, g14x3, g17x8, g18x7, g3x8, ⟨rfl, rfl, rfl, rfl, rfl, rfl, rfl, rfl, trivial⟩, hf0, by omega, by omega, by omega, by omega, by omega, by first | assumption | simpa using at11x2, by first | assumption | simpa using at14x3, by first | assumption | simpa using at17x8, by first | assumption | simpa using at18x7, by first | assumption | simpa using at1014x8, by omega, by omega, by omega, by omega, by omega, by omega, by omega, by omega, by omega, by omega⟩
     refine .c1 rfl rfl rfl rfl (.allocR rfl ze_27_Hj rfl) ?_
     rintro _ H3x9 ⟨g3x9, rfl, le3x9, ge3x9, at3x9⟩
     replace hbl := hbl.trans le3x9
     refine ⟨hbl, ?_⟩
     replace hle := hle.trans le3x9
     replace at1 := le3x9.2 _ _ at1
     replace at11x2 := le3x9.2 _ _ at11x2
     replace at18x7 := le3x9.2 _ _ at18x7
     have lt_at3x9 := GHeap.ltg at3x9
     replace hf0 := hf0.trans le3x9
     replace hin := base_hin.mono hle
     have hb1 : Cat.At _ g1 0 c p := ⟨Mem.of_get at1, hin⟩
     obtain ⟨-, -, -, -, -, i11, -, -, -⟩ := hb1.get
     refine .call1 rfl rfl rfl rfl rfl @Try.call102 rfl (l01Own_c) ?_
     rintro _ H14x4 ⟨le14x4, g14x4, rfl, at14x4, ge14x4⟩
     replace hbl := hbl.trans le14x4
     refine ⟨hbl, ?_⟩
     replace hle := hle.trans le14x4
     replace at1 := le14x4.2 _ _ at1
     replace at11x2 := le14x4.2 _ _ at11x2
     replace at18x7 := le14x4.2 _ _ at18x7
     replace at3x9 := le14x4.2 _ _ at3x9
     have lt_at14x4 := GHeap.ltg at14x4
     replace hf0 := hf0.trans le14x4
     replace hin := base_hin.mono hle
     clear hb1 i11
     have hb1 : Cat.At _ g1 0 c p := ⟨Mem.of_get at1, hin⟩
     obtain ⟨-, -, -, -, -, -, -, i31, -⟩ := hb1.get
     refine .call1 rfl rfl rfl rfl rfl @Try.call102 rfl (l01Own_c) ?_
     rintro _ H17x9 ⟨le17x9, g17x9, rfl, at17x9, ge17x9⟩
     replace hbl := hbl.trans le17x9
     refine ⟨hbl, ?_⟩
     replace at11x2 := le17x9.2 _ _ at11x2
     replace at18x7 := le17x9.2 _ _ at18x7
     replace at3x9 := le17x9.2 _ _ at3x9
     replace at14x4 := le17x9.2 _ _ at14x4
     replace hf0 := hf0.trans le17x9
     refine .qB rfl hbl (.build bt_27_Hj rfl rfl rfl) ?_
     refine .r1 rfl rfl rfl (.fillA rfl sz_27_D rfl rfl rfl rfl) ?_
     rintro _ H1014x9 ⟨rfl, st1014x9, at1014x9⟩
     replace hbl := hbl.st st1014x9 (fun k hk => ⟨by omega, trivial⟩)
     refine ⟨hbl, ?_⟩
     replace at11x2 := st1014x9.s at11x2
     replace at18x7 := st1014x9.s at18x7
     replace at14x4 := st1014x9.s at14x4
     replace at17x9 := st1014x9.s at17x9
     replace hf0 := hf0.st st1014x9 (fun k hk => ⟨by omega, trivial⟩)
     refine .done ?_
     exact ⟨g11x2, g14x4, g17x9, g18x7, g3x9, ⟨rfl, rfl, rfl, rfl, rfl, rfl, rfl, rfl, trivial⟩, hf0, by omega, by omega, by omega, by omega, by omega, by first | assumption | simpa using at11x2, by first | assumption | simpa using at14x4, by first | assumption | simpa using at17x9, by first | assumption | simpa using at18x7, by first | assumption | simpa using at1014x9, by omega, by omega, by omega, by omega, by omega, by omega, by omega, by omega, by omega, by omega⟩
    refine .c1 rfl rfl rfl rfl (.allocR rfl ze_27_Hj rfl) ?_
    rintro _ H3x10 ⟨g3x10, rfl, le3x10, ge3x10, at3x10⟩
    replace hbl := hbl.trans le3x10
    refine ⟨hbl, ?_⟩
    replace hle := hle.trans le3x10
    replace at1 := le3x10.2 _ _ at1
    replace at11x2 := le3x10.2 _ _ at11x2
    have lt_at3x10 := GHeap.ltg at3x10
    replace hf0 := hf0.trans le3x10
    refine .orI ?_ ?_
    ·
     replace hin := base_hin.mono hle
     have hb1 : Cat.At _ g1 0 c p := ⟨Mem.of_get at1, hin⟩
     obtain ⟨-, -, -, -, -, i11, -, -, -⟩ := hb1.get
     refine .call1 rfl rfl rfl rfl rfl @Try.call102 rfl (l01Own_c) ?_
     rintro _ H14x5 ⟨le14x5, g14x5, rfl, at14x5, ge14x5⟩
     replace hbl := hbl.trans le14x5
     refine ⟨hbl, ?_⟩
     replace hle := hle.trans le14x5
     replace at1 := le14x5.2 _ _ at1
     replace at11x2 := le14x5.2 _ _ at11x2
     replace at3x10 := le14x5.2 _ _ at3x10
     have lt_at14x5 := GHeap.ltg at14x5
     replace hf0 := hf0.trans le14x5
     refine .orI ?_ ?_
     ·
      replace hin := base_hin.mono hle
      clear hb1 i11
      have hb1 : Cat.At _ g1 0 c p := ⟨Mem.of_get at1, hin⟩
      obtain ⟨-, -, -, -, -, -, -, i31, -⟩ := hb1.get
      refine .call1 rfl rfl rfl rfl rfl @Try.call102 rfl (l01Own_c) ?_
      rintro _ H17x10 ⟨le17x10, g17x10, rfl, at17x10, ge17x10⟩
      replace hbl := hbl.trans le17x10
      refine ⟨hbl, ?_⟩
      replace at11x2 := le17x10.2 _ _ at11x2
      replace at3x10 := le17x10.2 _ _ at3x10
      replace at14x5 := le17x10.2 _ _ at14x5
      have lt_at17x10 := GHeap.ltg at17x10
      replace hf0 := hf0.trans le17x10
      refine .c1 rfl rfl rfl rfl (.litA rfl sl_25_B ze_24_Hj rfl rfl rfl rfl) ?_
      rintro _ H18x8 ⟨g18x8, rfl, le18x8, ge18x8, at18x8⟩
      replace hbl := hbl.trans le18x8
      refine ⟨hbl, ?_⟩
      replace at11x2 := le18x8.2 _ _ at11x2
      replace at3x10 := le18x8.2 _ _ at3x10
      replace at14x5 := le18x8.2 _ _ at14x5
      replace at17x10 := le18x8.2 _ _ at17x10
      replace hf0 := hf0.trans le18x8
      refine .qB rfl hbl (.build bt_27_Hj rfl rfl rfl) ?_
      refine .r1 rfl rfl rfl (.fillA rfl sz_27_D rfl rfl rfl rfl) ?_
      rintro _ H1014x10 ⟨rfl, st1014x10, at1014x10⟩
      replace hbl := hbl.st st1014x10 (fun k hk => ⟨by omega, trivial⟩)
      refine ⟨hbl, ?_⟩
      have ne_g11x2_g3x10 : NE g11x2 g3x10 := .a
      replace at11x2 := st1014x10.s at11x2 ne_g11x2_g3x10.ne
      have ne_g14x5_g3x10 : NE g14x5 g3x10 := .a
      replace at14x5 := st1014x10.s at14x5 ne_g14x5_g3x10.ne
      replace at17x10 := st1014x10.s at17x10
      replace at18x8 := st1014x10.s at18x8
      replace hf0 := hf0.st st1014x10 (fun k hk => ⟨by omega, trivial⟩)
      refine .done ?_
      exact ⟨g11x2, g14x5, g17x10, g18x8, g3x10, ⟨rfl, rfl, rfl, rfl, rfl, rfl, rfl, rfl, trivial⟩, hf0, by omega, by omega, by omega, by omega, by omega, by first | assumption | simpa using at11x2, by first | assumption | simpa using at14x5, by first | assumption | simpa using at17x10, by first | assumption | simpa using at18x8, by first | assumption | simpa using at1014x10, by omega, by omega, by omega, by omega, by omega, by omega, by omega, by omega, by omega, by omega⟩
     refine .c1 rfl rfl rfl rfl (.litA rfl sl_25_B ze_24_Hj rfl rfl rfl rfl) ?_
     rintro _ H18x9 ⟨g18x9, rfl, le18x9, ge18x9, at18x9⟩
     replace hbl := hbl.trans le18x9
     refine ⟨hbl, ?_⟩
     replace hle := hle.trans le18x9
     replace at1 := le18x9.2 _ _ at1
     replace at11x2 := le18x9.2 _ _ at11x2
     replace at3x10 := le18x9.2 _ _ at3x10
     replace at14x5 := le18x9.2 _ _ at14x5
     have lt_at18x9 := GHeap.ltg at18x9
     replace hf0 := hf0.trans le18x9
     replace hin := base_hin.mono hle
     have hb1 : Cat.At _ g1 0 c p := ⟨Mem.of_get at1, hin⟩
     obtain ⟨-, -, -, -, -, -, -, i31, -⟩ := hb1.get
     refine .call1 rfl rfl rfl rfl rfl @Try.call102 rfl (l01Own_c) ?_
     rintro _ H17x11 ⟨le17x11, g17x11, rfl, at17x11, ge17x11⟩
     replace hbl := hbl.trans le17x11
     refine ⟨hbl, ?_⟩
     replace at11x2 := le17x11.2 _ _ at11x2
     replace at3x10 := le17x11.2 _ _ at3x10
     replace at14x5 := le17x11.2 _ _ at14x5
     replace at18x9 := le17x11.2 _ _ at18x9
     replace hf0 := hf0.trans le17x11
     refine .qB rfl hbl (.build bt_27_Hj rfl rfl rfl) ?_
     refine .r1 rfl rfl rfl (.fillA rfl sz_27_D rfl rfl rfl rfl) ?_
     rintro _ H1014x11 ⟨rfl, st1014x11, at1014x11⟩
     replace hbl := hbl.st st1014x11 (fun k hk => ⟨by omega, trivial⟩)
     refine ⟨hbl, ?_⟩
     have ne_g11x2_g3x10 : NE g11x2 g3x10 := .a
     replace at11x2 := st1014x11.s at11x2 ne_g11x2_g3x10.ne
     have ne_g14x5_g3x10 : NE g14x5 g3x10 := .a
     replace at14x5 := st1014x11.s at14x5 ne_g14x5_g3x10.ne
     replace at18x9 := st1014x11.s at18x9
     replace at17x11 := st1014x11.s at17x11
     replace hf0 := hf0.st st1014x11 (fun k hk => ⟨by omega, trivial⟩)
     refine .done ?_
     exact ⟨g11x2, g14x5, g17x11, g18x9, g3x10, ⟨rfl, rfl, rfl, rfl, rfl, rfl, rfl, rfl, trivial⟩, hf0, by omega, by omega, by omega, by omega, by omega, by first | assumption | simpa using at11x2, by first | assumption | simpa using at14x5, by first | assumption | simpa using at17x11, by first | assumption | simpa using at18x9, by first | assumption | simpa using at1014x11, by omega, by omega, by omega, by omega, by omega, by omega, by omega, by omega, by omega, by omega⟩
    refine .c1 rfl rfl rfl rfl (.litA rfl sl_25_B ze_24_Hj rfl rfl rfl rfl) ?_
    rintro _ H18x10 ⟨g18x10, rfl, le18x10, ge18x10, at18x10⟩
    replace hbl := hbl.trans le18x10
    refine ⟨hbl, ?_⟩
    replace hle := hle.trans le18x10
    replace at1 := le18x10.2 _ _ at1
    replace at11x2 := le18x10.2 _ _ at11x2
    replace at3x10 := le18x10.2 _ _ at3x10
    have lt_at18x10 := GHeap.ltg at18x10
    replace hf0 := hf0.trans le18x10
    replace hin := base_hin.mono hle
    have hb1 : Cat.At _ g1 0 c p := ⟨Mem.of_get at1, hin⟩
    obtain ⟨-, -, -, -, -, i11, -, -, -⟩ := hb1.get
    refine .call1 rfl rfl rfl rfl rfl @Try.call102 rfl (l01Own_c) ?_
    rintro _ H14x6 ⟨le14x6, g14x6, rfl, at14x6, ge14x6⟩
    replace hbl := hbl.trans le14x6
    refine ⟨hbl, ?_⟩
    replace hle := hle.trans le14x6
    replace at1 := le14x6.2 _ _ at1
    replace at11x2 := le14x6.2 _ _ at11x2
    replace at3x10 := le14x6.2 _ _ at3x10
    replace at18x10 := le14x6.2 _ _ at18x10
    have lt_at14x6 := GHeap.ltg at14x6
    replace hf0 := hf0.trans le14x6
    replace hin := base_hin.mono hle
    clear hb1 i11
    have hb1 : Cat.At _ g1 0 c p := ⟨Mem.of_get at1, hin⟩
    obtain ⟨-, -, -, -, -, -, -, i31, -⟩ := hb1.get
    refine .call1 rfl rfl rfl rfl rfl @Try.call102 rfl (l01Own_c) ?_
    rintro _ H17x12 ⟨le17x12, g17x12, rfl, at17x12, ge17x12⟩
    replace hbl := hbl.trans le17x12
    refine ⟨hbl, ?_⟩
    replace at11x2 := le17x12.2 _ _ at11x2
    replace at3x10 := le17x12.2 _ _ at3x10
    replace at18x10 := le17x12.2 _ _ at18x10
    replace at14x6 := le17x12.2 _ _ at14x6
    replace hf0 := hf0.trans le17x12
    refine .qB rfl hbl (.build bt_27_Hj rfl rfl rfl) ?_
    refine .r1 rfl rfl rfl (.fillA rfl sz_27_D rfl rfl rfl rfl) ?_
    rintro _ H1014x12 ⟨rfl, st1014x12, at1014x12⟩
    replace hbl := hbl.st st1014x12 (fun k hk => ⟨by omega, trivial⟩)
    refine ⟨hbl, ?_⟩
    have ne_g11x2_g3x10 : NE g11x2 g3x10 := .a
    replace at11x2 := st1014x12.s at11x2 ne_g11x2_g3x10.ne
    replace at18x10 := st1014x12.s at18x10
    replace at14x6 := st1014x12.s at14x6
    replace at17x12 := st1014x12.s at17x12
    replace hf0 := hf0.st st1014x12 (fun k hk => ⟨by omega, trivial⟩)
    refine .done ?_
    exact ⟨g11x2, g14x6, g17x12, g18x10, g3x10, ⟨rfl, rfl, rfl, rfl, rfl, rfl, rfl, rfl, trivial⟩, hf0, by omega, by omega, by omega, by omega, by omega, by first | assumption | simpa using at11x2, by first | assumption | simpa using at14x6, by first | assumption | simpa using at17x12, by first | assumption | simpa using at18x10, by first | assumption | simpa using at1014x12, by omega, by omega, by omega, by omega, by omega, by omega, by omega, by omega, by omega, by omega⟩
   refine .orI ?_ ?_
   ·
    refine .c1 rfl rfl rfl rfl (.litA rfl sl_25_B ze_24_Hj rfl rfl rfl rfl) ?_
    rintro _ H18x11 ⟨g18x11, rfl, le18x11, ge18x11, at18x11⟩
    have hbl := le18x11
    refine ⟨hbl, ?_⟩
    replace hle := hle.trans le18x11
    replace at1 := le18x11.2 _ _ at1
    have lt_at18x11 := GHeap.ltg at18x11
    replace hf0 := hf0.trans le18x11
    refine .orI ?_ ?_
    ·
     replace hin := base_hin.mono hle
     have hb1 : Cat.At _ g1 0 c p := ⟨Mem.of_get at1, hin⟩
     obtain ⟨-, -, -, -, -, -, i21, -, -⟩ := hb1.get
     refine .call1 rfl rfl rfl rfl rfl @Try.call102 rfl (l01Own_c) ?_
     rintro _ H11x3 ⟨le11x3, g11x3, rfl, at11x3, ge11x3⟩
     replace hbl := hbl.trans le11x3
     refine ⟨hbl, ?_⟩
     replace hle := hle.trans le11x3
     replace at1 := le11x3.2 _ _ at1
     replace at18x11 := le11x3.2 _ _ at18x11
     have lt_at11x3 := GHeap.ltg at11x3
     replace hf0 := hf0.trans le11x3
     refine .orI ?_ ?_
     ·
      replace hin := base_hin.mono hle
      clear hb1 i21
      have hb1 : Cat.At _ g1 0 c p := ⟨Mem.of_get at1, hin⟩
      obtain ⟨-, -, -, -, -, i11, -, -, -⟩ := hb1.get
      refine .call1 rfl rfl rfl rfl rfl @Try.call102 rfl (l01Own_c) ?_
      rintro _ H14x7 ⟨le14x7, g14x7, rfl, at14x7, ge14x7⟩
      replace hbl := hbl.trans le14x7
      refine ⟨hbl, ?_⟩
      replace hle := hle.trans le14x7
      replace at1 := le14x7.2 _ _ at1
      replace at18x11 := le14x7.2 _ _ at18x11
      replace at11x3 := le14x7.2 _ _ at11x3
      have lt_at14x7 := GHeap.ltg at14x7
      replace hf0 := hf0.trans le14x7
      refine .orI ?_ ?_
      ·
       replace hin := base_hin.mono hle
       clear hb1 i11
       have hb1 : Cat.At _ g1 0 c p := ⟨Mem.of_get at1, hin⟩
       obtain ⟨-, -, -, -, -, -, -, i31, -⟩ := hb1.get
       refine .call1 rfl rfl rfl rfl rfl @Try.call102 rfl (l01Own_c) ?_
       rintro _ H17x13 ⟨le17x13, g17x13, rfl, at17x13, ge17x13⟩
       replace hbl := hbl.trans le17x13
       refine ⟨hbl, ?_⟩
       replace at18x11 := le17x13.2 _ _ at18x11
       replace at11x3 := le17x13.2 _ _ at11x3
       replace at14x7 := le17x13.2 _ _ at14x7
       have lt_at17x13 := GHeap.ltg at17x13
       replace hf0 := hf0.trans le17x13
       refine .qB rfl hbl (.build bt_27_Hj rfl rfl rfl) ?_
       refine .c1 rfl rfl rfl rfl (.allocR rfl ze_27_Hj rfl) ?_
       rintro _ H3x11 ⟨g3x11, rfl, le3x11, ge3x11, at3x11⟩
       replace hbl := hbl.trans le3x11
       refine ⟨hbl, ?_⟩
       replace at18x11 := le3x11.2 _ _ at18x11
       replace at11x3 := le3x11.2 _ _ at11x3
       replace at14x7 := le3x11.2 _ _ at14x7
       replace at17x13 := le3x11.2 _ _ at17x13
       replace hf0 := hf0.trans le3x11
       refine .r1 rfl rfl rfl (.fillA rfl sz_27_D rfl rfl rfl rfl) ?_
       rintro _ H1014x13 ⟨rfl, st1014x13, at1014x13⟩
       replace hbl := hbl.st st1014x13 (fun k hk => ⟨by omega, trivial⟩)
       refine ⟨hbl, ?_⟩
       replace at18x11 := st1014x13.s at18x11
       replace at11x3 := st1014x13.s at11x3
       replace at14x7 := st1014x13.s at14x7
       replace at17x13 := st1014x13.s at17x13
       replace hf0 := hf0.st st1014x13 (fun k hk => ⟨by omega, trivial⟩)
       refine .done ?_
       exact ⟨g11x3, g14x7, g17x13, g18x11, g3x11, ⟨rfl, rfl, rfl, rfl, rfl, rfl, rfl, rfl, trivial⟩, hf0, by omega, by omega, by omega, by omega, by omega, by first | assumption | simpa using at11x3, by first | assumption | simpa using at14x7, by first | assumption | simpa using at17x13, by first | assumption | simpa using at18x11, by first | assumption | simpa using at1014x13, by omega, by omega, by omega, by omega, by omega, by omega, by omega, by omega, by omega, by omega⟩
      refine .c1 rfl rfl rfl rfl (.allocR rfl ze_27_Hj rfl) ?_
      rintro _ H3x12 ⟨g3x12, rfl, le3x12, ge3x12, at3x12⟩
      replace hbl := hbl.trans le3x12
      refine ⟨hbl, ?_⟩
      replace hle := hle.trans le3x12
      replace at1 := le3x12.2 _ _ at1
      replace at18x11 := le3x12.2 _ _ at18x11
      replace at11x3 := le3x12.2 _ _ at11x3
      replace at14x7 := le3x12.2 _ _ at14x7
      have lt_at3x12 := GHeap.ltg at3x12
      replace hf0 := hf0.trans le3x12
      replace hin := base_hin.mono hle
      have hb1 : Cat.At _ g1 0 c p := ⟨Mem.of_get at1, hin⟩
      obtain ⟨-, -, -, -, -, -, -, i31, -⟩ := hb1.get
      refine .call1 rfl rfl rfl rfl rfl @Try.call102 rfl (l01Own_c) ?_
      rintro _ H17x14 ⟨le17x14, g17x14, rfl, at17x14, ge17x14⟩
      replace hbl := hbl.trans le17x14
      refine ⟨hbl, ?_⟩
      replace at18x11 := le17x14.2 _ _ at18x11
      replace at11x3 := le17x14.2 _ _ at11x3
      replace at14x7 := le17x14.2 _ _ at14x7
      replace at3x12 := le17x14.2 _ _ at3x12
      replace hf0 := hf0.trans le17x14
      refine .qB rfl hbl (.build bt_27_Hj rfl rfl rfl) ?_
      refine .r1 rfl rfl rfl (.fillA rfl sz_27_D rfl rfl rfl rfl) ?_
      rintro _ H1014x14 ⟨rfl, st1014x14, at1014x14⟩
      replace hbl := hbl.st st1014x14 (fun k hk => ⟨by omega, trivial⟩)
      refine ⟨hbl, ?_⟩
      replace at18x11 := st1014x14.s at18x11
      replace at11x3 := st1014x14.s at11x3
      replace at14x7 := st1014x14.s at14x7
      replace at17x14 := st1014x14.s at17x14
      replace hf0 := hf0.st st1014x14 (fun k hk => ⟨by omega, trivial⟩)
      refine .done ?_
      exact ⟨g11x3, g14x7, g17x14, g18x11, g3x12, ⟨rfl, rfl, rfl, rfl, rfl, rfl, rfl, rfl, trivial⟩, hf0, by omega, by omega, by omega, by omega, by omega, by first | assumption | simpa using at11x3, by first | assumption | simpa using at14x7, by first | assumption | simpa using at17x14, by first | assumption | simpa using at18x11, by first | assumption | simpa using at1014x14, by omega, by omega, by omega, by omega, by omega, by omega, by omega, by omega, by omega, by omega⟩
     refine .c1 rfl rfl rfl rfl (.allocR rfl ze_27_Hj rfl) ?_
     rintro _ H3x13 ⟨g3x13, rfl, le3x13, ge3x13, at3x13⟩
     replace hbl := hbl.trans le3x13
     refine ⟨hbl, ?_⟩
     replace hle := hle.trans le3x13
     replace at1 := le3x13.2 _ _ at1
     replace at18x11 := le3x13.2 _ _ at18x11
     replace at11x3 := le3x13.2 _ _ at11x3
     have lt_at3x13 := GHeap.ltg at3x13
     replace hf0 := hf0.trans le3x13
     replace hin := base_hin.mono hle
     have hb1 : Cat.At _ g1 0 c p := ⟨Mem.of_get at1, hin⟩
     obtain ⟨-, -, -, -, -, i11, -, -, -⟩ := hb1.get
     refine .call1 rfl rfl rfl rfl rfl @Try.call102 rfl (l01Own_c) ?_
     rintro _ H14x8 ⟨le14x8, g14x8, rfl, at14x8, ge14x8⟩
     replace hbl := hbl.trans le14x8
     refine ⟨hbl, ?_⟩
     replace hle := hle.trans le14x8
     replace at1 := le14x8.2 _ _ at1
     replace at18x11 := le14x8.2 _ _ at18x11
     replace at11x3 := le14x8.2 _ _ at11x3
     replace at3x13 := le14x8.2 _ _ at3x13
     have lt_at14x8 := GHeap.ltg at14x8
     replace hf0 := hf0.trans le14x8
     replace hin := base_hin.mono hle
     clear hb1 i11
     have hb1 : Cat.At _ g1 0 c p := ⟨Mem.of_get at1, hin⟩
     obtain ⟨-, -, -, -, -, -, -, i31, -⟩ := hb1.get
     refine .call1 rfl rfl rfl rfl rfl @Try.call102 rfl (l01Own_c) ?_
     rintro _ H17x15 ⟨le17x15, g17x15, rfl, at17x15, ge17x15⟩
     replace hbl := hbl.trans le17x15
     refine ⟨hbl, ?_⟩
     replace at18x11 := le17x15.2 _ _ at18x11
     replace at11x3 := le17x15.2 _ _ at11x3
     replace at3x13 := le17x15.2 _ _ at3x13
     replace at14x8 := le17x15.2 _ _ at14x8
     replace hf0 := hf0.trans le17x15
     refine .qB rfl hbl (.build bt_27_Hj rfl rfl rfl) ?_
     refine .r1 rfl rfl rfl (.fillA rfl sz_27_D rfl rfl rfl rfl) ?_
     rintro _ H1014x15 ⟨rfl, st1014x15, at1014x15⟩
     replace hbl := hbl.st st1014x15 (fun k hk => ⟨by omega, trivial⟩)
     refine ⟨hbl, ?_⟩
     replace at18x11 := st1014x15.s at18x11
     replace at11x3 := st1014x15.s at11x3
     replace at14x8 := st1014x15.s at14x8
     replace at17x15 := st1014x15.s at17x15
     replace hf0 := hf0.st st1014x15 (fun k hk => ⟨by omega, trivial⟩)
     refine .done ?_
     exact ⟨g11x3, g14x8, g17x15, g18x11, g3x13, ⟨rfl, rfl, rfl, rfl, rfl, rfl, rfl, rfl, trivial⟩, hf0, by omega, by omega, by omega, by omega, by omega, by first | assumption | simpa using at11x3, by first | assumption | simpa using at14x8, by first | assumption | simpa using at17x15, by first | assumption | simpa using at18x11, by first | assumption | simpa using at1014x15, by omega, by omega, by omega, by omega, by omega, by omega, by omega, by omega, by omega, by omega⟩
    refine .c1 rfl rfl rfl rfl (.allocR rfl ze_27_Hj rfl) ?_
    rintro _ H3x14 ⟨g3x14, rfl, le3x14, ge3x14, at3x14⟩
    replace hbl := hbl.trans le3x14
    refine ⟨hbl, ?_⟩
    replace hle := hle.trans le3x14
    replace at1 := le3x14.2 _ _ at1
    replace at18x11 := le3x14.2 _ _ at18x11
    have lt_at3x14 := GHeap.ltg at3x14
    replace hf0 := hf0.trans le3x14
    replace hin := base_hin.mono hle
    have hb1 : Cat.At _ g1 0 c p := ⟨Mem.of_get at1, hin⟩
    obtain ⟨-, -, -, -, -, -, i21, -, -⟩ := hb1.get
    refine .call1 rfl rfl rfl rfl rfl @Try.call102 rfl (l01Own_c) ?_
    rintro _ H11x4 ⟨le11x4, g11x4, rfl, at11x4, ge11x4⟩
    replace hbl := hbl.trans le11x4
    refine ⟨hbl, ?_⟩
    replace hle := hle.trans le11x4
    replace at1 := le11x4.2 _ _ at1
    replace at18x11 := le11x4.2 _ _ at18x11
    replace at3x14 := le11x4.2 _ _ at3x14
    have lt_at11x4 := GHeap.ltg at11x4
    replace hf0 := hf0.trans le11x4
    replace hin := base_hin.mono hle
    clear hb1 i21
    have hb1 : Cat.At _ g1 0 c p := ⟨Mem.of_get at1, hin⟩
    obtain ⟨-, -, -, -, -, i11, -, -, -⟩ := hb1.get
    refine .call1 rfl rfl rfl rfl rfl @Try.call102 rfl (l01Own_c) ?_
    rintro _ H14x9 ⟨le14x9, g14x9, rfl, at14x9, ge14x9⟩
    replace hbl := hbl.trans le14x9
    refine ⟨hbl, ?_⟩
    replace hle := hle.trans le14x9
    replace at1 := le14x9.2 _ _ at1
    replace at18x11 := le14x9.2 _ _ at18x11
    replace at3x14 := le14x9.2 _ _ at3x14
    replace at11x4 := le14x9.2 _ _ at11x4
    have lt_at14x9 := GHeap.ltg at14x9
    replace hf0 := hf0.trans le14x9
    replace hin := base_hin.mono hle
    clear hb1 i11
    have hb1 : Cat.At _ g1 0 c p := ⟨Mem.of_get at1, hin⟩
    obtain ⟨-, -, -, -, -, -, -, i31, -⟩ := hb1.get
    refine .call1 rfl rfl rfl rfl rfl @Try.call102 rfl (l01Own_c) ?_
    rintro _ H17x16 ⟨le17x16, g17x16, rfl, at17x16, ge17x16⟩
    replace hbl := hbl.trans le17x16
    refine ⟨hbl, ?_⟩
    replace at18x11 := le17x16.2 _ _ at18x11
    replace at3x14 := le17x16.2 _ _ at3x14
    replace at11x4 := le17x16.2 _ _ at11x4
    replace at14x9 := le17x16.2 _ _ at14x9
    replace hf0 := hf0.trans le17x16
    refine .qB rfl hbl (.build bt_27_Hj rfl rfl rfl) ?_
    refine .r1 rfl rfl rfl (.fillA rfl sz_27_D rfl rfl rfl rfl) ?_
    rintro _ H1014x16 ⟨rfl, st1014x16, at1014x16⟩
    replace hbl := hbl.st st1014x16 (fun k hk => ⟨by omega, trivial⟩)
    refine ⟨hbl, ?_⟩
    replace at18x11 := st1014x16.s at18x11
    replace at11x4 := st1014x16.s at11x4
    replace at14x9 := st1014x16.s at14x9
    replace at17x16 := st1014x16.s at17x16
    replace hf0 := hf0.st st1014x16 (fun k hk => ⟨by omega, trivial⟩)
    refine .done ?_
    exact ⟨g11x4, g14x9, g17x16, g18x11, g3x14, ⟨rfl, rfl, rfl, rfl, rfl, rfl, rfl, rfl, trivial⟩, hf0, by omega, by omega, by omega, by omega, by omega, by first | assumption | simpa using at11x4, by first | assumption | simpa using at14x9, by first | assumption | simpa using at17x16, by first | assumption | simpa using at18x11, by first | assumption | simpa using at1014x16, by omega, by omega, by omega, by omega, by omega, by omega, by omega, by omega, by omega, by omega⟩
   refine .c1 rfl rfl rfl rfl (.allocR rfl ze_27_Hj rfl) ?_
   rintro _ H3x15 ⟨g3x15, rfl, le3x15, ge3x15, at3x15⟩
   have hbl := le3x15
   refine ⟨hbl, ?_⟩
   replace hle := hle.trans le3x15
   replace at1 := le3x15.2 _ _ at1
   have lt_at3x15 := GHeap.ltg at3x15
   replace hf0 := hf0.trans le3x15
   refine .orI ?_ ?_
   ·
    replace hin := base_hin.mono hle
    have hb1 : Cat.At _ g1 0 c p := ⟨Mem.of_get at1, hin⟩
    obtain ⟨-, -, -, -, -, -, i21, -, -⟩ := hb1.get
    refine .call1 rfl rfl rfl rfl rfl @Try.call102 rfl (l01Own_c) ?_
    rintro _ H11x5 ⟨le11x5, g11x5, rfl, at11x5, ge11x5⟩
    replace hbl := hbl.trans le11x5
    refine ⟨hbl, ?_⟩
    replace hle := hle.trans le11x5
    replace at1 := le11x5.2 _ _ at1
    replace at3x15 := le11x5.2 _ _ at3x15
    have lt_at11x5 := GHeap.ltg at11x5
    replace hf0 := hf0.trans le11x5
    refine .orI ?_ ?_
    ·
     replace hin := base_hin.mono hle
     clear hb1 i21
     have hb1 : Cat.At _ g1 0 c p := ⟨Mem.of_get at1, hin⟩
     obtain ⟨-, -, -, -, -, i11, -, -, -⟩ := hb1.get
     refine .call1 rfl rfl rfl rfl rfl @Try.call102 rfl (l01Own_c) ?_
     rintro _ H14x10 ⟨le14x10, g14x10, rfl, at14x10, ge14x10⟩
     replace hbl := hbl.trans le14x10
     refine ⟨hbl, ?_⟩
     replace hle := hle.trans le14x10
     replace at1 := le14x10.2 _ _ at1
     replace at3x15 := le14x10.2 _ _ at3x15
     replace at11x5 := le14x10.2 _ _ at11x5
     have lt_at14x10 := GHeap.ltg at14x10
     replace hf0 := hf0.trans le14x10
     refine .orI ?_ ?_
     ·
      replace hin := base_hin.mono hle
      clear hb1 i11
      have hb1 : Cat.At _ g1 0 c p := ⟨Mem.of_get at1, hin⟩
      obtain ⟨-, -, -, -, -, -, -, i31, -⟩ := hb1.get
      refine .call1 rfl rfl rfl rfl rfl @Try.call102 rfl (l01Own_c) ?_
      rintro _ H17x17 ⟨le17x17, g17x17, rfl, at17x17, ge17x17⟩
      replace hbl := hbl.trans le17x17
      refine ⟨hbl, ?_⟩
      replace at3x15 := le17x17.2 _ _ at3x15
      replace at11x5 := le17x17.2 _ _ at11x5
      replace at14x10 := le17x17.2 _ _ at14x10
      have lt_at17x17 := GHeap.ltg at17x17
      replace hf0 := hf0.trans le17x17
      refine .c1 rfl rfl rfl rfl (.litA rfl sl_25_B ze_24_Hj rfl rfl rfl rfl) ?_
      rintro _ H18x12 ⟨g18x12, rfl, le18x12, ge18x12, at18x12⟩
      replace hbl := hbl.trans le18x12
      refine ⟨hbl, ?_⟩
      replace at3x15 := le18x12.2 _ _ at3x15
      replace at11x5 := le18x12.2 _ _ at11x5
      replace at14x10 := le18x12.2 _ _ at14x10
      replace at17x17 := le18x12.2 _ _ at17x17
      replace hf0 := hf0.trans le18x12
      refine .qB rfl hbl (.build bt_27_Hj rfl rfl rfl) ?_
      refine .r1 rfl rfl rfl (.fillA rfl sz_27_D rfl rfl rfl rfl) ?_
      rintro _ H1014x17 ⟨rfl, st1014x17, at1014x17⟩
      replace hbl := hbl.st st1014x17 (fun k hk => ⟨by omega, trivial⟩)
      refine ⟨hbl, ?_⟩
      have ne_g11x5_g3x15 : NE g11x5 g3x15 := .a
      replace at11x5 := st1014x17.s at11x5 ne_g11x5_g3x15.ne
      have ne_g14x10_g3x15 : NE g14x10 g3x15 := .a
      replace at14x10 := st1014x17.s at14x10 ne_g14x10_g3x15.ne
      replace at17x17 := st1014x17.s at17x17
      replace at18x12 := st1014x17.s at18x12
      replace hf0 := hf0.st st1014x17 (fun k hk => ⟨by omega, trivial⟩)
      refine .done ?_
      exact ⟨g11x5, g14x10, g17x17, g18x12, g3x15, ⟨rfl, rfl, rfl, rfl, rfl, rfl, rfl, rfl, trivial⟩, hf0, by omega, by omega, by omega, by omega, by omega, by first | assumption | simpa using at11x5, by first | assumption | simpa using at14x10, by first | assumption | simpa using at17x17, by first | assumption | simpa using at18x12, by first | assumption | simpa using at1014x17, by omega, by omega, by omega, by omega, by omega, by omega, by omega, by omega, by omega, by omega⟩
     refine .c1 rfl rfl rfl rfl (.litA rfl sl_25_B ze_24_Hj rfl rfl rfl rfl) ?_
     rintro _ H18x13 ⟨g18x13, rfl, le18x13, ge18x13, at18x13⟩
     replace hbl := hbl.trans le18x13
     refine ⟨hbl, ?_⟩
     replace hle := hle.trans le18x13
     replace at1 := le18x13.2 _ _ at1
     replace at3x15 := le18x13.2 _ _ at3x15
     replace at11x5 := le18x13.2 _ _ at11x5
     replace at14x10 := le18x13.2 _ _ at14x10
     have lt_at18x13 := GHeap.ltg at18x13
     replace hf0 := hf0.trans le18x13
     replace hin := base_hin.mono hle
     have hb1 : Cat.At _ g1 0 c p := ⟨Mem.of_get at1, hin⟩
     obtain ⟨-, -, -, -, -, -, -, i31, -⟩ := hb1.get
     refine .call1 rfl rfl rfl rfl rfl @Try.call102 rfl (l01Own_c) ?_
     rintro _ H17x18 ⟨le17x18, g17x18, rfl, at17x18, ge17x18⟩
     replace hbl := hbl.trans le17x18
     refine ⟨hbl, ?_⟩
     replace at3x15 := le17x18.2 _ _ at3x15
     replace at11x5 := le17x18.2 _ _ at11x5
     replace at14x10 := le17x18.2 _ _ at14x10
     replace at18x13 := le17x18.2 _ _ at18x13
     replace hf0 := hf0.trans le17x18
     refine .qB rfl hbl (.build bt_27_Hj rfl rfl rfl) ?_
     refine .r1 rfl rfl rfl (.fillA rfl sz_27_D rfl rfl rfl rfl) ?_
     rintro _ H1014x18 ⟨rfl, st1014x18, at1014x18⟩
     replace hbl := hbl.st st1014x18 (fun k hk => ⟨by omega, trivial⟩)
     refine ⟨hbl, ?_⟩
     have ne_g11x5_g3x15 : NE g11x5 g3x15 := .a
     replace at11x5 := st1014x18.s at11x5 ne_g11x5_g3x15.ne
     have ne_g14x10_g3x15 : NE g14x10 g3x15 := .a
     replace at14x10 := st1014x18.s at14x10 ne_g14x10_g3x15.ne
     replace at18x13 := st1014x18.s at18x13
     replace at17x18 := st1014x18.s at17x18
     replace hf0 := hf0.st st1014x18 (fun k hk => ⟨by omega, trivial⟩)
     refine .done ?_
     exact ⟨g11x5, g14x10, g17x18, g18x13, g3x15, ⟨rfl, rfl, rfl, rfl, rfl, rfl, rfl, rfl, trivial⟩, hf0, by omega, by omega, by omega, by omega, by omega, by first | assumption | simpa using at11x5, by first | assumption | simpa using at14x10, by first | assumption | simpa using at17x18, by first | assumption | simpa using at18x13, by first | assumption | simpa using at1014x18, by omega, by omega, by omega, by omega, by omega, by omega, by omega, by omega, by omega, by omega⟩
    refine .c1 rfl rfl rfl rfl (.litA rfl sl_25_B ze_24_Hj rfl rfl rfl rfl) ?_
    rintro _ H18x14 ⟨g18x14, rfl, le18x14, ge18x14, at18x14⟩
    replace hbl := hbl.trans le18x14
    refine ⟨hbl, ?_⟩
    replace hle := hle.trans le18x14
    replace at1 := le18x14.2 _ _ at1
    replace at3x15 := le18x14.2 _ _ at3x15
    replace at11x5 := le18x14.2 _ _ at11x5
    have lt_at18x14 := GHeap.ltg at18x14
    replace hf0 := hf0.trans le18x14
    replace hin := base_hin.mono hle
    have hb1 : Cat.At _ g1 0 c p := ⟨Mem.of_get at1, hin⟩
    obtain ⟨-, -, -, -, -, i11, -, -, -⟩ := hb1.get
    refine .call1 rfl rfl rfl rfl rfl @Try.call102 rfl (l01Own_c) ?_
    rintro _ H14x11 ⟨le14x11, g14x11, rfl, at14x11, ge14x11⟩
    replace hbl := hbl.trans le14x11
    refine ⟨hbl, ?_⟩
    replace hle := hle.trans le14x11
    replace at1 := le14x11.2 _ _ at1
    replace at3x15 := le14x11.2 _ _ at3x15
    replace at11x5 := le14x11.2 _ _ at11x5
    replace at18x14 := le14x11.2 _ _ at18x14
    have lt_at14x11 := GHeap.ltg at14x11
    replace hf0 := hf0.trans le14x11
    replace hin := base_hin.mono hle
    clear hb1 i11
    have hb1 : Cat.At _ g1 0 c p := ⟨Mem.of_get at1, hin⟩
    obtain ⟨-, -, -, -, -, -, -, i31, -⟩ := hb1.get
    refine .call1 rfl rfl rfl rfl rfl @Try.call102 rfl (l01Own_c) ?_
    rintro _ H17x19 ⟨le17x19, g17x19, rfl, at17x19, ge17x19⟩
    replace hbl := hbl.trans le17x19
    refine ⟨hbl, ?_⟩
    replace at3x15 := le17x19.2 _ _ at3x15
    replace at11x5 := le17x19.2 _ _ at11x5
    replace at18x14 := le17x19.2 _ _ at18x14
    replace at14x11 := le17x19.2 _ _ at14x11
    replace hf0 := hf0.trans le17x19
    refine .qB rfl hbl (.build bt_27_Hj rfl rfl rfl) ?_
    refine .r1 rfl rfl rfl (.fillA rfl sz_27_D rfl rfl rfl rfl) ?_
    rintro _ H1014x19 ⟨rfl, st1014x19, at1014x19⟩
    replace hbl := hbl.st st1014x19 (fun k hk => ⟨by omega, trivial⟩)
    refine ⟨hbl, ?_⟩
    have ne_g11x5_g3x15 : NE g11x5 g3x15 := .a
    replace at11x5 := st1014x19.s at11x5 ne_g11x5_g3x15.ne
    replace at18x14 := st1014x19.s at18x14
    replace at14x11 := st1014x19.s at14x11
    replace at17x19 := st1014x19.s at17x19
    replace hf0 := hf0.st st1014x19 (fun k hk => ⟨by omega, trivial⟩)
    refine .done ?_
    exact ⟨g11x5, g14x11, g17x19, g18x14, g3x15, ⟨rfl, rfl, rfl, rfl, rfl, rfl, rfl, rfl, trivial⟩, hf0, by omega, by omega, by omega, by omega, by omega, by first | assumption | simpa using at11x5, by first | assumption | simpa using at14x11, by first | assumption | simpa using at17x19, by first | assumption | simpa using at18x14, by first | assumption | simpa using at1014x19, by omega, by omega, by omega, by omega, by omega, by omega, by omega, by omega, by omega, by omega⟩
   refine .c1 rfl rfl rfl rfl (.litA rfl sl_25_B ze_24_Hj rfl rfl rfl rfl) ?_
   rintro _ H18x15 ⟨g18x15, rfl, le18x15, ge18x15, at18x15⟩
   replace hbl := hbl.trans le18x15
   refine ⟨hbl, ?_⟩
   replace hle := hle.trans le18x15
   replace at1 := le18x15.2 _ _ at1
   replace at3x15 := le18x15.2 _ _ at3x15
   have lt_at18x15 := GHeap.ltg at18x15
   replace hf0 := hf0.trans le18x15
   replace hin := base_hin.mono hle
   have hb1 : Cat.At _ g1 0 c p := ⟨Mem.of_get at1, hin⟩
   obtain ⟨-, -, -, -, -, -, i21, -, -⟩ := hb1.get
   refine .call1 rfl rfl rfl rfl rfl @Try.call102 rfl (l01Own_c) ?_
   rintro _ H11x6 ⟨le11x6, g11x6, rfl, at11x6, ge11x6⟩
   replace hbl := hbl.trans le11x6
   refine ⟨hbl, ?_⟩
   replace hle := hle.trans le11x6
   replace at1 := le11x6.2 _ _ at1
   replace at3x15 := le11x6.2 _ _ at3x15
   replace at18x15 := le11x6.2 _ _ at18x15
   have lt_at11x6 := GHeap.ltg at11x6
   replace hf0 := hf0.trans le11x6
   replace hin := base_hin.mono hle
   clear hb1 i21
   have hb1 : Cat.At _ g1 0 c p := ⟨Mem.of_get at1, hin⟩
   obtain ⟨-, -, -, -, -, i11, -, -, -⟩ := hb1.get
   refine .call1 rfl rfl rfl rfl rfl @Try.call102 rfl (l01Own_c) ?_
   rintro _ H14x12 ⟨le14x12, g14x12, rfl, at14x12, ge14x12⟩
   replace hbl := hbl.trans le14x12
   refine ⟨hbl, ?_⟩
   replace hle := hle.trans le14x12
   replace at1 := le14x12.2 _ _ at1
   replace at3x15 := le14x12.2 _ _ at3x15
   replace at18x15 := le14x12.2 _ _ at18x15
   replace at11x6 := le14x12.2 _ _ at11x6
   have lt_at14x12 := GHeap.ltg at14x12
   replace hf0 := hf0.trans le14x12
   replace hin := base_hin.mono hle
   clear hb1 i11
   have hb1 : Cat.At _ g1 0 c p := ⟨Mem.of_get at1, hin⟩
   obtain ⟨-, -, -, -, -, -, -, i31, -⟩ := hb1.get
   refine .call1 rfl rfl rfl rfl rfl @Try.call102 rfl (l01Own_c) ?_
   rintro _ H17x20 ⟨le17x20, g17x20, rfl, at17x20, ge17x20⟩
   replace hbl := hbl.trans le17x20
   refine ⟨hbl, ?_⟩
   replace at3x15 := le17x20.2 _ _ at3x15
   replace at18x15 := le17x20.2 _ _ at18x15
   replace at11x6 := le17x20.2 _ _ at11x6
   replace at14x12 := le17x20.2 _ _ at14x12
   replace hf0 := hf0.trans le17x20
   refine .qB rfl hbl (.build bt_27_Hj rfl rfl rfl) ?_
   refine .r1 rfl rfl rfl (.fillA rfl sz_27_D rfl rfl rfl rfl) ?_
   rintro _ H1014x20 ⟨rfl, st1014x20, at1014x20⟩
   replace hbl := hbl.st st1014x20 (fun k hk => ⟨by omega, trivial⟩)
   refine ⟨hbl, ?_⟩
   replace at18x15 := st1014x20.s at18x15
   replace at11x6 := st1014x20.s at11x6
   replace at14x12 := st1014x20.s at14x12
   replace at17x20 := st1014x20.s at17x20
   replace hf0 := hf0.st st1014x20 (fun k hk => ⟨by omega, trivial⟩)
   refine .done ?_
   exact ⟨g11x6, g14x12, g17x20, g18x15, g3x15, ⟨rfl, rfl, rfl, rfl, rfl, rfl, rfl, rfl, trivial⟩, hf0, by omega, by omega, by omega, by omega, by omega, by first | assumption | simpa using at11x6, by first | assumption | simpa using at14x12, by first | assumption | simpa using at17x20, by first | assumption | simpa using at18x15, by first | assumption | simpa using at1014x20, by omega, by omega, by omega, by omega, by omega, by omega, by omega, by omega, by omega, by omega⟩
  rintro fr3 H3 ⟨g11, g14, g17, g18, g3, hsub3, le3, ge11, ge14, ge17, ge18, ge3, at11, at14, at17, at18, at3, ne3_0, ne3_1, ne3_2, ne3_3, ne3_4, ne3_5, ne3_6, ne3_7, ne3_8, ne3_9⟩
  have nx_H3 := le3.1
  replace hle := hle.trans le3
  replace at1 := le3.2 _ _ at1
  replace at2 := le3.2 _ _ at2
  have lt_at11 := GHeap.ltg at11
  have lt_at14 := GHeap.ltg at14
  have lt_at17 := GHeap.ltg at17
  have lt_at3 := GHeap.ltg at3
  replace hin := base_hin.mono hle
  have hb1 : Cat.At _ g1 0 c p := ⟨Mem.of_get at1, hin⟩
  refine hK2 _ _ ?_
  refine .forget hsub3 ?_
  refine .seq (fun K3 hK3 => .seq (fun K4 hK4 => .region (.mv rfl (.nil (hK4 _ _ ?_)))))
  refine .block ?_
  refine .loopR (σ := Nat × (Nat → Option Addr) × Nat) [(1, some _), (2, some _), (3, some _)] (fun (f, rc, gLC) => [(4, some (.int .i64 (f : Int)))]) (fun (f, rc, gLC) H' => St [g18, g3] H3 H' ∧ H'.get gLC = some (.row ((slsL rc (c.opTab f))) 24 true) ∧ (gLC = g18 ∨ H3.next ≤ gLC) ∧ H'.get g3 = some (.row ([.int .i64 c.obj, .slice (some ⟨g11, 0, none⟩) c.tgt.length c.tgt.length, .slice (some ⟨g14, 0, none⟩) c.src.length c.src.length, .slice (some ⟨g17, 0, none⟩) c.idn.length c.idn.length, .slice (some ⟨gLC, 0, none⟩) f f]) 27 true) ∧ gLC ≠ g3 ∧ f ≤ c.src.length ∧ OwnL H3.next H' 2 rc (c.opTab f)) (fun (f, rc, gLC) => c.src.length - f) ((0, fun _ => none, g18)) ⟨rfl, rfl, rfl, trivial⟩ ⟨rfl, trivial⟩ ?_ ?_
  ·
   refine ⟨.refl _ _, by assumption, .inl rfl, by assumption, by omega, ?_⟩
   exact ⟨by omega, .nil _ _ _ _⟩
  rintro ⟨f, rc, gLC⟩ HL1 ⟨lst1, at_LC, pl_LC, at_Lg3, ap1_0, hI⟩ KL1 hKL1
  refine .forget (fr' := [(4, some (.int .i64 (f : Int))), (1, some _), (2, some _), (3, some _)]) ⟨rfl, rfl, rfl, rfl, trivial⟩ ?_
  have ge_LC : H.next ≤ gLC := by omega
  have nx_HL1 := lst1.nx
  replace hle := hle.st lst1 (fun k hk => ⟨by omega, by omega, trivial⟩)
  have ne_g1_g3 : NE g1 g3 := .a
  replace at1 := lst1.same _ _ ⟨(by first | assumption | omega), ne_g1_g3.ne, trivial⟩ at1
  replace at2 := lst1.same _ _ ⟨(by first | assumption | omega), (by first | assumption | omega), trivial⟩ at2
  replace at11 := lst1.same _ _ ⟨(by first | assumption | omega), (by first | assumption | omega), trivial⟩ at11
  replace at14 := lst1.same _ _ ⟨(by first | assumption | omega), (by first | assumption | omega), trivial⟩ at14
  replace at17 := lst1.same _ _ ⟨(by first | assumption | omega), (by first | assumption | omega), trivial⟩ at17
  have lt_at_LC := GHeap.ltg at_LC
  have lt_at_Lg3 := GHeap.ltg at_Lg3
  replace hin := base_hin.mono hle
  clear hb1
  have hb1 : Cat.At _ g1 0 c p := ⟨Mem.of_get at1, hin⟩
  obtain ⟨-, c11, -, -, -, -, -, -, -⟩ := hb1.get
  have rk := St.refl [gLC, g3] HL1
  obtain ⟨hf, hR⟩ := hI
  have hatC := at_LC
  have hat3 := at_Lg3
  have hql := c.length_opTab f
  have hfl : (slsL rc (c.opTab f)).length = (c.opTab f).length := length_slsL _ _
  refine .seq (fun K5 hK5 => .seq (fun K6 hK6 => .region (.mv rfl (.q rfl (.fieldAddr fo_27_1_B rfl) ?_))))
  refine .q rfl (.load on_24_B rfl (by first | assumption | exact Mem.of_get at1 1 _ rfl)) ?_
  refine .q rfl (.len sl_24_A rfl) (.q rfl (.cmp rfl rfl rfl) (.nil (hK6 _ _ ?_)))
  refine .cond rfl (fun h24 => ?_) (fun h24 => ?_)
  ·
   simp only [sps] at h24
   refine .skip ?_
   refine hK5 _ _ (.seq (fun K7 hK7 => ?_))
   refine .block ?_
   refine .seq (fun K8 hK8 => .region ?_)
   refine .R rfl (.litA rfl sl_24_A ze_2_L rfl rfl rfl rfl) ?_
   rintro _ H27 ⟨g27, rfl, le27, ge27, at27⟩
   replace hle := hle.trans le27
   replace lst1 := lst1.le le27
   replace rk := rk.le le27
   replace at1 := le27.2 _ _ at1
   replace at_LC := le27.2 _ _ at_LC
   replace at_Lg3 := le27.2 _ _ at_Lg3
   have lt_at27 := GHeap.ltg at27
   replace hin := base_hin.mono hle
   clear hb1 c11
   have hb1 : Cat.At _ g1 0 c p := ⟨Mem.of_get at1, hin⟩
   replace at27 : GHeap.get H27 g27 = some (.row (ints []) 2 true) := at27
   refine .mv rfl (.nil (hK8 _ _ (.seq (fun K9 hK9 => .seq (fun K10 hK10 => .region (.mv rfl (.nil (hK10 _ _ ?_))))))))
   refine .block ?_
   refine .loopR (σ := Nat × Nat × Nat) [(1, some _), (2, some _), (3, some _), (4, some _)] (fun (g, gL5, nL5) => [(6, some (.int .i64 (g : Int))), (5, some (.slice (some ⟨gL5, 0, none⟩) nL5 nL5))]) (fun (g, gL5, nL5) H' => St [g27] H27 H' ∧ H'.get gL5 = some (.row (ints (c.opRow f g)) 2 true) ∧ (gL5 = g27 ∨ H27.next ≤ gL5) ∧ nL5 = (c.opRow f g).length ∧ g ≤ c.src.length) (fun (g, gL5, nL5) => c.src.length - g) ((0, _, _)) ⟨rfl, rfl, rfl, rfl, trivial⟩ ⟨rfl, rfl, trivial⟩ ?_ ?_
   ·
    refine ⟨.refl _ _, by assumption, .inl rfl, by rfl, ?_⟩
    omega
   rintro ⟨g, gL5, nL5⟩ HL2 ⟨lst2, at_L5, pl_L5, ln_L5, hI⟩ KL2 hKL2
   refine .forget (fr' := [(6, some (.int .i64 (g : Int))), (5, some (.slice (some ⟨gL5, 0, none⟩) nL5 nL5)), (1, some _), (2, some _), (3, some _), (4, some _)]) ⟨rfl, rfl, rfl, rfl, rfl, rfl, trivial⟩ ?_
   have ge_L5 : H.next ≤ gL5 := by omega
   have nx_HL2 := lst2.nx
   replace hle := hle.st lst2 (fun k hk => ⟨by omega, trivial⟩)
   replace lst1 := lst1.sA lst2
   replace rk := rk.sA lst2
   replace at1 := lst2.s at1
   replace at_LC := lst2.s at_LC
   replace at_Lg3 := lst2.s at_Lg3
   replace hin := base_hin.mono hle
   clear hb1
   have hb1 : Cat.At _ g1 0 c p := ⟨Mem.of_get at1, hin⟩
   obtain ⟨-, c11, -, -, c41, -, -, -, i41⟩ := hb1.get
   have hrl := c.length_opRow f g
   refine .seq (fun K11 hK11 => .seq (fun K12 hK12 => .region (.mv rfl (.q rfl (.fieldAddr fo_27_1_B rfl) ?_))))
   refine .q rfl (.load on_24_B rfl (by first | assumption | exact Mem.of_get at1 1 _ rfl)) ?_
   refine .q rfl (.len sl_24_A rfl) (.q rfl (.cmp rfl rfl rfl) (.nil (hK12 _ _ ?_)))
   refine .cond rfl (fun h32 => ?_) (fun h32 => ?_)
   ·
    simp only [sps] at h32
    have b9g := b9 g (by omega)
    have u1 := i41.2 g (by omega)
    refine .skip ?_
    refine hK11 _ _ (.seq (fun K13 hK13 => ?_))
    refine .block ?_
    refine .region (.mv rfl (.q rfl (.fieldAddr fo_27_4_B rfl) ?_))
    refine .q rfl (.load on_25_B rfl (by first | assumption | exact Mem.of_get at1 4 _ rfl)) ?_
    refine .mv rfl ?_
    refine .q rfl (.idxN sl_25_B (Intss.sl (by assumption)) rfl rfl (by omega)) ?_
    refine .q rfl (.loadR on_24_B (by assumption) rfl (by omega)) ?_
    refine .mv rfl ?_
    refine .q rfl (.idxN sl_24_A (by assumption) rfl rfl (by omega)) ?_
    refine .q rfl (.loadI on_2_A (by assumption) rfl (by omega)) ?_
    refine .R rfl (.litA rfl sl_24_A ze_2_L rfl rfl rfl rfl) ?_
    rintro _ H44 ⟨g44, rfl, le44, ge44, at44⟩
    replace hle := hle.trans le44
    replace lst2 := lst2.le le44
    replace at1 := le44.2 _ _ at1
    replace at_L5 := le44.2 _ _ at_L5
    have lt_at44 := GHeap.ltg at44
    replace hin := base_hin.mono hle
    clear hb1 c11 c41 i41
    have hb1 : Cat.At _ g1 0 c p := ⟨Mem.of_get at1, hin⟩
    clear u1
    refine .R rfl (.appendI rfl sl_24_A ze_2_L rfl by_2_L sl_24_A rfl rfl (by assumption) (by assumption) (by first | omega | (simp <;> omega)) (by omega) (by omega)) ?_
    rintro _ H45 ⟨g45, rfl, st45, ge45, at45⟩
    replace hle := hle.st st45 (fun k hk => ⟨by omega, trivial⟩)
    replace lst2 := lst2.sA st45
    replace at1 := st45.s at1
    replace hin := base_hin.mono hle
    clear hb1
    have hb1 : Cat.At _ g1 0 c p := ⟨Mem.of_get at1, hin⟩
    refine .mv rfl (.nil (hK13 _ _ (.region (.mv rfl ?_))))
    refine .q rfl (.add rfl rfl rfl (by omega) (by omega)) ?_
    refine .mv rfl (.nil ?_)
    refine hKL2 ((g + 1, _, _)) _ _ ?_ ?_ ⟨rfl, rfl, rfl, rfl, rfl, rfl, trivial⟩
    ·
     refine ⟨lst2, by (rw [Cat.opRow_snoc]; assumption), by omega, by (rw [Cat.opRow_snoc] <;> (first | omega | (simp only [List.length_append, List.length_cons, List.length_nil] <;> omega))), ?_⟩
     omega
    (dsimp only; omega)
   try simp only [sps] at h32
   refine .exit ?_
   refine hK9 _ _ (.region ?_)
   obtain rfl : g = c.src.length := by omega
   have hrl2 := ln_L5.symm
   refine .q rfl (.fieldAddr fo_27_4_B rfl) ?_
   refine .q rfl (.load on_25_B rfl (by first | assumption | exact Mem.of_get at_Lg3 4 _ rfl)) ?_
   refine .mv rfl ?_
   refine .R rfl (.litA rfl sl_25_B ze_24_Hj rfl rfl rfl rfl) ?_
   rintro _ H49 ⟨g49, rfl, le49, ge49, at49⟩
   replace hle := hle.trans le49
   replace lst1 := lst1.le le49
   replace rk := rk.le le49
   replace at1 := le49.2 _ _ at1
   replace at_LC := le49.2 _ _ at_LC
   replace at_Lg3 := le49.2 _ _ at_Lg3
   replace at_L5 := le49.2 _ _ at_L5
   have lt_at49 := GHeap.ltg at49
   replace hin := base_hin.mono hle
   have hb1 : Cat.At _ g1 0 c p := ⟨Mem.of_get at1, hin⟩
   refine .R rfl (.appendV rfl sl_25_B ze_24_Hj rfl by_24_Hj sl_25_B rfl rfl (by assumption) (by assumption) (by first | omega | (simp <;> omega)) rfl rfl (by omega) (by omega)) ?_
   rintro _ H50 ⟨g50, rfl, st50, ge50, at50⟩
   replace hle := hle.st st50 (fun k hk => ⟨by omega, trivial⟩)
   replace lst1 := lst1.sA st50
   replace rk := rk.sA st50
   replace at1 := st50.s at1
   replace at_Lg3 := st50.same _ _ ⟨(Ne.symm ap1_0), trivial⟩ at_Lg3
   replace at_L5 := st50.s at_L5
   replace hin := base_hin.mono hle
   clear hb1
   have hb1 : Cat.At _ g1 0 c p := ⟨Mem.of_get at1, hin⟩
   refine .q rfl (.fieldAddr fo_27_4_B rfl) ?_
   refine .r0 rfl rfl (.storeR rfl sz_25_Ch rfl rfl rfl (by assumption) (by first | exact Nat.le_of_ble_eq_true rfl | (simp; done) | (simp <;> omega))) ?_
   rintro _ H10006 ⟨rfl, st10006, at10006⟩
   replace hle := hle.st st10006 (fun k hk => ⟨by omega, trivial⟩)
   replace lst1 := lst1.sA st10006
   replace rk := rk.sA st10006
   replace at1 := st10006.s at1 ne_g1_g3.ne
   replace at_L5 := st10006.s at_L5
   replace at50 := st10006.s at50
   replace hin := base_hin.mono hle
   clear hb1
   have hb1 : Cat.At _ g1 0 c p := ⟨Mem.of_get at1, hin⟩
   try simp only [Nat.zero_add, List.set_cons_succ, List.set_cons_zero] at at10006
   refine .nil (hK7 _ _ (.region (.mv rfl ?_)))
   refine .q rfl (.add rfl rfl rfl (by omega) (by omega)) ?_
   refine .mv rfl (.nil ?_)
   refine hKL1 ((f + 1, upd rc (c.opTab f).length (some ⟨gL5, 0, none⟩), g50)) _ _ ?_ ?_ ⟨rfl, rfl, rfl, rfl, trivial⟩
   ·
    refine ⟨lst1, by (rw [Cat.opTab_snoc, slsL_snoc, hrl2]; assumption), by omega, by assumption, by omega, ?_⟩
    have hR' := hR.st rk (.cons (hR.neT hatC rfl) (.cons (hR.neT hat3 rfl) (.nil _ _)))
    have hb2 : HL1.next ≤ gL5 := by omega
    have hn1 := hR.ne (g := gL5) hb2
    have hrow := at_L5
    rw [Cat.opTab_snoc]
    exact ⟨by omega, hR'.snoc2 hrow hn1 (by omega)⟩
   (dsimp only; omega)
  try simp only [sps] at h24
  refine .exit ?_
  refine hK3 _ _ (.seq (fun K14 hK14 => .region ?_))
  refine .q rfl (.loadM ag_27_D rfl ⟨rfl, Mem.of_get at_Lg3⟩) ?_
  obtain rfl : f = c.src.length := by omega
  have hat2 := at2
  refine .r0 rfl rfl (.fillA rfl sz_27_D rfl rfl rfl rfl) ?_
  rintro _ H11001 ⟨rfl, st11001, at11001⟩
  replace hle := hle.st st11001 (fun k hk => ⟨by omega, trivial⟩)
  replace at1 := st11001.s at1
  replace at11 := st11001.s at11
  replace at14 := st11001.s at14
  replace at17 := st11001.s at17
  replace at_LC := st11001.s at_LC
  replace hin := base_hin.mono hle
  have hb1 : Cat.At _ g1 0 c p := ⟨Mem.of_get at1, hin⟩
  refine .nil (hK14 _ _ ?_)
  refine .ret ?_
  refine hret _ _ ?_
  refine ⟨_, _, _, _, rfl, ag_27_D, (by rfl), (Mem.of_get at11001), ?_⟩
  have hrc := (hR.st st11001 (.cons (hR.neT hat2 rfl) (.nil _ _)))
  exact ⟨hle, g11, g14, g17, gLC, rc, by simp [Cat.cells, Cat.op, ownP, b3], ⟨at11, at14, at17, at_LC, by omega, by omega, by omega, by omega, by omega, by omega, by omega, hrc.low (by omega), hR.lowNe (by omega), hR.lowNe (by omega), hR.lowNe (by omega)⟩⟩
end Go.Proofs.Ytolfggcanbpknaa
namespace Go.Proofs.Ytolfggcanbpknaa
open Go Go.GL Go.RowKit Go.Proofs
theorem then9_c {c : Cat} {p : CatP} {f k : Int} {H : GHeap} (hin : c.In H p := by assumption) (hS : c.Shape := by assumption) (h0 : 0 ≤ f := by omega) (h1 : f < c.src.length := by omega) (h2 : 0 ≤ k := by omega) (h3 : k < c.src.length := by omega) :
    GCalls Try.prog 29 [.agg (c.cells p).toArray, .int .i64 f, .int .i64 k] H (Ret (.int .i64 (c.th f k)) H) := by
  refine GCalls.ret rfl ?_
  have q1 := hS.cl
  have q2 := hS.row f.toNat (by omega)
  have q3 := hS.n40
  refine GCalls.body (N := 38) (rs := [.tmp 6]) Try.func29 rfl rfl rfl rfl (fun Qx hret hend => ?_)
  refine .fg [0, 1, 2] rfl ?_
  have hle := GHeap.Le.refl H
  have base_hin := hin
  refine .seq (fun K1 hK1 => .region ?_)
  refine .R rfl (.boxR rfl sz_27_D rfl) ?_
  rintro _ H3 ⟨g3, rfl, le3, ge3, at3⟩
  replace hle := hle.trans le3
  replace hin := base_hin.mono hle
  have hb3 : Cat.At _ g3 0 c p := ⟨Mem.of_get at3, hin⟩
  obtain ⟨-, -, -, -, c43, -, -, -, i43⟩ := hb3.get
  refine .mv rfl (.nil (hK1 _ _ (.seq (fun K2 hK2 => .seq (fun K3 hK3 => .region (.mv rfl (.q rfl (.cmp rfl rfl rfl) (.mv rfl ?_))))))))
  refine .split (fun h9 => ?_) (fun h9 => ?_)
  ·
   simp only [sps] at h9
   omega
  try simp only [sps] at h9
  refine .qg rfl (.move rfl) (.qg rfl (.cmp rfl rfl rfl) (.q rfl (.pickF rfl rfl) (.mv rfl ?_)))
  refine .split (fun h13 => ?_) (fun h13 => ?_)
  ·
   simp only [sps] at h13
   omega
  try simp only [sps] at h13
  refine .qg rfl (.move rfl) (.qg rfl (.fieldAddr fo_27_4_B rfl) ?_)
  refine .qg rfl (.load on_25_B rfl (by first | assumption | exact Mem.of_get at3 4 _ rfl)) ?_
  refine .qg rfl (.len sl_25_B rfl) (.qg rfl (.cmp rfl rfl rfl) (.q rfl (.pickF rfl rfl) (.mv rfl ?_)))
  refine .split (fun h20 => ?_) (fun h20 => ?_)
  ·
   simp only [sps] at h20
   omega
  try simp only [sps] at h20
  refine .qg rfl (.move rfl) (.qg rfl (.fieldAddr fo_27_4_B rfl) ?_)
  refine .qg rfl (.load on_25_B rfl (by first | assumption | exact Mem.of_get at3 4 _ rfl)) ?_
  refine .qg rfl (.move rfl) ?_
  refine .qg rfl (.idx1 sl_25_B (Intss.sl (by assumption)) rfl rfl (by omega) (by omega)) ?_
  refine .qg rfl (.loadR on_24_B (by assumption) rfl (by omega)) ?_
  refine .qg rfl (.len sl_24_A rfl) (.qg rfl (.cmp rfl rfl rfl) (.q rfl (.pickF rfl rfl) (.nil (hK3 _ _ ?_))))
  refine .cond rfl (fun h29 => ?_) (fun h29 => ?_)
  ·
   simp only [sps] at h29
   omega
  try simp only [sps] at h29
  refine .skip ?_
  refine hK2 _ _ (.seq (fun K4 hK4 => .region (.q rfl (.fieldAddr fo_27_4_B rfl) ?_)))
  refine .q rfl (.load on_25_B rfl (by first | assumption | exact Mem.of_get at3 4 _ rfl)) ?_
  refine .mv rfl ?_
  refine .q rfl (.idx1 sl_25_B (Intss.sl (by assumption)) rfl rfl (by omega) (by omega)) ?_
  have w1 := i43.2 f.toNat (by omega)
  refine .q rfl (.loadR on_24_B (by assumption) rfl (by omega)) ?_
  refine .mv rfl ?_
  refine .q rfl (.idx1 sl_24_A (by assumption) rfl rfl (by omega) (by omega)) ?_
  refine .q rfl (.loadI on_2_A (by assumption) rfl (by omega)) ?_
  refine .mv rfl (.nil (hK4 _ _ ?_))
  refine .ret ?_
  refine hret _ _ ?_
  refine ⟨_, rfl, ?_⟩
  exact ⟨rfl, hle⟩
end Go.Proofs.Ytolfggcanbpknaa
namespace Go.GL
abbrev hd (l : List Int) : Int := l.getD 0 0
def clsIn (E : Int → Int → Bool) (T : List (List Int)) (m : Int) : List (List Int) := if T.any (fun l => E m (hd l)) then T.map (fun l => if E m (hd l) then l ++ [m] else l) else T ++ [[m]]
def clsOf (E : Int → Int → Bool) (ms : List Int) : List (List Int) := ms.foldl (clsIn E) []
theorem clsOf_snoc (E : Int → Int → Bool) (ms : List Int) (m : Int) : clsOf E (ms ++ [m]) = clsIn E (clsOf E ms) m := by unfold clsOf; rw [List.foldl_append]; rfl
theorem clsOf_take {E : Int → Int → Bool} {ms : List Int} {i : Nat} (h : i < ms.length) : clsOf E (ms.take (i + 1)) = clsIn E (clsOf E (ms.take i)) (ms.getD i 0) := by
  rw [List.take_add_one, List.getElem?_eq_getElem h, List.getD_eq_getElem?_getD, List.getElem?_eq_getElem h]
  exact clsOf_snoc _ _ _
structure EqvOn (P : Int → Prop) (E : Int → Int → Bool) : Prop where
  refl : ∀ x, P x → E x x = true
  symm : ∀ x y, E x y = true → E y x = true
  trans : ∀ x y z, P x → P y → P z → E x y = true → E y z = true → E x z = true
structure ClsOk (P : Int → Prop) (E : Int → Int → Bool) (T : List (List Int)) : Prop where
  ne : ∀ i, i < T.length → 0 < (T.getD i []).length
  mem : ∀ i, i < T.length → ∀ x ∈ T.getD i [], P x ∧ E x (hd (T.getD i [])) = true
  ap : ∀ i j, i < T.length → j < T.length → i ≠ j → E (hd (T.getD i [])) (hd (T.getD j [])) = false
theorem hd_mem {l : List Int} (h : 0 < l.length) : hd l ∈ l := getD_mem h
theorem ClsOk.hd {P : Int → Prop} {E : Int → Int → Bool} {T : List (List Int)} (h : ClsOk P E T) {i : Nat} (hi : i < T.length) : P (hd (T.getD i [])) := (h.mem i hi _ (hd_mem (h.ne i hi))).1
theorem ClsOk.nil (P : Int → Prop) (E : Int → Int → Bool) : ClsOk P E [] := ⟨fun i h => by simp at h, fun i h => by simp at h, fun i j h => by simp at h⟩
theorem ClsOk.one {P : Int → Prop} {E : Int → Int → Bool} {T : List (List Int)} (hE : EqvOn P E) (h : ClsOk P E T) {m : Int} (hm : P m) {i j : Nat} (hi : i < T.length) (hj : j < T.length) (e1 : E m (GL.hd (T.getD i [])) = true) (e2 : E m (GL.hd (T.getD j [])) = true) : i = j := Classical.byContradiction fun hne => by
  have := hE.trans _ _ _ (h.hd hi) hm (h.hd hj) (hE.symm _ _ e1) e2
  rw [h.ap i j hi hj hne] at this
  cases this
theorem clsIn_set {P : Int → Prop} {E : Int → Int → Bool} {T : List (List Int)} (hE : EqvOn P E) (h : ClsOk P E T) {m : Int} (hm : P m) {i : Nat} (hi : i < T.length) (he : E m (hd (T.getD i [])) = true) : clsIn E T m = T.set i (T.getD i [] ++ [m]) := by
  have ei : T.getD i [] = T[i] := by rw [List.getD_eq_getElem?_getD, List.getElem?_eq_getElem hi]; rfl
  unfold clsIn
  rw [if_pos (List.any_eq_true.2 ⟨T[i], List.getElem_mem hi, by rw [← ei]; exact he⟩)]
  apply List.ext_getElem (by simp)
  intro j h1 h2
  have hj : j < T.length := by simpa using h1
  have ej : T.getD j [] = T[j] := by rw [List.getD_eq_getElem?_getD, List.getElem?_eq_getElem hj]; rfl
  rw [List.getElem_map, List.getElem_set]
  by_cases e : i = j
  · subst e
    rw [if_pos rfl, ← ei, if_pos he]
  · rw [if_neg e, ← ej, if_neg]
    intro q
    exact e (h.one hE hm hi hj he q)
theorem clsIn_new {E : Int → Int → Bool} {T : List (List Int)} {m : Int} (h : ∀ i, i < T.length → E m (hd (T.getD i [])) = false) : clsIn E T m = T ++ [[m]] := by
  unfold clsIn
  rw [if_neg]
  intro q
  obtain ⟨l, hl, e⟩ := List.any_eq_true.1 q
  obtain ⟨i, hi, rfl⟩ := List.mem_iff_getElem.1 hl
  have := h i hi
  rw [List.getD_eq_getElem?_getD, List.getElem?_eq_getElem hi] at this
  simp only [Option.getD_some] at this
  rw [this] at e
  cases e
theorem clsIn_cases (E : Int → Int → Bool) (T : List (List Int)) (m : Int) : (∃ i, i < T.length ∧ E m (hd (T.getD i [])) = true) ∨ ∀ i, i < T.length → E m (hd (T.getD i [])) = false := by
  by_cases h : ∃ i, i < T.length ∧ E m (hd (T.getD i [])) = true
  · exact .inl h
  · exact .inr fun i hi => Bool.eq_false_iff.2 fun q => h ⟨i, hi, q⟩
theorem getD_setL {T : List (List Int)} {i j : Nat} {ys : List Int} (hi : i < T.length) : (T.set i ys).getD j [] = if i = j then ys else T.getD j [] := by
  rw [List.getD_eq_getElem?_getD, List.getElem?_set]
  by_cases e : i = j
  · subst e
    rw [if_pos rfl, if_pos hi, if_pos rfl]; rfl
  · rw [if_neg e, if_neg e, ← List.getD_eq_getElem?_getD]
theorem hd_snoc {l : List Int} {m : Int} (h : 0 < l.length) : hd (l ++ [m]) = hd l := by
  cases l with
  | nil => simp at h
  | cons a t => rfl
theorem ClsOk.step {P : Int → Prop} {E : Int → Int → Bool} {T : List (List Int)} (hE : EqvOn P E) (h : ClsOk P E T) {m : Int} (hm : P m) : ClsOk P E (clsIn E T m) := by
  rcases clsIn_cases E T m with ⟨i, hi, he⟩ | hno
  · rw [clsIn_set hE h hm hi he]
    have hh : ∀ j, j < T.length → GL.hd ((T.set i (T.getD i [] ++ [m])).getD j []) = GL.hd (T.getD j []) := fun j hj => by
      rw [getD_setL hi]
      split
      · rename_i e; subst e; exact hd_snoc (h.ne i hi)
      · rfl
    refine ⟨fun j hj => ?_, fun j hj x hx => ?_, fun j k hj hk hne => ?_⟩
    · rw [getD_setL hi]
      split
      · simp
      · exact h.ne j (by simpa using hj)
    · have hj' : j < T.length := by simpa using hj
      rw [hh j hj']
      rw [getD_setL hi] at hx
      split at hx
      · rename_i e
        subst e
        rcases List.mem_append.1 hx with q | q
        · exact h.mem i hi x q
        · rw [List.mem_singleton] at q
          subst q
          exact ⟨hm, he⟩
      · exact h.mem j hj' x hx
    · rw [hh j (by simpa using hj), hh k (by simpa using hk)]
      exact h.ap j k (by simpa using hj) (by simpa using hk) hne
  · rw [clsIn_new hno]
    have hh : ∀ j, j < (T ++ [[m]]).length → (j < T.length ∧ (T ++ [[m]]).getD j [] = T.getD j []) ∨ (j = T.length ∧ (T ++ [[m]]).getD j [] = [m]) := fun j hj => by
      rw [List.length_append, List.length_singleton] at hj
      rw [getD_snoc]
      by_cases e : j < T.length
      · rw [if_pos e]; exact .inl ⟨e, rfl⟩
      · rw [if_neg e, if_pos (by omega)]; exact .inr ⟨by omega, rfl⟩
    refine ⟨fun j hj => ?_, fun j hj x hx => ?_, fun j k hj hk hne => ?_⟩
    · rcases hh j hj with ⟨e, q⟩ | ⟨e, q⟩
      · rw [q]; exact h.ne j e
      · rw [q]; simp
    · rcases hh j hj with ⟨e, q⟩ | ⟨e, q⟩
      · rw [q] at hx ⊢; exact h.mem j e x hx
      · rw [q] at hx ⊢
        rw [List.mem_singleton] at hx
        subst hx
        exact ⟨hm, hE.refl _ hm⟩
    · rcases hh j hj with ⟨e, q⟩ | ⟨e, q⟩ <;> rcases hh k hk with ⟨e', q'⟩ | ⟨e', q'⟩
      · rw [q, q']; exact h.ap j k e e' hne
      · rw [q, q']
        refine Bool.eq_false_iff.2 fun z => ?_
        have := hE.symm _ _ z
        rw [show GL.hd [m] = m from rfl, hno j e] at this
        cases this
      · rw [q, q']; exact hno k e'
      · omega
theorem clsOf_ok {P : Int → Prop} {E : Int → Int → Bool} (hE : EqvOn P E) {ms : List Int} (h : ∀ m ∈ ms, P m) : ClsOk P E (clsOf E ms) := by
  have key : ∀ (ms : List Int) (T : List (List Int)), ClsOk P E T → (∀ m ∈ ms, P m) → ClsOk P E (ms.foldl (clsIn E) T) := by
    intro ms
    induction ms with
    | nil => intro T h _; exact h
    | cons a t ih => intro T h hm; exact ih _ (h.step hE (hm a (by simp))) fun m hm' => hm m (by simp [hm'])
  exact key ms [] (.nil _ _) h
def totN (T : List (List Int)) (k : Nat) : Nat := ((T.take k).map List.length).sum
theorem totN_succ {T : List (List Int)} {k : Nat} (h : k < T.length) : totN T (k + 1) = totN T k + (T.getD k []).length := by
  unfold totN
  rw [List.take_add_one, List.getElem?_eq_getElem h, List.map_append, List.sum_append, List.getD_eq_getElem?_getD, List.getElem?_eq_getElem h]
  simp
theorem totN_mono {T : List (List Int)} {k : Nat} (h : k ≤ T.length) : totN T k ≤ totN T T.length := by
  obtain ⟨d, hd⟩ : ∃ d, T.length = k + d := ⟨T.length - k, by omega⟩
  have : ∀ d, k + d ≤ T.length → totN T k ≤ totN T (k + d) := by
    intro d
    induction d with
    | zero => intro _; exact Nat.le_refl _
    | succ d ih => intro hq; have := ih (by omega); rw [← Nat.add_assoc, totN_succ (by omega)]; omega
  rw [hd]
  exact this d (by omega)
theorem totN_row {T : List (List Int)} {i : Nat} (h : i < T.length) : (T.getD i []).length ≤ totN T T.length := by
  have := totN_mono (T := T) (k := i + 1) h
  rw [totN_succ h] at this
  omega
theorem sum_set {l : List Nat} : ∀ {i : Nat} {v : Nat}, i < l.length → (l.set i (l.getD i 0 + v)).sum = l.sum + v := by
  induction l with
  | nil => intro i v h; simp at h
  | cons a t ih =>
    intro i v h
    cases i with
    | zero => simp; omega
    | succ i =>
      have := ih (i := i) (v := v) (by simpa using h)
      simp only [List.set_cons_succ, List.sum_cons, List.getD_cons_succ]
      rw [this]; omega
theorem totN_all (T : List (List Int)) : totN T T.length = (T.map List.length).sum := by unfold totN; rw [List.take_length]
theorem totN_in {P : Int → Prop} {E : Int → Int → Bool} {T : List (List Int)} (hE : EqvOn P E) (h : ClsOk P E T) {m : Int} (hm : P m) : totN (clsIn E T m) (clsIn E T m).length = totN T T.length + 1 := by
  rw [totN_all, totN_all]
  rcases clsIn_cases E T m with ⟨i, hi, he⟩ | hno
  · rw [clsIn_set hE h hm hi he, List.map_set]
    have := sum_set (l := T.map List.length) (i := i) (v := 1) (by simpa using hi)
    rw [← this]
    congr 1
    congr 1
    rw [List.length_append, List.length_singleton, List.getD_eq_getElem?_getD, List.getD_eq_getElem?_getD, List.getElem?_map, List.getElem?_eq_getElem hi]
    rfl
  · rw [clsIn_new hno]; simp
theorem clsOf_tot {P : Int → Prop} {E : Int → Int → Bool} (hE : EqvOn P E) {ms : List Int} (h : ∀ m ∈ ms, P m) : totN (clsOf E ms) (clsOf E ms).length = ms.length := by
  have key : ∀ (ms : List Int) (T : List (List Int)), ClsOk P E T → (∀ m ∈ ms, P m) → totN (ms.foldl (clsIn E) T) (ms.foldl (clsIn E) T).length = totN T T.length + ms.length := by
    intro ms
    induction ms with
    | nil => intro T h _; rfl
    | cons a t ih =>
      intro T h hm
      have := ih (clsIn E T a) (h.step hE (hm a (by simp))) fun m hm' => hm m (by simp [hm'])
      rw [List.foldl_cons, this, totN_in hE h (hm a (by simp)), List.length_cons]
      omega
  have := key ms [] (.nil _ _) h
  simpa [clsOf, totN] using this
theorem ClsOk.len {P : Int → Prop} {E : Int → Int → Bool} {T : List (List Int)} (h : ClsOk P E T) : T.length ≤ totN T T.length := by
  have : ∀ k, k ≤ T.length → k ≤ totN T k := by
    intro k
    induction k with
    | zero => intro _; exact Nat.zero_le _
    | succ k ih => intro hk; have := ih (by omega); have := h.ne k hk; rw [totN_succ hk]; omega
  exact this _ (Nat.le_refl _)
theorem Cat.mem_lif {c : Cat} {f k g : Int} : g ∈ c.lif f k ↔ ∃ j : Nat, j < c.src.length ∧ c.src.getD j 0 = c.S f ∧ c.tgt.getD j 0 = c.S k ∧ c.th j k = f ∧ g = j := by
  unfold Cat.lif
  rw [List.mem_filter, Cat.mem_hom]
  simp only [sps]
  exact ⟨fun ⟨⟨j, h1, h2, h3, h4⟩, h5⟩ => ⟨j, h1, h2, h3, by rw [← h4]; exact h5, h4⟩, fun ⟨j, h1, h2, h3, h4, h5⟩ => ⟨⟨j, h1, h2, h3, h5⟩, by rw [h5]; exact h4⟩⟩
def Cat.belB (c : Cat) (m k : Int) : Bool := decide (0 < (c.lif m k).length)
def Cat.eqvB (c : Cat) (m k : Int) : Bool := c.belB m k && c.belB k m
theorem Cat.belB_iff {c : Cat} {m k : Int} : c.belB m k = true ↔ ∃ j : Nat, j < c.src.length ∧ c.src.getD j 0 = c.S m ∧ c.tgt.getD j 0 = c.S k ∧ c.th j k = m := by
  unfold Cat.belB
  rw [decide_eq_true_iff, List.length_pos_iff_exists_mem]
  exact ⟨fun ⟨g, hg⟩ => by obtain ⟨j, h1, h2, h3, h4, h5⟩ := Cat.mem_lif.1 hg; exact ⟨j, h1, h2, h3, h4⟩, fun ⟨j, h1, h2, h3, h4⟩ => ⟨j, Cat.mem_lif.2 ⟨j, h1, h2, h3, h4, rfl⟩⟩⟩
structure Cat.ToX (c : Cat) (x m : Int) : Prop where
  ge : 0 ≤ m
  lt : m < c.src.length
  tg : c.T m = x
  mono : c.Mono m
theorem Cat.belB_refl {c : Cat} (hI : c.Is) {m : Int} (h0 : 0 ≤ m) (h1 : m < c.src.length) : c.belB m m = true := by
  obtain ⟨M, rfl⟩ : ∃ M : Nat, m = (M : Int) := ⟨m.toNat, by omega⟩
  have hM : M < c.src.length := by omega
  have s1 := hI.1.src M hM
  have i1 := hI.1.idn_lt s1.1 s1.2
  have q := hI.1.ids (c.src.getD M 0).toNat (by have := hI.1.il; omega)
  have e := (hI.2.ids M hM).1
  refine Cat.belB_iff.2 ⟨(c.idn.getD (c.src.getD M 0).toNat 0).toNat, by omega, ?_, ?_, ?_⟩
  · rw [q.1, Int.toNat_of_nonneg s1.1]; rfl
  · rw [q.2, Int.toNat_of_nonneg s1.1]; rfl
  · rw [Int.toNat_of_nonneg i1.1]; exact e
theorem Cat.belB_trans {c : Cat} (hI : c.Is) {a b d : Int} (hb : 0 ≤ b ∧ b < c.src.length) (hd : 0 ≤ d ∧ d < c.src.length) (h1 : c.belB a b = true) (h2 : c.belB b d = true) : c.belB a d = true := by
  obtain ⟨j, j1, j2, j3, j4⟩ := Cat.belB_iff.1 h1
  obtain ⟨k, k1, k2, k3, k4⟩ := Cat.belB_iff.1 h2
  obtain ⟨D, rfl⟩ : ∃ D : Nat, d = (D : Int) := ⟨d.toNat, by omega⟩
  obtain ⟨p1, p2, p3, p4⟩ := hI.1.tn j1 k1 (by rw [j3, k2])
  have a1 : c.th (j : Int) k = (c.tn j k : Int) := by rw [Cat.th_nat]; exact p4
  refine Cat.belB_iff.2 ⟨c.tn j k, p1, by rw [p2, j2], by rw [p3, k3], ?_⟩
  rw [← a1, hI.2.as j j1 k k1 (by rw [j3, k2]) D (by omega) (by rw [k3]; rfl), k4, j4]
theorem Cat.eqv_on {c : Cat} (hI : c.Is) (x : Int) : EqvOn (c.ToX x) c.eqvB where
  refl m h := by unfold Cat.eqvB; rw [Cat.belB_refl hI h.ge h.lt]; rfl
  symm a b h := by unfold Cat.eqvB at h ⊢; rw [Bool.and_comm]; exact h
  trans a b d ha hb hd h1 h2 := by
    unfold Cat.eqvB at h1 h2 ⊢
    rw [Bool.and_eq_true] at h1 h2 ⊢
    exact ⟨Cat.belB_trans hI ⟨hb.ge, hb.lt⟩ ⟨hd.ge, hd.lt⟩ h1.1 h2.1, Cat.belB_trans hI ⟨hb.ge, hb.lt⟩ ⟨ha.ge, ha.lt⟩ h2.2 h1.2⟩
def Cat.intoL (c : Cat) (x : Int) : List Int := filtN c.src.length fun f => decide (c.tgt.getD f 0 = x)
noncomputable def Cat.toL (c : Cat) (x : Int) (n : Nat) : List Int := filtN n fun m => decide (c.tgt.getD m 0 = x) && B (c.Mono m)
theorem Cat.toL_mem {c : Cat} {x : Int} {n : Nat} (hn : n ≤ c.src.length) {m : Int} (h : m ∈ c.toL x n) : c.ToX x m := by
  obtain ⟨i, h1, h2, rfl⟩ := mem_filtN.1 h
  simp only [sps] at h2
  exact ⟨by omega, by omega, h2.1, h2.2⟩
noncomputable def Cat.subs (c : Cat) (x : Int) : List (List Int) := clsOf c.eqvB (c.toL x c.src.length)
theorem Cat.subs_ok {c : Cat} (hI : c.Is) (x : Int) : ClsOk (c.ToX x) c.eqvB (c.subs x) := clsOf_ok (c.eqv_on hI x) fun _ h => Cat.toL_mem (Nat.le_refl _) h
theorem Cat.subs_tot {c : Cat} (hI : c.Is) (x : Int) : totN (c.subs x) (c.subs x).length = (c.toL x c.src.length).length := clsOf_tot (c.eqv_on hI x) fun _ h => Cat.toL_mem (Nat.le_refl _) h
def NewLLC (k : Int) (xs : List (List Int)) (H : GHeap) (v : Value) (H' : GHeap) : Prop := H.Le H' ∧ ∃ a r, v = .tuple #[.slice a xs.length xs.length, .int .i64 k] ∧ IntssR H.next H' a xs r
noncomputable def codeLL (k : Int) (xs : List (List Int)) : List (List Int) := if k = 0 then xs else []
theorem codeLL_ok {k : Int} {xs : List (List Int)} (h : k = 0) : codeLL k xs = xs := by unfold codeLL; rw [if_pos h]
theorem codeLL_err {k : Int} {xs : List (List Int)} (h : k ≠ 0) : codeLL k xs = [] := by unfold codeLL; rw [if_neg h]
noncomputable def Cat.codeO (c : Cat) (xs : List Int) : Int := if B c.Is = true then (if allIn xs c.obj = true then 0 else 2) else 1
theorem Cat.codeO_ok {c : Cat} {xs : List Int} : c.codeO xs = 0 ↔ c.Is ∧ allIn xs c.obj = true := by
  unfold Cat.codeO
  by_cases h : c.Is
  · rw [if_pos (B_iff.2 h)]
    split
    · exact ⟨fun _ => ⟨h, by assumption⟩, fun _ => rfl⟩
    · exact ⟨fun e => by omega, fun e => absurd e.2 (by assumption)⟩
  · rw [if_neg (fun e => h (B_iff.1 e))]
    exact ⟨fun e => by omega, fun e => absurd e.1 h⟩
theorem Cat.codeO_not {c : Cat} {xs : List Int} (h : ¬ c.Is) : c.codeO xs = 1 := by
  unfold Cat.codeO
  rw [if_neg (fun e => h (B_iff.1 e))]
theorem Cat.codeO_out {c : Cat} {xs : List Int} (h : c.Is) (h' : ¬ allIn xs c.obj = true) : c.codeO xs = 2 := by
  unfold Cat.codeO
  rw [if_pos (B_iff.2 h), if_neg h']
theorem Cat.codeO_one {c : Cat} {x : Int} : c.codeO [x] = 0 ↔ c.Is ∧ 0 ≤ x ∧ x < c.obj := by rw [Cat.codeO_ok, allIn_one]
end Go.GL
namespace Go.Proofs.Ytolfggcanbpknaa
open Go Go.GL Go.RowKit Go.Proofs
theorem objectCode_c {g o : Nat} {c : Cat} {p : CatP} {a : Option Addr} {xs : List Int} {H : GHeap} (h : Cat.At H g o c p := by assumption) (hs : c.Small := by assumption) (hx : Ints H a xs := by assumption) (hl : xs.length ≤ 1048576 := by omega) :
    GCalls Try.prog 70 [.pointer (some ⟨g, o, none⟩), .slice a xs.length xs.length] H (Ret (.int .i64 (c.codeO xs)) H) := by
  refine GCalls.ret rfl ?_
  obtain ⟨-, -, -, -, -, n6⟩ := id hs
  refine GCalls.body (N := 15) (rs := [.tmp 4]) Try.func70 rfl rfl rfl rfl (fun Qx hret hend => ?_)
  refine .fg [0, 1] rfl ?_
  have hle := GHeap.Le.refl H
  have base_h := h
  obtain ⟨c0, -, -, -, -, -, -, -, -⟩ := h.get
  refine .seq (fun K1 hK1 => .region (.mv rfl (.nil (hK1 _ _ (.seq (fun K2 hK2 => .seq (fun K3 hK3 => .region (.mv rfl ?_))))))))
  refine .callQ rfl rfl rfl rfl @Try.call61 rfl (isCategory_c) ?_
  refine .q rfl (.not rfl) (.nil (hK3 _ _ ?_))
  refine .cond rfl (fun h7 => ?_) (fun h7 => ?_)
  ·
   try simp only [sps] at h7
   refine .seq (fun K4 hK4 => .region (.mv rfl (.nil (hK4 _ _ ?_))))
   refine .ret ?_
   refine hret _ _ ?_
   refine ⟨_, rfl, ?_⟩
   exact ⟨congrArg _ (Cat.codeO_not h7), hle⟩
  simp only [sps] at h7
  have hob := h7.1.obj
  refine .skip ?_
  refine hK2 _ _ (.seq (fun K5 hK5 => .seq (fun K6 hK6 => .region (.mv rfl (.mv rfl (.q rfl (.nilCheck rfl) (.q rfl (.fieldAddr fo_27_0_B rfl) ?_)))))))
  refine .q rfl (.load on_2_A rfl (by assumption)) ?_
  refine .callQ rfl rfl rfl rfl @Try.call86 rfl (within_c) ?_
  refine .q rfl (.not rfl) (.nil (hK6 _ _ ?_))
  refine .cond rfl (fun h14 => ?_) (fun h14 => ?_)
  ·
   try simp only [sps] at h14
   refine .seq (fun K7 hK7 => .region (.mv rfl (.nil (hK7 _ _ ?_))))
   refine .ret ?_
   refine hret _ _ ?_
   refine ⟨_, rfl, ?_⟩
   exact ⟨congrArg _ (Cat.codeO_out h7 (by rw [h14]; simp)), hle⟩
  try simp only [sps] at h14
  refine .skip ?_
  refine hK5 _ _ (.seq (fun K8 hK8 => .region (.mv rfl (.nil (hK8 _ _ ?_)))))
  refine .ret ?_
  refine hret _ _ ?_
  refine ⟨_, rfl, ?_⟩
  exact ⟨congrArg _ (Cat.codeO_ok.2 ⟨h7, allIn_iff.2 h14⟩), hle⟩
theorem into_c {g o : Nat} {c : Cat} {p : CatP} {x : Int} {H : GHeap} (h : Cat.At H g o c p := by assumption) (hS : c.Shape := by assumption) :
    GCalls Try.prog 71 [.pointer (some ⟨g, o, none⟩), .int .i64 x] H (NewInts 2 H (c.intoL x)) := by
  refine GCalls.body (N := 28) (rs := [.tmp 4]) Try.func71 rfl rfl rfl rfl (fun Qx hret hend => ?_)
  refine .fg [0, 1] rfl ?_
  have hle := GHeap.Le.refl H
  have base_h := h
  have q1 := hS.tl
  have q2 := hS.n40
  refine .seq (fun K1 hK1 => .region (.mv rfl (.nil (hK1 _ _ (.seq (fun K2 hK2 => .region ?_))))))
  refine .R rfl (.litA rfl sl_24_A ze_2_L rfl rfl rfl rfl) ?_
  rintro _ H8 ⟨g8, rfl, le8, ge8, at8⟩
  replace hle := hle.trans le8
  have lt_at8 := GHeap.ltg at8
  replace h := base_h.mono hle
  obtain ⟨-, -, c2, -, -, -, -, -, -⟩ := h.get
  replace at8 : GHeap.get H8 g8 = some (.row (ints []) 2 true) := at8
  refine .mv rfl (.nil (hK2 _ _ (.seq (fun K3 hK3 => .seq (fun K4 hK4 => .region (.mv rfl (.q rfl (.nilCheck rfl) (.q rfl (.fieldAddr fo_27_2_B rfl) ?_))))))))
  refine .q rfl (.load on_24_B rfl (by assumption)) ?_
  refine .q rfl (.len sl_24_A rfl) (.mv rfl (.nil (hK4 _ _ ?_)))
  refine .block ?_
  refine .loopR (σ := Nat × Nat × Nat) [(1, some _), (12, some _), (13, some _)] (fun (k, gL5, nL5) => [(14, some (.int .i64 (k : Int))), (5, some (.slice (some ⟨gL5, 0, none⟩) nL5 nL5))]) (fun (k, gL5, nL5) H' => St [g8] H8 H' ∧ H'.get gL5 = some (.row (ints (filtN k (fun f => decide (c.tgt.getD f 0 = x)))) 2 true) ∧ (gL5 = g8 ∨ H8.next ≤ gL5) ∧ nL5 = (filtN k (fun f => decide (c.tgt.getD f 0 = x))).length ∧ k ≤ c.tgt.length) (fun (k, gL5, nL5) => c.tgt.length - k) ((0, _, _)) ⟨rfl, rfl, rfl, trivial⟩ ⟨rfl, rfl, trivial⟩ ?_ ?_
  ·
   refine ⟨.refl _ _, by assumption, .inl rfl, by rfl, ?_⟩
   omega
  rintro ⟨k, gL5, nL5⟩ HL1 ⟨lst1, at_L5, pl_L5, ln_L5, hI⟩ KL1 hKL1
  refine .forget (fr' := [(14, some (.int .i64 (k : Int))), (5, some (.slice (some ⟨gL5, 0, none⟩) nL5 nL5)), (1, some _), (12, some _), (13, some _)]) ⟨rfl, rfl, rfl, rfl, rfl, trivial⟩ ?_
  have ge_L5 : H.next ≤ gL5 := by omega
  have nx_HL1 := lst1.nx
  replace hle := hle.st lst1 (fun k hk => ⟨by omega, trivial⟩)
  replace h := base_h.mono hle
  clear c2
  obtain ⟨-, -, -, -, -, -, i2, -, -⟩ := h.get
  have hfl := filtN_le k (fun f => decide (c.tgt.getD f 0 = x))
  refine .seq (fun K5 hK5 => .region (.q rfl (.cmp rfl rfl rfl) (.nil (hK5 _ _ (.seq (fun K6 hK6 => ?_))))))
  refine .cond rfl (fun h15 => ?_) (fun h15 => ?_)
  ·
   simp only [sps] at h15
   refine .skip ?_
   refine hK6 _ _ (.seq (fun K7 hK7 => ?_))
   refine .block ?_
   refine .seq (fun K8 hK8 => .region (.mv rfl ?_))
   refine .q rfl (.idxN sl_24_A (by assumption) rfl rfl (by omega)) ?_
   refine .q rfl (.loadI on_2_A (by assumption) rfl (by omega)) ?_
   refine .mv rfl (.mv rfl (.nil (hK8 _ _ (.seq (fun K9 hK9 => .region (.mv rfl (.mv rfl (.q rfl (.cmp rfl rfl rfl) (.nil (hK9 _ _ ?_))))))))))
   refine .cond rfl (fun h21 => ?_) (fun h21 => ?_)
   ·
    try simp only [sps] at h21
    refine .region (.mv rfl (.mv rfl ?_))
    refine .R rfl (.litA rfl sl_24_A ze_2_L rfl rfl rfl rfl) ?_
    rintro _ H24 ⟨g24, rfl, le24, ge24, at24⟩
    replace hle := hle.trans le24
    replace lst1 := lst1.le le24
    replace at_L5 := le24.2 _ _ at_L5
    have lt_at24 := GHeap.ltg at24
    replace h := base_h.mono hle
    clear i2
    refine .R rfl (.appendI rfl sl_24_A ze_2_L rfl by_2_L sl_24_A rfl rfl (by assumption) (by assumption) (by first | omega | (simp <;> omega)) (by omega) (by omega)) ?_
    rintro _ H25 ⟨g25, rfl, st25, ge25, at25⟩
    replace hle := hle.st st25 (fun k hk => ⟨by omega, trivial⟩)
    replace lst1 := lst1.sA st25
    replace h := base_h.mono hle
    refine .mv rfl (.nil (hK7 _ _ (.region ?_)))
    refine .q rfl (.add rfl rfl rfl (by omega) (by omega)) ?_
    refine .mv rfl (.nil ?_)
    refine hKL1 ((k + 1, _, _)) _ _ ?_ ?_ ⟨rfl, rfl, rfl, rfl, rfl, trivial⟩
    ·
     refine ⟨lst1, by (rw [filtN_T (decide_eq_true (by assumption))]; assumption), by omega, by (rw [filtN_T (decide_eq_true (by assumption))] <;> (first | omega | (simp only [List.length_append, List.length_cons, List.length_nil] <;> omega))), ?_⟩
     omega
    (dsimp only; omega)
   try simp only [sps] at h21
   refine .skip ?_
   refine hK7 _ _ (.region ?_)
   refine .q rfl (.add rfl rfl rfl (by omega) (by omega)) ?_
   refine .mv rfl (.nil ?_)
   refine hKL1 ((k + 1, _, _)) _ _ ?_ ?_ ⟨rfl, rfl, rfl, rfl, rfl, trivial⟩
   ·
    refine ⟨lst1, by (rw [filtN_F (decide_eq_false (by assumption))]; assumption), by omega, by (rw [filtN_F (decide_eq_false (by assumption))] <;> (first | omega | (simp only [List.length_append, List.length_cons, List.length_nil] <;> omega))), ?_⟩
    omega
   (dsimp only; omega)
  try simp only [sps] at h15
  refine .exit ?_
  refine hK3 _ _ (.seq (fun K10 hK10 => .region (.mv rfl (.mv rfl (.nil (hK10 _ _ ?_))))))
  refine .ret ?_
  refine hret _ _ ?_
  refine ⟨_, rfl, ?_⟩
  obtain rfl : k = c.tgt.length := by omega
  exact ⟨hle, gL5, by rw [ln_L5]; unfold Cat.intoL; rw [q1], by unfold Cat.intoL; rw [← q1]; exact at_L5, by omega⟩
theorem subobjects1_c {g o : Nat} {c : Cat} {p : CatP} {m k : Int} {H : GHeap} (h : Cat.At H g o c p := by assumption) (hS : c.Shape := by assumption) (h0 : 0 ≤ m := by omega) (h1 : m < c.src.length := by omega) (h2 : 0 ≤ k := by omega) (h3 : k < c.src.length := by omega) :
    GCalls Try.prog 73 [.int .i64 m, .int .i64 k, .pointer (some ⟨g, o, none⟩)] H (Ret (.bool (c.belB m k)) H) := by
  refine GCalls.ret rfl ?_
  refine GCalls.body (N := 11) (rs := [.tmp 5]) Try.func73 rfl rfl rfl rfl (fun Qx hret hend => ?_)
  refine .fg [0, 1, 2] rfl ?_
  have hle := GHeap.Le.refl H
  have base_h := h
  refine .seq (fun K1 hK1 => .region (.mv rfl (.nil (hK1 _ _ (.seq (fun K2 hK2 => .region (.mv rfl (.mv rfl ?_))))))))
  refine .call rfl rfl rfl rfl @Try.call74 rfl (lifts_c) ?_
  rintro _ H8 ⟨le8, g8, rfl, at8, ge8⟩
  replace hle := hle.trans le8
  refine .q rfl (.len sl_24_A rfl) (.q rfl (.cmp rfl rfl rfl) (.mv rfl (.nil (hK2 _ _ ?_))))
  refine .ret ?_
  refine hret _ _ ?_
  refine ⟨_, rfl, ?_⟩
  exact ⟨congrArg _ (by unfold Cat.belB; rw [Bool.eq_iff_iff]; simp only [sps]; omega), hle⟩
set_option maxHeartbeats 4000000 in
theorem classesOf_c {fn : Nat} {a : Option Addr} {ms : List Int} {cap : Array Value} {P : Int → Prop} {bel : Int → Int → Bool} {H : GHeap} (h : Ints H a ms := by assumption) (hl : ms.length ≤ 1048576 := by omega) (hP : ∀ m ∈ ms, P m) (hE : EqvOn P fun m k => bel m k && bel k m)
    (hcall : ∀ (xs : Array Value) (w : World), (callFunc fn xs).run Try.prog w = .ok (.enter fn xs) w)
    (hq : ∀ H', H.Le H' → ∀ x y, P x → P y → GCalls Try.prog fn ([.int .i64 x, .int .i64 y] ++ cap.toList) H' (Ret (.bool (bel x y)) H')) :
    GCalls Try.prog 72 [.slice a ms.length ms.length, .func (.func fn) #[] cap] H (NewIntssR H (clsOf (fun m k => bel m k && bel k m) ms)) := by
  obtain ⟨E, hEe⟩ : ∃ E : Int → Int → Bool, E = fun m k => bel m k && bel k m := ⟨_, rfl⟩
  rw [← hEe] at hE ⊢
  have hEv : ∀ m k, E m k = (bel m k && bel k m) := fun m k => by rw [hEe]
  refine GCalls.body (N := 53) (rs := [.tmp 4]) Try.func72 rfl rfl rfl rfl (fun Qx hret hend => ?_)
  refine .fg [0, 1] rfl ?_
  have hle := GHeap.Le.refl H
  have base_h := h
  refine .seq (fun K1 hK1 => .region (.mv rfl (.nil (hK1 _ _ ?_))))
  refine .scope ?_
  refine .seq (fun K2 hK2 => .region ?_)
  refine .R rfl (.litA rfl sl_25_B ze_24_Hj rfl rfl rfl rfl) ?_
  rintro _ H10 ⟨g10, rfl, le10, ge10, at10⟩
  have nx_H10 := le10.1
  replace hle := hle.trans le10
  have lt_at10 := GHeap.ltg at10
  replace h := base_h.mono hle
  refine .mv rfl (.nil (hK2 _ _ (.seq (fun K3 hK3 => ?_))))
  refine .label ?_
  refine hK3 _ _ (.seq (fun K4 hK4 => .seq (fun K5 hK5 => .region (.mv rfl (.q rfl (.len sl_24_A rfl) (.mv rfl (.nil (hK5 _ _ ?_))))))))
  refine .block ?_
  refine .loopR (σ := Nat × (Nat → Option Addr) × Nat × Nat) [(1, some _), (11, some _), (12, some _)] (fun (i, rr, gL5, nL5) => [(13, some (.int .i64 (i : Int))), (5, some (.slice (some ⟨gL5, 0, none⟩) nL5 nL5))]) (fun (i, rr, gL5, nL5) H' => St [g10] H10 H' ∧ H'.get gL5 = some (.row ((slsL rr (clsOf E (ms.take i)))) 24 true) ∧ (gL5 = g10 ∨ H10.next ≤ gL5) ∧ nL5 = (slsL rr (clsOf E (ms.take i))).length ∧ i ≤ ms.length ∧ OwnL H10.next H' 2 rr (clsOf E (ms.take i))) (fun (i, rr, gL5, nL5) => ms.length - i) ((0, fun _ => none, _, _)) ⟨rfl, rfl, rfl, trivial⟩ ⟨rfl, rfl, trivial⟩ ?_ ?_
  ·
   refine ⟨.refl _ _, by assumption, .inl rfl, by rfl, ?_⟩
   exact ⟨by omega, .nil _ _ _ _⟩
  rintro ⟨i, rr, gL5, nL5⟩ HL1 ⟨lst1, at_L5, pl_L5, ln_L5, hI⟩ KL1 hKL1
  refine .forget (fr' := [(13, some (.int .i64 (i : Int))), (5, some (.slice (some ⟨gL5, 0, none⟩) nL5 nL5)), (1, some _), (11, some _), (12, some _)]) ⟨rfl, rfl, rfl, rfl, rfl, trivial⟩ ?_
  have ge_L5 : H.next ≤ gL5 := by omega
  have nx_HL1 := lst1.nx
  replace hle := hle.st lst1 (fun k hk => ⟨by omega, trivial⟩)
  have lt_at_L5 := GHeap.ltg at_L5
  replace h := base_h.mono hle
  have rk := St.refl [gL5] HL1
  obtain ⟨hi, hR⟩ := hI
  have hat5 := at_L5
  have hfl : (slsL rr (clsOf E (ms.take i))).length = (clsOf E (ms.take i)).length := length_slsL _ _
  have hok := clsOf_ok hE (ms := ms.take i) (fun m hm => hP m (List.mem_of_mem_take hm))
  have htl := hok.len
  have htt := clsOf_tot hE (ms := ms.take i) (fun m hm => hP m (List.mem_of_mem_take hm))
  have htk : (ms.take i).length ≤ ms.length := by rw [List.length_take]; omega
  refine .seq (fun K6 hK6 => .region (.q rfl (.cmp rfl rfl rfl) (.nil (hK6 _ _ (.seq (fun K7 hK7 => ?_))))))
  refine .cond rfl (fun h14 => ?_) (fun h14 => ?_)
  ·
   simp only [sps] at h14
   have hm := hP _ (getD_mem (xs := ms) (i := i) (by omega))
   have hct := clsOf_take (E := E) (ms := ms) (i := i) (by omega)
   refine .skip ?_
   refine hK7 _ _ (.seq (fun K8 hK8 => ?_))
   refine .block ?_
   refine .seq (fun K9 hK9 => .region ?_)
   refine .q rfl (.idxN sl_24_A (by assumption) rfl rfl (by omega)) ?_
   refine .q rfl (.loadI on_2_A (by assumption) rfl (by omega)) ?_
   refine .mv rfl (.nil (hK9 _ _ (.seq (fun K10 hK10 => .seq (fun K11 hK11 => .region (.mv rfl (.q rfl (.len sl_25_B rfl) (.mv rfl (.nil (hK11 _ _ ?_))))))))))
   refine .block ?_
   refine .loopR (σ := Nat) [(1, some _), (5, some _), (7, some _), (11, some _), (12, some _), (13, some _), (17, some _), (18, some _)] (fun j => [(19, some (.int .i64 (j : Int)))]) (fun j H' => St [] HL1 H' ∧ j ≤ (clsOf E (ms.take i)).length ∧ ∀ a, a < j → E (ms.getD i 0) (hd ((clsOf E (ms.take i)).getD a [])) = false) (fun j => (clsOf E (ms.take i)).length - j) (0) ⟨rfl, rfl, rfl, rfl, rfl, rfl, rfl, rfl, trivial⟩ ⟨rfl, trivial⟩ ?_ ?_
   ·
    refine ⟨.refl _ _, ?_⟩
    exact ⟨by omega, fun a h => by omega⟩
   rintro j HL2 ⟨lst2, hI⟩ KL2 hKL2
   refine .forget (fr' := [(19, some (.int .i64 (j : Int))), (1, some _), (5, some _), (7, some _), (11, some _), (12, some _), (13, some _), (17, some _), (18, some _)]) ⟨rfl, rfl, rfl, rfl, rfl, rfl, rfl, rfl, rfl, trivial⟩ ?_
   have nx_HL2 := lst2.nx
   replace hle := hle.st lst2 (fun k hk => trivial)
   replace lst1 := lst1.sA lst2
   replace rk := rk.sA lst2
   replace at_L5 := lst2.same _ _ trivial at_L5
   replace h := base_h.mono hle
   obtain ⟨hj, hno⟩ := hI
   have hR2 := hR.st lst2 (.nil _ _)
   refine .seq (fun K12 hK12 => .region (.q rfl (.cmp rfl rfl rfl) (.nil (hK12 _ _ (.seq (fun K13 hK13 => ?_))))))
   refine .cond rfl (fun h20 => ?_) (fun h20 => ?_)
   ·
    simp only [sps] at h20
    obtain ⟨gi, hgi, hbi, hati⟩ := hR2.row j (by omega)
    have m3 := row_ne at_L5 hati rfl
    have cC := slsL_cell at_L5 (i := j) (by omega)
    rw [hgi] at cC
    have hne := hok.ne j (by omega)
    have hrw := totN_row (T := clsOf E (ms.take i)) (i := j) (by omega)
    refine .skip ?_
    refine hK13 _ _ (.seq (fun K14 hK14 => ?_))
    refine .block ?_
    refine .seq (fun K15 hK15 => .region (.mv rfl ?_))
    refine .q rfl (.idxN sl_25_B (by first | exact (Intss.sl (by assumption)) | exact SlA.of_row at_L5 (by first | rfl | (simp; done) | (simp <;> omega))) rfl rfl (by omega)) ?_
    refine .q rfl (.load on_24_B rfl cC) ?_
    have lt_hati := GHeap.ltg hati
    refine .mv rfl (.mv rfl (.nil (hK15 _ _ (.seq (fun K16 hK16 => .region (.mv rfl (.mv rfl (.mv rfl ?_))))))))
    refine .q rfl (.idxN (j := 0) sl_24_A (by first | assumption | exact SlA.of_row hati (by first | rfl | (simp; done) | (simp <;> omega))) rfl rfl (by omega)) ?_
    refine .q rfl (.loadI on_2_A (by first | assumption | exact Ints.of_get hati) rfl (by omega)) ?_
    refine .callV rfl rfl rfl rfl rfl hcall rfl ((hq _ hle _ _ hm (hok.hd (by omega)))) ?_
    rintro _ _ ⟨rfl, rfl⟩
    refine .mv rfl ?_
    refine .split (fun h30 => ?_) (fun h30 => ?_)
    ·
     try simp only [sps] at h30
     refine .qg rfl (.move rfl) (.qg rfl (.move rfl) ?_)
     refine .qg rfl (.idxN (j := 0) sl_24_A (by first | assumption | exact SlA.of_row hati (by first | rfl | (simp; done) | (simp <;> omega))) rfl rfl (by omega)) ?_
     refine .qg rfl (.loadI on_2_A (by first | assumption | exact Ints.of_get hati) rfl (by omega)) ?_
     refine .qg rfl (.move rfl) ?_
     refine .callVg rfl rfl rfl rfl rfl rfl rfl hcall rfl ((hq _ hle _ _ (hok.hd (by omega)) hm)) ?_
     rintro _ _ ⟨rfl, rfl⟩
     refine .q rfl (.pickT rfl rfl) (.nil (hK16 _ _ ?_))
     refine .cond rfl (fun h37 => ?_) (fun h37 => ?_)
     ·
      try simp only [sps] at h37
      refine .seq (fun K17 hK17 => .region ?_)
      have he : E (ms.getD i 0) (hd ((clsOf E (ms.take i)).getD j [])) = true := by
        rw [hEv, h30, h37]; rfl
      have hT := hct.trans (clsIn_set hE hok hm (by omega) he)
      refine .mv rfl (.mv rfl (.mv rfl (.mv rfl ?_)))
      refine .R rfl (.litA rfl sl_24_A ze_2_L rfl rfl rfl rfl) ?_
      rintro _ H42 ⟨g42, rfl, le42, ge42, at42⟩
      have nx_H42 := le42.1
      replace hle := hle.trans le42
      replace lst1 := lst1.le le42
      replace rk := rk.le le42
      replace lst2 := lst2.le le42
      replace at_L5 := le42.2 _ _ at_L5
      replace hati := le42.2 _ _ hati
      have lt_at42 := GHeap.ltg at42
      replace h := base_h.mono hle
      have hR3 := hR.st lst2 (.nil _ _)
      refine .R rfl (.appendI rfl sl_24_A ze_2_L rfl by_2_L sl_24_A rfl rfl (by assumption) (by assumption) (by first | omega | (simp <;> omega)) (by omega) (by omega)) ?_
      rintro _ H43 ⟨g43, rfl, st43, ge43, at43⟩
      have nx_H43 := st43.nx
      replace hle := hle.st st43 (fun k hk => ⟨by omega, trivial⟩)
      replace lst1 := lst1.sA st43
      replace at_L5 := st43.s at_L5
      replace at42 := st43.s at42
      have lt_at43 := GHeap.ltg at43
      replace h := base_h.mono hle
      have hR4 := hR3.app st43 (by omega) hgi at43 ge43 (by omega)
      have hat5b := at_L5
      refine .q rfl (.idxN sl_25_B (by first | exact (Intss.sl (by assumption)) | exact SlA.of_row at_L5 (by first | rfl | (simp; done) | (simp <;> omega))) rfl rfl (by omega)) ?_
      refine .r0 rfl rfl (.storeR rfl sz_24_Fc rfl rfl rfl (by assumption) (by first | exact Nat.le_of_ble_eq_true rfl | (simp; done) | (simp <;> omega))) ?_
      rintro _ H9007 ⟨rfl, st9007, at9007⟩
      have nx_H9007 := st9007.nx
      replace hle := hle.st st9007 (fun k hk => ⟨by omega, trivial⟩)
      replace lst1 := lst1.sA st9007
      replace at42 := st9007.s at42
      replace at43 := st9007.s at43
      have lt_at9007 := GHeap.ltg at9007
      replace h := base_h.mono hle
      obtain ⟨rN, hrN⟩ : ∃ r, r = upd rr j (some ⟨g43, 0, none⟩) := ⟨_, rfl⟩
      have hRN := hR4.st st9007 (.cons (hR4.neT hat5b rfl) (.nil _ _))
      rw [← hrN, ← hT] at hRN
      have hlN : (clsOf E (ms.take (i + 1))).length = (clsOf E (ms.take i)).length := by rw [hT, List.length_set]
      have hfN : (slsL rN (clsOf E (ms.take (i + 1)))).length = (clsOf E (ms.take (i + 1))).length := length_slsL _ _
      rw [Nat.zero_add, slsL_set (ys := (clsOf E (ms.take i)).getD j [] ++ [ms.getD i 0]) (by omega) (by rw [List.length_append, List.length_singleton]), ← hrN, ← hT] at at9007
      refine .nil (hK17 _ _ ?_)
      refine .exit ?_
      refine hK8 _ _ (.region ?_)
      refine .q rfl (.add rfl rfl rfl (by omega) (by omega)) ?_
      refine .mv rfl (.nil ?_)
      refine hKL1 ((i + 1, rN, _, _)) _ _ ?_ ?_ ⟨rfl, rfl, rfl, rfl, rfl, trivial⟩
      ·
       refine ⟨lst1, by assumption, by omega, by omega, ?_⟩
       exact ⟨by omega, hRN⟩
      (dsimp only; omega)
     try simp only [sps] at h37
     refine .skip ?_
     refine hK14 _ _ (.region ?_)
     refine .q rfl (.add rfl rfl rfl (by omega) (by omega)) ?_
     refine .mv rfl (.nil ?_)
     refine hKL2 (j + 1) _ _ ?_ ?_ ⟨rfl, rfl, rfl, rfl, rfl, rfl, rfl, rfl, rfl, trivial⟩
     ·
      refine ⟨lst2, ?_⟩
      refine ⟨by omega, fun a ha => ?_⟩
      by_cases e : a < j
      · exact hno a e
      · obtain rfl : a = j := by omega
        rw [hEv]
        first | rw [h30, Bool.false_and] | rw [h37, Bool.and_false]
     omega
    try simp only [sps] at h30
    refine .z rfl (.z rfl (.z rfl (.z rfl (.z rfl (.z rfl (.q rfl (.pickF rfl rfl) (.nil (hK16 _ _ ?_))))))))
    refine .condF rfl ?_
    refine .skip ?_
    refine hK14 _ _ (.region ?_)
    refine .q rfl (.add rfl rfl rfl (by omega) (by omega)) ?_
    refine .mv rfl (.nil ?_)
    refine hKL2 (j + 1) _ _ ?_ ?_ ⟨rfl, rfl, rfl, rfl, rfl, rfl, rfl, rfl, rfl, trivial⟩
    ·
     refine ⟨lst2, ?_⟩
     refine ⟨by omega, fun a ha => ?_⟩
     by_cases e : a < j
     · exact hno a e
     · obtain rfl : a = j := by omega
       rw [hEv]
       first | rw [h30, Bool.false_and] | rw [h37, Bool.and_false]
    omega
   try simp only [sps] at h20
   refine .exit ?_
   refine hK10 _ _ (.region ?_)
   have hT := hct.trans (clsIn_new fun a ha => hno a (by omega))
   refine .mv rfl (.mv rfl ?_)
   refine .R rfl (.litA rfl sl_24_A ze_2_L rfl rfl rfl rfl) ?_
   rintro _ H48 ⟨g48, rfl, le48, ge48, at48⟩
   have nx_H48 := le48.1
   replace hle := hle.trans le48
   replace lst1 := lst1.le le48
   replace rk := rk.le le48
   replace at_L5 := le48.2 _ _ at_L5
   have lt_at48 := GHeap.ltg at48
   replace h := base_h.mono hle
   refine .R rfl (.litA rfl sl_25_B ze_24_Hj rfl rfl rfl rfl) ?_
   rintro _ H49 ⟨g49, rfl, le49, ge49, at49⟩
   have nx_H49 := le49.1
   replace hle := hle.trans le49
   replace lst1 := lst1.le le49
   replace rk := rk.le le49
   replace at_L5 := le49.2 _ _ at_L5
   replace at48 := le49.2 _ _ at48
   have lt_at49 := GHeap.ltg at49
   replace h := base_h.mono hle
   refine .R rfl (.appendV rfl sl_25_B ze_24_Hj rfl by_24_Hj sl_25_B rfl rfl (by assumption) (by assumption) (by first | omega | (simp <;> omega)) rfl rfl (by omega) (by omega)) ?_
   rintro _ H50 ⟨g50, rfl, st50, ge50, at50⟩
   have nx_H50 := st50.nx
   replace hle := hle.st st50 (fun k hk => ⟨by omega, trivial⟩)
   replace lst1 := lst1.sA st50
   replace rk := rk.sA st50
   replace at48 := st50.s at48
   replace at49 := st50.s at49
   have lt_at50 := GHeap.ltg at50
   replace h := base_h.mono hle
   obtain ⟨rN, hrN⟩ : ∃ r, r = upd rr (clsOf E (ms.take i)).length (some ⟨g48, 0, none⟩) := ⟨_, rfl⟩
   have hRN := (hR.st rk (.cons (hR.neT hat5 rfl) (.nil _ _))).snoc2 (g := g48) (x := [ms.getD i 0]) at48 (hR.ne (by omega)) (by omega)
   rw [← hrN, ← hT] at hRN
   have hlN : (clsOf E (ms.take (i + 1))).length = (clsOf E (ms.take i)).length + 1 := by rw [hT, List.length_append, List.length_singleton]
   have hfN : (slsL rN (clsOf E (ms.take (i + 1)))).length = (clsOf E (ms.take (i + 1))).length := length_slsL _ _
   have hsn := slsL_snoc (r := rr) (xss := clsOf E (ms.take i)) (x := [ms.getD i 0]) (a := some ⟨g48, 0, none⟩)
   rw [← hrN, ← hT] at hsn
   have at50' : GHeap.get H50 g50 = some (.row (slsL rr (clsOf E (ms.take i)) ++ [.slice (some ⟨g48, 0, none⟩) 1 1]) 24 true) := at50
   rw [show [ms.getD i 0].length = 1 from rfl] at hsn
   rw [← hsn] at at50'
   refine .mv rfl (.nil (hK8 _ _ (.region ?_)))
   refine .q rfl (.add rfl rfl rfl (by omega) (by omega)) ?_
   refine .mv rfl (.nil ?_)
   refine hKL1 ((i + 1, rN, _, _)) _ _ ?_ ?_ ⟨rfl, rfl, rfl, rfl, rfl, trivial⟩
   ·
    refine ⟨lst1, by assumption, by omega, by omega, ?_⟩
    exact ⟨by omega, hRN⟩
   (dsimp only; omega)
  try simp only [sps] at h14
  refine .exit ?_
  refine hK4 _ _ (.seq (fun K18 hK18 => .region (.mv rfl (.mv rfl (.nil (hK18 _ _ ?_))))))
  refine .ret ?_
  refine hret _ _ ?_
  refine ⟨_, rfl, ?_⟩
  obtain rfl : i = ms.length := by omega
  rw [List.take_length] at at_L5 ln_L5 hfl hR
  exact ⟨hle, some ⟨gL5, 0, none⟩, rr, by rw [ln_L5, hfl], (hR.low (b' := H.next) (by omega)).done at_L5 (by omega)⟩
set_option maxHeartbeats 4000000 in
theorem subobjectsOf_c {c : Cat} {p : CatP} {x : Int} {H : GHeap} (hin : c.In H p := by assumption) (hs : c.Small := by assumption) :
    GCalls Try.prog 38 [.agg (c.cells p).toArray, .int .i64 x] H (NewLLC (c.codeO [x]) (codeLL (c.codeO [x]) (c.subs x)) H) := by
  refine GCalls.body (N := 34) (rs := [.tmp 4, .tmp 5]) Try.func38 rfl rfl rfl rfl (fun Qx hret hend => ?_)
  refine .fg [0, 1] rfl ?_
  have hle := GHeap.Le.refl H
  have base_hin := hin
  refine .seq (fun K1 hK1 => .region ?_)
  refine .R rfl (.boxR rfl sz_27_D rfl) ?_
  rintro _ H2 ⟨g2, rfl, le2, ge2, at2⟩
  replace hle := hle.trans le2
  have lt_at2 := GHeap.ltg at2
  replace hin := base_hin.mono hle
  have hb2 : Cat.At _ g2 0 c p := ⟨Mem.of_get at2, hin⟩
  refine .mv rfl (.mv rfl (.nil (hK1 _ _ (.seq (fun K2 hK2 => .seq (fun K3 hK3 => .region (.mv rfl ?_)))))))
  refine .R rfl (.litA rfl sl_24_A ze_2_L rfl rfl rfl rfl) ?_
  rintro _ H11 ⟨g11, rfl, le11, ge11, at11⟩
  replace hle := hle.trans le11
  replace at2 := le11.2 _ _ at2
  have lt_at11 := GHeap.ltg at11
  replace hin := base_hin.mono hle
  clear hb2
  have hb2 : Cat.At _ g2 0 c p := ⟨Mem.of_get at2, hin⟩
  refine .callQ rfl rfl rfl rfl @Try.call70 rfl (objectCode_c (xs := [x]) (hx := Ints.of_get (by assumption)) (hl := by simp)) ?_
  refine .mv rfl (.nil (hK3 _ _ (.seq (fun K4 hK4 => .region (.mv rfl (.q rfl (.cmp rfl rfl rfl) (.nil (hK4 _ _ ?_))))))))
  refine .cond rfl (fun h14 => ?_) (fun h14 => ?_)
  ·
   try simp only [sps] at h14
   refine .seq (fun K5 hK5 => .region (.mv rfl (.mv rfl (.mv rfl (.nil (hK5 _ _ ?_))))))
   refine .ret ?_
   refine hret _ _ ?_
   refine ⟨_, _, rfl, rfl, ?_⟩
   rw [codeLL_err h14]; exact ⟨hle, none, fun _ => none, rfl, .nil _ _ _⟩
  simp only [sps] at h14
  obtain ⟨hIs, -, -⟩ := Cat.codeO_one.1 h14
  have hS := hIs.1
  have q1 := hS.n40
  have hle0 : (c.intoL x).length ≤ 40 := by have := filtN_le c.src.length (fun f => decide (c.tgt.getD f 0 = x)); unfold Cat.intoL; omega
  refine .skip ?_
  refine hK2 _ _ (.seq (fun K6 hK6 => .region ?_))
  refine .R rfl (.litA rfl sl_24_A ze_2_L rfl rfl rfl rfl) ?_
  rintro _ H16 ⟨g16, rfl, le16, ge16, at16⟩
  replace hle := hle.trans le16
  replace at2 := le16.2 _ _ at2
  have lt_at16 := GHeap.ltg at16
  replace hin := base_hin.mono hle
  clear hb2
  have hb2 : Cat.At _ g2 0 c p := ⟨Mem.of_get at2, hin⟩
  replace at16 : GHeap.get H16 g16 = some (.row (ints []) 2 true) := at16
  refine .mv rfl (.nil (hK6 _ _ (.seq (fun K7 hK7 => .seq (fun K8 hK8 => .region (.mv rfl ?_))))))
  refine .call rfl rfl rfl rfl @Try.call71 rfl (into_c) ?_
  rintro _ H18 ⟨le18, g18, rfl, at18, ge18⟩
  replace hle := hle.trans le18
  replace at2 := le18.2 _ _ at2
  replace at16 := le18.2 _ _ at16
  have lt_at18 := GHeap.ltg at18
  replace hin := base_hin.mono hle
  clear hb2
  have hb2 : Cat.At _ g2 0 c p := ⟨Mem.of_get at2, hin⟩
  refine .q rfl (.len sl_24_A rfl) (.mv rfl (.nil (hK8 _ _ ?_)))
  refine .block ?_
  refine .loopR (σ := Nat × Nat × Nat) [(2, some _), (18, some _), (19, some _)] (fun (k, gL7, nL7) => [(20, some (.int .i64 (k : Int))), (7, some (.slice (some ⟨gL7, 0, none⟩) nL7 nL7))]) (fun (k, gL7, nL7) H' => St [g16] H18 H' ∧ H'.get gL7 = some (.row (ints (((c.intoL x).take k).filter fun m => B (c.Mono m))) 2 true) ∧ (gL7 = g16 ∨ H18.next ≤ gL7) ∧ nL7 = (((c.intoL x).take k).filter fun m => B (c.Mono m)).length ∧ k ≤ (c.intoL x).length) (fun (k, gL7, nL7) => (c.intoL x).length - k) ((0, _, _)) ⟨rfl, rfl, rfl, trivial⟩ ⟨rfl, rfl, trivial⟩ ?_ ?_
  ·
   refine ⟨.refl _ _, by assumption, .inl rfl, by rfl, ?_⟩
   omega
  rintro ⟨k, gL7, nL7⟩ HL1 ⟨lst1, at_L7, pl_L7, ln_L7, hI⟩ KL1 hKL1
  refine .forget (fr' := [(20, some (.int .i64 (k : Int))), (7, some (.slice (some ⟨gL7, 0, none⟩) nL7 nL7)), (2, some _), (18, some _), (19, some _)]) ⟨rfl, rfl, rfl, rfl, rfl, trivial⟩ ?_
  have ge_L7 : H.next ≤ gL7 := by omega
  have nx_HL1 := lst1.nx
  replace hle := hle.st lst1 (fun k hk => ⟨by omega, trivial⟩)
  replace at2 := lst1.s at2
  replace at18 := lst1.s at18
  replace hin := base_hin.mono hle
  clear hb2
  have hb2 : Cat.At _ g2 0 c p := ⟨Mem.of_get at2, hin⟩
  have i18 := Ints.of_get at18
  have hfl := filt_le (c.intoL x) (fun m => B (c.Mono m)) k
  refine .seq (fun K9 hK9 => .region (.q rfl (.cmp rfl rfl rfl) (.nil (hK9 _ _ (.seq (fun K10 hK10 => ?_))))))
  refine .cond rfl (fun h21 => ?_) (fun h21 => ?_)
  ·
   simp only [sps] at h21
   obtain ⟨j, j1, -, j3⟩ := filtN_get (n := c.src.length) (p := fun f => decide (c.tgt.getD f 0 = x)) (i := k) (show k < (c.intoL x).length by omega)
   have j4 : (c.intoL x).getD k 0 = (j : Int) := j3
   refine .skip ?_
   refine hK10 _ _ (.seq (fun K11 hK11 => ?_))
   refine .block ?_
   refine .seq (fun K12 hK12 => .region ?_)
   refine .q rfl (.idxN sl_24_A (by first | assumption | exact SlA.of_row at18 (by first | rfl | (simp; done) | (simp <;> omega))) rfl rfl (by omega)) ?_
   refine .q rfl (.loadI on_2_A (by first | assumption | exact Ints.of_get at18) rfl (by omega)) ?_
   refine .mv rfl (.nil (hK12 _ _ (.seq (fun K13 hK13 => .region (.mv rfl ?_)))))
   refine .callQ rfl rfl rfl rfl @Try.call59 rfl (isMono_c) ?_
   refine .nil (hK13 _ _ ?_)
   refine .cond rfl (fun h25 => ?_) (fun h25 => ?_)
   ·
    try simp only [sps] at h25
    refine .region (.mv rfl (.mv rfl ?_))
    refine .R rfl (.litA rfl sl_24_A ze_2_L rfl rfl rfl rfl) ?_
    rintro _ H28 ⟨g28, rfl, le28, ge28, at28⟩
    replace hle := hle.trans le28
    replace lst1 := lst1.le le28
    replace at2 := le28.2 _ _ at2
    replace at_L7 := le28.2 _ _ at_L7
    have lt_at28 := GHeap.ltg at28
    replace hin := base_hin.mono hle
    clear hb2
    have hb2 : Cat.At _ g2 0 c p := ⟨Mem.of_get at2, hin⟩
    clear i18
    refine .R rfl (.appendI rfl sl_24_A ze_2_L rfl by_2_L sl_24_A rfl rfl (by assumption) (by assumption) (by first | omega | (simp <;> omega)) (by omega) (by omega)) ?_
    rintro _ H29 ⟨g29, rfl, st29, ge29, at29⟩
    replace hle := hle.st st29 (fun k hk => ⟨by omega, trivial⟩)
    replace lst1 := lst1.sA st29
    replace at2 := st29.s at2
    replace hin := base_hin.mono hle
    clear hb2
    have hb2 : Cat.At _ g2 0 c p := ⟨Mem.of_get at2, hin⟩
    refine .mv rfl (.nil (hK11 _ _ (.region ?_)))
    refine .q rfl (.add rfl rfl rfl (by omega) (by omega)) ?_
    refine .mv rfl (.nil ?_)
    refine hKL1 ((k + 1, _, _)) _ _ ?_ ?_ ⟨rfl, rfl, rfl, rfl, rfl, trivial⟩
    ·
     refine ⟨lst1, by (rw [filt_T (by omega) (B_true (by assumption))]; assumption), by omega, by (rw [filt_T (by omega) (B_true (by assumption))] <;> (first | omega | (simp only [List.length_append, List.length_cons, List.length_nil] <;> omega))), ?_⟩
     omega
    (dsimp only; omega)
   try simp only [sps] at h25
   refine .skip ?_
   refine hK11 _ _ (.region ?_)
   refine .q rfl (.add rfl rfl rfl (by omega) (by omega)) ?_
   refine .mv rfl (.nil ?_)
   refine hKL1 ((k + 1, _, _)) _ _ ?_ ?_ ⟨rfl, rfl, rfl, rfl, rfl, trivial⟩
   ·
    refine ⟨lst1, by (rw [filt_F (by omega) (B_false (by assumption))]; assumption), by omega, by (rw [filt_F (by omega) (B_false (by assumption))] <;> (first | omega | (simp only [List.length_append, List.length_cons, List.length_nil] <;> omega))), ?_⟩
    omega
   (dsimp only; omega)
  try simp only [sps] at h21
  refine .exit ?_
  refine hK7 _ _ (.seq (fun K14 hK14 => .region ?_))
  obtain rfl : k = (c.intoL x).length := by omega
  obtain rfl := ln_L7
  have hms : ((c.intoL x).take (c.intoL x).length).filter (fun m => B (c.Mono m)) = c.toL x c.src.length := by
    rw [List.take_length]; unfold Cat.intoL Cat.toL; rw [filter_filtN]
  rw [hms] at at_L7 hfl
  rw [hms]
  refine .mv rfl (.q rfl (.makeFunc rfl) ?_)
  refine .call rfl rfl rfl rfl @Try.call72 rfl (classesOf_c (P := c.ToX x) (bel := c.belB) (h := Ints.of_get at_L7) (hl := by omega) (fun m hm => Cat.toL_mem (Nat.le_refl _) hm) (Cat.eqv_on hIs x) @Try.call73 (fun H' hl' y z hy hz => subobjects1_c (hb2.mono hl') hS hy.ge hy.lt hz.ge hz.lt)) ?_
  rintro _ H33 ⟨le33, a33, r33, rfl, v33⟩
  replace hle := hle.trans le33
  replace at2 := le33.2 _ _ at2
  replace hin := base_hin.mono hle
  clear hb2
  have hb2 : Cat.At _ g2 0 c p := ⟨Mem.of_get at2, hin⟩
  refine .mv rfl (.mv rfl (.nil (hK14 _ _ ?_)))
  refine .ret ?_
  refine hret _ _ ?_
  refine ⟨_, _, rfl, rfl, ?_⟩
  rw [codeLL_ok h14, h14]; exact ⟨hle, a33, r33, rfl, v33.keep (.of_le (.refl _)) (by omega)⟩
end Go.Proofs.Ytolfggcanbpknaa
namespace Go.Proofs.Ytolfggcanbpknaa
open Go Go.GL Go.RowKit Go.Proofs
theorem sz_118_Dg : (Try.prog.info? 118).map (·.size) = some 3 := by kernel_rfl
theorem fo_118_0_Dg : fieldOff Try.prog 118 0 = some 0 := by kernel_rfl
theorem fo_118_1_Dg : fieldOff Try.prog 118 1 = some 1 := by kernel_rfl
theorem fo_118_2_Dg : fieldOff Try.prog 118 2 = some 2 := by kernel_rfl
theorem l01Less_c {a b : Option Addr} {xs ys : List Int} {H : GHeap} (ha : Ints H a xs := by assumption) (hb : Ints H b ys := by assumption) (hx : xs.length ≤ 1048576 := by omega) :
    GCalls Try.prog 129 [.slice a xs.length xs.length, .slice b ys.length ys.length] H (fun v H' => H.Le H' ∧ ∃ q, v = .bool q) := by
  refine GCalls.body (N := 41) (rs := [.tmp 4]) Try.func129 rfl rfl rfl rfl (fun Qx hret hend => ?_)
  refine .fg [0, 1] rfl ?_
  have hle := GHeap.Le.refl H
  have base_ha := ha
  have base_hb := hb
  refine .seq (fun K1 hK1 => .region (.mv rfl (.nil (hK1 _ _ (.seq (fun K2 hK2 => .seq (fun K3 hK3 => .region (.mv rfl (.nil (hK3 _ _ ?_))))))))))
  refine .block ?_
  refine .loopR (σ := Nat) [(0, some _), (1, some _)] (fun i => [(5, some (.int .i64 (i : Int)))]) (fun i H' => H = H' ∧ i ≤ xs.length) (fun i => xs.length - i) (0) ⟨rfl, rfl, trivial⟩ ⟨rfl, trivial⟩ ?_ ?_
  ·
   refine ⟨rfl, ?_⟩
   omega
  rintro i _ ⟨rfl, hI⟩ KL1 hKL1
  refine .forget (fr' := [(5, some (.int .i64 (i : Int))), (0, some _), (1, some _)]) ⟨rfl, rfl, rfl, trivial⟩ ?_
  refine .seq (fun K4 hK4 => .seq (fun K5 hK5 => .region (.mv rfl (.mv rfl (.q rfl (.len sl_24_A rfl) (.q rfl (.cmp rfl rfl rfl) (.mv rfl ?_)))))))
  refine .split (fun h10 => ?_) (fun h10 => ?_)
  ·
   simp only [sps] at h10
   refine .qg rfl (.move rfl) (.qg rfl (.move rfl) (.qg rfl (.len sl_24_A rfl) (.qg rfl (.cmp rfl rfl rfl) (.q rfl (.pickT rfl rfl) (.nil (hK5 _ _ ?_))))))
   refine .cond rfl (fun h15 => ?_) (fun h15 => ?_)
   ·
    simp only [sps] at h15
    refine .skip ?_
    refine hK4 _ _ (.seq (fun K6 hK6 => ?_))
    refine .block ?_
    refine .seq (fun K7 hK7 => ?_)
    refine .regionD mo_B (.q 0 (.q 1 (.q 2 (.q 3 (.q 4 (.q 5 (.q 6 (.q 7 (.q 8 (.done)))))))))) (by kernel_rfl) ?_
    refine .mv rfl rfl (.mv rfl rfl ?_)
    refine .q rfl (.idxN sl_24_A (by assumption) rfl rfl (by omega)) ?_
    refine .q rfl (.loadI on_2_A (by assumption) rfl (by omega)) ?_
    refine .mv rfl rfl (.mv rfl rfl ?_)
    refine .q rfl (.idxN sl_24_A (by assumption) rfl rfl (by omega)) ?_
    refine .q rfl (.loadI on_2_A (by assumption) rfl (by omega)) ?_
    refine .q rfl (.cmp rfl rfl rfl) ?_
    refine .done ?_
    refine hK7 _ _ ?_
    refine .cond rfl (fun h26 => ?_) (fun h26 => ?_)
    ·
     try simp only [sps] at h26
     refine .seq (fun K8 hK8 => ?_)
     refine .regionD mo_B (.q 0 (.q 1 (.q 2 (.q 3 (.q 4 (.q 5 (.q 6 (.q 7 (.q 8 (.q 9 (.done))))))))))) (by kernel_rfl) ?_
     refine .mv rfl rfl (.mv rfl rfl ?_)
     refine .q rfl (.idxN sl_24_A (by assumption) rfl rfl (by omega)) ?_
     refine .q rfl (.loadI on_2_A (by assumption) rfl (by omega)) ?_
     refine .mv rfl rfl (.mv rfl rfl ?_)
     refine .q rfl (.idxN sl_24_A (by assumption) rfl rfl (by omega)) ?_
     refine .q rfl (.loadI on_2_A (by assumption) rfl (by omega)) ?_
     refine .q rfl (.cmp rfl rfl rfl) (.mv rfl rfl ?_)
     refine .done ?_
     refine hK8 _ _ ?_
     refine .ret ?_
     refine hret _ _ ?_
     refine ⟨_, rfl, ?_⟩
     exact ⟨hle, _, rfl⟩
    try simp only [sps] at h26
    refine .skip ?_
    refine hK6 _ _ (.region (.mv rfl ?_))
    refine .q rfl (.add rfl rfl rfl (by omega) (by omega)) ?_
    refine .mv rfl (.nil ?_)
    refine hKL1 (i + 1) _ _ ?_ ?_ ⟨rfl, rfl, rfl, trivial⟩
    ·
     refine ⟨rfl, ?_⟩
     omega
    omega
   simp only [sps] at h15
   refine .exit ?_
   refine hK2 _ _ (.seq (fun K9 hK9 => .region (.mv rfl (.q rfl (.len sl_24_A rfl) (.mv rfl (.q rfl (.len sl_24_A rfl) (.q rfl (.cmp rfl rfl rfl) (.mv rfl (.nil (hK9 _ _ ?_))))))))))
   refine .ret ?_
   refine hret _ _ ?_
   refine ⟨_, rfl, ?_⟩
   exact ⟨hle, _, rfl⟩
  simp only [sps] at h10
  refine .z rfl (.z rfl (.z rfl (.z rfl (.q rfl (.pickF rfl rfl) (.nil (hK5 _ _ ?_))))))
  refine .condF rfl ?_
  refine .exit ?_
  refine hK2 _ _ (.seq (fun K10 hK10 => .region (.mv rfl (.q rfl (.len sl_24_A rfl) (.mv rfl (.q rfl (.len sl_24_A rfl) (.q rfl (.cmp rfl rfl rfl) (.mv rfl (.nil (hK10 _ _ ?_))))))))))
  refine .ret ?_
  refine hret _ _ ?_
  refine ⟨_, rfl, ?_⟩
  exact ⟨hle, _, rfl⟩
theorem l03Before_c {a b : Option Addr} {xs ys : List Int} {x1 x2 y1 y2 : Int} {H : GHeap} (ha : Ints H a xs := by assumption) (hb : Ints H b ys := by assumption) (hx : xs.length ≤ 1048576 := by omega) :
    GCalls Try.prog 128 [.agg #[.int .i64 x1, .int .i64 y1, .slice a xs.length xs.length], .agg #[.int .i64 x2, .int .i64 y2, .slice b ys.length ys.length]] H (fun v H' => H.Le H' ∧ ∃ q, v = .bool q) := by
  refine GCalls.body (N := 30) (rs := [.tmp 4]) Try.func128 rfl rfl rfl rfl (fun Qx hret hend => ?_)
  refine .fg [0, 1] rfl ?_
  have hle := GHeap.Le.refl H
  have base_ha := ha
  have base_hb := hb
  refine .seq (fun K1 hK1 => .region ?_)
  refine .R rfl (.boxR rfl sz_118_Dg rfl) ?_
  rintro _ H2 ⟨g2, rfl, le2, ge2, at2⟩
  replace hle := hle.trans le2
  refine .R rfl (.boxR rfl sz_118_Dg rfl) ?_
  rintro _ H3 ⟨g3, rfl, le3, ge3, at3⟩
  replace hle := hle.trans le3
  replace at2 := le3.2 _ _ at2
  replace ha := base_ha.mono hle
  replace hb := base_hb.mono hle
  refine .mv rfl (.nil (hK1 _ _ (.seq (fun K2 hK2 => .seq (fun K3 hK3 => .region (.q rfl (.fieldAddr fo_118_0_Dg rfl) ?_))))))
  refine .q rfl (.load on_2_A rfl (by first | assumption | exact Mem.of_get at2 0 _ rfl)) ?_
  refine .q rfl (.fieldAddr fo_118_0_Dg rfl) ?_
  refine .q rfl (.load on_2_A rfl (by first | assumption | exact Mem.of_get at3 0 _ rfl)) ?_
  refine .q rfl (.cmp rfl rfl rfl) (.nil (hK3 _ _ ?_))
  refine .cond rfl (fun h9 => ?_) (fun h9 => ?_)
  ·
   try simp only [sps] at h9
   refine .seq (fun K4 hK4 => .region (.q rfl (.fieldAddr fo_118_0_Dg rfl) ?_))
   refine .q rfl (.load on_2_A rfl (by first | assumption | exact Mem.of_get at2 0 _ rfl)) ?_
   refine .q rfl (.fieldAddr fo_118_0_Dg rfl) ?_
   refine .q rfl (.load on_2_A rfl (by first | assumption | exact Mem.of_get at3 0 _ rfl)) ?_
   refine .q rfl (.cmp rfl rfl rfl) (.mv rfl (.nil (hK4 _ _ ?_)))
   refine .ret ?_
   refine hret _ _ ?_
   refine ⟨_, rfl, ?_⟩
   exact ⟨hle, _, rfl⟩
  try simp only [sps] at h9
  refine .skip ?_
  refine hK2 _ _ (.seq (fun K5 hK5 => .seq (fun K6 hK6 => .region (.q rfl (.fieldAddr fo_118_1_Dg rfl) ?_))))
  refine .q rfl (.load on_2_A rfl (by first | assumption | exact Mem.of_get at2 1 _ rfl)) ?_
  refine .q rfl (.fieldAddr fo_118_1_Dg rfl) ?_
  refine .q rfl (.load on_2_A rfl (by first | assumption | exact Mem.of_get at3 1 _ rfl)) ?_
  refine .q rfl (.cmp rfl rfl rfl) (.nil (hK6 _ _ ?_))
  refine .cond rfl (fun h19 => ?_) (fun h19 => ?_)
  ·
   try simp only [sps] at h19
   refine .seq (fun K7 hK7 => .region (.q rfl (.fieldAddr fo_118_1_Dg rfl) ?_))
   refine .q rfl (.load on_2_A rfl (by first | assumption | exact Mem.of_get at2 1 _ rfl)) ?_
   refine .q rfl (.fieldAddr fo_118_1_Dg rfl) ?_
   refine .q rfl (.load on_2_A rfl (by first | assumption | exact Mem.of_get at3 1 _ rfl)) ?_
   refine .q rfl (.cmp rfl rfl rfl) (.mv rfl (.nil (hK7 _ _ ?_)))
   refine .ret ?_
   refine hret _ _ ?_
   refine ⟨_, rfl, ?_⟩
   exact ⟨hle, _, rfl⟩
  try simp only [sps] at h19
  refine .skip ?_
  refine hK5 _ _ (.seq (fun K8 hK8 => .region (.q rfl (.fieldAddr fo_118_2_Dg rfl) ?_)))
  refine .q rfl (.load on_24_B rfl (by first | assumption | exact Mem.of_get at2 2 _ rfl)) ?_
  refine .q rfl (.fieldAddr fo_118_2_Dg rfl) ?_
  refine .q rfl (.load on_24_B rfl (by first | assumption | exact Mem.of_get at3 2 _ rfl)) ?_
  refine .call rfl rfl rfl rfl @Try.call129 rfl (l01Less_c) ?_
  rintro _ H29 ⟨le29, q29, rfl⟩
  replace hle := hle.trans le29
  refine .mv rfl (.nil (hK8 _ _ ?_))
  refine .ret ?_
  refine hret _ _ ?_
  refine ⟨_, rfl, ?_⟩
  exact ⟨hle, _, rfl⟩
end Go.Proofs.Ytolfggcanbpknaa
