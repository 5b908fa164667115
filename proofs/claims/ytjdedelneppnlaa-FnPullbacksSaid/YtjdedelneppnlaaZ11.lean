/- Products of drawn categories. No condition but those of each statement. -/
import Derived.Test.YtjdedelneppnlaaZ10
namespace Go.Proofs.Ytjdedelneppnlaa
open Go Go.GL Go.RowKit Go.Proofs
set_option maxHeartbeats 8000000 in
theorem l03Product_c {c d : Cat} {p q : CatP} {H : GHeap} (hin : c.In H p := by assumption) (hin1 : d.In H q := by assumption) (hc : c.Rect 256) (hd : d.Rect 128) :
    GCalls Try.prog 140 [.agg (c.cells p).toArray, .agg (d.cells q).toArray] H (NewRc 2 22 33000 H) := by
  obtain ⟨a1, a2, a3, a4, a5, a6, a7, a8, a9, a10⟩ := id hc
  obtain ⟨b1, b2, b3, b4, b5, b6, b7, b8, b9, b10⟩ := id hd
  have m0 := mul_bd a1 b1
  refine GCalls.body (N := 174) (rs := [.cell 4 29]) Try.func140 rfl rfl rfl rfl (fun Qx hret hend => ?_)
  refine .fg [0, 1] rfl ?_
  have hle := GHeap.Le.refl H
  have base_hin := hin
  have base_hin1 := hin1
  refine .seq (fun K1 hK1 => .region ?_)
  refine .R rfl (.boxR rfl sz_29_D rfl) ?_
  rintro _ H2 ⟨g2, rfl, le2, ge2, at2⟩
  replace hle := hle.trans le2
  have lt_at2 := GHeap.ltg at2
  replace hin := base_hin.mono hle
  have hb2 : Cat.At _ g2 0 c p := ⟨Mem.of_get at2, hin⟩
  refine .R rfl (.boxR rfl sz_29_D rfl) ?_
  rintro _ H3 ⟨g3, rfl, le3, ge3, at3⟩
  replace hle := hle.trans le3
  replace at2 := le3.2 _ _ at2
  have lt_at3 := GHeap.ltg at3
  replace hin := base_hin.mono hle
  replace hin1 := base_hin1.mono hle
  clear hb2
  have hb2 : Cat.At _ g2 0 c p := ⟨Mem.of_get at2, hin⟩
  have hb3 : Cat.At _ g3 0 d q := ⟨Mem.of_get at3, hin1⟩
  refine .R rfl (.allocR rfl ze_29_Hj rfl) ?_
  rintro _ H4 ⟨g4, rfl, le4, ge4, at4⟩
  replace hle := hle.trans le4
  replace at2 := le4.2 _ _ at2
  replace at3 := le4.2 _ _ at3
  have lt_at4 := GHeap.ltg at4
  replace hin := base_hin.mono hle
  replace hin1 := base_hin1.mono hle
  clear hb2
  have hb2 : Cat.At _ g2 0 c p := ⟨Mem.of_get at2, hin⟩
  obtain ⟨c02, -, -, -, -, -, -, -, -⟩ := hb2.get
  clear hb3
  have hb3 : Cat.At _ g3 0 d q := ⟨Mem.of_get at3, hin1⟩
  obtain ⟨c03, c13, -, -, -, -, -, -, -⟩ := hb3.get
  refine .nil (hK1 _ _ (.seq (fun K2 hK2 => ?_)))
  refine .regionD mo_B (.q 0 (.q 1 (.q 2 (.q 3 (.q 4 (.q 5 (.q 6 (.done)))))))) (by kernel_rfl) ?_
  refine .q rfl (.fieldAddr fo_29_0_B rfl) ?_
  refine .q rfl (.load on_2_A rfl (by first | assumption | exact Mem.of_get at3 0 _ rfl)) ?_
  refine .q rfl (.fieldAddr fo_29_1_B rfl) ?_
  refine .q rfl (.load on_22_B rfl (by first | assumption | exact Mem.of_get at3 1 _ rfl)) ?_
  refine .q rfl (.len sl_22_A rfl) (.mv rfl rfl (.mv rfl rfl ?_))
  refine .done ?_
  refine hK2 _ _ (.seq (fun K3 hK3 => .region (.q rfl (.fieldAddr fo_29_0_B rfl) ?_)))
  refine .q rfl (.load on_2_A rfl (by first | assumption | exact Mem.of_get at2 0 _ rfl)) ?_
  refine .mv rfl ?_
  refine .q rfl (.mul rfl rfl rfl (by omega) (by omega)) ?_
  refine .R rfl (.litA rfl sl_22_A ze_2_L rfl rfl rfl rfl) ?_
  rintro _ H25 ⟨g25, rfl, le25, ge25, at25⟩
  replace hle := hle.trans le25
  replace at2 := le25.2 _ _ at2
  replace at3 := le25.2 _ _ at3
  replace at4 := le25.2 _ _ at4
  have lt_at25 := GHeap.ltg at25
  replace hin := base_hin.mono hle
  replace hin1 := base_hin1.mono hle
  clear hb2 c02
  have hb2 : Cat.At _ g2 0 c p := ⟨Mem.of_get at2, hin⟩
  clear hb3 c03 c13
  have hb3 : Cat.At _ g3 0 d q := ⟨Mem.of_get at3, hin1⟩
  replace at25 : GHeap.get H25 g25 = some (.row (ints []) 2 true) := at25
  refine .R rfl (.litA rfl sl_22_A ze_2_L rfl rfl rfl rfl) ?_
  rintro _ H26 ⟨g26, rfl, le26, ge26, at26⟩
  replace hle := hle.trans le26
  replace at2 := le26.2 _ _ at2
  replace at3 := le26.2 _ _ at3
  replace at4 := le26.2 _ _ at4
  replace at25 := le26.2 _ _ at25
  have lt_at26 := GHeap.ltg at26
  replace hin := base_hin.mono hle
  replace hin1 := base_hin1.mono hle
  clear hb2
  have hb2 : Cat.At _ g2 0 c p := ⟨Mem.of_get at2, hin⟩
  clear hb3
  have hb3 : Cat.At _ g3 0 d q := ⟨Mem.of_get at3, hin1⟩
  replace at26 : GHeap.get H26 g26 = some (.row (ints []) 2 true) := at26
  refine .R rfl (.litA rfl sl_22_A ze_2_L rfl rfl rfl rfl) ?_
  rintro _ H27 ⟨g27, rfl, le27, ge27, at27⟩
  replace hle := hle.trans le27
  replace at2 := le27.2 _ _ at2
  replace at3 := le27.2 _ _ at3
  replace at4 := le27.2 _ _ at4
  replace at25 := le27.2 _ _ at25
  replace at26 := le27.2 _ _ at26
  have lt_at27 := GHeap.ltg at27
  replace hin := base_hin.mono hle
  replace hin1 := base_hin1.mono hle
  clear hb2
  have hb2 : Cat.At _ g2 0 c p := ⟨Mem.of_get at2, hin⟩
  clear hb3
  have hb3 : Cat.At _ g3 0 d q := ⟨Mem.of_get at3, hin1⟩
  replace at27 : GHeap.get H27 g27 = some (.row (ints []) 2 true) := at27
  refine .R rfl (.litA rfl sl_23_B ze_22_Hj rfl rfl rfl rfl) ?_
  rintro _ H28 ⟨g28, rfl, le28, ge28, at28⟩
  replace hle := hle.trans le28
  replace at2 := le28.2 _ _ at2
  replace at3 := le28.2 _ _ at3
  replace at4 := le28.2 _ _ at4
  replace at25 := le28.2 _ _ at25
  replace at26 := le28.2 _ _ at26
  replace at27 := le28.2 _ _ at27
  have lt_at28 := GHeap.ltg at28
  replace hin := base_hin.mono hle
  replace hin1 := base_hin1.mono hle
  clear hb2
  have hb2 : Cat.At _ g2 0 c p := ⟨Mem.of_get at2, hin⟩
  clear hb3
  have hb3 : Cat.At _ g3 0 d q := ⟨Mem.of_get at3, hin1⟩
  refine .q rfl (.build bt_29_Hj rfl rfl rfl) ?_
  refine .R rfl (.allocR rfl ze_29_Hj rfl) ?_
  rintro _ H7 ⟨g7, rfl, le7, ge7, at7⟩
  have nx_H7 := le7.1
  replace hle := hle.trans le7
  replace at2 := le7.2 _ _ at2
  replace at3 := le7.2 _ _ at3
  replace at4 := le7.2 _ _ at4
  replace at25 := le7.2 _ _ at25
  replace at26 := le7.2 _ _ at26
  replace at27 := le7.2 _ _ at27
  replace at28 := le7.2 _ _ at28
  replace hin := base_hin.mono hle
  replace hin1 := base_hin1.mono hle
  clear hb2
  have hb2 : Cat.At _ g2 0 c p := ⟨Mem.of_get at2, hin⟩
  clear hb3
  have hb3 : Cat.At _ g3 0 d q := ⟨Mem.of_get at3, hin1⟩
  refine .r0 rfl rfl (.fillA rfl sz_29_D rfl rfl rfl rfl) ?_
  rintro _ H2010 ⟨rfl, st2010, at2010⟩
  have nx_H2010 := st2010.nx
  replace hle := hle.st st2010 (fun k hk => ⟨by omega, trivial⟩)
  have ne_g2_g7 : NE g2 g7 := .a
  replace at2 := st2010.s at2 ne_g2_g7.ne
  have ne_g3_g7 : NE g3 g7 := .a
  replace at3 := st2010.s at3 ne_g3_g7.ne
  have ne_g4_g7 : NE g4 g7 := .a
  replace at4 := st2010.s at4 ne_g4_g7.ne
  have ne_g25_g7 : NE g25 g7 := .a
  replace at25 := st2010.s at25 ne_g25_g7.ne
  have ne_g26_g7 : NE g26 g7 := .a
  replace at26 := st2010.s at26 ne_g26_g7.ne
  replace at27 := st2010.s at27
  have ne_g28_g7 : NE g28 g7 := .a
  replace at28 := st2010.s at28 ne_g28_g7.ne
  replace hin := base_hin.mono hle
  replace hin1 := base_hin1.mono hle
  clear hb2
  have hb2 : Cat.At _ g2 0 c p := ⟨Mem.of_get at2, hin⟩
  clear hb3
  have hb3 : Cat.At _ g3 0 d q := ⟨Mem.of_get at3, hin1⟩
  refine .nil (hK3 _ _ (.seq (fun K4 hK4 => .seq (fun K5 hK5 => .region (.mv rfl (.nil (hK5 _ _ ?_)))))))
  refine .block ?_
  refine .loopR (σ := Nat × List Int × Nat) [(2, some _), (3, some _), (4, some _), (5, some _), (6, some _), (7, some _)] (fun (x, is, gLI) => [(8, some (.int .i64 (x : Int)))]) (fun (x, is, gLI) H' => St [g27, g7] H2010 H' ∧ H'.get gLI = some (.row (ints is) 2 true) ∧ PL gLI g27 H2010.next ∧ H'.get g7 = some (.row ([.int .i64 (c.obj * d.obj), .slice (some ⟨g25, 0, none⟩) 0 0, .slice (some ⟨g26, 0, none⟩) 0 0, .slice (some ⟨gLI, 0, none⟩) is.length is.length, .slice (some ⟨g28, 0, none⟩) 0 0]) 29 true) ∧ gLI ≠ g7 ∧ ((x : Int) ≤ c.obj ∧ (is.length : Int) = (x : Int) * d.obj) ∧ Bd 0 33000 is) (fun (x, is, gLI) => (c.obj - x : Int).toNat) ((0, [], g27)) ⟨rfl, rfl, rfl, rfl, rfl, rfl, trivial⟩ ⟨rfl, trivial⟩ ?_ ?_
  ·
   refine ⟨.refl _ _, by assumption, ⟨.inl rfl⟩, by assumption, by omega, ?_⟩
   exact ⟨⟨by omega, by simp⟩, .nil _ _⟩
  rintro ⟨x, is, gLI⟩ HL1 ⟨lst1, at_LI, pl_LI, at_Lg7, ap1_0, hI⟩ KL1 hKL1
  refine .forget (fr' := [(8, some (.int .i64 (x : Int))), (2, some _), (3, some _), (4, some _), (5, some _), (6, some _), (7, some _)]) ⟨rfl, rfl, rfl, rfl, rfl, rfl, rfl, trivial⟩ ?_
  have ge_LI : H.next ≤ gLI := pl_LI.ge (by omega) (by omega)
  have nx_HL1 := lst1.nx
  replace hle := hle.st lst1 (fun k hk => ⟨by omega, by omega, trivial⟩)
  have ne_g2_g27 : NE g2 g27 := .a
  replace at2 := lst1.same _ _ ⟨ne_g2_g27.ne, ne_g2_g7.ne, trivial⟩ at2
  have ne_g3_g27 : NE g3 g27 := .a
  replace at3 := lst1.same _ _ ⟨ne_g3_g27.ne, ne_g3_g7.ne, trivial⟩ at3
  have ne_g4_g27 : NE g4 g27 := .a
  replace at4 := lst1.same _ _ ⟨ne_g4_g27.ne, ne_g4_g7.ne, trivial⟩ at4
  have ne_g25_g27 : NE g25 g27 := .a
  replace at25 := lst1.same _ _ ⟨ne_g25_g27.ne, ne_g25_g7.ne, trivial⟩ at25
  have ne_g26_g27 : NE g26 g27 := .a
  replace at26 := lst1.same _ _ ⟨ne_g26_g27.ne, ne_g26_g7.ne, trivial⟩ at26
  have ne_g28_g27 : NE g28 g27 := .a
  replace at28 := lst1.same _ _ ⟨ne_g28_g27.ne, ne_g28_g7.ne, trivial⟩ at28
  have lt_at_LI := GHeap.ltg at_LI
  replace hin := base_hin.mono hle
  replace hin1 := base_hin1.mono hle
  clear hb2
  have hb2 : Cat.At _ g2 0 c p := ⟨Mem.of_get at2, hin⟩
  obtain ⟨c02, -, -, -, -, -, -, -, -⟩ := hb2.get
  clear hb3
  have hb3 : Cat.At _ g3 0 d q := ⟨Mem.of_get at3, hin1⟩
  obtain ⟨⟨hx, hl⟩, hB⟩ := hI
  have mx := mul_bd (a := (x : Int)) (by omega) b1
  refine .seq (fun K6 hK6 => .seq (fun K7 hK7 => .region (.mv rfl (.q rfl (.fieldAddr fo_29_0_B rfl) ?_))))
  refine .q rfl (.load on_2_A rfl (by first | assumption | exact Mem.of_get at2 0 _ rfl)) ?_
  refine .q rfl (.cmp rfl rfl rfl) (.nil (hK7 _ _ ?_))
  refine .cond rfl (fun h33 => ?_) (fun h33 => ?_)
  ·
   simp only [sps] at h33
   have r1 := a7 x (by omega)
   refine .skip ?_
   refine hK6 _ _ (.seq (fun K8 hK8 => ?_))
   refine .block ?_
   refine .seq (fun K9 hK9 => .region (.mv rfl (.nil (hK9 _ _ ?_))))
   refine .block ?_
   refine .loopR (σ := Nat × List Int × Nat) [(2, some _), (3, some _), (4, some _), (5, some _), (6, some _), (7, some _), (8, some _)] (fun (y, i2, gLI2) => [(9, some (.int .i64 (y : Int)))]) (fun (y, i2, gLI2) H' => St [gLI, g7] HL1 H' ∧ H'.get gLI2 = some (.row (ints i2) 2 true) ∧ PL gLI2 gLI HL1.next ∧ H'.get g7 = some (.row ([.int .i64 (c.obj * d.obj), .slice (some ⟨g25, 0, none⟩) 0 0, .slice (some ⟨g26, 0, none⟩) 0 0, .slice (some ⟨gLI2, 0, none⟩) i2.length i2.length, .slice (some ⟨g28, 0, none⟩) 0 0]) 29 true) ∧ gLI2 ≠ g7 ∧ ((y : Int) ≤ d.obj ∧ (i2.length : Int) = (x : Int) * d.obj + y) ∧ Bd 0 33000 i2) (fun (y, i2, gLI2) => (d.obj - y : Int).toNat) ((0, is, gLI)) ⟨rfl, rfl, rfl, rfl, rfl, rfl, rfl, trivial⟩ ⟨rfl, trivial⟩ ?_ ?_
   ·
    refine ⟨.refl _ _, by assumption, ⟨.inl rfl⟩, by assumption, by omega, ?_⟩
    exact ⟨⟨by omega, by omega⟩, hB⟩
   rintro ⟨y, i2, gLI2⟩ HL2 ⟨lst2, at_LI2, pl_LI2, at_Lg7, ap2_0, hI⟩ KL2 hKL2
   refine .forget (fr' := [(9, some (.int .i64 (y : Int))), (2, some _), (3, some _), (4, some _), (5, some _), (6, some _), (7, some _), (8, some _)]) ⟨rfl, rfl, rfl, rfl, rfl, rfl, rfl, rfl, trivial⟩ ?_
   have ge_LI2 : H.next ≤ gLI2 := pl_LI2.ge (by omega) (by omega)
   have nx_HL2 := lst2.nx
   replace hle := hle.st lst2 (fun k hk => ⟨by omega, by omega, trivial⟩)
   replace lst1 := lst1.st lst2 (fun k hk ho => by simp only [out, and_true] at ho ⊢ <;> exact ⟨by first | exact ho | exact ho.1 | exact ho.2 | exact ho.2.1 | exact ho.2.2 | exact ho.2.2.1 | exact ho.2.2.2 | exact pl_LI.ne (by first | exact ho | exact ho.1 | exact ho.2 | exact ho.2.1 | exact ho.2.2 | exact ho.2.2.1 | exact ho.2.2.2 | omega) (by omega) | omega, by first | exact ho | exact ho.1 | exact ho.2 | exact ho.2.1 | exact ho.2.2 | exact ho.2.2.1 | exact ho.2.2.2 | omega⟩)
   have ne_g2_gLI : NE g2 gLI := ⟨pl_LI.ne ne_g2_g27.ne (by omega)⟩
   replace at2 := lst2.same _ _ ⟨ne_g2_gLI.ne, ne_g2_g7.ne, trivial⟩ at2
   have ne_g3_gLI : NE g3 gLI := ⟨pl_LI.ne ne_g3_g27.ne (by omega)⟩
   replace at3 := lst2.same _ _ ⟨ne_g3_gLI.ne, ne_g3_g7.ne, trivial⟩ at3
   have lt_at_Lg7 := GHeap.ltg at_Lg7
   replace hin := base_hin.mono hle
   replace hin1 := base_hin1.mono hle
   clear hb2 c02
   have hb2 : Cat.At _ g2 0 c p := ⟨Mem.of_get at2, hin⟩
   obtain ⟨-, -, -, c32, -, -, -, i32, -⟩ := hb2.get
   clear hb3
   have hb3 : Cat.At _ g3 0 d q := ⟨Mem.of_get at3, hin1⟩
   obtain ⟨-, -, -, c33, -, -, -, i33, -⟩ := hb3.get
   obtain ⟨⟨hy, hl⟩, hB⟩ := hI
   refine .seq (fun K10 hK10 => .seq (fun K11 hK11 => .region (.mv rfl (.mv rfl (.q rfl (.cmp rfl rfl rfl) (.nil (hK11 _ _ ?_)))))))
   refine .cond rfl (fun h38 => ?_) (fun h38 => ?_)
   ·
    simp only [sps] at h38
    have r2 := b7 y (by omega)
    have mm := mul_bd (a := c.idn.getD x 0) (b := (d.src.length : Int)) (by omega) (by omega)
    refine .skip ?_
    refine hK10 _ _ (.seq (fun K12 hK12 => ?_))
    refine .block ?_
    refine .regionD mo_B (.q 0 (.q 1 (.q 2 (.q 3 (.q 4 (.q 5 (.q 6 (.q 7 (.q 8 (.q 9 (.q 10 (.q 11 (.q 12 (.q 13 (.q 14 (.c 15 1 (.c 16 0 (.q 17 (.c 18 0 (.done)))))))))))))))))))) (by kernel_rfl) ?_
    refine .q rfl (.fieldAddr fo_29_3_B rfl) ?_
    refine .q rfl (.load on_22_B rfl (by first | assumption | exact Mem.of_get at_Lg7 3 _ rfl)) ?_
    refine .q rfl (.fieldAddr fo_29_3_B rfl) ?_
    refine .q rfl (.load on_22_B rfl (by first | assumption | exact Mem.of_get at2 3 _ rfl)) ?_
    refine .mv rfl rfl ?_
    refine .q rfl (.idxN sl_22_A (by assumption) rfl rfl (by omega)) ?_
    refine .q rfl (.loadI on_2_A (by assumption) rfl (by omega)) ?_
    refine .mv rfl rfl ?_
    refine .q rfl (.mul rfl rfl rfl (by omega) (by omega)) ?_
    refine .q rfl (.fieldAddr fo_29_3_B rfl) ?_
    refine .q rfl (.load on_22_B rfl (by first | assumption | exact Mem.of_get at3 3 _ rfl)) ?_
    refine .mv rfl rfl ?_
    refine .q rfl (.idxN sl_22_A (by assumption) rfl rfl (by omega)) ?_
    refine .q rfl (.loadI on_2_A (by assumption) rfl (by omega)) ?_
    refine .q rfl (.add rfl rfl rfl (by omega) (by omega)) ?_
    refine .c1 rfl rfl rfl rfl (.litA rfl sl_22_A ze_2_L rfl rfl rfl rfl) ?_
    rintro _ H56 ⟨g56, rfl, le56, ge56, at56⟩
    have hbl := le56
    refine ⟨hbl, ?_⟩
    replace hle := hle.trans le56
    replace lst2 := lst2.le le56
    replace at2 := le56.2 _ _ at2
    replace at3 := le56.2 _ _ at3
    replace at_LI2 := le56.2 _ _ at_LI2
    replace at_Lg7 := le56.2 _ _ at_Lg7
    have lt_at56 := GHeap.ltg at56
    replace hin := base_hin.mono hle
    replace hin1 := base_hin1.mono hle
    clear hb2 c32 i32
    have hb2 : Cat.At _ g2 0 c p := ⟨Mem.of_get at2, hin⟩
    clear hb3 c33 i33
    have hb3 : Cat.At _ g3 0 d q := ⟨Mem.of_get at3, hin1⟩
    refine .c0 rfl rfl rfl rfl (.appendI rfl sl_22_A ze_2_L rfl by_2_L sl_22_A rfl rfl (by assumption) (by assumption) (by first | omega | (simp <;> omega)) (by omega) (by omega)) ?_
    rintro _ H57 ⟨g57, rfl, st57, ge57, at57⟩
    replace hle := hle.st st57 (fun k hk => ⟨by omega, trivial⟩)
    replace lst2 := lst2.sQ st57
    replace at2 := st57.same _ _ ⟨(pl_LI2.ne ne_g2_gLI.ne (by omega)), trivial⟩ at2
    replace at3 := st57.same _ _ ⟨(pl_LI2.ne ne_g3_gLI.ne (by omega)), trivial⟩ at3
    replace at_Lg7 := st57.same _ _ ⟨(Ne.symm ap2_0), trivial⟩ at_Lg7
    replace hin := base_hin.mono hle
    replace hin1 := base_hin1.mono hle
    clear hb2
    have hb2 : Cat.At _ g2 0 c p := ⟨Mem.of_get at2, hin⟩
    clear hb3
    have hb3 : Cat.At _ g3 0 d q := ⟨Mem.of_get at3, hin1⟩
    refine .q rfl (.fieldAddr fo_29_3_B rfl) ?_
    refine .r0 rfl rfl rfl (.storeR rfl sz_22_Ch rfl rfl rfl (by assumption) (by first | exact Nat.le_of_ble_eq_true rfl | (simp; done) | (simp <;> omega))) ?_
    rintro _ H9018 ⟨rfl, st9018, at9018⟩
    replace hle := hle.st st9018 (fun k hk => ⟨by omega, trivial⟩)
    replace lst2 := lst2.sA st9018
    replace at2 := st9018.s at2 ne_g2_g7.ne
    replace at3 := st9018.s at3 ne_g3_g7.ne
    replace at57 := st9018.s at57
    replace hin := base_hin.mono hle
    replace hin1 := base_hin1.mono hle
    clear hb2
    have hb2 : Cat.At _ g2 0 c p := ⟨Mem.of_get at2, hin⟩
    clear hb3
    have hb3 : Cat.At _ g3 0 d q := ⟨Mem.of_get at3, hin1⟩
    try simp only [Nat.zero_add, List.set_cons_succ, List.set_cons_zero] at at9018
    refine .done ?_
    refine hK12 _ _ (.region (.mv rfl ?_))
    refine .q rfl (.add rfl rfl rfl (by omega) (by omega)) ?_
    refine .mv rfl (.nil ?_)
    refine hKL2 ((y + 1, i2 ++ [c.idn.getD x 0 * (d.src.length : Int) + d.idn.getD y 0], g57)) _ _ ?_ ?_ ⟨rfl, rfl, rfl, rfl, rfl, rfl, rfl, rfl, trivial⟩
    ·
     refine ⟨lst2, by assumption, by exact ⟨.inr (by omega)⟩, by (rw [List.length_append]; assumption), by omega, ?_⟩
     exact ⟨⟨by omega, by simp; omega⟩, hB.snoc (by omega) (by omega)⟩
    (dsimp only; omega)
   try simp only [sps] at h38
   refine .exit ?_
   refine hK8 _ _ (.region (.mv rfl ?_))
   refine .q rfl (.add rfl rfl rfl (by omega) (by omega)) ?_
   refine .mv rfl (.nil ?_)
   refine hKL1 ((x + 1, i2, gLI2)) _ _ ?_ ?_ ⟨rfl, rfl, rfl, rfl, rfl, rfl, rfl, trivial⟩
   ·
    refine ⟨lst1, by assumption, by exact pl_LI2.trans pl_LI (by omega), by assumption, by assumption, ?_⟩
    have e1 := smz x d.obj
    exact ⟨⟨by omega, by omega⟩, hB⟩
   (dsimp only; omega)
  try simp only [sps] at h33
  refine .exit ?_
  refine hK4 _ _ (.seq (fun K13 hK13 => .seq (fun K14 hK14 => .region ?_)))
  obtain rfl : x = c.obj.toNat := by omega
  refine .mv rfl (.nil (hK14 _ _ ?_))
  refine .block ?_
  refine .loopR (σ := Nat × List Int × List Int × (Nat → Option Addr) × List (List Int) × Nat × Nat × Nat) [(2, some _), (3, some _), (4, some _), (5, some _), (6, some _), (7, some _)] (fun (a, ss, ts, rr, cs, gLF, gLT, gLC) => [(10, some (.int .i64 (a : Int)))]) (fun (a, ss, ts, rr, cs, gLF, gLT, gLC) H' => St [g25, g26, g28, g7] HL1 H' ∧ H'.get gLF = some (.row (ints ss) 2 true) ∧ PL gLF g25 HL1.next ∧ H'.get gLT = some (.row (ints ts) 2 true) ∧ PL gLT g26 HL1.next ∧ H'.get gLC = some (.row ((slsL rr cs)) 22 true) ∧ PL gLC g28 HL1.next ∧ H'.get g7 = some (.row ([.int .i64 (c.obj * d.obj), .slice (some ⟨gLF, 0, none⟩) ss.length ss.length, .slice (some ⟨gLT, 0, none⟩) ss.length ss.length, .slice (some ⟨gLI, 0, none⟩) is.length is.length, .slice (some ⟨gLC, 0, none⟩) ss.length ss.length]) 29 true) ∧ gLF ≠ gLT ∧ gLF ≠ gLC ∧ gLF ≠ g7 ∧ gLT ≠ gLC ∧ gLT ≠ g7 ∧ gLC ≠ g7 ∧ (a ≤ c.src.length ∧ ss.length = a * d.src.length ∧ ts.length = ss.length ∧ cs.length = ss.length) ∧ Bd 0 33000 ss ∧ Bd 0 33000 ts ∧ Tb (-1) 33000 (c.src.length * d.src.length) cs ∧ OwnL H.next H' 2 rr cs ∧ (∀ j, j < cs.length → rr j ≠ some ⟨gLF, 0, none⟩) ∧ (∀ j, j < cs.length → rr j ≠ some ⟨gLT, 0, none⟩) ∧ ∀ j, j < cs.length → rr j ≠ some ⟨gLI, 0, none⟩) (fun (a, ss, ts, rr, cs, gLF, gLT, gLC) => c.src.length - a) ((0, [], [], fun _ => none, [], g25, g26, g28)) ⟨rfl, rfl, rfl, rfl, rfl, rfl, trivial⟩ ⟨rfl, trivial⟩ ?_ ?_
  ·
   refine ⟨.refl _ _, by assumption, ⟨.inl rfl⟩, by assumption, ⟨.inl rfl⟩, by assumption, ⟨.inl rfl⟩, by assumption, by omega, by omega, by omega, by omega, by omega, by omega, ?_⟩
   exact ⟨⟨by omega, by simp, rfl, rfl⟩, .nil _ _, .nil _ _, .nil _ _ _, .nil _ _ _ _, fun _ h => by simp at h, fun _ h => by simp at h, fun _ h => by simp at h⟩
  rintro ⟨a, ss, ts, rr, cs, gLF, gLT, gLC⟩ HL3 ⟨lst3, at_LF, pl_LF, at_LT, pl_LT, at_LC, pl_LC, at_Lg7, ap3_0, ap3_1, ap3_2, ap3_3, ap3_4, ap3_5, hI⟩ KL3 hKL3
  refine .forget (fr' := [(10, some (.int .i64 (a : Int))), (2, some _), (3, some _), (4, some _), (5, some _), (6, some _), (7, some _)]) ⟨rfl, rfl, rfl, rfl, rfl, rfl, rfl, trivial⟩ ?_
  have ge_LF : H.next ≤ gLF := pl_LF.ge (by omega) (by omega)
  have ge_LT : H.next ≤ gLT := pl_LT.ge (by omega) (by omega)
  have ge_LC : H.next ≤ gLC := pl_LC.ge (by omega) (by omega)
  have nx_HL3 := lst3.nx
  replace hle := hle.st lst3 (fun k hk => ⟨by omega, by omega, by omega, by omega, trivial⟩)
  have ne_g2_g25 : NE g2 g25 := .a
  have ne_g2_g26 : NE g2 g26 := .a
  have ne_g2_g28 : NE g2 g28 := .a
  replace at2 := lst3.same _ _ ⟨ne_g2_g25.ne, ne_g2_g26.ne, ne_g2_g28.ne, ne_g2_g7.ne, trivial⟩ at2
  have ne_g3_g25 : NE g3 g25 := .a
  have ne_g3_g26 : NE g3 g26 := .a
  have ne_g3_g28 : NE g3 g28 := .a
  replace at3 := lst3.same _ _ ⟨ne_g3_g25.ne, ne_g3_g26.ne, ne_g3_g28.ne, ne_g3_g7.ne, trivial⟩ at3
  have ne_g4_g25 : NE g4 g25 := .a
  have ne_g4_g26 : NE g4 g26 := .a
  have ne_g4_g28 : NE g4 g28 := .a
  replace at4 := lst3.same _ _ ⟨ne_g4_g25.ne, ne_g4_g26.ne, ne_g4_g28.ne, ne_g4_g7.ne, trivial⟩ at4
  replace at_LI := lst3.same _ _ ⟨(Ne.symm (pl_LI.ne ne_g25_g27.ne (by omega))), (Ne.symm (pl_LI.ne ne_g26_g27.ne (by omega))), (Ne.symm (pl_LI.ne ne_g28_g27.ne (by omega))), ap1_0, trivial⟩ at_LI
  have lt_at_LF := GHeap.ltg at_LF
  replace hin := base_hin.mono hle
  replace hin1 := base_hin1.mono hle
  have hb2 : Cat.At _ g2 0 c p := ⟨Mem.of_get at2, hin⟩
  obtain ⟨-, c12, -, -, -, -, -, -, -⟩ := hb2.get
  have hb3 : Cat.At _ g3 0 d q := ⟨Mem.of_get at3, hin1⟩
  obtain ⟨⟨ha, hs8, hts, hcl⟩, hS, hT, hC, hR, hF1, hT1, hI1⟩ := hI
  have ml := mulN_bd (a := a) (b := d.src.length) (by omega) (by omega)
  refine .seq (fun K15 hK15 => .seq (fun K16 hK16 => .region (.mv rfl (.q rfl (.fieldAddr fo_29_1_B rfl) ?_))))
  refine .q rfl (.load on_22_B rfl (by first | assumption | exact Mem.of_get at2 1 _ rfl)) ?_
  refine .q rfl (.len sl_22_A rfl) (.q rfl (.cmp rfl rfl rfl) (.nil (hK16 _ _ ?_)))
  refine .cond rfl (fun h63 => ?_) (fun h63 => ?_)
  ·
   simp only [sps] at h63
   have q1 := a4 a (by omega)
   have q2 := a5 a (by omega)
   refine .skip ?_
   refine hK15 _ _ (.seq (fun K17 hK17 => ?_))
   refine .block ?_
   refine .seq (fun K18 hK18 => .region (.mv rfl (.nil (hK18 _ _ ?_))))
   refine .block ?_
   refine .loopR (σ := Nat × List Int × List Int × (Nat → Option Addr) × List (List Int) × Nat × Nat × Nat) [(2, some _), (3, some _), (4, some _), (5, some _), (6, some _), (7, some _), (10, some _)] (fun (b, s2, t2, r2, c2, gLF2, gLT2, gLC2) => [(11, some (.int .i64 (b : Int)))]) (fun (b, s2, t2, r2, c2, gLF2, gLT2, gLC2) H' => St [gLF, gLT, gLC, g7] HL3 H' ∧ H'.get gLF2 = some (.row (ints s2) 2 true) ∧ PL gLF2 gLF HL3.next ∧ H'.get gLT2 = some (.row (ints t2) 2 true) ∧ PL gLT2 gLT HL3.next ∧ H'.get gLC2 = some (.row ((slsL r2 c2)) 22 true) ∧ PL gLC2 gLC HL3.next ∧ H'.get g7 = some (.row ([.int .i64 (c.obj * d.obj), .slice (some ⟨gLF2, 0, none⟩) s2.length s2.length, .slice (some ⟨gLT2, 0, none⟩) s2.length s2.length, .slice (some ⟨gLI, 0, none⟩) is.length is.length, .slice (some ⟨gLC2, 0, none⟩) s2.length s2.length]) 29 true) ∧ gLF2 ≠ gLT2 ∧ gLF2 ≠ gLC2 ∧ gLF2 ≠ g7 ∧ gLT2 ≠ gLC2 ∧ gLT2 ≠ g7 ∧ gLC2 ≠ g7 ∧ (b ≤ d.src.length ∧ s2.length = a * d.src.length + b ∧ t2.length = s2.length ∧ c2.length = s2.length) ∧ Bd 0 33000 s2 ∧ Bd 0 33000 t2 ∧ Tb (-1) 33000 (c.src.length * d.src.length) c2 ∧ OwnL H.next H' 2 r2 c2 ∧ (∀ j, j < c2.length → r2 j ≠ some ⟨gLF2, 0, none⟩) ∧ (∀ j, j < c2.length → r2 j ≠ some ⟨gLT2, 0, none⟩) ∧ ∀ j, j < c2.length → r2 j ≠ some ⟨gLI, 0, none⟩) (fun (b, s2, t2, r2, c2, gLF2, gLT2, gLC2) => d.src.length - b) ((0, ss, ts, rr, cs, gLF, gLT, gLC)) ⟨rfl, rfl, rfl, rfl, rfl, rfl, rfl, trivial⟩ ⟨rfl, trivial⟩ ?_ ?_
   ·
    refine ⟨.refl _ _, by assumption, ⟨.inl rfl⟩, by assumption, ⟨.inl rfl⟩, by assumption, ⟨.inl rfl⟩, by assumption, by omega, by omega, by omega, by omega, by omega, by omega, ?_⟩
    exact ⟨⟨by omega, by omega, by omega, by omega⟩, hS, hT, hC, hR, hF1, hT1, hI1⟩
   rintro ⟨b, s2, t2, r2, c2, gLF2, gLT2, gLC2⟩ HL4 ⟨lst4, at_LF2, pl_LF2, at_LT2, pl_LT2, at_LC2, pl_LC2, at_Lg7, ap4_0, ap4_1, ap4_2, ap4_3, ap4_4, ap4_5, hI⟩ KL4 hKL4
   refine .forget (fr' := [(11, some (.int .i64 (b : Int))), (2, some _), (3, some _), (4, some _), (5, some _), (6, some _), (7, some _), (10, some _)]) ⟨rfl, rfl, rfl, rfl, rfl, rfl, rfl, rfl, trivial⟩ ?_
   have ge_LF2 : H.next ≤ gLF2 := pl_LF2.ge (by omega) (by omega)
   have ge_LT2 : H.next ≤ gLT2 := pl_LT2.ge (by omega) (by omega)
   have ge_LC2 : H.next ≤ gLC2 := pl_LC2.ge (by omega) (by omega)
   have nx_HL4 := lst4.nx
   replace hle := hle.st lst4 (fun k hk => ⟨by omega, by omega, by omega, by omega, trivial⟩)
   replace lst3 := lst3.st lst4 (fun k hk ho => by simp only [out, and_true] at ho ⊢ <;> exact ⟨by first | exact ho | exact ho.1 | exact ho.2 | exact ho.2.1 | exact ho.2.2 | exact ho.2.2.1 | exact ho.2.2.2 | exact pl_LF.ne (by first | exact ho | exact ho.1 | exact ho.2 | exact ho.2.1 | exact ho.2.2 | exact ho.2.2.1 | exact ho.2.2.2 | omega) (by omega) | omega, by first | exact ho | exact ho.1 | exact ho.2 | exact ho.2.1 | exact ho.2.2 | exact ho.2.2.1 | exact ho.2.2.2 | exact pl_LT.ne (by first | exact ho | exact ho.1 | exact ho.2 | exact ho.2.1 | exact ho.2.2 | exact ho.2.2.1 | exact ho.2.2.2 | omega) (by omega) | omega, by first | exact ho | exact ho.1 | exact ho.2 | exact ho.2.1 | exact ho.2.2 | exact ho.2.2.1 | exact ho.2.2.2 | exact pl_LC.ne (by first | exact ho | exact ho.1 | exact ho.2 | exact ho.2.1 | exact ho.2.2 | exact ho.2.2.1 | exact ho.2.2.2 | omega) (by omega) | omega, by first | exact ho | exact ho.1 | exact ho.2 | exact ho.2.1 | exact ho.2.2 | exact ho.2.2.1 | exact ho.2.2.2 | omega⟩)
   have ne_g2_gLF : NE g2 gLF := ⟨pl_LF.ne ne_g2_g25.ne (by omega)⟩
   have ne_g2_gLT : NE g2 gLT := ⟨pl_LT.ne ne_g2_g26.ne (by omega)⟩
   have ne_g2_gLC : NE g2 gLC := ⟨pl_LC.ne ne_g2_g28.ne (by omega)⟩
   replace at2 := lst4.same _ _ ⟨ne_g2_gLF.ne, ne_g2_gLT.ne, ne_g2_gLC.ne, ne_g2_g7.ne, trivial⟩ at2
   have ne_g3_gLF : NE g3 gLF := ⟨pl_LF.ne ne_g3_g25.ne (by omega)⟩
   have ne_g3_gLT : NE g3 gLT := ⟨pl_LT.ne ne_g3_g26.ne (by omega)⟩
   have ne_g3_gLC : NE g3 gLC := ⟨pl_LC.ne ne_g3_g28.ne (by omega)⟩
   replace at3 := lst4.same _ _ ⟨ne_g3_gLF.ne, ne_g3_gLT.ne, ne_g3_gLC.ne, ne_g3_g7.ne, trivial⟩ at3
   have lt_at_LT2 := GHeap.ltg at_LT2
   have lt_at_LC2 := GHeap.ltg at_LC2
   have lt_at_Lg7 := GHeap.ltg at_Lg7
   replace hin := base_hin.mono hle
   replace hin1 := base_hin1.mono hle
   clear hb2 c12
   have hb2 : Cat.At _ g2 0 c p := ⟨Mem.of_get at2, hin⟩
   obtain ⟨-, c12, -, -, -, i12, -, -, -⟩ := hb2.get
   clear hb3
   have hb3 : Cat.At _ g3 0 d q := ⟨Mem.of_get at3, hin1⟩
   obtain ⟨-, c13, -, -, -, i13, -, -, -⟩ := hb3.get
   have rk := St.refl [gLF2, gLT2, gLC2, g7] HL4
   obtain ⟨⟨hb, hs9, hts, hcl⟩, hS, hT, hC, hR, hF1, hT1, hI1⟩ := hI
   have hatC := at_LC2
   have hat7 := at_Lg7
   have hfl : (slsL r2 c2).length = c2.length := length_slsL _ _
   refine .seq (fun K19 hK19 => .seq (fun K20 hK20 => .region (.mv rfl (.q rfl (.fieldAddr fo_29_1_B rfl) ?_))))
   refine .q rfl (.load on_22_B rfl (by first | assumption | exact Mem.of_get at3 1 _ rfl)) ?_
   refine .q rfl (.len sl_22_A rfl) (.q rfl (.cmp rfl rfl rfl) (.nil (hK20 _ _ ?_)))
   refine .cond rfl (fun h70 => ?_) (fun h70 => ?_)
   ·
    simp only [sps] at h70
    have p1 := b4 b (by omega)
    have p2 := b5 b (by omega)
    have mm1 := mul_bd (a := c.src.getD a 0) (by omega) b1
    have mm2 := mul_bd (a := c.tgt.getD a 0) (by omega) b1
    refine .skip ?_
    refine hK19 _ _ (.seq (fun K21 hK21 => ?_))
    refine .block ?_
    refine .seq (fun K22 hK22 => ?_)
    refine .regionD mo_B (.q 0 (.q 1 (.q 2 (.q 3 (.q 4 (.q 5 (.q 6 (.q 7 (.q 8 (.q 9 (.q 10 (.q 11 (.q 12 (.q 13 (.q 14 (.c 15 1 (.c 16 0 (.q 17 (.c 18 0 (.done)))))))))))))))))))) (by kernel_rfl) ?_
    refine .q rfl (.fieldAddr fo_29_1_B rfl) ?_
    refine .q rfl (.load on_22_B rfl (by first | assumption | exact Mem.of_get at_Lg7 1 _ rfl)) ?_
    refine .q rfl (.fieldAddr fo_29_1_B rfl) ?_
    refine .q rfl (.load on_22_B rfl (by first | assumption | exact Mem.of_get at2 1 _ rfl)) ?_
    refine .mv rfl rfl ?_
    refine .q rfl (.idxN sl_22_A (by assumption) rfl rfl (by omega)) ?_
    refine .q rfl (.loadI on_2_A (by assumption) rfl (by omega)) ?_
    refine .mv rfl rfl ?_
    refine .q rfl (.mul rfl rfl rfl (by omega) (by omega)) ?_
    refine .q rfl (.fieldAddr fo_29_1_B rfl) ?_
    refine .q rfl (.load on_22_B rfl (by first | assumption | exact Mem.of_get at3 1 _ rfl)) ?_
    refine .mv rfl rfl ?_
    refine .q rfl (.idxN sl_22_A (by assumption) rfl rfl (by omega)) ?_
    refine .q rfl (.loadI on_2_A (by assumption) rfl (by omega)) ?_
    refine .q rfl (.add rfl rfl rfl (by omega) (by omega)) ?_
    refine .c1 rfl rfl rfl rfl (.litA rfl sl_22_A ze_2_L rfl rfl rfl rfl) ?_
    rintro _ H88 ⟨g88, rfl, le88, ge88, at88⟩
    have hbl := le88
    refine ⟨hbl, ?_⟩
    replace hle := hle.trans le88
    replace lst4 := lst4.le le88
    replace rk := rk.le le88
    replace at2 := le88.2 _ _ at2
    replace at3 := le88.2 _ _ at3
    replace at_LF2 := le88.2 _ _ at_LF2
    replace at_LT2 := le88.2 _ _ at_LT2
    replace at_LC2 := le88.2 _ _ at_LC2
    replace at_Lg7 := le88.2 _ _ at_Lg7
    have lt_at88 := GHeap.ltg at88
    replace hin := base_hin.mono hle
    replace hin1 := base_hin1.mono hle
    clear hb2 c12 i12
    have hb2 : Cat.At _ g2 0 c p := ⟨Mem.of_get at2, hin⟩
    clear hb3 c13 i13
    have hb3 : Cat.At _ g3 0 d q := ⟨Mem.of_get at3, hin1⟩
    refine .c0 rfl rfl rfl rfl (.appendI rfl sl_22_A ze_2_L rfl by_2_L sl_22_A rfl rfl (by assumption) (by assumption) (by first | omega | (simp <;> omega)) (by omega) (by omega)) ?_
    rintro _ H89 ⟨g89, rfl, st89, ge89, at89⟩
    replace hle := hle.st st89 (fun k hk => ⟨by omega, trivial⟩)
    replace lst4 := lst4.sQ st89
    replace rk := rk.sQ st89
    replace at2 := st89.same _ _ ⟨(pl_LF2.ne ne_g2_gLF.ne (by omega)), trivial⟩ at2
    replace at3 := st89.same _ _ ⟨(pl_LF2.ne ne_g3_gLF.ne (by omega)), trivial⟩ at3
    replace at_LT2 := st89.same _ _ ⟨(Ne.symm ap4_0), trivial⟩ at_LT2
    replace at_LC2 := st89.same _ _ ⟨(Ne.symm ap4_1), trivial⟩ at_LC2
    replace at_Lg7 := st89.same _ _ ⟨(Ne.symm ap4_2), trivial⟩ at_Lg7
    have lt_at89 := GHeap.ltg at89
    replace hin := base_hin.mono hle
    replace hin1 := base_hin1.mono hle
    clear hb2
    have hb2 : Cat.At _ g2 0 c p := ⟨Mem.of_get at2, hin⟩
    clear hb3
    have hb3 : Cat.At _ g3 0 d q := ⟨Mem.of_get at3, hin1⟩
    refine .q rfl (.fieldAddr fo_29_1_B rfl) ?_
    refine .r0 rfl rfl rfl (.storeR rfl sz_22_Ch rfl rfl rfl (by assumption) (by first | exact Nat.le_of_ble_eq_true rfl | (simp; done) | (simp <;> omega))) ?_
    rintro _ H16018 ⟨rfl, st16018, at16018⟩
    have nx_H16018 := st16018.nx
    replace hle := hle.st st16018 (fun k hk => ⟨by omega, trivial⟩)
    replace lst4 := lst4.sA st16018
    replace rk := rk.sA st16018
    replace at2 := st16018.s at2 ne_g2_g7.ne
    replace at3 := st16018.s at3 ne_g3_g7.ne
    replace at_LT2 := st16018.same _ _ ⟨ap4_4, trivial⟩ at_LT2
    replace at_LC2 := st16018.same _ _ ⟨ap4_5, trivial⟩ at_LC2
    have ne_g89_g7 : NE g89 g7 := .a
    replace at89 := st16018.s at89 ne_g89_g7.ne
    have lt_at16018 := GHeap.ltg at16018
    replace hin := base_hin.mono hle
    replace hin1 := base_hin1.mono hle
    clear hb2
    have hb2 : Cat.At _ g2 0 c p := ⟨Mem.of_get at2, hin⟩
    obtain ⟨-, -, c22, -, -, -, i22, -, -⟩ := hb2.get
    clear hb3
    have hb3 : Cat.At _ g3 0 d q := ⟨Mem.of_get at3, hin1⟩
    obtain ⟨-, -, c23, -, -, -, i23, -, -⟩ := hb3.get
    try simp only [Nat.zero_add, List.set_cons_succ, List.set_cons_zero] at at16018
    refine .done ?_
    refine hK22 _ _ (.seq (fun K23 hK23 => ?_))
    refine .regionD mo_B (.q 0 (.q 1 (.q 2 (.q 3 (.q 4 (.q 5 (.q 6 (.q 7 (.q 8 (.q 9 (.q 10 (.q 11 (.q 12 (.q 13 (.q 14 (.c 15 1 (.c 16 0 (.q 17 (.c 18 0 (.done)))))))))))))))))))) (by kernel_rfl) ?_
    refine .q rfl (.fieldAddr fo_29_2_B rfl) ?_
    refine .q rfl (.load on_22_B rfl (by first | assumption | exact Mem.of_get at16018 2 _ rfl)) ?_
    refine .q rfl (.fieldAddr fo_29_2_B rfl) ?_
    refine .q rfl (.load on_22_B rfl (by first | assumption | exact Mem.of_get at2 2 _ rfl)) ?_
    refine .mv rfl rfl ?_
    refine .q rfl (.idxN sl_22_A (by assumption) rfl rfl (by omega)) ?_
    refine .q rfl (.loadI on_2_A (by assumption) rfl (by omega)) ?_
    refine .mv rfl rfl ?_
    refine .q rfl (.mul rfl rfl rfl (by omega) (by omega)) ?_
    refine .q rfl (.fieldAddr fo_29_2_B rfl) ?_
    refine .q rfl (.load on_22_B rfl (by first | assumption | exact Mem.of_get at3 2 _ rfl)) ?_
    refine .mv rfl rfl ?_
    refine .q rfl (.idxN sl_22_A (by assumption) rfl rfl (by omega)) ?_
    refine .q rfl (.loadI on_2_A (by assumption) rfl (by omega)) ?_
    refine .q rfl (.add rfl rfl rfl (by omega) (by omega)) ?_
    refine .c1 rfl rfl rfl rfl (.litA rfl sl_22_A ze_2_L rfl rfl rfl rfl) ?_
    rintro _ H106 ⟨g106, rfl, le106, ge106, at106⟩
    have hbl := le106
    refine ⟨hbl, ?_⟩
    replace hle := hle.trans le106
    replace lst4 := lst4.le le106
    replace rk := rk.le le106
    replace at2 := le106.2 _ _ at2
    replace at3 := le106.2 _ _ at3
    replace at_LT2 := le106.2 _ _ at_LT2
    replace at_LC2 := le106.2 _ _ at_LC2
    replace at89 := le106.2 _ _ at89
    replace at16018 := le106.2 _ _ at16018
    have lt_at106 := GHeap.ltg at106
    replace hin := base_hin.mono hle
    replace hin1 := base_hin1.mono hle
    clear hb2 c22 i22
    have hb2 : Cat.At _ g2 0 c p := ⟨Mem.of_get at2, hin⟩
    clear hb3 c23 i23
    have hb3 : Cat.At _ g3 0 d q := ⟨Mem.of_get at3, hin1⟩
    refine .c0 rfl rfl rfl rfl (.appendI rfl sl_22_A ze_2_L rfl by_2_L sl_22_A rfl rfl (by assumption) (by assumption) (by first | omega | (simp <;> omega)) (by omega) (by omega)) ?_
    rintro _ H107 ⟨g107, rfl, st107, ge107, at107⟩
    replace hle := hle.st st107 (fun k hk => ⟨by omega, trivial⟩)
    replace lst4 := lst4.sQ st107
    replace rk := rk.sQ st107
    replace at2 := st107.same _ _ ⟨(pl_LT2.ne ne_g2_gLT.ne (by omega)), trivial⟩ at2
    replace at3 := st107.same _ _ ⟨(pl_LT2.ne ne_g3_gLT.ne (by omega)), trivial⟩ at3
    replace at_LC2 := st107.same _ _ ⟨(Ne.symm ap4_3), trivial⟩ at_LC2
    replace at89 := st107.s at89
    replace at16018 := st107.same _ _ ⟨(Ne.symm ap4_4), trivial⟩ at16018
    have lt_at107 := GHeap.ltg at107
    replace hin := base_hin.mono hle
    replace hin1 := base_hin1.mono hle
    clear hb2
    have hb2 : Cat.At _ g2 0 c p := ⟨Mem.of_get at2, hin⟩
    clear hb3
    have hb3 : Cat.At _ g3 0 d q := ⟨Mem.of_get at3, hin1⟩
    refine .q rfl (.fieldAddr fo_29_2_B rfl) ?_
    refine .r0 rfl rfl rfl (.storeR rfl sz_22_Ch rfl rfl rfl (by assumption) (by first | exact Nat.le_of_ble_eq_true rfl | (simp; done) | (simp <;> omega))) ?_
    rintro _ H17018 ⟨rfl, st17018, at17018⟩
    have nx_H17018 := st17018.nx
    replace hle := hle.st st17018 (fun k hk => ⟨by omega, trivial⟩)
    replace lst4 := lst4.sA st17018
    replace rk := rk.sA st17018
    replace at2 := st17018.s at2 ne_g2_g7.ne
    replace at3 := st17018.s at3 ne_g3_g7.ne
    replace at_LC2 := st17018.same _ _ ⟨ap4_5, trivial⟩ at_LC2
    replace at89 := st17018.s at89 ne_g89_g7.ne
    have ne_g107_g7 : NE g107 g7 := .a
    replace at107 := st17018.s at107 ne_g107_g7.ne
    have lt_at17018 := GHeap.ltg at17018
    replace hin := base_hin.mono hle
    replace hin1 := base_hin1.mono hle
    clear hb2
    have hb2 : Cat.At _ g2 0 c p := ⟨Mem.of_get at2, hin⟩
    clear hb3
    have hb3 : Cat.At _ g3 0 d q := ⟨Mem.of_get at3, hin1⟩
    try simp only [Nat.zero_add, List.set_cons_succ, List.set_cons_zero] at at17018
    refine .done ?_
    refine hK23 _ _ (.seq (fun K24 hK24 => .region ?_))
    refine .R rfl (.litA rfl sl_22_A ze_2_L rfl rfl rfl rfl) ?_
    rintro _ H109 ⟨g109, rfl, le109, ge109, at109⟩
    replace hle := hle.trans le109
    replace lst4 := lst4.le le109
    replace rk := rk.le le109
    replace at2 := le109.2 _ _ at2
    replace at3 := le109.2 _ _ at3
    replace at_LC2 := le109.2 _ _ at_LC2
    replace at89 := le109.2 _ _ at89
    replace at107 := le109.2 _ _ at107
    replace at17018 := le109.2 _ _ at17018
    have lt_at109 := GHeap.ltg at109
    replace hin := base_hin.mono hle
    replace hin1 := base_hin1.mono hle
    clear hb2
    have hb2 : Cat.At _ g2 0 c p := ⟨Mem.of_get at2, hin⟩
    clear hb3
    have hb3 : Cat.At _ g3 0 d q := ⟨Mem.of_get at3, hin1⟩
    replace at109 : GHeap.get H109 g109 = some (.row (ints []) 2 true) := at109
    refine .mv rfl (.nil (hK24 _ _ (.seq (fun K25 hK25 => .seq (fun K26 hK26 => .region (.mv rfl (.nil (hK26 _ _ ?_))))))))
    refine .block ?_
    refine .loopR (σ := Nat × List Int × Nat × Nat) [(2, some _), (3, some _), (4, some _), (5, some _), (6, some _), (7, some _), (10, some _), (11, some _)] (fun (f, row, gL12, nL12) => [(13, some (.int .i64 (f : Int))), (12, some (.slice (some ⟨gL12, 0, none⟩) nL12 nL12))]) (fun (f, row, gL12, nL12) H' => St [g109] H109 H' ∧ H'.get gL12 = some (.row (ints row) 2 true) ∧ PL gL12 g109 H109.next ∧ nL12 = row.length ∧ (f ≤ c.src.length ∧ row.length = f * d.src.length) ∧ Bd (-1) 33000 row) (fun (f, row, gL12, nL12) => c.src.length - f) ((0, [], _, _)) ⟨rfl, rfl, rfl, rfl, rfl, rfl, rfl, rfl, trivial⟩ ⟨rfl, rfl, trivial⟩ ?_ ?_
    ·
     refine ⟨.refl _ _, by assumption, ⟨.inl rfl⟩, by rfl, ?_⟩
     exact ⟨⟨by omega, by simp⟩, .nil _ _⟩
    rintro ⟨f, row, gL12, nL12⟩ HL5 ⟨lst5, at_L12, pl_L12, ln_L12, hI⟩ KL5 hKL5
    refine .forget (fr' := [(13, some (.int .i64 (f : Int))), (12, some (.slice (some ⟨gL12, 0, none⟩) nL12 nL12)), (2, some _), (3, some _), (4, some _), (5, some _), (6, some _), (7, some _), (10, some _), (11, some _)]) ⟨rfl, rfl, rfl, rfl, rfl, rfl, rfl, rfl, rfl, rfl, trivial⟩ ?_
    have ge_L12 : H.next ≤ gL12 := pl_L12.ge (by omega) (by omega)
    have nx_HL5 := lst5.nx
    replace hle := hle.st lst5 (fun k hk => ⟨by omega, trivial⟩)
    replace lst4 := lst4.sA lst5
    replace rk := rk.sA lst5
    have ne_g2_g109 : NE g2 g109 := .a
    replace at2 := lst5.s at2 ne_g2_g109.ne
    have ne_g3_g109 : NE g3 g109 := .a
    replace at3 := lst5.s at3 ne_g3_g109.ne
    have ne_gLC2_g109 : NE gLC2 g109 := .a
    replace at_LC2 := lst5.s at_LC2 ne_gLC2_g109.ne
    replace at89 := lst5.s at89
    replace at107 := lst5.s at107
    have ne_g7_g109 : NE g7 g109 := .a
    replace at17018 := lst5.s at17018 ne_g7_g109.ne
    have lt_at_L12 := GHeap.ltg at_L12
    replace hin := base_hin.mono hle
    replace hin1 := base_hin1.mono hle
    clear hb2
    have hb2 : Cat.At _ g2 0 c p := ⟨Mem.of_get at2, hin⟩
    obtain ⟨-, c12, -, -, -, -, -, -, -⟩ := hb2.get
    clear hb3
    have hb3 : Cat.At _ g3 0 d q := ⟨Mem.of_get at3, hin1⟩
    obtain ⟨⟨hf, hrl⟩, hW⟩ := hI
    have ml2 := mulN_bd (a := f) (b := d.src.length) (by omega) (by omega)
    refine .seq (fun K27 hK27 => .seq (fun K28 hK28 => .region (.mv rfl (.q rfl (.fieldAddr fo_29_1_B rfl) ?_))))
    refine .q rfl (.load on_22_B rfl (by first | assumption | exact Mem.of_get at2 1 _ rfl)) ?_
    refine .q rfl (.len sl_22_A rfl) (.q rfl (.cmp rfl rfl rfl) (.nil (hK28 _ _ ?_)))
    refine .cond rfl (fun h114 => ?_) (fun h114 => ?_)
    ·
     simp only [sps] at h114
     refine .skip ?_
     refine hK27 _ _ (.seq (fun K29 hK29 => ?_))
     refine .block ?_
     refine .seq (fun K30 hK30 => .region (.mv rfl (.nil (hK30 _ _ ?_))))
     refine .block ?_
     refine .loopR (σ := Nat × List Int × Nat × Nat) [(2, some _), (3, some _), (4, some _), (5, some _), (6, some _), (7, some _), (10, some _), (11, some _), (13, some _)] (fun (g, w2, gL12v6, nL12v6) => [(14, some (.int .i64 (g : Int))), (12, some (.slice (some ⟨gL12v6, 0, none⟩) nL12v6 nL12v6))]) (fun (g, w2, gL12v6, nL12v6) H' => St [gL12] HL5 H' ∧ H'.get gL12v6 = some (.row (ints w2) 2 true) ∧ PL gL12v6 gL12 HL5.next ∧ nL12v6 = w2.length ∧ (g ≤ d.src.length ∧ w2.length = f * d.src.length + g) ∧ Bd (-1) 33000 w2) (fun (g, w2, gL12v6, nL12v6) => d.src.length - g) ((0, row, _, _)) ⟨rfl, rfl, rfl, rfl, rfl, rfl, rfl, rfl, rfl, trivial⟩ ⟨rfl, rfl, trivial⟩ ?_ ?_
     ·
      refine ⟨.refl _ _, by assumption, ⟨.inl rfl⟩, by assumption, ?_⟩
      exact ⟨⟨by omega, by omega⟩, hW⟩
     rintro ⟨g, w2, gL12v6, nL12v6⟩ HL6 ⟨lst6, at_L12v6, pl_L12v6, ln_L12v6, hI⟩ KL6 hKL6
     refine .forget (fr' := [(14, some (.int .i64 (g : Int))), (12, some (.slice (some ⟨gL12v6, 0, none⟩) nL12v6 nL12v6)), (2, some _), (3, some _), (4, some _), (5, some _), (6, some _), (7, some _), (10, some _), (11, some _), (13, some _)]) ⟨rfl, rfl, rfl, rfl, rfl, rfl, rfl, rfl, rfl, rfl, rfl, trivial⟩ ?_
     have ge_L12v6 : H.next ≤ gL12v6 := pl_L12v6.ge (by omega) (by omega)
     have nx_HL6 := lst6.nx
     replace hle := hle.st lst6 (fun k hk => ⟨by omega, trivial⟩)
     replace lst5 := lst5.sP lst6
     have ne_g2_gL12 : NE g2 gL12 := ⟨pl_L12.ne ne_g2_g109.ne (by omega)⟩
     replace at2 := lst6.s at2 ne_g2_gL12.ne
     have ne_g3_gL12 : NE g3 gL12 := ⟨pl_L12.ne ne_g3_g109.ne (by omega)⟩
     replace at3 := lst6.s at3 ne_g3_gL12.ne
     replace hin := base_hin.mono hle
     replace hin1 := base_hin1.mono hle
     clear hb2 c12
     have hb2 : Cat.At _ g2 0 c p := ⟨Mem.of_get at2, hin⟩
     obtain ⟨-, -, -, -, c42, -, -, -, i42⟩ := hb2.get
     clear hb3
     have hb3 : Cat.At _ g3 0 d q := ⟨Mem.of_get at3, hin1⟩
     obtain ⟨-, c13, -, -, c43, -, -, -, i43⟩ := hb3.get
     obtain ⟨⟨hg, hrl⟩, hW⟩ := hI
     refine .seq (fun K31 hK31 => .seq (fun K32 hK32 => .region (.mv rfl (.q rfl (.fieldAddr fo_29_1_B rfl) ?_))))
     refine .q rfl (.load on_22_B rfl (by first | assumption | exact Mem.of_get at3 1 _ rfl)) ?_
     refine .q rfl (.len sl_22_A rfl) (.q rfl (.cmp rfl rfl rfl) (.nil (hK32 _ _ ?_)))
     refine .cond rfl (fun h121 => ?_) (fun h121 => ?_)
     ·
      simp only [sps] at h121
      have v1 := a10 a (by omega) f (by omega)
      have v2 := b10 b (by omega) g (by omega)
      have w1 := a9 a (by omega)
      have w3 := b9 b (by omega)
      have u1 := i42.2 a (by omega)
      have u2 := i43.2 b (by omega)
      refine .skip ?_
      refine hK31 _ _ (.seq (fun K33 hK33 => ?_))
      refine .block ?_
      refine .seq (fun K34 hK34 => .region (.mv rfl (.nil (hK34 _ _ (.seq (fun K35 hK35 => .seq (fun K36 hK36 => .region (.q rfl (.fieldAddr fo_29_4_B rfl) ?_))))))))
      refine .q rfl (.load on_23_B rfl (by first | assumption | exact Mem.of_get at2 4 _ rfl)) ?_
      refine .mv rfl ?_
      refine .q rfl (.idxN sl_23_B (Intss.sl (by assumption)) rfl rfl (by omega)) ?_
      refine .q rfl (.loadR on_22_B (by assumption) rfl (by omega)) ?_
      refine .mv rfl ?_
      refine .q rfl (.idxN sl_22_A (by assumption) rfl rfl (by omega)) ?_
      refine .q rfl (.loadI on_2_A (by assumption) rfl (by omega)) ?_
      refine .q rfl (.cmp rfl rfl rfl) (.mv rfl ?_)
      refine .split (fun h133 => ?_) (fun h133 => ?_)
      ·
       try simp only [sps] at h133
       refine .qg rfl (.fieldAddr fo_29_4_B rfl) ?_
       refine .qg rfl (.load on_23_B rfl (by first | assumption | exact Mem.of_get at3 4 _ rfl)) ?_
       refine .qg rfl (.move rfl) ?_
       refine .qg rfl (.idxN sl_23_B (Intss.sl (by assumption)) rfl rfl (by omega)) ?_
       refine .qg rfl (.loadR on_22_B (by assumption) rfl (by omega)) ?_
       refine .qg rfl (.move rfl) ?_
       refine .qg rfl (.idxN sl_22_A (by assumption) rfl rfl (by omega)) ?_
       refine .qg rfl (.loadI on_2_A (by assumption) rfl (by omega)) ?_
       refine .qg rfl (.cmp rfl rfl rfl) (.q rfl (.pickT rfl rfl) (.nil (hK36 _ _ ?_)))
       refine .cond rfl (fun h143 => ?_) (fun h143 => ?_)
       ·
        simp only [sps] at h143
        have mm3 := mul_bd (a := (c.comp.getD a []).getD f 0) (b := (d.src.length : Int)) (by omega) (by omega)
        obtain ⟨h3, hh3, n3⟩ : ∃ h3, h3 = (c.comp.getD a []).getD f 0 * (d.src.length : Int) + (d.comp.getD b []).getD g 0 ∧ -1 ≤ h3 ∧ h3 ≤ 33000 := ⟨_, rfl, by omega, by omega⟩
        refine .regionD mo_B (.q 0 (.q 1 (.q 2 (.q 3 (.q 4 (.q 5 (.q 6 (.q 7 (.q 8 (.q 9 (.q 10 (.q 11 (.q 12 (.q 13 (.q 14 (.q 15 (.q 16 (.q 17 (.q 18 (.q 19 (.done))))))))))))))))))))) (by kernel_rfl) ?_
        refine .q rfl (.fieldAddr fo_29_4_B rfl) ?_
        refine .q rfl (.load on_23_B rfl (by first | assumption | exact Mem.of_get at2 4 _ rfl)) ?_
        refine .mv rfl rfl ?_
        refine .q rfl (.idxN sl_23_B (Intss.sl (by assumption)) rfl rfl (by omega)) ?_
        refine .q rfl (.loadR on_22_B (by assumption) rfl (by omega)) ?_
        refine .mv rfl rfl ?_
        refine .q rfl (.idxN sl_22_A (by assumption) rfl rfl (by omega)) ?_
        refine .q rfl (.loadI on_2_A (by assumption) rfl (by omega)) ?_
        refine .mv rfl rfl ?_
        refine .q rfl (.mul rfl rfl rfl (by omega) (by omega)) ?_
        refine .q rfl (.fieldAddr fo_29_4_B rfl) ?_
        refine .q rfl (.load on_23_B rfl (by first | assumption | exact Mem.of_get at3 4 _ rfl)) ?_
        refine .mv rfl rfl ?_
        refine .q rfl (.idxN sl_23_B (Intss.sl (by assumption)) rfl rfl (by omega)) ?_
        refine .q rfl (.loadR on_22_B (by assumption) rfl (by omega)) ?_
        refine .mv rfl rfl ?_
        refine .q rfl (.idxN sl_22_A (by assumption) rfl rfl (by omega)) ?_
        refine .q rfl (.loadI on_2_A (by assumption) rfl (by omega)) ?_
        refine .q rfl (.add rfl rfl rfl (by omega) (by omega)) ?_
        refine .mv rfl rfl ?_
        refine .done ?_
        refine hK35 _ _ (.region (.mv rfl (.mv rfl ?_)))
        refine .R rfl (.litA rfl sl_22_A ze_2_L rfl rfl rfl rfl) ?_
        rintro _ H165 ⟨g165, rfl, le165, ge165, at165⟩
        replace hle := hle.trans le165
        replace lst6 := lst6.le le165
        replace at2 := le165.2 _ _ at2
        replace at3 := le165.2 _ _ at3
        replace at_L12v6 := le165.2 _ _ at_L12v6
        have lt_at165 := GHeap.ltg at165
        replace hin := base_hin.mono hle
        replace hin1 := base_hin1.mono hle
        clear hb2 c42 i42
        have hb2 : Cat.At _ g2 0 c p := ⟨Mem.of_get at2, hin⟩
        clear hb3 c13 c43 i43
        have hb3 : Cat.At _ g3 0 d q := ⟨Mem.of_get at3, hin1⟩
        clear u1 u2
        refine .R rfl (.appendI rfl sl_22_A ze_2_L rfl by_2_L sl_22_A rfl rfl (by assumption) (by assumption) (by first | omega | (simp <;> omega)) (by omega) (by omega)) ?_
        rintro _ H166 ⟨g166, rfl, st166, ge166, at166⟩
        replace hle := hle.st st166 (fun k hk => ⟨by omega, trivial⟩)
        replace lst6 := lst6.sQ st166
        have ne_g2_gL12v6 : NE g2 gL12v6 := ⟨pl_L12v6.ne ne_g2_gL12.ne (by omega)⟩
        replace at2 := st166.s at2 ne_g2_gL12v6.ne
        have ne_g3_gL12v6 : NE g3 gL12v6 := ⟨pl_L12v6.ne ne_g3_gL12.ne (by omega)⟩
        replace at3 := st166.s at3 ne_g3_gL12v6.ne
        replace hin := base_hin.mono hle
        replace hin1 := base_hin1.mono hle
        clear hb2
        have hb2 : Cat.At _ g2 0 c p := ⟨Mem.of_get at2, hin⟩
        clear hb3
        have hb3 : Cat.At _ g3 0 d q := ⟨Mem.of_get at3, hin1⟩
        refine .mv rfl (.nil (hK33 _ _ (.region (.mv rfl ?_))))
        refine .q rfl (.add rfl rfl rfl (by omega) (by omega)) ?_
        refine .mv rfl (.nil ?_)
        refine hKL6 ((g + 1, w2 ++ [h3], _, _)) _ _ ?_ ?_ ⟨rfl, rfl, rfl, rfl, rfl, rfl, rfl, rfl, rfl, rfl, rfl, trivial⟩
        ·
         refine ⟨lst6, by (rw [hh3]; assumption), by exact ⟨.inr (by omega)⟩, by (simp only [List.length_append, List.length_cons, List.length_nil] <;> omega), ?_⟩
         exact ⟨⟨by omega, by simp; omega⟩, hW.snoc (by omega) (by omega)⟩
        (dsimp only; omega)
       obtain ⟨h3, hh3, n3⟩ : ∃ h3 : Int, h3 = -1 ∧ -1 ≤ h3 ∧ h3 ≤ 33000 := ⟨_, rfl, by omega, by omega⟩
       refine .skip ?_
       refine hK35 _ _ (.region (.mv rfl (.mv rfl ?_)))
       refine .R rfl (.litA rfl sl_22_A ze_2_L rfl rfl rfl rfl) ?_
       rintro _ H165x2 ⟨g165x2, rfl, le165x2, ge165x2, at165x2⟩
       replace hle := hle.trans le165x2
       replace lst6 := lst6.le le165x2
       replace at2 := le165x2.2 _ _ at2
       replace at3 := le165x2.2 _ _ at3
       replace at_L12v6 := le165x2.2 _ _ at_L12v6
       have lt_at165x2 := GHeap.ltg at165x2
       replace hin := base_hin.mono hle
       replace hin1 := base_hin1.mono hle
       have hb2 : Cat.At _ g2 0 c p := ⟨Mem.of_get at2, hin⟩
       have hb3 : Cat.At _ g3 0 d q := ⟨Mem.of_get at3, hin1⟩
       refine .R rfl (.appendI rfl sl_22_A ze_2_L rfl by_2_L sl_22_A rfl rfl (by assumption) (by assumption) (by first | omega | (simp <;> omega)) (by omega) (by omega)) ?_
       rintro _ H166x2 ⟨g166x2, rfl, st166x2, ge166x2, at166x2⟩
       replace hle := hle.st st166x2 (fun k hk => ⟨by omega, trivial⟩)
       replace lst6 := lst6.sQ st166x2
       have ne_g2_gL12v6 : NE g2 gL12v6 := ⟨pl_L12v6.ne ne_g2_gL12.ne (by omega)⟩
       replace at2 := st166x2.s at2 ne_g2_gL12v6.ne
       have ne_g3_gL12v6 : NE g3 gL12v6 := ⟨pl_L12v6.ne ne_g3_gL12.ne (by omega)⟩
       replace at3 := st166x2.s at3 ne_g3_gL12v6.ne
       replace hin := base_hin.mono hle
       replace hin1 := base_hin1.mono hle
       clear hb2
       have hb2 : Cat.At _ g2 0 c p := ⟨Mem.of_get at2, hin⟩
       clear hb3
       have hb3 : Cat.At _ g3 0 d q := ⟨Mem.of_get at3, hin1⟩
       refine .mv rfl (.nil (hK33 _ _ (.region (.mv rfl ?_))))
       refine .q rfl (.add rfl rfl rfl (by omega) (by omega)) ?_
       refine .mv rfl (.nil ?_)
       refine hKL6 ((g + 1, w2 ++ [h3], _, _)) _ _ ?_ ?_ ⟨rfl, rfl, rfl, rfl, rfl, rfl, rfl, rfl, rfl, rfl, rfl, trivial⟩
       ·
        refine ⟨lst6, by (rw [hh3]; assumption), by exact ⟨.inr (by omega)⟩, by (simp only [List.length_append, List.length_cons, List.length_nil] <;> omega), ?_⟩
        exact ⟨⟨by omega, by simp; omega⟩, hW.snoc (by omega) (by omega)⟩
       (dsimp only; omega)
      obtain ⟨h3, hh3, n3⟩ : ∃ h3 : Int, h3 = -1 ∧ -1 ≤ h3 ∧ h3 ≤ 33000 := ⟨_, rfl, by omega, by omega⟩
      refine .z rfl (.z rfl (.z rfl (.z rfl (.z rfl (.z rfl (.z rfl (.z rfl (.z rfl (.q rfl (.pickF rfl rfl) (.nil (hK36 _ _ ?_)))))))))))
      refine .condF rfl ?_
      refine .skip ?_
      refine hK35 _ _ (.region (.mv rfl (.mv rfl ?_)))
      refine .R rfl (.litA rfl sl_22_A ze_2_L rfl rfl rfl rfl) ?_
      rintro _ H165x3 ⟨g165x3, rfl, le165x3, ge165x3, at165x3⟩
      replace hle := hle.trans le165x3
      replace lst6 := lst6.le le165x3
      replace at2 := le165x3.2 _ _ at2
      replace at3 := le165x3.2 _ _ at3
      replace at_L12v6 := le165x3.2 _ _ at_L12v6
      have lt_at165x3 := GHeap.ltg at165x3
      replace hin := base_hin.mono hle
      replace hin1 := base_hin1.mono hle
      have hb2 : Cat.At _ g2 0 c p := ⟨Mem.of_get at2, hin⟩
      have hb3 : Cat.At _ g3 0 d q := ⟨Mem.of_get at3, hin1⟩
      refine .R rfl (.appendI rfl sl_22_A ze_2_L rfl by_2_L sl_22_A rfl rfl (by assumption) (by assumption) (by first | omega | (simp <;> omega)) (by omega) (by omega)) ?_
      rintro _ H166x3 ⟨g166x3, rfl, st166x3, ge166x3, at166x3⟩
      replace hle := hle.st st166x3 (fun k hk => ⟨by omega, trivial⟩)
      replace lst6 := lst6.sQ st166x3
      have ne_g2_gL12v6 : NE g2 gL12v6 := ⟨pl_L12v6.ne ne_g2_gL12.ne (by omega)⟩
      replace at2 := st166x3.s at2 ne_g2_gL12v6.ne
      have ne_g3_gL12v6 : NE g3 gL12v6 := ⟨pl_L12v6.ne ne_g3_gL12.ne (by omega)⟩
      replace at3 := st166x3.s at3 ne_g3_gL12v6.ne
      replace hin := base_hin.mono hle
      replace hin1 := base_hin1.mono hle
      clear hb2
      have hb2 : Cat.At _ g2 0 c p := ⟨Mem.of_get at2, hin⟩
      clear hb3
      have hb3 : Cat.At _ g3 0 d q := ⟨Mem.of_get at3, hin1⟩
      refine .mv rfl (.nil (hK33 _ _ (.region (.mv rfl ?_))))
      refine .q rfl (.add rfl rfl rfl (by omega) (by omega)) ?_
      refine .mv rfl (.nil ?_)
      refine hKL6 ((g + 1, w2 ++ [h3], _, _)) _ _ ?_ ?_ ⟨rfl, rfl, rfl, rfl, rfl, rfl, rfl, rfl, rfl, rfl, rfl, trivial⟩
      ·
       refine ⟨lst6, by (rw [hh3]; assumption), by exact ⟨.inr (by omega)⟩, by (simp only [List.length_append, List.length_cons, List.length_nil] <;> omega), ?_⟩
       exact ⟨⟨by omega, by simp; omega⟩, hW.snoc (by omega) (by omega)⟩
      (dsimp only; omega)
     try simp only [sps] at h121
     refine .exit ?_
     refine hK29 _ _ (.region (.mv rfl ?_))
     refine .q rfl (.add rfl rfl rfl (by omega) (by omega)) ?_
     refine .mv rfl (.nil ?_)
     refine hKL5 ((f + 1, w2, _, _)) _ _ ?_ ?_ ⟨rfl, rfl, rfl, rfl, rfl, rfl, rfl, rfl, rfl, rfl, trivial⟩
     ·
      refine ⟨lst5, by assumption, by exact pl_L12v6.trans pl_L12 (by omega), by omega, ?_⟩
      have e1 := sm f d.src.length
      exact ⟨⟨by omega, by omega⟩, hW⟩
     (dsimp only; omega)
    try simp only [sps] at h114
    refine .exit ?_
    refine hK25 _ _ (.region ?_)
    obtain rfl : f = c.src.length := by omega
    obtain rfl := ln_L12
    refine .q rfl (.fieldAddr fo_29_4_B rfl) ?_
    refine .q rfl (.load on_23_B rfl (by first | assumption | exact Mem.of_get at17018 4 _ rfl)) ?_
    refine .mv rfl ?_
    refine .R rfl (.litA rfl sl_23_B ze_22_Hj rfl rfl rfl rfl) ?_
    rintro _ H170 ⟨g170, rfl, le170, ge170, at170⟩
    replace hle := hle.trans le170
    replace lst4 := lst4.le le170
    replace rk := rk.le le170
    replace at2 := le170.2 _ _ at2
    replace at3 := le170.2 _ _ at3
    replace at_LC2 := le170.2 _ _ at_LC2
    replace at89 := le170.2 _ _ at89
    replace at107 := le170.2 _ _ at107
    replace at17018 := le170.2 _ _ at17018
    replace at_L12 := le170.2 _ _ at_L12
    have lt_at170 := GHeap.ltg at170
    replace hin := base_hin.mono hle
    replace hin1 := base_hin1.mono hle
    have hb2 : Cat.At _ g2 0 c p := ⟨Mem.of_get at2, hin⟩
    have hb3 : Cat.At _ g3 0 d q := ⟨Mem.of_get at3, hin1⟩
    refine .R rfl (.appendV rfl sl_23_B ze_22_Hj rfl by_22_Hj sl_23_B rfl rfl (by assumption) (by assumption) (by first | omega | (simp <;> omega)) rfl rfl (by omega) (by omega)) ?_
    rintro _ H171 ⟨g171, rfl, st171, ge171, at171⟩
    replace hle := hle.st st171 (fun k hk => ⟨by omega, trivial⟩)
    replace lst4 := lst4.sQ st171
    replace rk := rk.sQ st171
    replace at2 := st171.same _ _ ⟨(pl_LC2.ne ne_g2_gLC.ne (by omega)), trivial⟩ at2
    replace at3 := st171.same _ _ ⟨(pl_LC2.ne ne_g3_gLC.ne (by omega)), trivial⟩ at3
    replace at89 := st171.s at89
    replace at107 := st171.s at107
    replace at17018 := st171.same _ _ ⟨(Ne.symm ap4_5), trivial⟩ at17018
    replace at_L12 := st171.same _ _ ⟨(Ne.symm (pl_L12.ne ne_gLC2_g109.ne (by omega))), trivial⟩ at_L12
    replace hin := base_hin.mono hle
    replace hin1 := base_hin1.mono hle
    clear hb2
    have hb2 : Cat.At _ g2 0 c p := ⟨Mem.of_get at2, hin⟩
    clear hb3
    have hb3 : Cat.At _ g3 0 d q := ⟨Mem.of_get at3, hin1⟩
    refine .q rfl (.fieldAddr fo_29_4_B rfl) ?_
    refine .r0 rfl rfl (.storeR rfl sz_23_Ch rfl rfl rfl (by assumption) (by first | exact Nat.le_of_ble_eq_true rfl | (simp; done) | (simp <;> omega))) ?_
    rintro _ H29006 ⟨rfl, st29006, at29006⟩
    replace hle := hle.st st29006 (fun k hk => ⟨by omega, trivial⟩)
    replace lst4 := lst4.sA st29006
    replace rk := rk.sA st29006
    replace at2 := st29006.s at2 ne_g2_g7.ne
    replace at3 := st29006.s at3 ne_g3_g7.ne
    replace at89 := st29006.s at89 ne_g89_g7.ne
    replace at107 := st29006.s at107 ne_g107_g7.ne
    replace at_L12 := st29006.same _ _ ⟨(Ne.symm (pl_L12.ne ne_g7_g109.ne (by omega))), trivial⟩ at_L12
    replace at171 := st29006.s at171
    replace hin := base_hin.mono hle
    replace hin1 := base_hin1.mono hle
    clear hb2
    have hb2 : Cat.At _ g2 0 c p := ⟨Mem.of_get at2, hin⟩
    clear hb3
    have hb3 : Cat.At _ g3 0 d q := ⟨Mem.of_get at3, hin1⟩
    try simp only [Nat.zero_add, List.set_cons_succ, List.set_cons_zero] at at29006
    refine .nil (hK21 _ _ (.region (.mv rfl ?_)))
    refine .q rfl (.add rfl rfl rfl (by omega) (by omega)) ?_
    refine .mv rfl (.nil ?_)
    refine hKL4 ((b + 1, s2 ++ [c.src.getD a 0 * d.obj + d.src.getD b 0], t2 ++ [c.tgt.getD a 0 * d.obj + d.tgt.getD b 0], upd r2 c2.length (some ⟨gL12, 0, none⟩), c2 ++ [row], g89, g107, g171)) _ _ ?_ ?_ ⟨rfl, rfl, rfl, rfl, rfl, rfl, rfl, rfl, trivial⟩
    ·
     refine ⟨lst4, by assumption, by exact ⟨.inr (by omega)⟩, by assumption, by exact ⟨.inr (by omega)⟩, by (rw [slsL_snoc]; assumption), by exact ⟨.inr (by omega)⟩, by (rw [List.length_append]; assumption), by omega, by omega, by omega, by omega, by omega, by omega, ?_⟩
     have hR' := hR.st rk (.cons hF1 (.cons hT1 (.cons (hR.neT hatC rfl) (.cons (hR.neT hat7 rfl) (.nil _ _)))))
     have hn1 := hR.ne (g := gL12) (pl_L12.ge (by omega) (by omega))
     have hn2 := hR.ne (g := g89) (by omega)
     have hn3 := hR.ne (g := g107) (by omega)
     have hx1 : gL12 ≠ g89 := pl_L12.ne' (by omega) (by omega)
     have hx2 : gL12 ≠ g107 := pl_L12.ne' (by omega) (by omega)
     have hx3 : gL12 ≠ gLI := pl_L12.ne' (by omega) (by omega)
     exact ⟨⟨by omega, by simp; omega, by simp; omega, by simp; omega⟩, hS.snoc (by omega) (by omega), hT.snoc (by omega) (by omega), hC.snoc (by omega) hW, hR'.snoc2 (by assumption) hn1 (by omega), ne_snoc hn2 (by omega), ne_snoc hn3 (by omega), ne_snoc hI1 (by omega)⟩
    (dsimp only; omega)
   try simp only [sps] at h70
   refine .exit ?_
   refine hK17 _ _ (.region (.mv rfl ?_))
   refine .q rfl (.add rfl rfl rfl (by omega) (by omega)) ?_
   refine .mv rfl (.nil ?_)
   refine hKL3 ((a + 1, s2, t2, r2, c2, gLF2, gLT2, gLC2)) _ _ ?_ ?_ ⟨rfl, rfl, rfl, rfl, rfl, rfl, rfl, trivial⟩
   ·
    refine ⟨lst3, by assumption, by exact pl_LF2.trans pl_LF (by omega), by assumption, by exact pl_LT2.trans pl_LT (by omega), by assumption, by exact pl_LC2.trans pl_LC (by omega), by assumption, by assumption, by assumption, by assumption, by assumption, by assumption, by assumption, ?_⟩
    have e1 := sm a d.src.length
    exact ⟨⟨by omega, by omega, by omega, by omega⟩, hS, hT, hC, hR, hF1, hT1, hI1⟩
   (dsimp only; omega)
  try simp only [sps] at h63
  refine .exit ?_
  refine hK13 _ _ (.seq (fun K37 hK37 => .region ?_))
  refine .q rfl (.loadM ag_29_D rfl ⟨rfl, Mem.of_get at_Lg7⟩) ?_
  refine .r0 rfl rfl (.fillA rfl sz_29_D rfl rfl rfl rfl) ?_
  rintro _ H30001 ⟨rfl, st30001, at30001⟩
  replace hle := hle.st st30001 (fun k hk => ⟨by omega, trivial⟩)
  replace at2 := st30001.s at2
  replace at3 := st30001.s at3
  replace at_LI := st30001.same _ _ ⟨(Ne.symm (pl_LI.ne ne_g4_g27.ne (by omega))), trivial⟩ at_LI
  replace at_LF := st30001.same _ _ ⟨(Ne.symm (pl_LF.ne ne_g4_g25.ne (by omega))), trivial⟩ at_LF
  replace at_LT := st30001.same _ _ ⟨(Ne.symm (pl_LT.ne ne_g4_g26.ne (by omega))), trivial⟩ at_LT
  replace at_LC := st30001.same _ _ ⟨(Ne.symm (pl_LC.ne ne_g4_g28.ne (by omega))), trivial⟩ at_LC
  replace hin := base_hin.mono hle
  replace hin1 := base_hin1.mono hle
  have hb2 : Cat.At _ g2 0 c p := ⟨Mem.of_get at2, hin⟩
  have hb3 : Cat.At _ g3 0 d q := ⟨Mem.of_get at3, hin1⟩
  refine .nil (hK37 _ _ ?_)
  refine .ret ?_
  refine hret _ _ ?_
  refine ⟨_, _, _, _, rfl, ag_29_D, (by rfl), (Mem.of_get at30001), ?_⟩
  obtain rfl : a = c.src.length := by omega
  have hx4 : gLF ≠ gLI := pl_LF.ne' (pl_LI.ne' (by omega) (by omega)) (by omega)
  have hx5 : gLT ≠ gLI := pl_LT.ne' (pl_LI.ne' (by omega) (by omega)) (by omega)
  have hat4 := at4
  have hR' := hR.st st30001 (.cons (hR.neT hat4 rfl) (.nil _ _))
  exact ⟨⟨c.obj * d.obj, ss, ts, is, cs⟩, rect_mk (by omega) (by omega) hts (hS.mono (by omega) (by omega)) (hT.mono (by omega) (by omega)) (by rw [hl]; congr 1; omega) (hB.mono (by omega) (by omega)) (by omega) (by rw [hs8]; exact hC.mono (by omega) (by omega)), hle, gLF, gLT, gLI, gLC, rr, by simp [Cat.cells, ownP, hts, hcl], ⟨at_LF, at_LT, at_LI, at_LC, by omega, by omega, by omega, by omega, by omega, by omega, by omega, hR', hF1, hT1, hI1⟩⟩
end Go.Proofs.Ytjdedelneppnlaa
namespace Go.Proofs.Ytjdedelneppnlaa
open Go Go.GL Go.RowKit Go.Proofs
set_option maxHeartbeats 8000000 in
theorem l02Some_c {gS : Nat} {m n : Int} {H : GHeap} (hs : DSrc 120 H gS := by assumption) :
    GCalls Try.prog 115 [.pointer (some ⟨gS, 0, none⟩), .int .i64 m, .int .i64 n] H (DrawnCat 120 33000 gS H) := by
  have hlS := hs.lt
  refine GCalls.body (N := 48) (rs := [.cell 6 29]) Try.func115 rfl rfl rfl rfl (fun Qx hret hend => ?_)
  refine .fg [0, 1, 2] rfl ?_
  have hst := St.refl [gS] H
  refine .seq (fun K1 hK1 => .region ?_)
  refine .R rfl (.allocR rfl ze_29_Hj rfl) ?_
  rintro _ H6 ⟨g6, rfl, le6, ge6, at6⟩
  replace hst := hst.le le6
  have lt_at6 := GHeap.ltg at6
  refine .nil (hK1 _ _ (.seq (fun K2 hK2 => .seq (fun K3 hK3 => .region ?_))))
  have hs := hs.le le6
  refine .mv rfl (.nil (hK3 _ _ ?_))
  refine .block ?_
  refine .loopR (σ := Nat) [(0, some _), (1, some _), (2, some _), (6, some _)] (fun i => [(7, some (.int .i64 (i : Int)))]) (fun i H' => St [gS] H6 H' ∧ i ≤ 12 ∧ DSrc 120 H' gS) (fun i => 12 - i) (0) ⟨rfl, rfl, rfl, rfl, trivial⟩ ⟨rfl, trivial⟩ ?_ ?_
  ·
   refine ⟨.refl _ _, ?_⟩
   exact ⟨by omega, hs⟩
  rintro i HL1 ⟨lst1, hI⟩ KL1 hKL1
  refine .forget (fr' := [(7, some (.int .i64 (i : Int))), (0, some _), (1, some _), (2, some _), (6, some _)]) ⟨rfl, rfl, rfl, rfl, rfl, trivial⟩ ?_
  have nx_HL1 := lst1.nx
  replace hst := hst.sA lst1
  have ne_g6_gS : NE g6 gS := .a
  replace at6 := lst1.s at6 ne_g6_gS.ne
  obtain ⟨hi, hs⟩ := hI
  refine .seq (fun K4 hK4 => .seq (fun K5 hK5 => .region (.mv rfl (.q rfl (.cmp rfl rfl rfl) (.nil (hK5 _ _ ?_))))))
  refine .cond rfl (fun h10 => ?_) (fun h10 => ?_)
  ·
   simp only [sps] at h10
   refine .skip ?_
   refine hK4 _ _ (.seq (fun K6 hK6 => ?_))
   refine .block ?_
   refine .seq (fun K7 hK7 => .region (.mv rfl ?_))
   refine .call rfl rfl rfl rfl @Try.call138 rfl (l02Family_c) ?_
   rintro _ H14 ⟨c14, p14, rfl, rc14, v14, st14, hs⟩
   have nx_H14 := st14.nx
   replace hst := hst.sA st14
   replace lst1 := lst1.sA st14
   replace at6 := st14.s at6 ne_g6_gS.ne
   have bs_v14 := v14
   have lv_v14 : Keep HL1.next H14 H14 := fun _ _ _ h => h
   refine .R rfl (.allocR rfl ze_29_Hj rfl) ?_
   rintro _ H8 ⟨g8, rfl, le8, ge8, at8⟩
   replace hst := hst.le le8
   replace lst1 := lst1.le le8
   replace hs := hs.le le8
   replace at6 := le8.2 _ _ at6
   replace lv_v14 := Keep.le lv_v14 le8
   refine .r0 rfl rfl (.fillA rfl sz_29_D rfl rfl rfl rfl) ?_
   rintro _ H4003 ⟨rfl, st4003, at4003⟩
   replace hst := hst.sA st4003
   replace lst1 := lst1.sA st4003
   replace hs := hs.sA st4003
   have ne_g6_g8 : NE g6 g8 := .a
   replace at6 := st4003.s at6 ne_g6_g8.ne
   replace lv_v14 := Keep.st lv_v14 st4003 (fun k hb hk => ⟨(by omega), trivial⟩)
   have lt_at4003 := GHeap.ltg at4003
   refine .nil (hK7 _ _ (.seq (fun K8 hK8 => .seq (fun K9 hK9 => .region (.mv rfl ?_)))))
   refine .call rfl rfl rfl rfl @Try.call70 rfl (l01Next_c) ?_
   rintro _ H16 ⟨k16, rfl, ka16, kb16, kc16, st16, hs⟩
   have nx_H16 := st16.nx
   replace hst := hst.sA st16
   replace lst1 := lst1.sA st16
   replace at6 := st16.s at6 ne_g6_gS.ne
   have ne_g8_gS : NE g8 gS := .a
   replace at4003 := st16.s at4003 ne_g8_gS.ne
   replace lv_v14 := Keep.st lv_v14 st16 (fun k hb hk => ⟨(by omega), trivial⟩)
   refine .q rfl (.cmp rfl rfl rfl) (.nil (hK9 _ _ ?_))
   refine .cond rfl (fun h17 => ?_) (fun h17 => ?_)
   ·
    try simp only [sps] at h17
    refine .regionDB mo_B (.q 0 (.q 1 (.c 2 1 (.c 3 0 (.c 4 0 (.done)))))) (by kernel_rfl) (GHeap.le_erase H16 gS) ?_
    have hbl := GHeap.le_erase H16 gS
    have a8B := GHeap.get_erase_of (g := gS) at4003 (by omega)
    refine .qB rfl hbl (.loadM ag_29_D rfl ⟨rfl, Mem.of_get a8B⟩) ?_
    refine .qB rfl hbl (.move rfl) ?_
    refine .call1 rfl rfl rfl rfl rfl @Try.call138 rfl (l02Family_c) ?_
    rintro _ H20 ⟨c20, p20, rfl, rc20, v20, st20, hs⟩
    replace hbl := hbl.erase_st st20
    refine ⟨hbl, ?_⟩
    have nx_H20 := st20.nx
    replace hst := hst.sA st20
    replace lst1 := lst1.sA st20
    replace at6 := st20.s at6 ne_g6_gS.ne
    replace at4003 := st20.s at4003 ne_g8_gS.ne
    replace lv_v14 := Keep.st lv_v14 st20 (fun k hb hk => ⟨(by omega), trivial⟩)
    replace v14 := bs_v14.keep lv_v14 (Nat.le_refl _)
    have i14 := v14.inn
    have i20 := v20.inn
    refine .call0 rfl rfl rfl rfl rfl @Try.call139 rfl (l03Sum_c (hin := i14) (hin1 := i20) (hc := rc14) (hd := rc20) (hN := by omega)) ?_
    rintro _ H21 ⟨le21, ga21, gb21, gc21, gd21, rr21, rfl, o21⟩
    have v21 := o21.catR
    replace hst := hst.le le21
    replace lst1 := lst1.le le21
    replace hs := hs.le le21
    replace at6 := le21.2 _ _ at6
    replace at4003 := le21.2 _ _ at4003
    have bs_v21 := v21
    have lv_v21 : Keep H20.next H21 H21 := fun _ _ _ h => h
    clear i14
    clear i20
    refine .r0 rfl rfl rfl (.fillA rfl sz_29_D rfl rfl rfl rfl) ?_
    rintro _ H6004 ⟨rfl, st6004, at6004⟩
    replace hst := hst.sA st6004
    replace lst1 := lst1.sA st6004
    replace hs := hs.sA st6004
    replace at6 := st6004.s at6 ne_g6_g8.ne
    replace lv_v21 := Keep.st lv_v21 st6004 (fun k hb hk => ⟨(by omega), trivial⟩)
    have lt_at6004 := GHeap.ltg at6004
    refine .done ?_
    refine hK8 _ _ (.seq (fun K10 hK10 => .seq (fun K11 hK11 => .region (.mv rfl ?_))))
    refine .call rfl rfl rfl rfl @Try.call70 rfl (l01Next_c) ?_
    rintro _ H23 ⟨k23, rfl, ka23, kb23, kc23, st23, hs⟩
    have nx_H23 := st23.nx
    replace hst := hst.sA st23
    replace lst1 := lst1.sA st23
    replace at6 := st23.s at6 ne_g6_gS.ne
    replace at6004 := st23.s at6004 ne_g8_gS.ne
    replace lv_v21 := Keep.st lv_v21 st23 (fun k hb hk => ⟨(by omega), trivial⟩)
    replace v21 := bs_v21.keep lv_v21 (Nat.le_refl _)
    have i21 := v21.inn
    refine .q rfl (.cmp rfl rfl rfl) (.nil (hK11 _ _ ?_))
    refine .cond rfl (fun h24 => ?_) (fun h24 => ?_)
    ·
     try simp only [sps] at h24
     refine .regionDB mo_B (.q 0 (.q 1 (.c 2 1 (.c 3 0 (.c 4 0 (.done)))))) (by kernel_rfl) (GHeap.le_erase H23 gS) ?_
     have hbl := GHeap.le_erase H23 gS
     have a8B := GHeap.get_erase_of (g := gS) at6004 (by omega)
     refine .qB rfl hbl (.loadM ag_29_D rfl ⟨rfl, Mem.of_get a8B⟩) ?_
     refine .qB rfl hbl (.move rfl) ?_
     refine .call1 rfl rfl rfl rfl rfl @Try.call138 rfl (l02Family_c) ?_
     rintro _ H27 ⟨c27, p27, rfl, rc27, v27, st27, hs⟩
     replace hbl := hbl.erase_st st27
     refine ⟨hbl, ?_⟩
     have nx_H27 := st27.nx
     replace hst := hst.sA st27
     replace lst1 := lst1.sA st27
     replace at6 := st27.s at6 ne_g6_gS.ne
     replace at6004 := st27.s at6004 ne_g8_gS.ne
     replace lv_v21 := Keep.st lv_v21 st27 (fun k hb hk => ⟨(by omega), trivial⟩)
     replace v21 := bs_v21.keep lv_v21 (Nat.le_refl _)
     clear i21
     have i21 := v21.inn
     have i27 := v27.inn
     refine .call0 rfl rfl rfl rfl rfl @Try.call140 rfl (l03Product_c (hin := by first | exact i21 | exact i14) (hin1 := i27) (hc := by first | exact (rc14.sum rc20).mono (by omega) | exact rc14.mono (by omega)) (hd := rc27)) ?_
     rintro _ H28 ⟨c28, rc28, le28, ga28, gb28, gc28, gd28, rr28, rfl, o28⟩
     have v28 := o28.catR
     replace hst := hst.le le28
     replace lst1 := lst1.le le28
     replace hs := hs.le le28
     replace at6 := le28.2 _ _ at6
     replace at6004 := le28.2 _ _ at6004
     have bs_v28 := v28
     have lv_v28 : Keep H27.next H28 H28 := fun _ _ _ h => h
     clear i21
     clear i27
     refine .r0 rfl rfl rfl (.fillA rfl sz_29_D rfl rfl rfl rfl) ?_
     rintro _ H8004 ⟨rfl, st8004, at8004⟩
     replace hst := hst.sA st8004
     replace lst1 := lst1.sA st8004
     replace hs := hs.sA st8004
     replace at6 := st8004.s at6 ne_g6_g8.ne
     replace lv_v28 := Keep.st lv_v28 st8004 (fun k hb hk => ⟨(by omega), trivial⟩)
     replace v28 := bs_v28.keep lv_v28 (Nat.le_refl _)
     have i28 := v28.inn
     refine .done ?_
     refine hK10 _ _ (.seq (fun K12 hK12 => .region (.q rfl (.fieldAddr fo_29_0_B rfl) ?_)))
     refine .q rfl (.load on_2_A rfl (by first | assumption | exact Mem.of_get at8004 0 _ rfl)) ?_
     refine .mv rfl (.q rfl (.cmp rfl rfl rfl) (.mv rfl ?_))
     refine .split (fun h33 => ?_) (fun h33 => ?_)
     ·
      try simp only [sps] at h33
      refine .qg rfl (.fieldAddr fo_29_1_B rfl) ?_
      refine .qg rfl (.load on_22_B rfl (by first | assumption | exact Mem.of_get at8004 1 _ rfl)) ?_
      refine .qg rfl (.len sl_22_A rfl) (.qg rfl (.move rfl) (.qg rfl (.cmp rfl rfl rfl) (.q rfl (.pickT rfl rfl) (.mv rfl ?_))))
      refine .split (fun h40 => ?_) (fun h40 => ?_)
      ·
       try simp only [sps] at h40
       refine .qg rfl (.loadM ag_29_D rfl ⟨rfl, Mem.of_get at8004⟩) ?_
       refine .callQg rfl rfl rfl rfl rfl rfl @Try.call141 rfl (l02Fits_c (hin := by first | exact i28 | exact i21 | exact i14)) ?_
       refine .q rfl (.pickT rfl rfl) (.nil (hK12 _ _ ?_))
       refine .cond rfl (fun h43 => ?_) (fun h43 => ?_)
       ·
        try simp only [sps] at h43
        refine .seq (fun K13 hK13 => .region ?_)
        refine .q rfl (.loadM ag_29_D rfl ⟨rfl, Mem.of_get at8004⟩) ?_
        refine .r0 rfl rfl (.fillA rfl sz_29_D rfl rfl rfl rfl) ?_
        rintro _ H10001 ⟨rfl, st10001, at10001⟩
        replace hst := hst.sA st10001
        replace hs := hs.sA st10001
        replace lv_v28 := Keep.st lv_v28 st10001 (fun k hb hk => ⟨(by omega), trivial⟩)
        replace v28 := bs_v28.keep lv_v28 (Nat.le_refl _)
        clear i28
        refine .nil (hK13 _ _ ?_)
        refine .ret ?_
        refine hret _ _ ?_
        refine ⟨_, _, _, _, rfl, ag_29_D, (by rfl), (Mem.of_get at10001), ?_⟩
        exact ⟨c28, _, rfl, rc28, v28.keep (.of_le (.refl _)) (by omega), hst, hs⟩
       try simp only [sps] at h43
       refine .skip ?_
       refine hK6 _ _ (.region (.mv rfl ?_))
       refine .q rfl (.add rfl rfl rfl (by omega) (by omega)) ?_
       refine .mv rfl (.nil ?_)
       refine hKL1 (i + 1) _ _ ?_ ?_ ⟨rfl, rfl, rfl, rfl, rfl, trivial⟩
       ·
        refine ⟨lst1, ?_⟩
        exact ⟨by omega, hs⟩
       omega
      try simp only [sps] at h40
      refine .z rfl (.z rfl (.q rfl (.pickF rfl rfl) (.nil (hK12 _ _ ?_))))
      refine .condF rfl ?_
      refine .skip ?_
      refine hK6 _ _ (.region (.mv rfl ?_))
      refine .q rfl (.add rfl rfl rfl (by omega) (by omega)) ?_
      refine .mv rfl (.nil ?_)
      refine hKL1 (i + 1) _ _ ?_ ?_ ⟨rfl, rfl, rfl, rfl, rfl, trivial⟩
      ·
       refine ⟨lst1, ?_⟩
       exact ⟨by omega, hs⟩
      omega
     try simp only [sps] at h33
     refine .z rfl (.z rfl (.z rfl (.z rfl (.z rfl (.q rfl (.pickF rfl rfl) (.mv rfl (.z rfl (.z rfl (.q rfl (.pickF rfl rfl) (.nil (hK12 _ _ ?_)))))))))))
     refine .condF rfl ?_
     refine .skip ?_
     refine hK6 _ _ (.region (.mv rfl ?_))
     refine .q rfl (.add rfl rfl rfl (by omega) (by omega)) ?_
     refine .mv rfl (.nil ?_)
     refine hKL1 (i + 1) _ _ ?_ ?_ ⟨rfl, rfl, rfl, rfl, rfl, trivial⟩
     ·
      refine ⟨lst1, ?_⟩
      exact ⟨by omega, hs⟩
     omega
    try simp only [sps] at h24
    refine .skip ?_
    refine hK10 _ _ (.seq (fun K14 hK14 => .region (.q rfl (.fieldAddr fo_29_0_B rfl) ?_)))
    refine .q rfl (.load on_2_A rfl (by first | assumption | exact Mem.of_get at6004 0 _ rfl)) ?_
    refine .mv rfl (.q rfl (.cmp rfl rfl rfl) (.mv rfl ?_))
    refine .split (fun h33 => ?_) (fun h33 => ?_)
    ·
     try simp only [sps] at h33
     refine .qg rfl (.fieldAddr fo_29_1_B rfl) ?_
     refine .qg rfl (.load on_22_B rfl (by first | assumption | exact Mem.of_get at6004 1 _ rfl)) ?_
     refine .qg rfl (.len sl_22_A rfl) (.qg rfl (.move rfl) (.qg rfl (.cmp rfl rfl rfl) (.q rfl (.pickT rfl rfl) (.mv rfl ?_))))
     refine .split (fun h40 => ?_) (fun h40 => ?_)
     ·
      try simp only [sps] at h40
      refine .qg rfl (.loadM ag_29_D rfl ⟨rfl, Mem.of_get at6004⟩) ?_
      refine .callQg rfl rfl rfl rfl rfl rfl @Try.call141 rfl (l02Fits_c (hin := by first | exact i28 | exact i21 | exact i14)) ?_
      refine .q rfl (.pickT rfl rfl) (.nil (hK14 _ _ ?_))
      refine .cond rfl (fun h43 => ?_) (fun h43 => ?_)
      ·
       try simp only [sps] at h43
       refine .seq (fun K15 hK15 => .region ?_)
       refine .q rfl (.loadM ag_29_D rfl ⟨rfl, Mem.of_get at6004⟩) ?_
       refine .r0 rfl rfl (.fillA rfl sz_29_D rfl rfl rfl rfl) ?_
       rintro _ H10001x2 ⟨rfl, st10001x2, at10001x2⟩
       replace hst := hst.sA st10001x2
       replace hs := hs.sA st10001x2
       replace lv_v21 := Keep.st lv_v21 st10001x2 (fun k hb hk => ⟨(by omega), trivial⟩)
       replace v21 := bs_v21.keep lv_v21 (Nat.le_refl _)
       refine .nil (hK15 _ _ ?_)
       refine .ret ?_
       refine hret _ _ ?_
       refine ⟨_, _, _, _, rfl, ag_29_D, (by rfl), (Mem.of_get at10001x2), ?_⟩
       exact ⟨_, _, rfl, (rc14.sum rc20).mono (by omega), v21.keep (.of_le (.refl _)) (by omega), hst, hs⟩
      try simp only [sps] at h43
      refine .skip ?_
      refine hK6 _ _ (.region (.mv rfl ?_))
      refine .q rfl (.add rfl rfl rfl (by omega) (by omega)) ?_
      refine .mv rfl (.nil ?_)
      refine hKL1 (i + 1) _ _ ?_ ?_ ⟨rfl, rfl, rfl, rfl, rfl, trivial⟩
      ·
       refine ⟨lst1, ?_⟩
       exact ⟨by omega, hs⟩
      omega
     try simp only [sps] at h40
     refine .z rfl (.z rfl (.q rfl (.pickF rfl rfl) (.nil (hK14 _ _ ?_))))
     refine .condF rfl ?_
     refine .skip ?_
     refine hK6 _ _ (.region (.mv rfl ?_))
     refine .q rfl (.add rfl rfl rfl (by omega) (by omega)) ?_
     refine .mv rfl (.nil ?_)
     refine hKL1 (i + 1) _ _ ?_ ?_ ⟨rfl, rfl, rfl, rfl, rfl, trivial⟩
     ·
      refine ⟨lst1, ?_⟩
      exact ⟨by omega, hs⟩
     omega
    try simp only [sps] at h33
    refine .z rfl (.z rfl (.z rfl (.z rfl (.z rfl (.q rfl (.pickF rfl rfl) (.mv rfl (.z rfl (.z rfl (.q rfl (.pickF rfl rfl) (.nil (hK14 _ _ ?_)))))))))))
    refine .condF rfl ?_
    refine .skip ?_
    refine hK6 _ _ (.region (.mv rfl ?_))
    refine .q rfl (.add rfl rfl rfl (by omega) (by omega)) ?_
    refine .mv rfl (.nil ?_)
    refine hKL1 (i + 1) _ _ ?_ ?_ ⟨rfl, rfl, rfl, rfl, rfl, trivial⟩
    ·
     refine ⟨lst1, ?_⟩
     exact ⟨by omega, hs⟩
    omega
   try simp only [sps] at h17
   refine .skip ?_
   refine hK8 _ _ (.seq (fun K16 hK16 => .seq (fun K17 hK17 => .region (.mv rfl ?_))))
   refine .call rfl rfl rfl rfl @Try.call70 rfl (l01Next_c) ?_
   rintro _ H23x2 ⟨k23x2, rfl, ka23x2, kb23x2, kc23x2, st23x2, hs⟩
   have nx_H23x2 := st23x2.nx
   replace hst := hst.sA st23x2
   replace lst1 := lst1.sA st23x2
   replace at6 := st23x2.s at6 ne_g6_gS.ne
   replace at4003 := st23x2.s at4003 ne_g8_gS.ne
   replace lv_v14 := Keep.st lv_v14 st23x2 (fun k hb hk => ⟨(by omega), trivial⟩)
   replace v14 := bs_v14.keep lv_v14 (Nat.le_refl _)
   have i14 := v14.inn
   refine .q rfl (.cmp rfl rfl rfl) (.nil (hK17 _ _ ?_))
   refine .cond rfl (fun h24 => ?_) (fun h24 => ?_)
   ·
    try simp only [sps] at h24
    refine .regionDB mo_B (.q 0 (.q 1 (.c 2 1 (.c 3 0 (.c 4 0 (.done)))))) (by kernel_rfl) (GHeap.le_erase H23x2 gS) ?_
    have hbl := GHeap.le_erase H23x2 gS
    have a8B := GHeap.get_erase_of (g := gS) at4003 (by omega)
    refine .qB rfl hbl (.loadM ag_29_D rfl ⟨rfl, Mem.of_get a8B⟩) ?_
    refine .qB rfl hbl (.move rfl) ?_
    refine .call1 rfl rfl rfl rfl rfl @Try.call138 rfl (l02Family_c) ?_
    rintro _ H27x2 ⟨c27, p27, rfl, rc27, v27, st27x2, hs⟩
    replace hbl := hbl.erase_st st27x2
    refine ⟨hbl, ?_⟩
    have nx_H27x2 := st27x2.nx
    replace hst := hst.sA st27x2
    replace lst1 := lst1.sA st27x2
    replace at6 := st27x2.s at6 ne_g6_gS.ne
    replace at4003 := st27x2.s at4003 ne_g8_gS.ne
    replace lv_v14 := Keep.st lv_v14 st27x2 (fun k hb hk => ⟨(by omega), trivial⟩)
    replace v14 := bs_v14.keep lv_v14 (Nat.le_refl _)
    clear i14
    have i14 := v14.inn
    have i27 := v27.inn
    refine .call0 rfl rfl rfl rfl rfl @Try.call140 rfl (l03Product_c (hin := by first | exact i21 | exact i14) (hin1 := i27) (hc := by first | exact (rc14.sum rc20).mono (by omega) | exact rc14.mono (by omega)) (hd := rc27)) ?_
    rintro _ H28x2 ⟨c28, rc28, le28x2, ga28x2, gb28x2, gc28x2, gd28x2, rr28x2, rfl, o28x2⟩
    have v28 := o28x2.catR
    replace hst := hst.le le28x2
    replace lst1 := lst1.le le28x2
    replace hs := hs.le le28x2
    replace at6 := le28x2.2 _ _ at6
    replace at4003 := le28x2.2 _ _ at4003
    have bs_v28 := v28
    have lv_v28 : Keep H27x2.next H28x2 H28x2 := fun _ _ _ h => h
    clear i14
    clear i27
    refine .r0 rfl rfl rfl (.fillA rfl sz_29_D rfl rfl rfl rfl) ?_
    rintro _ H8004x2 ⟨rfl, st8004x2, at8004x2⟩
    replace hst := hst.sA st8004x2
    replace lst1 := lst1.sA st8004x2
    replace hs := hs.sA st8004x2
    replace at6 := st8004x2.s at6 ne_g6_g8.ne
    replace lv_v28 := Keep.st lv_v28 st8004x2 (fun k hb hk => ⟨(by omega), trivial⟩)
    replace v28 := bs_v28.keep lv_v28 (Nat.le_refl _)
    have i28 := v28.inn
    refine .done ?_
    refine hK16 _ _ (.seq (fun K18 hK18 => .region (.q rfl (.fieldAddr fo_29_0_B rfl) ?_)))
    refine .q rfl (.load on_2_A rfl (by first | assumption | exact Mem.of_get at8004x2 0 _ rfl)) ?_
    refine .mv rfl (.q rfl (.cmp rfl rfl rfl) (.mv rfl ?_))
    refine .split (fun h33 => ?_) (fun h33 => ?_)
    ·
     try simp only [sps] at h33
     refine .qg rfl (.fieldAddr fo_29_1_B rfl) ?_
     refine .qg rfl (.load on_22_B rfl (by first | assumption | exact Mem.of_get at8004x2 1 _ rfl)) ?_
     refine .qg rfl (.len sl_22_A rfl) (.qg rfl (.move rfl) (.qg rfl (.cmp rfl rfl rfl) (.q rfl (.pickT rfl rfl) (.mv rfl ?_))))
     refine .split (fun h40 => ?_) (fun h40 => ?_)
     ·
      try simp only [sps] at h40
      refine .qg rfl (.loadM ag_29_D rfl ⟨rfl, Mem.of_get at8004x2⟩) ?_
      refine .callQg rfl rfl rfl rfl rfl rfl @Try.call141 rfl (l02Fits_c (hin := by first | exact i28 | exact i21 | exact i14)) ?_
      refine .q rfl (.pickT rfl rfl) (.nil (hK18 _ _ ?_))
      refine .cond rfl (fun h43 => ?_) (fun h43 => ?_)
      ·
       try simp only [sps] at h43
       refine .seq (fun K19 hK19 => .region ?_)
       refine .q rfl (.loadM ag_29_D rfl ⟨rfl, Mem.of_get at8004x2⟩) ?_
       refine .r0 rfl rfl (.fillA rfl sz_29_D rfl rfl rfl rfl) ?_
       rintro _ H10001x3 ⟨rfl, st10001x3, at10001x3⟩
       replace hst := hst.sA st10001x3
       replace hs := hs.sA st10001x3
       replace lv_v28 := Keep.st lv_v28 st10001x3 (fun k hb hk => ⟨(by omega), trivial⟩)
       replace v28 := bs_v28.keep lv_v28 (Nat.le_refl _)
       clear i28
       refine .nil (hK19 _ _ ?_)
       refine .ret ?_
       refine hret _ _ ?_
       refine ⟨_, _, _, _, rfl, ag_29_D, (by rfl), (Mem.of_get at10001x3), ?_⟩
       exact ⟨c28, _, rfl, rc28, v28.keep (.of_le (.refl _)) (by omega), hst, hs⟩
      try simp only [sps] at h43
      refine .skip ?_
      refine hK6 _ _ (.region (.mv rfl ?_))
      refine .q rfl (.add rfl rfl rfl (by omega) (by omega)) ?_
      refine .mv rfl (.nil ?_)
      refine hKL1 (i + 1) _ _ ?_ ?_ ⟨rfl, rfl, rfl, rfl, rfl, trivial⟩
      ·
       refine ⟨lst1, ?_⟩
       exact ⟨by omega, hs⟩
      omega
     try simp only [sps] at h40
     refine .z rfl (.z rfl (.q rfl (.pickF rfl rfl) (.nil (hK18 _ _ ?_))))
     refine .condF rfl ?_
     refine .skip ?_
     refine hK6 _ _ (.region (.mv rfl ?_))
     refine .q rfl (.add rfl rfl rfl (by omega) (by omega)) ?_
     refine .mv rfl (.nil ?_)
     refine hKL1 (i + 1) _ _ ?_ ?_ ⟨rfl, rfl, rfl, rfl, rfl, trivial⟩
     ·
      refine ⟨lst1, ?_⟩
      exact ⟨by omega, hs⟩
     omega
    try simp only [sps] at h33
    refine .z rfl (.z rfl (.z rfl (.z rfl (.z rfl (.q rfl (.pickF rfl rfl) (.mv rfl (.z rfl (.z rfl (.q rfl (.pickF rfl rfl) (.nil (hK18 _ _ ?_)))))))))))
    refine .condF rfl ?_
    refine .skip ?_
    refine hK6 _ _ (.region (.mv rfl ?_))
    refine .q rfl (.add rfl rfl rfl (by omega) (by omega)) ?_
    refine .mv rfl (.nil ?_)
    refine hKL1 (i + 1) _ _ ?_ ?_ ⟨rfl, rfl, rfl, rfl, rfl, trivial⟩
    ·
     refine ⟨lst1, ?_⟩
     exact ⟨by omega, hs⟩
    omega
   try simp only [sps] at h24
   refine .skip ?_
   refine hK16 _ _ (.seq (fun K20 hK20 => .region (.q rfl (.fieldAddr fo_29_0_B rfl) ?_)))
   refine .q rfl (.load on_2_A rfl (by first | assumption | exact Mem.of_get at4003 0 _ rfl)) ?_
   refine .mv rfl (.q rfl (.cmp rfl rfl rfl) (.mv rfl ?_))
   refine .split (fun h33 => ?_) (fun h33 => ?_)
   ·
    try simp only [sps] at h33
    refine .qg rfl (.fieldAddr fo_29_1_B rfl) ?_
    refine .qg rfl (.load on_22_B rfl (by first | assumption | exact Mem.of_get at4003 1 _ rfl)) ?_
    refine .qg rfl (.len sl_22_A rfl) (.qg rfl (.move rfl) (.qg rfl (.cmp rfl rfl rfl) (.q rfl (.pickT rfl rfl) (.mv rfl ?_))))
    refine .split (fun h40 => ?_) (fun h40 => ?_)
    ·
     try simp only [sps] at h40
     refine .qg rfl (.loadM ag_29_D rfl ⟨rfl, Mem.of_get at4003⟩) ?_
     refine .callQg rfl rfl rfl rfl rfl rfl @Try.call141 rfl (l02Fits_c (hin := by first | exact i28 | exact i21 | exact i14)) ?_
     refine .q rfl (.pickT rfl rfl) (.nil (hK20 _ _ ?_))
     refine .cond rfl (fun h43 => ?_) (fun h43 => ?_)
     ·
      try simp only [sps] at h43
      refine .seq (fun K21 hK21 => .region ?_)
      refine .q rfl (.loadM ag_29_D rfl ⟨rfl, Mem.of_get at4003⟩) ?_
      refine .r0 rfl rfl (.fillA rfl sz_29_D rfl rfl rfl rfl) ?_
      rintro _ H10001x4 ⟨rfl, st10001x4, at10001x4⟩
      replace hst := hst.sA st10001x4
      replace hs := hs.sA st10001x4
      replace lv_v14 := Keep.st lv_v14 st10001x4 (fun k hb hk => ⟨(by omega), trivial⟩)
      replace v14 := bs_v14.keep lv_v14 (Nat.le_refl _)
      refine .nil (hK21 _ _ ?_)
      refine .ret ?_
      refine hret _ _ ?_
      refine ⟨_, _, _, _, rfl, ag_29_D, (by rfl), (Mem.of_get at10001x4), ?_⟩
      exact ⟨c14, _, rfl, rc14.mono (by omega), v14.keep (.of_le (.refl _)) (by omega), hst, hs⟩
     try simp only [sps] at h43
     refine .skip ?_
     refine hK6 _ _ (.region (.mv rfl ?_))
     refine .q rfl (.add rfl rfl rfl (by omega) (by omega)) ?_
     refine .mv rfl (.nil ?_)
     refine hKL1 (i + 1) _ _ ?_ ?_ ⟨rfl, rfl, rfl, rfl, rfl, trivial⟩
     ·
      refine ⟨lst1, ?_⟩
      exact ⟨by omega, hs⟩
     omega
    try simp only [sps] at h40
    refine .z rfl (.z rfl (.q rfl (.pickF rfl rfl) (.nil (hK20 _ _ ?_))))
    refine .condF rfl ?_
    refine .skip ?_
    refine hK6 _ _ (.region (.mv rfl ?_))
    refine .q rfl (.add rfl rfl rfl (by omega) (by omega)) ?_
    refine .mv rfl (.nil ?_)
    refine hKL1 (i + 1) _ _ ?_ ?_ ⟨rfl, rfl, rfl, rfl, rfl, trivial⟩
    ·
     refine ⟨lst1, ?_⟩
     exact ⟨by omega, hs⟩
    omega
   try simp only [sps] at h33
   refine .z rfl (.z rfl (.z rfl (.z rfl (.z rfl (.q rfl (.pickF rfl rfl) (.mv rfl (.z rfl (.z rfl (.q rfl (.pickF rfl rfl) (.nil (hK20 _ _ ?_)))))))))))
   refine .condF rfl ?_
   refine .skip ?_
   refine hK6 _ _ (.region (.mv rfl ?_))
   refine .q rfl (.add rfl rfl rfl (by omega) (by omega)) ?_
   refine .mv rfl (.nil ?_)
   refine hKL1 (i + 1) _ _ ?_ ?_ ⟨rfl, rfl, rfl, rfl, rfl, trivial⟩
   ·
    refine ⟨lst1, ?_⟩
    exact ⟨by omega, hs⟩
   omega
  try simp only [sps] at h10
  refine .exit ?_
  refine hK2 _ _ (.seq (fun K22 hK22 => .region ?_))
  refine .R rfl (.litA rfl sl_22_A ze_2_L rfl rfl rfl rfl) ?_
  rintro _ H45 ⟨g45, rfl, le45, ge45, at45⟩
  replace hst := hst.le le45
  replace hs := hs.le le45
  replace at6 := le45.2 _ _ at6
  have lt_at45 := GHeap.ltg at45
  refine .R rfl (.litA rfl sl_23_B ze_22_Hj rfl rfl rfl rfl) ?_
  rintro _ H46 ⟨g46, rfl, le46, ge46, at46⟩
  replace hst := hst.le le46
  replace hs := hs.le le46
  replace at6 := le46.2 _ _ at6
  replace at45 := le46.2 _ _ at45
  have lt_at46 := GHeap.ltg at46
  refine .call rfl rfl rfl rfl @Try.call71 rfl ((by have hh := l03Poset_c (rel := [[1]]) (hin := ((lit_own (gs := [g45]) (by simp only [LitAt]; exact ⟨⟨Nat.zero_le _, at45⟩, trivial⟩) (by simp <;> omega)).done (by exact at46) (Nat.zero_le _)).intss) (hn := by decide) (hr := by decide); exact hh)) ?_
  rintro _ H47 ⟨c47, rc47, le47, ga47, gb47, gc47, gd47, rr47, rfl, o47⟩
  have v47 := o47.catR
  replace hst := hst.le le47
  replace hs := hs.le le47
  replace at6 := le47.2 _ _ at6
  have bs_v47 := v47
  have lv_v47 : Keep H46.next H47 H47 := fun _ _ _ h => h
  refine .r0 rfl rfl (.fillA rfl sz_29_D rfl rfl rfl rfl) ?_
  rintro _ H11003 ⟨rfl, st11003, at11003⟩
  replace hst := hst.sA st11003
  replace hs := hs.sA st11003
  replace lv_v47 := Keep.st lv_v47 st11003 (fun k hb hk => ⟨(by omega), trivial⟩)
  replace v47 := bs_v47.keep lv_v47 (Nat.le_refl _)
  refine .nil (hK22 _ _ ?_)
  refine .ret ?_
  refine hret _ _ ?_
  refine ⟨_, _, _, _, rfl, ag_29_D, (by rfl), (Mem.of_get at11003), ?_⟩
  exact ⟨c47, _, rfl, rc47.mono (by decide), v47.keep (.of_le (.refl _)) (by omega), hst, hs⟩
end Go.Proofs.Ytjdedelneppnlaa
namespace Go.Proofs.Ytjdedelneppnlaa
open Go Go.GL Go.RowKit Go.Proofs
set_option maxHeartbeats 8000000 in
theorem l02Bend_c {gS : Nat} {c : Cat} {p : CatP} {H : GHeap} (hs : DSrc 120 H gS := by assumption) (hin : c.In H p := by assumption) (hr : c.Rect 33000) :
    GCalls Try.prog 116 [.pointer (some ⟨gS, 0, none⟩), .agg (c.cells p).toArray] H (DrawnK 120 gS H) := by
  have hlS := hs.lt
  obtain ⟨a1, a2, a3, -, -, a6, -, a8, a9, -⟩ := id hr
  have hsm := hr.small (by omega)
  obtain ⟨n1, n2, n3, n4, n5, n6⟩ := id hsm
  refine GCalls.body (N := 92) (rs := [.cell 4 29]) Try.func116 rfl rfl rfl rfl (fun Qx hret hend => ?_)
  refine .fg [0, 1] rfl ?_
  have hst := St.refl [gS] H
  refine .seq (fun K1 hK1 => .region ?_)
  refine .R rfl (.boxR rfl sz_29_D rfl) ?_
  rintro _ H3 ⟨g3, rfl, le3, ge3, at3⟩
  replace hst := hst.le le3
  have lt_at3 := GHeap.ltg at3
  refine .R rfl (.allocR rfl ze_29_Hj rfl) ?_
  rintro _ H4 ⟨g4, rfl, le4, ge4, at4⟩
  replace hst := hst.le le4
  replace at3 := le4.2 _ _ at3
  have lt_at4 := GHeap.ltg at4
  refine .nil (hK1 _ _ (.seq (fun K2 hK2 => .region ?_)))
  have hs := (hs.le le3).le le4
  have hin4 := (hin.mono le3).mono le4
  refine .q rfl (.loadM ag_29_D rfl ⟨rfl, Mem.of_get at3⟩) ?_
  refine .call rfl rfl rfl rfl @Try.call142 rfl (l02OwnO_c (hin := hin4) (hs := hsm)) ?_
  rintro _ H8 ⟨le8, gF, gT, gI, gC, rr, rfl, v8⟩
  have aF := v8.a1
  have aT := v8.a2
  have aI := v8.a3
  have aC := v8.a4
  have bF := v8.b1
  have bT := v8.b2
  have bI := v8.b3
  have bC := v8.b4
  have n12 := v8.n12
  have n13 := v8.n13
  have n23 := v8.n23
  have nC1 := row_ne aC aF rfl
  have nC2 := row_ne aC aT rfl
  have nC3 := row_ne aC aI rfl
  have hRR := v8.rows
  have rk0 := St.refl [g3, gS, gF, gT, gI, gC] H8
  replace hst := hst.le le8
  replace hs := hs.le le8
  replace at3 := le8.2 _ _ at3
  replace at4 := le8.2 _ _ at4
  have lt_aF := GHeap.ltg aF
  refine .r0 rfl rfl (.fillA rfl sz_29_D rfl rfl rfl rfl) ?_
  rintro _ H1002 ⟨rfl, st1002, at1002⟩
  have nx_H1002 := st1002.nx
  replace hst := hst.sA st1002
  replace hs := hs.sA st1002
  replace rk0 := rk0.sA st1002
  have ne_g4_g3 : NE g4 g3 := .a
  replace at4 := st1002.s at4 ne_g4_g3.ne
  have ne_gF_g3 : NE gF g3 := .a
  replace aF := st1002.s aF ne_gF_g3.ne
  have ne_gT_g3 : NE gT g3 := .a
  replace aT := st1002.s aT ne_gT_g3.ne
  have ne_gI_g3 : NE gI g3 := .a
  replace aI := st1002.s aI ne_gI_g3.ne
  have ne_gC_g3 : NE gC g3 := .a
  replace aC := st1002.s aC ne_gC_g3.ne
  have lt_at1002 := GHeap.ltg at1002
  replace at1002 : GHeap.get H1002 g3 = some (.row [.int .i64 c.obj, .slice (some ⟨gF, 0, none⟩) c.src.length c.src.length, .slice (some ⟨gT, 0, none⟩) c.tgt.length c.tgt.length, .slice (some ⟨gI, 0, none⟩) c.idn.length c.idn.length, .slice (some ⟨gC, 0, none⟩) c.comp.length c.comp.length] 29 true) := at1002
  refine .nil (hK2 _ _ (.seq (fun K3 hK3 => .region ?_)))
  have offA : Off rr c.comp.length [g3, gS, gF, gT, gI, gC] := .cons (hRR.lowNe (by omega)) (.cons (hRR.lowNe (by omega)) (.cons v8.r1 (.cons v8.r2 (.cons v8.r3 (.cons (hRR.neT v8.a4 rfl) (.nil _ _))))))
  refine .q rfl (.fieldAddr fo_29_1_B rfl) ?_
  refine .q rfl (.load on_22_B rfl (by first | assumption | exact Mem.of_get at1002 1 _ rfl)) ?_
  refine .q rfl (.len sl_22_A rfl) (.mv rfl (.nil (hK3 _ _ (.seq (fun K4 hK4 => .region (.mv rfl (.mv rfl ?_)))))))
  refine .call rfl rfl rfl rfl @Try.call70 rfl (l01Next_c) ?_
  rintro _ H14 ⟨k14, rfl, ka14, kb14, kc14, st14, hs⟩
  have nx_H14 := st14.nx
  replace hst := hst.sA st14
  replace rk0 := rk0.sA st14
  have ne_g4_gS : NE g4 gS := .a
  replace at4 := st14.s at4 ne_g4_gS.ne
  have ne_gF_gS : NE gF gS := .a
  replace aF := st14.s aF ne_gF_gS.ne
  have ne_gT_gS : NE gT gS := .a
  replace aT := st14.s aT ne_gT_gS.ne
  have ne_gI_gS : NE gI gS := .a
  replace aI := st14.s aI ne_gI_gS.ne
  have ne_gC_gS : NE gC gS := .a
  replace aC := st14.s aC ne_gC_gS.ne
  have ne_g3_gS : NE g3 gS := .a
  replace at1002 := st14.s at1002 ne_g3_gS.ne
  refine .mv rfl (.nil (hK4 _ _ (.seq (fun K5 hK5 => .seq (fun K6 hK6 => .region (.mv rfl ?_))))))
  refine .call rfl rfl rfl rfl @Try.call70 rfl (l01Next_c) ?_
  rintro _ H16 ⟨k16, rfl, ka16, kb16, kc16, st16, hs⟩
  have nx_H16 := st16.nx
  replace hst := hst.sA st16
  replace rk0 := rk0.sA st16
  replace at4 := st16.s at4 ne_g4_gS.ne
  replace aF := st16.s aF ne_gF_gS.ne
  replace aT := st16.s aT ne_gT_gS.ne
  replace aI := st16.s aI ne_gI_gS.ne
  replace aC := st16.s aC ne_gC_gS.ne
  replace at1002 := st16.s at1002 ne_g3_gS.ne
  refine .nil (hK6 _ _ ?_)
  refine .block ?_
  refine .seq (fun K7 hK7 => .region (.q rfl (.cmp rfl rfl rfl) (.mv rfl (.nil (hK7 _ _ ?_)))))
  refine .cond rfl (fun h29 => ?_) (fun h29 => ?_)
  ·
   try simp only [sps] at h29
   refine .region (.mv rfl (.q rfl (.fieldAddr fo_29_0_B rfl) ?_))
   refine .q rfl (.load on_2_A rfl (by first | assumption | exact Mem.of_get at1002 0 _ rfl)) ?_
   refine .q rfl (.add rfl rfl rfl (by omega) (by omega)) ?_
   refine .R rfl (.litA rfl sl_22_A ze_2_L rfl rfl rfl rfl) ?_
   rintro _ H35 ⟨g35, rfl, le35, ge35, at35⟩
   replace hst := hst.le le35
   replace rk0 := rk0.le le35
   replace hs := hs.le le35
   replace at4 := le35.2 _ _ at4
   replace aF := le35.2 _ _ aF
   replace aT := le35.2 _ _ aT
   replace aI := le35.2 _ _ aI
   replace aC := le35.2 _ _ aC
   replace at1002 := le35.2 _ _ at1002
   refine .call rfl rfl rfl rfl @Try.call102 rfl ((by have hh := l01Pick_c (xs := [c.obj + 1, -1, 9]) (hl := fun H' s => Ints.of_get (s.same _ _ ⟨by omega, trivial⟩ at35)) (h0 := by simp); exact hh)) ?_
   rintro _ H36 ⟨i36, hi36, rfl, st36, hs⟩
   obtain ⟨k36, e36, b36⟩ : ∃ k : Int, ([c.obj + 1, -1, 9] : List Int).getD i36 0 = k ∧ -9223372036854775808 ≤ k ∧ k ≤ 9223372036854775807 := ⟨_, rfl, bd_iff.2 (by intro x hx; simp only [List.mem_cons, List.not_mem_nil, or_false] at hx; omega) _ hi36⟩
   rw [e36]
   replace hst := hst.sA st36
   replace rk0 := rk0.sA st36
   replace at4 := st36.s at4 ne_g4_gS.ne
   replace aF := st36.s aF ne_gF_gS.ne
   replace aT := st36.s aT ne_gT_gS.ne
   replace aI := st36.s aI ne_gI_gS.ne
   replace aC := st36.s aC ne_gC_gS.ne
   replace at1002 := st36.s at1002 ne_g3_gS.ne
   refine .q rfl (.fieldAddr fo_29_0_B rfl) ?_
   refine .r0 rfl rfl (.storeR rfl sz_2_Ch rfl rfl rfl (by assumption) (by first | exact Nat.le_of_ble_eq_true rfl | (simp; done) | (simp <;> omega))) ?_
   rintro _ H8007 ⟨rfl, st8007, at8007⟩
   replace hst := hst.sA st8007
   replace rk0 := rk0.sA st8007
   replace hs := hs.sA st8007
   replace at4 := st8007.s at4 ne_g4_g3.ne
   replace aF := st8007.s aF ne_gF_g3.ne
   replace aT := st8007.s aT ne_gT_g3.ne
   replace aI := st8007.s aI ne_gI_g3.ne
   replace aC := st8007.s aC ne_gC_g3.ne
   try simp only [Nat.zero_add, List.set_cons_succ, List.set_cons_zero] at at8007
   refine .nil (hK5 _ _ (.seq (fun K8 hK8 => .region ?_)))
   refine .q rfl (.loadM ag_29_D rfl ⟨rfl, Mem.of_get at8007⟩) ?_
   refine .r0 rfl rfl (.fillA rfl sz_29_D rfl rfl rfl rfl) ?_
   rintro _ H22001 ⟨rfl, st22001, at22001⟩
   replace hst := hst.sA st22001
   replace hs := hs.sA st22001
   have ne_gF_g4 : NE gF g4 := .a
   replace aF := st22001.s aF ne_gF_g4.ne
   have ne_gT_g4 : NE gT g4 := .a
   replace aT := st22001.s aT ne_gT_g4.ne
   have ne_gI_g4 : NE gI g4 := .a
   replace aI := st22001.s aI ne_gI_g4.ne
   have ne_gC_g4 : NE gC g4 := .a
   replace aC := st22001.s aC ne_gC_g4.ne
   refine .nil (hK8 _ _ ?_)
   refine .ret ?_
   refine hret _ _ ?_
   refine ⟨_, _, _, _, rfl, ag_29_D, (by rfl), (Mem.of_get at22001), ?_⟩
   have hR' := (hRR.st rk0 offA).st st22001 (.cons (hRR.lowNe (by omega)) (.nil _ _))
   exact ⟨⟨k36, c.src, c.tgt, c.idn, c.comp⟩, ownP gF gT gI gC rr, rfl, ⟨n1, n2, n3, n4, n5, b36⟩, (KIn.own (c := ⟨k36, c.src, c.tgt, c.idn, c.comp⟩) aF bF aT bT aI bI aC bC hR').keep (.of_le (.refl _)) (by omega), hst, hs⟩
  try simp only [sps] at h29
  refine .seq (fun K9 hK9 => .region (.q rfl (.cmp rfl rfl rfl) (.mv rfl (.nil (hK9 _ _ ?_)))))
  refine .cond rfl (fun h38 => ?_) (fun h38 => ?_)
  ·
   try simp only [sps] at h38
   refine .region (.q rfl (.fieldAddr fo_29_1_B rfl) ?_)
   refine .q rfl (.load on_22_B rfl (by first | assumption | exact Mem.of_get at1002 1 _ rfl)) ?_
   refine .R rfl (.litA rfl sl_22_A ze_2_L rfl rfl rfl rfl) ?_
   rintro _ H42 ⟨g42, rfl, le42, ge42, at42⟩
   replace hst := hst.le le42
   replace rk0 := rk0.le le42
   replace hs := hs.le le42
   replace at4 := le42.2 _ _ at4
   replace aF := le42.2 _ _ aF
   replace aT := le42.2 _ _ aT
   replace aI := le42.2 _ _ aI
   replace aC := le42.2 _ _ aC
   replace at1002 := le42.2 _ _ at1002
   have lt_at42 := GHeap.ltg at42
   refine .R rfl (.appendI rfl sl_22_A ze_2_L rfl by_2_L sl_22_A rfl rfl (by assumption) (by assumption) (by first | omega | (simp <;> omega)) (by omega) (by omega)) ?_
   rintro _ H43 ⟨g43, rfl, st43, ge43, at43⟩
   replace hst := hst.sA st43
   replace rk0 := rk0.sA st43
   replace hs := hs.sA st43
   replace at4 := st43.s at4
   replace aT := st43.s aT
   replace aI := st43.s aI
   replace aC := st43.s aC
   replace at1002 := st43.s at1002 (Ne.symm ne_gF_g3.ne)
   refine .q rfl (.fieldAddr fo_29_1_B rfl) ?_
   refine .r0 rfl rfl (.storeR rfl sz_22_Ch rfl rfl rfl (by assumption) (by first | exact Nat.le_of_ble_eq_true rfl | (simp; done) | (simp <;> omega))) ?_
   rintro _ H10005 ⟨rfl, st10005, at10005⟩
   replace hst := hst.sA st10005
   replace rk0 := rk0.sA st10005
   replace hs := hs.sA st10005
   replace at4 := st10005.s at4 ne_g4_g3.ne
   replace aT := st10005.s aT ne_gT_g3.ne
   replace aI := st10005.s aI ne_gI_g3.ne
   replace aC := st10005.s aC ne_gC_g3.ne
   replace at43 := st10005.s at43
   try simp only [Nat.zero_add, List.set_cons_succ, List.set_cons_zero] at at10005
   refine .nil (hK5 _ _ (.seq (fun K10 hK10 => .region ?_)))
   refine .q rfl (.loadM ag_29_D rfl ⟨rfl, Mem.of_get at10005⟩) ?_
   refine .r0 rfl rfl (.fillA rfl sz_29_D rfl rfl rfl rfl) ?_
   rintro _ H22001x2 ⟨rfl, st22001x2, at22001x2⟩
   replace hst := hst.sA st22001x2
   replace hs := hs.sA st22001x2
   have ne_gT_g4 : NE gT g4 := .a
   replace aT := st22001x2.s aT ne_gT_g4.ne
   have ne_gI_g4 : NE gI g4 := .a
   replace aI := st22001x2.s aI ne_gI_g4.ne
   have ne_gC_g4 : NE gC g4 := .a
   replace aC := st22001x2.s aC ne_gC_g4.ne
   replace at43 := st22001x2.s at43
   refine .nil (hK10 _ _ ?_)
   refine .ret ?_
   refine hret _ _ ?_
   refine ⟨_, _, _, _, rfl, ag_29_D, (by rfl), (Mem.of_get at22001x2), ?_⟩
   have hR' := (hRR.st rk0 offA).st st22001x2 (.cons (hRR.lowNe (by omega)) (.nil _ _))
   exact ⟨⟨c.obj, c.src ++ [0], c.tgt, c.idn, c.comp⟩, ownP g43 gT gI gC rr, by simp [Cat.cells, ownP], ⟨by simp; omega, n2, n3, n4, n5, n6⟩, (KIn.own (c := ⟨c.obj, c.src ++ [0], c.tgt, c.idn, c.comp⟩) at43 (by omega) aT bT aI bI aC bC hR').keep (.of_le (.refl _)) (by omega), hst, hs⟩
  try simp only [sps] at h38
  refine .seq (fun K11 hK11 => .region (.q rfl (.cmp rfl rfl rfl) (.mv rfl (.nil (hK11 _ _ ?_)))))
  refine .cond rfl (fun h45 => ?_) (fun h45 => ?_)
  ·
   try simp only [sps] at h45
   refine .seq (fun K12 hK12 => .region (.q rfl (.fieldAddr fo_29_3_B rfl) ?_))
   refine .q rfl (.load on_22_B rfl (by first | assumption | exact Mem.of_get at1002 3 _ rfl)) ?_
   refine .q rfl (.len sl_22_A rfl) (.q rfl (.cmp rfl rfl rfl) (.nil (hK12 _ _ ?_)))
   refine .cond rfl (fun h50 => ?_) (fun h50 => ?_)
   ·
    try simp only [sps] at h50
    refine .regionDB mo_B (.q 0 (.q 1 (.q 2 (.q 3 (.q 4 (.c 5 1 (.q 6 (.c 7 0 (.done))))))))) (by kernel_rfl) (GHeap.le_erase H16 gS) ?_
    have hbl := GHeap.le_erase H16 gS
    have a3B := GHeap.get_erase_of (g := gS) at1002 (by omega)
    have aIB := GHeap.get_erase_of (g := gS) aI (by omega)
    refine .qB rfl hbl (.fieldAddr fo_29_3_B rfl) (.qB rfl hbl (.load on_22_B rfl (Mem.of_get a3B 3 _ rfl)) (.qB rfl hbl (.move rfl) (.qB rfl hbl (.move rfl) ?_)))
    refine .qB rfl hbl (.add rfl rfl rfl (by omega) (by omega)) ?_
    refine .call1 rfl rfl rfl rfl rfl @Try.call70 rfl (l01Next_c) ?_
    rintro _ H56 ⟨k56, rfl, ka56, kb56, kc56, st56, hs⟩
    replace hbl := hbl.erase_st st56
    refine ⟨hbl, ?_⟩
    replace hst := hst.sA st56
    replace rk0 := rk0.sA st56
    replace at4 := st56.s at4 ne_g4_gS.ne
    replace aF := st56.s aF ne_gF_gS.ne
    replace aT := st56.s aT ne_gT_gS.ne
    replace aI := st56.s aI ne_gI_gS.ne
    replace aC := st56.s aC ne_gC_gS.ne
    replace at1002 := st56.s at1002 ne_g3_gS.ne
    refine .qB rfl hbl (.idxN (j := 0) sl_22_A (SlA.of_row aIB (by first | rfl | (simp; done) | (simp <;> omega))) rfl rfl (by omega)) ?_
    refine .r0 rfl rfl rfl (.storeI rfl sz_2_Ch rfl rfl (by assumption) (by first | omega | (simp <;> omega))) ?_
    rintro _ H13007 ⟨rfl, st13007, at13007⟩
    replace hst := hst.sA st13007
    replace rk0 := rk0.sA st13007
    replace hs := hs.sA st13007
    have ne_g4_gI : NE g4 gI := .a
    replace at4 := st13007.s at4 ne_g4_gI.ne
    replace aF := st13007.s aF
    replace aT := st13007.s aT
    replace aC := st13007.s aC
    replace at1002 := st13007.s at1002 (Ne.symm ne_gI_g3.ne)
    rw [Nat.zero_add] at at13007
    refine .done ?_
    refine hK5 _ _ (.seq (fun K13 hK13 => .region ?_))
    refine .q rfl (.loadM ag_29_D rfl ⟨rfl, Mem.of_get at1002⟩) ?_
    refine .r0 rfl rfl (.fillA rfl sz_29_D rfl rfl rfl rfl) ?_
    rintro _ H22001x3 ⟨rfl, st22001x3, at22001x3⟩
    replace hst := hst.sA st22001x3
    replace hs := hs.sA st22001x3
    have ne_gF_g4 : NE gF g4 := .a
    replace aF := st22001x3.s aF ne_gF_g4.ne
    have ne_gT_g4 : NE gT g4 := .a
    replace aT := st22001x3.s aT ne_gT_g4.ne
    have ne_gC_g4 : NE gC g4 := .a
    replace aC := st22001x3.s aC ne_gC_g4.ne
    replace at13007 := st22001x3.s at13007 (Ne.symm ne_g4_gI.ne)
    refine .nil (hK13 _ _ ?_)
    refine .ret ?_
    refine hret _ _ ?_
    refine ⟨_, _, _, _, rfl, ag_29_D, (by rfl), (Mem.of_get at22001x3), ?_⟩
    have hR' := (hRR.st rk0 offA).st st22001x3 (.cons (hRR.lowNe (by omega)) (.nil _ _))
    exact ⟨⟨c.obj, c.src, c.tgt, c.idn.set 0 k56, c.comp⟩, ownP gF gT gI gC rr, by simp [Cat.cells, ownP], ⟨n1, n2, by rw [List.length_set]; exact n3, n4, n5, n6⟩, (KIn.own (c := ⟨c.obj, c.src, c.tgt, c.idn.set 0 k56, c.comp⟩) aF bF aT bT at13007 bI aC bC hR').keep (.of_le (.refl _)) (by omega), hst, hs⟩
   try simp only [sps] at h50
   refine .skip ?_
   refine hK5 _ _ (.seq (fun K14 hK14 => .region ?_))
   refine .q rfl (.loadM ag_29_D rfl ⟨rfl, Mem.of_get at1002⟩) ?_
   refine .r0 rfl rfl (.fillA rfl sz_29_D rfl rfl rfl rfl) ?_
   rintro _ H22001x4 ⟨rfl, st22001x4, at22001x4⟩
   replace hst := hst.sA st22001x4
   replace hs := hs.sA st22001x4
   have ne_gF_g4 : NE gF g4 := .a
   replace aF := st22001x4.s aF ne_gF_g4.ne
   have ne_gT_g4 : NE gT g4 := .a
   replace aT := st22001x4.s aT ne_gT_g4.ne
   have ne_gI_g4 : NE gI g4 := .a
   replace aI := st22001x4.s aI ne_gI_g4.ne
   have ne_gC_g4 : NE gC g4 := .a
   replace aC := st22001x4.s aC ne_gC_g4.ne
   refine .nil (hK14 _ _ ?_)
   refine .ret ?_
   refine hret _ _ ?_
   refine ⟨_, _, _, _, rfl, ag_29_D, (by rfl), (Mem.of_get at22001x4), ?_⟩
   have hR' := (hRR.st rk0 offA).st st22001x4 (.cons (hRR.lowNe (by omega)) (.nil _ _))
   exact ⟨c, ownP gF gT gI gC rr, rfl, hsm, (KIn.own aF bF aT bT aI bI aC bC hR').keep (.of_le (.refl _)) (by omega), hst, hs⟩
  try simp only [sps] at h45
  refine .seq (fun K15 hK15 => .seq (fun K16 hK16 => .region (.q rfl (.cmp rfl rfl rfl) (.mv rfl (.nil (hK16 _ _ ?_))))))
  refine .cond rfl (fun h58 => ?_) (fun h58 => ?_)
  ·
   try simp only [sps] at h58
   refine .skip ?_
   refine hK15 _ _ ?_
   refine .cond rfl (fun h58 => ?_) (fun h58 => ?_)
   ·
    try simp only [sps] at h58
    refine .seq (fun K17 hK17 => .region (.mv rfl (.q rfl (.cmp rfl rfl rfl) (.nil (hK17 _ _ ?_)))))
    refine .cond rfl (fun h63 => ?_) (fun h63 => ?_)
    ·
     try simp only [sps] at h63
     refine .regionDB mo_B (.q 0 (.q 1 (.q 2 (.q 3 (.q 4 (.q 5 (.q 6 (.q 8 (.q 9 (.q 10 (.c 7 1 (.c 11 1 (.q 12 (.q 13 (.c 14 0 (.done)))))))))))))))) (by kernel_rfl) (GHeap.le_erase H16 gS) ?_
     have hbl := GHeap.le_erase H16 gS
     have a3B := GHeap.get_erase_of (g := gS) at1002 (by omega)
     have aCB := GHeap.get_erase_of (g := gS) aC (by omega)
     obtain ⟨gi, hgi, hbi, hati⟩ := (hRR.st rk0 offA).row k14.toNat (by omega)
     have atiB := GHeap.get_erase_of (g := gS) hati (by omega)
     have cC := slsL_cell aCB (i := k14.toNat) (by omega)
     rw [hgi] at cC
     have m1 : gF ≠ gi := fun e => v8.r1 k14.toNat (by omega) (by rw [hgi, e])
     have m2 : gT ≠ gi := fun e => v8.r2 k14.toNat (by omega) (by rw [hgi, e])
     have m3 : gI ≠ gi := fun e => v8.r3 k14.toNat (by omega) (by rw [hgi, e])
     have m4 := row_ne aC hati rfl
     have hl9 := a9 k14.toNat (by omega)
     refine .qB rfl hbl (.fieldAddr fo_29_4_B rfl) (.qB rfl hbl (.load on_23_B rfl (Mem.of_get a3B 4 _ rfl)) (.qB rfl hbl (.move rfl) ?_))
     refine .qB rfl hbl (.idx1 sl_23_B (SlA.of_row aCB (by first | rfl | (simp; done) | (simp <;> omega))) rfl rfl (by omega) (by omega)) ?_
     refine .qB rfl hbl (.load on_22_B rfl cC) (.qB rfl hbl (.move rfl) (.qB rfl hbl (.move rfl) (.qB rfl hbl (.move rfl) (.qB rfl hbl (.move rfl) ?_))))
     refine .qB rfl hbl (.add rfl rfl rfl (by omega) (by omega)) ?_
     refine .call1 rfl rfl rfl rfl rfl @Try.call70 rfl (l01Next_c) ?_
     rintro _ H71 ⟨k71, rfl, ka71, kb71, kc71, st71, hs⟩
     replace hbl := hbl.erase_st st71
     refine ⟨hbl, ?_⟩
     replace hst := hst.sA st71
     replace rk0 := rk0.sA st71
     replace at4 := st71.s at4 ne_g4_gS.ne
     replace aF := st71.s aF ne_gF_gS.ne
     replace aT := st71.s aT ne_gT_gS.ne
     replace aI := st71.s aI ne_gI_gS.ne
     replace aC := st71.s aC ne_gC_gS.ne
     replace at1002 := st71.s at1002 ne_g3_gS.ne
     have ne_gi_gS : NE gi gS := .a
     replace hati := st71.s hati ne_gi_gS.ne
     refine .call1 rfl rfl rfl rfl rfl @Try.call70 rfl (l01Next_c) ?_
     rintro _ H75 ⟨k75, rfl, ka75, kb75, kc75, st75, hs⟩
     replace hbl := hbl.erase_st st75
     refine ⟨hbl, ?_⟩
     replace hst := hst.sA st75
     replace rk0 := rk0.sA st75
     replace at4 := st75.s at4 ne_g4_gS.ne
     replace aF := st75.s aF ne_gF_gS.ne
     replace aT := st75.s aT ne_gT_gS.ne
     replace aI := st75.s aI ne_gI_gS.ne
     replace aC := st75.s aC ne_gC_gS.ne
     replace at1002 := st75.s at1002 ne_g3_gS.ne
     replace hati := st75.s hati ne_gi_gS.ne
     refine .qB rfl hbl (.sub rfl rfl rfl (by omega) (by omega)) ?_
     refine .qB rfl hbl (.idx1 sl_22_A (SlA.of_row atiB (by first | rfl | (simp; done) | (simp <;> omega))) rfl rfl (by omega) (by omega)) ?_
     refine .r0 rfl rfl rfl (.storeI rfl sz_2_Ch rfl rfl (by assumption) (by first | omega | (simp <;> omega))) ?_
     rintro _ H18014 ⟨rfl, st18014, at18014⟩
     replace hst := hst.sA st18014
     replace hs := hs.sA st18014
     have ne_g4_gi : NE g4 gi := .a
     replace at4 := st18014.s at4 ne_g4_gi.ne
     have ne_gF_gi : NE gF gi := .a
     replace aF := st18014.s aF ne_gF_gi.ne
     have ne_gT_gi : NE gT gi := .a
     replace aT := st18014.s aT ne_gT_gi.ne
     have ne_gI_gi : NE gI gi := .a
     replace aI := st18014.s aI ne_gI_gi.ne
     have ne_gC_gi : NE gC gi := .a
     replace aC := st18014.s aC ne_gC_gi.ne
     have ne_g3_gi : NE g3 gi := .a
     replace at1002 := st18014.s at1002 ne_g3_gi.ne
     rw [Nat.zero_add] at at18014
     have hB18 := bend_set (hRR.st rk0 offA) st18014 (by omega) hgi at18014 (by rw [List.length_set])
     refine .done ?_
     refine hK5 _ _ (.seq (fun K18 hK18 => .region ?_))
     refine .q rfl (.loadM ag_29_D rfl ⟨rfl, Mem.of_get at1002⟩) ?_
     refine .r0 rfl rfl (.fillA rfl sz_29_D rfl rfl rfl rfl) ?_
     rintro _ H22001x5 ⟨rfl, st22001x5, at22001x5⟩
     replace hst := hst.sA st22001x5
     replace hs := hs.sA st22001x5
     have ne_gF_g4 : NE gF g4 := .a
     replace aF := st22001x5.s aF ne_gF_g4.ne
     have ne_gT_g4 : NE gT g4 := .a
     replace aT := st22001x5.s aT ne_gT_g4.ne
     have ne_gI_g4 : NE gI g4 := .a
     replace aI := st22001x5.s aI ne_gI_g4.ne
     have ne_gC_g4 : NE gC g4 := .a
     replace aC := st22001x5.s aC ne_gC_g4.ne
     refine .nil (hK18 _ _ ?_)
     refine .ret ?_
     refine hret _ _ ?_
     refine ⟨_, _, _, _, rfl, ag_29_D, (by rfl), (Mem.of_get at22001x5), ?_⟩
     obtain ⟨T, hT1, hT2, hT3, hT4⟩ := hB18
     have hR' := hT4.st st22001x5 (.cons (hT4.lowNe (by omega)) (.nil _ _))
     rw [← hT1] at aC
     exact ⟨⟨c.obj, c.src, c.tgt, c.idn, T⟩, ownP gF gT gI gC rr, by simp [Cat.cells, ownP, hT2], ⟨n1, n2, n3, (by rw [hT2]; exact n4), fun i => Nat.le_trans (Nat.le_of_eq (hT3 i)) (n5 i), n6⟩, (KIn.own (c := ⟨c.obj, c.src, c.tgt, c.idn, T⟩) aF bF aT bT aI bI aC bC hR').keep (.of_le (.refl _)) (by omega), hst, hs⟩
    try simp only [sps] at h63
    refine .skip ?_
    refine hK5 _ _ (.seq (fun K19 hK19 => .region ?_))
    refine .q rfl (.loadM ag_29_D rfl ⟨rfl, Mem.of_get at1002⟩) ?_
    refine .r0 rfl rfl (.fillA rfl sz_29_D rfl rfl rfl rfl) ?_
    rintro _ H22001x6 ⟨rfl, st22001x6, at22001x6⟩
    replace hst := hst.sA st22001x6
    replace hs := hs.sA st22001x6
    have ne_gF_g4 : NE gF g4 := .a
    replace aF := st22001x6.s aF ne_gF_g4.ne
    have ne_gT_g4 : NE gT g4 := .a
    replace aT := st22001x6.s aT ne_gT_g4.ne
    have ne_gI_g4 : NE gI g4 := .a
    replace aI := st22001x6.s aI ne_gI_g4.ne
    have ne_gC_g4 : NE gC g4 := .a
    replace aC := st22001x6.s aC ne_gC_g4.ne
    refine .nil (hK19 _ _ ?_)
    refine .ret ?_
    refine hret _ _ ?_
    refine ⟨_, _, _, _, rfl, ag_29_D, (by rfl), (Mem.of_get at22001x6), ?_⟩
    have hR' := (hRR.st rk0 offA).st st22001x6 (.cons (hRR.lowNe (by omega)) (.nil _ _))
    exact ⟨c, ownP gF gT gI gC rr, rfl, hsm, (KIn.own aF bF aT bT aI bI aC bC hR').keep (.of_le (.refl _)) (by omega), hst, hs⟩
   simp only [sps] at h58; omega
  try simp only [sps] at h58
  refine .seq (fun K20 hK20 => .region (.q rfl (.cmp rfl rfl rfl) (.mv rfl (.nil (hK20 _ _ ?_)))))
  refine .cond rfl (fun h58 => ?_) (fun h58 => ?_)
  ·
   try simp only [sps] at h58
   refine .skip ?_
   refine hK15 _ _ ?_
   refine .cond rfl (fun h58 => ?_) (fun h58 => ?_)
   ·
    try simp only [sps] at h58
    refine .seq (fun K21 hK21 => .region (.mv rfl (.q rfl (.cmp rfl rfl rfl) (.nil (hK21 _ _ ?_)))))
    refine .cond rfl (fun h63 => ?_) (fun h63 => ?_)
    ·
     try simp only [sps] at h63
     refine .regionDB mo_B (.q 0 (.q 1 (.q 2 (.q 3 (.q 4 (.q 5 (.q 6 (.q 8 (.q 9 (.q 10 (.c 7 1 (.c 11 1 (.q 12 (.q 13 (.c 14 0 (.done)))))))))))))))) (by kernel_rfl) (GHeap.le_erase H16 gS) ?_
     have hbl := GHeap.le_erase H16 gS
     have a3B := GHeap.get_erase_of (g := gS) at1002 (by omega)
     have aCB := GHeap.get_erase_of (g := gS) aC (by omega)
     obtain ⟨gi, hgi, hbi, hati⟩ := (hRR.st rk0 offA).row k14.toNat (by omega)
     have atiB := GHeap.get_erase_of (g := gS) hati (by omega)
     have cC := slsL_cell aCB (i := k14.toNat) (by omega)
     rw [hgi] at cC
     have m1 : gF ≠ gi := fun e => v8.r1 k14.toNat (by omega) (by rw [hgi, e])
     have m2 : gT ≠ gi := fun e => v8.r2 k14.toNat (by omega) (by rw [hgi, e])
     have m3 : gI ≠ gi := fun e => v8.r3 k14.toNat (by omega) (by rw [hgi, e])
     have m4 := row_ne aC hati rfl
     have hl9 := a9 k14.toNat (by omega)
     refine .qB rfl hbl (.fieldAddr fo_29_4_B rfl) (.qB rfl hbl (.load on_23_B rfl (Mem.of_get a3B 4 _ rfl)) (.qB rfl hbl (.move rfl) ?_))
     refine .qB rfl hbl (.idx1 sl_23_B (SlA.of_row aCB (by first | rfl | (simp; done) | (simp <;> omega))) rfl rfl (by omega) (by omega)) ?_
     refine .qB rfl hbl (.load on_22_B rfl cC) (.qB rfl hbl (.move rfl) (.qB rfl hbl (.move rfl) (.qB rfl hbl (.move rfl) (.qB rfl hbl (.move rfl) ?_))))
     refine .qB rfl hbl (.add rfl rfl rfl (by omega) (by omega)) ?_
     refine .call1 rfl rfl rfl rfl rfl @Try.call70 rfl (l01Next_c) ?_
     rintro _ H71x2 ⟨k71x2, rfl, ka71x2, kb71x2, kc71x2, st71x2, hs⟩
     replace hbl := hbl.erase_st st71x2
     refine ⟨hbl, ?_⟩
     replace hst := hst.sA st71x2
     replace rk0 := rk0.sA st71x2
     replace at4 := st71x2.s at4 ne_g4_gS.ne
     replace aF := st71x2.s aF ne_gF_gS.ne
     replace aT := st71x2.s aT ne_gT_gS.ne
     replace aI := st71x2.s aI ne_gI_gS.ne
     replace aC := st71x2.s aC ne_gC_gS.ne
     replace at1002 := st71x2.s at1002 ne_g3_gS.ne
     have ne_gi_gS : NE gi gS := .a
     replace hati := st71x2.s hati ne_gi_gS.ne
     refine .call1 rfl rfl rfl rfl rfl @Try.call70 rfl (l01Next_c) ?_
     rintro _ H75x2 ⟨k75x2, rfl, ka75x2, kb75x2, kc75x2, st75x2, hs⟩
     replace hbl := hbl.erase_st st75x2
     refine ⟨hbl, ?_⟩
     replace hst := hst.sA st75x2
     replace rk0 := rk0.sA st75x2
     replace at4 := st75x2.s at4 ne_g4_gS.ne
     replace aF := st75x2.s aF ne_gF_gS.ne
     replace aT := st75x2.s aT ne_gT_gS.ne
     replace aI := st75x2.s aI ne_gI_gS.ne
     replace aC := st75x2.s aC ne_gC_gS.ne
     replace at1002 := st75x2.s at1002 ne_g3_gS.ne
     replace hati := st75x2.s hati ne_gi_gS.ne
     refine .qB rfl hbl (.sub rfl rfl rfl (by omega) (by omega)) ?_
     refine .qB rfl hbl (.idx1 sl_22_A (SlA.of_row atiB (by first | rfl | (simp; done) | (simp <;> omega))) rfl rfl (by omega) (by omega)) ?_
     refine .r0 rfl rfl rfl (.storeI rfl sz_2_Ch rfl rfl (by assumption) (by first | omega | (simp <;> omega))) ?_
     rintro _ H18014x2 ⟨rfl, st18014x2, at18014x2⟩
     replace hst := hst.sA st18014x2
     replace hs := hs.sA st18014x2
     have ne_g4_gi : NE g4 gi := .a
     replace at4 := st18014x2.s at4 ne_g4_gi.ne
     have ne_gF_gi : NE gF gi := .a
     replace aF := st18014x2.s aF ne_gF_gi.ne
     have ne_gT_gi : NE gT gi := .a
     replace aT := st18014x2.s aT ne_gT_gi.ne
     have ne_gI_gi : NE gI gi := .a
     replace aI := st18014x2.s aI ne_gI_gi.ne
     have ne_gC_gi : NE gC gi := .a
     replace aC := st18014x2.s aC ne_gC_gi.ne
     have ne_g3_gi : NE g3 gi := .a
     replace at1002 := st18014x2.s at1002 ne_g3_gi.ne
     rw [Nat.zero_add] at at18014x2
     have hB18 := bend_set (hRR.st rk0 offA) st18014x2 (by omega) hgi at18014x2 (by rw [List.length_set])
     refine .done ?_
     refine hK5 _ _ (.seq (fun K22 hK22 => .region ?_))
     refine .q rfl (.loadM ag_29_D rfl ⟨rfl, Mem.of_get at1002⟩) ?_
     refine .r0 rfl rfl (.fillA rfl sz_29_D rfl rfl rfl rfl) ?_
     rintro _ H22001x7 ⟨rfl, st22001x7, at22001x7⟩
     replace hst := hst.sA st22001x7
     replace hs := hs.sA st22001x7
     have ne_gF_g4 : NE gF g4 := .a
     replace aF := st22001x7.s aF ne_gF_g4.ne
     have ne_gT_g4 : NE gT g4 := .a
     replace aT := st22001x7.s aT ne_gT_g4.ne
     have ne_gI_g4 : NE gI g4 := .a
     replace aI := st22001x7.s aI ne_gI_g4.ne
     have ne_gC_g4 : NE gC g4 := .a
     replace aC := st22001x7.s aC ne_gC_g4.ne
     refine .nil (hK22 _ _ ?_)
     refine .ret ?_
     refine hret _ _ ?_
     refine ⟨_, _, _, _, rfl, ag_29_D, (by rfl), (Mem.of_get at22001x7), ?_⟩
     obtain ⟨T, hT1, hT2, hT3, hT4⟩ := hB18
     have hR' := hT4.st st22001x7 (.cons (hT4.lowNe (by omega)) (.nil _ _))
     rw [← hT1] at aC
     exact ⟨⟨c.obj, c.src, c.tgt, c.idn, T⟩, ownP gF gT gI gC rr, by simp [Cat.cells, ownP, hT2], ⟨n1, n2, n3, (by rw [hT2]; exact n4), fun i => Nat.le_trans (Nat.le_of_eq (hT3 i)) (n5 i), n6⟩, (KIn.own (c := ⟨c.obj, c.src, c.tgt, c.idn, T⟩) aF bF aT bT aI bI aC bC hR').keep (.of_le (.refl _)) (by omega), hst, hs⟩
    try simp only [sps] at h63
    refine .skip ?_
    refine hK5 _ _ (.seq (fun K23 hK23 => .region ?_))
    refine .q rfl (.loadM ag_29_D rfl ⟨rfl, Mem.of_get at1002⟩) ?_
    refine .r0 rfl rfl (.fillA rfl sz_29_D rfl rfl rfl rfl) ?_
    rintro _ H22001x8 ⟨rfl, st22001x8, at22001x8⟩
    replace hst := hst.sA st22001x8
    replace hs := hs.sA st22001x8
    have ne_gF_g4 : NE gF g4 := .a
    replace aF := st22001x8.s aF ne_gF_g4.ne
    have ne_gT_g4 : NE gT g4 := .a
    replace aT := st22001x8.s aT ne_gT_g4.ne
    have ne_gI_g4 : NE gI g4 := .a
    replace aI := st22001x8.s aI ne_gI_g4.ne
    have ne_gC_g4 : NE gC g4 := .a
    replace aC := st22001x8.s aC ne_gC_g4.ne
    refine .nil (hK23 _ _ ?_)
    refine .ret ?_
    refine hret _ _ ?_
    refine ⟨_, _, _, _, rfl, ag_29_D, (by rfl), (Mem.of_get at22001x8), ?_⟩
    have hR' := (hRR.st rk0 offA).st st22001x8 (.cons (hRR.lowNe (by omega)) (.nil _ _))
    exact ⟨c, ownP gF gT gI gC rr, rfl, hsm, (KIn.own aF bF aT bT aI bI aC bC hR').keep (.of_le (.refl _)) (by omega), hst, hs⟩
   simp only [sps] at h58; omega
  try simp only [sps] at h58
  refine .region (.q rfl (.cmp rfl rfl rfl) (.mv rfl (.nil (hK15 _ _ ?_))))
  refine .cond rfl (fun h58 => ?_) (fun h58 => ?_)
  ·
   try simp only [sps] at h58
   refine .seq (fun K24 hK24 => .region (.mv rfl (.q rfl (.cmp rfl rfl rfl) (.nil (hK24 _ _ ?_)))))
   refine .cond rfl (fun h63 => ?_) (fun h63 => ?_)
   ·
    try simp only [sps] at h63
    refine .regionDB mo_B (.q 0 (.q 1 (.q 2 (.q 3 (.q 4 (.q 5 (.q 6 (.q 8 (.q 9 (.q 10 (.c 7 1 (.c 11 1 (.q 12 (.q 13 (.c 14 0 (.done)))))))))))))))) (by kernel_rfl) (GHeap.le_erase H16 gS) ?_
    have hbl := GHeap.le_erase H16 gS
    have a3B := GHeap.get_erase_of (g := gS) at1002 (by omega)
    have aCB := GHeap.get_erase_of (g := gS) aC (by omega)
    obtain ⟨gi, hgi, hbi, hati⟩ := (hRR.st rk0 offA).row k14.toNat (by omega)
    have atiB := GHeap.get_erase_of (g := gS) hati (by omega)
    have cC := slsL_cell aCB (i := k14.toNat) (by omega)
    rw [hgi] at cC
    have m1 : gF ≠ gi := fun e => v8.r1 k14.toNat (by omega) (by rw [hgi, e])
    have m2 : gT ≠ gi := fun e => v8.r2 k14.toNat (by omega) (by rw [hgi, e])
    have m3 : gI ≠ gi := fun e => v8.r3 k14.toNat (by omega) (by rw [hgi, e])
    have m4 := row_ne aC hati rfl
    have hl9 := a9 k14.toNat (by omega)
    refine .qB rfl hbl (.fieldAddr fo_29_4_B rfl) (.qB rfl hbl (.load on_23_B rfl (Mem.of_get a3B 4 _ rfl)) (.qB rfl hbl (.move rfl) ?_))
    refine .qB rfl hbl (.idx1 sl_23_B (SlA.of_row aCB (by first | rfl | (simp; done) | (simp <;> omega))) rfl rfl (by omega) (by omega)) ?_
    refine .qB rfl hbl (.load on_22_B rfl cC) (.qB rfl hbl (.move rfl) (.qB rfl hbl (.move rfl) (.qB rfl hbl (.move rfl) (.qB rfl hbl (.move rfl) ?_))))
    refine .qB rfl hbl (.add rfl rfl rfl (by omega) (by omega)) ?_
    refine .call1 rfl rfl rfl rfl rfl @Try.call70 rfl (l01Next_c) ?_
    rintro _ H71x3 ⟨k71x3, rfl, ka71x3, kb71x3, kc71x3, st71x3, hs⟩
    replace hbl := hbl.erase_st st71x3
    refine ⟨hbl, ?_⟩
    replace hst := hst.sA st71x3
    replace rk0 := rk0.sA st71x3
    replace at4 := st71x3.s at4 ne_g4_gS.ne
    replace aF := st71x3.s aF ne_gF_gS.ne
    replace aT := st71x3.s aT ne_gT_gS.ne
    replace aI := st71x3.s aI ne_gI_gS.ne
    replace aC := st71x3.s aC ne_gC_gS.ne
    replace at1002 := st71x3.s at1002 ne_g3_gS.ne
    have ne_gi_gS : NE gi gS := .a
    replace hati := st71x3.s hati ne_gi_gS.ne
    refine .call1 rfl rfl rfl rfl rfl @Try.call70 rfl (l01Next_c) ?_
    rintro _ H75x3 ⟨k75x3, rfl, ka75x3, kb75x3, kc75x3, st75x3, hs⟩
    replace hbl := hbl.erase_st st75x3
    refine ⟨hbl, ?_⟩
    replace hst := hst.sA st75x3
    replace rk0 := rk0.sA st75x3
    replace at4 := st75x3.s at4 ne_g4_gS.ne
    replace aF := st75x3.s aF ne_gF_gS.ne
    replace aT := st75x3.s aT ne_gT_gS.ne
    replace aI := st75x3.s aI ne_gI_gS.ne
    replace aC := st75x3.s aC ne_gC_gS.ne
    replace at1002 := st75x3.s at1002 ne_g3_gS.ne
    replace hati := st75x3.s hati ne_gi_gS.ne
    refine .qB rfl hbl (.sub rfl rfl rfl (by omega) (by omega)) ?_
    refine .qB rfl hbl (.idx1 sl_22_A (SlA.of_row atiB (by first | rfl | (simp; done) | (simp <;> omega))) rfl rfl (by omega) (by omega)) ?_
    refine .r0 rfl rfl rfl (.storeI rfl sz_2_Ch rfl rfl (by assumption) (by first | omega | (simp <;> omega))) ?_
    rintro _ H18014x3 ⟨rfl, st18014x3, at18014x3⟩
    replace hst := hst.sA st18014x3
    replace hs := hs.sA st18014x3
    have ne_g4_gi : NE g4 gi := .a
    replace at4 := st18014x3.s at4 ne_g4_gi.ne
    have ne_gF_gi : NE gF gi := .a
    replace aF := st18014x3.s aF ne_gF_gi.ne
    have ne_gT_gi : NE gT gi := .a
    replace aT := st18014x3.s aT ne_gT_gi.ne
    have ne_gI_gi : NE gI gi := .a
    replace aI := st18014x3.s aI ne_gI_gi.ne
    have ne_gC_gi : NE gC gi := .a
    replace aC := st18014x3.s aC ne_gC_gi.ne
    have ne_g3_gi : NE g3 gi := .a
    replace at1002 := st18014x3.s at1002 ne_g3_gi.ne
    rw [Nat.zero_add] at at18014x3
    have hB18 := bend_set (hRR.st rk0 offA) st18014x3 (by omega) hgi at18014x3 (by rw [List.length_set])
    refine .done ?_
    refine hK5 _ _ (.seq (fun K25 hK25 => .region ?_))
    refine .q rfl (.loadM ag_29_D rfl ⟨rfl, Mem.of_get at1002⟩) ?_
    refine .r0 rfl rfl (.fillA rfl sz_29_D rfl rfl rfl rfl) ?_
    rintro _ H22001x9 ⟨rfl, st22001x9, at22001x9⟩
    replace hst := hst.sA st22001x9
    replace hs := hs.sA st22001x9
    have ne_gF_g4 : NE gF g4 := .a
    replace aF := st22001x9.s aF ne_gF_g4.ne
    have ne_gT_g4 : NE gT g4 := .a
    replace aT := st22001x9.s aT ne_gT_g4.ne
    have ne_gI_g4 : NE gI g4 := .a
    replace aI := st22001x9.s aI ne_gI_g4.ne
    have ne_gC_g4 : NE gC g4 := .a
    replace aC := st22001x9.s aC ne_gC_g4.ne
    refine .nil (hK25 _ _ ?_)
    refine .ret ?_
    refine hret _ _ ?_
    refine ⟨_, _, _, _, rfl, ag_29_D, (by rfl), (Mem.of_get at22001x9), ?_⟩
    obtain ⟨T, hT1, hT2, hT3, hT4⟩ := hB18
    have hR' := hT4.st st22001x9 (.cons (hT4.lowNe (by omega)) (.nil _ _))
    rw [← hT1] at aC
    exact ⟨⟨c.obj, c.src, c.tgt, c.idn, T⟩, ownP gF gT gI gC rr, by simp [Cat.cells, ownP, hT2], ⟨n1, n2, n3, (by rw [hT2]; exact n4), fun i => Nat.le_trans (Nat.le_of_eq (hT3 i)) (n5 i), n6⟩, (KIn.own (c := ⟨c.obj, c.src, c.tgt, c.idn, T⟩) aF bF aT bT aI bI aC bC hR').keep (.of_le (.refl _)) (by omega), hst, hs⟩
   try simp only [sps] at h63
   refine .skip ?_
   refine hK5 _ _ (.seq (fun K26 hK26 => .region ?_))
   refine .q rfl (.loadM ag_29_D rfl ⟨rfl, Mem.of_get at1002⟩) ?_
   refine .r0 rfl rfl (.fillA rfl sz_29_D rfl rfl rfl rfl) ?_
   rintro _ H22001x10 ⟨rfl, st22001x10, at22001x10⟩
   replace hst := hst.sA st22001x10
   replace hs := hs.sA st22001x10
   have ne_gF_g4 : NE gF g4 := .a
   replace aF := st22001x10.s aF ne_gF_g4.ne
   have ne_gT_g4 : NE gT g4 := .a
   replace aT := st22001x10.s aT ne_gT_g4.ne
   have ne_gI_g4 : NE gI g4 := .a
   replace aI := st22001x10.s aI ne_gI_g4.ne
   have ne_gC_g4 : NE gC g4 := .a
   replace aC := st22001x10.s aC ne_gC_g4.ne
   refine .nil (hK26 _ _ ?_)
   refine .ret ?_
   refine hret _ _ ?_
   refine ⟨_, _, _, _, rfl, ag_29_D, (by rfl), (Mem.of_get at22001x10), ?_⟩
   have hR' := (hRR.st rk0 offA).st st22001x10 (.cons (hRR.lowNe (by omega)) (.nil _ _))
   exact ⟨c, ownP gF gT gI gC rr, rfl, hsm, (KIn.own aF bF aT bT aI bI aC bC hR').keep (.of_le (.refl _)) (by omega), hst, hs⟩
  try simp only [sps] at h58
  refine .seq (fun K27 hK27 => .region (.q rfl (.cmp rfl rfl rfl) (.mv rfl (.nil (hK27 _ _ ?_)))))
  refine .cond rfl (fun h78 => ?_) (fun h78 => ?_)
  ·
   try simp only [sps] at h78
   refine .seq (fun K28 hK28 => .region (.mv rfl (.q rfl (.cmp rfl rfl rfl) (.nil (hK28 _ _ ?_)))))
   refine .cond rfl (fun h81 => ?_) (fun h81 => ?_)
   ·
    try simp only [sps] at h81
    refine .regionDB mo_B (.q 0 (.q 1 (.q 2 (.q 3 (.q 4 (.q 5 (.q 6 (.c 7 1 (.q 8 (.c 9 0 (.done))))))))))) (by kernel_rfl) (GHeap.le_erase H16 gS) ?_
    have hbl := GHeap.le_erase H16 gS
    have a3B := GHeap.get_erase_of (g := gS) at1002 (by omega)
    have aTB := GHeap.get_erase_of (g := gS) aT (by omega)
    refine .qB rfl hbl (.fieldAddr fo_29_2_B rfl) (.qB rfl hbl (.load on_22_B rfl (Mem.of_get a3B 2 _ rfl)) (.qB rfl hbl (.move rfl) (.qB rfl hbl (.move rfl) (.qB rfl hbl (.fieldAddr fo_29_0_B rfl) (.qB rfl hbl (.load on_2_A rfl (Mem.of_get a3B 0 _ rfl)) ?_)))))
    refine .qB rfl hbl (.add rfl rfl rfl (by omega) (by omega)) ?_
    refine .call1 rfl rfl rfl rfl rfl @Try.call70 rfl (l01Next_c) ?_
    rintro _ H89 ⟨k89, rfl, ka89, kb89, kc89, st89, hs⟩
    replace hbl := hbl.erase_st st89
    refine ⟨hbl, ?_⟩
    replace hst := hst.sA st89
    replace rk0 := rk0.sA st89
    replace at4 := st89.s at4 ne_g4_gS.ne
    replace aF := st89.s aF ne_gF_gS.ne
    replace aT := st89.s aT ne_gT_gS.ne
    replace aI := st89.s aI ne_gI_gS.ne
    replace aC := st89.s aC ne_gC_gS.ne
    replace at1002 := st89.s at1002 ne_g3_gS.ne
    refine .qB rfl hbl (.idx1 sl_22_A (SlA.of_row aTB (by first | rfl | (simp; done) | (simp <;> omega))) rfl rfl (by omega) (by omega)) ?_
    refine .r0 rfl rfl rfl (.storeI rfl sz_2_Ch rfl rfl (by assumption) (by first | omega | (simp <;> omega))) ?_
    rintro _ H21009 ⟨rfl, st21009, at21009⟩
    replace hst := hst.sA st21009
    replace rk0 := rk0.sA st21009
    replace hs := hs.sA st21009
    have ne_g4_gT : NE g4 gT := .a
    replace at4 := st21009.s at4 ne_g4_gT.ne
    replace aF := st21009.s aF
    replace aI := st21009.s aI
    replace aC := st21009.s aC
    replace at1002 := st21009.s at1002 (Ne.symm ne_gT_g3.ne)
    rw [Nat.zero_add] at at21009
    refine .done ?_
    refine hK5 _ _ (.seq (fun K29 hK29 => .region ?_))
    refine .q rfl (.loadM ag_29_D rfl ⟨rfl, Mem.of_get at1002⟩) ?_
    refine .r0 rfl rfl (.fillA rfl sz_29_D rfl rfl rfl rfl) ?_
    rintro _ H22001x11 ⟨rfl, st22001x11, at22001x11⟩
    replace hst := hst.sA st22001x11
    replace hs := hs.sA st22001x11
    have ne_gF_g4 : NE gF g4 := .a
    replace aF := st22001x11.s aF ne_gF_g4.ne
    have ne_gI_g4 : NE gI g4 := .a
    replace aI := st22001x11.s aI ne_gI_g4.ne
    have ne_gC_g4 : NE gC g4 := .a
    replace aC := st22001x11.s aC ne_gC_g4.ne
    replace at21009 := st22001x11.s at21009 (Ne.symm ne_g4_gT.ne)
    refine .nil (hK29 _ _ ?_)
    refine .ret ?_
    refine hret _ _ ?_
    refine ⟨_, _, _, _, rfl, ag_29_D, (by rfl), (Mem.of_get at22001x11), ?_⟩
    have hR' := (hRR.st rk0 offA).st st22001x11 (.cons (hRR.lowNe (by omega)) (.nil _ _))
    exact ⟨⟨c.obj, c.src, c.tgt.set k14.toNat k89, c.idn, c.comp⟩, ownP gF gT gI gC rr, by simp [Cat.cells, ownP], ⟨n1, by rw [List.length_set]; exact n2, n3, n4, n5, n6⟩, (KIn.own (c := ⟨c.obj, c.src, c.tgt.set k14.toNat k89, c.idn, c.comp⟩) aF bF at21009 bT aI bI aC bC hR').keep (.of_le (.refl _)) (by omega), hst, hs⟩
   try simp only [sps] at h81
   refine .skip ?_
   refine hK5 _ _ (.seq (fun K30 hK30 => .region ?_))
   refine .q rfl (.loadM ag_29_D rfl ⟨rfl, Mem.of_get at1002⟩) ?_
   refine .r0 rfl rfl (.fillA rfl sz_29_D rfl rfl rfl rfl) ?_
   rintro _ H22001x12 ⟨rfl, st22001x12, at22001x12⟩
   replace hst := hst.sA st22001x12
   replace hs := hs.sA st22001x12
   have ne_gF_g4 : NE gF g4 := .a
   replace aF := st22001x12.s aF ne_gF_g4.ne
   have ne_gT_g4 : NE gT g4 := .a
   replace aT := st22001x12.s aT ne_gT_g4.ne
   have ne_gI_g4 : NE gI g4 := .a
   replace aI := st22001x12.s aI ne_gI_g4.ne
   have ne_gC_g4 : NE gC g4 := .a
   replace aC := st22001x12.s aC ne_gC_g4.ne
   refine .nil (hK30 _ _ ?_)
   refine .ret ?_
   refine hret _ _ ?_
   refine ⟨_, _, _, _, rfl, ag_29_D, (by rfl), (Mem.of_get at22001x12), ?_⟩
   have hR' := (hRR.st rk0 offA).st st22001x12 (.cons (hRR.lowNe (by omega)) (.nil _ _))
   exact ⟨c, ownP gF gT gI gC rr, rfl, hsm, (KIn.own aF bF aT bT aI bI aC bC hR').keep (.of_le (.refl _)) (by omega), hst, hs⟩
  try simp only [sps] at h78
  refine .seq (fun K31 hK31 => .region (.mv rfl (.q rfl (.cmp rfl rfl rfl) (.nil (hK31 _ _ ?_)))))
  refine .cond rfl (fun h18 => ?_) (fun h18 => ?_)
  ·
   try simp only [sps] at h18
   refine .regionD mo_B (.q 0 (.q 1 (.q 2 (.q 3 (.q 4 (.q 5 (.q 6 (.q 7 (.q 8 (.q 9 (.c 10 0 (.done)))))))))))) (by kernel_rfl) ?_
   have hl9 := a9 k14.toNat (by omega)
   obtain ⟨gi, hgi, -, hati⟩ := (hRR.st rk0 offA).row k14.toNat (by omega)
   have cC := slsL_cell aC (i := k14.toNat) (by omega)
   rw [hgi] at cC
   refine .q rfl (.fieldAddr fo_29_4_B rfl) ?_
   refine .q rfl (.load on_23_B rfl (by first | assumption | exact Mem.of_get at1002 4 _ rfl)) ?_
   refine .mv rfl rfl (.q rfl (.fieldAddr fo_29_4_B rfl) ?_)
   refine .q rfl (.load on_23_B rfl (by first | assumption | exact Mem.of_get at1002 4 _ rfl)) ?_
   refine .mv rfl rfl ?_
   refine .q rfl (.idx1 sl_23_B (by first | exact (Intss.sl (by assumption)) | exact SlA.of_row aC (by first | rfl | (simp; done) | (simp <;> omega))) rfl rfl (by omega) (by omega)) ?_
   refine .q rfl (.load on_22_B rfl cC) ?_
   refine .q rfl (.slice (l := 1) (h := (c.comp.getD k14.toNat []).length) sl_22_A rfl hati ⟨_, rfl⟩ rfl (by omega) (by omega)) ?_
   refine .q rfl (.idx1 sl_23_B (by first | exact (Intss.sl (by assumption)) | exact SlA.of_row aC (by first | rfl | (simp; done) | (simp <;> omega))) rfl rfl (by omega) (by omega)) ?_
   refine .r0 rfl rfl rfl (.storeR rfl sz_22_Ch rfl rfl rfl (by assumption) (by first | exact Nat.le_of_ble_eq_true rfl | (simp; done) | (simp <;> omega))) ?_
   rintro _ H6010 ⟨rfl, st6010, at6010⟩
   replace hst := hst.sA st6010
   replace rk0 := rk0.sA st6010
   replace hs := hs.sA st6010
   have ne_g4_gC : NE g4 gC := .a
   replace at4 := st6010.s at4 ne_g4_gC.ne
   replace aF := st6010.s aF
   replace aT := st6010.s aT
   replace aI := st6010.s aI
   replace at1002 := st6010.s at1002 (Ne.symm ne_gC_g3.ne)
   refine .done ?_
   refine hK5 _ _ (.seq (fun K32 hK32 => .region ?_))
   refine .q rfl (.loadM ag_29_D rfl ⟨rfl, Mem.of_get at1002⟩) ?_
   refine .r0 rfl rfl (.fillA rfl sz_29_D rfl rfl rfl rfl) ?_
   rintro _ H22001x13 ⟨rfl, st22001x13, at22001x13⟩
   replace hst := hst.sA st22001x13
   replace hs := hs.sA st22001x13
   have ne_gF_g4 : NE gF g4 := .a
   replace aF := st22001x13.s aF ne_gF_g4.ne
   have ne_gT_g4 : NE gT g4 := .a
   replace aT := st22001x13.s aT ne_gT_g4.ne
   have ne_gI_g4 : NE gI g4 := .a
   replace aI := st22001x13.s aI ne_gI_g4.ne
   replace at6010 := st22001x13.s at6010 (Ne.symm ne_g4_gC.ne)
   refine .nil (hK32 _ _ ?_)
   refine .ret ?_
   refine hret _ _ ?_
   refine ⟨_, _, _, _, rfl, ag_29_D, (by rfl), (Mem.of_get at22001x13), ?_⟩
   have hR' := (hRR.st rk0 offA).st st22001x13 (.cons (hRR.lowNe (by omega)) (.nil _ _))
   obtain ⟨rr', T, hT1, hT2, hT3, hT4⟩ := bend_cut hR' (by omega) hgi rfl
   rw [Nat.zero_add, hT1] at at6010
   exact ⟨⟨c.obj, c.src, c.tgt, c.idn, T⟩, ownP gF gT gI gC rr', by simp [Cat.cells, ownP, hT2], ⟨n1, n2, n3, (by rw [hT2]; exact n4), hT3 _ n5, n6⟩, (KIn.parts (c := ⟨c.obj, c.src, c.tgt, c.idn, T⟩) aF bF aT bT aI bI at6010 bC hT4).keep (.of_le (.refl _)) (by omega), hst, hs⟩
  try simp only [sps] at h18
  refine .skip ?_
  refine hK5 _ _ (.seq (fun K33 hK33 => .region ?_))
  refine .q rfl (.loadM ag_29_D rfl ⟨rfl, Mem.of_get at1002⟩) ?_
  refine .r0 rfl rfl (.fillA rfl sz_29_D rfl rfl rfl rfl) ?_
  rintro _ H22001x14 ⟨rfl, st22001x14, at22001x14⟩
  replace hst := hst.sA st22001x14
  replace hs := hs.sA st22001x14
  have ne_gF_g4 : NE gF g4 := .a
  replace aF := st22001x14.s aF ne_gF_g4.ne
  have ne_gT_g4 : NE gT g4 := .a
  replace aT := st22001x14.s aT ne_gT_g4.ne
  have ne_gI_g4 : NE gI g4 := .a
  replace aI := st22001x14.s aI ne_gI_g4.ne
  have ne_gC_g4 : NE gC g4 := .a
  replace aC := st22001x14.s aC ne_gC_g4.ne
  refine .nil (hK33 _ _ ?_)
  refine .ret ?_
  refine hret _ _ ?_
  refine ⟨_, _, _, _, rfl, ag_29_D, (by rfl), (Mem.of_get at22001x14), ?_⟩
  have hR' := (hRR.st rk0 offA).st st22001x14 (.cons (hRR.lowNe (by omega)) (.nil _ _))
  exact ⟨c, ownP gF gT gI gC rr, rfl, hsm, (KIn.own aF bF aT bT aI bI aC bC hR').keep (.of_le (.refl _)) (by omega), hst, hs⟩
end Go.Proofs.Ytjdedelneppnlaa
namespace Go.Proofs.Ytjdedelneppnlaa
open Go Go.GL Go.RowKit Go.Proofs
set_option maxHeartbeats 8000000 in
theorem l02Draw_c {gS : Nat} {m n : Int} {H : GHeap} (hs : DSrc 120 H gS := by assumption) :
    GCalls Try.prog 73 [.pointer (some ⟨gS, 0, none⟩), .int .i64 m, .int .i64 n] H (DrawnK 120 gS H) := by
  have hlS := hs.lt
  refine GCalls.body (N := 19) (rs := [.cell 6 29]) Try.func73 rfl rfl rfl rfl (fun Qx hret hend => ?_)
  refine .fg [0, 1, 2] rfl ?_
  have hst := St.refl [gS] H
  refine .seq (fun K1 hK1 => .region ?_)
  refine .R rfl (.allocR rfl ze_29_Hj rfl) ?_
  rintro _ H6 ⟨g6, rfl, le6, ge6, at6⟩
  have nx_H6 := le6.1
  replace hst := hst.le le6
  have lt_at6 := GHeap.ltg at6
  refine .nil (hK1 _ _ (.seq (fun K2 hK2 => .region ?_)))
  have hs := hs.le le6
  refine .mv rfl (.mv rfl (.mv rfl ?_))
  refine .call rfl rfl rfl rfl @Try.call115 rfl (l02Some_c) ?_
  rintro _ H11 ⟨c11, p11, rfl, rc11, v11, st11, hs⟩
  have nx_H11 := st11.nx
  replace hst := hst.sA st11
  have ne_g6_gS : NE g6 gS := .a
  replace at6 := st11.s at6 ne_g6_gS.ne
  have bs_v11 := v11
  have lv_v11 : Keep H6.next H11 H11 := fun _ _ _ h => h
  refine .R rfl (.allocR rfl ze_29_Hj rfl) ?_
  rintro _ H7 ⟨g7, rfl, le7, ge7, at7⟩
  replace hst := hst.le le7
  replace hs := hs.le le7
  replace at6 := le7.2 _ _ at6
  replace lv_v11 := Keep.le lv_v11 le7
  refine .r0 rfl rfl (.fillA rfl sz_29_D rfl rfl rfl rfl) ?_
  rintro _ H1005 ⟨rfl, st1005, at1005⟩
  replace hst := hst.sA st1005
  replace hs := hs.sA st1005
  replace at6 := st1005.s at6
  replace lv_v11 := Keep.st lv_v11 st1005 (fun k hb hk => ⟨(by omega), trivial⟩)
  have lt_at1005 := GHeap.ltg at1005
  refine .nil (hK2 _ _ (.seq (fun K3 hK3 => .seq (fun K4 hK4 => .region (.mv rfl ?_)))))
  refine .call rfl rfl rfl rfl @Try.call70 rfl (l01Next_c) ?_
  rintro _ H13 ⟨k13, rfl, ka13, kb13, kc13, st13, hs⟩
  have nx_H13 := st13.nx
  replace hst := hst.sA st13
  replace at6 := st13.s at6 ne_g6_gS.ne
  replace at1005 := st13.s at1005
  replace lv_v11 := Keep.st lv_v11 st13 (fun k hb hk => ⟨(by omega), trivial⟩)
  replace v11 := bs_v11.keep lv_v11 (Nat.le_refl _)
  have i11 := v11.inn
  refine .q rfl (.cmp rfl rfl rfl) (.nil (hK4 _ _ ?_))
  refine .cond rfl (fun h14 => ?_) (fun h14 => ?_)
  ·
   try simp only [sps] at h14
   refine .seq (fun K5 hK5 => .region (.mv rfl ?_))
   refine .q rfl (.loadM ag_29_D rfl ⟨rfl, Mem.of_get at1005⟩) ?_
   refine .call rfl rfl rfl rfl @Try.call116 rfl (l02Bend_c (hin := i11) (hr := rc11)) ?_
   rintro _ H17 ⟨c17, p17, rfl, sm17, v17, st17, hs⟩
   replace hst := hst.sA st17
   replace at6 := st17.s at6 ne_g6_gS.ne
   clear i11
   have bs_v17 := v17
   have lv_v17 : Keep H13.next H17 H17 := fun _ _ _ h => h
   refine .r0 rfl rfl (.fillA rfl sz_29_D rfl rfl rfl rfl) ?_
   rintro _ H3003 ⟨rfl, st3003, at3003⟩
   replace hst := hst.sA st3003
   replace hs := hs.sA st3003
   replace lv_v17 := Keep.st lv_v17 st3003 (fun k hb hk => ⟨(by omega), trivial⟩)
   replace v17 := bs_v17.keep lv_v17 (Nat.le_refl _)
   refine .nil (hK5 _ _ ?_)
   refine .ret ?_
   refine hret _ _ ?_
   refine ⟨_, _, _, _, rfl, ag_29_D, (by rfl), (Mem.of_get at3003), ?_⟩
   exact ⟨c17, p17, rfl, sm17, v17.keep (.of_le (.refl _)) (by omega), hst, hs⟩
  try simp only [sps] at h14
  refine .skip ?_
  refine hK3 _ _ (.seq (fun K6 hK6 => .region ?_))
  refine .q rfl (.loadM ag_29_D rfl ⟨rfl, Mem.of_get at1005⟩) ?_
  refine .r0 rfl rfl (.fillA rfl sz_29_D rfl rfl rfl rfl) ?_
  rintro _ H4001 ⟨rfl, st4001, at4001⟩
  replace hst := hst.sA st4001
  replace hs := hs.sA st4001
  replace lv_v11 := Keep.st lv_v11 st4001 (fun k hb hk => ⟨(by omega), trivial⟩)
  replace v11 := bs_v11.keep lv_v11 (Nat.le_refl _)
  refine .nil (hK6 _ _ ?_)
  refine .ret ?_
  refine hret _ _ ?_
  refine ⟨_, _, _, _, rfl, ag_29_D, (by rfl), (Mem.of_get at4001), ?_⟩
  exact ⟨c11, p11, rfl, rc11.small (by omega), v11.kin.keep (.of_le (.refl _)) (by omega), hst, hs⟩
end Go.Proofs.Ytjdedelneppnlaa
namespace Go.GL
noncomputable def Cat.code (c : Cat) (xs : List Int) : Int := if B c.Is = true then (if allIn xs c.src.length = true then 0 else 2) else 1
theorem Cat.code_ok {c : Cat} {xs : List Int} : c.code xs = 0 ↔ c.Is ∧ allIn xs c.src.length = true := by
  unfold Cat.code
  by_cases h : c.Is
  · rw [if_pos (B_iff.2 h)]
    split
    · exact ⟨fun _ => ⟨h, by assumption⟩, fun _ => rfl⟩
    · exact ⟨fun e => by omega, fun e => absurd e.2 (by assumption)⟩
  · rw [if_neg (fun e => h (B_iff.1 e))]
    exact ⟨fun e => by omega, fun e => absurd e.1 h⟩
theorem Cat.code_not {c : Cat} {xs : List Int} (h : ¬ c.Is) : c.code xs = 1 := by
  unfold Cat.code
  rw [if_neg (fun e => h (B_iff.1 e))]
theorem Cat.code_out {c : Cat} {xs : List Int} (h : c.Is) (h' : ¬ allIn xs c.src.length = true) : c.code xs = 2 := by
  unfold Cat.code
  rw [if_pos (B_iff.2 h), if_neg h']
theorem allIn_one {f n : Int} : allIn [f] n = true ↔ 0 ≤ f ∧ f < n := by
  rw [allIn_iff]
  exact ⟨fun h => h 0 (by simp), fun h i hi => by obtain rfl : i = 0 := by simp at hi; omega
                                                  exact h⟩
theorem Cat.code_one {c : Cat} {f : Int} : c.code [f] = 0 ↔ c.Is ∧ 0 ≤ f ∧ f < c.src.length := by rw [Cat.code_ok, allIn_one]
def Cat.ext (c : Cat) (f g : Int) : List Int := (c.hom (c.T g) (c.T f)).filter fun h => decide (c.th g h = f)
theorem filt_T {l : List Int} {P : Int → Bool} {k : Nat} (hk : k < l.length) (h : P (l.getD k 0) = true) : (l.take (k + 1)).filter P = (l.take k).filter P ++ [l.getD k 0] := by
  rw [List.take_add_one, List.getElem?_eq_getElem hk, List.filter_append]
  rw [List.getD_eq_getElem?_getD, List.getElem?_eq_getElem hk] at h ⊢
  simp only [Option.getD_some, Option.toList_some] at h ⊢
  rw [List.filter_cons, if_pos h, List.filter_nil]
theorem filt_F {l : List Int} {P : Int → Bool} {k : Nat} (hk : k < l.length) (h : P (l.getD k 0) = false) : (l.take (k + 1)).filter P = (l.take k).filter P := by
  rw [List.take_add_one, List.getElem?_eq_getElem hk, List.filter_append]
  rw [List.getD_eq_getElem?_getD, List.getElem?_eq_getElem hk] at h
  simp only [Option.getD_some, Option.toList_some] at h ⊢
  rw [List.filter_cons, if_neg (by rw [h]; simp), List.filter_nil, List.append_nil]
theorem filt_le (l : List Int) (P : Int → Bool) (k : Nat) : ((l.take k).filter P).length ≤ l.length := Nat.le_trans (List.length_filter_le _ _) (by rw [List.length_take]; omega)
theorem filtN_nd (n : Nat) (P : Nat → Bool) : (filtN n P).Nodup := by
  unfold filtN
  exact List.pairwise_map.2 ((List.nodup_range.sublist List.filter_sublist).imp fun h e => h (by omega))
end Go.GL
namespace Go.Proofs.Ytjdedelneppnlaa
open Go Go.GL Go.RowKit Go.Proofs
theorem sl_36_Fa : sliceT Try.prog 36 = some (5, 1) := by kernel_rfl
theorem big_c {a : Option Addr} {xs : List Int} {H : GHeap} : GCalls Try.prog 16 [.slice a xs.length xs.length] H (Ret (.bool (decide (4096 < (xs.length : Int)))) H) := by
  refine GCalls.body (N := 6) (rs := [.tmp 2]) Try.func16 rfl rfl rfl rfl (fun Qx hret hend => ?_)
  refine .fg [0] rfl ?_
  refine .seq (fun K1 hK1 => .region (.mv rfl (.nil (hK1 _ _ (.seq (fun K2 hK2 => .region (.mv rfl (.q rfl (.len sl_36_Fa rfl) (.q rfl (.cmp rfl rfl rfl) (.mv rfl (.nil (hK2 _ _ ?_))))))))))))
  refine .ret ?_
  refine hret _ _ ?_
  refine ⟨_, rfl, ?_⟩
  exact .mk
theorem arrowCode_c {g o : Nat} {c : Cat} {p : CatP} {a : Option Addr} {xs : List Int} {H : GHeap} (h : Cat.At H g o c p := by assumption) (hs : c.Small := by assumption) (hx : Ints H a xs := by assumption) (hl : xs.length ≤ 1048576 := by omega) :
    GCalls Try.prog 62 [.pointer (some ⟨g, o, none⟩), .slice a xs.length xs.length] H (Ret (.int .i64 (c.code xs)) H) := by
  obtain ⟨n1, n2, n3, n4, n5, n6⟩ := id hs
  refine GCalls.body (N := 13) (rs := [.tmp 4]) Try.func62 rfl rfl rfl rfl (fun Qx hret hend => ?_)
  refine .fg [0, 1] rfl ?_
  refine .seq (fun K1 hK1 => .region (.mv rfl (.nil (hK1 _ _ (.seq (fun K2 hK2 => .seq (fun K3 hK3 => .region (.mv rfl ?_))))))))
  refine .callQ rfl rfl rfl rfl @Try.call46 rfl (isCategory_c) ?_
  refine .q rfl (.not rfl) (.nil (hK3 _ _ ?_))
  refine .cond rfl (fun h7 => ?_) (fun h7 => ?_)
  ·
   try simp only [sps] at h7
   refine .seq (fun K4 hK4 => .region (.mv rfl (.nil (hK4 _ _ ?_))))
   refine .ret ?_
   refine hret _ _ ?_
   refine ⟨_, rfl, ?_⟩
   exact .of (congrArg _ (Cat.code_not h7))
  try simp only [sps] at h7
  refine .skip ?_
  refine hK2 _ _ (.seq (fun K5 hK5 => .seq (fun K6 hK6 => .region (.mv rfl (.mv rfl ?_)))))
  refine .callQ rfl rfl rfl rfl @Try.call110 rfl (arrows_c) ?_
  refine .callQ rfl rfl rfl rfl @Try.call103 rfl (within_c) ?_
  refine .q rfl (.not rfl) (.nil (hK6 _ _ ?_))
  refine .cond rfl (fun h12 => ?_) (fun h12 => ?_)
  ·
   try simp only [sps] at h12
   refine .seq (fun K7 hK7 => .region (.mv rfl (.nil (hK7 _ _ ?_))))
   refine .ret ?_
   refine hret _ _ ?_
   refine ⟨_, rfl, ?_⟩
   exact .of (congrArg _ (Cat.code_out h7 (by rw [h12]; simp)))
  try simp only [sps] at h12
  refine .skip ?_
  refine hK5 _ _ (.seq (fun K8 hK8 => .region (.mv rfl (.nil (hK8 _ _ ?_)))))
  refine .ret ?_
  refine hret _ _ ?_
  refine ⟨_, rfl, ?_⟩
  exact .of (congrArg _ (Cat.code_ok.2 ⟨h7, allIn_iff.2 h12⟩))
end Go.Proofs.Ytjdedelneppnlaa
namespace Go.GL
structure Cans (xs : List Int) (n : Nat) (X : Int → Nat → Int) : Prop where
  all : ∀ i j, i < j → j < xs.length → ∃ w, w < n ∧ X (xs.getD i 0) w ≠ X (xs.getD j 0) w
theorem Cans.iff {xs : List Int} {n : Nat} {X : Int → Nat → Int} (hn : xs.Nodup) : Cans xs n X ↔ ∀ g ∈ xs, ∀ h ∈ xs, (∀ w, w < n → X g w = X h w) → g = h := by
  constructor
  · intro hc g hg h hh he
    obtain ⟨i, hi, rfl⟩ := mem_getD hg
    obtain ⟨j, hj, rfl⟩ := mem_getD hh
    rcases Nat.lt_trichotomy i j with e | e | e
    · obtain ⟨w, h1, h2⟩ := hc.all i j e hj
      exact absurd (he w h1) h2
    · rw [e]
    · obtain ⟨w, h1, h2⟩ := hc.all j i e hi
      exact absurd (he w h1).symm h2
  · intro h
    refine ⟨fun i j hij hj => Classical.byContradiction fun hno => ?_⟩
    have e := h _ (getD_mem (xs := xs) (i := i) (by omega)) _ (getD_mem hj) fun w hw => Classical.byContradiction fun hne => hno ⟨w, hw, hne⟩
    have p := List.pairwise_iff_getElem.1 hn i j (by omega) hj hij
    rw [List.getD_eq_getElem?_getD, List.getElem?_eq_getElem (by omega), List.getD_eq_getElem?_getD, List.getElem?_eq_getElem hj] at e
    exact p e
structure Cat.Jm (c : Cat) (x : Int) (fs : List Int) : Prop where
  all : ∀ g h : Nat, g < c.src.length → h < c.src.length → c.src.getD g 0 = c.src.getD h 0 → c.tgt.getD g 0 = x → c.tgt.getD h 0 = x → (∀ w, w < fs.length → c.th g (fs.getD w 0) = c.th h (fs.getD w 0)) → g = h
structure Cat.Je (c : Cat) (x : Int) (fs : List Int) : Prop where
  all : ∀ g h : Nat, g < c.src.length → h < c.src.length → c.tgt.getD g 0 = c.tgt.getD h 0 → c.src.getD g 0 = x → c.src.getD h 0 = x → (∀ w, w < fs.length → c.th (fs.getD w 0) g = c.th (fs.getD w 0) h) → g = h
structure Cat.Mono (c : Cat) (f : Int) : Prop where
  all : ∀ g h : Nat, g < c.src.length → h < c.src.length → c.src.getD g 0 = c.src.getD h 0 → c.tgt.getD g 0 = c.S f → c.tgt.getD h 0 = c.S f → c.th g f = c.th h f → g = h
structure Cat.Epi (c : Cat) (f : Int) : Prop where
  all : ∀ g h : Nat, g < c.src.length → h < c.src.length → c.tgt.getD g 0 = c.tgt.getD h 0 → c.src.getD g 0 = c.T f → c.src.getD h 0 = c.T f → c.th f g = c.th f h → g = h
theorem Cat.Jm.one {c : Cat} {f : Int} : c.Jm (c.S f) [f] ↔ c.Mono f :=
  ⟨fun h => ⟨fun a b h1 h2 h3 h4 h5 h6 => h.all a b h1 h2 h3 h4 h5 fun w hw => by
    obtain rfl : w = 0 := by rw [List.length_singleton] at hw; omega
    exact h6⟩,
    fun h => ⟨fun a b h1 h2 h3 h4 h5 h6 => h.all a b h1 h2 h3 h4 h5 (h6 0 (by simp))⟩⟩
theorem Cat.hom_nd (c : Cat) (x y : Int) : (c.hom x y).Nodup := filtN_nd _ _
theorem Cat.Jm.iff {c : Cat} {x : Int} {fs : List Int} (hS : c.Shape) : c.Jm x fs ↔ ∀ s : Nat, (s : Int) < c.obj → Cans (c.hom s x) fs.length (fun g w => c.th g (fs.getD w 0)) := by
  constructor
  · intro h s hs
    refine (Cans.iff (c.hom_nd _ _)).2 fun g hg k hk he => ?_
    obtain ⟨a, a1, a2, a3, rfl⟩ := Cat.mem_hom.1 hg
    obtain ⟨b, b1, b2, b3, rfl⟩ := Cat.mem_hom.1 hk
    rw [h.all a b a1 b1 (by omega) a3 b3 he]
  · intro h
    refine ⟨fun a b a1 b1 e1 e2 e3 he => ?_⟩
    have q := hS.src a a1
    have := (Cans.iff (c.hom_nd _ _)).1 (h (c.src.getD a 0).toNat (by omega)) a (Cat.mem_hom.2 ⟨a, a1, by omega, e2, rfl⟩) b (Cat.mem_hom.2 ⟨b, b1, by omega, e3, rfl⟩) he
    omega
theorem Cat.op_tab {c : Cat} (hS : c.Shape) : tabL c.tgt c.src (fun i j => (c.comp.getD j []).getD i 0) c.src.length = c.opTab c.src.length := by
  unfold tabL rowsOf Cat.opTab
  apply List.ext_getElem (by simp)
  intro i h1 h2
  simp only [List.length_map, List.length_range] at h1
  simp only [List.getElem_map, List.getElem_range]
  unfold tabR Cat.opRow
  apply List.ext_getElem (by simp)
  intro j k1 k2
  simp only [List.length_map, List.length_range] at k1
  simp only [List.getElem_map, List.getElem_range]
  by_cases e : c.src.getD i 0 = c.tgt.getD j 0
  · rw [tabC_T e]
  · rw [tabC_F e]
    exact ((Cat.Cell.neg (fun e' => e e'.symm)).1 (hS.cell j (by have := hS.cl; omega) i h1)).symm
theorem Cat.op_get {c : Cat} {f g : Nat} (hf : f < c.src.length) (hg : g < c.src.length) : (c.op.comp.getD f []).getD g 0 = (c.comp.getD g []).getD f 0 := by
  show ((c.opTab c.src.length).getD f []).getD g 0 = _
  rw [Cat.opTab_get hf, Cat.opRow_get hg]
theorem Cat.Shape.op {c : Cat} (h : c.Shape) : c.op.Shape := by
  have tl := h.tl
  have cl := h.cl
  refine ⟨h.obj, by show c.tgt.length ≤ 40; have := h.n40; omega, tl.symm, h.tgt, h.src, h.il, fun i hi => by have := h.idn i hi; show 0 ≤ c.idn.getD i 0 ∧ c.idn.getD i 0 < (c.tgt.length : Int); omega, by show (c.opTab c.src.length).length = c.tgt.length; rw [Cat.length_opTab]; omega, fun x hx => (h.ids x hx).symm, fun f hf => ?_, fun f hf g hg => ?_⟩
  · have hf' : f < c.src.length := by simpa [Cat.op] using hf
    show ((c.opTab c.src.length).getD f []).length = c.tgt.length
    rw [Cat.opTab_get hf', Cat.length_opRow]; omega
  · have hf' : f < c.src.length := by simpa [Cat.op] using hf
    have hg' : g < c.src.length := by have : g < c.tgt.length := hg; omega
    have hc := h.cell g (by omega) f hf'
    have e0 := Cat.op_get hf' hg'
    by_cases e : c.tgt.getD g 0 = c.src.getD f 0
    · have q := (Cat.Cell.pos e).1 hc
      refine (Cat.Cell.pos (c := c.op) e.symm).2 ?_
      rw [e0]
      exact ⟨q.1, by show _ < (c.tgt.length : Int); omega, q.2.2.2, q.2.2.1⟩
    · refine (Cat.Cell.neg (c := c.op) (fun e' => e e'.symm)).2 ?_
      rw [e0]
      exact (Cat.Cell.neg e).1 hc
theorem Cat.op_th {c : Cat} {f g : Nat} (hf : f < c.src.length) (hg : g < c.src.length) : c.op.th f g = c.th g f := by
  rw [Cat.th_nat, Cat.th_nat]; exact Cat.op_get hf hg
theorem Cat.Is.op {c : Cat} (h : c.Is) : c.op.Is := by
  have hS := h.1
  have tl := hS.tl
  refine ⟨hS.op, fun f hf => ?_, fun f hf g hg e k hk e' => ?_⟩
  · have hf' : f < c.src.length := by have : f < c.tgt.length := hf; omega
    have hid := h.2.ids f hf'
    have s1 := hS.src f hf'
    have t1 := hS.tgt f (by omega)
    have i1 := hS.idn_lt s1.1 s1.2
    have i2 := hS.idn_lt t1.1 t1.2
    constructor
    · have := Cat.op_th (c := c) (f := (c.idn.getD (c.tgt.getD f 0).toNat 0).toNat) (g := f) (by omega) hf'
      rw [Int.toNat_of_nonneg i2.1] at this
      exact this.trans hid.2
    · have := Cat.op_th (c := c) (g := (c.idn.getD (c.src.getD f 0).toNat 0).toNat) (f := f) hf' (by omega)
      rw [Int.toNat_of_nonneg i1.1] at this
      exact this.trans hid.1
  · have hf' : f < c.src.length := by have : f < c.tgt.length := hf; omega
    have hg' : g < c.src.length := by have : g < c.tgt.length := hg; omega
    have hk' : k < c.src.length := by have : k < c.tgt.length := hk; omega
    have e1 : c.tgt.getD g 0 = c.src.getD f 0 := e.symm
    have e2 : c.tgt.getD k 0 = c.src.getD g 0 := e'.symm
    obtain ⟨p1, p2, p3, p4⟩ := hS.tn hg' hf' e1
    obtain ⟨q1, q2, q3, q4⟩ := hS.tn hk' hg' e2
    rw [Cat.op_th hf' hg', Cat.op_th hg' hk']
    have a1 : c.th (g : Int) f = (c.tn g f : Int) := by rw [Cat.th_nat]; exact p4
    have a2 : c.th (k : Int) g = (c.tn k g : Int) := by rw [Cat.th_nat]; exact q4
    rw [a1, a2, Cat.op_th p1 hk', Cat.op_th hf' q1, ← a1, ← a2]
    exact (h.2.as k hk' g hg' e2 f hf' e1).symm
theorem Cat.op_op {c : Cat} (h : c.Shape) : c.op.op = c := by
  have tl := h.tl
  have cl := h.cl
  have e : c.op.opTab c.tgt.length = c.comp := eq_of_getD2 (by rw [Cat.length_opTab]; omega) fun i hi => by
    rw [Cat.length_opTab] at hi
    rw [Cat.opTab_get hi]
    have el : c.op.src.length = c.src.length := tl
    rw [el]
    refine eq_of_getD (by rw [Cat.length_opRow, h.row i (by omega)]) fun j hj => ?_
    rw [h.row i (by omega)] at hj
    rw [Cat.opRow_get hj]
    exact Cat.op_get hj (by omega)
  show (⟨c.obj, c.src, c.tgt, c.idn, c.op.opTab c.tgt.length⟩ : Cat) = c
  rw [e]
noncomputable def Cat.monoB (c : Cat) (f : Int) : Bool := decide (c.code [f] = 0) && B (c.Mono f)
theorem Cat.monoB_err {c : Cat} {f : Int} (h : c.code [f] ≠ 0) : c.monoB f = false := by unfold Cat.monoB; rw [decide_eq_false h, Bool.false_and]
theorem Cat.monoB_ok {c : Cat} {f : Int} (h : c.code [f] = 0) : c.monoB f = B (c.Mono f) := by unfold Cat.monoB; rw [decide_eq_true h, Bool.true_and]
theorem Cat.code_nil {c : Cat} : c.code [] = 0 ↔ c.Is := by
  rw [Cat.code_ok]
  exact ⟨fun h => h.1, fun h => ⟨h, allIn_iff.2 fun i hi => by simp at hi⟩⟩
theorem Cat.code_nil1 {c : Cat} (h : ¬ c.Is) : c.code [] = 1 := Cat.code_not h
noncomputable def Cat.opR (c : Cat) : Cat := if B c.Is = true then c.op else Cat.zero
theorem Cat.op_ok {c : Cat} (h : c.Is) : c.opR = c.op := by unfold Cat.opR; rw [if_pos (B_iff.2 h)]
theorem Cat.op_not {c : Cat} (h : ¬ c.Is) : c.opR = Cat.zero := by unfold Cat.opR; rw [if_neg (fun e => h (B_iff.1 e))]
def NewCR (k : Int) (c : Cat) (H : GHeap) (v : Value) (H' : GHeap) : Prop := H.Le H' ∧ ∃ p, v = .tuple #[.agg (c.cells p).toArray, .int .i64 k] ∧ CatR H.next H' c p
theorem Cat.Shape.small {c : Cat} (h : c.Shape) : c.Small := by
  have h1 := h.n40
  have h2 := h.tl
  have h3 := h.cl
  have h4 := h.il
  have h5 := h.obj
  refine ⟨by omega, by omega, by omega, by omega, fun i => ?_, by omega, by omega⟩
  by_cases hi : i < c.comp.length
  · have := h.row i hi; omega
  · rw [List.getD_eq_getElem?_getD, List.getElem?_eq_none (by omega)]; simp
theorem one_bd {f n : Int} (h : 0 ≤ f ∧ f < n) : ∀ w, w < [f].length → 0 ≤ [f].getD w 0 ∧ [f].getD w 0 < n := fun w hw => by
  obtain rfl : w = 0 := by rw [List.length_singleton] at hw; omega
  exact h
end Go.GL
namespace Go.Proofs.Ytjdedelneppnlaa
open Go Go.GL Go.RowKit Go.Proofs
theorem on_69_Fc : oneT Try.prog 69 = true := by kernel_rfl
theorem sz_69_Fc : (Try.prog.info? 69).map (·.size) = some 1 := by kernel_rfl
theorem sz_22_Fc : (Try.prog.info? 22).map (·.size) = some 1 := by kernel_rfl
theorem cancels_c {g fn n : Nat} {xs : List Int} {cap : Array Value} {Y : Int → Nat → Int} {H : GHeap} (hg : H.get g = some (.row (ints xs) 2 true)) (hl : xs.length ≤ 1048576) (hn : n ≤ 1048576)
    (hcall : ∀ (xs : Array Value) (w : World), (callFunc fn xs).run Try.prog w = .ok (.enter fn xs) w)
    (hq : ∀ i w : Nat, i < xs.length → w < n → GCalls Try.prog fn ([.int .i64 (xs.getD i 0), .int .i64 (w : Int)] ++ cap.toList) H (Ret (.int .i64 (Y (xs.getD i 0) w)) H)) :
    GCalls Try.prog 136 [.slice (some ⟨g, 0, none⟩) xs.length xs.length, .int .i64 (n : Int), .func (.func fn) #[] cap] H (Ret (.bool (B (Cans xs n Y))) H) := by
  have ix := Ints.of_get hg
  refine GCalls.body (N := 49) (rs := [.tmp 6]) Try.func136 rfl rfl rfl rfl (fun Qx hret hend => ?_)
  refine .fg [0, 1, 2] rfl ?_
  refine .seq (fun K1 hK1 => .region (.mv rfl (.nil (hK1 _ _ (.seq (fun K2 hK2 => .seq (fun K3 hK3 => .region (.mv rfl (.q rfl (.len sl_22_A rfl) (.mv rfl (.nil (hK3 _ _ ?_))))))))))))
  refine .block ?_
  refine .loopR (σ := Nat) [(0, some _), (1, some _), (2, some _), (13, some _), (14, some _)] (fun i => [(15, some (.int .i64 (i : Int)))]) (fun i H' => H = H' ∧ i ≤ xs.length ∧ ∀ a b, a < i → a < b → b < xs.length → ∃ w, w < n ∧ Y (xs.getD a 0) w ≠ Y (xs.getD b 0) w) (fun i => xs.length - i) (0) ⟨rfl, rfl, rfl, rfl, rfl, trivial⟩ ⟨rfl, trivial⟩ ?_ ?_
  ·
   refine ⟨rfl, ?_⟩
   exact ⟨by omega, fun a b h => by omega⟩
  rintro i _ ⟨rfl, hI⟩ KL1 hKL1
  refine .forget (fr' := [(15, some (.int .i64 (i : Int))), (0, some _), (1, some _), (2, some _), (13, some _), (14, some _)]) ⟨rfl, rfl, rfl, rfl, rfl, rfl, trivial⟩ ?_
  obtain ⟨hi, ha⟩ := hI
  refine .seq (fun K4 hK4 => .region (.q rfl (.cmp rfl rfl rfl) (.nil (hK4 _ _ (.seq (fun K5 hK5 => ?_))))))
  refine .cond rfl (fun h16 => ?_) (fun h16 => ?_)
  ·
   simp only [sps] at h16
   refine .skip ?_
   refine hK5 _ _ (.seq (fun K6 hK6 => ?_))
   refine .block ?_
   refine .seq (fun K7 hK7 => .region (.mv rfl ?_))
   refine .q rfl (.idxN sl_22_A (by first | assumption | exact SlA.of_row hg (by first | rfl | (simp; done) | (simp <;> omega))) rfl rfl (by omega)) ?_
   refine .q rfl (.loadI on_2_A (by first | assumption | exact Ints.of_get hg) rfl (by omega)) ?_
   refine .mv rfl (.mv rfl (.nil (hK7 _ _ (.seq (fun K8 hK8 => .region (.mv rfl (.mv rfl ?_)))))))
   refine .q rfl (.add rfl rfl rfl (by omega) (by omega)) ?_
   refine .q rfl (.slice (l := i + 1) (h := xs.length) sl_22_A rfl hg ⟨_, rfl⟩ rfl (by omega) (by omega)) ?_
   refine .q rfl (.len sl_22_A rfl) (.mv rfl (.nil (hK8 _ _ ?_)))
   refine .block ?_
   refine .loopR (σ := Nat) [(0, some _), (1, some _), (2, some _), (8, some _), (13, some _), (14, some _), (15, some _), (23, some _), (24, some _)] (fun j => [(25, some (.int .i64 (j : Int)))]) (fun j H' => H = H' ∧ j ≤ xs.length - (i + 1) ∧ ∀ b, b < j → ∃ w, w < n ∧ Y (xs.getD i 0) w ≠ Y (xs.getD (i + 1 + b) 0) w) (fun j => xs.length - j) (0) ⟨rfl, rfl, rfl, rfl, rfl, rfl, rfl, rfl, rfl, trivial⟩ ⟨rfl, trivial⟩ ?_ ?_
   ·
    refine ⟨rfl, ?_⟩
    exact ⟨by omega, fun b h => by omega⟩
   rintro j _ ⟨rfl, hI⟩ KL2 hKL2
   refine .forget (fr' := [(25, some (.int .i64 (j : Int))), (0, some _), (1, some _), (2, some _), (8, some _), (13, some _), (14, some _), (15, some _), (23, some _), (24, some _)]) ⟨rfl, rfl, rfl, rfl, rfl, rfl, rfl, rfl, rfl, rfl, trivial⟩ ?_
   obtain ⟨hj, hb⟩ := hI
   refine .seq (fun K9 hK9 => .region (.q rfl (.cmp rfl rfl rfl) (.nil (hK9 _ _ (.seq (fun K10 hK10 => ?_))))))
   refine .cond rfl (fun h26 => ?_) (fun h26 => ?_)
   ·
    simp only [sps] at h26
    refine .skip ?_
    refine hK10 _ _ (.seq (fun K11 hK11 => ?_))
    refine .block ?_
    refine .seq (fun K12 hK12 => .region ?_)
    have iD : SlA H (some ⟨g, 0 + (i + 1) * 1, none⟩) (xs.length - (i + 1)) (fun t => .int .i64 (xs.getD (i + 1 + t) 0)) := .inr ⟨g, _, rfl, fun t ht => by
      rw [GHeap.cell_of hg, show 0 + (i + 1) * 1 + t = i + 1 + t by omega]; exact ints_get (by omega)⟩
    refine .q rfl (.idxN (j := j) sl_22_A iD rfl rfl (by omega)) ?_
    refine .q rfl (.loadE on_2_A iD rfl (by omega)) ?_
    refine .mv rfl (.nil (hK12 _ _ (.seq (fun K13 hK13 => .region (.mv rfl (.nil (hK13 _ _ (.seq (fun K14 hK14 => .seq (fun K15 hK15 => .region (.mv rfl (.nil (hK15 _ _ ?_)))))))))))))
    refine .block ?_
    refine .loopR (σ := Nat × Bool) [(0, some _), (1, some _), (2, some _), (8, some _), (10, some _), (13, some _), (14, some _), (15, some _), (23, some _), (24, some _), (25, some _)] (fun (w, e) => [(12, some (.int .i64 (w : Int))), (11, some (.bool e))]) (fun (w, e) H' => H = H' ∧ w ≤ n ∧ (e = true → ∀ u, u < w → Y (xs.getD i 0) u = Y (xs.getD (i + 1 + j) 0) u) ∧ (e = false → ∃ u, u < n ∧ Y (xs.getD i 0) u ≠ Y (xs.getD (i + 1 + j) 0) u)) (fun (w, e) => n - w) ((0, true)) ⟨rfl, rfl, rfl, rfl, rfl, rfl, rfl, rfl, rfl, rfl, rfl, trivial⟩ ⟨rfl, rfl, trivial⟩ ?_ ?_
    ·
     refine ⟨rfl, ?_⟩
     exact ⟨by omega, fun _ u h => by omega, fun h => by cases h⟩
    rintro ⟨w, e⟩ _ ⟨rfl, hI⟩ KL3 hKL3
    refine .forget (fr' := [(12, some (.int .i64 (w : Int))), (11, some (.bool e)), (0, some _), (1, some _), (2, some _), (8, some _), (10, some _), (13, some _), (14, some _), (15, some _), (23, some _), (24, some _), (25, some _)]) ⟨rfl, rfl, rfl, rfl, rfl, rfl, rfl, rfl, rfl, rfl, rfl, rfl, rfl, trivial⟩ ?_
    obtain ⟨hw, he1, he2⟩ := hI
    refine .seq (fun K16 hK16 => .seq (fun K17 hK17 => .region (.mv rfl (.mv rfl (.q rfl (.cmp rfl rfl rfl) (.mv rfl ?_))))))
    refine .split (fun h32 => ?_) (fun h32 => ?_)
    ·
     try simp only [sps] at h32
     refine .qg rfl (.move rfl) (.q rfl (.pickT rfl rfl) (.nil (hK17 _ _ ?_)))
     refine .cond rfl (fun h34 => ?_) (fun h34 => ?_)
     ·
      try simp only [sps] at h34
      refine .skip ?_
      refine hK16 _ _ (.seq (fun K18 hK18 => ?_))
      refine .block ?_
      refine .region (.mv rfl (.mv rfl (.mv rfl ?_)))
      refine .callV rfl rfl rfl rfl rfl hcall rfl ((hq i w (by omega) (by omega))) ?_
      rintro _ _ ⟨rfl, rfl⟩
      refine .mv rfl (.mv rfl (.mv rfl ?_))
      refine .callV rfl rfl rfl rfl rfl hcall rfl ((hq (i + 1 + j) w (by omega) (by omega))) ?_
      rintro _ _ ⟨rfl, rfl⟩
      refine .q rfl (.cmp rfl rfl rfl) (.mv rfl (.nil (hK18 _ _ (.region (.mv rfl ?_)))))
      refine .q rfl (.add rfl rfl rfl (by omega) (by omega)) ?_
      refine .mv rfl (.nil ?_)
      refine hKL3 ((w + 1, Y (xs.getD i 0) w == Y (xs.getD (i + 1 + j) 0) w)) _ _ ?_ ?_ ⟨rfl, rfl, rfl, rfl, rfl, rfl, rfl, rfl, rfl, rfl, rfl, rfl, rfl, trivial⟩
      ·
       refine ⟨rfl, ?_⟩
       refine ⟨by omega, fun q u hu => ?_, fun q => ⟨w, by omega, beq_eq_false_iff_ne.1 q⟩⟩
       by_cases e3 : u < w
       · exact he1 h34 u e3
       · obtain rfl : u = w := by omega
         exact beq_iff_eq.1 q
      (dsimp only; omega)
     try simp only [sps] at h34
     refine .exit ?_
     refine hK14 _ _ (.seq (fun K19 hK19 => .region (.mv rfl (.nil (hK19 _ _ ?_)))))
     refine .cond rfl (fun h46 => ?_) (fun h46 => ?_)
     ·
      try simp only [sps] at h46
      refine .seq (fun K20 hK20 => .region (.mv rfl (.nil (hK20 _ _ ?_))))
      refine .ret ?_
      refine hret _ _ ?_
      refine ⟨_, rfl, ?_⟩
      exact .of (congrArg _ (B_false fun hc => by
        obtain ⟨w2, -, -⟩ := hc.all i (i + 1 + j) (by omega) (by omega)
        first
        | exact w4 (he1 h46 w2 (by omega))
        | (rw [h46] at h34; cases h34)))
     have hne := he2 h46
     refine .skip ?_
     refine hK11 _ _ (.region ?_)
     refine .q rfl (.add rfl rfl rfl (by omega) (by omega)) ?_
     refine .mv rfl (.nil ?_)
     refine hKL2 (j + 1) _ _ ?_ ?_ ⟨rfl, rfl, rfl, rfl, rfl, rfl, rfl, rfl, rfl, rfl, trivial⟩
     ·
      refine ⟨rfl, ?_⟩
      refine ⟨by omega, fun b h => ?_⟩
      by_cases e : b < j
      · exact hb b e
      · obtain rfl : b = j := by omega
        exact hne
     omega
    try simp only [sps] at h32
    refine .z rfl (.q rfl (.pickF rfl rfl) (.nil (hK17 _ _ ?_)))
    refine .condF rfl ?_
    refine .exit ?_
    refine hK14 _ _ (.seq (fun K21 hK21 => .region (.mv rfl (.nil (hK21 _ _ ?_)))))
    refine .cond rfl (fun h46 => ?_) (fun h46 => ?_)
    ·
     try simp only [sps] at h46
     refine .seq (fun K22 hK22 => .region (.mv rfl (.nil (hK22 _ _ ?_))))
     refine .ret ?_
     refine hret _ _ ?_
     refine ⟨_, rfl, ?_⟩
     exact .of (congrArg _ (B_false fun hc => by
       obtain ⟨w2, w3, w4⟩ := hc.all i (i + 1 + j) (by omega) (by omega)
       first
       | exact w4 (he1 h46 w2 (by omega))
       | (rw [h46] at h34; cases h34)))
    have hne := he2 h46
    refine .skip ?_
    refine hK11 _ _ (.region ?_)
    refine .q rfl (.add rfl rfl rfl (by omega) (by omega)) ?_
    refine .mv rfl (.nil ?_)
    refine hKL2 (j + 1) _ _ ?_ ?_ ⟨rfl, rfl, rfl, rfl, rfl, rfl, rfl, rfl, rfl, rfl, trivial⟩
    ·
     refine ⟨rfl, ?_⟩
     refine ⟨by omega, fun b h => ?_⟩
     by_cases e : b < j
     · exact hb b e
     · obtain rfl : b = j := by omega
       exact hne
    omega
   try simp only [sps] at h26
   refine .exit ?_
   refine hK6 _ _ (.region ?_)
   refine .q rfl (.add rfl rfl rfl (by omega) (by omega)) ?_
   refine .mv rfl (.nil ?_)
   refine hKL1 (i + 1) _ _ ?_ ?_ ⟨rfl, rfl, rfl, rfl, rfl, rfl, trivial⟩
   ·
    refine ⟨rfl, ?_⟩
    refine ⟨by omega, fun a b h1 h2 h3 => ?_⟩
    by_cases e : a < i
    · exact ha a b e h2 h3
    · obtain rfl : a = i := by omega
      have := hb (b - (a + 1)) (by omega)
      rwa [show a + 1 + (b - (a + 1)) = b by omega] at this
   omega
  try simp only [sps] at h16
  refine .exit ?_
  refine hK2 _ _ (.seq (fun K23 hK23 => .region (.mv rfl (.nil (hK23 _ _ ?_)))))
  refine .ret ?_
  refine hret _ _ ?_
  refine ⟨_, rfl, ?_⟩
  exact .of (congrArg _ (B_true ⟨fun a b h1 h2 => ha a b (by omega) h1 h2⟩))
theorem jMono1_c {g o g3 g5 : Nat} {c : Cat} {p : CatP} {a : Option Addr} {fs : List Int} {k : Int} {w : Nat} {e3 e5 : TypeId} {H : GHeap} (h : Cat.At H g o c p) (h3 : H.get g3 = some (.row [.pointer (some ⟨g, o, none⟩)] e3 true)) (h5 : H.get g5 = some (.row [.slice a fs.length fs.length] e5 true)) (hx : Ints H a fs)
    (hS : c.Shape) (k0 : 0 ≤ k) (k1 : k < c.src.length) (hw : w < fs.length) (hf : 0 ≤ fs.getD w 0 ∧ fs.getD w 0 < c.src.length) :
    GCalls Try.prog 137 [.int .i64 k, .int .i64 (w : Int), .pointer (some ⟨g3, 0, none⟩), .pointer (some ⟨g5, 0, none⟩)] H (Ret (.int .i64 (c.th k (fs.getD w 0))) H) := by
  have u3 : H.cell g3 0 = some (.pointer (some ⟨g, o, none⟩)) := by rw [GHeap.cell_of h3]; rfl
  have u5 : H.cell g5 0 = some (.slice a fs.length fs.length) := by rw [GHeap.cell_of h5]; rfl
  refine GCalls.body (N := 14) (rs := [.tmp 6]) Try.func137 rfl rfl rfl rfl (fun Qx hret hend => ?_)
  refine .fg [0, 1, 2, 3] rfl ?_
  refine .seq (fun K1 hK1 => .region (.mv rfl (.nil (hK1 _ _ (.seq (fun K2 hK2 => ?_))))))
  refine .regionD mo_B (.q 0 (.q 1 (.q 2 (.q 3 (.q 4 (.q 5 (.c 6 0 (.q 7 (.done))))))))) (by kernel_rfl) ?_
  refine .q rfl (.load on_69_Fc rfl (by assumption)) ?_
  refine .mv rfl rfl ?_
  refine .q rfl (.load on_22_B rfl (by assumption)) ?_
  refine .mv rfl rfl ?_
  refine .q rfl (.idxN sl_22_A (by assumption) rfl rfl (by omega)) ?_
  refine .q rfl (.loadI on_2_A (by assumption) rfl (by omega)) ?_
  refine .callQ0 rfl rfl rfl rfl rfl @Try.call64 rfl (then_s) ?_
  refine .mv rfl rfl ?_
  refine .done ?_
  refine hK2 _ _ ?_
  refine .ret ?_
  refine hret _ _ ?_
  refine ⟨_, rfl, ?_⟩
  exact .mk
theorem jointlyMono_c {g o : Nat} {c : Cat} {p : CatP} {x : Int} {a : Option Addr} {fs : List Int} {H : GHeap} (h : Cat.At H g o c p := by assumption) (hx : Ints H a fs := by assumption) (hS : c.Shape := by assumption) (hl : fs.length ≤ 1048576 := by omega) (hf : ∀ w, w < fs.length → 0 ≤ fs.getD w 0 ∧ fs.getD w 0 < c.src.length) :
    GCalls Try.prog 114 [.pointer (some ⟨g, o, none⟩), .int .i64 x, .slice a fs.length fs.length] H (Ret (.bool (B (c.Jm x fs))) H) := by
  refine GCalls.ret rfl ?_
  have q1 := hS.obj
  have q2 := hS.n40
  refine GCalls.body (N := 25) (rs := [.tmp 6]) Try.func114 rfl rfl rfl rfl (fun Qx hret hend => ?_)
  refine .fg [0, 1, 2] rfl ?_
  have hle := GHeap.Le.refl H
  have base_h := h
  have base_hx := hx
  refine .seq (fun K1 hK1 => .region ?_)
  refine .R rfl (.boxR rfl sz_69_Fc rfl) ?_
  rintro _ H3 ⟨g3, rfl, le3, ge3, at3⟩
  replace hle := hle.trans le3
  replace h := base_h.mono hle
  refine .R rfl (.boxR rfl sz_22_Fc rfl) ?_
  rintro _ H5 ⟨g5, rfl, le5, ge5, at5⟩
  replace hle := hle.trans le5
  replace at3 := le5.2 _ _ at3
  replace h := base_h.mono hle
  refine .mv rfl (.nil (hK1 _ _ (.seq (fun K2 hK2 => .seq (fun K3 hK3 => .region (.mv rfl (.nil (hK3 _ _ ?_))))))))
  refine .block ?_
  refine .loopR (σ := Nat) [(1, some _), (3, some _), (5, some _)] (fun s => [(7, some (.int .i64 (s : Int)))]) (fun s H' => St [] H5 H' ∧ (s : Int) ≤ c.obj ∧ ∀ t : Nat, t < s → Cans (c.hom t x) fs.length (fun g w => c.th g (fs.getD w 0))) (fun s => c.obj.toNat - s) (0) ⟨rfl, rfl, rfl, trivial⟩ ⟨rfl, trivial⟩ ?_ ?_
  ·
   refine ⟨.refl _ _, ?_⟩
   exact ⟨by omega, fun t h => by omega⟩
  rintro s HL1 ⟨lst1, hI⟩ KL1 hKL1
  refine .forget (fr' := [(7, some (.int .i64 (s : Int))), (1, some _), (3, some _), (5, some _)]) ⟨rfl, rfl, rfl, rfl, trivial⟩ ?_
  replace hle := hle.st lst1 (fun k hk => trivial)
  replace at3 := lst1.same _ _ trivial at3
  replace at5 := lst1.same _ _ trivial at5
  replace h := base_h.mono hle
  obtain ⟨c0, -, -, -, -, -, -, -, -⟩ := h.get
  obtain ⟨hs, ha⟩ := hI
  refine .seq (fun K4 hK4 => .seq (fun K5 hK5 => .region (.mv rfl ?_)))
  refine .q rfl (.load on_69_Fc rfl (by first | assumption | exact Mem.of_get at3 0 _ rfl)) ?_
  refine .q rfl (.nilCheck rfl) (.q rfl (.fieldAddr fo_29_0_B rfl) ?_)
  refine .q rfl (.load on_2_A rfl (by assumption)) ?_
  refine .q rfl (.cmp rfl rfl rfl) (.nil (hK5 _ _ ?_))
  refine .cond rfl (fun h13 => ?_) (fun h13 => ?_)
  ·
   try simp only [sps] at h13
   refine .skip ?_
   refine hK4 _ _ (.seq (fun K6 hK6 => ?_))
   refine .block ?_
   refine .seq (fun K7 hK7 => ?_)
   refine .regionD mo_B (.q 0 (.q 1 (.q 2 (.q 4 (.q 5 (.q 6 (.c 3 1 (.c 7 0 (.q 8 (.done)))))))))) (by kernel_rfl) ?_
   refine .q rfl (.load on_69_Fc rfl (by first | assumption | exact Mem.of_get at3 0 _ rfl)) ?_
   refine .mv rfl rfl (.mv rfl rfl ?_)
   refine .q rfl (.load on_22_B rfl (by first | assumption | exact Mem.of_get at5 0 _ rfl)) ?_
   refine .q rfl (.len sl_22_A rfl) (.q rfl (.makeFunc rfl) ?_)
   refine .call1 rfl rfl rfl rfl rfl @Try.call63 rfl (hom_c) ?_
   rintro _ H19 ⟨le19, g19, rfl, at19, ge19⟩
   have hbl := le19
   refine ⟨hbl, ?_⟩
   replace hle := hle.trans le19
   replace lst1 := lst1.le le19
   replace at3 := le19.2 _ _ at3
   replace at5 := le19.2 _ _ at5
   replace h := base_h.mono hle
   replace hx := base_hx.mono hle
   clear c0
   have i19 := Ints.of_get at19
   refine .callQ0 rfl rfl rfl rfl rfl @Try.call136 rfl (cancels_c (Y := fun g w => c.th g (fs.getD w 0)) at19 (by have := c.hom_le s x; omega) (by omega) @Try.call137 (fun i w hi hw => by
     obtain ⟨j, j1, -, -, j4⟩ := c.hom_get hi
     exact jMono1_c h at3 at5 hx hS (by omega) (by omega) hw (hf w hw))) ?_
   refine .q rfl (.not rfl) ?_
   refine .done ?_
   refine hK7 _ _ ?_
   refine .cond rfl (fun h24 => ?_) (fun h24 => ?_)
   ·
    try simp only [sps] at h24
    refine .seq (fun K8 hK8 => .region (.mv rfl (.nil (hK8 _ _ ?_))))
    refine .ret ?_
    refine hret _ _ ?_
    refine ⟨_, rfl, ?_⟩
    exact ⟨congrArg _ (B_false fun q => h24 ((Cat.Jm.iff hS).1 q s (by omega))), hle⟩
   try simp only [sps] at h24
   refine .skip ?_
   refine hK6 _ _ (.region (.mv rfl ?_))
   refine .q rfl (.add rfl rfl rfl (by omega) (by omega)) ?_
   refine .mv rfl (.nil ?_)
   refine hKL1 (s + 1) _ _ ?_ ?_ ⟨rfl, rfl, rfl, rfl, trivial⟩
   ·
    refine ⟨lst1, ?_⟩
    refine ⟨by omega, fun t ht => ?_⟩
    by_cases e : t < s
    · exact ha t e
    · obtain rfl : t = s := by omega
      exact h24
   omega
  try simp only [sps] at h13
  refine .exit ?_
  refine hK2 _ _ (.seq (fun K9 hK9 => .region (.mv rfl (.nil (hK9 _ _ ?_)))))
  refine .ret ?_
  refine hret _ _ ?_
  refine ⟨_, rfl, ?_⟩
  exact ⟨congrArg _ (B_true ((Cat.Jm.iff hS).2 fun t ht => ha t (by omega))), hle⟩
theorem isMono_c {g o : Nat} {c : Cat} {p : CatP} {f : Int} {H : GHeap} (h : Cat.At H g o c p := by assumption) (hS : c.Shape := by assumption) (f0 : 0 ≤ f := by omega) (f1 : f < c.src.length := by omega) :
    GCalls Try.prog 69 [.pointer (some ⟨g, o, none⟩), .int .i64 f] H (Ret (.bool (B (c.Mono f))) H) := by
  refine GCalls.ret rfl ?_
  rw [← B_congr Cat.Jm.one]
  refine GCalls.body (N := 16) (rs := [.tmp 4]) Try.func69 rfl rfl rfl rfl (fun Qx hret hend => ?_)
  refine .fg [0, 1] rfl ?_
  have hle := GHeap.Le.refl H
  have base_h := h
  obtain ⟨-, c1, -, -, -, i1, -, -, -⟩ := h.get
  have q1 := hS.tl
  have q2 := hS.n40
  refine .seq (fun K1 hK1 => .region (.mv rfl (.nil (hK1 _ _ (.seq (fun K2 hK2 => .region (.mv rfl (.mv rfl (.q rfl (.nilCheck rfl) (.q rfl (.fieldAddr fo_29_1_B rfl) ?_))))))))))
  refine .q rfl (.load on_22_B rfl (by assumption)) ?_
  refine .mv rfl ?_
  refine .q rfl (.idx1 sl_22_A (by assumption) rfl rfl (by omega) (by omega)) ?_
  refine .q rfl (.loadI on_2_A (by assumption) rfl (by omega)) ?_
  refine .mv rfl ?_
  refine .R rfl (.litA rfl sl_22_A ze_2_L rfl rfl rfl rfl) ?_
  rintro _ H14 ⟨g14, rfl, le14, ge14, at14⟩
  replace hle := hle.trans le14
  replace h := base_h.mono hle
  clear c1 i1
  refine .callQ rfl rfl rfl rfl @Try.call114 rfl (jointlyMono_c (fs := [f]) (hx := Ints.of_get (by assumption)) (hl := by simp) (hf := one_bd ⟨f0, f1⟩)) ?_
  refine .mv rfl (.nil (hK2 _ _ ?_))
  refine .ret ?_
  refine hret _ _ ?_
  refine ⟨_, rfl, ?_⟩
  exact ⟨rfl, hle⟩
theorem implIsMono_c {c : Cat} {p : CatP} {f : Int} {H : GHeap} (hin : c.In H p := by assumption) (hs : c.Small := by assumption) :
    GCalls Try.prog 26 [.agg (c.cells p).toArray, .int .i64 f] H (Ret (.tuple #[.bool (c.monoB f), .int .i64 (c.code [f])]) H) := by
  refine GCalls.ret rfl ?_
  refine GCalls.body (N := 15) (rs := [.tmp 4, .tmp 5]) Try.func26 rfl rfl rfl rfl (fun Qx hret hend => ?_)
  refine .fg [0, 1] rfl ?_
  have hle := GHeap.Le.refl H
  have base_hin := hin
  refine .seq (fun K1 hK1 => .region ?_)
  refine .R rfl (.boxR rfl sz_29_D rfl) ?_
  rintro _ H2 ⟨g2, rfl, le2, ge2, at2⟩
  replace hle := hle.trans le2
  replace hin := base_hin.mono hle
  have hb2 : Cat.At _ g2 0 c p := ⟨Mem.of_get at2, hin⟩
  refine .mv rfl (.mv rfl (.nil (hK1 _ _ (.seq (fun K2 hK2 => .seq (fun K3 hK3 => .region (.mv rfl ?_)))))))
  refine .R rfl (.litA rfl sl_22_A ze_2_L rfl rfl rfl rfl) ?_
  rintro _ H8 ⟨g8, rfl, le8, ge8, at8⟩
  replace hle := hle.trans le8
  replace at2 := le8.2 _ _ at2
  replace hin := base_hin.mono hle
  clear hb2
  have hb2 : Cat.At _ g2 0 c p := ⟨Mem.of_get at2, hin⟩
  refine .callQ rfl rfl rfl rfl @Try.call62 rfl (arrowCode_c (xs := [f]) (hx := Ints.of_get (by assumption)) (hl := by simp)) ?_
  refine .mv rfl (.nil (hK3 _ _ (.seq (fun K4 hK4 => .region (.mv rfl (.q rfl (.cmp rfl rfl rfl) (.nil (hK4 _ _ ?_))))))))
  refine .cond rfl (fun h11 => ?_) (fun h11 => ?_)
  ·
   try simp only [sps] at h11
   refine .seq (fun K5 hK5 => .region (.mv rfl (.mv rfl (.mv rfl (.nil (hK5 _ _ ?_))))))
   refine .ret ?_
   refine hret _ _ ?_
   refine ⟨_, _, rfl, rfl, ?_⟩
   rw [Cat.monoB_err h11]; exact ⟨rfl, hle⟩
  simp only [sps] at h11
  obtain ⟨hI, f0, f1⟩ := Cat.code_one.1 h11
  have hS := hI.1
  refine .skip ?_
  refine hK2 _ _ (.seq (fun K6 hK6 => .region (.mv rfl ?_)))
  refine .callQ rfl rfl rfl rfl @Try.call69 rfl (isMono_c) ?_
  refine .mv rfl (.mv rfl (.nil (hK6 _ _ ?_)))
  refine .ret ?_
  refine hret _ _ ?_
  refine ⟨_, _, rfl, rfl, ?_⟩
  rw [Cat.monoB_ok h11, h11]; exact ⟨rfl, hle⟩
end Go.Proofs.Ytjdedelneppnlaa
namespace Go.Proofs.Ytjdedelneppnlaa
open Go Go.GL Go.RowKit Go.Proofs
theorem ze_22_Tb : zeroT Try.prog 22 = some ([.slice none 0 0], 1) := by kernel_rfl
theorem by_22_Tb : (Try.prog.info? 22).map (·.bytes) = some 24 := by kernel_rfl
theorem sz_23_Tb : (Try.prog.info? 23).map (·.size) = some 1 := by kernel_rfl
theorem ze_2_Tb : zeroT Try.prog 2 = some ([.int .i64 0], 1) := by kernel_rfl
theorem by_2_Tb : (Try.prog.info? 2).map (·.bytes) = some 8 := by kernel_rfl
theorem sz_22_Tb : (Try.prog.info? 22).map (·.size) = some 1 := by kernel_rfl
theorem sz_2_Tb : (Try.prog.info? 2).map (·.size) = some 1 := by kernel_rfl
theorem arrowsN_c {g : Nat} {ob : Int} {a1 a2 : Option Addr} {n : Nat} {v3 v4 : Value} {rest : List Value} {T : TypeId} {H : GHeap} (hg : H.get g = some (.row (.int .i64 ob :: .slice a1 n n :: .slice a2 n n :: v3 :: v4 :: rest) T true)) :
    GCalls Try.prog 110 [.pointer (some ⟨g, 0, none⟩)] H (Ret (.int .i64 (n : Int)) H) := by
  refine GCalls.body (N := 8) (rs := [.tmp 2]) Try.func110 rfl rfl rfl rfl (fun Qx hret hend => ?_)
  refine .fg [0] rfl ?_
  have hle := GHeap.Le.refl H
  have lt_hg := GHeap.ltg hg
  refine .seq (fun K1 hK1 => .region (.mv rfl (.nil (hK1 _ _ (.seq (fun K2 hK2 => .region (.mv rfl (.q rfl (.nilCheck rfl) (.q rfl (.fieldAddr fo_29_1_B rfl) ?_)))))))))
  refine .q rfl (.load on_22_B rfl (by first | assumption | exact Mem.of_get hg 1 _ rfl)) ?_
  refine .q rfl (.len sl_22_A rfl) (.mv rfl (.nil (hK2 _ _ ?_)))
  refine .ret ?_
  refine hret _ _ ?_
  refine ⟨_, rfl, ?_⟩
  exact .mk
set_option maxHeartbeats 4000000 in
theorem tableG_c {g n fn : Nat} {ob : Int} {a1 a2 : Option Addr} {v3 v4 : Value} {rest : List Value} {T : TypeId} {src tgt : List Int} {cap : Array Value} {X : Nat → Nat → Int} {H : GHeap} (hg : H.get g = some (.row (.int .i64 ob :: .slice a1 n n :: .slice a2 n n :: v3 :: v4 :: rest) T true)) (h1 : src.length = n) (h2 : tgt.length = n) (hn : n ≤ 1048576)
    (k1 : ∀ H', St [g] H H' → Ints H' a1 src) (k2 : ∀ H', St [g] H H' → Ints H' a2 tgt)
    (hcall : ∀ (xs : Array Value) (w : World), (callFunc fn xs).run Try.prog w = .ok (.enter fn xs) w)
    (hq : ∀ H' v, St [g] H H' → H'.get g = some (.row (.int .i64 ob :: .slice a1 n n :: .slice a2 n n :: v3 :: v :: rest) T true) → ∀ i j : Nat, i < n → j < n → tgt.getD i 0 = src.getD j 0 → GCalls Try.prog fn ([.int .i64 (i : Int), .int .i64 (j : Int)] ++ cap.toList) H' (fun v H'' => H'.Le H'' ∧ v = .int .i64 (X i j))) :
    GCalls Try.prog 81 [.pointer (some ⟨g, 0, none⟩), .func (.func fn) #[] cap] H (fun _ H' => St [g] H H' ∧ ∃ gC r, H'.get g = some (.row (.int .i64 ob :: .slice a1 n n :: .slice a2 n n :: v3 :: .slice (some ⟨gC, 0, none⟩) n n :: rest) T true) ∧ H.next ≤ gC ∧
      IntssR H.next H' (some ⟨gC, 0, none⟩) (tabL src tgt X n) r ∧ ∀ i, i < n → ∀ x, r i = some ⟨x, 0, none⟩ → H.next ≤ x) := by
  refine GCalls.body (N := 80) (rs := []) Try.func81 rfl rfl rfl rfl (fun Qx hret hend => ?_)
  refine .fg [0, 1] rfl ?_
  have lt_hg := GHeap.ltg hg
  have hst := St.refl [g] H
  refine .seq (fun K1 hK1 => .region (.mv rfl ?_))
  refine .callQ rfl rfl rfl rfl @Try.call110 rfl (arrowsN_c (by assumption)) ?_
  refine .mv rfl (.nil (hK1 _ _ (.seq (fun K2 hK2 => .region (.mv rfl (.mv rfl ?_))))))
  refine .R rfl (.makeV rfl sl_23_B ze_22_Tb by_22_Tb rfl rfl rfl (by omega) (by omega) (by omega) (by omega)) ?_
  rintro _ H11 ⟨g11, rfl, le11, ge11, at11⟩
  replace hst := hst.le le11
  replace hg := le11.2 _ _ hg
  refine .q rfl (.nilCheck rfl) (.q rfl (.fieldAddr fo_29_4_B rfl) ?_)
  simp only [Int.toNat_natCast] at at11
  refine .r0 rfl rfl (.storeR rfl sz_23_Tb rfl rfl rfl (by assumption) (by first | exact Nat.le_of_ble_eq_true rfl | (simp; done) | (simp <;> omega))) ?_
  rintro _ H1005 ⟨rfl, st1005, at1005⟩
  replace hst := hst.sA st1005
  have ne_g11_g : NE g11 g := .a
  replace at11 := st1005.s at11 ne_g11_g.ne
  have lt_at1005 := GHeap.ltg at1005
  try simp only [Nat.zero_add, List.set_cons_succ, List.set_cons_zero] at at1005
  simp only [Int.toNat_natCast] at at1005
  refine .nil (hK2 _ _ (.seq (fun K3 hK3 => .region (.mv rfl (.q rfl (.nilCheck rfl) (.q rfl (.fieldAddr fo_29_4_B rfl) ?_))))))
  refine .q rfl (.load on_23_B rfl (by first | assumption | exact Mem.of_get at1005 4 _ rfl)) ?_
  refine .q rfl (.len sl_23_B rfl) (.mv rfl (.nil (hK3 _ _ ?_)))
  refine .block ?_
  refine .loopR (σ := Nat × (Nat → Option Addr)) [(0, some _), (1, some _), (4, some _), (18, some _)] (fun (k, rr) => [(19, some (.int .i64 (k : Int)))]) (fun (k, rr) H' => St [g11] H1005 H' ∧ H'.get g11 = some (.row ((fillS rr n k)) 22 true) ∧ k ≤ n ∧ OwnRows H.next H' 2 rr (tabR src tgt X n) k) (fun (k, rr) => n - k) ((0, fun _ => none)) ⟨rfl, rfl, rfl, rfl, trivial⟩ ⟨rfl, trivial⟩ ?_ ?_
  ·
   refine ⟨.refl _ _, by first | assumption | (rw [fillS_zero]; simpa using at11), ?_⟩
   exact ⟨by omega, .zero _ _ _ _ _⟩
  rintro ⟨k, rr⟩ HL1 ⟨lst1, at_Lg11, hI⟩ KL1 hKL1
  refine .forget (fr' := [(19, some (.int .i64 (k : Int))), (0, some _), (1, some _), (4, some _), (18, some _)]) ⟨rfl, rfl, rfl, rfl, rfl, trivial⟩ ?_
  have nx_HL1 := lst1.nx
  replace hst := hst.sA lst1
  replace at1005 := lst1.s at1005 (Ne.symm ne_g11_g.ne)
  have lt_at_Lg11 := GHeap.ltg at_Lg11
  have i1 := k1 _ hst
  have i2 := k2 _ hst
  have j1 := i1.slN h1
  have j2 := i2.slN h2
  have rk := St.refl [g11] HL1
  obtain ⟨hk, hR⟩ := hI
  have hatC := at_Lg11
  refine .seq (fun K4 hK4 => .region (.q rfl (.cmp rfl rfl rfl) (.nil (hK4 _ _ (.seq (fun K5 hK5 => ?_))))))
  refine .cond rfl (fun h20 => ?_) (fun h20 => ?_)
  ·
   simp only [sps] at h20
   refine .skip ?_
   refine hK5 _ _ (.seq (fun K6 hK6 => ?_))
   refine .block ?_
   refine .seq (fun K7 hK7 => .region (.mv rfl (.mv rfl (.nil (hK7 _ _ (.seq (fun K8 hK8 => ?_)))))))
   refine .regionD mo_B (.q 0 (.q 1 (.q 2 (.q 3 (.q 4 (.q 5 (.c 6 1 (.q 7 (.c 8 0 (.done)))))))))) (by kernel_rfl) ?_
   refine .mv rfl rfl (.q rfl (.nilCheck rfl) (.q rfl (.fieldAddr fo_29_4_B rfl) ?_))
   refine .q rfl (.load on_23_B rfl (by first | assumption | exact Mem.of_get at1005 4 _ rfl)) ?_
   refine .mv rfl rfl (.mv rfl rfl ?_)
   refine .c1 rfl rfl rfl rfl (.makeI rfl sl_22_A ze_2_Tb by_2_Tb rfl rfl (by omega) (by omega) (by omega) (by omega)) ?_
   rintro _ H28 ⟨g28, rfl, le28, ge28, at28⟩
   have hbl := le28
   refine ⟨hbl, ?_⟩
   replace hst := hst.le le28
   replace lst1 := lst1.le le28
   replace rk := rk.le le28
   replace at1005 := le28.2 _ _ at1005
   replace at_Lg11 := le28.2 _ _ at_Lg11
   clear i1 i2 j1 j2
   refine .m rfl rfl rfl rfl hbl (.idxN sl_23_B (by first | exact (Intss.sl (by assumption)) | exact SlA.of_row at_Lg11 (by first | rfl | (simp; done) | (simp <;> omega))) rfl rfl (by omega)) ?_
   refine .r0 rfl rfl rfl (.storeR rfl sz_22_Tb rfl rfl rfl (by assumption) (by first | exact Nat.le_of_ble_eq_true rfl | (simp; done) | (simp <;> omega))) ?_
   rintro _ H5008 ⟨rfl, st5008, at5008⟩
   replace hst := hst.sA st5008
   replace lst1 := lst1.sA st5008
   replace rk := rk.sA st5008
   replace at1005 := st5008.s at1005 (Ne.symm ne_g11_g.ne)
   have ne_g28_g11 : NE g28 g11 := .a
   replace at28 := st5008.s at28 ne_g28_g11.ne
   simp only [Int.toNat_natCast, Nat.zero_add] at at5008 at28
   rw [fillS_set (by omega)] at at5008
   have cC := fillS_cell (i := k) at5008 (by omega) (by omega)
   refine .done ?_
   refine hK8 _ _ (.seq (fun K9 hK9 => .region (.mv rfl (.q rfl (.nilCheck rfl) (.q rfl (.fieldAddr fo_29_4_B rfl) ?_)))))
   refine .q rfl (.load on_23_B rfl (by first | assumption | exact Mem.of_get at1005 4 _ rfl)) ?_
   refine .mv rfl ?_
   refine .q rfl (.idxN sl_23_B (by first | exact (Intss.sl (by assumption)) | exact SlA.of_row at5008 (by first | rfl | (simp; done) | (simp <;> omega))) rfl rfl (by omega)) ?_
   refine .q rfl (.load on_22_B rfl (by rw [upd_eq] at cC; exact cC)) ?_
   refine .q rfl (.len sl_22_A rfl) (.mv rfl (.nil (hK9 _ _ ?_)))
   refine .block ?_
   refine .loopR (σ := Nat) [(0, some _), (1, some _), (4, some _), (5, some _), (18, some _), (19, some _), (37, some _)] (fun j => [(38, some (.int .i64 (j : Int)))]) (fun j H' => St [g28] H5008 H' ∧ H'.get g28 = some (.row (ints (fillI (tabC src tgt X k) n j)) 2 true) ∧ j ≤ n) (fun j => n - j) (0) ⟨rfl, rfl, rfl, rfl, rfl, rfl, rfl, trivial⟩ ⟨rfl, trivial⟩ ?_ ?_
   ·
    refine ⟨.refl _ _, by (rw [fillI_zero]; simpa using at28), ?_⟩
    omega
   rintro j HL2 ⟨lst2, at_Lg28, hI⟩ KL2 hKL2
   refine .forget (fr' := [(38, some (.int .i64 (j : Int))), (0, some _), (1, some _), (4, some _), (5, some _), (18, some _), (19, some _), (37, some _)]) ⟨rfl, rfl, rfl, rfl, rfl, rfl, rfl, rfl, trivial⟩ ?_
   replace hst := hst.sA lst2
   replace lst1 := lst1.sA lst2
   replace rk := rk.sA lst2
   have ne_g_g28 : NE g g28 := .a
   replace at1005 := lst2.s at1005 ne_g_g28.ne
   replace at5008 := lst2.s at5008 (Ne.symm ne_g28_g11.ne)
   have i1 := k1 _ hst
   have i2 := k2 _ hst
   have j1 := i1.slN h1
   have j2 := i2.slN h2
   clear cC
   have cC := fillS_cell (i := k) at5008 (by omega) (by omega)
   refine .seq (fun K10 hK10 => .region (.q rfl (.cmp rfl rfl rfl) (.nil (hK10 _ _ (.seq (fun K11 hK11 => ?_))))))
   refine .cond rfl (fun h39 => ?_) (fun h39 => ?_)
   ·
    simp only [sps] at h39
    refine .skip ?_
    refine hK11 _ _ (.seq (fun K12 hK12 => ?_))
    refine .block ?_
    refine .seq (fun K13 hK13 => .region (.mv rfl (.mv rfl (.nil (hK13 _ _ (.seq (fun K14 hK14 => .region (.mv rfl (.q rfl (.nilCheck rfl) (.q rfl (.fieldAddr fo_29_4_B rfl) ?_))))))))))
    refine .q rfl (.load on_23_B rfl (by first | assumption | exact Mem.of_get at1005 4 _ rfl)) ?_
    refine .mv rfl ?_
    refine .q rfl (.idxN sl_23_B (by first | exact (Intss.sl (by assumption)) | exact SlA.of_row at5008 (by first | rfl | (simp; done) | (simp <;> omega))) rfl rfl (by omega)) ?_
    refine .q rfl (.load on_22_B rfl (by rw [upd_eq] at cC; exact cC)) ?_
    refine .mv rfl ?_
    refine .q rfl (.idxN sl_22_A (by first | assumption | exact SlA.of_row at_Lg28 (by first | rfl | (simp; done) | (simp <;> omega))) rfl rfl (by omega)) ?_
    refine .r0 rfl rfl (.storeI rfl sz_2_Tb rfl rfl (by assumption) (by first | omega | (simp <;> omega))) ?_
    rintro _ H9009 ⟨rfl, st9009, at9009⟩
    replace hst := hst.sA st9009
    replace lst2 := lst2.sA st9009
    replace at1005 := st9009.s at1005 ne_g_g28.ne
    replace at5008 := st9009.s at5008 (Ne.symm ne_g28_g11.ne)
    clear i1 i2 j1 j2
    have i1 := k1 _ hst
    have i2 := k2 _ hst
    have j1 := i1.slN h1
    have j2 := i2.slN h2
    clear cC
    have cC := fillS_cell (i := k) at5008 (by omega) (by omega)
    refine .nil (hK14 _ _ (.seq (fun K15 hK15 => ?_)))
    refine .regionD mo_B (.q 0 (.q 1 (.q 2 (.q 3 (.q 4 (.q 5 (.q 6 (.q 7 (.q 8 (.q 9 (.q 10 (.q 11 (.q 12 (.q 13 (.q 14 (.done)))))))))))))))) (by kernel_rfl) ?_
    refine .mv rfl rfl (.q rfl (.nilCheck rfl) (.q rfl (.fieldAddr fo_29_2_B rfl) ?_))
    refine .q rfl (.load on_22_B rfl (by first | assumption | exact Mem.of_get at1005 2 _ rfl)) ?_
    refine .mv rfl rfl ?_
    refine .q rfl (.idxN sl_22_A (by assumption) rfl rfl (by omega)) ?_
    refine .q rfl (.loadI on_2_A (by assumption) rfl (by omega)) ?_
    refine .mv rfl rfl (.q rfl (.nilCheck rfl) (.q rfl (.fieldAddr fo_29_1_B rfl) ?_))
    refine .q rfl (.load on_22_B rfl (by first | assumption | exact Mem.of_get at1005 1 _ rfl)) ?_
    refine .mv rfl rfl ?_
    refine .q rfl (.idxN sl_22_A (by assumption) rfl rfl (by omega)) ?_
    refine .q rfl (.loadI on_2_A (by assumption) rfl (by omega)) ?_
    refine .q rfl (.cmp rfl rfl rfl) ?_
    refine .done ?_
    refine hK15 _ _ ?_
    refine .cond rfl (fun h64 => ?_) (fun h64 => ?_)
    ·
     simp only [sps] at h64
     refine .regionD mo_B (.q 0 (.q 1 (.q 2 (.q 3 (.q 4 (.q 5 (.q 6 (.q 7 (.q 8 (.q 9 (.q 10 (.c 11 1 (.q 12 (.c 13 0 (.done))))))))))))))) (by kernel_rfl) ?_
     refine .mv rfl rfl (.q rfl (.nilCheck rfl) (.q rfl (.fieldAddr fo_29_4_B rfl) ?_))
     refine .q rfl (.load on_23_B rfl (by first | assumption | exact Mem.of_get at1005 4 _ rfl)) ?_
     refine .mv rfl rfl ?_
     refine .q rfl (.idxN sl_23_B (by first | exact (Intss.sl (by assumption)) | exact SlA.of_row at5008 (by first | rfl | (simp; done) | (simp <;> omega))) rfl rfl (by omega)) ?_
     refine .q rfl (.load on_22_B rfl (by rw [upd_eq] at cC; exact cC)) ?_
     refine .mv rfl rfl (.mv rfl rfl (.mv rfl rfl (.mv rfl rfl ?_)))
     refine .callV1 rfl rfl rfl rfl rfl rfl hcall rfl ((hq _ _ hst at1005 k j (by omega) (by omega) h64)) ?_
     rintro _ H76 ⟨le76, rfl⟩
     have hbl := le76
     refine ⟨hbl, ?_⟩
     replace lst2 := lst2.le le76
     replace at9009 := le76.2 _ _ at9009
     clear i1 i2 j1 j2
     clear cC
     refine .m rfl rfl rfl rfl hbl (.idxN sl_22_A (by first | assumption | exact SlA.of_row at9009 (by first | rfl | (simp; done) | (simp <;> omega))) rfl rfl (by omega)) ?_
     refine .r0 rfl rfl rfl (.storeI rfl sz_2_Tb rfl rfl (by assumption) (by first | omega | (simp <;> omega))) ?_
     rintro _ H11013 ⟨rfl, st11013, at11013⟩
     replace lst2 := lst2.sA st11013
     refine .done ?_
     refine hK12 _ _ (.region ?_)
     refine .q rfl (.add rfl rfl rfl (by omega) (by omega)) ?_
     refine .mv rfl (.nil ?_)
     refine hKL2 (j + 1) _ _ ?_ ?_ ⟨rfl, rfl, rfl, rfl, rfl, rfl, rfl, rfl, trivial⟩
     ·
      refine ⟨lst2, by first | assumption | (rw [← fillI_set (by omega) (tabC_F h64).symm]; simpa using at9009) | (rw [← fillI_set (by omega) (tabC_T h64).symm, ← List.set_set (-1)]; simpa using at11013), ?_⟩
      omega
     omega
    simp only [sps] at h64
    refine .skip ?_
    refine hK12 _ _ (.region ?_)
    refine .q rfl (.add rfl rfl rfl (by omega) (by omega)) ?_
    refine .mv rfl (.nil ?_)
    refine hKL2 (j + 1) _ _ ?_ ?_ ⟨rfl, rfl, rfl, rfl, rfl, rfl, rfl, rfl, trivial⟩
    ·
     refine ⟨lst2, by first | assumption | (rw [← fillI_set (by omega) (tabC_F h64).symm]; simpa using at9009) | (rw [← fillI_set (by omega) (tabC_T h64).symm, ← List.set_set (-1)]; simpa using at11013), ?_⟩
     omega
    omega
   try simp only [sps] at h39
   refine .exit ?_
   refine hK6 _ _ (.region ?_)
   refine .q rfl (.add rfl rfl rfl (by omega) (by omega)) ?_
   refine .mv rfl (.nil ?_)
   obtain rfl : j = n := by omega
   refine hKL1 ((k + 1, upd rr k (some ⟨g28, 0, none⟩))) _ _ ?_ ?_ ⟨rfl, rfl, rfl, rfl, rfl, trivial⟩
   ·
    refine ⟨lst1, by assumption, ?_⟩
    exact ⟨by omega, hR.succ rk hatC rfl (by rw [tabR, ← fillI_all]; assumption) (by omega) (by omega)⟩
   (dsimp only; omega)
  try simp only [sps] at h20
  refine .exit ?_
  refine hend _ _ ?_
  obtain rfl : k = n := by omega
  exact ⟨hst, g11, rr, at1005, by omega, (OwnRows.done hR (by rw [← fillS_all (fun i _ => length_tabR _ _ _ _ _)]; exact at_Lg11) (by omega)), fun i hi x hx => by obtain ⟨y, y1, y2, _⟩ := hR.row i hi; rw [y1] at hx; cases hx; exact y2⟩
theorem tableO_c {g n fn : Nat} {ob : Int} {a1 a2 : Option Addr} {v3 v4 : Value} {src tgt : List Int} {cap : Array Value} {X : Nat → Nat → Int} {H : GHeap} (hg : H.get g = some (.row [.int .i64 ob, .slice a1 n n, .slice a2 n n, v3, v4] 29 true)) (h1 : src.length = n) (h2 : tgt.length = n) (hn : n ≤ 1048576)
    (k1 : ∀ H', St [g] H H' → Ints H' a1 src) (k2 : ∀ H', St [g] H H' → Ints H' a2 tgt)
    (hcall : ∀ (xs : Array Value) (w : World), (callFunc fn xs).run Try.prog w = .ok (.enter fn xs) w)
    (hq : ∀ H' v, St [g] H H' → H'.get g = some (.row [.int .i64 ob, .slice a1 n n, .slice a2 n n, v3, v] 29 true) → ∀ i j : Nat, i < n → j < n → tgt.getD i 0 = src.getD j 0 → GCalls Try.prog fn ([.int .i64 (i : Int), .int .i64 (j : Int)] ++ cap.toList) H' (fun v H'' => H'.Le H'' ∧ v = .int .i64 (X i j))) :
    GCalls Try.prog 81 [.pointer (some ⟨g, 0, none⟩), .func (.func fn) #[] cap] H (fun _ H' => St [g] H H' ∧ ∃ gC r, H'.get g = some (.row [.int .i64 ob, .slice a1 n n, .slice a2 n n, v3, .slice (some ⟨gC, 0, none⟩) n n] 29 true) ∧ H.next ≤ gC ∧
      IntssR H.next H' (some ⟨gC, 0, none⟩) (tabL src tgt X n) r ∧ ∀ i, i < n → ∀ x, r i = some ⟨x, 0, none⟩ → H.next ≤ x) :=
  tableG_c (rest := []) hg h1 h2 hn k1 k2 hcall hq
theorem table_c {g n fn : Nat} {ob : Int} {a1 a2 : Option Addr} {v3 v4 : Value} {src tgt : List Int} {cap : Array Value} {X : Nat → Nat → Int} {H : GHeap} (hg : H.get g = some (.row [.int .i64 ob, .slice a1 n n, .slice a2 n n, v3, v4] 29 true)) (h1 : src.length = n) (h2 : tgt.length = n) (hn : n ≤ 1048576)
    (k1 : ∀ H', St [g] H H' → Ints H' a1 src) (k2 : ∀ H', St [g] H H' → Ints H' a2 tgt)
    (hcall : ∀ (xs : Array Value) (w : World), (callFunc fn xs).run Try.prog w = .ok (.enter fn xs) w)
    (hq : ∀ H', St [g] H H' → ∀ i j : Nat, i < n → j < n → tgt.getD i 0 = src.getD j 0 → GCalls Try.prog fn ([.int .i64 (i : Int), .int .i64 (j : Int)] ++ cap.toList) H' (fun v H'' => H'.Le H'' ∧ v = .int .i64 (X i j))) :
    GCalls Try.prog 81 [.pointer (some ⟨g, 0, none⟩), .func (.func fn) #[] cap] H (fun _ H' => St [g] H H' ∧ ∃ gC r, H'.get g = some (.row [.int .i64 ob, .slice a1 n n, .slice a2 n n, v3, .slice (some ⟨gC, 0, none⟩) n n] 29 true) ∧ H.next ≤ gC ∧
      IntssR H.next H' (some ⟨gC, 0, none⟩) (tabL src tgt X n) r ∧ ∀ i, i < n → ∀ x, r i = some ⟨x, 0, none⟩ → H.next ≤ x) :=
  tableO_c hg h1 h2 hn k1 k2 hcall (fun H' _ s _ => hq H' s)
end Go.Proofs.Ytjdedelneppnlaa
