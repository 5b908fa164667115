/- Opposites, terminal objects, what the laws compare with; draws of the laws' own. No condition but those of each statement. -/
import Derived.Test.YtppinbcdndmoaaaZ11
namespace Go.Proofs.Ytppinbcdndmoaaa
open Go Go.GL Go.RowKit Go.Proofs
theorem sz_65_Fd : (Try.prog.info? 65).map (·.size) = some 1 := by kernel_rfl
theorem opposite1_c {g o g1 i j : Nat} {c : Cat} {p : CatP} {e1 : TypeId} {H : GHeap} (h : Cat.At H g o c p) (h1 : H.get g1 = some (.row [.pointer (some ⟨g, o, none⟩)] e1 true)) (hS : c.Shape) (hi : i < c.src.length) (hj : j < c.src.length) :
    GCalls Try.prog 71 [.int .i64 (i : Int), .int .i64 (j : Int), .pointer (some ⟨g1, 0, none⟩)] H (Ret (.int .i64 ((c.comp.getD j []).getD i 0)) H) := by
  have k1 : H.cell g1 0 = some (.pointer (some ⟨g, o, none⟩)) := by rw [GHeap.cell_of h1]; rfl
  refine GCalls.body (N := 10) (rs := [.tmp 5]) Try.func71 rfl rfl rfl rfl (fun Qx hret hend => ?_)
  refine .fg [0, 1, 2] rfl ?_
  refine .seq (fun K1 hK1 => .region (.mv rfl (.nil (hK1 _ _ (.seq (fun K2 hK2 => .region ?_))))))
  refine .q rfl (.load on_65_F rfl (by assumption)) ?_
  refine .mv rfl (.mv rfl ?_)
  refine .callQ rfl rfl rfl rfl @Try.call48 rfl (then_s) ?_
  refine .mv rfl (.nil (hK2 _ _ ?_))
  refine .ret ?_
  refine hret _ _ ?_
  refine ⟨_, rfl, ?_⟩
  exact .of rfl
set_option maxHeartbeats 4000000 in
theorem opposite_c {g o : Nat} {c : Cat} {p : CatP} {H : GHeap} (hc : Cat.At H g o c p := by assumption) (hS : c.Shape := by assumption) :
    GCalls Try.prog 40 [.pointer (some ⟨g, o, none⟩)] H (NewCatR H c.op) := by
  have b1 := hS.n40
  have b2 := hS.tl
  have b3 := hS.cl
  have b4 := hS.il
  have b5 := hS.obj
  refine GCalls.body (N := 27) (rs := [.cell 2 27]) Try.func40 rfl rfl rfl rfl (fun Qx hret hend => ?_)
  refine .fg [0] rfl ?_
  have hle := GHeap.Le.refl H
  have base_hc := hc
  refine .seq (fun K1 hK1 => .region ?_)
  refine .R rfl (.boxR rfl sz_65_Fd rfl) ?_
  rintro _ H1 ⟨g1, rfl, le1, ge1, at1⟩
  replace hle := hle.trans le1
  have lt_at1 := GHeap.ltg at1
  replace hc := base_hc.mono hle
  refine .R rfl (.allocR rfl ze_27_Hj rfl) ?_
  rintro _ H2 ⟨g2, rfl, le2, ge2, at2⟩
  replace hle := hle.trans le2
  replace at1 := le2.2 _ _ at1
  have lt_at2 := GHeap.ltg at2
  replace hc := base_hc.mono hle
  obtain ⟨c0, c1, c2, c3, c4, i1, i2, i3, i4⟩ := hc.get
  refine .nil (hK1 _ _ (.seq (fun K2 hK2 => ?_)))
  refine .regionD mo_B (.q 0 (.q 1 (.q 2 (.q 3 (.q 4 (.q 5 (.q 6 (.q 7 (.q 9 (.q 10 (.q 11 (.q 12 (.q 14 (.q 15 (.q 16 (.q 17 (.or (.c 8 1 (.or (.c 13 1 (.or (.c 18 1 (.q 19 (.c 20 1 (.c 21 1 (.done))))) (.c 20 1 (.c 18 1 (.q 19 (.c 21 1 (.done))))))) (.c 20 1 (.c 13 1 (.c 18 1 (.q 19 (.c 21 1 (.done)))))))) (.c 20 1 (.c 8 1 (.c 13 1 (.c 18 1 (.q 19 (.c 21 1 (.done)))))))))))))))))))))))) (by kernel_rfl) ?_
  refine .cut [(0, some _), (1, some _), (2, some _)] ⟨rfl, rfl, rfl, trivial⟩ (fun rest fr' H' => ∃ g12 g17 g22 g3, Sub ((12, some (.slice (some ⟨g12, 0, none⟩) c.tgt.length c.tgt.length)) :: (17, some (.slice (some ⟨g17, 0, none⟩) c.src.length c.src.length)) :: (22, some (.slice (some ⟨g22, 0, none⟩) c.idn.length c.idn.length)) :: (3, some (.pointer (some ⟨g3, 0, none⟩))) :: rest) fr' ∧ H2.Le H' ∧ H2.next ≤ g12 ∧ H2.next ≤ g17 ∧ H2.next ≤ g22 ∧ H2.next ≤ g3 ∧ H'.get g12 = some (.row (ints c.tgt) 2 true) ∧ H'.get g17 = some (.row (ints c.src) 2 true) ∧ H'.get g22 = some (.row (ints c.idn) 2 true) ∧ H'.get g3 = some (.row ([.int .i64 c.obj, .slice (some ⟨g12, 0, none⟩) c.tgt.length c.tgt.length, .slice (some ⟨g17, 0, none⟩) c.src.length c.src.length, .slice (some ⟨g22, 0, none⟩) c.idn.length c.idn.length, .slice none 0 0]) 27 true) ∧ g12 ≠ g17 ∧ g12 ≠ g22 ∧ g12 ≠ g3 ∧ g17 ≠ g22 ∧ g17 ≠ g3 ∧ g22 ≠ g3) ?_ ?_
  ·
   have hf0 := GHeap.Le.refl H2
   refine .q rfl (.load on_65_F rfl (by first | assumption | exact Mem.of_get at1 0 _ rfl)) ?_
   refine .qB rfl (.refl _) (.nilCheck rfl) (.qB rfl (.refl _) (.fieldAddr fo_27_0_B rfl) ?_)
   refine .q rfl (.load on_2_A rfl (by assumption)) ?_
   refine .q rfl (.load on_65_F rfl (by first | assumption | exact Mem.of_get at1 0 _ rfl)) ?_
   refine .qB rfl (.refl _) (.nilCheck rfl) (.qB rfl (.refl _) (.fieldAddr fo_27_2_B rfl) ?_)
   refine .q rfl (.load on_24_B rfl (by assumption)) ?_
   refine .q rfl (.load on_65_F rfl (by first | assumption | exact Mem.of_get at1 0 _ rfl)) ?_
   refine .qB rfl (.refl _) (.nilCheck rfl) (.qB rfl (.refl _) (.fieldAddr fo_27_1_B rfl) ?_)
   refine .q rfl (.load on_24_B rfl (by assumption)) ?_
   refine .q rfl (.load on_65_F rfl (by first | assumption | exact Mem.of_get at1 0 _ rfl)) ?_
   refine .qB rfl (.refl _) (.nilCheck rfl) (.qB rfl (.refl _) (.fieldAddr fo_27_3_B rfl) ?_)
   refine .q rfl (.load on_24_B rfl (by assumption)) ?_
   refine .orI ?_ ?_
   ·
    refine .call1 rfl rfl rfl rfl rfl @Try.call69 rfl (clone_c) ?_
    rintro _ H12x2 ⟨le12x2, g12x2, rfl, at12x2, ge12x2⟩
    have hbl := le12x2
    refine ⟨hbl, ?_⟩
    replace hle := hle.trans le12x2
    have lt_at12x2 := GHeap.ltg at12x2
    replace hf0 := hf0.trans le12x2
    refine .orI ?_ ?_
    ·
     replace hc := base_hc.mono hle
     clear c0 c1 c2 c3 c4 i1 i2 i3 i4
     obtain ⟨c0, c1, c2, c3, c4, i1, i2, i3, i4⟩ := hc.get
     refine .call1 rfl rfl rfl rfl rfl @Try.call69 rfl (clone_c) ?_
     rintro _ H17x2 ⟨le17x2, g17x2, rfl, at17x2, ge17x2⟩
     replace hbl := hbl.trans le17x2
     refine ⟨hbl, ?_⟩
     replace hle := hle.trans le17x2
     replace at12x2 := le17x2.2 _ _ at12x2
     have lt_at17x2 := GHeap.ltg at17x2
     replace hf0 := hf0.trans le17x2
     refine .orI ?_ ?_
     ·
      replace hc := base_hc.mono hle
      clear c0 c1 c2 c3 c4 i1 i2 i3 i4
      obtain ⟨c0, c1, c2, c3, c4, i1, i2, i3, i4⟩ := hc.get
      refine .call1 rfl rfl rfl rfl rfl @Try.call69 rfl (clone_c) ?_
      rintro _ H22x2 ⟨le22x2, g22x2, rfl, at22x2, ge22x2⟩
      replace hbl := hbl.trans le22x2
      refine ⟨hbl, ?_⟩
      replace at12x2 := le22x2.2 _ _ at12x2
      replace at17x2 := le22x2.2 _ _ at17x2
      have lt_at22x2 := GHeap.ltg at22x2
      replace hf0 := hf0.trans le22x2
      refine .qB rfl hbl (.build bt_27_Hj rfl rfl rfl) ?_
      refine .c1 rfl rfl rfl rfl (.allocR rfl ze_27_Hj rfl) ?_
      rintro _ H3x2 ⟨g3x2, rfl, le3x2, ge3x2, at3x2⟩
      replace hbl := hbl.trans le3x2
      refine ⟨hbl, ?_⟩
      replace at12x2 := le3x2.2 _ _ at12x2
      replace at17x2 := le3x2.2 _ _ at17x2
      replace at22x2 := le3x2.2 _ _ at22x2
      replace hf0 := hf0.trans le3x2
      refine .r1 rfl rfl rfl (.fillA rfl sz_27_D rfl rfl rfl rfl) ?_
      rintro _ H1021 ⟨rfl, st1021, at1021⟩
      replace hbl := hbl.st st1021 (fun k hk => ⟨by omega, trivial⟩)
      refine ⟨hbl, ?_⟩
      replace at12x2 := st1021.s at12x2
      replace at17x2 := st1021.s at17x2
      replace at22x2 := st1021.s at22x2
      replace hf0 := hf0.st st1021 (fun k hk => ⟨by omega, trivial⟩)
      refine .done ?_
      exact ⟨g12x2, g17x2, g22x2, g3x2, ⟨rfl, rfl, rfl, rfl, rfl, rfl, rfl, trivial⟩, hf0, by omega, by omega, by omega, by omega, by first | assumption | simpa using at12x2, by first | assumption | simpa using at17x2, by first | assumption | simpa using at22x2, by first | assumption | simpa using at1021, by omega, by omega, by omega, by omega, by omega, by omega⟩
     refine .c1 rfl rfl rfl rfl (.allocR rfl ze_27_Hj rfl) ?_
     rintro _ H3x3 ⟨g3x3, rfl, le3x3, ge3x3, at3x3⟩
     replace hbl := hbl.trans le3x3
     refine ⟨hbl, ?_⟩
     replace hle := hle.trans le3x3
     replace at12x2 := le3x3.2 _ _ at12x2
     replace at17x2 := le3x3.2 _ _ at17x2
     have lt_at3x3 := GHeap.ltg at3x3
     replace hf0 := hf0.trans le3x3
     replace hc := base_hc.mono hle
     clear c1
     obtain ⟨c0, c1, c2, c3, c4, i1, i2, i3, i4⟩ := hc.get
     refine .call1 rfl rfl rfl rfl rfl @Try.call69 rfl (clone_c) ?_
     rintro _ H22x3 ⟨le22x3, g22x3, rfl, at22x3, ge22x3⟩
     replace hbl := hbl.trans le22x3
     refine ⟨hbl, ?_⟩
     replace at12x2 := le22x3.2 _ _ at12x2
     replace at17x2 := le22x3.2 _ _ at17x2
     replace at3x3 := le22x3.2 _ _ at3x3
     replace hf0 := hf0.trans le22x3
     refine .qB rfl hbl (.build bt_27_Hj rfl rfl rfl) ?_
     refine .r1 rfl rfl rfl (.fillA rfl sz_27_D rfl rfl rfl rfl) ?_
     rintro _ H1021x2 ⟨rfl, st1021x2, at1021x2⟩
     replace hbl := hbl.st st1021x2 (fun k hk => ⟨by omega, trivial⟩)
     refine ⟨hbl, ?_⟩
     replace at12x2 := st1021x2.s at12x2
     replace at17x2 := st1021x2.s at17x2
     replace at22x3 := st1021x2.s at22x3
     replace hf0 := hf0.st st1021x2 (fun k hk => ⟨by omega, trivial⟩)
     refine .done ?_
     exact ⟨g12x2, g17x2, g22x3, g3x3, ⟨rfl, rfl, rfl, rfl, rfl, rfl, rfl, trivial⟩, hf0, by omega, by omega, by omega, by omega, by first | assumption | simpa using at12x2, by first | assumption | simpa using at17x2, by first | assumption | simpa using at22x3, by first | assumption | simpa using at1021x2, by omega, by omega, by omega, by omega, by omega, by omega⟩
    refine .c1 rfl rfl rfl rfl (.allocR rfl ze_27_Hj rfl) ?_
    rintro _ H3x4 ⟨g3x4, rfl, le3x4, ge3x4, at3x4⟩
    replace hbl := hbl.trans le3x4
    refine ⟨hbl, ?_⟩
    replace hle := hle.trans le3x4
    replace at12x2 := le3x4.2 _ _ at12x2
    have lt_at3x4 := GHeap.ltg at3x4
    replace hf0 := hf0.trans le3x4
    replace hc := base_hc.mono hle
    clear c1
    obtain ⟨c0, c1, c2, c3, c4, i1, i2, i3, i4⟩ := hc.get
    refine .call1 rfl rfl rfl rfl rfl @Try.call69 rfl (clone_c) ?_
    rintro _ H17x3 ⟨le17x3, g17x3, rfl, at17x3, ge17x3⟩
    replace hbl := hbl.trans le17x3
    refine ⟨hbl, ?_⟩
    replace hle := hle.trans le17x3
    replace at12x2 := le17x3.2 _ _ at12x2
    replace at3x4 := le17x3.2 _ _ at3x4
    have lt_at17x3 := GHeap.ltg at17x3
    replace hf0 := hf0.trans le17x3
    replace hc := base_hc.mono hle
    clear c0 c1 c2 c3 c4 i1 i2 i3 i4
    obtain ⟨c0, c1, c2, c3, c4, i1, i2, i3, i4⟩ := hc.get
    refine .call1 rfl rfl rfl rfl rfl @Try.call69 rfl (clone_c) ?_
    rintro _ H22x4 ⟨le22x4, g22x4, rfl, at22x4, ge22x4⟩
    replace hbl := hbl.trans le22x4
    refine ⟨hbl, ?_⟩
    replace at12x2 := le22x4.2 _ _ at12x2
    replace at3x4 := le22x4.2 _ _ at3x4
    replace at17x3 := le22x4.2 _ _ at17x3
    replace hf0 := hf0.trans le22x4
    refine .qB rfl hbl (.build bt_27_Hj rfl rfl rfl) ?_
    refine .r1 rfl rfl rfl (.fillA rfl sz_27_D rfl rfl rfl rfl) ?_
    rintro _ H1021x3 ⟨rfl, st1021x3, at1021x3⟩
    replace hbl := hbl.st st1021x3 (fun k hk => ⟨by omega, trivial⟩)
    refine ⟨hbl, ?_⟩
    replace at12x2 := st1021x3.s at12x2
    replace at17x3 := st1021x3.s at17x3
    replace at22x4 := st1021x3.s at22x4
    replace hf0 := hf0.st st1021x3 (fun k hk => ⟨by omega, trivial⟩)
    refine .done ?_
    exact ⟨g12x2, g17x3, g22x4, g3x4, ⟨rfl, rfl, rfl, rfl, rfl, rfl, rfl, trivial⟩, hf0, by omega, by omega, by omega, by omega, by first | assumption | simpa using at12x2, by first | assumption | simpa using at17x3, by first | assumption | simpa using at22x4, by first | assumption | simpa using at1021x3, by omega, by omega, by omega, by omega, by omega, by omega⟩
   refine .c1 rfl rfl rfl rfl (.allocR rfl ze_27_Hj rfl) ?_
   rintro _ H3x5 ⟨g3x5, rfl, le3x5, ge3x5, at3x5⟩
   have hbl := le3x5
   refine ⟨hbl, ?_⟩
   replace hle := hle.trans le3x5
   have lt_at3x5 := GHeap.ltg at3x5
   replace hf0 := hf0.trans le3x5
   replace hc := base_hc.mono hle
   clear c1
   obtain ⟨c0, c1, c2, c3, c4, i1, i2, i3, i4⟩ := hc.get
   refine .call1 rfl rfl rfl rfl rfl @Try.call69 rfl (clone_c) ?_
   rintro _ H12x3 ⟨le12x3, g12x3, rfl, at12x3, ge12x3⟩
   replace hbl := hbl.trans le12x3
   refine ⟨hbl, ?_⟩
   replace hle := hle.trans le12x3
   replace at3x5 := le12x3.2 _ _ at3x5
   have lt_at12x3 := GHeap.ltg at12x3
   replace hf0 := hf0.trans le12x3
   replace hc := base_hc.mono hle
   clear c0 c1 c2 c3 c4 i1 i2 i3 i4
   obtain ⟨c0, c1, c2, c3, c4, i1, i2, i3, i4⟩ := hc.get
   refine .call1 rfl rfl rfl rfl rfl @Try.call69 rfl (clone_c) ?_
   rintro _ H17x4 ⟨le17x4, g17x4, rfl, at17x4, ge17x4⟩
   replace hbl := hbl.trans le17x4
   refine ⟨hbl, ?_⟩
   replace hle := hle.trans le17x4
   replace at3x5 := le17x4.2 _ _ at3x5
   replace at12x3 := le17x4.2 _ _ at12x3
   have lt_at17x4 := GHeap.ltg at17x4
   replace hf0 := hf0.trans le17x4
   replace hc := base_hc.mono hle
   clear c0 c1 c2 c3 c4 i1 i2 i3 i4
   obtain ⟨c0, c1, c2, c3, c4, i1, i2, i3, i4⟩ := hc.get
   refine .call1 rfl rfl rfl rfl rfl @Try.call69 rfl (clone_c) ?_
   rintro _ H22x5 ⟨le22x5, g22x5, rfl, at22x5, ge22x5⟩
   replace hbl := hbl.trans le22x5
   refine ⟨hbl, ?_⟩
   replace at3x5 := le22x5.2 _ _ at3x5
   replace at12x3 := le22x5.2 _ _ at12x3
   replace at17x4 := le22x5.2 _ _ at17x4
   replace hf0 := hf0.trans le22x5
   refine .qB rfl hbl (.build bt_27_Hj rfl rfl rfl) ?_
   refine .r1 rfl rfl rfl (.fillA rfl sz_27_D rfl rfl rfl rfl) ?_
   rintro _ H1021x4 ⟨rfl, st1021x4, at1021x4⟩
   replace hbl := hbl.st st1021x4 (fun k hk => ⟨by omega, trivial⟩)
   refine ⟨hbl, ?_⟩
   replace at12x3 := st1021x4.s at12x3
   replace at17x4 := st1021x4.s at17x4
   replace at22x5 := st1021x4.s at22x5
   replace hf0 := hf0.st st1021x4 (fun k hk => ⟨by omega, trivial⟩)
   refine .done ?_
   exact ⟨g12x3, g17x4, g22x5, g3x5, ⟨rfl, rfl, rfl, rfl, rfl, rfl, rfl, trivial⟩, hf0, by omega, by omega, by omega, by omega, by first | assumption | simpa using at12x3, by first | assumption | simpa using at17x4, by first | assumption | simpa using at22x5, by first | assumption | simpa using at1021x4, by omega, by omega, by omega, by omega, by omega, by omega⟩
  rintro fr3 H3 ⟨g12, g17, g22, g3, hsub3, le3, ge12, ge17, ge22, ge3, at12, at17, at22, at3, ne3_0, ne3_1, ne3_2, ne3_3, ne3_4, ne3_5⟩
  have nx_H3 := le3.1
  replace hle := hle.trans le3
  replace at1 := le3.2 _ _ at1
  replace at2 := le3.2 _ _ at2
  have lt_at12 := GHeap.ltg at12
  have lt_at17 := GHeap.ltg at17
  have lt_at22 := GHeap.ltg at22
  replace hc := base_hc.mono hle
  refine hK2 _ _ ?_
  refine .forget hsub3 ?_
  refine .seq (fun K3 hK3 => .region ?_)
  rw [b2] at at3
  refine .q rfl (.makeFunc rfl) ?_
  refine .call rfl rfl rfl rfl @Try.call70 rfl (table_c (src := c.tgt) (tgt := c.src) (X := fun i j => (c.comp.getD j []).getD i 0) (by assumption) hS.tl rfl (by omega) (fun H' s => Ints.of_get (s.same _ _ ⟨by omega, trivial⟩ at12)) (fun H' s => Ints.of_get (s.same _ _ ⟨by omega, trivial⟩ at17)) @Try.call71 (fun H' s i j hi hj e => (opposite1_c (H := H') (base_hc.mono (hle.st s (fun k hk => ⟨by omega, trivial⟩))) (s.same _ _ ⟨by omega, trivial⟩ at1) hS hi hj).mono fun v H'' hv => by obtain ⟨rfl, rfl⟩ := hv; exact ⟨.refl _, rfl⟩)) ?_
  rintro _ H25 ⟨st25, gC25, r25, at25, ge25, v25, hr25⟩
  replace hle := hle.st st25 (fun k hk => ⟨by omega, trivial⟩)
  replace at2 := st25.s at2
  replace at12 := st25.s at12
  replace at17 := st25.s at17
  replace at22 := st25.s at22
  replace hc := base_hc.mono hle
  refine .nil (hK3 _ _ (.seq (fun K4 hK4 => .region ?_)))
  refine .q rfl (.loadM ag_27_D rfl ⟨rfl, Mem.of_get at25⟩) ?_
  refine .r0 rfl rfl (.fillA rfl sz_27_D rfl rfl rfl rfl) ?_
  rintro _ H3001 ⟨rfl, st3001, at3001⟩
  replace hle := hle.st st3001 (fun k hk => ⟨by omega, trivial⟩)
  replace at12 := st3001.s at12
  replace at17 := st3001.s at17
  replace at22 := st3001.s at22
  replace hc := base_hc.mono hle
  refine .nil (hK4 _ _ ?_)
  refine .ret ?_
  refine hret _ _ ?_
  refine ⟨_, _, _, _, rfl, ag_27_D, (by rfl), (Mem.of_get at3001), ?_⟩
  rw [Cat.op_tab hS] at v25
  refine ⟨hle, ⟨some ⟨g12, 0, none⟩, some ⟨g17, 0, none⟩, some ⟨g22, 0, none⟩, some ⟨gC25, 0, none⟩, r25⟩, by simp [Cat.cells, Cat.op, b2], ?_⟩
  have hv := v25.keep (st3001.keep (b := H3.next) (fun k hk => ⟨by omega, trivial⟩)) (by omega)
  refine .mk (.of_at at12 (by omega)) (.of_at at17 (by omega)) (.of_at at22 (by omega)) (hv.keep (.of_le (.refl _)) (by omega)) (g1 := g12) (g2 := g17) (g3 := g22) (.inr rfl) (.inr rfl) (.inr rfl) (by omega) (by omega) (by omega) (fun i hi => ?_)
  have hi' : i < c.src.length := by simpa [Cat.op] using hi
  exact ⟨fun e => by have := hr25 i hi' _ e; omega, fun e => by have := hr25 i hi' _ e; omega, fun e => by have := hr25 i hi' _ e; omega⟩
theorem oppositeCategory_c {c : Cat} {p : CatP} {H : GHeap} (hin : c.In H p := by assumption) (hs : c.Small := by assumption) :
    GCalls Try.prog 14 [.agg (c.cells p).toArray] H (NewCR (c.code []) c.opR H) := by
  refine GCalls.body (N := 8) (rs := [.cell 2 27, .tmp 3]) Try.func14 rfl rfl rfl rfl (fun Qx hret hend => ?_)
  refine .fg [0] rfl ?_
  have hle := GHeap.Le.refl H
  have base_hin := hin
  refine .seq (fun K1 hK1 => .region ?_)
  refine .R rfl (.boxR rfl sz_27_D rfl) ?_
  rintro _ H1 ⟨g1, rfl, le1, ge1, at1⟩
  replace hle := hle.trans le1
  have lt_at1 := GHeap.ltg at1
  replace hin := base_hin.mono hle
  have hb1 : Cat.At _ g1 0 c p := ⟨Mem.of_get at1, hin⟩
  refine .R rfl (.allocR rfl ze_27_Hj rfl) ?_
  rintro _ H2 ⟨g2, rfl, le2, ge2, at2⟩
  have nx_H2 := le2.1
  replace hle := hle.trans le2
  replace at1 := le2.2 _ _ at1
  have lt_at2 := GHeap.ltg at2
  replace hin := base_hin.mono hle
  clear hb1
  have hb1 : Cat.At _ g1 0 c p := ⟨Mem.of_get at1, hin⟩
  refine .mv rfl (.nil (hK1 _ _ (.seq (fun K2 hK2 => .seq (fun K3 hK3 => .region ?_)))))
  refine .callQ rfl rfl rfl rfl @Try.call30 rfl (isCategory_c) ?_
  refine .q rfl (.not rfl) (.nil (hK3 _ _ ?_))
  refine .cond rfl (fun h5 => ?_) (fun h5 => ?_)
  ·
   try simp only [sps] at h5
   refine .seq (fun K4 hK4 => .region (.q rfl (.build bt_27_Hj rfl rfl rfl) ?_))
   refine .r0 rfl rfl (.fillA rfl sz_27_D rfl rfl rfl rfl) ?_
   rintro _ H2001 ⟨rfl, st2001, at2001⟩
   replace hle := hle.st st2001 (fun k hk => ⟨by omega, trivial⟩)
   have ne_g1_g2 : NE g1 g2 := .a
   replace at1 := st2001.s at1 ne_g1_g2.ne
   replace hin := base_hin.mono hle
   clear hb1
   have hb1 : Cat.At _ g1 0 c p := ⟨Mem.of_get at1, hin⟩
   refine .mv rfl (.nil (hK4 _ _ ?_))
   refine .ret ?_
   refine hret _ _ ?_
   refine ⟨_, _, _, _, _, rfl, ag_27_D, (by rfl), (Mem.of_get at2001), rfl, ?_⟩
   rw [Cat.op_not h5, Cat.code_nil1 h5]; exact ⟨hle, .zero, rfl, .zero _ _⟩
  simp only [sps] at h5
  have hS := h5.1
  refine .skip ?_
  refine hK2 _ _ (.seq (fun K5 hK5 => .region ?_))
  refine .call rfl rfl rfl rfl @Try.call40 rfl (opposite_c) ?_
  rintro _ H7 ⟨le7, p7, rfl, v7⟩
  replace hle := hle.trans le7
  replace at1 := le7.2 _ _ at1
  replace at2 := le7.2 _ _ at2
  have bs_v7 := v7
  have lv_v7 : Keep H2.next H7 H7 := fun _ _ _ h => h
  replace hin := base_hin.mono hle
  have hb1 : Cat.At _ g1 0 c p := ⟨Mem.of_get at1, hin⟩
  refine .r0 rfl rfl (.fillA rfl sz_27_D rfl rfl rfl rfl) ?_
  rintro _ H3001 ⟨rfl, st3001, at3001⟩
  replace hle := hle.st st3001 (fun k hk => ⟨by omega, trivial⟩)
  have ne_g1_g2 : NE g1 g2 := .a
  replace at1 := st3001.s at1 ne_g1_g2.ne
  replace lv_v7 := Keep.st lv_v7 st3001 (fun k hb hk => ⟨by omega, trivial⟩)
  replace v7 := bs_v7.keep lv_v7 (Nat.le_refl _)
  replace hin := base_hin.mono hle
  clear hb1
  have hb1 : Cat.At _ g1 0 c p := ⟨Mem.of_get at1, hin⟩
  refine .mv rfl (.nil (hK5 _ _ ?_))
  refine .ret ?_
  refine hret _ _ ?_
  refine ⟨_, _, _, _, _, rfl, ag_27_D, (by rfl), (Mem.of_get at3001), rfl, ?_⟩
  rw [Cat.op_ok h5, Cat.code_nil.2 h5]; exact ⟨hle, p7, rfl, v7.keep (.of_le (.refl _)) (by omega)⟩
theorem terminal_c {g o : Nat} {c : Cat} {p : CatP} {H : GHeap} (h : Cat.At H g o c p := by assumption) (hS : c.Shape := by assumption) :
    GCalls Try.prog 31 [.pointer (some ⟨g, o, none⟩)] H (NewInts 2 H c.term) := by
  have b5 := hS.obj
  refine GCalls.body (N := 34) (rs := [.tmp 2]) Try.func31 rfl rfl rfl rfl (fun Qx hret hend => ?_)
  refine .fg [0] rfl ?_
  have hle := GHeap.Le.refl H
  have base_h := h
  refine .seq (fun K1 hK1 => .region (.mv rfl (.nil (hK1 _ _ ?_))))
  refine .scope ?_
  refine .seq (fun K2 hK2 => .region ?_)
  refine .R rfl (.litA rfl sl_24_A ze_2_L rfl rfl rfl rfl) ?_
  rintro _ H6 ⟨g6, rfl, le6, ge6, at6⟩
  replace hle := hle.trans le6
  have lt_at6 := GHeap.ltg at6
  replace h := base_h.mono hle
  replace at6 : GHeap.get H6 g6 = some (.row (ints []) 2 true) := at6
  refine .mv rfl (.nil (hK2 _ _ (.seq (fun K3 hK3 => ?_))))
  refine .label ?_
  refine hK3 _ _ (.seq (fun K4 hK4 => .seq (fun K5 hK5 => .region (.mv rfl (.nil (hK5 _ _ ?_))))))
  refine .block ?_
  refine .loopR (σ := Nat × Nat × Nat) [(0, some _)] (fun (x, gL3, nL3) => [(4, some (.int .i64 (x : Int))), (3, some (.slice (some ⟨gL3, 0, none⟩) nL3 nL3))]) (fun (x, gL3, nL3) H' => St [g6] H6 H' ∧ H'.get gL3 = some (.row (ints (filtN x (fun x => allN c.obj.toNat fun y => decide ((c.hom (y : Int) (x : Int)).length = 1)))) 2 true) ∧ (gL3 = g6 ∨ H6.next ≤ gL3) ∧ nL3 = (filtN x (fun x => allN c.obj.toNat fun y => decide ((c.hom (y : Int) (x : Int)).length = 1))).length ∧ x ≤ c.obj.toNat) (fun (x, gL3, nL3) => c.obj.toNat - x) ((0, _, _)) ⟨rfl, trivial⟩ ⟨rfl, rfl, trivial⟩ ?_ ?_
  ·
   refine ⟨.refl _ _, by first | assumption | exact at6 | simpa using at6, .inl rfl, by first | rfl | assumption | simp | omega, ?_⟩
   omega
  rintro ⟨x, gL3, nL3⟩ HL1 ⟨lst1, at_L3, pl_L3, ln_L3, hI⟩ KL1 hKL1
  refine .forget (fr' := [(4, some (.int .i64 (x : Int))), (3, some (.slice (some ⟨gL3, 0, none⟩) nL3 nL3)), (0, some _)]) ⟨rfl, rfl, rfl, trivial⟩ ?_
  have ge_L3 : H.next ≤ gL3 := by omega
  have nx_HL1 := lst1.nx
  replace hle := hle.st lst1 (fun k hk => ⟨by omega, trivial⟩)
  replace h := base_h.mono hle
  obtain ⟨c0, -, -, -, -, -, -, -, -⟩ := h.get
  have hfl := filtN_le x (fun x => allN c.obj.toNat fun y => decide ((c.hom (y : Int) (x : Int)).length = 1))
  refine .seq (fun K6 hK6 => .seq (fun K7 hK7 => .region (.mv rfl (.mv rfl (.q rfl (.nilCheck rfl) (.q rfl (.fieldAddr fo_27_0_B rfl) ?_))))))
  refine .q rfl (.load on_2_A rfl (by assumption)) ?_
  refine .q rfl (.cmp rfl rfl rfl) (.nil (hK7 _ _ ?_))
  refine .cond rfl (fun h12 => ?_) (fun h12 => ?_)
  ·
   simp only [sps] at h12
   refine .skip ?_
   refine hK6 _ _ (.seq (fun K8 hK8 => ?_))
   refine .block ?_
   refine .seq (fun K9 hK9 => .seq (fun K10 hK10 => .region (.mv rfl (.nil (hK10 _ _ ?_)))))
   refine .block ?_
   refine .loopR (σ := Nat) [(0, some _), (3, some _), (4, some _)] (fun y => [(5, some (.int .i64 (y : Int)))]) (fun y H' => St [] HL1 H' ∧ y ≤ c.obj.toNat ∧ ∀ z, z < y → (c.hom (z : Int) (x : Int)).length = 1) (fun y => c.obj.toNat - y) (0) ⟨rfl, rfl, rfl, trivial⟩ ⟨rfl, trivial⟩ ?_ ?_
   ·
    refine ⟨.refl _ _, ?_⟩
    exact ⟨by omega, fun z hz => by omega⟩
   rintro y HL2 ⟨lst2, hI⟩ KL2 hKL2
   refine .forget (fr' := [(5, some (.int .i64 (y : Int))), (0, some _), (3, some _), (4, some _)]) ⟨rfl, rfl, rfl, rfl, trivial⟩ ?_
   have nx_HL2 := lst2.nx
   replace hle := hle.st lst2 (fun k hk => trivial)
   replace lst1 := lst1.sA lst2
   replace at_L3 := lst2.same _ _ trivial at_L3
   replace h := base_h.mono hle
   clear c0
   obtain ⟨c0, -, -, -, -, -, -, -, -⟩ := h.get
   obtain ⟨hy, hall⟩ := hI
   refine .seq (fun K11 hK11 => .seq (fun K12 hK12 => .region (.mv rfl (.mv rfl (.q rfl (.nilCheck rfl) (.q rfl (.fieldAddr fo_27_0_B rfl) ?_))))))
   refine .q rfl (.load on_2_A rfl (by assumption)) ?_
   refine .q rfl (.cmp rfl rfl rfl) (.nil (hK12 _ _ ?_))
   refine .cond rfl (fun h20 => ?_) (fun h20 => ?_)
   ·
    simp only [sps] at h20
    refine .skip ?_
    refine hK11 _ _ (.seq (fun K13 hK13 => ?_))
    refine .block ?_
    refine .seq (fun K14 hK14 => .region (.mv rfl (.mv rfl (.mv rfl ?_))))
    refine .call rfl rfl rfl rfl @Try.call37 rfl (hom_c) ?_
    rintro _ H26 ⟨le26, g26, rfl, at26, ge26⟩
    replace hle := hle.trans le26
    replace lst1 := lst1.le le26
    replace lst2 := lst2.le le26
    replace at_L3 := le26.2 _ _ at_L3
    replace h := base_h.mono hle
    clear c0
    have i26 := Ints.of_get at26
    refine .q rfl (.len sl_24_A rfl) (.q rfl (.cmp rfl rfl rfl) (.nil (hK14 _ _ ?_)))
    refine .cond rfl (fun h28 => ?_) (fun h28 => ?_)
    ·
     have hF : (allN c.obj.toNat fun y => decide ((c.hom (y : Int) (x : Int)).length = 1)) = false := allN_not (i := y) (by omega) (by simp only [sps] at h28 ⊢; omega)
     refine .exit ?_
     refine hK8 _ _ (.region (.mv rfl ?_))
     refine .q rfl (.add rfl rfl rfl (by omega) (by omega)) ?_
     refine .mv rfl (.nil ?_)
     refine hKL1 ((x + 1, _, _)) _ _ ?_ ?_ ⟨rfl, rfl, rfl, trivial⟩
     ·
      refine ⟨lst1, by first | assumption | (rw [filtN_T (by assumption)]; assumption) | (rw [filtN_F (by assumption)]; assumption), by omega, by first | omega | (simp only [List.length_append, List.length_cons, List.length_nil] <;> omega) | (rw [filtN_T (by assumption)] <;> (first | omega | (simp only [List.length_append, List.length_cons, List.length_nil] <;> omega))) | (rw [filtN_F (by assumption)] <;> (first | omega | (simp only [List.length_append, List.length_cons, List.length_nil] <;> omega))), ?_⟩
      omega
     (dsimp only; omega)
    try simp only [sps] at h28
    refine .skip ?_
    refine hK13 _ _ (.region (.mv rfl ?_))
    refine .q rfl (.add rfl rfl rfl (by omega) (by omega)) ?_
    refine .mv rfl (.nil ?_)
    refine hKL2 (y + 1) _ _ ?_ ?_ ⟨rfl, rfl, rfl, rfl, trivial⟩
    ·
     refine ⟨lst2, ?_⟩
     refine ⟨by omega, fun z hz => ?_⟩
     by_cases e : z < y
     · exact hall z e
     · obtain rfl : z = y := by omega
       omega
    omega
   try simp only [sps] at h20
   refine .exit ?_
   refine hK9 _ _ (.region ?_)
   have hT : (allN c.obj.toNat fun y => decide ((c.hom (y : Int) (x : Int)).length = 1)) = true := allN_of fun z hz => decide_eq_true (hall z (by omega))
   refine .mv rfl (.mv rfl ?_)
   refine .R rfl (.litA rfl sl_24_A ze_2_L rfl rfl rfl rfl) ?_
   rintro _ H31 ⟨g31, rfl, le31, ge31, at31⟩
   replace hle := hle.trans le31
   replace lst1 := lst1.le le31
   replace at_L3 := le31.2 _ _ at_L3
   have lt_at31 := GHeap.ltg at31
   replace h := base_h.mono hle
   refine .R rfl (.appendI rfl sl_24_A ze_2_L rfl by_2_L sl_24_A rfl rfl (by assumption) (by assumption) (by first | omega | (simp <;> omega)) (by omega) (by omega)) ?_
   rintro _ H32 ⟨g32, rfl, st32, ge32, at32⟩
   replace hle := hle.st st32 (fun k hk => ⟨by omega, trivial⟩)
   replace lst1 := lst1.sA st32
   replace h := base_h.mono hle
   refine .mv rfl (.nil (hK8 _ _ (.region (.mv rfl ?_))))
   refine .q rfl (.add rfl rfl rfl (by omega) (by omega)) ?_
   refine .mv rfl (.nil ?_)
   refine hKL1 ((x + 1, _, _)) _ _ ?_ ?_ ⟨rfl, rfl, rfl, trivial⟩
   ·
    refine ⟨lst1, by first | assumption | (rw [filtN_T (by assumption)]; assumption) | (rw [filtN_F (by assumption)]; assumption), by omega, by first | omega | (simp only [List.length_append, List.length_cons, List.length_nil] <;> omega) | (rw [filtN_T (by assumption)] <;> (first | omega | (simp only [List.length_append, List.length_cons, List.length_nil] <;> omega))) | (rw [filtN_F (by assumption)] <;> (first | omega | (simp only [List.length_append, List.length_cons, List.length_nil] <;> omega))), ?_⟩
    omega
   (dsimp only; omega)
  try simp only [sps] at h12
  refine .exit ?_
  refine hK4 _ _ (.seq (fun K15 hK15 => .region (.mv rfl (.mv rfl (.nil (hK15 _ _ ?_))))))
  refine .ret ?_
  refine hret _ _ ?_
  refine ⟨_, rfl, ?_⟩
  obtain rfl : x = c.obj.toNat := by omega
  exact ⟨hle, gL3, by rw [ln_L3]; rfl, at_L3, by omega⟩
theorem l13Terminal_c {c : Cat} {p : CatP} {H : GHeap} (hin : c.In H p := by assumption) (hS : c.Shape := by assumption) :
    GCalls Try.prog 33 [.agg (c.cells p).toArray] H (NewInts 2 H c.term) := by
  have b5 := hS.obj
  refine GCalls.body (N := 35) (rs := [.tmp 2]) Try.func33 rfl rfl rfl rfl (fun Qx hret hend => ?_)
  refine .fg [0] rfl ?_
  have hle := GHeap.Le.refl H
  have base_hin := hin
  refine .seq (fun K1 hK1 => .region ?_)
  refine .R rfl (.boxR rfl sz_27_D rfl) ?_
  rintro _ H1 ⟨g1, rfl, le1, ge1, at1⟩
  replace hle := hle.trans le1
  have lt_at1 := GHeap.ltg at1
  replace hin := base_hin.mono hle
  have hb1 : Cat.At _ g1 0 c p := ⟨Mem.of_get at1, hin⟩
  refine .mv rfl (.nil (hK1 _ _ (.seq (fun K2 hK2 => .region ?_))))
  refine .R rfl (.litA rfl sl_24_A ze_2_L rfl rfl rfl rfl) ?_
  rintro _ H7 ⟨g7, rfl, le7, ge7, at7⟩
  replace hle := hle.trans le7
  replace at1 := le7.2 _ _ at1
  have lt_at7 := GHeap.ltg at7
  replace hin := base_hin.mono hle
  clear hb1
  have hb1 : Cat.At _ g1 0 c p := ⟨Mem.of_get at1, hin⟩
  replace at7 : GHeap.get H7 g7 = some (.row (ints []) 2 true) := at7
  refine .mv rfl (.nil (hK2 _ _ (.seq (fun K3 hK3 => .seq (fun K4 hK4 => .region (.mv rfl (.nil (hK4 _ _ ?_))))))))
  refine .block ?_
  refine .loopR (σ := Nat × Nat × Nat) [(1, some _)] (fun (x, gL3, nL3) => [(4, some (.int .i64 (x : Int))), (3, some (.slice (some ⟨gL3, 0, none⟩) nL3 nL3))]) (fun (x, gL3, nL3) H' => St [g7] H7 H' ∧ H'.get gL3 = some (.row (ints (filtN x (fun x => allN c.obj.toNat fun y => decide ((c.hom (y : Int) (x : Int)).length = 1)))) 2 true) ∧ (gL3 = g7 ∨ H7.next ≤ gL3) ∧ nL3 = (filtN x (fun x => allN c.obj.toNat fun y => decide ((c.hom (y : Int) (x : Int)).length = 1))).length ∧ x ≤ c.obj.toNat) (fun (x, gL3, nL3) => c.obj.toNat - x) ((0, _, _)) ⟨rfl, trivial⟩ ⟨rfl, rfl, trivial⟩ ?_ ?_
  ·
   refine ⟨.refl _ _, by first | assumption | exact at7 | simpa using at7, .inl rfl, by first | rfl | assumption | simp | omega, ?_⟩
   omega
  rintro ⟨x, gL3, nL3⟩ HL1 ⟨lst1, at_L3, pl_L3, ln_L3, hI⟩ KL1 hKL1
  refine .forget (fr' := [(4, some (.int .i64 (x : Int))), (3, some (.slice (some ⟨gL3, 0, none⟩) nL3 nL3)), (1, some _)]) ⟨rfl, rfl, rfl, trivial⟩ ?_
  have ge_L3 : H.next ≤ gL3 := by omega
  have nx_HL1 := lst1.nx
  replace hle := hle.st lst1 (fun k hk => ⟨by omega, trivial⟩)
  replace at1 := lst1.s at1
  replace hin := base_hin.mono hle
  clear hb1
  have hb1 : Cat.At _ g1 0 c p := ⟨Mem.of_get at1, hin⟩
  obtain ⟨c01, -, -, -, -, -, -, -, -⟩ := hb1.get
  have hfl := filtN_le x (fun x => allN c.obj.toNat fun y => decide ((c.hom (y : Int) (x : Int)).length = 1))
  refine .seq (fun K5 hK5 => .seq (fun K6 hK6 => .region (.mv rfl (.q rfl (.fieldAddr fo_27_0_B rfl) ?_))))
  refine .q rfl (.load on_2_A rfl (by first | assumption | exact Mem.of_get at1 0 _ rfl)) ?_
  refine .q rfl (.cmp rfl rfl rfl) (.nil (hK6 _ _ ?_))
  refine .cond rfl (fun h11 => ?_) (fun h11 => ?_)
  ·
   simp only [sps] at h11
   refine .skip ?_
   refine hK5 _ _ (.seq (fun K7 hK7 => ?_))
   refine .block ?_
   refine .seq (fun K8 hK8 => .region (.mv rfl (.nil (hK8 _ _ (.seq (fun K9 hK9 => .seq (fun K10 hK10 => .region (.mv rfl (.nil (hK10 _ _ ?_))))))))))
   refine .block ?_
   refine .loopR (σ := Nat × Bool) [(1, some _), (3, some _), (4, some _)] (fun (y, e) => [(6, some (.int .i64 (y : Int))), (5, some (.bool e))]) (fun (y, e) H' => St [] HL1 H' ∧ y ≤ c.obj.toNat ∧ e = allN y fun y => decide ((c.hom (y : Int) (x : Int)).length = 1)) (fun (y, e) => c.obj.toNat - y) ((0, true)) ⟨rfl, rfl, rfl, trivial⟩ ⟨rfl, rfl, trivial⟩ ?_ ?_
   ·
    refine ⟨.refl _ _, ?_⟩
    exact ⟨by omega, rfl⟩
   rintro ⟨y, e⟩ HL2 ⟨lst2, hI⟩ KL2 hKL2
   refine .forget (fr' := [(6, some (.int .i64 (y : Int))), (5, some (.bool e)), (1, some _), (3, some _), (4, some _)]) ⟨rfl, rfl, rfl, rfl, rfl, trivial⟩ ?_
   have nx_HL2 := lst2.nx
   replace hle := hle.st lst2 (fun k hk => trivial)
   replace lst1 := lst1.sA lst2
   replace at1 := lst2.same _ _ trivial at1
   replace at_L3 := lst2.same _ _ trivial at_L3
   replace hin := base_hin.mono hle
   clear hb1 c01
   have hb1 : Cat.At _ g1 0 c p := ⟨Mem.of_get at1, hin⟩
   obtain ⟨c01, -, -, -, -, -, -, -, -⟩ := hb1.get
   have hi1 := hb1.2
   obtain ⟨hy, he⟩ := hI
   refine .seq (fun K11 hK11 => .seq (fun K12 hK12 => .region (.mv rfl (.mv rfl ?_))))
   refine .split (fun h15 => ?_) (fun h15 => ?_)
   ·
    try simp only [sps] at h15
    refine .qg rfl (.move rfl) (.qg rfl (.fieldAddr fo_27_0_B rfl) ?_)
    refine .qg rfl (.load on_2_A rfl (by first | assumption | exact Mem.of_get at1 0 _ rfl)) ?_
    refine .qg rfl (.cmp rfl rfl rfl) (.q rfl (.pickT rfl rfl) (.nil (hK12 _ _ ?_)))
    refine .cond rfl (fun h20 => ?_) (fun h20 => ?_)
    ·
     simp only [sps] at h20
     refine .skip ?_
     refine hK11 _ _ (.seq (fun K13 hK13 => ?_))
     refine .block ?_
     refine .region ?_
     refine .q rfl (.loadM ag_27_D rfl ⟨rfl, Mem.of_get at1⟩) ?_
     refine .mv rfl (.mv rfl ?_)
     refine .call rfl rfl rfl rfl @Try.call62 rfl (l02Hom_c) ?_
     rintro _ H26 ⟨le26, g26, rfl, at26, ge26⟩
     replace hle := hle.trans le26
     replace lst2 := lst2.le le26
     replace at1 := le26.2 _ _ at1
     replace hin := base_hin.mono hle
     clear hb1 c01 hi1
     have hb1 : Cat.At _ g1 0 c p := ⟨Mem.of_get at1, hin⟩
     refine .q rfl (.len sl_24_A rfl) (.q rfl (.cmp rfl rfl rfl) (.mv rfl (.nil (hK13 _ _ (.region (.mv rfl ?_))))))
     refine .q rfl (.add rfl rfl rfl (by omega) (by omega)) ?_
     refine .mv rfl (.nil ?_)
     refine hKL2 ((y + 1, ((c.hom (y : Int) (x : Int)).length : Int) == 1)) _ _ ?_ ?_ ⟨rfl, rfl, rfl, rfl, rfl, trivial⟩
     ·
      refine ⟨lst2, ?_⟩
      refine ⟨by omega, ?_⟩
      rw [allN_succ, ← he, h15, Bool.true_and, Bool.eq_iff_iff]
      simp only [sps]
      omega
     (dsimp only; omega)
    try simp only [sps] at h20
    refine .exit ?_
    refine hK9 _ _ (.seq (fun K14 hK14 => .region (.mv rfl (.nil (hK14 _ _ ?_)))))
    refine .cond rfl (fun h29 => ?_) (fun h29 => ?_)
    ·
     have hT : (allN c.obj.toNat fun y => decide ((c.hom (y : Int) (x : Int)).length = 1)) = true := by
       obtain rfl : y = c.obj.toNat := by first | omega | (rw [h29] at h15; cases h15)
       rw [← he, h29]
     refine .region (.mv rfl (.mv rfl ?_))
     refine .R rfl (.litA rfl sl_24_A ze_2_L rfl rfl rfl rfl) ?_
     rintro _ H32 ⟨g32, rfl, le32, ge32, at32⟩
     replace hle := hle.trans le32
     replace lst1 := lst1.le le32
     replace at1 := le32.2 _ _ at1
     replace at_L3 := le32.2 _ _ at_L3
     have lt_at32 := GHeap.ltg at32
     replace hin := base_hin.mono hle
     have hb1 : Cat.At _ g1 0 c p := ⟨Mem.of_get at1, hin⟩
     refine .R rfl (.appendI rfl sl_24_A ze_2_L rfl by_2_L sl_24_A rfl rfl (by assumption) (by assumption) (by first | omega | (simp <;> omega)) (by omega) (by omega)) ?_
     rintro _ H33 ⟨g33, rfl, st33, ge33, at33⟩
     replace hle := hle.st st33 (fun k hk => ⟨by omega, trivial⟩)
     replace lst1 := lst1.sA st33
     have ne_g1_gL3 : NE g1 gL3 := .a
     replace at1 := st33.s at1 ne_g1_gL3.ne
     replace hin := base_hin.mono hle
     clear hb1
     have hb1 : Cat.At _ g1 0 c p := ⟨Mem.of_get at1, hin⟩
     refine .mv rfl (.nil (hK7 _ _ (.region (.mv rfl ?_))))
     refine .q rfl (.add rfl rfl rfl (by omega) (by omega)) ?_
     refine .mv rfl (.nil ?_)
     refine hKL1 ((x + 1, _, _)) _ _ ?_ ?_ ⟨rfl, rfl, rfl, trivial⟩
     ·
      refine ⟨lst1, by first | assumption | (rw [filtN_T (by assumption)]; assumption) | (rw [filtN_F (by assumption)]; assumption), by omega, by first | omega | (simp only [List.length_append, List.length_cons, List.length_nil] <;> omega) | (rw [filtN_T (by assumption)] <;> (first | omega | (simp only [List.length_append, List.length_cons, List.length_nil] <;> omega))) | (rw [filtN_F (by assumption)] <;> (first | omega | (simp only [List.length_append, List.length_cons, List.length_nil] <;> omega))), ?_⟩
      omega
     (dsimp only; omega)
    have hF : (allN c.obj.toNat fun y => decide ((c.hom (y : Int) (x : Int)).length = 1)) = false := allN_early (he.symm.trans h29) hy
    refine .skip ?_
    refine hK7 _ _ (.region (.mv rfl ?_))
    refine .q rfl (.add rfl rfl rfl (by omega) (by omega)) ?_
    refine .mv rfl (.nil ?_)
    refine hKL1 ((x + 1, _, _)) _ _ ?_ ?_ ⟨rfl, rfl, rfl, trivial⟩
    ·
     refine ⟨lst1, by first | assumption | (rw [filtN_T (by assumption)]; assumption) | (rw [filtN_F (by assumption)]; assumption), by omega, by first | omega | (simp only [List.length_append, List.length_cons, List.length_nil] <;> omega) | (rw [filtN_T (by assumption)] <;> (first | omega | (simp only [List.length_append, List.length_cons, List.length_nil] <;> omega))) | (rw [filtN_F (by assumption)] <;> (first | omega | (simp only [List.length_append, List.length_cons, List.length_nil] <;> omega))), ?_⟩
     omega
    (dsimp only; omega)
   try simp only [sps] at h15
   refine .z rfl (.z rfl (.z rfl (.z rfl (.q rfl (.pickF rfl rfl) (.nil (hK12 _ _ ?_))))))
   refine .condF rfl ?_
   refine .exit ?_
   refine hK9 _ _ (.seq (fun K15 hK15 => .region (.mv rfl (.nil (hK15 _ _ ?_)))))
   refine .cond rfl (fun h29 => ?_) (fun h29 => ?_)
   ·
    have hT : (allN c.obj.toNat fun y => decide ((c.hom (y : Int) (x : Int)).length = 1)) = true := by
      obtain rfl : y = c.obj.toNat := by first | omega | (rw [h29] at h15; cases h15)
      rw [← he, h29]
    refine .region (.mv rfl (.mv rfl ?_))
    refine .R rfl (.litA rfl sl_24_A ze_2_L rfl rfl rfl rfl) ?_
    rintro _ H32x2 ⟨g32x2, rfl, le32x2, ge32x2, at32x2⟩
    replace hle := hle.trans le32x2
    replace lst1 := lst1.le le32x2
    replace at1 := le32x2.2 _ _ at1
    replace at_L3 := le32x2.2 _ _ at_L3
    have lt_at32x2 := GHeap.ltg at32x2
    replace hin := base_hin.mono hle
    have hb1 : Cat.At _ g1 0 c p := ⟨Mem.of_get at1, hin⟩
    refine .R rfl (.appendI rfl sl_24_A ze_2_L rfl by_2_L sl_24_A rfl rfl (by assumption) (by assumption) (by first | omega | (simp <;> omega)) (by omega) (by omega)) ?_
    rintro _ H33x2 ⟨g33x2, rfl, st33x2, ge33x2, at33x2⟩
    replace hle := hle.st st33x2 (fun k hk => ⟨by omega, trivial⟩)
    replace lst1 := lst1.sA st33x2
    have ne_g1_gL3 : NE g1 gL3 := .a
    replace at1 := st33x2.s at1 ne_g1_gL3.ne
    replace hin := base_hin.mono hle
    clear hb1
    have hb1 : Cat.At _ g1 0 c p := ⟨Mem.of_get at1, hin⟩
    refine .mv rfl (.nil (hK7 _ _ (.region (.mv rfl ?_))))
    refine .q rfl (.add rfl rfl rfl (by omega) (by omega)) ?_
    refine .mv rfl (.nil ?_)
    refine hKL1 ((x + 1, _, _)) _ _ ?_ ?_ ⟨rfl, rfl, rfl, trivial⟩
    ·
     refine ⟨lst1, by first | assumption | (rw [filtN_T (by assumption)]; assumption) | (rw [filtN_F (by assumption)]; assumption), by omega, by first | omega | (simp only [List.length_append, List.length_cons, List.length_nil] <;> omega) | (rw [filtN_T (by assumption)] <;> (first | omega | (simp only [List.length_append, List.length_cons, List.length_nil] <;> omega))) | (rw [filtN_F (by assumption)] <;> (first | omega | (simp only [List.length_append, List.length_cons, List.length_nil] <;> omega))), ?_⟩
     omega
    (dsimp only; omega)
   have hF : (allN c.obj.toNat fun y => decide ((c.hom (y : Int) (x : Int)).length = 1)) = false := allN_early (he.symm.trans h29) hy
   refine .skip ?_
   refine hK7 _ _ (.region (.mv rfl ?_))
   refine .q rfl (.add rfl rfl rfl (by omega) (by omega)) ?_
   refine .mv rfl (.nil ?_)
   refine hKL1 ((x + 1, _, _)) _ _ ?_ ?_ ⟨rfl, rfl, rfl, trivial⟩
   ·
    refine ⟨lst1, by first | assumption | (rw [filtN_T (by assumption)]; assumption) | (rw [filtN_F (by assumption)]; assumption), by omega, by first | omega | (simp only [List.length_append, List.length_cons, List.length_nil] <;> omega) | (rw [filtN_T (by assumption)] <;> (first | omega | (simp only [List.length_append, List.length_cons, List.length_nil] <;> omega))) | (rw [filtN_F (by assumption)] <;> (first | omega | (simp only [List.length_append, List.length_cons, List.length_nil] <;> omega))), ?_⟩
    omega
   (dsimp only; omega)
  try simp only [sps] at h11
  refine .exit ?_
  refine hK3 _ _ (.seq (fun K16 hK16 => .region (.mv rfl (.mv rfl (.nil (hK16 _ _ ?_))))))
  refine .ret ?_
  refine hret _ _ ?_
  refine ⟨_, rfl, ?_⟩
  obtain rfl : x = c.obj.toNat := by omega
  exact ⟨hle, gL3, by rw [ln_L3]; rfl, at_L3, by omega⟩
theorem terminalObjects_c {c : Cat} {p : CatP} {H : GHeap} (hin : c.In H p := by assumption) (hs : c.Small := by assumption) :
    GCalls Try.prog 8 [.agg (c.cells p).toArray] H (NewLC (c.code []) (codeL (c.code []) c.term) H) := by
  refine GCalls.body (N := 7) (rs := [.tmp 2, .tmp 3]) Try.func8 rfl rfl rfl rfl (fun Qx hret hend => ?_)
  refine .fg [0] rfl ?_
  have hle := GHeap.Le.refl H
  have base_hin := hin
  refine .seq (fun K1 hK1 => .region ?_)
  refine .R rfl (.boxR rfl sz_27_D rfl) ?_
  rintro _ H1 ⟨g1, rfl, le1, ge1, at1⟩
  replace hle := hle.trans le1
  have lt_at1 := GHeap.ltg at1
  replace hin := base_hin.mono hle
  have hb1 : Cat.At _ g1 0 c p := ⟨Mem.of_get at1, hin⟩
  refine .mv rfl (.mv rfl (.nil (hK1 _ _ (.seq (fun K2 hK2 => .seq (fun K3 hK3 => .region ?_))))))
  refine .callQ rfl rfl rfl rfl @Try.call30 rfl (isCategory_c) ?_
  refine .q rfl (.not rfl) (.nil (hK3 _ _ ?_))
  refine .cond rfl (fun h5 => ?_) (fun h5 => ?_)
  ·
   try simp only [sps] at h5
   refine .seq (fun K4 hK4 => .region (.mv rfl (.mv rfl (.nil (hK4 _ _ ?_)))))
   refine .ret ?_
   refine hret _ _ ?_
   refine ⟨_, _, rfl, rfl, ?_⟩
   rw [codeL_err (by rw [Cat.code_nil1 h5]; decide), Cat.code_nil1 h5]; exact ⟨hle, none, rfl, .inl ⟨rfl, rfl⟩⟩
  simp only [sps] at h5
  have hS := h5.1
  refine .skip ?_
  refine hK2 _ _ (.seq (fun K5 hK5 => .region ?_))
  refine .call rfl rfl rfl rfl @Try.call31 rfl (terminal_c) ?_
  rintro _ H6 ⟨le6, g6, rfl, at6, ge6⟩
  replace hle := hle.trans le6
  replace at1 := le6.2 _ _ at1
  replace hin := base_hin.mono hle
  clear hb1
  have hb1 : Cat.At _ g1 0 c p := ⟨Mem.of_get at1, hin⟩
  refine .mv rfl (.mv rfl (.nil (hK5 _ _ ?_)))
  refine .ret ?_
  refine hret _ _ ?_
  refine ⟨_, _, rfl, rfl, ?_⟩
  rw [codeL_ok (Cat.code_nil.2 h5), Cat.code_nil.2 h5]; exact ⟨hle, _, rfl, .of_at at6 (by omega)⟩
theorem specTerminalObjects_c {c : Cat} {p : CatP} {H : GHeap} (hin : c.In H p := by assumption) (hs : c.Small := by assumption) :
    GCalls Try.prog 9 [.agg (c.cells p).toArray] H (NewLC (c.code []) (codeL (c.code []) c.term) H) := by
  refine GCalls.body (N := 9) (rs := [.tmp 2, .tmp 3]) Try.func9 rfl rfl rfl rfl (fun Qx hret hend => ?_)
  refine .fg [0] rfl ?_
  have hle := GHeap.Le.refl H
  have base_hin := hin
  refine .seq (fun K1 hK1 => .region ?_)
  refine .R rfl (.boxR rfl sz_27_D rfl) ?_
  rintro _ H1 ⟨g1, rfl, le1, ge1, at1⟩
  replace hle := hle.trans le1
  have lt_at1 := GHeap.ltg at1
  replace hin := base_hin.mono hle
  have hb1 : Cat.At _ g1 0 c p := ⟨Mem.of_get at1, hin⟩
  have hi1 := hb1.2
  refine .mv rfl (.mv rfl (.nil (hK1 _ _ (.seq (fun K2 hK2 => .seq (fun K3 hK3 => .region ?_))))))
  refine .q rfl (.loadM ag_27_D rfl ⟨rfl, Mem.of_get at1⟩) ?_
  refine .callQ rfl rfl rfl rfl @Try.call32 rfl (l02Is_c) ?_
  refine .q rfl (.not rfl) (.nil (hK3 _ _ ?_))
  refine .cond rfl (fun h6 => ?_) (fun h6 => ?_)
  ·
   try simp only [sps] at h6
   refine .seq (fun K4 hK4 => .region (.mv rfl (.mv rfl (.nil (hK4 _ _ ?_)))))
   refine .ret ?_
   refine hret _ _ ?_
   refine ⟨_, _, rfl, rfl, ?_⟩
   rw [codeL_err (by rw [Cat.code_nil1 h6]; decide), Cat.code_nil1 h6]; exact ⟨hle, none, rfl, .inl ⟨rfl, rfl⟩⟩
  simp only [sps] at h6
  have hS := h6.1
  refine .skip ?_
  refine hK2 _ _ (.seq (fun K5 hK5 => .region ?_))
  refine .q rfl (.loadM ag_27_D rfl ⟨rfl, Mem.of_get at1⟩) ?_
  refine .call rfl rfl rfl rfl @Try.call33 rfl (l13Terminal_c) ?_
  rintro _ H8 ⟨le8, g8, rfl, at8, ge8⟩
  replace hle := hle.trans le8
  replace at1 := le8.2 _ _ at1
  replace hin := base_hin.mono hle
  clear hb1 hi1
  have hb1 : Cat.At _ g1 0 c p := ⟨Mem.of_get at1, hin⟩
  refine .mv rfl (.mv rfl (.nil (hK5 _ _ ?_)))
  refine .ret ?_
  refine hret _ _ ?_
  refine ⟨_, _, rfl, rfl, ?_⟩
  rw [codeL_ok (Cat.code_nil.2 h6), Cat.code_nil.2 h6]; exact ⟨hle, _, rfl, .of_at at8 (by omega)⟩
theorem initialObjects_c {c : Cat} {p : CatP} {H : GHeap} (hin : c.In H p := by assumption) (hs : c.Small := by assumption) :
    GCalls Try.prog 15 [.agg (c.cells p).toArray] H (NewLC (c.code []) (codeL (c.code []) c.op.term) H) := by
  refine GCalls.body (N := 9) (rs := [.tmp 2, .tmp 3]) Try.func15 rfl rfl rfl rfl (fun Qx hret hend => ?_)
  refine .fg [0] rfl ?_
  have hle := GHeap.Le.refl H
  have base_hin := hin
  refine .seq (fun K1 hK1 => .region ?_)
  refine .R rfl (.boxR rfl sz_27_D rfl) ?_
  rintro _ H1 ⟨g1, rfl, le1, ge1, at1⟩
  replace hle := hle.trans le1
  have lt_at1 := GHeap.ltg at1
  replace hin := base_hin.mono hle
  have hb1 : Cat.At _ g1 0 c p := ⟨Mem.of_get at1, hin⟩
  refine .mv rfl (.mv rfl (.nil (hK1 _ _ (.seq (fun K2 hK2 => .seq (fun K3 hK3 => .region ?_))))))
  refine .callQ rfl rfl rfl rfl @Try.call30 rfl (isCategory_c) ?_
  refine .q rfl (.not rfl) (.nil (hK3 _ _ ?_))
  refine .cond rfl (fun h6 => ?_) (fun h6 => ?_)
  ·
   try simp only [sps] at h6
   refine .seq (fun K4 hK4 => .region (.mv rfl (.mv rfl (.nil (hK4 _ _ ?_)))))
   refine .ret ?_
   refine hret _ _ ?_
   refine ⟨_, _, rfl, rfl, ?_⟩
   rw [codeL_err (by rw [Cat.code_nil1 h6]; decide), Cat.code_nil1 h6]; exact ⟨hle, none, rfl, .inl ⟨rfl, rfl⟩⟩
  simp only [sps] at h6
  have hS := h6.1
  have hSo := h6.1.op
  refine .skip ?_
  refine hK2 _ _ (.seq (fun K5 hK5 => .region ?_))
  refine .call rfl rfl rfl rfl @Try.call40 rfl (opposite_c) ?_
  rintro _ H7 ⟨le7, p7, rfl, v7⟩
  have nx_H7 := le7.1
  replace hle := hle.trans le7
  replace at1 := le7.2 _ _ at1
  have bs_v7 := v7
  have lv_v7 : Keep H1.next H7 H7 := fun _ _ _ h => h
  replace hin := base_hin.mono hle
  clear hb1
  have hb1 : Cat.At _ g1 0 c p := ⟨Mem.of_get at1, hin⟩
  refine .R rfl (.allocR rfl ze_27_Hj rfl) ?_
  rintro _ H4 ⟨g4, rfl, le4, ge4, at4⟩
  replace hle := hle.trans le4
  replace at1 := le4.2 _ _ at1
  replace lv_v7 := Keep.le lv_v7 le4
  replace hin := base_hin.mono hle
  clear hb1
  have hb1 : Cat.At _ g1 0 c p := ⟨Mem.of_get at1, hin⟩
  refine .r0 rfl rfl (.fillA rfl sz_27_D rfl rfl rfl rfl) ?_
  rintro _ H3002 ⟨rfl, st3002, at3002⟩
  replace hle := hle.st st3002 (fun k hk => ⟨by omega, trivial⟩)
  replace at1 := st3002.s at1
  replace lv_v7 := Keep.st lv_v7 st3002 (fun k hb hk => ⟨by omega, trivial⟩)
  replace v7 := bs_v7.keep lv_v7 (Nat.le_refl _)
  have lt_at3002 := GHeap.ltg at3002
  replace hin := base_hin.mono hle
  clear hb1
  have hb1 : Cat.At _ g1 0 c p := ⟨Mem.of_get at1, hin⟩
  refine .nil (hK5 _ _ (.seq (fun K6 hK6 => .region ?_)))
  refine .call rfl rfl rfl rfl @Try.call31 rfl (terminal_c (c := c.op) (hS := hSo) (h := ⟨Mem.of_get at3002, v7.inn⟩)) ?_
  rintro _ H8 ⟨le8, g8, rfl, at8, ge8⟩
  replace hle := hle.trans le8
  replace at1 := le8.2 _ _ at1
  replace hin := base_hin.mono hle
  clear hb1
  have hb1 : Cat.At _ g1 0 c p := ⟨Mem.of_get at1, hin⟩
  refine .mv rfl (.mv rfl (.nil (hK6 _ _ ?_)))
  refine .ret ?_
  refine hret _ _ ?_
  refine ⟨_, _, rfl, rfl, ?_⟩
  rw [codeL_ok (Cat.code_nil.2 h6), Cat.code_nil.2 h6]; exact ⟨hle, _, rfl, .of_at at8 (by omega)⟩
end Go.Proofs.Ytppinbcdndmoaaa
namespace Go.GL
abbrev hd (l : List Int) : Int := l.getD 0 0
structure EqvOn (P : Int → Prop) (E : Int → Int → Bool) : Prop where
  refl : ∀ x, P x → E x x = true
  symm : ∀ x y, E x y = true → E y x = true
  trans : ∀ x y z, P x → P y → P z → E x y = true → E y z = true → E x z = true
structure ClsOk (P : Int → Prop) (E : Int → Int → Bool) (T : List (List Int)) : Prop where
  ne : ∀ i, i < T.length → 0 < (T.getD i []).length
  mem : ∀ i, i < T.length → ∀ x ∈ T.getD i [], P x ∧ E x (hd (T.getD i [])) = true
  ap : ∀ i j, i < T.length → j < T.length → i ≠ j → E (hd (T.getD i [])) (hd (T.getD j [])) = false
structure Cat.ToX (c : Cat) (x m : Int) : Prop where
  ge : 0 ≤ m
  lt : m < c.src.length
  tg : c.T m = x
  mono : c.Mono m
noncomputable def Cat.codeO (c : Cat) (xs : List Int) : Int := if B c.Is = true then (if allIn xs c.obj = true then 0 else 2) else 1
theorem Cat.codeO_ok {c : Cat} {xs : List Int} : c.codeO xs = 0 ↔ c.Is ∧ allIn xs c.obj = true := by
  unfold Cat.codeO
  by_cases h : c.Is
  · rw [if_pos (B_iff.2 h)]
    split
    · exact ⟨fun _ => ⟨h, by assumption⟩, fun _ => rfl⟩
    · exact ⟨fun e => by omega, fun e => absurd e.2 (by assumption)⟩
  · rw [if_neg (fun e => h (B_iff.1 e))]
    exact ⟨fun e => by omega, fun e => absurd e.1 h⟩
theorem Cat.codeO_not {c : Cat} {xs : List Int} (h : ¬ c.Is) : c.codeO xs = 1 := by
  unfold Cat.codeO
  rw [if_neg (fun e => h (B_iff.1 e))]
theorem Cat.codeO_out {c : Cat} {xs : List Int} (h : c.Is) (h' : ¬ allIn xs c.obj = true) : c.codeO xs = 2 := by
  unfold Cat.codeO
  rw [if_pos (B_iff.2 h), if_neg h']
end Go.GL
namespace Go.Proofs.Ytppinbcdndmoaaa
open Go Go.GL Go.RowKit Go.Proofs
theorem objectCode_c {g o : Nat} {c : Cat} {p : CatP} {a : Option Addr} {xs : List Int} {H : GHeap} (h : Cat.At H g o c p := by assumption) (hs : c.Small := by assumption) (hx : Ints H a xs := by assumption) (hl : xs.length ≤ 1048576 := by omega) :
    GCalls Try.prog 36 [.pointer (some ⟨g, o, none⟩), .slice a xs.length xs.length] H (Ret (.int .i64 (c.codeO xs)) H) := by
  refine GCalls.ret rfl ?_
  obtain ⟨-, -, -, -, -, n6⟩ := id hs
  refine GCalls.body (N := 15) (rs := [.tmp 4]) Try.func36 rfl rfl rfl rfl (fun Qx hret hend => ?_)
  refine .fg [0, 1] rfl ?_
  have hle := GHeap.Le.refl H
  have base_h := h
  obtain ⟨c0, -, -, -, -, -, -, -, -⟩ := h.get
  refine .seq (fun K1 hK1 => .region (.mv rfl (.nil (hK1 _ _ (.seq (fun K2 hK2 => .seq (fun K3 hK3 => .region (.mv rfl ?_))))))))
  refine .callQ rfl rfl rfl rfl @Try.call30 rfl (isCategory_c) ?_
  refine .q rfl (.not rfl) (.nil (hK3 _ _ ?_))
  refine .cond rfl (fun h7 => ?_) (fun h7 => ?_)
  ·
   try simp only [sps] at h7
   refine .seq (fun K4 hK4 => .region (.mv rfl (.nil (hK4 _ _ ?_))))
   refine .ret ?_
   refine hret _ _ ?_
   refine ⟨_, rfl, ?_⟩
   exact ⟨congrArg _ (Cat.codeO_not h7), hle⟩
  simp only [sps] at h7
  have hob := h7.1.obj
  refine .skip ?_
  refine hK2 _ _ (.seq (fun K5 hK5 => .seq (fun K6 hK6 => .region (.mv rfl (.mv rfl (.q rfl (.nilCheck rfl) (.q rfl (.fieldAddr fo_27_0_B rfl) ?_)))))))
  refine .q rfl (.load on_2_A rfl (by assumption)) ?_
  refine .callQ rfl rfl rfl rfl @Try.call67 rfl (within_c) ?_
  refine .q rfl (.not rfl) (.nil (hK6 _ _ ?_))
  refine .cond rfl (fun h14 => ?_) (fun h14 => ?_)
  ·
   try simp only [sps] at h14
   refine .seq (fun K7 hK7 => .region (.mv rfl (.nil (hK7 _ _ ?_))))
   refine .ret ?_
   refine hret _ _ ?_
   refine ⟨_, rfl, ?_⟩
   exact ⟨congrArg _ (Cat.codeO_out h7 (by rw [h14]; simp)), hle⟩
  try simp only [sps] at h14
  refine .skip ?_
  refine hK5 _ _ (.seq (fun K8 hK8 => .region (.mv rfl (.nil (hK8 _ _ ?_)))))
  refine .ret ?_
  refine hret _ _ ?_
  refine ⟨_, rfl, ?_⟩
  exact ⟨congrArg _ (Cat.codeO_ok.2 ⟨h7, allIn_iff.2 h14⟩), hle⟩
end Go.Proofs.Ytppinbcdndmoaaa
namespace Go.GL
def Cat.pw (c : Cat) (f : Int) : Nat → Int
  | 0 => f
  | k + 1 => c.th (c.pw f k) f
structure Cat.Cyc (c : Cat) (f : Int) (k a : Nat) : Prop where
  lt : a < k
  eq : c.pw f k = c.pw f a
  ne : ∀ i j, i < j → j < k → c.pw f i ≠ c.pw f j
inductive Cat.Pw (c : Cat) (f i p e : Int) : Prop
  | err (h : c.code [f] ≠ 0) (hi : i = 0) (hp : p = 0) (he : e = c.code [f])
  | ends (h : c.code [f] = 0) (hn : ¬ c.S f = c.T f) (hi : i = 0) (hp : p = 0) (he : e = 5)
  | yes (h : c.code [f] = 0) (hn : c.S f = c.T f) (k a : Nat) (hc : c.Cyc f k a) (hi : i = (a : Int) + 1) (hp : p = (k : Int) - a) (he : e = 0)
end Go.GL
namespace Go.GL
noncomputable def Cat.isoB (c : Cat) (f : Int) : Bool := decide (c.code [f] = 0) && decide (0 ≤ c.inv f)
end Go.GL
namespace Go.Proofs.Ytppinbcdndmoaaa
open Go Go.GL Go.RowKit Go.Proofs
theorem isIso_c {c : Cat} {p : CatP} {f : Int} {H : GHeap} (hin : c.In H p := by assumption) (hs : c.Small := by assumption) :
    GCalls Try.prog 13 [.agg (c.cells p).toArray, .int .i64 f] H (Ret (.tuple #[.bool (c.isoB f), .int .i64 (c.code [f])]) H) := by
  refine GCalls.ret rfl ?_
  refine GCalls.body (N := 16) (rs := [.tmp 4, .tmp 5]) Try.func13 rfl rfl rfl rfl (fun Qx hret hend => ?_)
  refine .fg [0, 1] rfl ?_
  have hle := GHeap.Le.refl H
  have base_hin := hin
  refine .seq (fun K1 hK1 => .region ?_)
  refine .R rfl (.boxR rfl sz_27_D rfl) ?_
  rintro _ H2 ⟨g2, rfl, le2, ge2, at2⟩
  replace hle := hle.trans le2
  replace hin := base_hin.mono hle
  have hb2 : Cat.At _ g2 0 c p := ⟨Mem.of_get at2, hin⟩
  refine .mv rfl (.mv rfl (.nil (hK1 _ _ (.seq (fun K2 hK2 => .seq (fun K3 hK3 => .region (.mv rfl ?_)))))))
  refine .R rfl (.litA rfl sl_24_A ze_2_L rfl rfl rfl rfl) ?_
  rintro _ H8 ⟨g8, rfl, le8, ge8, at8⟩
  replace hle := hle.trans le8
  replace at2 := le8.2 _ _ at2
  replace hin := base_hin.mono hle
  clear hb2
  have hb2 : Cat.At _ g2 0 c p := ⟨Mem.of_get at2, hin⟩
  refine .callQ rfl rfl rfl rfl @Try.call38 rfl (arrowCode_c (xs := [f]) (hx := Ints.of_get (by assumption)) (hl := by simp)) ?_
  refine .mv rfl (.nil (hK3 _ _ (.seq (fun K4 hK4 => .region (.mv rfl (.q rfl (.cmp rfl rfl rfl) (.nil (hK4 _ _ ?_))))))))
  refine .cond rfl (fun h11 => ?_) (fun h11 => ?_)
  ·
   try simp only [sps] at h11
   refine .seq (fun K5 hK5 => .region (.mv rfl (.mv rfl (.mv rfl (.nil (hK5 _ _ ?_))))))
   refine .ret ?_
   refine hret _ _ ?_
   refine ⟨_, _, rfl, rfl, ?_⟩
   unfold Cat.isoB; rw [decide_eq_false h11]; exact ⟨rfl, hle⟩
  simp only [sps] at h11
  obtain ⟨hI, f0, f1⟩ := Cat.code_one.1 h11
  have hS := hI.1
  refine .skip ?_
  refine hK2 _ _ (.seq (fun K6 hK6 => .region (.mv rfl ?_)))
  refine .callQ rfl rfl rfl rfl @Try.call39 rfl (inverse_c) ?_
  refine .q rfl (.cmp rfl rfl rfl) (.mv rfl (.mv rfl (.nil (hK6 _ _ ?_))))
  refine .ret ?_
  refine hret _ _ ?_
  refine ⟨_, _, rfl, rfl, ?_⟩
  unfold Cat.isoB; rw [decide_eq_true h11, Bool.true_and, h11]; exact ⟨rfl, hle⟩
end Go.Proofs.Ytppinbcdndmoaaa
namespace Go.Proofs.Ytppinbcdndmoaaa
open Go Go.GL Go.RowKit Go.Proofs
set_option maxHeartbeats 8000000 in
theorem l12Target_c {gS : Nat} {H : GHeap} (hs : DSrc 85 H gS := by assumption) :
    GCalls Try.prog 54 [.pointer (some ⟨gS, 0, none⟩)] H (DrawnCat 85 33000 gS H) := by
  have hlS := hs.lt
  refine GCalls.body (N := 25) (rs := [.cell 2 27]) Try.func54 rfl rfl rfl rfl (fun Qx hret hend => ?_)
  refine .fg [0] rfl ?_
  have hst := St.refl [gS] H
  refine .seq (fun K1 hK1 => .region ?_)
  refine .R rfl (.allocR rfl ze_27_Hj rfl) ?_
  rintro _ H2 ⟨g2, rfl, le2, ge2, at2⟩
  have nx_H2 := le2.1
  replace hst := hst.le le2
  have lt_at2 := GHeap.ltg at2
  refine .nil (hK1 _ _ (.seq (fun K2 hK2 => .seq (fun K3 hK3 => .region (.mv rfl ?_)))))
  refine .call rfl rfl rfl rfl @Try.call55 rfl (l01Next_c (hs.le le2)) ?_
  rintro _ H4 ⟨k4, rfl, ka4, kb4, kc4, st4, hs⟩
  have nx_H4 := st4.nx
  replace hst := hst.sA st4
  have ne_g2_gS : NE g2 gS := .a
  replace at2 := st4.s at2 ne_g2_gS.ne
  refine .nil (hK3 _ _ ?_)
  refine .block ?_
  refine .seq (fun K4 hK4 => .region (.q rfl (.cmp rfl rfl rfl) (.mv rfl (.nil (hK4 _ _ ?_)))))
  refine .cond rfl (fun h5 => ?_) (fun h5 => ?_)
  ·
   try simp only [sps] at h5
   refine .seq (fun K5 hK5 => .region ?_)
   refine .R rfl (.litA rfl sl_24_A ze_2_L rfl rfl rfl rfl) ?_
   rintro _ H7 ⟨g7, rfl, le7, ge7, at7⟩
   have nx_H7 := le7.1
   replace hst := hst.le le7
   replace hs := hs.le le7
   replace at2 := le7.2 _ _ at2
   have lt_at7 := GHeap.ltg at7
   refine .R rfl (.litA rfl sl_24_A ze_2_L rfl rfl rfl rfl) ?_
   rintro _ H8 ⟨g8, rfl, le8, ge8, at8⟩
   have nx_H8 := le8.1
   replace hst := hst.le le8
   replace hs := hs.le le8
   replace at2 := le8.2 _ _ at2
   replace at7 := le8.2 _ _ at7
   have lt_at8 := GHeap.ltg at8
   refine .R rfl (.litA rfl sl_24_A ze_2_L rfl rfl rfl rfl) ?_
   rintro _ H9 ⟨g9, rfl, le9, ge9, at9⟩
   have nx_H9 := le9.1
   replace hst := hst.le le9
   replace hs := hs.le le9
   replace at2 := le9.2 _ _ at2
   replace at7 := le9.2 _ _ at7
   replace at8 := le9.2 _ _ at8
   have lt_at9 := GHeap.ltg at9
   refine .R rfl (.litA rfl sl_24_A ze_2_L rfl rfl rfl rfl) ?_
   rintro _ H10 ⟨g10, rfl, le10, ge10, at10⟩
   have nx_H10 := le10.1
   replace hst := hst.le le10
   replace hs := hs.le le10
   replace at2 := le10.2 _ _ at2
   replace at7 := le10.2 _ _ at7
   replace at8 := le10.2 _ _ at8
   replace at9 := le10.2 _ _ at9
   have lt_at10 := GHeap.ltg at10
   refine .R rfl (.litA rfl sl_25_B ze_24_Hj rfl rfl rfl rfl) ?_
   rintro _ H11 ⟨g11, rfl, le11, ge11, at11⟩
   have nx_H11 := le11.1
   replace hst := hst.le le11
   replace hs := hs.le le11
   replace at2 := le11.2 _ _ at2
   replace at7 := le11.2 _ _ at7
   replace at8 := le11.2 _ _ at8
   replace at9 := le11.2 _ _ at9
   replace at10 := le11.2 _ _ at10
   have lt_at11 := GHeap.ltg at11
   refine .call rfl rfl rfl rfl @Try.call82 rfl ((by have hh := l03Poset_c (rel := [[1, 1, 1, 1], [0, 1, 0, 1], [0, 0, 1, 1], [0, 0, 0, 1]]) (hin := ((lit_own (gs := [g7, g8, g9, g10]) (by simp only [LitAt]; exact ⟨⟨Nat.zero_le _, at7⟩, ⟨Nat.zero_le _, at8⟩, ⟨Nat.zero_le _, at9⟩, ⟨Nat.zero_le _, at10⟩, trivial⟩) (by simp <;> omega)).done (by exact at11) (Nat.zero_le _)).intss) (hn := by decide) (hr := by decide); exact hh)) ?_
   rintro _ H12 ⟨c12, rc12, le12, ga12, gb12, gc12, gd12, rr12, rfl, o12⟩
   have v12 := o12.catR
   have nx_H12 := le12.1
   replace hst := hst.le le12
   replace hs := hs.le le12
   replace at2 := le12.2 _ _ at2
   replace at7 := le12.2 _ _ at7
   replace at8 := le12.2 _ _ at8
   replace at9 := le12.2 _ _ at9
   replace at10 := le12.2 _ _ at10
   replace at11 := le12.2 _ _ at11
   have bs_v12 := v12
   have lv_v12 : Keep H11.next H12 H12 := fun _ _ _ h => h
   have i12 := v12.inn
   refine .r0 rfl rfl (.fillA rfl sz_27_D rfl rfl rfl rfl) ?_
   rintro _ H3006 ⟨rfl, st3006, at3006⟩
   have nx_H3006 := st3006.nx
   replace hst := hst.sA st3006
   replace hs := hs.sA st3006
   replace at7 := st3006.s at7
   replace at8 := st3006.s at8
   replace at9 := st3006.s at9
   replace at10 := st3006.s at10
   replace at11 := st3006.s at11
   replace lv_v12 := Keep.st lv_v12 st3006 (fun k hb hk => ⟨(by omega), trivial⟩)
   replace v12 := bs_v12.keep lv_v12 (Nat.le_refl _)
   have lt_at3006 := GHeap.ltg at3006
   clear i12
   have i12 := v12.inn
   have mm3006 : MemN _ _ _ _ _ := ⟨rfl, Mem.of_get at3006⟩
   refine .nil (hK5 _ _ ?_)
   refine .ret ?_
   refine hret _ _ ?_
   refine ⟨_, _, _, _, rfl, ag_27_D, (by rfl), (Mem.of_get at3006), ?_⟩
   exact ⟨c12, _, rfl, rc12.mono (by decide), v12.keep (.of_le (.refl _)) (by omega), hst, hs⟩
  try simp only [sps] at h5
  refine .seq (fun K6 hK6 => .region (.q rfl (.cmp rfl rfl rfl) (.mv rfl (.nil (hK6 _ _ ?_)))))
  refine .cond rfl (fun h13 => ?_) (fun h13 => ?_)
  ·
   try simp only [sps] at h13
   refine .seq (fun K7 hK7 => .region ?_)
   refine .R rfl (.litA rfl sl_24_A ze_2_L rfl rfl rfl rfl) ?_
   rintro _ H15 ⟨g15, rfl, le15, ge15, at15⟩
   have nx_H15 := le15.1
   replace hst := hst.le le15
   replace hs := hs.le le15
   replace at2 := le15.2 _ _ at2
   have lt_at15 := GHeap.ltg at15
   refine .R rfl (.litA rfl sl_24_A ze_2_L rfl rfl rfl rfl) ?_
   rintro _ H16 ⟨g16, rfl, le16, ge16, at16⟩
   have nx_H16 := le16.1
   replace hst := hst.le le16
   replace hs := hs.le le16
   replace at2 := le16.2 _ _ at2
   replace at15 := le16.2 _ _ at15
   have lt_at16 := GHeap.ltg at16
   refine .R rfl (.litA rfl sl_24_A ze_2_L rfl rfl rfl rfl) ?_
   rintro _ H17 ⟨g17, rfl, le17, ge17, at17⟩
   have nx_H17 := le17.1
   replace hst := hst.le le17
   replace hs := hs.le le17
   replace at2 := le17.2 _ _ at2
   replace at15 := le17.2 _ _ at15
   replace at16 := le17.2 _ _ at16
   have lt_at17 := GHeap.ltg at17
   refine .R rfl (.litA rfl sl_25_B ze_24_Hj rfl rfl rfl rfl) ?_
   rintro _ H18 ⟨g18, rfl, le18, ge18, at18⟩
   have nx_H18 := le18.1
   replace hst := hst.le le18
   replace hs := hs.le le18
   replace at2 := le18.2 _ _ at2
   replace at15 := le18.2 _ _ at15
   replace at16 := le18.2 _ _ at16
   replace at17 := le18.2 _ _ at17
   have lt_at18 := GHeap.ltg at18
   refine .call rfl rfl rfl rfl @Try.call82 rfl ((by have hh := l03Poset_c (rel := [[1, 1, 1], [0, 1, 1], [0, 0, 1]]) (hin := ((lit_own (gs := [g15, g16, g17]) (by simp only [LitAt]; exact ⟨⟨Nat.zero_le _, at15⟩, ⟨Nat.zero_le _, at16⟩, ⟨Nat.zero_le _, at17⟩, trivial⟩) (by simp <;> omega)).done (by exact at18) (Nat.zero_le _)).intss) (hn := by decide) (hr := by decide); exact hh)) ?_
   rintro _ H19 ⟨c19, rc19, le19, ga19, gb19, gc19, gd19, rr19, rfl, o19⟩
   have v19 := o19.catR
   have nx_H19 := le19.1
   replace hst := hst.le le19
   replace hs := hs.le le19
   replace at2 := le19.2 _ _ at2
   replace at15 := le19.2 _ _ at15
   replace at16 := le19.2 _ _ at16
   replace at17 := le19.2 _ _ at17
   replace at18 := le19.2 _ _ at18
   have bs_v19 := v19
   have lv_v19 : Keep H18.next H19 H19 := fun _ _ _ h => h
   have i19 := v19.inn
   refine .r0 rfl rfl (.fillA rfl sz_27_D rfl rfl rfl rfl) ?_
   rintro _ H5005 ⟨rfl, st5005, at5005⟩
   have nx_H5005 := st5005.nx
   replace hst := hst.sA st5005
   replace hs := hs.sA st5005
   replace at15 := st5005.s at15
   replace at16 := st5005.s at16
   replace at17 := st5005.s at17
   replace at18 := st5005.s at18
   replace lv_v19 := Keep.st lv_v19 st5005 (fun k hb hk => ⟨(by omega), trivial⟩)
   replace v19 := bs_v19.keep lv_v19 (Nat.le_refl _)
   have lt_at5005 := GHeap.ltg at5005
   clear i19
   have i19 := v19.inn
   have mm5005 : MemN _ _ _ _ _ := ⟨rfl, Mem.of_get at5005⟩
   refine .nil (hK7 _ _ ?_)
   refine .ret ?_
   refine hret _ _ ?_
   refine ⟨_, _, _, _, rfl, ag_27_D, (by rfl), (Mem.of_get at5005), ?_⟩
   exact ⟨c19, _, rfl, rc19.mono (by decide), v19.keep (.of_le (.refl _)) (by omega), hst, hs⟩
  try simp only [sps] at h13
  refine .seq (fun K8 hK8 => .region (.q rfl (.cmp rfl rfl rfl) (.mv rfl (.nil (hK8 _ _ ?_)))))
  refine .cond rfl (fun h20 => ?_) (fun h20 => ?_)
  ·
   try simp only [sps] at h20
   refine .seq (fun K9 hK9 => .region ?_)
   refine .call rfl rfl rfl rfl @Try.call83 rfl (l02Split_c) ?_
   rintro _ H22 ⟨c22, rc22, le22, ga22, gb22, gc22, gd22, rr22, rfl, o22⟩
   have v22 := o22.catR
   have nx_H22 := le22.1
   replace hst := hst.le le22
   replace hs := hs.le le22
   replace at2 := le22.2 _ _ at2
   have bs_v22 := v22
   have lv_v22 : Keep H4.next H22 H22 := fun _ _ _ h => h
   have i22 := v22.inn
   refine .r0 rfl rfl (.fillA rfl sz_27_D rfl rfl rfl rfl) ?_
   rintro _ H7001 ⟨rfl, st7001, at7001⟩
   have nx_H7001 := st7001.nx
   replace hst := hst.sA st7001
   replace hs := hs.sA st7001
   replace lv_v22 := Keep.st lv_v22 st7001 (fun k hb hk => ⟨(by omega), trivial⟩)
   replace v22 := bs_v22.keep lv_v22 (Nat.le_refl _)
   have lt_at7001 := GHeap.ltg at7001
   clear i22
   have i22 := v22.inn
   have mm7001 : MemN _ _ _ _ _ := ⟨rfl, Mem.of_get at7001⟩
   refine .nil (hK9 _ _ ?_)
   refine .ret ?_
   refine hret _ _ ?_
   refine ⟨_, _, _, _, rfl, ag_27_D, (by rfl), (Mem.of_get at7001), ?_⟩
   exact ⟨c22, _, rfl, rc22.mono (by omega), v22.keep (.of_le (.refl _)) (by omega), hst, hs⟩
  try simp only [sps] at h20
  refine .skip ?_
  refine hK2 _ _ (.seq (fun K10 hK10 => .region (.mv rfl ?_)))
  refine .call rfl rfl rfl rfl @Try.call84 rfl (l02Some_c) ?_
  rintro _ H24 ⟨c24, p24, rfl, rc24, v24, st24, hs⟩
  have nx_H24 := st24.nx
  replace hst := hst.sA st24
  replace at2 := st24.s at2 ne_g2_gS.ne
  have bs_v24 := v24
  have lv_v24 : Keep H4.next H24 H24 := fun _ _ _ h => h
  refine .r0 rfl rfl (.fillA rfl sz_27_D rfl rfl rfl rfl) ?_
  rintro _ H8002 ⟨rfl, st8002, at8002⟩
  have nx_H8002 := st8002.nx
  replace hst := hst.sA st8002
  replace hs := hs.sA st8002
  replace lv_v24 := Keep.st lv_v24 st8002 (fun k hb hk => ⟨(by omega), trivial⟩)
  replace v24 := bs_v24.keep lv_v24 (Nat.le_refl _)
  have lt_at8002 := GHeap.ltg at8002
  have mm8002 : MemN _ _ _ _ _ := ⟨rfl, Mem.of_get at8002⟩
  refine .nil (hK10 _ _ ?_)
  refine .ret ?_
  refine hret _ _ ?_
  refine ⟨_, _, _, _, rfl, ag_27_D, (by rfl), (Mem.of_get at8002), ?_⟩
  exact ⟨c24, p24, rfl, rc24, v24.keep (.of_le (.refl _)) (by omega), hst, hs⟩
set_option maxHeartbeats 8000000 in
theorem l13Draw_c {gS : Nat} {H : GHeap} (hs : DSrc 85 H gS := by assumption) :
    GCalls Try.prog 28 [.pointer (some ⟨gS, 0, none⟩)] H (DrawnK 85 gS H) := by
  have hlS := hs.lt
  refine GCalls.body (N := 19) (rs := [.cell 2 27]) Try.func28 rfl rfl rfl rfl (fun Qx hret hend => ?_)
  refine .fg [0] rfl ?_
  have hst := St.refl [gS] H
  refine .seq (fun K1 hK1 => .region ?_)
  refine .R rfl (.allocR rfl ze_27_Hj rfl) ?_
  rintro _ H2 ⟨g2, rfl, le2, ge2, at2⟩
  have nx_H2 := le2.1
  replace hst := hst.le le2
  have lt_at2 := GHeap.ltg at2
  refine .nil (hK1 _ _ (.seq (fun K2 hK2 => .region ?_)))
  have hs := hs.le le2
  refine .mv rfl ?_
  refine .call rfl rfl rfl rfl @Try.call54 rfl (l12Target_c) ?_
  rintro _ H5 ⟨c5, p5, rfl, rc5, v5, st5, hs⟩
  have nx_H5 := st5.nx
  replace hst := hst.sA st5
  have ne_g2_gS : NE g2 gS := .a
  replace at2 := st5.s at2 ne_g2_gS.ne
  have bs_v5 := v5
  have lv_v5 : Keep H2.next H5 H5 := fun _ _ _ h => h
  have i5 := v5.inn
  refine .R rfl (.allocR rfl ze_27_Hj rfl) ?_
  rintro _ H3 ⟨g3, rfl, le3, ge3, at3⟩
  have nx_H3 := le3.1
  replace hst := hst.le le3
  replace hs := hs.le le3
  replace at2 := le3.2 _ _ at2
  replace lv_v5 := Keep.le lv_v5 le3
  replace v5 := bs_v5.keep lv_v5 (Nat.le_refl _)
  have lt_at3 := GHeap.ltg at3
  clear i5
  have i5 := v5.inn
  refine .r0 rfl rfl (.fillA rfl sz_27_D rfl rfl rfl rfl) ?_
  rintro _ H1003 ⟨rfl, st1003, at1003⟩
  have nx_H1003 := st1003.nx
  replace hst := hst.sA st1003
  replace hs := hs.sA st1003
  have ne_g2_g3 : NE g2 g3 := .a
  replace at2 := st1003.s at2 ne_g2_g3.ne
  replace lv_v5 := Keep.st lv_v5 st1003 (fun k hb hk => ⟨(by omega), trivial⟩)
  replace v5 := bs_v5.keep lv_v5 (Nat.le_refl _)
  have lt_at1003 := GHeap.ltg at1003
  clear i5
  have i5 := v5.inn
  have mm1003 : MemN _ _ _ _ _ := ⟨rfl, Mem.of_get at1003⟩
  refine .nil (hK2 _ _ (.seq (fun K3 hK3 => .seq (fun K4 hK4 => .region (.mv rfl ?_)))))
  refine .call rfl rfl rfl rfl @Try.call55 rfl (l01Next_c) ?_
  rintro _ H7 ⟨k7, rfl, ka7, kb7, kc7, st7, hs⟩
  have nx_H7 := st7.nx
  replace hst := hst.sA st7
  replace at2 := st7.s at2 ne_g2_gS.ne
  have ne_g3_gS : NE g3 gS := .a
  replace at1003 := st7.s at1003 ne_g3_gS.ne
  replace lv_v5 := Keep.st lv_v5 st7 (fun k hb hk => ⟨(by omega), trivial⟩)
  replace v5 := bs_v5.keep lv_v5 (Nat.le_refl _)
  clear i5
  have i5 := v5.inn
  clear mm1003
  have mm1003 : MemN _ _ _ _ _ := ⟨rfl, Mem.of_get at1003⟩
  refine .nil (hK4 _ _ ?_)
  refine .block ?_
  refine .seq (fun K5 hK5 => .region (.q rfl (.cmp rfl rfl rfl) (.mv rfl (.nil (hK5 _ _ ?_)))))
  refine .cond rfl (fun h8 => ?_) (fun h8 => ?_)
  ·
   try simp only [sps] at h8
   refine .seq (fun K6 hK6 => .region (.mv rfl ?_))
   refine .call rfl rfl rfl rfl @Try.call56 rfl (l02Draw_c) ?_
   rintro _ H11 ⟨c11, p11, rfl, sm11, v11, st11, hs⟩
   have nx_H11 := st11.nx
   replace hst := hst.sA st11
   replace at2 := st11.s at2 ne_g2_gS.ne
   replace at1003 := st11.s at1003 ne_g3_gS.ne
   replace lv_v5 := Keep.st lv_v5 st11 (fun k hb hk => ⟨(by omega), trivial⟩)
   replace v5 := bs_v5.keep lv_v5 (Nat.le_refl _)
   clear i5
   have i5 := v5.inn
   clear mm1003
   have mm1003 : MemN _ _ _ _ _ := ⟨rfl, Mem.of_get at1003⟩
   have bs_v11 := v11
   have lv_v11 : Keep H7.next H11 H11 := fun _ _ _ h => h
   refine .r0 rfl rfl (.fillA rfl sz_27_D rfl rfl rfl rfl) ?_
   rintro _ H4002 ⟨rfl, st4002, at4002⟩
   have nx_H4002 := st4002.nx
   replace hst := hst.sA st4002
   replace hs := hs.sA st4002
   replace at1003 := st4002.s at1003 (Ne.symm ne_g2_g3.ne)
   replace lv_v5 := Keep.st lv_v5 st4002 (fun k hb hk => ⟨(by omega), trivial⟩)
   replace v5 := bs_v5.keep lv_v5 (Nat.le_refl _)
   replace lv_v11 := Keep.st lv_v11 st4002 (fun k hb hk => ⟨(by omega), trivial⟩)
   replace v11 := bs_v11.keep lv_v11 (Nat.le_refl _)
   have lt_at4002 := GHeap.ltg at4002
   clear i5
   have i5 := v5.inn
   clear mm1003
   have mm1003 : MemN _ _ _ _ _ := ⟨rfl, Mem.of_get at1003⟩
   have mm4002 : MemN _ _ _ _ _ := ⟨rfl, Mem.of_get at4002⟩
   refine .nil (hK6 _ _ ?_)
   refine .ret ?_
   refine hret _ _ ?_
   refine ⟨_, _, _, _, rfl, ag_27_D, (by rfl), (Mem.of_get at4002), ?_⟩
   exact ⟨c11, p11, rfl, sm11, v11.keep (.of_le (.refl _)) (by omega), hst, hs⟩
  try simp only [sps] at h8
  refine .seq (fun K7 hK7 => .seq (fun K8 hK8 => .region (.q rfl (.cmp rfl rfl rfl) (.mv rfl (.nil (hK8 _ _ ?_))))))
  refine .cond rfl (fun h12 => ?_) (fun h12 => ?_)
  ·
   try simp only [sps] at h12
   refine .skip ?_
   refine hK7 _ _ ?_
   refine .cond rfl (fun h12 => ?_) (fun h12 => ?_)
   ·
    try simp only [sps] at h12
    refine .seq (fun K9 hK9 => .region ?_)
    refine .q rfl (.loadM ag_27_D rfl ⟨rfl, Mem.of_get at1003⟩) ?_
    refine .call rfl rfl rfl rfl @Try.call57 rfl (l03Op_c (hin := i5) (hr := rc5) (hN := by omega)) ?_
    rintro _ H17 ⟨le17, ga17, gb17, gc17, gd17, rr17, rfl, o17⟩
    have vO := o17.catR
    have nx_H17 := le17.1
    replace hst := hst.le le17
    replace hs := hs.le le17
    replace at2 := le17.2 _ _ at2
    replace at1003 := le17.2 _ _ at1003
    replace lv_v5 := Keep.le lv_v5 le17
    replace v5 := bs_v5.keep lv_v5 (Nat.le_refl _)
    have bs_vO := vO
    have lv_vO : Keep H7.next H17 H17 := fun _ _ _ h => h
    clear i5
    have i5 := v5.inn
    clear mm1003
    have mm1003 : MemN _ _ _ _ _ := ⟨rfl, Mem.of_get at1003⟩
    have iO := vO.inn
    refine .r0 rfl rfl (.fillA rfl sz_27_D rfl rfl rfl rfl) ?_
    rintro _ H8002 ⟨rfl, st8002, at8002⟩
    have nx_H8002 := st8002.nx
    replace hst := hst.sA st8002
    replace hs := hs.sA st8002
    replace at1003 := st8002.s at1003 (Ne.symm ne_g2_g3.ne)
    replace lv_v5 := Keep.st lv_v5 st8002 (fun k hb hk => ⟨(by omega), trivial⟩)
    replace v5 := bs_v5.keep lv_v5 (Nat.le_refl _)
    replace lv_vO := Keep.st lv_vO st8002 (fun k hb hk => ⟨(by omega), trivial⟩)
    replace vO := bs_vO.keep lv_vO (Nat.le_refl _)
    have lt_at8002 := GHeap.ltg at8002
    clear i5
    have i5 := v5.inn
    clear mm1003
    have mm1003 : MemN _ _ _ _ _ := ⟨rfl, Mem.of_get at1003⟩
    clear iO
    have iO := vO.inn
    have mm8002 : MemN _ _ _ _ _ := ⟨rfl, Mem.of_get at8002⟩
    refine .nil (hK9 _ _ ?_)
    refine .ret ?_
    refine hret _ _ ?_
    refine ⟨_, _, _, _, rfl, ag_27_D, (by rfl), (Mem.of_get at8002), ?_⟩
    first
    | exact ⟨c5, p5, rfl, rc5.small (by omega), v5.kin.keep (.of_le (.refl _)) (by omega), hst, hs⟩
    | exact ⟨c5.op, _, rfl, rc5.op.small (by omega), vO.kin.keep (.of_le (.refl _)) (by omega), hst, hs⟩
   try simp only [sps] at h12
   refine .skip ?_
   refine hK3 _ _ (.seq (fun K10 hK10 => .region ?_))
   refine .q rfl (.loadM ag_27_D rfl ⟨rfl, Mem.of_get at1003⟩) ?_
   refine .r0 rfl rfl (.fillA rfl sz_27_D rfl rfl rfl rfl) ?_
   rintro _ H9001 ⟨rfl, st9001, at9001⟩
   have nx_H9001 := st9001.nx
   replace hst := hst.sA st9001
   replace hs := hs.sA st9001
   replace at1003 := st9001.s at1003 (Ne.symm ne_g2_g3.ne)
   replace lv_v5 := Keep.st lv_v5 st9001 (fun k hb hk => ⟨(by omega), trivial⟩)
   replace v5 := bs_v5.keep lv_v5 (Nat.le_refl _)
   have lt_at9001 := GHeap.ltg at9001
   clear i5
   have i5 := v5.inn
   clear mm1003
   have mm1003 : MemN _ _ _ _ _ := ⟨rfl, Mem.of_get at1003⟩
   have mm9001 : MemN _ _ _ _ _ := ⟨rfl, Mem.of_get at9001⟩
   refine .nil (hK10 _ _ ?_)
   refine .ret ?_
   refine hret _ _ ?_
   refine ⟨_, _, _, _, rfl, ag_27_D, (by rfl), (Mem.of_get at9001), ?_⟩
   first
   | exact ⟨c5, p5, rfl, rc5.small (by omega), v5.kin.keep (.of_le (.refl _)) (by omega), hst, hs⟩
   | exact ⟨c5.op, _, rfl, rc5.op.small (by omega), vO.kin.keep (.of_le (.refl _)) (by omega), hst, hs⟩
  try simp only [sps] at h12
  refine .seq (fun K11 hK11 => .region (.q rfl (.cmp rfl rfl rfl) (.mv rfl (.nil (hK11 _ _ ?_)))))
  refine .cond rfl (fun h12 => ?_) (fun h12 => ?_)
  ·
   try simp only [sps] at h12
   refine .skip ?_
   refine hK7 _ _ ?_
   refine .cond rfl (fun h12 => ?_) (fun h12 => ?_)
   ·
    try simp only [sps] at h12
    refine .seq (fun K12 hK12 => .region ?_)
    refine .q rfl (.loadM ag_27_D rfl ⟨rfl, Mem.of_get at1003⟩) ?_
    refine .call rfl rfl rfl rfl @Try.call57 rfl (l03Op_c (hin := i5) (hr := rc5) (hN := by omega)) ?_
    rintro _ H17x2 ⟨le17x2, ga17x2, gb17x2, gc17x2, gd17x2, rr17x2, rfl, o17x2⟩
    have vO := o17x2.catR
    have nx_H17x2 := le17x2.1
    replace hst := hst.le le17x2
    replace hs := hs.le le17x2
    replace at2 := le17x2.2 _ _ at2
    replace at1003 := le17x2.2 _ _ at1003
    replace lv_v5 := Keep.le lv_v5 le17x2
    replace v5 := bs_v5.keep lv_v5 (Nat.le_refl _)
    have bs_vO := vO
    have lv_vO : Keep H7.next H17x2 H17x2 := fun _ _ _ h => h
    clear i5
    have i5 := v5.inn
    clear mm1003
    have mm1003 : MemN _ _ _ _ _ := ⟨rfl, Mem.of_get at1003⟩
    have iO := vO.inn
    refine .r0 rfl rfl (.fillA rfl sz_27_D rfl rfl rfl rfl) ?_
    rintro _ H8002x2 ⟨rfl, st8002x2, at8002x2⟩
    have nx_H8002x2 := st8002x2.nx
    replace hst := hst.sA st8002x2
    replace hs := hs.sA st8002x2
    replace at1003 := st8002x2.s at1003 (Ne.symm ne_g2_g3.ne)
    replace lv_v5 := Keep.st lv_v5 st8002x2 (fun k hb hk => ⟨(by omega), trivial⟩)
    replace v5 := bs_v5.keep lv_v5 (Nat.le_refl _)
    replace lv_vO := Keep.st lv_vO st8002x2 (fun k hb hk => ⟨(by omega), trivial⟩)
    replace vO := bs_vO.keep lv_vO (Nat.le_refl _)
    have lt_at8002x2 := GHeap.ltg at8002x2
    clear i5
    have i5 := v5.inn
    clear mm1003
    have mm1003 : MemN _ _ _ _ _ := ⟨rfl, Mem.of_get at1003⟩
    clear iO
    have iO := vO.inn
    have mm8002x2 : MemN _ _ _ _ _ := ⟨rfl, Mem.of_get at8002x2⟩
    refine .nil (hK12 _ _ ?_)
    refine .ret ?_
    refine hret _ _ ?_
    refine ⟨_, _, _, _, rfl, ag_27_D, (by rfl), (Mem.of_get at8002x2), ?_⟩
    first
    | exact ⟨c5, p5, rfl, rc5.small (by omega), v5.kin.keep (.of_le (.refl _)) (by omega), hst, hs⟩
    | exact ⟨c5.op, _, rfl, rc5.op.small (by omega), vO.kin.keep (.of_le (.refl _)) (by omega), hst, hs⟩
   try simp only [sps] at h12
   refine .skip ?_
   refine hK3 _ _ (.seq (fun K13 hK13 => .region ?_))
   refine .q rfl (.loadM ag_27_D rfl ⟨rfl, Mem.of_get at1003⟩) ?_
   refine .r0 rfl rfl (.fillA rfl sz_27_D rfl rfl rfl rfl) ?_
   rintro _ H9001x2 ⟨rfl, st9001x2, at9001x2⟩
   have nx_H9001x2 := st9001x2.nx
   replace hst := hst.sA st9001x2
   replace hs := hs.sA st9001x2
   replace at1003 := st9001x2.s at1003 (Ne.symm ne_g2_g3.ne)
   replace lv_v5 := Keep.st lv_v5 st9001x2 (fun k hb hk => ⟨(by omega), trivial⟩)
   replace v5 := bs_v5.keep lv_v5 (Nat.le_refl _)
   have lt_at9001x2 := GHeap.ltg at9001x2
   clear i5
   have i5 := v5.inn
   clear mm1003
   have mm1003 : MemN _ _ _ _ _ := ⟨rfl, Mem.of_get at1003⟩
   have mm9001x2 : MemN _ _ _ _ _ := ⟨rfl, Mem.of_get at9001x2⟩
   refine .nil (hK13 _ _ ?_)
   refine .ret ?_
   refine hret _ _ ?_
   refine ⟨_, _, _, _, rfl, ag_27_D, (by rfl), (Mem.of_get at9001x2), ?_⟩
   first
   | exact ⟨c5, p5, rfl, rc5.small (by omega), v5.kin.keep (.of_le (.refl _)) (by omega), hst, hs⟩
   | exact ⟨c5.op, _, rfl, rc5.op.small (by omega), vO.kin.keep (.of_le (.refl _)) (by omega), hst, hs⟩
  try simp only [sps] at h12
  refine .region (.q rfl (.cmp rfl rfl rfl) (.mv rfl (.nil (hK7 _ _ ?_))))
  refine .cond rfl (fun h12 => ?_) (fun h12 => ?_)
  ·
   try simp only [sps] at h12
   refine .seq (fun K14 hK14 => .region ?_)
   refine .q rfl (.loadM ag_27_D rfl ⟨rfl, Mem.of_get at1003⟩) ?_
   refine .call rfl rfl rfl rfl @Try.call57 rfl (l03Op_c (hin := i5) (hr := rc5) (hN := by omega)) ?_
   rintro _ H17x3 ⟨le17x3, ga17x3, gb17x3, gc17x3, gd17x3, rr17x3, rfl, o17x3⟩
   have vO := o17x3.catR
   have nx_H17x3 := le17x3.1
   replace hst := hst.le le17x3
   replace hs := hs.le le17x3
   replace at2 := le17x3.2 _ _ at2
   replace at1003 := le17x3.2 _ _ at1003
   replace lv_v5 := Keep.le lv_v5 le17x3
   replace v5 := bs_v5.keep lv_v5 (Nat.le_refl _)
   have bs_vO := vO
   have lv_vO : Keep H7.next H17x3 H17x3 := fun _ _ _ h => h
   clear i5
   have i5 := v5.inn
   clear mm1003
   have mm1003 : MemN _ _ _ _ _ := ⟨rfl, Mem.of_get at1003⟩
   have iO := vO.inn
   refine .r0 rfl rfl (.fillA rfl sz_27_D rfl rfl rfl rfl) ?_
   rintro _ H8002x3 ⟨rfl, st8002x3, at8002x3⟩
   have nx_H8002x3 := st8002x3.nx
   replace hst := hst.sA st8002x3
   replace hs := hs.sA st8002x3
   replace at1003 := st8002x3.s at1003 (Ne.symm ne_g2_g3.ne)
   replace lv_v5 := Keep.st lv_v5 st8002x3 (fun k hb hk => ⟨(by omega), trivial⟩)
   replace v5 := bs_v5.keep lv_v5 (Nat.le_refl _)
   replace lv_vO := Keep.st lv_vO st8002x3 (fun k hb hk => ⟨(by omega), trivial⟩)
   replace vO := bs_vO.keep lv_vO (Nat.le_refl _)
   have lt_at8002x3 := GHeap.ltg at8002x3
   clear i5
   have i5 := v5.inn
   clear mm1003
   have mm1003 : MemN _ _ _ _ _ := ⟨rfl, Mem.of_get at1003⟩
   clear iO
   have iO := vO.inn
   have mm8002x3 : MemN _ _ _ _ _ := ⟨rfl, Mem.of_get at8002x3⟩
   refine .nil (hK14 _ _ ?_)
   refine .ret ?_
   refine hret _ _ ?_
   refine ⟨_, _, _, _, rfl, ag_27_D, (by rfl), (Mem.of_get at8002x3), ?_⟩
   first
   | exact ⟨c5, p5, rfl, rc5.small (by omega), v5.kin.keep (.of_le (.refl _)) (by omega), hst, hs⟩
   | exact ⟨c5.op, _, rfl, rc5.op.small (by omega), vO.kin.keep (.of_le (.refl _)) (by omega), hst, hs⟩
  try simp only [sps] at h12
  refine .skip ?_
  refine hK3 _ _ (.seq (fun K15 hK15 => .region ?_))
  refine .q rfl (.loadM ag_27_D rfl ⟨rfl, Mem.of_get at1003⟩) ?_
  refine .r0 rfl rfl (.fillA rfl sz_27_D rfl rfl rfl rfl) ?_
  rintro _ H9001x3 ⟨rfl, st9001x3, at9001x3⟩
  have nx_H9001x3 := st9001x3.nx
  replace hst := hst.sA st9001x3
  replace hs := hs.sA st9001x3
  replace at1003 := st9001x3.s at1003 (Ne.symm ne_g2_g3.ne)
  replace lv_v5 := Keep.st lv_v5 st9001x3 (fun k hb hk => ⟨(by omega), trivial⟩)
  replace v5 := bs_v5.keep lv_v5 (Nat.le_refl _)
  have lt_at9001x3 := GHeap.ltg at9001x3
  clear i5
  have i5 := v5.inn
  clear mm1003
  have mm1003 : MemN _ _ _ _ _ := ⟨rfl, Mem.of_get at1003⟩
  have mm9001x3 : MemN _ _ _ _ _ := ⟨rfl, Mem.of_get at9001x3⟩
  refine .nil (hK15 _ _ ?_)
  refine .ret ?_
  refine hret _ _ ?_
  refine ⟨_, _, _, _, rfl, ag_27_D, (by rfl), (Mem.of_get at9001x3), ?_⟩
  first
  | exact ⟨c5, p5, rfl, rc5.small (by omega), v5.kin.keep (.of_le (.refl _)) (by omega), hst, hs⟩
  | exact ⟨c5.op, _, rfl, rc5.op.small (by omega), vO.kin.keep (.of_le (.refl _)) (by omega), hst, hs⟩
theorem drawTerminalObjects_c {a : Option Addr} {xs : List Int} {H : GHeap} (hb : Bytes H a xs := by assumption) (hlt : ∀ b o t, a = some ⟨b, o, t⟩ → b < H.next := by assumption) (hx : xs.length ≤ 4096 := by omega) :
    GCalls Try.prog 7 [.slice a xs.length xs.length] H (NewK H) := by
  refine GCalls.body (N := 6) (rs := [.cell 2 27]) Try.func7 rfl rfl rfl rfl (fun Qx hret hend => ?_)
  refine .fg [0] rfl ?_
  have hle := GHeap.Le.refl H
  have base_hb := hb
  refine .seq (fun K1 hK1 => .region ?_)
  refine .R rfl (.allocR rfl ze_27_Hj rfl) ?_
  rintro _ H2 ⟨g2, rfl, le2, ge2, at2⟩
  have nx_H2 := le2.1
  replace hle := hle.trans le2
  have lt_at2 := GHeap.ltg at2
  replace hb := base_hb.mono hle
  refine .nil (hK1 _ _ (.seq (fun K2 hK2 => .region (.mv rfl ?_))))
  refine .call rfl rfl rfl rfl @Try.call29 rfl (l01From_c (hlt := fun b o t e => by have := hlt b o t e; omega)) ?_
  rintro _ H4 ⟨le4, gS, rfl, ge4, hs⟩
  have hlS := hs.lt
  have nx_H4 := le4.1
  replace hle := hle.trans le4
  replace at2 := le4.2 _ _ at2
  replace hb := base_hb.mono hle
  refine .call rfl rfl rfl rfl @Try.call28 rfl (l13Draw_c) ?_
  rintro _ H5 ⟨c5, p5, rfl, sm5, v5, st5, hs⟩
  have nx_H5 := st5.nx
  replace hle := hle.st st5 (fun k hk => ⟨by omega, trivial⟩)
  replace at2 := st5.s at2
  replace hb := base_hb.mono hle
  have bs_v5 := v5
  have lv_v5 : Keep H4.next H5 H5 := fun _ _ _ h => h
  refine .r0 rfl rfl (.fillA rfl sz_27_D rfl rfl rfl rfl) ?_
  rintro _ H1003 ⟨rfl, st1003, at1003⟩
  have nx_H1003 := st1003.nx
  replace hle := hle.st st1003 (fun k hk => ⟨by omega, trivial⟩)
  replace lv_v5 := Keep.st lv_v5 st1003 (fun k hb hk => ⟨(by omega), trivial⟩)
  replace v5 := bs_v5.keep lv_v5 (Nat.le_refl _)
  have lt_at1003 := GHeap.ltg at1003
  replace hb := base_hb.mono hle
  have mm1003 : MemN _ _ _ _ _ := ⟨rfl, Mem.of_get at1003⟩
  refine .nil (hK2 _ _ ?_)
  refine .ret ?_
  refine hret _ _ ?_
  refine ⟨_, _, _, _, rfl, ag_27_D, (by rfl), (Mem.of_get at1003), ?_⟩
  exact ⟨hle, c5, p5, rfl, sm5, v5.keep (.of_le (.refl _)) (by omega)⟩
theorem homSet_c {c : Cat} {p : CatP} {x y : Int} {H : GHeap} (hin : c.In H p := by assumption) (hs : c.Small := by assumption) :
    GCalls Try.prog 12 [.agg (c.cells p).toArray, .int .i64 x, .int .i64 y] H (NewLC (c.codeO [x, y]) (codeL (c.codeO [x, y]) (c.hom x y)) H) := by
  refine GCalls.body (N := 19) (rs := [.tmp 6, .tmp 7]) Try.func12 rfl rfl rfl rfl (fun Qx hret hend => ?_)
  refine .fg [0, 1, 2] rfl ?_
  have hle := GHeap.Le.refl H
  have base_hin := hin
  refine .seq (fun K1 hK1 => .region ?_)
  refine .R rfl (.boxR rfl sz_27_D rfl) ?_
  rintro _ H3 ⟨g3, rfl, le3, ge3, at3⟩
  have nx_H3 := le3.1
  replace hle := hle.trans le3
  have lt_at3 := GHeap.ltg at3
  replace hin := base_hin.mono hle
  have hb3 : Cat.At _ g3 0 c p := ⟨Mem.of_get at3, hin⟩
  obtain ⟨c03, c13, c23, c33, c43, i13, i23, i33, i43⟩ := hb3.get
  have hm3 : MemN _ _ _ _ _ := ⟨rfl, hb3.1⟩
  have hi3 := hb3.2
  refine .mv rfl (.mv rfl (.nil (hK1 _ _ (.seq (fun K2 hK2 => .seq (fun K3 hK3 => .region (.mv rfl (.mv rfl ?_))))))))
  refine .R rfl (.litA rfl sl_24_A ze_2_L rfl rfl rfl rfl) ?_
  rintro _ H11 ⟨g11, rfl, le11, ge11, at11⟩
  have nx_H11 := le11.1
  replace hle := hle.trans le11
  replace at3 := le11.2 _ _ at3
  have lt_at11 := GHeap.ltg at11
  replace hin := base_hin.mono hle
  clear hb3 c03 c13 c23 c33 c43 i13 i23 i33 i43 hm3 hi3
  have hb3 : Cat.At _ g3 0 c p := ⟨Mem.of_get at3, hin⟩
  obtain ⟨c03, c13, c23, c33, c43, i13, i23, i33, i43⟩ := hb3.get
  have hm3 : MemN _ _ _ _ _ := ⟨rfl, hb3.1⟩
  have hi3 := hb3.2
  refine .callQ rfl rfl rfl rfl @Try.call36 rfl (objectCode_c (xs := [x, y]) (hx := Ints.of_get (by assumption)) (hl := by simp)) ?_
  refine .mv rfl (.nil (hK3 _ _ (.seq (fun K4 hK4 => .region (.mv rfl (.q rfl (.cmp rfl rfl rfl) (.nil (hK4 _ _ ?_))))))))
  refine .cond rfl (fun h14 => ?_) (fun h14 => ?_)
  ·
   try simp only [sps] at h14
   refine .seq (fun K5 hK5 => .region (.mv rfl (.mv rfl (.mv rfl (.nil (hK5 _ _ ?_))))))
   refine .ret ?_
   refine hret _ _ ?_
   refine ⟨_, _, rfl, rfl, ?_⟩
   rw [codeL_err h14]; exact ⟨hle, none, rfl, .inl ⟨rfl, rfl⟩⟩
  simp only [sps] at h14
  have hS := (Cat.codeO_ok.1 h14).1.1
  refine .skip ?_
  refine hK2 _ _ (.seq (fun K6 hK6 => .region (.mv rfl (.mv rfl ?_))))
  refine .call rfl rfl rfl rfl @Try.call37 rfl (hom_c) ?_
  rintro _ H18 ⟨le18, g18, rfl, at18, ge18⟩
  have nx_H18 := le18.1
  replace hle := hle.trans le18
  replace at3 := le18.2 _ _ at3
  replace at11 := le18.2 _ _ at11
  have lt_at18 := GHeap.ltg at18
  replace hin := base_hin.mono hle
  clear hb3 c03 c13 c23 c33 c43 i13 i23 i33 i43 hm3 hi3
  have hb3 : Cat.At _ g3 0 c p := ⟨Mem.of_get at3, hin⟩
  obtain ⟨c03, c13, c23, c33, c43, i13, i23, i33, i43⟩ := hb3.get
  have hm3 : MemN _ _ _ _ _ := ⟨rfl, hb3.1⟩
  have hi3 := hb3.2
  have i18 := Ints.of_get at18
  refine .mv rfl (.mv rfl (.nil (hK6 _ _ ?_)))
  refine .ret ?_
  refine hret _ _ ?_
  refine ⟨_, _, rfl, rfl, ?_⟩
  rw [h14]; exact ⟨hle, _, rfl, .of_at at18 (by omega)⟩
end Go.Proofs.Ytppinbcdndmoaaa
namespace Go.Proofs.Ytppinbcdndmoaaa
open Go Go.GL Go.RowKit Go.Proofs
end Go.Proofs.Ytppinbcdndmoaaa
namespace Go.Proofs.Ytppinbcdndmoaaa
open Go Go.GL Go.RowKit Go.Proofs
end Go.Proofs.Ytppinbcdndmoaaa
namespace Go.Proofs.Ytppinbcdndmoaaa
open Go Go.GL Go.RowKit Go.Proofs
end Go.Proofs.Ytppinbcdndmoaaa
namespace Go.Proofs.Ytppinbcdndmoaaa
open Go Go.GL Go.RowKit Go.Proofs
theorem sz_38_Cm : (Try.prog.info? 38).map (·.size) = some 2 := by kernel_rfl
theorem fo_38_0_Cm : fieldOff Try.prog 38 0 = some 0 := by kernel_rfl
theorem fo_38_1_Cm : fieldOff Try.prog 38 1 = some 1 := by kernel_rfl
set_option maxHeartbeats 4000000 in
theorem coneMaps_c {g o : Nat} {d : Fun} {p : FunP} {m m' : Con} {q q' : ConP} {H : GHeap} (h : Fun.At H g o d p := by assumption) (hin1 : m.In H q := by assumption) (hin2 : m'.In H q' := by assumption) (hI : d.Is := by assumption) (hc : d.Cone m := by assumption) (hc' : d.Cone m' := by assumption) :
    GCalls Try.prog 93 [.pointer (some ⟨g, o, none⟩), .agg (m.cells q).toArray, .agg (m'.cells q').toArray] H (NewInts 2 H (d.coneMaps m m')) := by
  have hS := hI.2.1.1
  have b1 := hS.n40
  have b2 := hc.ll
  have b3 := hc'.ll
  have b4 := hI.2.2.ol
  have b5 := hI.1.1.obj
  have hlh := d.t.hom_le m.ap m'.ap
  refine GCalls.body (N := 53) (rs := [.tmp 6]) Try.func93 rfl rfl rfl rfl (fun Qx hret hend => ?_)
  refine .fg [0, 1, 2] rfl ?_
  have hle := GHeap.Le.refl H
  have base_h := h
  have base_hin1 := hin1
  have base_hin2 := hin2
  refine .seq (fun K1 hK1 => .region ?_)
  refine .R rfl (.boxR rfl sz_38_Cm rfl) ?_
  rintro _ H4 ⟨g4, rfl, le4, ge4, at4⟩
  replace hle := hle.trans le4
  have lt_at4 := GHeap.ltg at4
  replace h := base_h.mono hle
  replace hin1 := base_hin1.mono hle
  have hb4 : Con.At _ g4 0 m q := ⟨Mem.of_get at4, hin1⟩
  refine .R rfl (.boxR rfl sz_38_Cm rfl) ?_
  rintro _ H5 ⟨g5, rfl, le5, ge5, at5⟩
  replace hle := hle.trans le5
  replace at4 := le5.2 _ _ at4
  have lt_at5 := GHeap.ltg at5
  replace h := base_h.mono hle
  replace hin1 := base_hin1.mono hle
  replace hin2 := base_hin2.mono hle
  clear hb4
  have hb4 : Con.At _ g4 0 m q := ⟨Mem.of_get at4, hin1⟩
  have hb5 : Con.At _ g5 0 m' q' := ⟨Mem.of_get at5, hin2⟩
  refine .mv rfl (.nil (hK1 _ _ ?_))
  refine .scope ?_
  refine .seq (fun K2 hK2 => .region (.mv rfl (.q rfl (.nilCheck rfl) (.q rfl (.fieldAddr fo_36_1_G rfl) (.mv rfl (.nil (hK2 _ _ (.seq (fun K3 hK3 => .region ?_)))))))))
  refine .R rfl (.litA rfl sl_24_A ze_2_L rfl rfl rfl rfl) ?_
  rintro _ H16 ⟨g16, rfl, le16, ge16, at16⟩
  replace hle := hle.trans le16
  replace at4 := le16.2 _ _ at4
  replace at5 := le16.2 _ _ at5
  have lt_at16 := GHeap.ltg at16
  replace h := base_h.mono hle
  replace hin1 := base_hin1.mono hle
  replace hin2 := base_hin2.mono hle
  obtain ⟨-, ft, -, -, -, -⟩ := h.get
  clear hb4
  have hb4 : Con.At _ g4 0 m q := ⟨Mem.of_get at4, hin1⟩
  obtain ⟨c04, -, -⟩ := hb4.get
  clear hb5
  have hb5 : Con.At _ g5 0 m' q' := ⟨Mem.of_get at5, hin2⟩
  obtain ⟨c05, -, -⟩ := hb5.get
  replace at16 : GHeap.get H16 g16 = some (.row (ints []) 2 true) := at16
  refine .mv rfl (.nil (hK3 _ _ (.seq (fun K4 hK4 => ?_))))
  refine .label ?_
  refine hK4 _ _ (.seq (fun K5 hK5 => .seq (fun K6 hK6 => .region (.mv rfl (.q rfl (.fieldAddr fo_38_0_Cm rfl) ?_)))))
  refine .q rfl (.load on_2_A rfl (by first | assumption | exact Mem.of_get at4 0 _ rfl)) ?_
  refine .q rfl (.fieldAddr fo_38_0_Cm rfl) ?_
  refine .q rfl (.load on_2_A rfl (by first | assumption | exact Mem.of_get at5 0 _ rfl)) ?_
  refine .call rfl rfl rfl rfl @Try.call37 rfl (hom_c) ?_
  rintro _ H22 ⟨le22, g22, rfl, at22, ge22⟩
  replace hle := hle.trans le22
  replace at4 := le22.2 _ _ at4
  replace at5 := le22.2 _ _ at5
  replace at16 := le22.2 _ _ at16
  have lt_at22 := GHeap.ltg at22
  replace h := base_h.mono hle
  replace hin1 := base_hin1.mono hle
  replace hin2 := base_hin2.mono hle
  clear ft
  clear hb4 c04
  have hb4 : Con.At _ g4 0 m q := ⟨Mem.of_get at4, hin1⟩
  clear hb5 c05
  have hb5 : Con.At _ g5 0 m' q' := ⟨Mem.of_get at5, hin2⟩
  refine .q rfl (.len sl_24_A rfl) (.mv rfl (.nil (hK6 _ _ ?_)))
  refine .block ?_
  refine .loopR (σ := Nat × Nat × Nat) [(4, some _), (5, some _), (7, some _), (22, some _), (23, some _)] (fun (i, gL8, nL8) => [(24, some (.int .i64 (i : Int))), (8, some (.slice (some ⟨gL8, 0, none⟩) nL8 nL8))]) (fun (i, gL8, nL8) H' => St [g16] H22 H' ∧ H'.get gL8 = some (.row (ints (((d.t.hom m.ap m'.ap).take i).filter (d.coneFit m m'))) 2 true) ∧ (gL8 = g16 ∨ H22.next ≤ gL8) ∧ nL8 = (((d.t.hom m.ap m'.ap).take i).filter (d.coneFit m m')).length ∧ i ≤ (d.t.hom m.ap m'.ap).length) (fun (i, gL8, nL8) => (d.t.hom m.ap m'.ap).length - i) ((0, _, _)) ⟨rfl, rfl, rfl, rfl, rfl, trivial⟩ ⟨rfl, rfl, trivial⟩ ?_ ?_
  ·
   refine ⟨.refl _ _, by assumption, .inl rfl, by rfl, ?_⟩
   omega
  rintro ⟨i, gL8, nL8⟩ HL1 ⟨lst1, at_L8, pl_L8, ln_L8, hI⟩ KL1 hKL1
  refine .forget (fr' := [(24, some (.int .i64 (i : Int))), (8, some (.slice (some ⟨gL8, 0, none⟩) nL8 nL8)), (4, some _), (5, some _), (7, some _), (22, some _), (23, some _)]) ⟨rfl, rfl, rfl, rfl, rfl, rfl, rfl, trivial⟩ ?_
  have ge_L8 : H.next ≤ gL8 := by omega
  have nx_HL1 := lst1.nx
  replace hle := hle.st lst1 (fun k hk => ⟨by omega, trivial⟩)
  replace at4 := lst1.s at4
  replace at5 := lst1.s at5
  replace at22 := lst1.s at22
  replace h := base_h.mono hle
  replace hin1 := base_hin1.mono hle
  replace hin2 := base_hin2.mono hle
  obtain ⟨-, ft, -, -, -, -⟩ := h.get
  clear hb4
  have hb4 : Con.At _ g4 0 m q := ⟨Mem.of_get at4, hin1⟩
  obtain ⟨-, c14, -⟩ := hb4.get
  have hi4 := hb4.2
  clear hb5
  have hb5 : Con.At _ g5 0 m' q' := ⟨Mem.of_get at5, hin2⟩
  obtain ⟨-, c15, -⟩ := hb5.get
  have hi5 := hb5.2
  have i22 := Ints.of_get at22
  have hfl := filtTake_le (xs := d.t.hom m.ap m'.ap) (P := d.coneFit m m') (i := i)
  refine .seq (fun K7 hK7 => .region (.q rfl (.cmp rfl rfl rfl) (.nil (hK7 _ _ (.seq (fun K8 hK8 => ?_))))))
  refine .cond rfl (fun h25 => ?_) (fun h25 => ?_)
  ·
   simp only [sps] at h25
   obtain ⟨f, hf1, -, -, hf4⟩ := Cat.hom_get (c := d.t) (x := m.ap) (y := m'.ap) (i := i) (by omega)
   refine .skip ?_
   refine hK8 _ _ (.seq (fun K9 hK9 => ?_))
   refine .block ?_
   refine .seq (fun K10 hK10 => .region ?_)
   refine .q rfl (.idxN sl_24_A (by first | assumption | exact SlA.of_row at22 (by first | rfl | (simp; done) | (simp <;> omega))) rfl rfl (by omega)) ?_
   refine .q rfl (.loadI on_2_A (by first | assumption | exact Ints.of_get at22) rfl (by omega)) ?_
   refine .mv rfl (.nil (hK10 _ _ (.seq (fun K11 hK11 => .seq (fun K12 hK12 => .region (.q rfl (.fieldAddr fo_38_1_Cm rfl) ?_))))))
   refine .q rfl (.load on_24_B rfl (by first | assumption | exact Mem.of_get at5 1 _ rfl)) ?_
   refine .q rfl (.len sl_24_A rfl) (.mv rfl (.nil (hK12 _ _ ?_)))
   refine .block ?_
   refine .loopR (σ := Nat) [(4, some _), (5, some _), (7, some _), (8, some _), (10, some _), (22, some _), (23, some _), (24, some _), (29, some _), (30, some _)] (fun j => [(31, some (.int .i64 (j : Int)))]) (fun j H' => HL1 = H' ∧ j ≤ m'.lg.length ∧ allN j (fun j => d.t.th ((d.t.hom m.ap m'.ap).getD i 0) (m'.lg.getD j 0) == m.lg.getD j 0) = true) (fun j => m'.lg.length - j) (0) ⟨rfl, rfl, rfl, rfl, rfl, rfl, rfl, rfl, rfl, rfl, trivial⟩ ⟨rfl, trivial⟩ ?_ ?_
   ·
    refine ⟨rfl, ?_⟩
    exact ⟨by omega, rfl⟩
   rintro j _ ⟨rfl, hI⟩ KL2 hKL2
   refine .forget (fr' := [(31, some (.int .i64 (j : Int))), (4, some _), (5, some _), (7, some _), (8, some _), (10, some _), (22, some _), (23, some _), (24, some _), (29, some _), (30, some _)]) ⟨rfl, rfl, rfl, rfl, rfl, rfl, rfl, rfl, rfl, rfl, rfl, trivial⟩ ?_
   obtain ⟨hj, hb⟩ := hI
   refine .seq (fun K13 hK13 => .region (.q rfl (.cmp rfl rfl rfl) (.nil (hK13 _ _ (.seq (fun K14 hK14 => ?_))))))
   refine .cond rfl (fun h32 => ?_) (fun h32 => ?_)
   ·
    simp only [sps] at h32
    have w1 := hc'.lg j (by omega)
    refine .skip ?_
    refine hK14 _ _ (.seq (fun K15 hK15 => ?_))
    refine .block ?_
    refine .seq (fun K16 hK16 => .region (.mv rfl ?_))
    refine .q rfl (.idxN sl_24_A (by assumption) rfl rfl (by omega)) ?_
    refine .q rfl (.loadI on_2_A (by assumption) rfl (by omega)) ?_
    refine .mv rfl (.mv rfl (.nil (hK16 _ _ (.seq (fun K17 hK17 => ?_)))))
    refine .regionD mo_B (.q 0 (.q 1 (.q 2 (.q 4 (.q 5 (.q 6 (.q 7 (.q 8 (.c 3 1 (.q 9 (.done))))))))))) (by kernel_rfl) ?_
    refine .mv rfl rfl (.mv rfl rfl (.mv rfl rfl (.q rfl (.fieldAddr fo_38_1_Cm rfl) ?_)))
    refine .q rfl (.load on_24_B rfl (by first | assumption | exact Mem.of_get at4 1 _ rfl)) ?_
    refine .mv rfl rfl ?_
    refine .q rfl (.idxN sl_24_A (by assumption) rfl rfl (by omega)) ?_
    refine .q rfl (.loadI on_2_A (by assumption) rfl (by omega)) ?_
    refine .callQ1 rfl rfl rfl rfl rfl @Try.call48 rfl (then_s) (.refl _) ?_
    refine .q rfl (.cmp rfl rfl rfl) ?_
    refine .done ?_
    refine hK17 _ _ ?_
    refine .cond rfl (fun h45 => ?_) (fun h45 => ?_)
    ·
     simp only [sps] at h45
     have hfit : d.coneFit m m' ((d.t.hom m.ap m'.ap).getD i 0) = false := by
       unfold Fun.coneFit
       refine allN_early (k := j + 1) ?_ (by omega)
       rw [allN_succ, hb]
       simpa using h45
     refine .exit ?_
     refine hK9 _ _ (.region ?_)
     refine .q rfl (.add rfl rfl rfl (by omega) (by omega)) ?_
     refine .mv rfl (.nil ?_)
     refine hKL1 ((i + 1, _, _)) _ _ ?_ ?_ ⟨rfl, rfl, rfl, rfl, rfl, rfl, rfl, trivial⟩
     ·
      refine ⟨lst1, by (rw [filtTake_F (by omega) hfit]; assumption), by omega, by (rw [filtTake_F (by omega) hfit] <;> (first | omega | (simp only [List.length_append, List.length_cons, List.length_nil] <;> omega))), ?_⟩
      omega
     (dsimp only; omega)
    simp only [sps] at h45
    refine .skip ?_
    refine hK15 _ _ (.region ?_)
    refine .q rfl (.add rfl rfl rfl (by omega) (by omega)) ?_
    refine .mv rfl (.nil ?_)
    refine hKL2 (j + 1) _ _ ?_ ?_ ⟨rfl, rfl, rfl, rfl, rfl, rfl, rfl, rfl, rfl, rfl, rfl, trivial⟩
    ·
     refine ⟨rfl, ?_⟩
     exact ⟨by omega, by rw [allN_succ, hb]; simpa using h45⟩
    omega
   try simp only [sps] at h32
   refine .exit ?_
   refine hK11 _ _ (.region ?_)
   have hfit : d.coneFit m m' ((d.t.hom m.ap m'.ap).getD i 0) = true := by
     unfold Fun.coneFit
     rw [show m.lg.length = j by omega]
     exact hb
   refine .mv rfl (.mv rfl ?_)
   refine .R rfl (.litA rfl sl_24_A ze_2_L rfl rfl rfl rfl) ?_
   rintro _ H49 ⟨g49, rfl, le49, ge49, at49⟩
   replace hle := hle.trans le49
   replace lst1 := lst1.le le49
   replace at4 := le49.2 _ _ at4
   replace at5 := le49.2 _ _ at5
   replace at_L8 := le49.2 _ _ at_L8
   have lt_at49 := GHeap.ltg at49
   replace h := base_h.mono hle
   replace hin1 := base_hin1.mono hle
   replace hin2 := base_hin2.mono hle
   clear ft
   clear hb4 c14 hi4
   have hb4 : Con.At _ g4 0 m q := ⟨Mem.of_get at4, hin1⟩
   clear hb5 c15 hi5
   have hb5 : Con.At _ g5 0 m' q' := ⟨Mem.of_get at5, hin2⟩
   clear i22
   refine .R rfl (.appendI rfl sl_24_A ze_2_L rfl by_2_L sl_24_A rfl rfl (by assumption) (by assumption) (by first | omega | (simp <;> omega)) (by omega) (by omega)) ?_
   rintro _ H50 ⟨g50, rfl, st50, ge50, at50⟩
   replace hle := hle.st st50 (fun k hk => ⟨by omega, trivial⟩)
   replace lst1 := lst1.sA st50
   replace at4 := st50.s at4
   replace at5 := st50.s at5
   replace h := base_h.mono hle
   replace hin1 := base_hin1.mono hle
   replace hin2 := base_hin2.mono hle
   clear hb4
   have hb4 : Con.At _ g4 0 m q := ⟨Mem.of_get at4, hin1⟩
   clear hb5
   have hb5 : Con.At _ g5 0 m' q' := ⟨Mem.of_get at5, hin2⟩
   refine .mv rfl (.nil (hK9 _ _ (.region ?_)))
   refine .q rfl (.add rfl rfl rfl (by omega) (by omega)) ?_
   refine .mv rfl (.nil ?_)
   refine hKL1 ((i + 1, _, _)) _ _ ?_ ?_ ⟨rfl, rfl, rfl, rfl, rfl, rfl, rfl, trivial⟩
   ·
    refine ⟨lst1, by (rw [filtTake_T (by omega) hfit]; assumption), by omega, by (rw [filtTake_T (by omega) hfit] <;> (first | omega | (simp only [List.length_append, List.length_cons, List.length_nil] <;> omega))), ?_⟩
    omega
   (dsimp only; omega)
  try simp only [sps] at h25
  refine .exit ?_
  refine hK5 _ _ (.seq (fun K18 hK18 => .region (.mv rfl (.mv rfl (.nil (hK18 _ _ ?_))))))
  refine .ret ?_
  refine hret _ _ ?_
  refine ⟨_, rfl, ?_⟩
  obtain rfl : i = (d.t.hom m.ap m'.ap).length := by omega
  rw [List.take_length] at at_L8 ln_L8
  exact ⟨hle, _, by rw [ln_L8]; rfl, at_L8, by omega⟩
end Go.Proofs.Ytppinbcdndmoaaa
namespace Go.Proofs.Ytppinbcdndmoaaa
open Go Go.GL Go.RowKit Go.Proofs
end Go.Proofs.Ytppinbcdndmoaaa
namespace Go.Proofs.Ytppinbcdndmoaaa
open Go Go.GL Go.RowKit Go.Proofs
end Go.Proofs.Ytppinbcdndmoaaa
namespace Go.Proofs.Ytppinbcdndmoaaa
open Go Go.GL Go.RowKit Go.Proofs
end Go.Proofs.Ytppinbcdndmoaaa
namespace Go.GL
structure RowsN (b : Nat) (H : GHeap) (r : Nat → Option Addr) (cs : List Con) (gL : Nat) : Prop where
  row : ∀ i, i < cs.length → ∃ g e, r i = some ⟨g, 0, none⟩ ∧ b ≤ g ∧ g ≠ gL ∧ H.get g = some (.row (ints (cs.getD i .z).lg) e true)
def ConsIn (T : TypeId) (b : Nat) (H : GHeap) (g : Nat) (r : Nat → Option Addr) (cs : List Con) : Prop := b ≤ g ∧ H.get g = some (.row (conV r cs) T true) ∧ ∀ i, i < cs.length → IntsAt b H (r i) (cs.getD i .z).lg
theorem flat2_get {f : Nat → List Value} (h2 : ∀ i, (f i).length = 2) : ∀ {n i j : Nat}, i < n → j < 2 → ((List.range n).flatMap f)[i * 2 + j]? = (f i)[j]?
  | 0, _, _, h, _ => by omega
  | n + 1, i, j, h, hj => by
    have hl : ∀ m, ((List.range m).flatMap f).length = m * 2 := fun m => by
      induction m with
      | zero => rfl
      | succ m ih => rw [List.range_succ, List.flatMap_append, List.length_append, ih]; simp [h2]; omega
    rw [List.range_succ, List.flatMap_append]
    by_cases e : i < n
    · rw [List.getElem?_append_left (by rw [hl]; omega)]
      exact flat2_get h2 e hj
    · obtain rfl : i = n := by omega
      rw [List.getElem?_append_right (by rw [hl]; omega), hl]
      simp
theorem conV_mem {H : GHeap} {g : Nat} {e : TypeId} {own : Bool} {r : Nat → Option Addr} {cs : List Con} (hg : H.get g = some (.row (conV r cs) e own)) {i : Nat} (hi : i < cs.length) : MemN H g (0 + (i : Int).toNat * 2) 2 ((cs.getD i .z).cells ⟨r i⟩) := by
  refine ⟨rfl, fun j v hv => ?_⟩
  have hj : j < 2 := (List.getElem?_eq_some_iff.1 hv).1
  rw [GHeap.cell_of hg, Int.toNat_natCast, Nat.zero_add]
  unfold conV
  rw [flat2_get (f := fun i => (cs.getD i .z).cells ⟨r i⟩) (fun _ => rfl) hi hj]
  exact hv
theorem Fun.cone_of_sol {d : Fun} {x : Nat} {l : List Int} (h : d.Is) (hx : (x : Int) < d.t.obj) (hl : l ∈ (d.cnet (x : Int)).sols d.ob.length) : d.Cone ⟨(x : Int), l⟩ := by
  have hg : (d.cnet (x : Int)).Good d.ob.length := by
    refine ⟨fun y v hv => ?_, fun a ha => ?_, fun a ha => ?_⟩
    · obtain ⟨_, _, _, _, rfl⟩ := Cat.mem_hom.1 hv; omega
    · have := h.arr (a := a) ha
      show (d.s.src.getD a 0).toNat < _; omega
    · have := h.arr (a := a) ha
      show (d.s.tgt.getD a 0).toNat < _; omega
  obtain ⟨h1, h2, h3⟩ := (Net.mem_sols hg).1 hl
  have hh : ∀ j, j < l.length → ∃ z : Nat, z < d.t.src.length ∧ d.t.src.getD z 0 = (x : Int) ∧ d.t.tgt.getD z 0 = d.ob.getD j 0 ∧ l.getD j 0 = z := fun j hj => Cat.mem_hom.1 (h2 j (by omega))
  refine ⟨⟨by show (0 : Int) ≤ x; omega, hx⟩, h1, fun j hj => ?_, fun j hj => ?_, fun a ha => ?_⟩
  · obtain ⟨z, z1, _, _, z4⟩ := hh j hj
    show 0 ≤ l.getD j 0 ∧ l.getD j 0 < _
    rw [z4]; omega
  · obtain ⟨z, z1, z2, z3, z4⟩ := hh j hj
    show d.t.src.getD (l.getD j 0).toNat 0 = (x : Int) ∧ d.t.tgt.getD (l.getD j 0).toNat 0 = _
    rw [z4, Int.toNat_natCast]; exact ⟨z2, z3⟩
  · exact of_decide_eq_true (h3 a ha)
theorem Fun.coneL_cone {d : Fun} (h : d.Is) : ∀ {n : Nat}, (n : Int) ≤ d.t.obj → ∀ c ∈ d.coneL n, d.Cone c
  | 0, _, c, hc => by simp [coneL] at hc
  | n + 1, hn, c, hc => by
    rw [Fun.coneL_succ, List.mem_append, List.mem_map] at hc
    rcases hc with hc | ⟨l, hl, rfl⟩
    · exact Fun.coneL_cone h (by omega) c hc
    · exact Fun.cone_of_sol h (by omega) hl
noncomputable def Fun.univ (d : Fun) (m : Con) : Bool := B (∀ i, i < (d.coneL d.t.obj.toNat).length → (d.coneMaps ((d.coneL d.t.obj.toNat).getD i .z) m).length = 1)
theorem ConsIn.sl {T : TypeId} {b g : Nat} {H : GHeap} {r : Nat → Option Addr} {cs : List Con} (h : ConsIn T b H g r cs) : SlA H (some ⟨g, 0, none⟩) (cs.length * 2) (fun i => (conV r cs).getD i (.bool false)) := SlA.of_row h.2.1 (length_conV _ _)
theorem ConsIn.mem {T : TypeId} {b g : Nat} {H : GHeap} {r : Nat → Option Addr} {cs : List Con} (h : ConsIn T b H g r cs) : ∀ i, i < cs.length → MemN H g (0 + (i : Int).toNat * 2) 2 ((cs.getD i .z).cells ⟨r i⟩) := fun _ hi => conV_mem h.2.1 hi
theorem ConsIn.inn {T : TypeId} {b g : Nat} {H : GHeap} {r : Nat → Option Addr} {cs : List Con} (h : ConsIn T b H g r cs) : ∀ i, i < cs.length → (cs.getD i .z).In H ⟨r i⟩ := fun i hi => (h.2.2 i hi).ints
theorem ConsAt.cin {T e : TypeId} {b g : Nat} {H : GHeap} {r : Nat → Option Addr} {cs : List Con} (h : ConsAt T e b H g r cs) (hb : b ≤ g) : ConsIn T b H g r cs := ⟨hb, h.hd, fun i hi => by
  obtain ⟨x, h1, h2, h3⟩ := h.rows.row i (by rw [List.length_map]; exact hi)
  have ee : (cs.map Con.lg).getD i [] = (cs.getD i .z).lg := by
    rw [List.getD_eq_getElem?_getD, List.getD_eq_getElem?_getD, List.getElem?_map, List.getElem?_eq_getElem hi]; rfl
  exact ⟨x, e, h1, h2, by rw [← ee]; exact h3⟩⟩
end Go.GL
namespace Go.Proofs.Ytppinbcdndmoaaa
open Go Go.GL Go.RowKit Go.Proofs
end Go.Proofs.Ytppinbcdndmoaaa
namespace Go.Proofs.Ytppinbcdndmoaaa
open Go Go.GL Go.RowKit Go.Proofs
theorem on_117_Hh : oneT Try.prog 117 = true := by kernel_rfl
theorem on_63_Hh : oneT Try.prog 63 = true := by kernel_rfl
theorem sz_2_Hh : (Try.prog.info? 2).map (·.size) = some 1 := by kernel_rfl
theorem on_80_Hh : oneT Try.prog 80 = true := by kernel_rfl
theorem sz_63_Hh : (Try.prog.info? 63).map (·.size) = some 1 := by kernel_rfl
theorem sz_117_Hh : (Try.prog.info? 117).map (·.size) = some 1 := by kernel_rfl
theorem sz_65_Hh : (Try.prog.info? 65).map (·.size) = some 1 := by kernel_rfl
theorem ze_24_Hh : zeroT Try.prog 24 = some ([.slice none 0 0], 1) := by kernel_rfl
theorem sz_24_Hh : (Try.prog.info? 24).map (·.size) = some 1 := by kernel_rfl
theorem ze_80_Hh : zeroT Try.prog 80 = some ([.nilFunc], 1) := by kernel_rfl
theorem sz_80_Hh : (Try.prog.info? 80).map (·.size) = some 1 := by kernel_rfl
structure LgBox (gf of gc N fn fc : Nat) (w : Int) (cap : Array Value) (b1 b2 b3 b4 b5 b6 b7 : Nat) (H : GHeap) : Prop where
  k1 : H.get b1 = some (.row [.pointer (some ⟨gf, of + 0, none⟩)] 65 true)
  k2 : H.get b2 = some (.row [.func (.func fn) #[] cap] 117 true)
  k3 : H.get b3 = some (.row [.slice (some ⟨gc, 0, none⟩) N N] 24 true)
  k4 : H.get b4 = some (.row [.pointer (some ⟨gf, of + 5, none⟩)] 65 true)
  k5 : H.get b5 = some (.row [.int .i64 w] 2 true)
  k6 : H.get b6 = some (.row [.pointer (some ⟨gf, of, none⟩)] 63 true)
  k7 : H.get b7 = some (.row [.func (.func fc) #[] #[.pointer (some ⟨b1, 0, none⟩), .pointer (some ⟨b2, 0, none⟩), .pointer (some ⟨b3, 0, none⟩), .pointer (some ⟨b4, 0, none⟩), .pointer (some ⟨b5, 0, none⟩), .pointer (some ⟨b6, 0, none⟩), .pointer (some ⟨b7, 0, none⟩)]] 80 true)
def lgCap (b1 b2 b3 b4 b5 b6 b7 : Nat) : List Value := [.pointer (some ⟨b1, 0, none⟩), .pointer (some ⟨b2, 0, none⟩), .pointer (some ⟨b3, 0, none⟩), .pointer (some ⟨b4, 0, none⟩), .pointer (some ⟨b5, 0, none⟩), .pointer (some ⟨b6, 0, none⟩), .pointer (some ⟨b7, 0, none⟩)]
def LgSpec (f : Fun) (w : Int) (A : Nat → List (List Int) → Nat → GHeap → Prop) (most e0 g1 b gf of gc fn : Nat) (cap : Array Value) (b1 b2 b3 b4 b5 b6 b7 : Nat) (H0 : GHeap) (r : Nat) : Prop :=
  ∀ (x gF : Nat) (co : List Int) (fs : List (List Int)) (H : GHeap), x + r = f.ob.length → H0.Le H → LgBox gf of gc f.ob.length fn 105 w cap b1 b2 b3 b4 b5 b6 b7 H → H.get gc = some (.row (ints co) 2 true) → co.length = f.ob.length →
    (∀ i, i < x → 0 ≤ co.getD i 0 ∧ co.getD i 0 < f.t.src.length) → A b fs gF H → fs.length ≤ most → gF < H.next → H0.next ≤ gF → (gF < e0 ∨ b ≤ gF) → b ≤ H.next →
    GCalls Try.prog 105 (.int .i64 (x : Int) :: lgCap b1 b2 b3 b4 b5 b6 b7) H (fun v H' => ∃ gF' co', v = .bool (decide (fs.length + (searchL (f.cnet w).cand (f.cnet w).ok r (co.take x)).length ≤ most)) ∧ (gF' = gF ∨ H.next ≤ gF') ∧ gF' < H'.next ∧ St [gc, g1, gF] H H' ∧
      H'.get gc = some (.row (ints co') 2 true) ∧ co'.length = f.ob.length ∧ co'.take x = co.take x ∧ A b ((fs ++ searchL (f.cnet w).cand (f.cnet w).ok r (co.take x)).take (most + 1)) gF' H')
set_option maxHeartbeats 4000000 in
theorem legs0_c {f : Fun} {p : FunP} {w : Int} {A : Nat → List (List Int) → Nat → GHeap → Prop} {most e0 g1 b gf of gc fn : Nat} {cap : Array Value} {b1 b2 b3 b4 b5 b6 b7 : Nat} {H0 : GHeap} (hf : Fun.At H0 gf of f p) (hP : f.Is)
    (hH : Hears Try.prog fn cap e0 g1 most 2 A)
    (he0 : H0.next ≤ e0) (hg1 : H0.next ≤ g1) (hg2 : g1 < e0) (c0 : e0 ≤ gc ∧ gc < b) (c1 : e0 ≤ b1 ∧ b1 < b ∧ b1 ≠ gc) (c2 : e0 ≤ b2 ∧ b2 < b ∧ b2 ≠ gc) (c3 : e0 ≤ b3 ∧ b3 < b ∧ b3 ≠ gc) (c4 : e0 ≤ b4 ∧ b4 < b ∧ b4 ≠ gc) (c5 : e0 ≤ b5 ∧ b5 < b ∧ b5 ≠ gc) (c6 : e0 ≤ b6 ∧ b6 < b ∧ b6 ≠ gc) (c7 : e0 ≤ b7 ∧ b7 < b ∧ b7 ≠ gc) :
    LgSpec f w A most e0 g1 b gf of gc fn cap b1 b2 b3 b4 b5 b6 b7 H0 0 := by
  have hs := hP.1.1
  have hol := hP.2.2.ol
  have hob := hs.obj
  intro x gF co fs H hx hle0 hB hgc hl hr hA hfs hF hF0 hF1 hb
  obtain ⟨k1, k2, k3, -, -, -, -⟩ := hB
  refine GCalls.body (N := 94) (rs := [.tmp 9]) Try.func105 rfl rfl rfl rfl (fun Qx hret hend => ?_)
  refine .fg [0, 1, 2, 3, 4, 5, 6, 7] rfl ?_
  have hfo := St.refl [gc, g1, gF] H
  have hz := hle0.st hfo (fun k hk => ⟨by omega, by omega, by omega, trivial⟩)
  have hF2 := hf.mono hz
  obtain ⟨fsf, -, -, -, -, -⟩ := hF2.get
  obtain ⟨s0, -, -, -, -, -, -, -, -⟩ := fsf.get
  refine .seq (fun K1 hK1 => .region (.mv rfl (.nil (hK1 _ _ ?_))))
  refine .scope ?_
  refine .seq (fun K2 hK2 => .seq (fun K3 hK3 => .region (.mv rfl ?_)))
  refine .q rfl (.load on_65_F rfl (by first | assumption | exact Mem.of_get k1 0 _ rfl)) ?_
  refine .q rfl (.nilCheck rfl) (.q rfl (.fieldAddr fo_27_0_B rfl) ?_)
  refine .q rfl (.load on_2_A rfl (by assumption)) ?_
  refine .q rfl (.cmp rfl rfl rfl) (.nil (hK3 _ _ ?_))
  refine .cond rfl (fun h21 => ?_) (fun h21 => ?_)
  ·
   try simp only [sps] at h21
   refine .seq (fun K4 hK4 => .region ?_)
   refine .q rfl (.load on_117_Hh rfl (by first | assumption | exact Mem.of_get k2 0 _ rfl)) ?_
   refine .q rfl (.load on_24_B rfl (by first | assumption | exact Mem.of_get k3 0 _ rfl)) ?_
   refine .callV rfl rfl rfl rfl rfl hH.code rfl ((show GCalls _ fn ([.slice (some ⟨gc, 0, none⟩) f.ob.length f.ob.length] ++ cap.toList) _ _ from hl ▸ hH.run hA c0.1 c0.2 (by omega) hb hgc hfs (by omega) hF)) ?_
   rintro _ H24 ⟨rfl, gF24, hg24, hl24, st24, hA24⟩
   replace hfo := hfo.sA st24
   replace hgc := st24.same _ _ ⟨(by first | assumption | omega), (by first | assumption | omega), trivial⟩ hgc
   clear hz hF2 fsf s0
   have hz := hle0.st hfo (fun k hk => ⟨by omega, by omega, by omega, trivial⟩)
   have hF2 := hf.mono hz
   obtain ⟨fsf, -, -, -, -, -⟩ := hF2.get
   refine .mv rfl (.nil (hK4 _ _ ?_))
   refine .ret ?_
   refine hret _ _ ?_
   refine ⟨_, rfl, ?_⟩
   have hx0 : co.take x = co := List.take_of_length_le (by omega)
   refine ⟨gF24, co, ?_, hg24, hl24, hfo, hgc, hl, rfl, ?_⟩
   · rw [hx0]; rfl
   · rw [hx0, show searchL (f.cnet w).cand (f.cnet w).ok 0 co = [co] from rfl, List.take_of_length_le (by simp; omega)]
     exact hA24
  simp only [sps] at h21; omega
set_option maxHeartbeats 4000000 in
theorem legsS_c {f : Fun} {p : FunP} {w : Int} {A : Nat → List (List Int) → Nat → GHeap → Prop} {most e0 g1 b gf of gc fn : Nat} {cap : Array Value} {b1 b2 b3 b4 b5 b6 b7 : Nat} {H0 : GHeap} (hf : Fun.At H0 gf of f p) (hP : f.Is)
    (hH : Hears Try.prog fn cap e0 g1 most 2 A)
    (he0 : H0.next ≤ e0) (hg1 : H0.next ≤ g1) (hg2 : g1 < e0) (c0 : e0 ≤ gc ∧ gc < b) (c1 : e0 ≤ b1 ∧ b1 < b ∧ b1 ≠ gc) (c2 : e0 ≤ b2 ∧ b2 < b ∧ b2 ≠ gc) (c3 : e0 ≤ b3 ∧ b3 < b ∧ b3 ≠ gc) (c4 : e0 ≤ b4 ∧ b4 < b ∧ b4 ≠ gc) (c5 : e0 ≤ b5 ∧ b5 < b ∧ b5 ≠ gc) (c6 : e0 ≤ b6 ∧ b6 < b ∧ b6 ≠ gc) (c7 : e0 ≤ b7 ∧ b7 < b ∧ b7 ≠ gc) {r : Nat} (ih : LgSpec f w A most e0 g1 b gf of gc fn cap b1 b2 b3 b4 b5 b6 b7 H0 r) :
    LgSpec f w A most e0 g1 b gf of gc fn cap b1 b2 b3 b4 b5 b6 b7 H0 (r + 1) := by
  have hs := hP.1.1
  have n40 := hs.n40
  have hol := hP.2.2.ol
  have hob := hs.obj
  have htl := hs.tl
  have hal2 := hP.2.2.al
  have ht40 := hP.2.1.1.n40
  have hTS := hP.2.1.1
  have hcl0 := hTS.cl
  intro x gF co fs H hx hle0 hB hgc hl hr hA hfs hF hF0 hF1 hb
  obtain ⟨k1, k2, k3, k4, k5, k6, k7⟩ := hB
  refine GCalls.body (N := 94) (rs := [.tmp 9]) Try.func105 rfl rfl rfl rfl (fun Qx hret hend => ?_)
  refine .fg [0, 1, 2, 3, 4, 5, 6, 7] rfl ?_
  have lt_hgc := GHeap.ltg hgc
  have hfo := St.refl [gc, g1, gF] H
  have hz := hle0.st hfo (fun k hk => ⟨by omega, by omega, by omega, trivial⟩)
  have hF2 := hf.mono hz
  obtain ⟨fsf, ftf, c10f, -, j1f, -⟩ := hF2.get
  obtain ⟨s0, -, -, -, -, -, -, -, -⟩ := fsf.get
  refine .seq (fun K1 hK1 => .region (.mv rfl (.nil (hK1 _ _ ?_))))
  refine .scope ?_
  refine .seq (fun K2 hK2 => .seq (fun K3 hK3 => .region (.mv rfl ?_)))
  refine .q rfl (.load on_65_F rfl (by first | assumption | exact Mem.of_get k1 0 _ rfl)) ?_
  refine .q rfl (.nilCheck rfl) (.q rfl (.fieldAddr fo_27_0_B rfl) ?_)
  refine .q rfl (.load on_2_A rfl (by assumption)) ?_
  refine .q rfl (.cmp rfl rfl rfl) (.nil (hK3 _ _ ?_))
  refine .cond rfl (fun h21 => ?_) (fun h21 => ?_)
  ·
   simp only [sps] at h21; omega
  try simp only [sps] at h21
  refine .skip ?_
  refine hK2 _ _ (.seq (fun K4 hK4 => ?_))
  refine .label ?_
  refine hK4 _ _ (.seq (fun K5 hK5 => .seq (fun K6 hK6 => ?_)))
  refine .regionD mo_B (.q 0 (.q 1 (.q 2 (.q 3 (.q 4 (.q 5 (.q 6 (.q 7 (.q 8 (.q 11 (.c 9 1 (.q 10 (.done))))))))))))) (by kernel_rfl) ?_
  refine .q rfl (.load on_65_F rfl (by first | assumption | exact Mem.of_get k4 0 _ rfl)) ?_
  refine .q rfl (.load on_2_A rfl (by first | assumption | exact Mem.of_get k5 0 _ rfl)) ?_
  refine .q rfl (.load on_63_Hh rfl (by first | assumption | exact Mem.of_get k6 0 _ rfl)) ?_
  refine .q rfl (.nilCheck rfl) (.q rfl (.fieldAddr fo_36_2_G rfl) ?_)
  refine .q rfl (.load on_24_B rfl (by assumption)) ?_
  refine .mv rfl rfl ?_
  refine .q rfl (.idxN sl_24_A (by assumption) rfl rfl (by omega)) ?_
  refine .q rfl (.loadI on_2_A (by assumption) rfl (by omega)) ?_
  refine .mv rfl rfl ?_
  refine .call1 rfl rfl rfl rfl rfl @Try.call37 rfl (hom_c (c := f.t)) ?_
  rintro _ H34 ⟨le34, g34, rfl, at34, ge34⟩
  have hbl := le34
  refine ⟨hbl, ?_⟩
  replace hfo := hfo.le le34
  replace k1 := le34.2 _ _ k1
  replace k2 := le34.2 _ _ k2
  replace k3 := le34.2 _ _ k3
  replace k4 := le34.2 _ _ k4
  replace k5 := le34.2 _ _ k5
  replace k6 := le34.2 _ _ k6
  replace k7 := le34.2 _ _ k7
  replace hgc := le34.2 _ _ hgc
  have lt_at34 := GHeap.ltg at34
  clear hz hF2 fsf ftf c10f j1f s0
  have hz := hle0.st hfo (fun k hk => ⟨by omega, by omega, by omega, trivial⟩)
  have hF2 := hf.mono hz
  obtain ⟨fsf, -, -, -, -, -⟩ := hF2.get
  have hhl := Cat.hom_le f.t w (f.ob.getD x 0)
  refine .m rfl rfl rfl rfl hbl (.len sl_24_A rfl) ?_
  refine .done ?_
  refine hK6 _ _ ?_
  refine .block ?_
  refine .loopR (σ := Nat × Nat × List Int) [(0, some _), (1, some _), (3, some _), (4, some _), (6, some _), (7, some _), (34, some _), (35, some _)] (fun (j, gV, co') => [(36, some (.int .i64 (j : Int)))]) (fun (j, gV, co') H' => St [gc, g1, gF] H34 H' ∧ H'.get gc = some (.row (ints co') 2 true) ∧ j ≤ (f.t.hom w (f.ob.getD x 0)).length ∧ co'.length = f.ob.length ∧ co'.take x = co.take x ∧ (gV = gF ∨ H34.next ≤ gV) ∧ gV < H'.next ∧ A b (fs ++ chP (f.cnet w) (fun _ => true) r (co.take x) (f.t.hom w (f.ob.getD x 0)) j) gV H' ∧ (fs ++ chP (f.cnet w) (fun _ => true) r (co.take x) (f.t.hom w (f.ob.getD x 0)) j).length ≤ most) (fun (j, gV, co') => (f.t.hom w (f.ob.getD x 0)).length - j) ((0, gF, co)) ⟨rfl, rfl, rfl, rfl, rfl, rfl, rfl, rfl, trivial⟩ ⟨rfl, trivial⟩ ?_ ?_
  ·
   refine ⟨.refl _ _, by first | assumption | exact hgc | simpa using hgc, ?_⟩
   rw [chP_zero, List.append_nil]
   exact ⟨by omega, hl, rfl, .inl rfl, by omega, hH.le hA le34, hfs⟩
  rintro ⟨j, gV, co'⟩ HL1 ⟨lst1, at_Lgc, hI⟩ KL1 hKL1
  refine .forget (fr' := [(36, some (.int .i64 (j : Int))), (0, some _), (1, some _), (3, some _), (4, some _), (6, some _), (7, some _), (34, some _), (35, some _)]) ⟨rfl, rfl, rfl, rfl, rfl, rfl, rfl, rfl, rfl, trivial⟩ ?_
  have nx_HL1 := lst1.nx
  replace hfo := hfo.sA lst1
  have ne_b1_gc : NE b1 gc := .a
  replace k1 := lst1.same _ _ ⟨ne_b1_gc.ne, (by first | assumption | omega), (by first | assumption | omega), trivial⟩ k1
  have ne_b2_gc : NE b2 gc := .a
  replace k2 := lst1.same _ _ ⟨ne_b2_gc.ne, (by first | assumption | omega), (by first | assumption | omega), trivial⟩ k2
  have ne_b3_gc : NE b3 gc := .a
  replace k3 := lst1.same _ _ ⟨ne_b3_gc.ne, (by first | assumption | omega), (by first | assumption | omega), trivial⟩ k3
  have ne_b4_gc : NE b4 gc := .a
  replace k4 := lst1.same _ _ ⟨ne_b4_gc.ne, (by first | assumption | omega), (by first | assumption | omega), trivial⟩ k4
  have ne_b5_gc : NE b5 gc := .a
  replace k5 := lst1.same _ _ ⟨ne_b5_gc.ne, (by first | assumption | omega), (by first | assumption | omega), trivial⟩ k5
  have ne_b6_gc : NE b6 gc := .a
  replace k6 := lst1.same _ _ ⟨ne_b6_gc.ne, (by first | assumption | omega), (by first | assumption | omega), trivial⟩ k6
  have ne_b7_gc : NE b7 gc := .a
  replace k7 := lst1.same _ _ ⟨ne_b7_gc.ne, (by first | assumption | omega), (by first | assumption | omega), trivial⟩ k7
  replace at34 := lst1.same _ _ ⟨(by first | assumption | omega), (by first | assumption | omega), (by first | assumption | omega), trivial⟩ at34
  clear hz hF2 fsf
  have hz := hle0.st hfo (fun k hk => ⟨by omega, by omega, by omega, trivial⟩)
  have hF2 := hf.mono hz
  obtain ⟨fsf, -, -, -, -, -⟩ := hF2.get
  have i34 := Ints.of_get at34
  obtain ⟨hj, hcl, hct, hgV, hgl, hAL, hfl⟩ := hI
  refine .seq (fun K7 hK7 => .region (.q rfl (.cmp rfl rfl rfl) (.nil (hK7 _ _ (.seq (fun K8 hK8 => ?_))))))
  refine .cond rfl (fun h37 => ?_) (fun h37 => ?_)
  ·
   simp only [sps] at h37
   obtain ⟨v, v1, -, -, v4⟩ := Cat.hom_get (c := f.t) (x := w) (y := f.ob.getD x 0) (i := j) (by omega)
   refine .skip ?_
   refine hK8 _ _ (.seq (fun K9 hK9 => ?_))
   refine .block ?_
   refine .seq (fun K10 hK10 => .region ?_)
   refine .q rfl (.idxN sl_24_A (by first | assumption | exact SlA.of_row at34 (by first | rfl | (simp; done) | (simp <;> omega))) rfl rfl (by omega)) ?_
   refine .q rfl (.loadI on_2_A (by first | assumption | exact Ints.of_get at34) rfl (by omega)) ?_
   refine .mv rfl (.nil (hK10 _ _ (.seq (fun K11 hK11 => .region ?_))))
   refine .q rfl (.load on_24_B rfl (by first | assumption | exact Mem.of_get k3 0 _ rfl)) ?_
   refine .mv rfl (.mv rfl ?_)
   refine .q rfl (.idxN sl_24_A (by first | assumption | exact SlA.of_row at_Lgc (by first | rfl | (simp; done) | (simp <;> omega))) rfl rfl (by omega)) ?_
   refine .r0 rfl rfl (.storeI rfl sz_2_Hh rfl rfl (by assumption) (by first | omega | (simp <;> omega))) ?_
   rintro _ H6004 ⟨rfl, st6004, at6004⟩
   have nx_H6004 := st6004.nx
   replace hfo := hfo.sA st6004
   replace lst1 := lst1.sA st6004
   replace k1 := st6004.s k1 ne_b1_gc.ne
   replace k2 := st6004.s k2 ne_b2_gc.ne
   replace k3 := st6004.s k3 ne_b3_gc.ne
   replace k4 := st6004.s k4 ne_b4_gc.ne
   replace k5 := st6004.s k5 ne_b5_gc.ne
   replace k6 := st6004.s k6 ne_b6_gc.ne
   replace k7 := st6004.s k7 ne_b7_gc.ne
   clear hz hF2 fsf
   have hz := hle0.st hfo (fun k hk => ⟨by omega, by omega, by omega, trivial⟩)
   have hF2 := hf.mono hz
   obtain ⟨fsf, ftf, -, c11f, -, j2f⟩ := hF2.get
   obtain ⟨-, s1, s2, -, -, u1, u2, -, -⟩ := fsf.get
   clear i34
   rw [Nat.zero_add] at at6004
   refine .nil (hK11 _ _ (.seq (fun K12 hK12 => .seq (fun K13 hK13 => .region ?_))))
   have hv : ∀ i, i ≤ x → 0 ≤ (co'.set x ((f.t.hom w (f.ob.getD x 0)).getD j 0)).getD i 0 ∧ (co'.set x ((f.t.hom w (f.ob.getD x 0)).getD j 0)).getD i 0 < f.t.src.length ∧ (co'.set x ((f.t.hom w (f.ob.getD x 0)).getD j 0)).getD i 0 = (co.take x ++ [(f.t.hom w (f.ob.getD x 0)).getD j 0]).getD i 0 := fun i hi => by
     refine ⟨?_, ?_, by rw [take_set_getD (by omega) hi, hct]⟩
     · rw [getD_set (by omega)]
       split
       · omega
       · rw [takeD hct (by omega)]; exact (hr i (by omega)).1
     · rw [getD_set (by omega)]
       split
       · omega
       · rw [takeD hct (by omega)]; exact (hr i (by omega)).2
   have hpl : (co.take x).length = x := by rw [List.length_take]; omega
   have hsl : (co'.set x ((f.t.hom w (f.ob.getD x 0)).getD j 0)).length = f.ob.length := by rw [List.length_set]; exact hcl
   refine .q rfl (.load on_63_Hh rfl (by first | assumption | exact Mem.of_get k6 0 _ rfl)) ?_
   refine .q rfl (.nilCheck rfl) (.q rfl (.fieldAddr fo_36_3_G rfl) ?_)
   refine .q rfl (.load on_24_B rfl (by assumption)) ?_
   refine .q rfl (.len sl_24_A rfl) (.mv rfl (.nil (hK13 _ _ ?_)))
   refine .block ?_
   refine .loopR (σ := Nat) [(0, some _), (1, some _), (3, some _), (4, some _), (6, some _), (7, some _), (34, some _), (35, some _), (36, some _), (47, some _), (48, some _)] (fun a => [(49, some (.int .i64 (a : Int)))]) (fun a H' => H6004 = H' ∧ a ≤ f.ar.length ∧ allN a ((f.cnet w).okAt (co.take x ++ [(f.t.hom w (f.ob.getD x 0)).getD j 0]) x) = true) (fun a => f.ar.length - a) (0) ⟨rfl, rfl, rfl, rfl, rfl, rfl, rfl, rfl, rfl, rfl, rfl, trivial⟩ ⟨rfl, trivial⟩ ?_ ?_
   ·
    refine ⟨rfl, ?_⟩
    exact ⟨by omega, rfl⟩
   rintro a _ ⟨rfl, hI⟩ KL2 hKL2
   refine .forget (fr' := [(49, some (.int .i64 (a : Int))), (0, some _), (1, some _), (3, some _), (4, some _), (6, some _), (7, some _), (34, some _), (35, some _), (36, some _), (47, some _), (48, some _)]) ⟨rfl, rfl, rfl, rfl, rfl, rfl, rfl, rfl, rfl, rfl, rfl, rfl, trivial⟩ ?_
   obtain ⟨ha, hb1⟩ := hI
   refine .seq (fun K14 hK14 => .region (.q rfl (.cmp rfl rfl rfl) (.nil (hK14 _ _ (.seq (fun K15 hK15 => ?_))))))
   refine .cond rfl (fun h50 => ?_) (fun h50 => ?_)
   ·
    simp only [sps] at h50
    have a1 := hs.src a (by omega)
    have a2 := hs.tgt a (by omega)
    have a3 := hP.2.2.ar a (by omega)
    refine .skip ?_
    refine hK15 _ _ (.seq (fun K16 hK16 => ?_))
    refine .block ?_
    refine .seq (fun K17 hK17 => .region (.mv rfl ?_))
    refine .q rfl (.idxN sl_24_A (by assumption) rfl rfl (by omega)) ?_
    refine .q rfl (.loadI on_2_A (by assumption) rfl (by omega)) ?_
    refine .mv rfl (.mv rfl (.nil (hK17 _ _ (.seq (fun K18 hK18 => ?_)))))
    refine .regionD mo_B (.q 0 (.q 1 (.q 2 (.q 3 (.q 4 (.q 5 (.q 6 (.q 7 (.q 8 (.q 9 (.q 10 (.q 11 (.q 12 (.q 13 (.q 14 (.q 15 (.done))))))))))))))))) (by kernel_rfl) ?_
    refine .q rfl (.load on_65_F rfl (by first | assumption | exact Mem.of_get k1 0 _ rfl)) ?_
    refine .q rfl (.nilCheck rfl) (.q rfl (.fieldAddr fo_27_1_B rfl) ?_)
    refine .q rfl (.load on_24_B rfl (by assumption)) ?_
    refine .mv rfl rfl ?_
    refine .q rfl (.idxN sl_24_A (by assumption) rfl rfl (by omega)) ?_
    refine .q rfl (.loadI on_2_A (by assumption) rfl (by omega)) ?_
    refine .q rfl (.load on_65_F rfl (by first | assumption | exact Mem.of_get k1 0 _ rfl)) ?_
    refine .q rfl (.nilCheck rfl) (.q rfl (.fieldAddr fo_27_2_B rfl) ?_)
    refine .q rfl (.load on_24_B rfl (by assumption)) ?_
    refine .mv rfl rfl ?_
    refine .q rfl (.idxN sl_24_A (by assumption) rfl rfl (by omega)) ?_
    refine .q rfl (.loadI on_2_A (by assumption) rfl (by omega)) ?_
    refine .mv rfl rfl (.mv rfl rfl ?_)
    refine .done ?_
    refine hK18 _ _ (.seq (fun K19 hK19 => ?_))
    refine .regionD mo_B (.q 0 (.q 1 (.q 2 (.q 3 (.q 4 (.q 5 (.q 6 (.q 7 (.q 8 (.q 9 (.q 10 (.q 11 (.q 13 (.q 14 (.q 15 (.q 16 (.c 12 1 (.q 17 (.q 18 (.done)))))))))))))))))))) (by kernel_rfl) ?_
    refine .cut [(0, some _), (1, some _), (3, some _), (4, some _), (6, some _), (7, some _), (12, some _), (13, some _), (14, some _), (15, some _), (34, some _), (35, some _), (36, some _), (47, some _), (48, some _), (49, some _), (50, some _), (51, some _), (52, some _), (53, some _), (54, some _), (55, some _), (56, some _), (57, some _), (58, some _), (59, some _), (60, some _), (61, some _), (62, some _), (63, some _), (64, some _), (65, some _), (66, some _), (67, some _)] ⟨rfl, rfl, rfl, rfl, rfl, rfl, rfl, rfl, rfl, rfl, rfl, rfl, rfl, rfl, rfl, rfl, rfl, rfl, rfl, rfl, rfl, rfl, rfl, rfl, rfl, rfl, rfl, rfl, rfl, rfl, rfl, rfl, rfl, rfl, trivial⟩ (fun rest fr' H' => ∃ b' : Bool, Sub ((86, some (.bool b')) :: rest) fr' ∧ H6004 = H' ∧ b' = !((f.cnet w).okAt (co.take x ++ [(f.t.hom w (f.ob.getD x 0)).getD j 0]) x a)) ?_ ?_
    ·
     refine .mv rfl rfl (.mv rfl rfl (.q rfl (.max2 rfl rfl) (.mv rfl rfl (.q rfl (.cmp rfl rfl rfl) (.mv rfl rfl ?_)))))
     refine .split (fun h73 => ?_) (fun h73 => ?_)
     ·
      simp only [sps] at h73
      refine .qg rfl (.load on_65_F rfl (by first | assumption | exact Mem.of_get k4 0 _ rfl)) ?_
      refine .qg rfl (.load on_24_B rfl (by first | assumption | exact Mem.of_get k3 0 _ rfl)) ?_
      refine .qg rfl (.move rfl) ?_
      refine .qg rfl (.idx1 sl_24_A (by first | assumption | exact SlA.of_row at6004 (by first | rfl | (simp; done) | (simp <;> omega))) rfl rfl (by omega) (by omega)) ?_
      refine .qg rfl (.loadI on_2_A (by first | assumption | exact Ints.of_get at6004) rfl (by omega)) ?_
      refine .qg rfl (.move rfl) ?_
      refine .qg rfl (.load on_24_B rfl (by first | assumption | exact Mem.of_get k3 0 _ rfl)) ?_
      refine .qg rfl (.move rfl) ?_
      refine .qg rfl (.idx1 sl_24_A (by first | assumption | exact SlA.of_row at6004 (by first | rfl | (simp; done) | (simp <;> omega))) rfl rfl (by omega) (by omega)) ?_
      refine .qg rfl (.loadI on_2_A (by first | assumption | exact Ints.of_get at6004) rfl (by omega)) ?_
      have w1 := hv (f.s.src.getD a 0).toNat (by omega)
      have w3 := hTS.row ((co'.set x ((f.t.hom w (f.ob.getD x 0)).getD j 0)).getD (f.s.src.getD a 0).toNat 0).toNat (by omega)
      have hcc := then_c (c := f.t) (f := (co'.set x ((f.t.hom w (f.ob.getD x 0)).getD j 0)).getD (f.s.src.getD a 0).toNat 0) (k := f.ar.getD a 0) ftf w1.1 (by omega) a3.1 (by omega)
      refine .callQ1g rfl rfl rfl rfl rfl rfl rfl @Try.call48 rfl (hcc) (.refl _) ?_
      refine .qg rfl (.cmp rfl rfl rfl) (.q rfl (.pickT rfl rfl) ?_)
      refine .done ?_
      refine ⟨_, ⟨rfl, rfl, rfl, rfl, rfl, rfl, rfl, rfl, rfl, rfl, rfl, rfl, rfl, rfl, rfl, rfl, rfl, rfl, rfl, rfl, rfl, rfl, rfl, rfl, rfl, rfl, rfl, rfl, rfl, rfl, rfl, rfl, rfl, rfl, rfl, trivial⟩, rfl, ?_⟩
      rw [Net.okAt_2 (show max (f.s.src.getD a 0).toNat (f.s.tgt.getD a 0).toNat = x by omega)]; exact cnet_ne (hv (f.s.src.getD a 0).toNat (by omega)).2.2 (hv (f.s.tgt.getD a 0).toNat (by omega)).2.2
     simp only [sps] at h73
     refine .z rfl (.z rfl (.z rfl (.z rfl (.z rfl (.z rfl (.z rfl (.z rfl (.z rfl (.z rfl (.sgc rfl rfl rfl rfl rfl rfl (.z rfl (.q rfl (.pickF rfl rfl) ?_))))))))))))
     refine .done ?_
     refine ⟨_, ⟨rfl, rfl, rfl, rfl, rfl, rfl, rfl, rfl, rfl, rfl, rfl, rfl, rfl, rfl, rfl, rfl, rfl, rfl, rfl, rfl, rfl, rfl, rfl, rfl, rfl, rfl, rfl, rfl, rfl, rfl, rfl, rfl, rfl, rfl, rfl, trivial⟩, rfl, ?_⟩
     rw [Net.okAt_1 (show ¬ max (f.s.src.getD a 0).toNat (f.s.tgt.getD a 0).toNat = x by omega)]; rfl
    rintro frJ11 _ ⟨b', hsubJ11, rfl, hJ11⟩
    refine hK19 _ _ ?_
    refine .forget hsubJ11 ?_
    refine .cond rfl (fun h86 => ?_) (fun h86 => ?_)
    ·
     have hG0 : chG (f.cnet w) (fun _ => true) r (co.take x) ((f.t.hom w (f.ob.getD x 0)).getD j 0) = [] := chG_bad (by rw [hpl, Net.ok_eq]; exact allN_early (k := a + 1) (by rw [allN_succ, hb1, bnot_T (hJ11.symm.trans h86)]; rfl) (show a + 1 ≤ f.ar.length by omega))
     obtain ⟨coX, hcX⟩ : ∃ z, z = co'.set x ((f.t.hom w (f.ob.getD x 0)).getD j 0) := ⟨_, rfl⟩
     obtain ⟨gX, hgX⟩ : ∃ z, z = gV := ⟨_, rfl⟩
     refine .exit ?_
     refine hK9 _ _ (.region ?_)
     refine .q rfl (.add rfl rfl rfl (by omega) (by omega)) ?_
     refine .mv rfl (.nil ?_)
     refine hKL1 ((j + 1, gX, coX)) _ _ ?_ ?_ ⟨rfl, rfl, rfl, rfl, rfl, rfl, rfl, rfl, rfl, trivial⟩
     ·
      refine ⟨lst1, by first | assumption | (rw [hcX]; assumption), ?_⟩
      subst hcX
      subst hgX
      first
      | exact ⟨by omega, by rw [List.length_set]; exact hcl, by rw [take_set_lt]; exact hct, hgV, by omega, by rw [chP_no (by omega) hG0]; exact hH.st hAL c0.1 c0.2 (by omega) st6004, by rw [chP_no (by omega) hG0]; exact hfl⟩
      | exact ⟨by omega, hlc91, htk2, by omega, hl91, hA92, hfl2⟩
     (dsimp only; omega)
    have hok := bnot_f (hJ11.symm.trans h86)
    refine .skip ?_
    refine hK16 _ _ (.region ?_)
    refine .q rfl (.add rfl rfl rfl (by omega) (by omega)) ?_
    refine .mv rfl (.nil ?_)
    refine hKL2 (a + 1) _ _ ?_ ?_ ⟨rfl, rfl, rfl, rfl, rfl, rfl, rfl, rfl, rfl, rfl, rfl, rfl, trivial⟩
    ·
     refine ⟨rfl, ?_⟩
     exact ⟨by omega, by rw [allN_succ, hb1, hok]; rfl⟩
    omega
   try simp only [sps] at h50
   refine .exit ?_
   refine hK12 _ _ (.seq (fun K20 hK20 => .region ?_))
   refine .q rfl (.load on_80_Hh rfl (by first | assumption | exact Mem.of_get k7 0 _ rfl)) ?_
   refine .mv rfl ?_
   refine .q rfl (.add rfl rfl rfl (by omega) (by omega)) ?_
   obtain rfl : a = f.ar.length := by omega
   have hok1 : (f.cnet w).ok (co.take x).length (co.take x ++ [(f.t.hom w (f.ob.getD x 0)).getD j 0]) = true := by rw [hpl, Net.ok_eq]; exact hb1
   have hts : (co'.set x ((f.t.hom w (f.ob.getD x 0)).getD j 0)).take (x + 1) = co.take x ++ [(f.t.hom w (f.ob.getD x 0)).getD j 0] := by rw [take_set_succ (by omega), hct]
   have hG1 : chG (f.cnet w) (fun _ => true) r (co.take x) ((f.t.hom w (f.ob.getD x 0)).getD j 0) = searchL (f.cnet w).cand (f.cnet w).ok r ((co'.set x ((f.t.hom w (f.ob.getD x 0)).getD j 0)).take (x + 1)) := by rw [hts]; exact chG_yes rfl hok1
   have hrr : ∀ i, i < x + 1 → 0 ≤ (co'.set x ((f.t.hom w (f.ob.getD x 0)).getD j 0)).getD i 0 ∧ (co'.set x ((f.t.hom w (f.ob.getD x 0)).getD j 0)).getD i 0 < f.t.src.length := fun i hi => ⟨(hv i (by omega)).1, (hv i (by omega)).2.1⟩
   have hA7 := hH.st hAL c0.1 c0.2 (by omega) st6004
   refine .callV rfl rfl rfl rfl rfl @Try.call105 rfl ((ih (x + 1) gV (co'.set x ((f.t.hom w (f.ob.getD x 0)).getD j 0)) (fs ++ chP (f.cnet w) (fun _ => true) r (co.take x) (f.t.hom w (f.ob.getD x 0)) j) _ (by omega) hz ⟨k1, k2, k3, k4, k5, k6, k7⟩ at6004 hsl hrr hA7 hfl (by omega) (by omega) (by omega) (by omega))) ?_
   rintro _ H91 ⟨gF91, co91, rfl, hg91, hl91, st91, at91, hlc91, htk91, hA91⟩
   replace hfo := hfo.sA st91
   replace lst1 := lst1.sA st91
   clear hz hF2 fsf ftf c11f j2f s1 s2 u1 u2
   have hz := hle0.st hfo (fun k hk => ⟨by omega, by omega, by omega, trivial⟩)
   have hF2 := hf.mono hz
   obtain ⟨fsf, -, -, -, -, -⟩ := hF2.get
   refine .q rfl (.not rfl) (.nil (hK20 _ _ ?_))
   refine .cond rfl (fun h92 => ?_) (fun h92 => ?_)
   ·
    have hbig := of_decide_eq_false (bnot_T h92)
    refine .seq (fun K21 hK21 => .region (.mv rfl (.nil (hK21 _ _ ?_))))
    refine .ret ?_
    refine hret _ _ ?_
    refine ⟨_, rfl, ?_⟩
    have hcd : (f.cnet w).cand (co.take x).length = (f.t.hom w (f.ob.getD x 0)).filter (fun _ => true) := by rw [hpl]; exact (List.filter_eq_self.2 (fun _ _ => rfl)).symm
    have hcs := chP_succ (n := f.cnet w) (al := fun _ => true) (r := r) (p := co.take x) (hs := (f.t.hom w (f.ob.getD x 0))) (j := j) (by omega)
    rw [← hG1] at hbig hA91
    have hbl : most + 1 ≤ (fs ++ chP (f.cnet w) (fun _ => true) r (co.take x) (f.t.hom w (f.ob.getD x 0)) (j + 1)).length := by rw [hcs, ← List.append_assoc, List.length_append]; omega
    obtain ⟨f1, f2⟩ := chP_full (M := most + 1) hcd (by omega) hbl
    refine ⟨gF91, co91, ?_, by omega, hl91, hfo, at91, hlc91, by rw [take_le_eq htk91 (by omega), take_set_lt]; exact hct, ?_⟩
    · rw [decide_eq_false (by omega)]
    · rw [f1, hcs, ← List.append_assoc]
      exact hA91
   have hsm := of_decide_eq_true (bnot_f h92)
   obtain ⟨coX, hcX⟩ : ∃ z, z = co91 := ⟨_, rfl⟩
   obtain ⟨gX, hgX⟩ : ∃ z, z = gF91 := ⟨_, rfl⟩
   have hcs := chP_succ (n := f.cnet w) (al := fun _ => true) (r := r) (p := co.take x) (hs := (f.t.hom w (f.ob.getD x 0))) (j := j) (by omega)
   have htk2 : co91.take x = co.take x := by rw [take_le_eq htk91 (by omega), take_set_lt]; exact hct
   rw [← hG1] at hsm hA91
   have hfl2 : (fs ++ chP (f.cnet w) (fun _ => true) r (co.take x) (f.t.hom w (f.ob.getD x 0)) (j + 1)).length ≤ most := by rw [hcs, ← List.append_assoc, List.length_append]; exact hsm
   have hA92 := hA91
   rw [List.append_assoc, ← hcs, List.take_of_length_le (by omega)] at hA92
   refine .skip ?_
   refine hK9 _ _ (.region ?_)
   refine .q rfl (.add rfl rfl rfl (by omega) (by omega)) ?_
   refine .mv rfl (.nil ?_)
   refine hKL1 ((j + 1, gX, coX)) _ _ ?_ ?_ ⟨rfl, rfl, rfl, rfl, rfl, rfl, rfl, rfl, rfl, trivial⟩
   ·
    refine ⟨lst1, by first | assumption | (rw [hcX]; assumption), ?_⟩
    subst hcX
    subst hgX
    first
    | exact ⟨by omega, by rw [List.length_set]; exact hcl, by rw [take_set_lt]; exact hct, hgV, by omega, by rw [chP_no (by omega) hG0]; exact hH.st hAL c0.1 c0.2 (by omega) st6004, by rw [chP_no (by omega) hG0]; exact hfl⟩
    | exact ⟨by omega, hlc91, htk2, by omega, hl91, hA92, hfl2⟩
   (dsimp only; omega)
  try simp only [sps] at h37
  refine .exit ?_
  refine hK5 _ _ (.seq (fun K22 hK22 => .region (.mv rfl (.nil (hK22 _ _ ?_)))))
  refine .ret ?_
  refine hret _ _ ?_
  refine ⟨_, rfl, ?_⟩
  have hpl : (co.take x).length = x := by rw [List.length_take]; omega
  have hcd : (f.cnet w).cand (co.take x).length = (f.t.hom w (f.ob.getD x 0)).filter (fun _ => true) := by rw [hpl]; exact (List.filter_eq_self.2 (fun _ _ => rfl)).symm
  have hj2 : j = (f.t.hom w (f.ob.getD x 0)).length := by omega
  have e9 := chP_all (r := r) hcd
  rw [← hj2] at e9
  refine ⟨gV, co', ?_, by omega, hgl, hfo, at_Lgc, hcl, hct, ?_⟩
  · rw [e9, decide_eq_true (by rw [← List.length_append]; exact hfl)]
  · rw [e9, List.take_of_length_le (by omega)]
    exact hAL
theorem legsC_c {f : Fun} {p : FunP} {w : Int} {A : Nat → List (List Int) → Nat → GHeap → Prop} {most e0 g1 b gf of gc fn : Nat} {cap : Array Value} {b1 b2 b3 b4 b5 b6 b7 : Nat} {H0 : GHeap} (hf : Fun.At H0 gf of f p) (hP : f.Is)
    (hH : Hears Try.prog fn cap e0 g1 most 2 A)
    (he0 : H0.next ≤ e0) (hg1 : H0.next ≤ g1) (hg2 : g1 < e0) (c0 : e0 ≤ gc ∧ gc < b) (c1 : e0 ≤ b1 ∧ b1 < b ∧ b1 ≠ gc) (c2 : e0 ≤ b2 ∧ b2 < b ∧ b2 ≠ gc) (c3 : e0 ≤ b3 ∧ b3 < b ∧ b3 ≠ gc) (c4 : e0 ≤ b4 ∧ b4 < b ∧ b4 ≠ gc) (c5 : e0 ≤ b5 ∧ b5 < b ∧ b5 ≠ gc) (c6 : e0 ≤ b6 ∧ b6 < b ∧ b6 ≠ gc) (c7 : e0 ≤ b7 ∧ b7 < b ∧ b7 ≠ gc) (r : Nat) : LgSpec f w A most e0 g1 b gf of gc fn cap b1 b2 b3 b4 b5 b6 b7 H0 r := by
  induction r with
  | zero => exact legs0_c hf hP hH he0 hg1 hg2 c0 c1 c2 c3 c4 c5 c6 c7
  | succ r ih => exact legsS_c hf hP hH he0 hg1 hg2 c0 c1 c2 c3 c4 c5 c6 c7 ih
set_option maxHeartbeats 4000000 in
theorem legs_c {f : Fun} {p : FunP} {w : Int} {A : Nat → List (List Int) → Nat → GHeap → Prop} {most g1 gF gf of fn : Nat} {cap : Array Value} {H0 H : GHeap} (hf0 : Fun.At H0 gf of f p) (hP : f.Is)
    (hH : Hears Try.prog fn cap H.next g1 most 2 A)
    (hle0 : H0.Le H) (hg1 : H0.next ≤ g1) (hg2 : g1 < H.next) (hF0 : H0.next ≤ gF) (hF : gF < H.next) {fs : List (List Int)} (hfs : fs.length ≤ most) (hA : ∀ b, A b fs gF H) :
    GCalls Try.prog 91 [.pointer (some ⟨gf, of, none⟩), .int .i64 w, .func (.func fn) #[] cap] H (fun v H' => ∃ gF' b, v = .bool (decide (fs.length + ((f.cnet w).sols f.ob.length).length ≤ most)) ∧ H.next ≤ b ∧ b ≤ H'.next ∧ (gF' = gF ∨ H.next ≤ gF') ∧ gF' < H'.next ∧ St [g1, gF] H H' ∧ A b ((fs ++ (f.cnet w).sols f.ob.length).take (most + 1)) gF' H') := by
  have hol := hP.2.2.ol
  have hob := hP.1.1.obj
  have hf := hf0.mono hle0
  refine GCalls.body (N := 26) (rs := [.tmp 6]) Try.func91 rfl rfl rfl rfl (fun Qx hret hend => ?_)
  refine .fg [0, 1, 2] rfl ?_
  have hle := GHeap.Le.refl H
  have base_hf := hf
  refine .seq (fun K1 hK1 => .region ?_)
  refine .R rfl (.boxR rfl sz_63_Hh rfl) ?_
  rintro _ H3 ⟨g3, rfl, le3, ge3, at3⟩
  replace hle := hle.trans le3
  have lt_at3 := GHeap.ltg at3
  replace hf := base_hf.mono hle
  refine .R rfl (.boxR rfl sz_2_Hh rfl) ?_
  rintro _ H4 ⟨g4, rfl, le4, ge4, at4⟩
  replace hle := hle.trans le4
  replace at3 := le4.2 _ _ at3
  have lt_at4 := GHeap.ltg at4
  replace hf := base_hf.mono hle
  refine .R rfl (.boxR rfl sz_117_Hh rfl) ?_
  rintro _ H5 ⟨g5, rfl, le5, ge5, at5⟩
  replace hle := hle.trans le5
  replace at3 := le5.2 _ _ at3
  replace at4 := le5.2 _ _ at4
  have lt_at5 := GHeap.ltg at5
  replace hf := base_hf.mono hle
  refine .mv rfl (.nil (hK1 _ _ (.seq (fun K2 hK2 => ?_))))
  refine .regionD mo_B (.q 0 (.q 1 (.q 2 (.q 3 (.q 4 (.q 5 (.or (.c 6 1 (.c 7 1 (.c 8 1 (.c 9 1 (.done))))) (.c 7 1 (.c 6 1 (.c 8 1 (.c 9 1 (.done)))))))))))) (by kernel_rfl) ?_
  refine .cut [(0, some _), (1, some _), (2, some _), (3, some _), (4, some _), (5, some _), (6, some _)] ⟨rfl, rfl, rfl, rfl, rfl, rfl, rfl, trivial⟩ (fun rest fr' H' => ∃ g7 g8, Sub ((7, some (.pointer (some ⟨g7, 0, none⟩))) :: (8, some (.pointer (some ⟨g8, 0, none⟩))) :: rest) fr' ∧ H5.Le H' ∧ H5.next ≤ g7 ∧ H5.next ≤ g8 ∧ H'.get g7 = some (.row ([.pointer (some ⟨gf, of + 5, none⟩)]) 65 true) ∧ H'.get g8 = some (.row ([.pointer (some ⟨gf, of + 0, none⟩)]) 65 true) ∧ g7 ≠ g8) ?_ ?_
  ·
   have hf0 := GHeap.Le.refl H5
   refine .q rfl (.load on_63_Hh rfl (by first | assumption | exact Mem.of_get at3 0 _ rfl)) ?_
   refine .qB rfl (.refl _) (.nilCheck rfl) (.qB rfl (.refl _) (.fieldAddr fo_36_1_G rfl) ?_)
   refine .q rfl (.load on_63_Hh rfl (by first | assumption | exact Mem.of_get at3 0 _ rfl)) ?_
   refine .qB rfl (.refl _) (.nilCheck rfl) (.qB rfl (.refl _) (.fieldAddr fo_36_0_G rfl) ?_)
   refine .orI ?_ ?_
   ·
    refine .c1 rfl rfl rfl rfl (.allocR rfl ze_65_G rfl) ?_
    rintro _ H7x2 ⟨g7x2, rfl, le7x2, ge7x2, at7x2⟩
    have hbl := le7x2
    refine ⟨hbl, ?_⟩
    have lt_at7x2 := GHeap.ltg at7x2
    replace hf0 := hf0.trans le7x2
    refine .c1 rfl rfl rfl rfl (.allocR rfl ze_65_G rfl) ?_
    rintro _ H8x2 ⟨g8x2, rfl, le8x2, ge8x2, at8x2⟩
    replace hbl := hbl.trans le8x2
    refine ⟨hbl, ?_⟩
    replace at7x2 := le8x2.2 _ _ at7x2
    replace hf0 := hf0.trans le8x2
    refine .r1 rfl rfl rfl (.storeR rfl sz_65_Hh rfl rfl rfl (by assumption) (by first | exact Nat.le_of_ble_eq_true rfl | (simp; done) | (simp <;> omega))) ?_
    rintro _ H1008 ⟨rfl, st1008, at1008⟩
    replace hbl := hbl.st st1008 (fun k hk => ⟨by omega, trivial⟩)
    refine ⟨hbl, ?_⟩
    have ne_g8x2_g7x2 : NE g8x2 g7x2 := .a
    replace at8x2 := st1008.s at8x2 ne_g8x2_g7x2.ne
    try simp only [Nat.zero_add, List.set_cons_succ, List.set_cons_zero] at at1008
    replace hf0 := hf0.st st1008 (fun k hk => ⟨by omega, trivial⟩)
    refine .r1 rfl rfl rfl (.storeR rfl sz_65_Hh rfl rfl rfl (by assumption) (by first | exact Nat.le_of_ble_eq_true rfl | (simp; done) | (simp <;> omega))) ?_
    rintro _ H1009 ⟨rfl, st1009, at1009⟩
    replace hbl := hbl.st st1009 (fun k hk => ⟨by omega, trivial⟩)
    refine ⟨hbl, ?_⟩
    replace at1008 := st1009.s at1008 (Ne.symm ne_g8x2_g7x2.ne)
    try simp only [Nat.zero_add, List.set_cons_succ, List.set_cons_zero] at at1009
    replace hf0 := hf0.st st1009 (fun k hk => ⟨by omega, trivial⟩)
    refine .done ?_
    exact ⟨g7x2, g8x2, ⟨rfl, rfl, rfl, rfl, rfl, rfl, rfl, rfl, rfl, trivial⟩, hf0, by omega, by omega, by first | assumption | simpa using at1008, by first | assumption | simpa using at1009, by omega⟩
   refine .c1 rfl rfl rfl rfl (.allocR rfl ze_65_G rfl) ?_
   rintro _ H8x3 ⟨g8x3, rfl, le8x3, ge8x3, at8x3⟩
   have hbl := le8x3
   refine ⟨hbl, ?_⟩
   have lt_at8x3 := GHeap.ltg at8x3
   replace hf0 := hf0.trans le8x3
   refine .c1 rfl rfl rfl rfl (.allocR rfl ze_65_G rfl) ?_
   rintro _ H7x3 ⟨g7x3, rfl, le7x3, ge7x3, at7x3⟩
   replace hbl := hbl.trans le7x3
   refine ⟨hbl, ?_⟩
   replace at8x3 := le7x3.2 _ _ at8x3
   replace hf0 := hf0.trans le7x3
   refine .r1 rfl rfl rfl (.storeR rfl sz_65_Hh rfl rfl rfl (by assumption) (by first | exact Nat.le_of_ble_eq_true rfl | (simp; done) | (simp <;> omega))) ?_
   rintro _ H1008x2 ⟨rfl, st1008x2, at1008x2⟩
   replace hbl := hbl.st st1008x2 (fun k hk => ⟨by omega, trivial⟩)
   refine ⟨hbl, ?_⟩
   have ne_g8x3_g7x3 : NE g8x3 g7x3 := .a
   replace at8x3 := st1008x2.s at8x3 ne_g8x3_g7x3.ne
   try simp only [Nat.zero_add, List.set_cons_succ, List.set_cons_zero] at at1008x2
   replace hf0 := hf0.st st1008x2 (fun k hk => ⟨by omega, trivial⟩)
   refine .r1 rfl rfl rfl (.storeR rfl sz_65_Hh rfl rfl rfl (by assumption) (by first | exact Nat.le_of_ble_eq_true rfl | (simp; done) | (simp <;> omega))) ?_
   rintro _ H1009x2 ⟨rfl, st1009x2, at1009x2⟩
   replace hbl := hbl.st st1009x2 (fun k hk => ⟨by omega, trivial⟩)
   refine ⟨hbl, ?_⟩
   replace at1008x2 := st1009x2.s at1008x2 (Ne.symm ne_g8x3_g7x3.ne)
   try simp only [Nat.zero_add, List.set_cons_succ, List.set_cons_zero] at at1009x2
   replace hf0 := hf0.st st1009x2 (fun k hk => ⟨by omega, trivial⟩)
   refine .done ?_
   exact ⟨g7x3, g8x3, ⟨rfl, rfl, rfl, rfl, rfl, rfl, rfl, rfl, rfl, trivial⟩, hf0, by omega, by omega, by first | assumption | simpa using at1008x2, by first | assumption | simpa using at1009x2, by omega⟩
  rintro fr8 H8 ⟨g7, g8, hsub8, le8, ge7, ge8, at7, at8, ne8_0⟩
  replace hle := hle.trans le8
  replace at3 := le8.2 _ _ at3
  replace at4 := le8.2 _ _ at4
  replace at5 := le8.2 _ _ at5
  have lt_at7 := GHeap.ltg at7
  have lt_at8 := GHeap.ltg at8
  replace hf := base_hf.mono hle
  obtain ⟨-, -, c10f, -, -, -⟩ := hf.get
  refine hK2 _ _ ?_
  refine .forget hsub8 ?_
  refine .seq (fun K3 hK3 => .region ?_)
  refine .q rfl (.load on_63_Hh rfl (by first | assumption | exact Mem.of_get at3 0 _ rfl)) ?_
  refine .q rfl (.nilCheck rfl) (.q rfl (.fieldAddr fo_36_2_G rfl) ?_)
  refine .q rfl (.load on_24_B rfl (by assumption)) ?_
  refine .q rfl (.len sl_24_A rfl) ?_
  refine .R rfl (.makeIN rfl sl_24_A ze_2_L by_2_L rfl rfl (by omega) (by omega) (by omega)) ?_
  rintro _ H22 ⟨g22, rfl, le22, ge22, at22⟩
  replace hle := hle.trans le22
  replace at3 := le22.2 _ _ at3
  replace at4 := le22.2 _ _ at4
  replace at5 := le22.2 _ _ at5
  replace at7 := le22.2 _ _ at7
  replace at8 := le22.2 _ _ at8
  have lt_at22 := GHeap.ltg at22
  replace hf := base_hf.mono hle
  clear c10f
  refine .R rfl (.allocR rfl ze_24_Hh rfl) ?_
  rintro _ H9 ⟨g9, rfl, le9, ge9, at9⟩
  replace hle := hle.trans le9
  replace at3 := le9.2 _ _ at3
  replace at4 := le9.2 _ _ at4
  replace at5 := le9.2 _ _ at5
  replace at7 := le9.2 _ _ at7
  replace at8 := le9.2 _ _ at8
  replace at22 := le9.2 _ _ at22
  replace hf := base_hf.mono hle
  refine .r0 rfl rfl (.storeR rfl sz_24_Hh rfl rfl rfl (by assumption) (by first | exact Nat.le_of_ble_eq_true rfl | (simp; done) | (simp <;> omega))) ?_
  rintro _ H2007 ⟨rfl, st2007, at2007⟩
  replace hle := hle.st st2007 (fun k hk => ⟨by omega, trivial⟩)
  replace at3 := st2007.s at3
  replace at4 := st2007.s at4
  replace at5 := st2007.s at5
  replace at7 := st2007.s at7
  replace at8 := st2007.s at8
  replace at22 := st2007.s at22
  have lt_at2007 := GHeap.ltg at2007
  replace hf := base_hf.mono hle
  try simp only [Nat.zero_add, List.set_cons_succ, List.set_cons_zero] at at2007
  refine .nil (hK3 _ _ (.seq (fun K4 hK4 => .region ?_)))
  refine .R rfl (.allocR rfl ze_80_Hh rfl) ?_
  rintro _ H10 ⟨g10, rfl, le10, ge10, at10⟩
  have nx_H10 := le10.1
  replace hle := hle.trans le10
  replace at3 := le10.2 _ _ at3
  replace at4 := le10.2 _ _ at4
  replace at5 := le10.2 _ _ at5
  replace at7 := le10.2 _ _ at7
  replace at8 := le10.2 _ _ at8
  replace at22 := le10.2 _ _ at22
  replace at2007 := le10.2 _ _ at2007
  replace hf := base_hf.mono hle
  refine .nil (hK4 _ _ (.seq (fun K5 hK5 => .region (.q rfl (.makeFunc rfl) ?_))))
  refine .r0 rfl rfl (.storeR rfl sz_80_Hh rfl rfl rfl (by assumption) (by first | exact Nat.le_of_ble_eq_true rfl | (simp; done) | (simp <;> omega))) ?_
  rintro _ H4001 ⟨rfl, st4001, at4001⟩
  have nx_H4001 := st4001.nx
  replace hle := hle.st st4001 (fun k hk => ⟨by omega, trivial⟩)
  replace at3 := st4001.s at3
  replace at4 := st4001.s at4
  replace at5 := st4001.s at5
  replace at7 := st4001.s at7
  replace at8 := st4001.s at8
  replace at22 := st4001.s at22
  replace at2007 := st4001.s at2007
  have lt_at4001 := GHeap.ltg at4001
  replace hf := base_hf.mono hle
  try simp only [Nat.zero_add, List.set_cons_succ, List.set_cons_zero] at at4001
  refine .nil (hK5 _ _ (.seq (fun K6 hK6 => .region ?_)))
  refine .q rfl (.load on_80_Hh rfl (by first | assumption | exact Mem.of_get at4001 0 _ rfl)) ?_
  refine .callV rfl rfl rfl rfl rfl @Try.call105 rfl ((legsC_c (b := H4001.next) (gc := g22) (b1 := g8) (b2 := g5) (b3 := g9) (b4 := g7) (b5 := g4) (b6 := g3) (b7 := g10) (e0 := H.next) hf0 hP hH hle0.1 hg1 hg2 (by omega) (by omega) (by omega) (by omega) (by omega) (by omega) (by omega) (by omega) f.ob.length 0 gF (List.replicate f.ob.length 0) fs H4001 (by omega) (hle0.trans hle) ⟨at8, at5, at2007, at7, at4, at3, at4001⟩ at22 (by simp) (fun i hi => by omega) (hH.le (hA _) hle) hfs (by omega) hF0 (.inl hF) (Nat.le_refl _))) ?_
  rintro _ H25 ⟨gF25, co25, rfl, hg25, hl25, st25, at25, hlc25, htk25, hA25⟩
  refine .mv rfl (.nil (hK6 _ _ ?_))
  refine .ret ?_
  refine hret _ _ ?_
  refine ⟨_, rfl, ?_⟩
  exact ⟨gF25, H4001.next, rfl, by omega, st25.nx, by omega, hl25, (St.of_le (bs := [g1, gF]) hle).st st25 (fun k hk ho => ⟨by omega, ho.1, ho.2.1, trivial⟩), hA25⟩
end Go.Proofs.Ytppinbcdndmoaaa
namespace Go.Proofs.Ytppinbcdndmoaaa
open Go Go.GL Go.RowKit Go.Proofs
theorem on_32_Hi : oneT Try.prog 32 = true := by kernel_rfl
theorem bt_38_Hi : buildT Try.prog 38 = some ([.int .i64 0, .slice none 0 0], [(0, 1), (1, 1)]) := by kernel_rfl
theorem sl_32_Hi : sliceT Try.prog 32 = some (38, 2) := by kernel_rfl
theorem ze_38_Hi : zeroT Try.prog 38 = some ([.int .i64 0, .slice none 0 0], 2) := by kernel_rfl
theorem by_38_Hi : (Try.prog.info? 38).map (·.bytes) = some 32 := by kernel_rfl
theorem sz_32_Hi : (Try.prog.info? 32).map (·.size) = some 1 := by kernel_rfl
theorem ze_32_Hi : zeroT Try.prog 32 = some ([.slice none 0 0], 1) := by kernel_rfl
theorem allCones1_c {go gx gF gc b0 e0 b : Nat} {x : Int} {pre : List Con} {q : List Int} {fs : List (List Int)} {H : GHeap} (hA : GathC 32 38 2 2 go gx b0 e0 x pre b fs gF H) (hgc : H.get gc = some (.row (ints q) 2 true)) (n1 : gc ≠ go) (n2 : gc ≠ gF) (n6 : go ≠ gx) (hb : b ≤ H.next) (hb0 : b0 ≤ b) (hfs : pre.length + fs.length ≤ 400) (hq : q.length ≤ 8) :
    GCalls Try.prog 92 [.slice (some ⟨gc, 0, none⟩) q.length q.length, .pointer (some ⟨go, 0, none⟩), .pointer (some ⟨gx, 0, none⟩)] H (fun v H' => v = .bool (decide (fs.length + 1 ≤ 400 - pre.length)) ∧ ∃ gF', (gF' = gF ∨ H.next ≤ gF') ∧ gF' < H'.next ∧ St [go, gF] H H' ∧ GathC 32 38 2 2 go gx b0 e0 x pre b (fs ++ [q]) gF' H') := by
  obtain ⟨hd, hmo, r, hgF, hR, hside⟩ := hA
  have hd0 := hd
  have hgF0 := hgF
  have n3 := row_ne hd hgF rfl
  have n4 := row_ne hmo hgF rfl
  have hln : (pre ++ fs.map fun l => (⟨x, l⟩ : Con)).length = pre.length + fs.length := by simp
  have hfl := length_conV r (pre ++ fs.map fun l => (⟨x, l⟩ : Con))
  refine GCalls.body (N := 15) (rs := [.tmp 4]) Try.func92 rfl rfl rfl rfl (fun Qx hret hend => ?_)
  refine .fg [0, 1, 2] rfl ?_
  have lt_hd := GHeap.ltg hd
  have lt_hgF := GHeap.ltg hgF
  have hfo := St.refl [go, gF] H
  refine .seq (fun K1 hK1 => .region (.mv rfl (.nil (hK1 _ _ (.seq (fun K2 hK2 => ?_))))))
  refine .regionD mo_B (.q 0 (.q 1 (.q 2 (.c 3 1 (.q 4 (.c 5 1 (.c 6 0 (.c 7 0 (.done))))))))) (by kernel_rfl) ?_
  refine .q rfl (.load on_32_Hi rfl (by first | assumption | exact Mem.of_get hd 0 _ rfl)) ?_
  refine .q rfl (.load on_2_A rfl (by first | assumption | exact Mem.of_get hmo 0 _ rfl)) ?_
  refine .mv rfl rfl ?_
  refine .call1 rfl rfl rfl rfl rfl @Try.call69 rfl (clone_c (Ints.of_get hgc)) ?_
  rintro _ H8 ⟨le8, g8, rfl, at8, ge8⟩
  have hbl := le8
  refine ⟨hbl, ?_⟩
  replace hfo := hfo.le le8
  replace hd := le8.2 _ _ hd
  replace hmo := le8.2 _ _ hmo
  replace hgF := le8.2 _ _ hgF
  have lt_at8 := GHeap.ltg at8
  refine .m rfl rfl rfl rfl hbl (.build bt_38_Hi rfl rfl rfl) ?_
  refine .c1 rfl rfl rfl rfl (.litA rfl sl_32_Hi ze_38_Hi rfl rfl rfl rfl) ?_
  rintro _ H10 ⟨g10, rfl, le10, ge10, at10⟩
  have hbl := le10
  refine ⟨hbl, ?_⟩
  replace hfo := hfo.le le10
  replace hd := le10.2 _ _ hd
  replace hmo := le10.2 _ _ hmo
  replace hgF := le10.2 _ _ hgF
  replace at8 := le10.2 _ _ at8
  have lt_at10 := GHeap.ltg at10
  refine .c0 rfl rfl rfl rfl (.appendV rfl sl_32_Hi ze_38_Hi rfl by_38_Hi sl_32_Hi rfl rfl (by assumption) (by assumption) (by first | omega | (simp <;> omega)) rfl rfl (by omega) (by omega)) ?_
  rintro _ H11 ⟨g11, rfl, st11, ge11, at11⟩
  replace hfo := hfo.sA st11
  replace hd := st11.s hd
  replace hmo := st11.s hmo
  replace at8 := st11.s at8
  have lt_at11 := GHeap.ltg at11
  refine .r0 rfl rfl rfl (.storeR rfl sz_32_Hi rfl rfl rfl (by assumption) (by first | exact Nat.le_of_ble_eq_true rfl | (simp; done) | (simp <;> omega))) ?_
  rintro _ H1007 ⟨rfl, st1007, at1007⟩
  have nx_H1007 := st1007.nx
  replace hfo := hfo.sA st1007
  replace hmo := st1007.s hmo
  replace at8 := st1007.s at8
  replace at11 := st1007.s at11
  try simp only [Nat.zero_add, List.set_cons_succ, List.set_cons_zero] at at1007
  refine .done ?_
  refine hK2 _ _ (.seq (fun K3 hK3 => .region ?_))
  refine .q rfl (.load on_32_Hi rfl (by first | assumption | exact Mem.of_get at1007 0 _ rfl)) ?_
  refine .q rfl (.len sl_32_Hi rfl) (.q rfl (.cmp rfl rfl rfl) (.mv rfl (.nil (hK3 _ _ ?_))))
  refine .ret ?_
  refine hret _ _ ?_
  refine ⟨_, rfl, ?_⟩
  have hsn : pre ++ (fs ++ [q]).map (fun l => (⟨x, l⟩ : Con)) = (pre ++ fs.map fun l => (⟨x, l⟩ : Con)) ++ [⟨x, q⟩] := by simp
  have hw0 := hR.st hfo (.cons (hR.neT hd0 rfl) (.cons (hR.neT hgF0 rfl) (.nil _ _)))
  have hw := hw0.snoc2 (x := q) at8 (hR.ne (by omega)) (by omega)
  rw [List.length_map] at hw
  refine ⟨congrArg _ (decide_eq_decide.2 (by omega)), g11, .inr (by omega), by omega, hfo, ?_, hmo, ⟨upd r (pre ++ fs.map fun l => (⟨x, l⟩ : Con)).length (some ⟨g8, 0, none⟩), ?_, ?_, fun i hi g hg => ?_⟩⟩
  · rw [hsn, List.length_append]; exact at1007
  · rw [hsn, conV_snoc]; exact at11
  · rw [hsn, List.map_append]; exact hw
  · by_cases e : i = (pre ++ fs.map fun l => (⟨x, l⟩ : Con)).length
    · subst e
      rw [upd_eq] at hg
      cases hg
      right; omega
    · rw [upd_ne e] at hg
      rw [hsn, List.length_append, List.length_singleton] at hi
      exact hside i (by omega) g hg
set_option maxHeartbeats 4000000 in
theorem allCones_c {g o : Nat} {d : Fun} {p : FunP} {H : GHeap} (h : Fun.At H g o d p := by assumption) (hP : d.Is) :
    GCalls Try.prog 65 [.pointer (some ⟨g, o, none⟩)] H (fun v H' => H.Le H' ∧ ((400 < (d.coneL d.t.obj.toNat).length ∧ v = .tuple #[.slice none 0 0, .bool false]) ∨ ((d.coneL d.t.obj.toNat).length ≤ 400 ∧ ∃ gL r, v = .tuple #[.slice (some ⟨gL, 0, none⟩) (d.coneL d.t.obj.toNat).length (d.coneL d.t.obj.toNat).length, .bool true] ∧ H.next ≤ gL ∧ ConsAt 38 2 H.next H' gL r (d.coneL d.t.obj.toNat)))) := by
  have hob := hP.2.1.1.obj
  refine GCalls.body (N := 25) (rs := [.tmp 2, .tmp 3]) Try.func65 rfl rfl rfl rfl (fun Qx hret hend => ?_)
  refine .fg [0] rfl ?_
  have hle := GHeap.Le.refl H
  have base_h := h
  obtain ⟨fs, ft, c10, c11, j1, j2⟩ := h.get
  have hm : MemN _ _ _ _ _ := ⟨rfl, h.1⟩
  have hi := h.2
  have hms : MemN _ _ _ _ _ := ⟨rfl, fs.1⟩
  have his := fs.2
  have hmt : MemN _ _ _ _ _ := ⟨rfl, ft.1⟩
  have hit := ft.2
  obtain ⟨s0, s1, s2, s3, s4, u1, u2, u3, u4⟩ := ft.get
  refine .seq (fun K1 hK1 => .region (.mv rfl (.mv rfl (.nil (hK1 _ _ (.seq (fun K2 hK2 => .region ?_)))))))
  refine .R rfl (.litA rfl sl_32_Hi ze_38_Hi rfl rfl rfl rfl) ?_
  rintro _ H7 ⟨g7, rfl, le7, ge7, at7⟩
  have nx_H7 := le7.1
  replace hle := hle.trans le7
  have lt_at7 := GHeap.ltg at7
  replace h := base_h.mono hle
  clear fs ft c10 c11 j1 j2 hm hi hms his hmt hit s0 s1 s2 s3 s4 u1 u2 u3 u4
  obtain ⟨fs, ft, c10, c11, j1, j2⟩ := h.get
  have hm : MemN _ _ _ _ _ := ⟨rfl, h.1⟩
  have hi := h.2
  have hms : MemN _ _ _ _ _ := ⟨rfl, fs.1⟩
  have his := fs.2
  have hmt : MemN _ _ _ _ _ := ⟨rfl, ft.1⟩
  have hit := ft.2
  obtain ⟨s0, s1, s2, s3, s4, u1, u2, u3, u4⟩ := ft.get
  refine .R rfl (.allocR rfl ze_32_Hi rfl) ?_
  rintro _ H4 ⟨g4, rfl, le4, ge4, at4⟩
  have nx_H4 := le4.1
  replace hle := hle.trans le4
  replace at7 := le4.2 _ _ at7
  have lt_at4 := GHeap.ltg at4
  replace h := base_h.mono hle
  clear fs ft c10 c11 j1 j2 hm hi hms his hmt hit s0 s1 s2 s3 s4 u1 u2 u3 u4
  obtain ⟨fs, ft, c10, c11, j1, j2⟩ := h.get
  have hm : MemN _ _ _ _ _ := ⟨rfl, h.1⟩
  have hi := h.2
  have hms : MemN _ _ _ _ _ := ⟨rfl, fs.1⟩
  have his := fs.2
  have hmt : MemN _ _ _ _ _ := ⟨rfl, ft.1⟩
  have hit := ft.2
  obtain ⟨s0, s1, s2, s3, s4, u1, u2, u3, u4⟩ := ft.get
  refine .r0 rfl rfl (.storeR rfl sz_32_Hi rfl rfl rfl (by assumption) (by first | exact Nat.le_of_ble_eq_true rfl | (simp; done) | (simp <;> omega))) ?_
  rintro _ H1002 ⟨rfl, st1002, at1002⟩
  have nx_H1002 := st1002.nx
  replace hle := hle.st st1002 (fun k hk => ⟨by omega, trivial⟩)
  replace at7 := st1002.s at7
  have lt_at1002 := GHeap.ltg at1002
  replace h := base_h.mono hle
  clear fs ft c10 c11 j1 j2 hm hi hms his hmt hit s0 s1 s2 s3 s4 u1 u2 u3 u4
  obtain ⟨fs, ft, c10, c11, j1, j2⟩ := h.get
  have hm : MemN _ _ _ _ _ := ⟨rfl, h.1⟩
  have hi := h.2
  have hms : MemN _ _ _ _ _ := ⟨rfl, fs.1⟩
  have his := fs.2
  have hmt : MemN _ _ _ _ _ := ⟨rfl, ft.1⟩
  have hit := ft.2
  obtain ⟨s0, s1, s2, s3, s4, u1, u2, u3, u4⟩ := ft.get
  try simp only [Nat.zero_add, List.set_cons_succ, List.set_cons_zero] at at1002
  refine .nil (hK2 _ _ (.seq (fun K3 hK3 => .seq (fun K4 hK4 => .region ?_))))
  refine .R rfl (.allocR rfl ze_2_L rfl) ?_
  rintro _ H5 ⟨g5, rfl, le5, ge5, at5⟩
  have nx_H5 := le5.1
  replace hle := hle.trans le5
  replace at7 := le5.2 _ _ at7
  replace at1002 := le5.2 _ _ at1002
  have lt_at5 := GHeap.ltg at5
  replace h := base_h.mono hle
  clear fs ft c10 c11 j1 j2 hm hi hms his hmt hit s0 s1 s2 s3 s4 u1 u2 u3 u4
  obtain ⟨fs, ft, c10, c11, j1, j2⟩ := h.get
  have hm : MemN _ _ _ _ _ := ⟨rfl, h.1⟩
  have hi := h.2
  have hms : MemN _ _ _ _ _ := ⟨rfl, fs.1⟩
  have his := fs.2
  have hmt : MemN _ _ _ _ _ := ⟨rfl, ft.1⟩
  have hit := ft.2
  obtain ⟨s0, s1, s2, s3, s4, u1, u2, u3, u4⟩ := ft.get
  refine .r0 rfl rfl (.storeR rfl sz_2_Hh rfl rfl rfl (by assumption) (by first | exact Nat.le_of_ble_eq_true rfl | (simp; done) | (simp <;> omega))) ?_
  rintro _ H2001 ⟨rfl, st2001, at2001⟩
  have nx_H2001 := st2001.nx
  replace hle := hle.st st2001 (fun k hk => ⟨by omega, trivial⟩)
  have ne_g7_g5 : NE g7 g5 := .a
  replace at7 := st2001.s at7 ne_g7_g5.ne
  have ne_g4_g5 : NE g4 g5 := .a
  replace at1002 := st2001.s at1002 ne_g4_g5.ne
  have lt_at2001 := GHeap.ltg at2001
  replace h := base_h.mono hle
  clear fs ft c10 c11 j1 j2 hm hi hms his hmt hit s0 s1 s2 s3 s4 u1 u2 u3 u4
  obtain ⟨fs, ft, c10, c11, j1, j2⟩ := h.get
  have hm : MemN _ _ _ _ _ := ⟨rfl, h.1⟩
  have hi := h.2
  have hms : MemN _ _ _ _ _ := ⟨rfl, fs.1⟩
  have his := fs.2
  have hmt : MemN _ _ _ _ _ := ⟨rfl, ft.1⟩
  have hit := ft.2
  obtain ⟨s0, s1, s2, s3, s4, u1, u2, u3, u4⟩ := ft.get
  try simp only [Nat.zero_add, List.set_cons_succ, List.set_cons_zero] at at2001
  refine .nil (hK4 _ _ ?_)
  refine .block ?_
  refine .loopR (σ := Nat × Nat × Nat) [(0, some _), (4, some _)] (fun (x, gx, gV) => [(5, some (.pointer (some ⟨gx, 0, none⟩)))]) (fun (x, gx, gV) H' => St [g4, g7] H2001 H' ∧ x ≤ d.t.obj.toNat ∧ (d.coneL x).length ≤ 400 ∧ (gx = g5 ∨ H2001.next ≤ gx) ∧ gx < H'.next ∧ (gV = g7 ∨ H2001.next ≤ gV) ∧ gV < H'.next ∧ gx ≠ gV ∧ H'.get gx = some (.row [.int .i64 (x : Int)] 2 true) ∧ H'.get g4 = some (.row [.slice (some ⟨gV, 0, none⟩) (d.coneL x).length (d.coneL x).length] 32 true) ∧ ∃ r, H'.get gV = some (.row (conV r (d.coneL x)) 38 true) ∧ OwnL H.next H' 2 r ((d.coneL x).map Con.lg)) (fun (x, gx, gV) => d.t.obj.toNat - x) ((0, g5, g7)) ⟨rfl, rfl, trivial⟩ ⟨rfl, trivial⟩ ?_ ?_
  ·
   refine ⟨.refl _ _, ?_⟩
   exact ⟨by omega, by simp [Fun.coneL], .inl rfl, by omega, .inl rfl, by omega, by omega, at2001, at1002, fun _ => none, at7, .nil _ _ _ _⟩
  rintro ⟨x, gx, gV⟩ HL1 ⟨lst1, hI⟩ KL1 hKL1
  refine .forget (fr' := [(5, some (.pointer (some ⟨gx, 0, none⟩))), (0, some _), (4, some _)]) ⟨rfl, rfl, rfl, trivial⟩ ?_
  have nx_HL1 := lst1.nx
  replace hle := hle.st lst1 (fun k hk => ⟨by omega, by omega, trivial⟩)
  replace at2001 := lst1.same _ _ ⟨(Ne.symm ne_g4_g5.ne), (Ne.symm ne_g7_g5.ne), trivial⟩ at2001
  replace h := base_h.mono hle
  clear fs ft c10 c11 j1 j2 hm hi hms his hmt hit s0 s1 s2 s3 s4 u1 u2 u3 u4
  obtain ⟨fs, ft, c10, c11, j1, j2⟩ := h.get
  have hm : MemN _ _ _ _ _ := ⟨rfl, h.1⟩
  have hi := h.2
  have hms : MemN _ _ _ _ _ := ⟨rfl, fs.1⟩
  have his := fs.2
  have hmt : MemN _ _ _ _ _ := ⟨rfl, ft.1⟩
  have hit := ft.2
  obtain ⟨s0, s1, s2, s3, s4, u1, u2, u3, u4⟩ := ft.get
  obtain ⟨hx, hcl, hgx, hgxl, hgV, hgVl, hxv, hix, hd, r, hgc, hR⟩ := hI
  have c5 := Mem.of_get hix 0 _ rfl
  refine .seq (fun K5 hK5 => .seq (fun K6 hK6 => ?_))
  refine .regionD mo_B (.q 0 (.q 1 (.q 2 (.q 3 (.q 4 (.q 5 (.q 6 (.done)))))))) (by kernel_rfl) ?_
  refine .q rfl (.load on_2_A rfl (by assumption)) ?_
  refine .mv rfl rfl (.q rfl (.nilCheck rfl) (.q rfl (.fieldAddr fo_36_1_G rfl) (.q rfl (.fieldAddr fo_27_0_B rfl) ?_)))
  refine .q rfl (.load on_2_A rfl (by assumption)) ?_
  refine .q rfl (.cmp rfl rfl rfl) ?_
  refine .done ?_
  refine hK6 _ _ ?_
  refine .cond rfl (fun h14 => ?_) (fun h14 => ?_)
  ·
   simp only [sps] at h14
   refine .skip ?_
   refine hK5 _ _ (.seq (fun K7 hK7 => ?_))
   refine .block ?_
   refine .seq (fun K8 hK8 => .region (.mv rfl ?_))
   refine .q rfl (.load on_2_A rfl (by assumption)) ?_
   refine .q rfl (.makeFunc rfl) ?_
   have hears : Hears Try.prog 92 #[.pointer (some ⟨g4, 0, none⟩), .pointer (some ⟨gx, 0, none⟩)] HL1.next g4 (400 - (d.coneL x).length) 2 (fun b fs gF H' => GathC 32 38 2 2 g4 gx H.next HL1.next (x : Int) (d.coneL x) b fs gF H') := ⟨@Try.call92, fun h s => h.le s, fun h h1 h2 h3 s => h.st s (by omega) (by omega) h3 h1 h2, fun hA h1 h2 h3 h4 h5 h6 h7 _ => allCones1_c hA h5 (by omega) h3 (by omega) h4 (by omega) (by omega) h7⟩
   refine .call rfl rfl rfl rfl @Try.call91 rfl ((legs_c (H0 := H) (w := (x : Int)) (gF := gV) (g1 := g4) (fs := []) base_h hP hears hle (by omega) (by omega) (by omega) (by omega) (by simp) (fun b => ⟨by simpa using hd, hix, r, by simpa using hgc, by simpa using hR, fun i hi g hg => .inl (hR.side i (by simpa using hi) g hg)⟩))) ?_
   rintro _ H20 ⟨gF20, b20, rfl, hb20, hbb20, hg20, hl20, st20, hA20⟩
   obtain ⟨hd20, hix20, r20, hgF20, hR20, hsd20⟩ := hA20
   have rk20 := St.refl [] H20
   have nx_H20 := st20.nx
   replace hle := hle.st st20 (fun k hk => ⟨by omega, by omega, trivial⟩)
   replace lst1 := lst1.sA st20
   replace at2001 := st20.same _ _ ⟨(Ne.symm ne_g4_g5.ne), (by first | assumption | omega), trivial⟩ at2001
   have lt_hd20 := GHeap.ltg hd20
   have lt_hgF20 := GHeap.ltg hgF20
   replace h := base_h.mono hle
   clear fs ft c10 c11 j1 j2 hm hi hms his hmt hit s0 s1 s2 s3 s4 u1 u2 u3 u4
   obtain ⟨fs, ft, c10, c11, j1, j2⟩ := h.get
   have hm : MemN _ _ _ _ _ := ⟨rfl, h.1⟩
   have hi := h.2
   have hms : MemN _ _ _ _ _ := ⟨rfl, fs.1⟩
   have his := fs.2
   have hmt : MemN _ _ _ _ _ := ⟨rfl, ft.1⟩
   have hit := ft.2
   obtain ⟨s0, s1, s2, s3, s4, u1, u2, u3, u4⟩ := ft.get
   refine .mv rfl (.nil (hK8 _ _ (.seq (fun K9 hK9 => .region (.mv rfl (.q rfl (.not rfl) (.nil (hK9 _ _ ?_))))))))
   refine .cond rfl (fun h22 => ?_) (fun h22 => ?_)
   ·
    have hbig := Fun.coneL_big (d := d) (x := x) (n := d.t.obj.toNat) (by omega) (by have := of_decide_eq_false (bnot_T h22); rw [List.length_nil, Nat.zero_add] at this; exact this) hcl
    refine .seq (fun K10 hK10 => .region (.mv rfl (.mv rfl (.nil (hK10 _ _ ?_)))))
    refine .ret ?_
    refine hret _ _ ?_
    refine ⟨_, _, rfl, rfl, ?_⟩
    exact ⟨hle, .inl ⟨hbig, rfl⟩⟩
   have hsm := of_decide_eq_true (bnot_f h22)
   rw [List.length_nil, Nat.zero_add] at hsm
   have hE := Fun.coneL_next hsm
   have hlen : (d.coneL (x + 1)).length ≤ 400 := by rw [Fun.coneL_succ, List.length_append, List.length_map]; omega
   rw [hE] at hd20 hgF20 hR20
   refine .skip ?_
   refine hK7 _ _ (.seq (fun K11 hK11 => .seq (fun K12 hK12 => .region ?_)))
   have c5b := Mem.of_get hix20 0 _ rfl
   refine .q rfl (.load on_2_A rfl (by assumption)) ?_
   refine .nil (hK12 _ _ (.region ?_))
   refine .R rfl (.allocR rfl ze_2_L rfl) ?_
   rintro _ H5x2 ⟨g5x2, rfl, le5x2, ge5x2, at5x2⟩
   have nx_H5x2 := le5x2.1
   replace hle := hle.trans le5x2
   replace lst1 := lst1.le le5x2
   replace rk20 := rk20.le le5x2
   replace at2001 := le5x2.2 _ _ at2001
   replace hd20 := le5x2.2 _ _ hd20
   replace hgF20 := le5x2.2 _ _ hgF20
   have lt_at5x2 := GHeap.ltg at5x2
   replace h := base_h.mono hle
   clear fs ft c10 c11 j1 j2 hm hi hms his hmt hit s0 s1 s2 s3 s4 u1 u2 u3 u4
   obtain ⟨fs, ft, c10, c11, j1, j2⟩ := h.get
   have hm : MemN _ _ _ _ _ := ⟨rfl, h.1⟩
   have hi := h.2
   have hms : MemN _ _ _ _ _ := ⟨rfl, fs.1⟩
   have his := fs.2
   have hmt : MemN _ _ _ _ _ := ⟨rfl, ft.1⟩
   have hit := ft.2
   obtain ⟨s0, s1, s2, s3, s4, u1, u2, u3, u4⟩ := ft.get
   refine .r0 rfl rfl (.storeR rfl sz_2_Hh rfl rfl rfl (by assumption) (by first | exact Nat.le_of_ble_eq_true rfl | (simp; done) | (simp <;> omega))) ?_
   rintro _ H9001 ⟨rfl, st9001, at9001⟩
   have nx_H9001 := st9001.nx
   replace hle := hle.st st9001 (fun k hk => ⟨by omega, trivial⟩)
   replace lst1 := lst1.sA st9001
   replace rk20 := rk20.sA st9001
   have ne_g5_g5x2 : NE g5 g5x2 := .a
   replace at2001 := st9001.s at2001 ne_g5_g5x2.ne
   have ne_g4_g5x2 : NE g4 g5x2 := .a
   replace hd20 := st9001.s hd20 ne_g4_g5x2.ne
   have ne_gF20_g5x2 : NE gF20 g5x2 := .a
   replace hgF20 := st9001.s hgF20 ne_gF20_g5x2.ne
   have lt_at9001 := GHeap.ltg at9001
   replace h := base_h.mono hle
   clear fs ft c10 c11 j1 j2 hm hi hms his hmt hit s0 s1 s2 s3 s4 u1 u2 u3 u4
   obtain ⟨fs, ft, c10, c11, j1, j2⟩ := h.get
   have hm : MemN _ _ _ _ _ := ⟨rfl, h.1⟩
   have hi := h.2
   have hms : MemN _ _ _ _ _ := ⟨rfl, fs.1⟩
   have his := fs.2
   have hmt : MemN _ _ _ _ _ := ⟨rfl, ft.1⟩
   have hit := ft.2
   obtain ⟨s0, s1, s2, s3, s4, u1, u2, u3, u4⟩ := ft.get
   try simp only [Nat.zero_add, List.set_cons_succ, List.set_cons_zero] at at9001
   refine .nil (hK11 _ _ (.region ?_))
   refine .q rfl (.load on_2_A rfl (by first | assumption | exact Mem.of_get at9001 0 _ rfl)) ?_
   refine .q rfl (.add rfl rfl rfl (by omega) (by omega)) ?_
   refine .r0 rfl rfl (.storeR rfl sz_2_Hh rfl rfl rfl (by assumption) (by first | exact Nat.le_of_ble_eq_true rfl | (simp; done) | (simp <;> omega))) ?_
   rintro _ H4002 ⟨rfl, st4002, at4002⟩
   have nx_H4002 := st4002.nx
   replace hle := hle.st st4002 (fun k hk => ⟨by omega, trivial⟩)
   replace lst1 := lst1.sA st4002
   replace rk20 := rk20.sA st4002
   replace at2001 := st4002.s at2001 ne_g5_g5x2.ne
   replace hd20 := st4002.s hd20 ne_g4_g5x2.ne
   replace hgF20 := st4002.s hgF20 ne_gF20_g5x2.ne
   have lt_at4002 := GHeap.ltg at4002
   replace h := base_h.mono hle
   clear fs ft c10 c11 j1 j2 hm hi hms his hmt hit s0 s1 s2 s3 s4 u1 u2 u3 u4
   obtain ⟨fs, ft, c10, c11, j1, j2⟩ := h.get
   have hm : MemN _ _ _ _ _ := ⟨rfl, h.1⟩
   have hi := h.2
   have hms : MemN _ _ _ _ _ := ⟨rfl, fs.1⟩
   have his := fs.2
   have hmt : MemN _ _ _ _ _ := ⟨rfl, ft.1⟩
   have hit := ft.2
   obtain ⟨s0, s1, s2, s3, s4, u1, u2, u3, u4⟩ := ft.get
   try simp only [Nat.zero_add, List.set_cons_succ, List.set_cons_zero] at at4002
   refine .nil ?_
   refine hKL1 ((x + 1, g5x2, gF20)) _ _ ?_ ?_ ⟨rfl, rfl, rfl, trivial⟩
   ·
    refine ⟨lst1, ?_⟩
    exact ⟨by omega, hlen, .inr (by omega), by omega, by omega, by omega, by omega, at4002, hd20, r20, hgF20, hR20.mono (rk20.le_of_nil)⟩
   (dsimp only; omega)
  simp only [sps] at h14
  refine .exit ?_
  refine hK3 _ _ (.seq (fun K13 hK13 => .region ?_))
  have c44 := Mem.of_get hd 0 _ rfl
  refine .q rfl (.load on_32_Hi rfl (by assumption)) ?_
  refine .mv rfl (.mv rfl (.nil (hK13 _ _ ?_)))
  refine .ret ?_
  refine hret _ _ ?_
  refine ⟨_, _, rfl, rfl, ?_⟩
  obtain rfl : x = d.t.obj.toNat := by omega
  exact ⟨hle, .inr ⟨hcl, gV, r, rfl, by omega, hgc, hR⟩⟩
end Go.Proofs.Ytppinbcdndmoaaa
namespace Go.Proofs.Ytppinbcdndmoaaa
open Go Go.GL Go.RowKit Go.Proofs
theorem ag_38_Hl : aggT Try.prog 38 = some 2 := by kernel_rfl
set_option maxHeartbeats 4000000 in
theorem isUniversal_c {g o k n : Nat} {d : Fun} {p : FunP} {m : Con} {q : ConP} {C : Nat → Con} {P : Nat → ConP} {f : Nat → Value} {H : GHeap} (h : Fun.At H g o d p) (hI : d.Is) (hm : m.In H q) (hcm : d.Cone m) (hn : n ≤ 1000) (hsl : SlA H (some ⟨k, 0, none⟩) (n * 2) f)
    (hmem : ∀ i, i < n → MemN H k (0 + (i : Int).toNat * 2) 2 ((C i).cells (P i))) (hins : ∀ i, i < n → (C i).In H (P i)) (hcs : ∀ i, i < n → d.Cone (C i)) :
    GCalls Try.prog 66 [.pointer (some ⟨g, o, none⟩), .slice (some ⟨k, 0, none⟩) n n, .agg (m.cells q).toArray] H (Ret (.bool (B (∀ i, i < n → (d.coneMaps (C i) m).length = 1))) H) := by
  refine GCalls.ret rfl ?_
  have hI0 := hI
  refine GCalls.body (N := 22) (rs := [.tmp 6]) Try.func66 rfl rfl rfl rfl (fun Qx hret hend => ?_)
  refine .fg [0, 1, 2] rfl ?_
  have hle := GHeap.Le.refl H
  have base_h := h
  have base_hm := hm
  have base_hsl := hsl
  refine .seq (fun K1 hK1 => .region ?_)
  refine .R rfl (.boxR rfl sz_38_Cm rfl) ?_
  rintro _ H5 ⟨g5, rfl, le5, ge5, at5⟩
  have nx_H5 := le5.1
  replace hle := hle.trans le5
  have lt_at5 := GHeap.ltg at5
  replace h := base_h.mono hle
  replace hm := base_hm.mono hle
  replace hsl := base_hsl.mono hle
  have hb5 : Con.At _ g5 0 m q := ⟨Mem.of_get at5, hm⟩
  obtain ⟨c05, c15, i15⟩ := hb5.get
  have hm5 : MemN _ _ _ _ _ := ⟨rfl, hb5.1⟩
  have hi5 := hb5.2
  refine .mv rfl (.nil (hK1 _ _ (.seq (fun K2 hK2 => .seq (fun K3 hK3 => .region (.mv rfl (.q rfl (.len sl_32_Hi rfl) (.mv rfl (.nil (hK3 _ _ ?_))))))))))
  refine .block ?_
  refine .loopR (σ := Nat) [(0, some _), (5, some _), (9, some _), (10, some _)] (fun i => [(11, some (.int .i64 (i : Int)))]) (fun i H' => St [] H5 H' ∧ i ≤ n ∧ ∀ j, j < i → (d.coneMaps (C j) m).length = 1) (fun i => n - i) (0) ⟨rfl, rfl, rfl, rfl, trivial⟩ ⟨rfl, trivial⟩ ?_ ?_
  ·
   refine ⟨.refl _ _, ?_⟩
   exact ⟨by omega, fun j hj => by omega⟩
  rintro i HL1 ⟨lst1, hI⟩ KL1 hKL1
  refine .forget (fr' := [(11, some (.int .i64 (i : Int))), (0, some _), (5, some _), (9, some _), (10, some _)]) ⟨rfl, rfl, rfl, rfl, rfl, trivial⟩ ?_
  have nx_HL1 := lst1.nx
  replace hle := hle.st lst1 (fun k hk => trivial)
  replace at5 := lst1.same _ _ trivial at5
  replace h := base_h.mono hle
  replace hm := base_hm.mono hle
  replace hsl := base_hsl.mono hle
  clear hb5 c05 c15 i15 hm5 hi5
  have hb5 : Con.At _ g5 0 m q := ⟨Mem.of_get at5, hm⟩
  obtain ⟨c05, c15, i15⟩ := hb5.get
  have hm5 : MemN _ _ _ _ _ := ⟨rfl, hb5.1⟩
  have hi5 := hb5.2
  obtain ⟨hi, ha⟩ := hI
  refine .seq (fun K4 hK4 => .region (.q rfl (.cmp rfl rfl rfl) (.nil (hK4 _ _ (.seq (fun K5 hK5 => ?_))))))
  refine .cond rfl (fun h12 => ?_) (fun h12 => ?_)
  ·
   simp only [sps] at h12
   have hm1 : MemN _ _ _ _ _ := ⟨(hmem i (by omega)).1, (hmem i (by omega)).2.mono hle⟩
   have hin1 := (hins i (by omega)).mono hle
   refine .skip ?_
   refine hK5 _ _ (.seq (fun K6 hK6 => ?_))
   refine .block ?_
   refine .seq (fun K7 hK7 => .region ?_)
   refine .q rfl (.idx sl_32_Hi (by assumption) (by omega) rfl rfl (by omega) (by omega) rfl) ?_
   refine .q rfl (.loadM ag_38_Hl rfl (by assumption)) ?_
   refine .R rfl (.allocR rfl ze_38_Hi rfl) ?_
   rintro _ H8 ⟨g8, rfl, le8, ge8, at8⟩
   have nx_H8 := le8.1
   replace hle := hle.trans le8
   replace lst1 := lst1.le le8
   replace at5 := le8.2 _ _ at5
   have lt_at8 := GHeap.ltg at8
   replace h := base_h.mono hle
   replace hm := base_hm.mono hle
   replace hsl := base_hsl.mono hle
   clear hb5 c05 c15 i15 hm5 hi5
   have hb5 : Con.At _ g5 0 m q := ⟨Mem.of_get at5, hm⟩
   obtain ⟨c05, c15, i15⟩ := hb5.get
   have hm5 : MemN _ _ _ _ _ := ⟨rfl, hb5.1⟩
   have hi5 := hb5.2
   clear hm1 hin1
   have hm1 : MemN _ _ _ _ _ := ⟨(hmem i (by omega)).1, (hmem i (by omega)).2.mono hle⟩
   have hin1 := (hins i (by omega)).mono hle
   refine .r0 rfl rfl (.fillA rfl sz_38_Cm rfl rfl rfl rfl) ?_
   rintro _ H3003 ⟨rfl, st3003, at3003⟩
   have nx_H3003 := st3003.nx
   replace hle := hle.st st3003 (fun k hk => ⟨by omega, trivial⟩)
   replace lst1 := lst1.sA st3003
   replace at5 := st3003.s at5
   have lt_at3003 := GHeap.ltg at3003
   replace h := base_h.mono hle
   replace hm := base_hm.mono hle
   replace hsl := base_hsl.mono hle
   clear hb5 c05 c15 i15 hm5 hi5
   have hb5 : Con.At _ g5 0 m q := ⟨Mem.of_get at5, hm⟩
   obtain ⟨c05, c15, i15⟩ := hb5.get
   have hm5 : MemN _ _ _ _ _ := ⟨rfl, hb5.1⟩
   have hi5 := hb5.2
   clear hm1 hin1
   have hm1 : MemN _ _ _ _ _ := ⟨(hmem i (by omega)).1, (hmem i (by omega)).2.mono hle⟩
   have hin1 := (hins i (by omega)).mono hle
   have mm3003 : MemN _ _ _ _ _ := ⟨rfl, Mem.of_get at3003⟩
   have hb8 : Con.At _ g8 0 (C i) (P i) := ⟨Mem.of_get at3003, hin1⟩
   obtain ⟨c08, c18, i18⟩ := hb8.get
   have hm8 : MemN _ _ _ _ _ := ⟨rfl, hb8.1⟩
   have hi8 := hb8.2
   refine .nil (hK7 _ _ (.seq (fun K8 hK8 => .region (.mv rfl ?_))))
   refine .q rfl (.loadM ag_38_Hl rfl ⟨rfl, Mem.of_get at3003⟩) ?_
   refine .q rfl (.loadM ag_38_Hl rfl ⟨rfl, Mem.of_get at5⟩) ?_
   refine .call rfl rfl rfl rfl @Try.call93 rfl (coneMaps_c (m := C i) (m' := m) h hin1 hm hI0 (hcs i (by omega)) hcm) ?_
   rintro _ H18 ⟨le18, g18, rfl, at18, ge18⟩
   have nx_H18 := le18.1
   replace hle := hle.trans le18
   replace lst1 := lst1.le le18
   replace at5 := le18.2 _ _ at5
   replace at3003 := le18.2 _ _ at3003
   have lt_at18 := GHeap.ltg at18
   replace h := base_h.mono hle
   replace hm := base_hm.mono hle
   replace hsl := base_hsl.mono hle
   clear hb5 c05 c15 i15 hm5 hi5
   have hb5 : Con.At _ g5 0 m q := ⟨Mem.of_get at5, hm⟩
   obtain ⟨c05, c15, i15⟩ := hb5.get
   have hm5 : MemN _ _ _ _ _ := ⟨rfl, hb5.1⟩
   have hi5 := hb5.2
   clear hm1 hin1
   have hm1 : MemN _ _ _ _ _ := ⟨(hmem i (by omega)).1, (hmem i (by omega)).2.mono hle⟩
   have hin1 := (hins i (by omega)).mono hle
   clear mm3003
   have mm3003 : MemN _ _ _ _ _ := ⟨rfl, Mem.of_get at3003⟩
   clear hb8 c08 c18 i18 hm8 hi8
   have hb8 : Con.At _ g8 0 (C i) (P i) := ⟨Mem.of_get at3003, hin1⟩
   obtain ⟨c08, c18, i18⟩ := hb8.get
   have hm8 : MemN _ _ _ _ _ := ⟨rfl, hb8.1⟩
   have hi8 := hb8.2
   have i18 := Ints.of_get at18
   refine .q rfl (.len sl_24_A rfl) (.q rfl (.cmp rfl rfl rfl) (.nil (hK8 _ _ ?_)))
   refine .cond rfl (fun h20 => ?_) (fun h20 => ?_)
   ·
    simp only [sps] at h20
    refine .seq (fun K9 hK9 => .region (.mv rfl (.nil (hK9 _ _ ?_))))
    refine .ret ?_
    refine hret _ _ ?_
    refine ⟨_, rfl, ?_⟩
    exact ⟨by rw [B_false fun hh => h20 (by have := hh i (by omega); omega)], hle⟩
   simp only [sps] at h20
   refine .skip ?_
   refine hK6 _ _ (.region ?_)
   refine .q rfl (.add rfl rfl rfl (by omega) (by omega)) ?_
   refine .mv rfl (.nil ?_)
   refine hKL1 (i + 1) _ _ ?_ ?_ ⟨rfl, rfl, rfl, rfl, rfl, trivial⟩
   ·
    refine ⟨lst1, ?_⟩
    refine ⟨by omega, fun j hj => ?_⟩
    by_cases e : j < i
    · exact ha j e
    · obtain rfl : j = i := by omega
      omega
   omega
  try simp only [sps] at h12
  refine .exit ?_
  refine hK2 _ _ (.seq (fun K10 hK10 => .region (.mv rfl (.nil (hK10 _ _ ?_)))))
  refine .ret ?_
  refine hret _ _ ?_
  refine ⟨_, rfl, ?_⟩
  exact ⟨by rw [B_true fun j hj => ha j (by omega)], hle⟩
end Go.Proofs.Ytppinbcdndmoaaa
namespace Go.Proofs.Ytppinbcdndmoaaa
open Go Go.GL Go.RowKit Go.Proofs
theorem allCones1b_c {g o : Nat} {d : Fun} {p : FunP} {H : GHeap} (h : Fun.At H g o d p) (hP : d.Is) (hb : ¬ (d.coneL d.t.obj.toNat).length ≤ 400) :
    GCalls Try.prog 65 [.pointer (some ⟨g, o, none⟩)] H (fun v H' => H.Le H' ∧ v = .tuple #[.slice none 0 0, .bool false]) :=
  (allCones_c h hP).mono fun v H' ⟨h1, h2⟩ => by
    rcases h2 with ⟨_, h4⟩ | ⟨h3, _⟩
    · exact ⟨h1, h4⟩
    · omega
end Go.Proofs.Ytppinbcdndmoaaa
namespace Go.GL
end Go.GL
namespace Go.GL
def ConsR (T e : TypeId) (b : Nat) (H : GHeap) (a : Option Addr) (r : Nat → Option Addr) (cs : List Con) : Prop := (cs = [] ∧ a = none) ∨ ∃ g, a = some ⟨g, 0, none⟩ ∧ b ≤ g ∧ ConsAt T e b H g r cs
theorem getD_lg {cs : List Con} {i : Nat} : (cs.map Con.lg).getD i [] = (cs.getD i .z).lg := by
  rw [List.getD_eq_getElem?_getD, List.getD_eq_getElem?_getD, List.getElem?_map]
  cases cs[i]? <;> rfl
theorem OwnL.keepK {b b' : Nat} {H H' : GHeap} {e : TypeId} {r : Nat → Option Addr} {xss : List (List Int)} (h : OwnL b H e r xss) (k : Keep b' H H') (hb : b' ≤ b) : OwnL b' H' e r xss := ⟨fun i hi => by
  obtain ⟨g, h1, h2, h3⟩ := h.row i hi
  exact ⟨g, h1, by omega, k g _ (by omega) h3⟩, h.inj⟩
theorem ConsR.keep {T e : TypeId} {b b' : Nat} {H H' : GHeap} {a : Option Addr} {r : Nat → Option Addr} {cs : List Con} (h : ConsR T e b H a r cs) (k : Keep b' H H') (hb : b' ≤ b) : ConsR T e b' H' a r cs := h.imp id fun ⟨g, h1, h2, h3⟩ => ⟨g, h1, by omega, ⟨k g _ (by omega) h3.hd, h3.rows.keepK k hb⟩⟩
structure StK (lo hi : Nat) (H H' : GHeap) : Prop where
  nx : H.next ≤ H'.next
  same : ∀ k o, ¬ (lo ≤ k ∧ k < hi) → H.get k = some o → H'.get k = some o
def conTot (cs : List Con) (j : Nat) : Nat := j + sumL ((cs.map Con.lg).take j)
structure ConsOk (cs : List Con) : Prop where
  len : cs.length ≤ 400
  sm : ∀ i, i < cs.length → (cs.getD i .z).Small
  tot : conTot cs cs.length ≤ 3600
noncomputable def Fun.acR (d : Fun) : List Con := bif B (d.Is ∧ (d.coneL d.t.obj.toNat).length ≤ 400) then d.coneL d.t.obj.toNat else []
noncomputable def Fun.acC (d : Fun) : Int := bif B d.Is then (bif decide ((d.coneL d.t.obj.toNat).length ≤ 400) then 0 else 3) else 1
theorem Fun.ac_1 {d : Fun} (h : ¬ d.Is) : d.acR = [] ∧ d.acC = 1 := by unfold acR acC; rw [B_false h, B_false fun hh => h hh.1]; exact ⟨rfl, rfl⟩
theorem Fun.ac_2 {d : Fun} (h : d.Is) (hb : ¬ (d.coneL d.t.obj.toNat).length ≤ 400) : d.acR = [] ∧ d.acC = 3 := by unfold acR acC; rw [B_true h, decide_eq_false hb, B_false fun hh => hb hh.2]; exact ⟨rfl, rfl⟩
theorem Fun.ac_3 {d : Fun} (h : d.Is) (hb : (d.coneL d.t.obj.toNat).length ≤ 400) : d.acR = d.coneL d.t.obj.toNat ∧ d.acC = 0 := by unfold acR acC; rw [B_true h, decide_eq_true hb, B_true ⟨h, hb⟩]; exact ⟨rfl, rfl⟩
end Go.GL
namespace Go.Proofs.Ytppinbcdndmoaaa
open Go Go.GL Go.RowKit Go.Proofs
end Go.Proofs.Ytppinbcdndmoaaa
namespace Go.GL
def selL (p : Nat → Bool) (m i : Nat) : List Nat := ((List.range i).filter p).take m
theorem selL_zero (p : Nat → Bool) (m : Nat) : selL p m 0 = [] := by simp [selL]
theorem selL_cap (p : Nat → Bool) (m i : Nat) : (selL p m i).length ≤ m := by
  unfold selL
  rw [List.length_take]; omega
theorem selL_T {p : Nat → Bool} {m i : Nat} (h : (selL p m i).length < m) (hp : p i = true) : selL p m (i + 1) = selL p m i ++ [i] := by
  unfold selL at h ⊢
  rw [List.length_take] at h
  rw [List.range_succ, List.filter_append, List.filter_cons_of_pos hp, List.filter_nil, List.take_of_length_le (by rw [List.length_append, List.length_singleton]; omega), List.take_of_length_le (by omega)]
theorem selL_F {p : Nat → Bool} {m i : Nat} (hp : p i = false) : selL p m (i + 1) = selL p m i := by
  unfold selL
  rw [List.range_succ, List.filter_append, List.filter_cons_of_neg (by rw [hp]; simp), List.filter_nil, List.append_nil]
theorem selL_full {p : Nat → Bool} {m i : Nat} (h : ¬ (selL p m i).length < m) : selL p m (i + 1) = selL p m i := by
  unfold selL at h ⊢
  rw [List.length_take] at h
  rw [List.range_succ, List.filter_append, List.take_append_of_le_length (by omega)]
theorem selL_mem {p : Nat → Bool} {m i j : Nat} (h : j ∈ selL p m i) : j < i ∧ p j = true := by
  have := List.mem_filter.1 (List.mem_of_mem_take h)
  exact ⟨List.mem_range.1 this.1, this.2⟩
theorem selL_nodup (p : Nat → Bool) (m i : Nat) : (selL p m i).Nodup := List.nodup_range.sublist ((List.take_sublist _ _).trans List.filter_sublist)
def selV (r : Nat → Option Addr) (cs : List Con) (l : List Nat) : List Value := l.flatMap fun j => (cs.getD j .z).cells ⟨r j⟩
theorem selV_snoc {r : Nat → Option Addr} {cs : List Con} {l : List Nat} {i : Nat} : selV r cs (l ++ [i]) = selV r cs l ++ (cs.getD i .z).cells ⟨r i⟩ := by simp [selV]
@[simp] theorem length_selV (r : Nat → Option Addr) (cs : List Con) (l : List Nat) : (selV r cs l).length = l.length * 2 := by
  unfold selV
  induction l with
  | nil => rfl
  | cons x l ih => rw [List.flatMap_cons, List.length_append, ih]; simp [Con.cells]; omega
theorem range_getD (l : List Nat) : (List.range l.length).map (fun i => l.getD i 0) = l := by
  apply List.ext_getElem (by simp)
  intro i h1 h2
  simp [List.getD_eq_getElem?_getD, h2]
theorem selV_eq (r : Nat → Option Addr) (cs : List Con) (l : List Nat) : conV (fun k => r (l.getD k 0)) (l.map fun j => cs.getD j .z) = selV r cs l := by
  unfold conV selV
  conv => rhs; rw [← range_getD l]
  rw [List.flatMap_map, List.length_map]
  refine flatMap_congr' fun i hi => ?_
  have := List.mem_range.1 hi
  simp [List.getD_eq_getElem?_getD, this]
theorem OwnL.sel {b : Nat} {H : GHeap} {e : TypeId} {r : Nat → Option Addr} {cs : List Con} {l : List Nat} (h : OwnL b H e r (cs.map Con.lg)) (hn : l.Nodup) (hl : ∀ j ∈ l, j < cs.length) : OwnL b H e (fun k => r (l.getD k 0)) ((l.map fun j => cs.getD j .z).map Con.lg) := by
  have hm : ∀ k, k < ((l.map fun j => cs.getD j .z).map Con.lg).length → ∃ hk : k < l.length, l.getD k 0 = l[k] ∧ l[k] < cs.length := fun k hk => by
    rw [List.length_map, List.length_map] at hk
    exact ⟨hk, by simp [List.getD_eq_getElem?_getD, hk], hl _ (List.getElem_mem hk)⟩
  refine ⟨fun k hk => ?_, fun j k hj hk e => ?_⟩
  · obtain ⟨h1, h2, h3⟩ := hm k hk
    obtain ⟨g, g1, g2, g3⟩ := h.row l[k] (by rw [List.length_map]; exact h3)
    refine ⟨g, by rw [h2]; exact g1, g2, ?_⟩
    rw [getD_lg] at g3
    rw [getD_lg, g3, List.getD_eq_getElem?_getD (l := l.map _), List.getElem?_map, List.getElem?_eq_getElem h1]; rfl
  · obtain ⟨h1, h2, h3⟩ := hm j hj
    obtain ⟨k1, k2, k3⟩ := hm k hk
    have := h.inj l[j] l[k] (by rw [List.length_map]; exact h3) (by rw [List.length_map]; exact k3) (by rw [← h2, ← k2]; exact e)
    exact (List.getElem_inj hn).1 this
structure ConsB (T e : TypeId) (b : Nat) (H : GHeap) (g : Nat) (r : Nat → Option Addr) (cs : List Con) : Prop where
  ge : b ≤ g
  a : ConsAt T e b H g r cs
theorem ConsB.keep {T e : TypeId} {b b' g : Nat} {H H' : GHeap} {r : Nat → Option Addr} {cs : List Con} (h : ConsB T e b H g r cs) (k : Keep b' H H') (hb : b' ≤ b) : ConsB T e b' H' g r cs := ⟨by have := h.ge; omega, k g _ (by have := h.ge; omega) h.a.hd, h.a.rows.keepK k hb⟩
theorem ConsB.c {T e : TypeId} {b g : Nat} {H : GHeap} {r : Nat → Option Addr} {cs : List Con} (h : ConsB T e b H g r cs) : ConsIn T b H g r cs := h.a.cin h.ge
theorem ConsB.sl {T e : TypeId} {b g : Nat} {H : GHeap} {r : Nat → Option Addr} {cs : List Con} (h : ConsB T e b H g r cs) : SlA H (some ⟨g, 0, none⟩) (cs.length * 2) (fun i => (conV r cs).getD i (.bool false)) := h.c.sl
noncomputable def Fun.limP (d : Fun) (j : Nat) : Bool := d.univ ((d.coneL d.t.obj.toNat).getD j .z)
noncomputable def Fun.selc (d : Fun) (m : Nat) : List Con := (selL d.limP m (d.coneL d.t.obj.toNat).length).map fun j => (d.coneL d.t.obj.toNat).getD j .z
theorem Fun.selc_len (d : Fun) (m : Nat) : (d.selc m).length = (selL d.limP m (d.coneL d.t.obj.toNat).length).length := by unfold selc; rw [List.length_map]
noncomputable def Fun.alR (d : Fun) : List Con := bif B (d.Is ∧ (d.coneL d.t.obj.toNat).length ≤ 400) then d.selc 400 else []
theorem Fun.al_1 {d : Fun} (h : ¬ d.Is) : d.alR = [] ∧ d.acC = 1 := ⟨by unfold alR; rw [B_false fun hh => h hh.1]; rfl, (Fun.ac_1 h).2⟩
theorem Fun.al_2 {d : Fun} (h : d.Is) (hb : ¬ (d.coneL d.t.obj.toNat).length ≤ 400) : d.alR = [] ∧ d.acC = 3 := ⟨by unfold alR; rw [B_false fun hh => hb hh.2]; rfl, (Fun.ac_2 h hb).2⟩
theorem Fun.al_3 {d : Fun} (h : d.Is) (hb : (d.coneL d.t.obj.toNat).length ≤ 400) : d.alR = d.selc 400 ∧ d.acC = 0 := ⟨by unfold alR; rw [B_true ⟨h, hb⟩]; rfl, (Fun.ac_3 h hb).2⟩
end Go.GL
namespace Go.Proofs.Ytppinbcdndmoaaa
open Go Go.GL Go.RowKit Go.Proofs
theorem sz_36_Hq : (Try.prog.info? 36).map (·.size) = some 12 := by kernel_rfl
theorem allCones0r_c {g o : Nat} {d : Fun} {p : FunP} {H : GHeap} (h : Fun.At H g o d p) (hP : d.Is) (hb : (d.coneL d.t.obj.toNat).length ≤ 400) :
    GCalls Try.prog 65 [.pointer (some ⟨g, o, none⟩)] H (fun v H' => H.Le H' ∧ ∃ gL r, v = .tuple #[.slice (some ⟨gL, 0, none⟩) (d.coneL d.t.obj.toNat).length (d.coneL d.t.obj.toNat).length, .bool true] ∧ ConsB 38 2 H.next H' gL r (d.coneL d.t.obj.toNat)) :=
  (allCones_c h hP).mono fun v H' ⟨h1, h2⟩ => by
    rcases h2 with ⟨h3, _⟩ | ⟨_, gL, r, h4, h5, h6⟩
    · omega
    · exact ⟨h1, gL, r, h4, h5, h6⟩
set_option maxHeartbeats 4000000 in
theorem limits_c {g o most : Nat} {d : Fun} {p : FunP} {H : GHeap} (h : Fun.At H g o d p) (hI : d.Is) (hb : (d.coneL d.t.obj.toNat).length ≤ 400) (hm : most ≤ 400) :
    GCalls Try.prog 35 [.pointer (some ⟨g, o, none⟩), .int .i64 (most : Int)] H (fun v H' => H.Le H' ∧ ∃ gL r, v = .tuple #[.slice (some ⟨gL, 0, none⟩) (d.selc most).length (d.selc most).length, .bool true] ∧ ConsR 38 2 H.next H' (some ⟨gL, 0, none⟩) r (d.selc most)) := by
  have hI0 := hI
  have hob := hI.2.1.1.obj
  refine GCalls.body (N := 41) (rs := [.tmp 4, .tmp 5]) Try.func35 rfl rfl rfl rfl (fun Qx hret hend => ?_)
  refine .fg [0, 1] rfl ?_
  have hle := GHeap.Le.refl H
  have base_h := h
  refine .seq (fun K1 hK1 => .region (.mv rfl (.mv rfl (.nil (hK1 _ _ (.seq (fun K2 hK2 => .region (.mv rfl ?_))))))))
  refine .call rfl rfl rfl rfl @Try.call65 rfl (allCones0r_c h hI0 hb) ?_
  rintro _ H13 ⟨le13, g13, r13, rfl, v13⟩
  have nx_H13 := le13.1
  replace hle := hle.trans le13
  have bs_v13 := v13
  have lv_v13 : Keep H.next H13 H13 := fun _ _ _ h => h
  replace h := base_h.mono hle
  have sl13 := v13.sl
  refine .mv rfl (.q rfl (.extract rfl rfl) (.q rfl (.extract rfl rfl) (.mv rfl (.mv rfl (.nil (hK2 _ _ (.seq (fun K3 hK3 => .seq (fun K4 hK4 => .region (.mv rfl (.q rfl (.not rfl) (.nil (hK4 _ _ ?_)))))))))))))
  refine .cond rfl (fun h17 => ?_) (fun h17 => ?_)
  ·
   simp at h17
  try simp only [sps] at h17
  refine .skip ?_
  refine hK3 _ _ (.seq (fun K5 hK5 => .region ?_))
  refine .R rfl (.litA rfl sl_32_Hi ze_38_Hi rfl rfl rfl rfl) ?_
  rintro _ H18 ⟨g18, rfl, le18, ge18, at18⟩
  have nx_H18 := le18.1
  replace hle := hle.trans le18
  replace lv_v13 := Keep.le lv_v13 le18
  replace v13 := bs_v13.keep lv_v13 (Nat.le_refl _)
  have lt_at18 := GHeap.ltg at18
  replace h := base_h.mono hle
  clear sl13
  have sl13 := v13.sl
  refine .mv rfl (.nil (hK5 _ _ (.seq (fun K6 hK6 => .seq (fun K7 hK7 => .region (.mv rfl (.q rfl (.len sl_32_Hi rfl) (.mv rfl (.nil (hK7 _ _ ?_))))))))))
  refine .block ?_
  have hz : (selL d.limP most 0).length = 0 := by rw [selL_zero]; rfl
  refine .loopR (σ := Nat × Nat × Nat) [(0, some _), (1, some _), (6, some _), (19, some _), (20, some _)] (fun (i, gL8, nL8) => [(21, some (.int .i64 (i : Int))), (8, some (.slice (some ⟨gL8, 0, none⟩) nL8 nL8))]) (fun (i, gL8, nL8) H' => St [g18] H18 H' ∧ H'.get gL8 = some (.row (selV r13 (d.coneL d.t.obj.toNat) (selL d.limP most i)) 38 true) ∧ (gL8 = g18 ∨ H18.next ≤ gL8) ∧ nL8 = (selL d.limP most i).length ∧ i ≤ (d.coneL d.t.obj.toNat).length) (fun (i, gL8, nL8) => (d.coneL d.t.obj.toNat).length - i) ((0, _, _)) ⟨rfl, rfl, rfl, rfl, rfl, trivial⟩ ⟨rfl, rfl, trivial⟩ ?_ ?_
  ·
   refine ⟨.refl _ _, by (rw [selL_zero]; first | exact at18 | simpa [selV] using at18), .inl rfl, by first | rfl | assumption | simp | omega, ?_⟩
   omega
  rintro ⟨i, gL8, nL8⟩ HL1 ⟨lst1, at_L8, pl_L8, ln_L8, hI⟩ KL1 hKL1
  refine .forget (fr' := [(21, some (.int .i64 (i : Int))), (8, some (.slice (some ⟨gL8, 0, none⟩) nL8 nL8)), (0, some _), (1, some _), (6, some _), (19, some _), (20, some _)]) ⟨rfl, rfl, rfl, rfl, rfl, rfl, rfl, trivial⟩ ?_
  have ge_L8 : H.next ≤ gL8 := by omega
  have nx_HL1 := lst1.nx
  replace hle := hle.st lst1 (fun k hk => ⟨by omega, trivial⟩)
  replace lv_v13 := Keep.st lv_v13 lst1 (fun k hb hk => ⟨by omega, trivial⟩)
  replace v13 := bs_v13.keep lv_v13 (Nat.le_refl _)
  have lt_at_L8 := GHeap.ltg at_L8
  replace h := base_h.mono hle
  clear sl13
  have sl13 := v13.sl
  have hsv := length_selV r13 (d.coneL d.t.obj.toNat) (selL d.limP most i)
  have hcap := selL_cap d.limP most i
  refine .seq (fun K8 hK8 => .region (.q rfl (.cmp rfl rfl rfl) (.nil (hK8 _ _ (.seq (fun K9 hK9 => ?_))))))
  refine .cond rfl (fun h22 => ?_) (fun h22 => ?_)
  ·
   simp only [sps] at h22
   have hci := Fun.coneL_cone hI0 (n := d.t.obj.toNat) (by omega) _ (getD_mem_list (d := Con.z) (i := i) (by omega))
   have hm1 := v13.c.mem i (by omega)
   have hin1 := v13.c.inn i (by omega)
   refine .skip ?_
   refine hK9 _ _ (.seq (fun K10 hK10 => ?_))
   refine .block ?_
   refine .seq (fun K11 hK11 => .region ?_)
   refine .q rfl (.idx sl_32_Hi sl13 (by omega) rfl rfl (by omega) (by omega) rfl) ?_
   refine .q rfl (.loadM ag_38_Hl rfl hm1) ?_
   refine .R rfl (.allocR rfl ze_38_Hi rfl) ?_
   rintro _ H10 ⟨g10, rfl, le10, ge10, at10⟩
   have nx_H10 := le10.1
   replace hle := hle.trans le10
   replace lst1 := lst1.le le10
   replace at_L8 := le10.2 _ _ at_L8
   replace lv_v13 := Keep.le lv_v13 le10
   replace v13 := bs_v13.keep lv_v13 (Nat.le_refl _)
   have lt_at10 := GHeap.ltg at10
   replace h := base_h.mono hle
   clear sl13
   have sl13 := v13.sl
   clear hm1 hin1
   have hm1 := v13.c.mem i (by omega)
   have hin1 := v13.c.inn i (by omega)
   refine .r0 rfl rfl (.fillA rfl sz_38_Cm rfl rfl rfl rfl) ?_
   rintro _ H7003 ⟨rfl, st7003, at7003⟩
   have nx_H7003 := st7003.nx
   replace hle := hle.st st7003 (fun k hk => ⟨by omega, trivial⟩)
   replace lst1 := lst1.sA st7003
   have ne_gL8_g10 : NE gL8 g10 := .a
   replace at_L8 := st7003.s at_L8 ne_gL8_g10.ne
   replace lv_v13 := Keep.st lv_v13 st7003 (fun k hb hk => ⟨by omega, trivial⟩)
   replace v13 := bs_v13.keep lv_v13 (Nat.le_refl _)
   have lt_at7003 := GHeap.ltg at7003
   replace h := base_h.mono hle
   clear sl13
   have sl13 := v13.sl
   clear hm1 hin1
   have hm1 := v13.c.mem i (by omega)
   have hin1 := v13.c.inn i (by omega)
   have mm7003 : MemN _ _ _ _ _ := ⟨rfl, Mem.of_get at7003⟩
   have hb10 : Con.At _ g10 0 ((d.coneL d.t.obj.toNat).getD i .z) ⟨r13 i⟩ := ⟨Mem.of_get at7003, hin1⟩
   obtain ⟨c010, c110, i110⟩ := hb10.get
   have hm10 : MemN _ _ _ _ _ := ⟨rfl, hb10.1⟩
   have hi10 := hb10.2
   refine .nil (hK11 _ _ (.seq (fun K12 hK12 => .region (.mv rfl (.q rfl (.len sl_32_Hi rfl) (.mv rfl (.q rfl (.cmp rfl rfl rfl) (.mv rfl ?_))))))))
   refine .split (fun h29 => ?_) (fun h29 => ?_)
   ·
    simp only [sps] at h29
    refine .qg rfl (.move rfl) (.qg rfl (.move rfl) ?_)
    refine .qg rfl (.loadM ag_38_Hl rfl ⟨rfl, Mem.of_get at7003⟩) ?_
    refine .callQg rfl rfl rfl rfl rfl rfl @Try.call66 rfl (isUniversal_c (C := fun i => (d.coneL d.t.obj.toNat).getD i .z) (P := fun i => ⟨r13 i⟩) h hI0 hin1 hci (by omega) v13.c.sl v13.c.mem v13.c.inn (fun i hi => Fun.coneL_cone hI0 (by omega) _ (getD_mem_list hi))) ?_
    refine .q rfl (.pickT rfl rfl) (.nil (hK12 _ _ ?_))
    refine .cond rfl (fun h34 => ?_) (fun h34 => ?_)
    ·
     have hE : selL d.limP most (i + 1) = selL d.limP most i ++ [i] := selL_T (by omega) h34
     refine .region (.mv rfl ?_)
     refine .q rfl (.loadM ag_38_Hl rfl ⟨rfl, Mem.of_get at7003⟩) ?_
     refine .R rfl (.litA rfl sl_32_Hi ze_38_Hi rfl rfl rfl rfl) ?_
     rintro _ H37 ⟨g37, rfl, le37, ge37, at37⟩
     have nx_H37 := le37.1
     replace hle := hle.trans le37
     replace lst1 := lst1.le le37
     replace at_L8 := le37.2 _ _ at_L8
     replace at7003 := le37.2 _ _ at7003
     replace lv_v13 := Keep.le lv_v13 le37
     replace v13 := bs_v13.keep lv_v13 (Nat.le_refl _)
     have lt_at37 := GHeap.ltg at37
     replace h := base_h.mono hle
     clear sl13
     have sl13 := v13.sl
     clear hm1 hin1
     have hm1 := v13.c.mem i (by omega)
     have hin1 := v13.c.inn i (by omega)
     clear mm7003
     have mm7003 : MemN _ _ _ _ _ := ⟨rfl, Mem.of_get at7003⟩
     clear hb10 c010 c110 i110 hm10 hi10
     have hb10 : Con.At _ g10 0 ((d.coneL d.t.obj.toNat).getD i .z) ⟨r13 i⟩ := ⟨Mem.of_get at7003, hin1⟩
     obtain ⟨c010, c110, i110⟩ := hb10.get
     have hm10 : MemN _ _ _ _ _ := ⟨rfl, hb10.1⟩
     have hi10 := hb10.2
     refine .R rfl (.appendV rfl sl_32_Hi ze_38_Hi rfl by_38_Hi sl_32_Hi rfl rfl (by assumption) (by assumption) (by first | omega | (simp <;> omega)) rfl rfl (by omega) (by omega)) ?_
     rintro _ H38 ⟨g38, rfl, st38, ge38, at38⟩
     have nx_H38 := st38.nx
     replace hle := hle.st st38 (fun k hk => ⟨by omega, trivial⟩)
     replace lst1 := lst1.sA st38
     replace at7003 := st38.s at7003 (Ne.symm ne_gL8_g10.ne)
     replace at37 := st38.s at37
     replace lv_v13 := Keep.st lv_v13 st38 (fun k hb hk => ⟨by omega, trivial⟩)
     replace v13 := bs_v13.keep lv_v13 (Nat.le_refl _)
     have lt_at38 := GHeap.ltg at38
     replace h := base_h.mono hle
     clear sl13
     have sl13 := v13.sl
     clear hm1 hin1
     have hm1 := v13.c.mem i (by omega)
     have hin1 := v13.c.inn i (by omega)
     clear mm7003
     have mm7003 : MemN _ _ _ _ _ := ⟨rfl, Mem.of_get at7003⟩
     clear hb10 c010 c110 i110 hm10 hi10
     have hb10 : Con.At _ g10 0 ((d.coneL d.t.obj.toNat).getD i .z) ⟨r13 i⟩ := ⟨Mem.of_get at7003, hin1⟩
     obtain ⟨c010, c110, i110⟩ := hb10.get
     have hm10 : MemN _ _ _ _ _ := ⟨rfl, hb10.1⟩
     have hi10 := hb10.2
     refine .mv rfl (.nil (hK10 _ _ (.region ?_)))
     refine .q rfl (.add rfl rfl rfl (by omega) (by omega)) ?_
     refine .mv rfl (.nil ?_)
     refine hKL1 ((i + 1, _, _)) _ _ ?_ ?_ ⟨rfl, rfl, rfl, rfl, rfl, rfl, rfl, trivial⟩
     ·
      refine ⟨lst1, by first | assumption | (rw [hE, selV_snoc]; assumption) | (rw [hE]; assumption), by omega, by first | omega | (simp only [List.length_append, List.length_cons, List.length_nil] <;> omega) | (rw [hE, selV_snoc] <;> (first | omega | (simp only [List.length_append, List.length_cons, List.length_nil] <;> omega))) | (rw [hE] <;> (first | omega | (simp only [List.length_append, List.length_cons, List.length_nil] <;> omega))), ?_⟩
      omega
     (dsimp only; omega)
    have hE : selL d.limP most (i + 1) = selL d.limP most i := selL_F h34
    refine .skip ?_
    refine hK10 _ _ (.region ?_)
    refine .q rfl (.add rfl rfl rfl (by omega) (by omega)) ?_
    refine .mv rfl (.nil ?_)
    refine hKL1 ((i + 1, _, _)) _ _ ?_ ?_ ⟨rfl, rfl, rfl, rfl, rfl, rfl, rfl, trivial⟩
    ·
     refine ⟨lst1, by first | assumption | (rw [hE, selV_snoc]; assumption) | (rw [hE]; assumption), by omega, by first | omega | (simp only [List.length_append, List.length_cons, List.length_nil] <;> omega) | (rw [hE, selV_snoc] <;> (first | omega | (simp only [List.length_append, List.length_cons, List.length_nil] <;> omega))) | (rw [hE] <;> (first | omega | (simp only [List.length_append, List.length_cons, List.length_nil] <;> omega))), ?_⟩
     omega
    (dsimp only; omega)
   simp only [sps] at h29
   have hE : selL d.limP most (i + 1) = selL d.limP most i := selL_full (by omega)
   refine .z rfl (.z rfl (.z rfl (.z rfl (.q rfl (.pickF rfl rfl) (.nil (hK12 _ _ ?_))))))
   refine .condF rfl ?_
   refine .skip ?_
   refine hK10 _ _ (.region ?_)
   refine .q rfl (.add rfl rfl rfl (by omega) (by omega)) ?_
   refine .mv rfl (.nil ?_)
   refine hKL1 ((i + 1, _, _)) _ _ ?_ ?_ ⟨rfl, rfl, rfl, rfl, rfl, rfl, rfl, trivial⟩
   ·
    refine ⟨lst1, by first | assumption | (rw [hE, selV_snoc]; assumption) | (rw [hE]; assumption), by omega, by first | omega | (simp only [List.length_append, List.length_cons, List.length_nil] <;> omega) | (rw [hE, selV_snoc] <;> (first | omega | (simp only [List.length_append, List.length_cons, List.length_nil] <;> omega))) | (rw [hE] <;> (first | omega | (simp only [List.length_append, List.length_cons, List.length_nil] <;> omega))), ?_⟩
    omega
   (dsimp only; omega)
  try simp only [sps] at h22
  refine .exit ?_
  refine hK6 _ _ (.seq (fun K13 hK13 => .region (.mv rfl (.mv rfl (.mv rfl (.nil (hK13 _ _ ?_)))))))
  refine .ret ?_
  refine hret _ _ ?_
  refine ⟨_, _, rfl, rfl, ?_⟩
  obtain rfl : i = (d.coneL d.t.obj.toNat).length := by omega
  refine ⟨hle, gL8, fun k => r13 ((selL d.limP most (d.coneL d.t.obj.toNat).length).getD k 0), by rw [ln_L8, Fun.selc_len], .inr ⟨gL8, rfl, by omega, ?_, ?_⟩⟩
  · rw [show d.selc most = _ from rfl, Fun.selc, selV_eq]; exact at_L8
  · exact (v13.a.rows.sel (selL_nodup _ _ _) fun j hj => (selL_mem hj).1).keepK (.of_le (.refl _)) (by omega)
set_option maxHeartbeats 4000000 in
theorem limits1_c {g o most : Nat} {d : Fun} {p : FunP} {H : GHeap} (h : Fun.At H g o d p) (hI : d.Is) (hb : ¬ (d.coneL d.t.obj.toNat).length ≤ 400) :
    GCalls Try.prog 35 [.pointer (some ⟨g, o, none⟩), .int .i64 (most : Int)] H (Ret (.tuple #[.slice none 0 0, .bool false]) H) := by
  refine GCalls.ret rfl ?_
  refine GCalls.body (N := 41) (rs := [.tmp 4, .tmp 5]) Try.func35 rfl rfl rfl rfl (fun Qx hret hend => ?_)
  refine .fg [0, 1] rfl ?_
  have hle := GHeap.Le.refl H
  have base_h := h
  refine .seq (fun K1 hK1 => .region (.mv rfl (.mv rfl (.nil (hK1 _ _ (.seq (fun K2 hK2 => .region (.mv rfl ?_))))))))
  refine .call rfl rfl rfl rfl @Try.call65 rfl (allCones1b_c h hI hb) ?_
  rintro _ H13 ⟨le13, rfl⟩
  have nx_H13 := le13.1
  replace hle := hle.trans le13
  replace h := base_h.mono hle
  refine .mv rfl (.q rfl (.extract rfl rfl) (.q rfl (.extract rfl rfl) (.mv rfl (.mv rfl (.nil (hK2 _ _ (.seq (fun K3 hK3 => .seq (fun K4 hK4 => .region (.mv rfl (.q rfl (.not rfl) (.nil (hK4 _ _ ?_)))))))))))))
  refine .cond rfl (fun h17 => ?_) (fun h17 => ?_)
  ·
   try simp only [sps] at h17
   refine .seq (fun K5 hK5 => .region (.mv rfl (.mv rfl (.nil (hK5 _ _ ?_)))))
   refine .ret ?_
   refine hret _ _ ?_
   refine ⟨_, _, rfl, rfl, ?_⟩
   exact ⟨rfl, hle⟩
  simp at h17
set_option maxHeartbeats 4000000 in
theorem implAllLimits_c {d : Fun} {p : FunP} {H : GHeap} (hin : d.In H p := by assumption) (hs : d.Small := by assumption) :
    GCalls Try.prog 11 [.agg (d.cells p).toArray] H (fun v H' => H.Le H' ∧ ∃ a r, v = .tuple #[.slice a d.alR.length d.alR.length, .int .i64 d.acC] ∧ ConsR 38 2 H.next H' a r d.alR) := by
  by_cases hb : (d.coneL d.t.obj.toNat).length ≤ 400
  refine GCalls.body (N := 15) (rs := [.tmp 2, .tmp 3]) Try.func11 rfl rfl rfl rfl (fun Qx hret hend => ?_)
  refine .fg [0] rfl ?_
  have hle := GHeap.Le.refl H
  have base_hin := hin
  refine .seq (fun K1 hK1 => .region ?_)
  refine .R rfl (.boxR rfl sz_36_Hq rfl) ?_
  rintro _ H1 ⟨g1, rfl, le1, ge1, at1⟩
  have nx_H1 := le1.1
  replace hle := hle.trans le1
  have lt_at1 := GHeap.ltg at1
  replace hin := base_hin.mono hle
  have hb1 : Fun.At _ g1 0 d p := ⟨Mem.of_get at1, hin⟩
  obtain ⟨fs1, ft1, c101, c111, j11, j21⟩ := hb1.get
  have hm1 : MemN _ _ _ _ _ := ⟨rfl, hb1.1⟩
  have hi1 := hb1.2
  have hms1 : MemN _ _ _ _ _ := ⟨rfl, fs1.1⟩
  have his1 := fs1.2
  have hmt1 : MemN _ _ _ _ _ := ⟨rfl, ft1.1⟩
  have hit1 := ft1.2
  refine .mv rfl (.mv rfl (.nil (hK1 _ _ (.seq (fun K2 hK2 => .seq (fun K3 hK3 => .region ?_))))))
  refine .callQ rfl rfl rfl rfl @Try.call34 rfl (isFunctor_c) ?_
  refine .q rfl (.not rfl) (.nil (hK3 _ _ ?_))
  refine .cond rfl (fun h7 => ?_) (fun h7 => ?_)
  ·
   simp only [sps] at h7
   refine .seq (fun K4 hK4 => .region (.mv rfl (.mv rfl (.nil (hK4 _ _ ?_)))))
   refine .ret ?_
   refine hret _ _ ?_
   refine ⟨_, _, rfl, rfl, ?_⟩
   obtain ⟨e1, e2⟩ := Fun.al_1 h7
   rw [e1, e2]
   exact ⟨hle, none, fun _ => none, rfl, .inl ⟨rfl, rfl⟩⟩
  ·
   simp only [sps] at h7
   refine .skip ?_
   refine hK2 _ _ (.seq (fun K5 hK5 => .region ?_))
   refine .call rfl rfl rfl rfl @Try.call35 rfl ((limits_c (most := 400) hb1 (by assumption) hb (by omega))) ?_
   rintro _ H9 ⟨le9, g9, r9, rfl, v9⟩
   have nx_H9 := le9.1
   replace hle := hle.trans le9
   replace at1 := le9.2 _ _ at1
   have bs_v9 := v9
   have lv_v9 : Keep H1.next H9 H9 := fun _ _ _ h => h
   replace hin := base_hin.mono hle
   clear hb1 fs1 ft1 c101 c111 j11 j21 hm1 hi1 hms1 his1 hmt1 hit1
   have hb1 : Fun.At _ g1 0 d p := ⟨Mem.of_get at1, hin⟩
   obtain ⟨fs1, ft1, c101, c111, j11, j21⟩ := hb1.get
   have hm1 : MemN _ _ _ _ _ := ⟨rfl, hb1.1⟩
   have hi1 := hb1.2
   have hms1 : MemN _ _ _ _ _ := ⟨rfl, fs1.1⟩
   have his1 := fs1.2
   have hmt1 : MemN _ _ _ _ _ := ⟨rfl, ft1.1⟩
   have hit1 := ft1.2
   refine .mv rfl (.q rfl (.extract rfl rfl) (.q rfl (.extract rfl rfl) (.mv rfl (.mv rfl (.nil (hK5 _ _ (.seq (fun K6 hK6 => .seq (fun K7 hK7 => .region (.mv rfl (.q rfl (.not rfl) (.nil (hK7 _ _ ?_)))))))))))))
   refine .cond rfl (fun h13 => ?_) (fun h13 => ?_)
   ·
    simp at h13
   try simp only [sps] at h13
   refine .skip ?_
   refine hK6 _ _ (.seq (fun K8 hK8 => .region (.mv rfl (.mv rfl (.mv rfl (.nil (hK8 _ _ ?_)))))))
   refine .ret ?_
   refine hret _ _ ?_
   refine ⟨_, _, rfl, rfl, ?_⟩
   obtain ⟨e1, e2⟩ := Fun.al_3 h7 hb
   rw [e1, e2]
   exact ⟨hle, _, r9, rfl, v9.keep (.of_le (.refl _)) (by omega)⟩
  refine GCalls.body (N := 15) (rs := [.tmp 2, .tmp 3]) Try.func11 rfl rfl rfl rfl (fun Qx hret hend => ?_)
  refine .fg [0] rfl ?_
  have hle := GHeap.Le.refl H
  have base_hin := hin
  refine .seq (fun K1 hK1 => .region ?_)
  refine .R rfl (.boxR rfl sz_36_Hq rfl) ?_
  rintro _ H1 ⟨g1, rfl, le1, ge1, at1⟩
  have nx_H1 := le1.1
  replace hle := hle.trans le1
  have lt_at1 := GHeap.ltg at1
  replace hin := base_hin.mono hle
  have hb1 : Fun.At _ g1 0 d p := ⟨Mem.of_get at1, hin⟩
  obtain ⟨fs1, ft1, c101, c111, j11, j21⟩ := hb1.get
  have hm1 : MemN _ _ _ _ _ := ⟨rfl, hb1.1⟩
  have hi1 := hb1.2
  have hms1 : MemN _ _ _ _ _ := ⟨rfl, fs1.1⟩
  have his1 := fs1.2
  have hmt1 : MemN _ _ _ _ _ := ⟨rfl, ft1.1⟩
  have hit1 := ft1.2
  refine .mv rfl (.mv rfl (.nil (hK1 _ _ (.seq (fun K2 hK2 => .seq (fun K3 hK3 => .region ?_))))))
  refine .callQ rfl rfl rfl rfl @Try.call34 rfl (isFunctor_c) ?_
  refine .q rfl (.not rfl) (.nil (hK3 _ _ ?_))
  refine .cond rfl (fun h7 => ?_) (fun h7 => ?_)
  ·
   simp only [sps] at h7
   refine .seq (fun K4 hK4 => .region (.mv rfl (.mv rfl (.nil (hK4 _ _ ?_)))))
   refine .ret ?_
   refine hret _ _ ?_
   refine ⟨_, _, rfl, rfl, ?_⟩
   obtain ⟨e1, e2⟩ := Fun.al_1 h7
   rw [e1, e2]
   exact ⟨hle, none, fun _ => none, rfl, .inl ⟨rfl, rfl⟩⟩
  simp only [sps] at h7
  refine .skip ?_
  refine hK2 _ _ (.seq (fun K5 hK5 => .region ?_))
  refine .callQ rfl rfl rfl rfl @Try.call35 rfl ((limits1_c (most := 400) hb1 (by assumption) hb)) ?_
  refine .mv rfl (.q rfl (.extract rfl rfl) (.q rfl (.extract rfl rfl) (.mv rfl (.mv rfl (.nil (hK5 _ _ (.seq (fun K6 hK6 => .seq (fun K7 hK7 => .region (.mv rfl (.q rfl (.not rfl) (.nil (hK7 _ _ ?_)))))))))))))
  refine .cond rfl (fun h13 => ?_) (fun h13 => ?_)
  ·
   try simp only [sps] at h13
   refine .seq (fun K8 hK8 => .region (.mv rfl (.mv rfl (.nil (hK8 _ _ ?_)))))
   refine .ret ?_
   refine hret _ _ ?_
   refine ⟨_, _, rfl, rfl, ?_⟩
   obtain ⟨e1, e2⟩ := Fun.al_2 h7 hb
   rw [e1, e2]
   exact ⟨hle, none, fun _ => none, rfl, .inl ⟨rfl, rfl⟩⟩
  simp at h13
end Go.Proofs.Ytppinbcdndmoaaa
namespace Go.GL
structure Cat.Chain (c : Cat) (xs : List Int) : Prop where
  all : ∀ i : Nat, i + 1 < xs.length → c.T (xs.getD i 0) = c.S (xs.getD (i + 1) 0)
structure Cat.Ch (c : Cat) (xs : List Int) : Prop where
  rg : ∀ i, i < xs.length → 0 ≤ xs.getD i 0 ∧ xs.getD i 0 < c.src.length
  ch : c.Chain xs
theorem Cat.id_in {c : Cat} (hS : c.Shape) {x : Int} (h0 : 0 ≤ x) (h1 : x < c.obj) : (0 ≤ c.I x ∧ c.I x < c.src.length) ∧ c.S (c.I x) = x ∧ c.T (c.I x) = x := by
  have h2 := hS.idn_lt h0 h1
  have h3 := hS.ids x.toNat (by have := hS.il; omega)
  rw [Int.toNat_of_nonneg h0] at h3
  exact ⟨h2, h3.1, h3.2⟩
end Go.GL
namespace Go.GL
structure Spn where
  x : Int
  y : Int
  fits : Int → Int → Bool
  alone : Bool
def Cat.spL (c : Cat) (s : Spn) (w : Int) : List (Int × Int) := if s.alone = true then ((c.hom w s.x).filter fun a => s.fits a a).map fun a => (a, a) else (c.hom w s.x).flatMap fun a => ((c.hom w s.y).filter fun b => s.fits a b).map fun b => (a, b)
def Cat.spM (c : Cat) (p : Int × Int) (u : Int) : Int × Int := (c.th u p.1, c.th u p.2)
def Cat.spN (c : Cat) (z : Int) (p : Int × Int) (w : Int) (q : Int × Int) : Nat := ((c.hom w z).filter fun u => decide (c.spM p u = q)).length
structure Cat.SpU (c : Cat) (s : Spn) (z : Int) (p : Int × Int) : Prop where
  all : ∀ w : Nat, (w : Int) < c.obj → ∀ q ∈ c.spL s w, c.spN z p w q = 1
structure Cat.SpV (c : Cat) (s : Spn) (z : Int) (p : Int × Int) : Prop where
  all : ∀ w : Nat, (w : Int) < c.obj → (c.hom w z).length = (c.spL s w).length ∧ ((c.hom w z).map (c.spM p)).Nodup
structure Cat.SpC (c : Cat) (s : Spn) : Prop where
  go : ∀ (w z : Nat) (p : Int × Int) (u : Int), p ∈ c.spL s z → u ∈ c.hom w z → c.spM p u ∈ c.spL s w
theorem Cat.hom_th {c : Cat} (hS : c.Shape) {w z x u a : Int} (hu : u ∈ c.hom w z) (ha : a ∈ c.hom z x) : c.th u a ∈ c.hom w x := by
  obtain ⟨U, u1, u2, u3, rfl⟩ := Cat.mem_hom.1 hu
  obtain ⟨A, a1, a2, a3, rfl⟩ := Cat.mem_hom.1 ha
  obtain ⟨p1, p2, p3, p4⟩ := hS.tn u1 a1 (by rw [u3, a2])
  rw [Cat.th_nat, p4]
  exact Cat.mem_hom.2 ⟨_, p1, by rw [p2, u2], by rw [p3, a3], rfl⟩
structure Cat.SpE (c : Cat) (s : Spn) : Prop where
  ex : ∃ z : Nat, (z : Int) < c.obj ∧ ∃ p ∈ c.spL s z, c.SpU s z p
end Go.GL
namespace Go.GL
def eFun (c : Cat) : Fun := ⟨Cat.zero, c, [], []⟩
theorem zero_is : Cat.zero.Is := by
  refine ⟨⟨by decide, by decide, rfl, fun i h => ?_, fun i h => ?_, rfl, fun i h => ?_, rfl, fun i h => ?_, fun i h => ?_, fun i h => ?_⟩, ⟨fun i h => ?_, fun i h => ?_⟩⟩ <;> exact absurd h (Nat.not_lt_zero _)
theorem eFun_is {c : Cat} (h : c.Is) : (eFun c).Is := by
  refine ⟨zero_is, h, ⟨rfl, rfl, fun i h => ?_, fun i h => ?_, fun i h => ?_, fun i h => ?_, fun i h => ?_⟩⟩ <;> exact absurd h (Nat.not_lt_zero _)
theorem eFun_cones {c : Cat} (n : Nat) : (eFun c).coneL n = (List.range n).map fun (w : Nat) => (⟨(w : Int), []⟩ : Con) := by
  unfold Fun.coneL
  show (List.range n).flatMap (fun (w : Nat) => [(⟨(w : Int), []⟩ : Con)]) = _
  induction n with
  | zero => rfl
  | succ n ih => rw [List.range_succ, List.flatMap_append, ih, List.map_append]; rfl
theorem eFun_maps {c : Cat} {w z : Int} : (eFun c).coneMaps ⟨w, []⟩ ⟨z, []⟩ = c.hom w z := by
  unfold Fun.coneMaps
  exact List.filter_eq_self.2 fun a _ => rfl
theorem eFun_univ {c : Cat} {z : Int} : (eFun c).univ ⟨z, []⟩ = allN c.obj.toNat fun y => decide ((c.hom (y : Int) z).length = 1) := by
  rw [Bool.eq_iff_iff]
  unfold Fun.univ
  rw [B_iff, eFun_cones]
  show (∀ i, i < ((List.range c.obj.toNat).map _).length → _) ↔ _
  rw [List.length_map, List.length_range]
  have hg : ∀ i, i < c.obj.toNat → ((List.range c.obj.toNat).map fun (w : Nat) => (⟨(w : Int), []⟩ : Con)).getD i .z = ⟨(i : Int), []⟩ := fun i hi => by
    simp [List.getD_eq_getElem?_getD, hi]
  constructor
  · intro h
    refine allN_of fun i hi => decide_eq_true ?_
    have := h i hi
    rw [show (eFun c).t.obj.toNat = c.obj.toNat from rfl, hg i hi, eFun_maps] at this
    exact this
  · intro h i hi
    rw [show (eFun c).t.obj.toNat = c.obj.toNat from rfl, hg i hi, eFun_maps]
    exact of_decide_eq_true (allN_iff.1 h i hi)
theorem eFun_all {c : Cat} (h : c.Is) : (eFun c).acC = 0 ∧ (eFun c).alR = c.term.map fun z => (⟨z, []⟩ : Con) := by
  have hb : ((eFun c).coneL (eFun c).t.obj.toNat).length ≤ 400 := by
    rw [eFun_cones, List.length_map, List.length_range]
    have := h.1.obj
    show c.obj.toNat ≤ 400
    omega
  obtain ⟨h1, h2⟩ := Fun.al_3 (eFun_is h) hb
  refine ⟨h2, ?_⟩
  rw [h1]
  unfold Fun.selc selL Cat.term filtN
  have hl : ((eFun c).coneL (eFun c).t.obj.toNat).length = c.obj.toNat := by
    rw [eFun_cones, List.length_map, List.length_range]; rfl
  have hg : ∀ i, i < c.obj.toNat → ((eFun c).coneL (eFun c).t.obj.toNat).getD i .z = ⟨(i : Int), []⟩ := fun i hi => by
    rw [eFun_cones]
    show ((List.range c.obj.toNat).map _).getD i _ = _
    simp [List.getD_eq_getElem?_getD, hi]
  rw [List.take_of_length_le (by
    have := List.length_filter_le (eFun c).limP (List.range ((eFun c).coneL (eFun c).t.obj.toNat).length)
    rw [List.length_range, hl] at this
    rw [hl]
    have := h.1.obj
    omega), hl, List.map_map]
  have hf : (List.range c.obj.toNat).filter (eFun c).limP = (List.range c.obj.toNat).filter fun (x : Nat) => allN c.obj.toNat fun y => decide ((c.hom (y : Int) (x : Int)).length = 1) := by
    refine List.filter_congr fun i hi => ?_
    unfold Fun.limP
    rw [hg i (List.mem_range.1 hi), eFun_univ]
  rw [hf]
  refine List.map_congr_left fun i hi => ?_
  exact hg i (List.mem_range.1 (List.mem_filter.1 hi).1)
theorem Cat.mem_term {c : Cat} {z : Int} : z ∈ c.term ↔ ∃ Z : Nat, (Z : Int) < c.obj ∧ (∀ y : Nat, (y : Int) < c.obj → (c.hom (y : Int) z).length = 1) ∧ z = Z := by
  unfold Cat.term
  rw [mem_filtN]
  constructor
  · rintro ⟨i, h1, h2, rfl⟩
    exact ⟨i, by omega, fun y hy => of_decide_eq_true (allN_iff.1 h2 y (by omega)), rfl⟩
  · rintro ⟨i, h1, h2, rfl⟩
    exact ⟨i, by omega, allN_iff.2 fun y hy => decide_eq_true (h2 y (by omega)), rfl⟩
theorem len_one {l : List Int} (h : l.length = 1) : l = [l.getD 0 0] := by
  match l, h with
  | [a], _ => rfl
theorem Cat.term_iso {c : Cat} (hI : c.Is) {x z : Int} (hx : x ∈ c.term) (hz : z ∈ c.term) : (c.hom x z).length = 1 ∧ c.code [(c.hom x z).getD 0 0] = 0 ∧ c.isoB ((c.hom x z).getD 0 0) = true := by
  obtain ⟨X, x1, x2, rfl⟩ := Cat.mem_term.1 hx
  obtain ⟨Z, z1, z2, rfl⟩ := Cat.mem_term.1 hz
  have h1 := z2 X x1
  have hu : (c.hom (X : Int) Z).getD 0 0 ∈ c.hom (X : Int) Z := by
    have e := len_one h1
    have : (c.hom (X : Int) Z).getD 0 0 ∈ [(c.hom (X : Int) Z).getD 0 0] := List.mem_singleton.2 rfl
    rw [← e] at this
    exact this
  refine ⟨h1, ?_⟩
  generalize (c.hom (X : Int) Z).getD 0 0 = u at hu
  have hl2 := x2 Z z1
  have hv : (c.hom (Z : Int) X).getD 0 0 ∈ c.hom (Z : Int) X := by
    have e := len_one hl2
    have : (c.hom (Z : Int) X).getD 0 0 ∈ [(c.hom (Z : Int) X).getD 0 0] := List.mem_singleton.2 rfl
    rw [← e] at this
    exact this
  generalize (c.hom (Z : Int) X).getD 0 0 = v at hv
  have hS := hI.1
  have one : ∀ (W : Nat), (W : Int) < c.obj → (∀ y : Nat, (y : Int) < c.obj → (c.hom (y : Int) W).length = 1) → ∀ a ∈ c.hom (W : Int) W, a = c.I W := fun W hW hw a ha => by
    have hi : c.I (W : Int) ∈ c.hom (W : Int) W := by
      obtain ⟨q1, q2, q3⟩ := Cat.id_in hS (x := (W : Int)) (by omega) hW
      exact Cat.mem_hom.2 ⟨(c.I (W : Int)).toNat, by omega, q2, q3, by omega⟩
    have e := len_one (hw W hW)
    rw [e] at ha hi
    rw [List.mem_singleton.1 ha, List.mem_singleton.1 hi]
  have uv := one X x1 x2 _ (Cat.hom_th hS hu hv)
  have vu := one Z z1 z2 _ (Cat.hom_th hS hv hu)
  obtain ⟨U, u1, u2, u3, rfl⟩ := Cat.mem_hom.1 hu
  have hk : c.code [(U : Int)] = 0 := Cat.code_one.2 ⟨hI, by omega, by omega⟩
  refine ⟨hk, ?_⟩
  unfold Cat.isoB
  rw [decide_eq_true hk, Bool.true_and]
  refine decide_eq_true ?_
  unfold Cat.inv
  refine (firstIn_ge fun y hy => by obtain ⟨_, _, _, _, rfl⟩ := Cat.mem_hom.1 hy; omega).2 ⟨v, ?_, ?_⟩
  · show v ∈ c.hom (c.tgt.getD U 0) (c.src.getD U 0)
    rw [u2, u3]; exact hv
  · unfold Cat.invB
    simp only [Bool.and_eq_true, decide_eq_true_eq]
    show c.th U v = c.idn.getD (c.src.getD U 0).toNat 0 ∧ c.th v U = c.idn.getD (c.tgt.getD U 0).toNat 0
    rw [uv, vu, u2, u3]
    exact ⟨rfl, rfl⟩
theorem Cat.op_term {c : Cat} (h : c.Is) : c.op.code [] = 0 ∧ codeL (c.op.code []) c.op.op.term = c.term ∧ c.opR = c.op := by
  have h2 : c.op.code [] = 0 := Cat.code_nil.2 h.op
  refine ⟨h2, ?_, ?_⟩
  · rw [codeL_ok h2, Cat.op_op h.1]
  · unfold Cat.opR
    rw [if_pos (B_iff.2 h)]
def zP : CatP := ⟨none, none, none, none, fun _ => none⟩
def eP (p : CatP) : FunP := ⟨zP, p, none, none⟩
theorem zero_in (H : GHeap) : Cat.zero.In H zP := ⟨.inl rfl, .inl rfl, .inl rfl, .inl rfl, fun i h => absurd h (Nat.not_lt_zero _)⟩
theorem eFun_in {H : GHeap} {c : Cat} {p : CatP} (h : c.In H p) : (eFun c).In H (eP p) := ⟨zero_in H, h, .inl rfl, .inl rfl⟩
theorem zero_small : Cat.zero.Small := by
  refine ⟨by decide, by decide, by decide, by decide, fun i => by simp [Cat.zero], by decide⟩
theorem eFun_small {c : Cat} (h : c.Small) : (eFun c).Small := ⟨zero_small, h, Nat.zero_le _, Nat.zero_le _⟩
theorem ConsR.atI {T e : TypeId} {b : Nat} {H : GHeap} {a : Option Addr} {r : Nat → Option Addr} {cs : List Con} (h : ConsR T e b H a r cs) {i : Nat} (hi : i < cs.length) : ∃ g, a = some ⟨g, 0, none⟩ ∧ SlA H (some ⟨g, 0, none⟩) (cs.length * 2) (fun i => (conV r cs).getD i (.bool false)) ∧ MemN H g (0 + (i : Int).toNat * 2) 2 ((cs.getD i .z).cells ⟨r i⟩) := by
  rcases h with ⟨rfl, _⟩ | ⟨g', e1, h1, h2⟩
  · simp at hi
  · have hc := h2.cin h1
    exact ⟨g', e1, hc.sl, hc.mem i hi⟩
theorem cones_get {c : Cat} {i : Nat} (h : i < c.term.length) : (c.term.map fun z => (⟨z, []⟩ : Con)).getD i .z = ⟨c.term.getD i 0, []⟩ := by
  simp [List.getD_eq_getElem?_getD, h]
theorem Cat.term_mem {c : Cat} {i : Nat} (h : i < c.term.length) : c.term.getD i 0 ∈ c.term := getD_mem_list h
theorem Cat.term_code {c : Cat} (hI : c.Is) {x z : Int} (hx : x ∈ c.term) (hz : z ∈ c.term) : c.codeO [x, z] = 0 := by
  obtain ⟨X, x1, _, rfl⟩ := Cat.mem_term.1 hx
  obtain ⟨Z, z1, _, rfl⟩ := Cat.mem_term.1 hz
  refine Cat.codeO_ok.2 ⟨hI, allIn_iff.2 fun i hi => ?_⟩
  simp only [List.length_cons, List.length_nil] at hi
  rcases (by omega : i = 0 ∨ i = 1) with rfl | rfl
  · exact ⟨by simp, by simpa using x1⟩
  · exact ⟨by simp, by simpa using z1⟩
end Go.GL
