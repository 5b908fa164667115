/- Opposites, terminal objects, what the laws compare with; draws of the laws' own. No condition but those of each statement. -/
import Derived.Test.YtjdedelneppnlaaZ11
namespace Go.Proofs.Ytjdedelneppnlaa
open Go Go.GL Go.RowKit Go.Proofs
theorem then9_c {c : Cat} {p : CatP} {f k : Int} {H : GHeap} (hin : c.In H p := by assumption) (hS : c.Shape := by assumption) (h0 : 0 ≤ f := by omega) (h1 : f < c.src.length := by omega) (h2 : 0 ≤ k := by omega) (h3 : k < c.src.length := by omega) :
    GCalls Try.prog 28 [.agg (c.cells p).toArray, .int .i64 f, .int .i64 k] H (Ret (.int .i64 (c.th f k)) H) := by
  refine GCalls.ret rfl ?_
  have q1 := hS.cl
  have q2 := hS.row f.toNat (by omega)
  have q3 := hS.n40
  refine GCalls.body (N := 38) (rs := [.tmp 6]) Try.func28 rfl rfl rfl rfl (fun Qx hret hend => ?_)
  refine .fg [0, 1, 2] rfl ?_
  have hle := GHeap.Le.refl H
  have base_hin := hin
  refine .seq (fun K1 hK1 => .region ?_)
  refine .R rfl (.boxR rfl sz_29_D rfl) ?_
  rintro _ H3 ⟨g3, rfl, le3, ge3, at3⟩
  replace hle := hle.trans le3
  replace hin := base_hin.mono hle
  have hb3 : Cat.At _ g3 0 c p := ⟨Mem.of_get at3, hin⟩
  obtain ⟨-, -, -, -, c43, -, -, -, i43⟩ := hb3.get
  refine .mv rfl (.nil (hK1 _ _ (.seq (fun K2 hK2 => .seq (fun K3 hK3 => .region (.mv rfl (.q rfl (.cmp rfl rfl rfl) (.mv rfl ?_))))))))
  refine .split (fun h9 => ?_) (fun h9 => ?_)
  ·
   simp only [sps] at h9
   omega
  try simp only [sps] at h9
  refine .qg rfl (.move rfl) (.qg rfl (.cmp rfl rfl rfl) (.q rfl (.pickF rfl rfl) (.mv rfl ?_)))
  refine .split (fun h13 => ?_) (fun h13 => ?_)
  ·
   simp only [sps] at h13
   omega
  try simp only [sps] at h13
  refine .qg rfl (.move rfl) (.qg rfl (.fieldAddr fo_29_4_B rfl) ?_)
  refine .qg rfl (.load on_23_B rfl (by first | assumption | exact Mem.of_get at3 4 _ rfl)) ?_
  refine .qg rfl (.len sl_23_B rfl) (.qg rfl (.cmp rfl rfl rfl) (.q rfl (.pickF rfl rfl) (.mv rfl ?_)))
  refine .split (fun h20 => ?_) (fun h20 => ?_)
  ·
   simp only [sps] at h20
   omega
  try simp only [sps] at h20
  refine .qg rfl (.move rfl) (.qg rfl (.fieldAddr fo_29_4_B rfl) ?_)
  refine .qg rfl (.load on_23_B rfl (by first | assumption | exact Mem.of_get at3 4 _ rfl)) ?_
  refine .qg rfl (.move rfl) ?_
  refine .qg rfl (.idx1 sl_23_B (Intss.sl (by assumption)) rfl rfl (by omega) (by omega)) ?_
  refine .qg rfl (.loadR on_22_B (by assumption) rfl (by omega)) ?_
  refine .qg rfl (.len sl_22_A rfl) (.qg rfl (.cmp rfl rfl rfl) (.q rfl (.pickF rfl rfl) (.nil (hK3 _ _ ?_))))
  refine .cond rfl (fun h29 => ?_) (fun h29 => ?_)
  ·
   simp only [sps] at h29
   omega
  try simp only [sps] at h29
  refine .skip ?_
  refine hK2 _ _ (.seq (fun K4 hK4 => .region (.q rfl (.fieldAddr fo_29_4_B rfl) ?_)))
  refine .q rfl (.load on_23_B rfl (by first | assumption | exact Mem.of_get at3 4 _ rfl)) ?_
  refine .mv rfl ?_
  refine .q rfl (.idx1 sl_23_B (Intss.sl (by assumption)) rfl rfl (by omega) (by omega)) ?_
  have w1 := i43.2 f.toNat (by omega)
  refine .q rfl (.loadR on_22_B (by assumption) rfl (by omega)) ?_
  refine .mv rfl ?_
  refine .q rfl (.idx1 sl_22_A (by assumption) rfl rfl (by omega) (by omega)) ?_
  refine .q rfl (.loadI on_2_A (by assumption) rfl (by omega)) ?_
  refine .mv rfl (.nil (hK4 _ _ ?_))
  refine .ret ?_
  refine hret _ _ ?_
  refine ⟨_, rfl, ?_⟩
  exact ⟨rfl, hle⟩
theorem opposite1_c {g o g1 i j : Nat} {c : Cat} {p : CatP} {e1 : TypeId} {H : GHeap} (h : Cat.At H g o c p) (h1 : H.get g1 = some (.row [.pointer (some ⟨g, o, none⟩)] e1 true)) (hS : c.Shape) (hi : i < c.src.length) (hj : j < c.src.length) :
    GCalls Try.prog 96 [.int .i64 (i : Int), .int .i64 (j : Int), .pointer (some ⟨g1, 0, none⟩)] H (Ret (.int .i64 ((c.comp.getD j []).getD i 0)) H) := by
  have k1 : H.cell g1 0 = some (.pointer (some ⟨g, o, none⟩)) := by rw [GHeap.cell_of h1]; rfl
  refine GCalls.body (N := 10) (rs := [.tmp 5]) Try.func96 rfl rfl rfl rfl (fun Qx hret hend => ?_)
  refine .fg [0, 1, 2] rfl ?_
  refine .seq (fun K1 hK1 => .region (.mv rfl (.nil (hK1 _ _ (.seq (fun K2 hK2 => .region ?_))))))
  refine .q rfl (.load on_69_Fc rfl (by assumption)) ?_
  refine .mv rfl (.mv rfl ?_)
  refine .callQ rfl rfl rfl rfl @Try.call64 rfl (then_s) ?_
  refine .mv rfl (.nil (hK2 _ _ ?_))
  refine .ret ?_
  refine hret _ _ ?_
  refine ⟨_, rfl, ?_⟩
  exact .of rfl
set_option maxHeartbeats 4000000 in
theorem opposite_c {g o : Nat} {c : Cat} {p : CatP} {H : GHeap} (hc : Cat.At H g o c p := by assumption) (hS : c.Shape := by assumption) :
    GCalls Try.prog 47 [.pointer (some ⟨g, o, none⟩)] H (NewCatR H c.op) := by
  have b1 := hS.n40
  have b2 := hS.tl
  have b3 := hS.cl
  have b4 := hS.il
  have b5 := hS.obj
  refine GCalls.body (N := 27) (rs := [.cell 2 29]) Try.func47 rfl rfl rfl rfl (fun Qx hret hend => ?_)
  refine .fg [0] rfl ?_
  have hle := GHeap.Le.refl H
  have base_hc := hc
  refine .seq (fun K1 hK1 => .region ?_)
  refine .R rfl (.boxR rfl sz_69_Fc rfl) ?_
  rintro _ H1 ⟨g1, rfl, le1, ge1, at1⟩
  replace hle := hle.trans le1
  have lt_at1 := GHeap.ltg at1
  replace hc := base_hc.mono hle
  refine .R rfl (.allocR rfl ze_29_Hj rfl) ?_
  rintro _ H2 ⟨g2, rfl, le2, ge2, at2⟩
  replace hle := hle.trans le2
  replace at1 := le2.2 _ _ at1
  have lt_at2 := GHeap.ltg at2
  replace hc := base_hc.mono hle
  obtain ⟨c0, c1, c2, c3, c4, i1, i2, i3, i4⟩ := hc.get
  refine .nil (hK1 _ _ (.seq (fun K2 hK2 => ?_)))
  refine .regionD mo_B (.q 0 (.q 1 (.q 2 (.q 3 (.q 4 (.q 5 (.q 6 (.q 7 (.q 9 (.q 10 (.q 11 (.q 12 (.q 14 (.q 15 (.q 16 (.q 17 (.or (.c 8 1 (.or (.c 13 1 (.or (.c 18 1 (.q 19 (.c 20 1 (.c 21 1 (.done))))) (.c 20 1 (.c 18 1 (.q 19 (.c 21 1 (.done))))))) (.c 20 1 (.c 13 1 (.c 18 1 (.q 19 (.c 21 1 (.done)))))))) (.c 20 1 (.c 8 1 (.c 13 1 (.c 18 1 (.q 19 (.c 21 1 (.done)))))))))))))))))))))))) (by kernel_rfl) ?_
  refine .cut [(0, some _), (1, some _), (2, some _)] ⟨rfl, rfl, rfl, trivial⟩ (fun rest fr' H' => ∃ g12 g17 g22 g3, Sub ((12, some (.slice (some ⟨g12, 0, none⟩) c.tgt.length c.tgt.length)) :: (17, some (.slice (some ⟨g17, 0, none⟩) c.src.length c.src.length)) :: (22, some (.slice (some ⟨g22, 0, none⟩) c.idn.length c.idn.length)) :: (3, some (.pointer (some ⟨g3, 0, none⟩))) :: rest) fr' ∧ H2.Le H' ∧ H2.next ≤ g12 ∧ H2.next ≤ g17 ∧ H2.next ≤ g22 ∧ H2.next ≤ g3 ∧ H'.get g12 = some (.row (ints c.tgt) 2 true) ∧ H'.get g17 = some (.row (ints c.src) 2 true) ∧ H'.get g22 = some (.row (ints c.idn) 2 true) ∧ H'.get g3 = some (.row ([.int .i64 c.obj, .slice (some ⟨g12, 0, none⟩) c.tgt.length c.tgt.length, .slice (some ⟨g17, 0, none⟩) c.src.length c.src.length, .slice (some ⟨g22, 0, none⟩) c.idn.length c.idn.length, .slice none 0 0]) 29 true) ∧ g12 ≠ g17 ∧ g12 ≠ g22 ∧ g12 ≠ g3 ∧ g17 ≠ g22 ∧ g17 ≠ g3 ∧ g22 ≠ g3) ?_ ?_
  ·
   have hf0 := GHeap.Le.refl H2
   refine .q rfl (.load on_69_Fc rfl (by first | assumption | exact Mem.of_get at1 0 _ rfl)) ?_
   refine .qB rfl (.refl _) (.nilCheck rfl) (.qB rfl (.refl _) (.fieldAddr fo_29_0_B rfl) ?_)
   refine .q rfl (.load on_2_A rfl (by assumption)) ?_
   refine .q rfl (.load on_69_Fc rfl (by first | assumption | exact Mem.of_get at1 0 _ rfl)) ?_
   refine .qB rfl (.refl _) (.nilCheck rfl) (.qB rfl (.refl _) (.fieldAddr fo_29_2_B rfl) ?_)
   refine .q rfl (.load on_22_B rfl (by assumption)) ?_
   refine .q rfl (.load on_69_Fc rfl (by first | assumption | exact Mem.of_get at1 0 _ rfl)) ?_
   refine .qB rfl (.refl _) (.nilCheck rfl) (.qB rfl (.refl _) (.fieldAddr fo_29_1_B rfl) ?_)
   refine .q rfl (.load on_22_B rfl (by assumption)) ?_
   refine .q rfl (.load on_69_Fc rfl (by first | assumption | exact Mem.of_get at1 0 _ rfl)) ?_
   refine .qB rfl (.refl _) (.nilCheck rfl) (.qB rfl (.refl _) (.fieldAddr fo_29_3_B rfl) ?_)
   refine .q rfl (.load on_22_B rfl (by assumption)) ?_
   refine .orI ?_ ?_
   ·
    refine .call1 rfl rfl rfl rfl rfl @Try.call95 rfl (clone_c) ?_
    rintro _ H12x2 ⟨le12x2, g12x2, rfl, at12x2, ge12x2⟩
    have hbl := le12x2
    refine ⟨hbl, ?_⟩
    replace hle := hle.trans le12x2
    have lt_at12x2 := GHeap.ltg at12x2
    replace hf0 := hf0.trans le12x2
    refine .orI ?_ ?_
    ·
     replace hc := base_hc.mono hle
     clear c0 c1 c2 c3 c4 i1 i2 i3 i4
     obtain ⟨c0, c1, c2, c3, c4, i1, i2, i3, i4⟩ := hc.get
     refine .call1 rfl rfl rfl rfl rfl @Try.call95 rfl (clone_c) ?_
     rintro _ H17x2 ⟨le17x2, g17x2, rfl, at17x2, ge17x2⟩
     replace hbl := hbl.trans le17x2
     refine ⟨hbl, ?_⟩
     replace hle := hle.trans le17x2
     replace at12x2 := le17x2.2 _ _ at12x2
     have lt_at17x2 := GHeap.ltg at17x2
     replace hf0 := hf0.trans le17x2
     refine .orI ?_ ?_
     ·
      replace hc := base_hc.mono hle
      clear c0 c1 c2 c3 c4 i1 i2 i3 i4
      obtain ⟨c0, c1, c2, c3, c4, i1, i2, i3, i4⟩ := hc.get
      refine .call1 rfl rfl rfl rfl rfl @Try.call95 rfl (clone_c) ?_
      rintro _ H22x2 ⟨le22x2, g22x2, rfl, at22x2, ge22x2⟩
      replace hbl := hbl.trans le22x2
      refine ⟨hbl, ?_⟩
      replace at12x2 := le22x2.2 _ _ at12x2
      replace at17x2 := le22x2.2 _ _ at17x2
      have lt_at22x2 := GHeap.ltg at22x2
      replace hf0 := hf0.trans le22x2
      refine .qB rfl hbl (.build bt_29_Hj rfl rfl rfl) ?_
      refine .c1 rfl rfl rfl rfl (.allocR rfl ze_29_Hj rfl) ?_
      rintro _ H3x2 ⟨g3x2, rfl, le3x2, ge3x2, at3x2⟩
      replace hbl := hbl.trans le3x2
      refine ⟨hbl, ?_⟩
      replace at12x2 := le3x2.2 _ _ at12x2
      replace at17x2 := le3x2.2 _ _ at17x2
      replace at22x2 := le3x2.2 _ _ at22x2
      replace hf0 := hf0.trans le3x2
      refine .r1 rfl rfl rfl (.fillA rfl sz_29_D rfl rfl rfl rfl) ?_
      rintro _ H1021 ⟨rfl, st1021, at1021⟩
      replace hbl := hbl.st st1021 (fun k hk => ⟨by omega, trivial⟩)
      refine ⟨hbl, ?_⟩
      replace at12x2 := st1021.s at12x2
      replace at17x2 := st1021.s at17x2
      replace at22x2 := st1021.s at22x2
      replace hf0 := hf0.st st1021 (fun k hk => ⟨by omega, trivial⟩)
      refine .done ?_
      exact ⟨g12x2, g17x2, g22x2, g3x2, ⟨rfl, rfl, rfl, rfl, rfl, rfl, rfl, trivial⟩, hf0, by omega, by omega, by omega, by omega, by first | assumption | simpa using at12x2, by first | assumption | simpa using at17x2, by first | assumption | simpa using at22x2, by first | assumption | simpa using at1021, by omega, by omega, by omega, by omega, by omega, by omega⟩
     refine .c1 rfl rfl rfl rfl (.allocR rfl ze_29_Hj rfl) ?_
     rintro _ H3x3 ⟨g3x3, rfl, le3x3, ge3x3, at3x3⟩
     replace hbl := hbl.trans le3x3
     refine ⟨hbl, ?_⟩
     replace hle := hle.trans le3x3
     replace at12x2 := le3x3.2 _ _ at12x2
     replace at17x2 := le3x3.2 _ _ at17x2
     have lt_at3x3 := GHeap.ltg at3x3
     replace hf0 := hf0.trans le3x3
     replace hc := base_hc.mono hle
     clear c1
     obtain ⟨c0, c1, c2, c3, c4, i1, i2, i3, i4⟩ := hc.get
     refine .call1 rfl rfl rfl rfl rfl @Try.call95 rfl (clone_c) ?_
     rintro _ H22x3 ⟨le22x3, g22x3, rfl, at22x3, ge22x3⟩
     replace hbl := hbl.trans le22x3
     refine ⟨hbl, ?_⟩
     replace at12x2 := le22x3.2 _ _ at12x2
     replace at17x2 := le22x3.2 _ _ at17x2
     replace at3x3 := le22x3.2 _ _ at3x3
     replace hf0 := hf0.trans le22x3
     refine .qB rfl hbl (.build bt_29_Hj rfl rfl rfl) ?_
     refine .r1 rfl rfl rfl (.fillA rfl sz_29_D rfl rfl rfl rfl) ?_
     rintro _ H1021x2 ⟨rfl, st1021x2, at1021x2⟩
     replace hbl := hbl.st st1021x2 (fun k hk => ⟨by omega, trivial⟩)
     refine ⟨hbl, ?_⟩
     replace at12x2 := st1021x2.s at12x2
     replace at17x2 := st1021x2.s at17x2
     replace at22x3 := st1021x2.s at22x3
     replace hf0 := hf0.st st1021x2 (fun k hk => ⟨by omega, trivial⟩)
     refine .done ?_
     exact ⟨g12x2, g17x2, g22x3, g3x3, ⟨rfl, rfl, rfl, rfl, rfl, rfl, rfl, trivial⟩, hf0, by omega, by omega, by omega, by omega, by first | assumption | simpa using at12x2, by first | assumption | simpa using at17x2, by first | assumption | simpa using at22x3, by first | assumption | simpa using at1021x2, by omega, by omega, by omega, by omega, by omega, by omega⟩
    refine .c1 rfl rfl rfl rfl (.allocR rfl ze_29_Hj rfl) ?_
    rintro _ H3x4 ⟨g3x4, rfl, le3x4, ge3x4, at3x4⟩
    replace hbl := hbl.trans le3x4
    refine ⟨hbl, ?_⟩
    replace hle := hle.trans le3x4
    replace at12x2 := le3x4.2 _ _ at12x2
    have lt_at3x4 := GHeap.ltg at3x4
    replace hf0 := hf0.trans le3x4
    replace hc := base_hc.mono hle
    clear c1
    obtain ⟨c0, c1, c2, c3, c4, i1, i2, i3, i4⟩ := hc.get
    refine .call1 rfl rfl rfl rfl rfl @Try.call95 rfl (clone_c) ?_
    rintro _ H17x3 ⟨le17x3, g17x3, rfl, at17x3, ge17x3⟩
    replace hbl := hbl.trans le17x3
    refine ⟨hbl, ?_⟩
    replace hle := hle.trans le17x3
    replace at12x2 := le17x3.2 _ _ at12x2
    replace at3x4 := le17x3.2 _ _ at3x4
    have lt_at17x3 := GHeap.ltg at17x3
    replace hf0 := hf0.trans le17x3
    replace hc := base_hc.mono hle
    clear c0 c1 c2 c3 c4 i1 i2 i3 i4
    obtain ⟨c0, c1, c2, c3, c4, i1, i2, i3, i4⟩ := hc.get
    refine .call1 rfl rfl rfl rfl rfl @Try.call95 rfl (clone_c) ?_
    rintro _ H22x4 ⟨le22x4, g22x4, rfl, at22x4, ge22x4⟩
    replace hbl := hbl.trans le22x4
    refine ⟨hbl, ?_⟩
    replace at12x2 := le22x4.2 _ _ at12x2
    replace at3x4 := le22x4.2 _ _ at3x4
    replace at17x3 := le22x4.2 _ _ at17x3
    replace hf0 := hf0.trans le22x4
    refine .qB rfl hbl (.build bt_29_Hj rfl rfl rfl) ?_
    refine .r1 rfl rfl rfl (.fillA rfl sz_29_D rfl rfl rfl rfl) ?_
    rintro _ H1021x3 ⟨rfl, st1021x3, at1021x3⟩
    replace hbl := hbl.st st1021x3 (fun k hk => ⟨by omega, trivial⟩)
    refine ⟨hbl, ?_⟩
    replace at12x2 := st1021x3.s at12x2
    replace at17x3 := st1021x3.s at17x3
    replace at22x4 := st1021x3.s at22x4
    replace hf0 := hf0.st st1021x3 (fun k hk => ⟨by omega, trivial⟩)
    refine .done ?_
    exact ⟨g12x2, g17x3, g22x4, g3x4, ⟨rfl, rfl, rfl, rfl, rfl, rfl, rfl, trivial⟩, hf0, by omega, by omega, by omega, by omega, by first | assumption | simpa using at12x2, by first | assumption | simpa using at17x3, by first | assumption | simpa using at22x4, by first | assumption | simpa using at1021x3, by omega, by omega, by omega, by omega, by omega, by omega⟩
   refine .c1 rfl rfl rfl rfl (.allocR rfl ze_29_Hj rfl) ?_
   rintro _ H3x5 ⟨g3x5, rfl, le3x5, ge3x5, at3x5⟩
   have hbl := le3x5
   refine ⟨hbl, ?_⟩
   replace hle := hle.trans le3x5
   have lt_at3x5 := GHeap.ltg at3x5
   replace hf0 := hf0.trans le3x5
   replace hc := base_hc.mono hle
   clear c1
   obtain ⟨c0, c1, c2, c3, c4, i1, i2, i3, i4⟩ := hc.get
   refine .call1 rfl rfl rfl rfl rfl @Try.call95 rfl (clone_c) ?_
   rintro _ H12x3 ⟨le12x3, g12x3, rfl, at12x3, ge12x3⟩
   replace hbl := hbl.trans le12x3
   refine ⟨hbl, ?_⟩
   replace hle := hle.trans le12x3
   replace at3x5 := le12x3.2 _ _ at3x5
   have lt_at12x3 := GHeap.ltg at12x3
   replace hf0 := hf0.trans le12x3
   replace hc := base_hc.mono hle
   clear c0 c1 c2 c3 c4 i1 i2 i3 i4
   obtain ⟨c0, c1, c2, c3, c4, i1, i2, i3, i4⟩ := hc.get
   refine .call1 rfl rfl rfl rfl rfl @Try.call95 rfl (clone_c) ?_
   rintro _ H17x4 ⟨le17x4, g17x4, rfl, at17x4, ge17x4⟩
   replace hbl := hbl.trans le17x4
   refine ⟨hbl, ?_⟩
   replace hle := hle.trans le17x4
   replace at3x5 := le17x4.2 _ _ at3x5
   replace at12x3 := le17x4.2 _ _ at12x3
   have lt_at17x4 := GHeap.ltg at17x4
   replace hf0 := hf0.trans le17x4
   replace hc := base_hc.mono hle
   clear c0 c1 c2 c3 c4 i1 i2 i3 i4
   obtain ⟨c0, c1, c2, c3, c4, i1, i2, i3, i4⟩ := hc.get
   refine .call1 rfl rfl rfl rfl rfl @Try.call95 rfl (clone_c) ?_
   rintro _ H22x5 ⟨le22x5, g22x5, rfl, at22x5, ge22x5⟩
   replace hbl := hbl.trans le22x5
   refine ⟨hbl, ?_⟩
   replace at3x5 := le22x5.2 _ _ at3x5
   replace at12x3 := le22x5.2 _ _ at12x3
   replace at17x4 := le22x5.2 _ _ at17x4
   replace hf0 := hf0.trans le22x5
   refine .qB rfl hbl (.build bt_29_Hj rfl rfl rfl) ?_
   refine .r1 rfl rfl rfl (.fillA rfl sz_29_D rfl rfl rfl rfl) ?_
   rintro _ H1021x4 ⟨rfl, st1021x4, at1021x4⟩
   replace hbl := hbl.st st1021x4 (fun k hk => ⟨by omega, trivial⟩)
   refine ⟨hbl, ?_⟩
   replace at12x3 := st1021x4.s at12x3
   replace at17x4 := st1021x4.s at17x4
   replace at22x5 := st1021x4.s at22x5
   replace hf0 := hf0.st st1021x4 (fun k hk => ⟨by omega, trivial⟩)
   refine .done ?_
   exact ⟨g12x3, g17x4, g22x5, g3x5, ⟨rfl, rfl, rfl, rfl, rfl, rfl, rfl, trivial⟩, hf0, by omega, by omega, by omega, by omega, by first | assumption | simpa using at12x3, by first | assumption | simpa using at17x4, by first | assumption | simpa using at22x5, by first | assumption | simpa using at1021x4, by omega, by omega, by omega, by omega, by omega, by omega⟩
  rintro fr3 H3 ⟨g12, g17, g22, g3, hsub3, le3, ge12, ge17, ge22, ge3, at12, at17, at22, at3, ne3_0, ne3_1, ne3_2, ne3_3, ne3_4, ne3_5⟩
  have nx_H3 := le3.1
  replace hle := hle.trans le3
  replace at1 := le3.2 _ _ at1
  replace at2 := le3.2 _ _ at2
  have lt_at12 := GHeap.ltg at12
  have lt_at17 := GHeap.ltg at17
  have lt_at22 := GHeap.ltg at22
  replace hc := base_hc.mono hle
  refine hK2 _ _ ?_
  refine .forget hsub3 ?_
  refine .seq (fun K3 hK3 => .region ?_)
  rw [b2] at at3
  refine .q rfl (.makeFunc rfl) ?_
  refine .call rfl rfl rfl rfl @Try.call81 rfl (table_c (src := c.tgt) (tgt := c.src) (X := fun i j => (c.comp.getD j []).getD i 0) (by assumption) hS.tl rfl (by omega) (fun H' s => Ints.of_get (s.same _ _ ⟨by omega, trivial⟩ at12)) (fun H' s => Ints.of_get (s.same _ _ ⟨by omega, trivial⟩ at17)) @Try.call96 (fun H' s i j hi hj e => (opposite1_c (H := H') (base_hc.mono (hle.st s (fun k hk => ⟨by omega, trivial⟩))) (s.same _ _ ⟨by omega, trivial⟩ at1) hS hi hj).mono fun v H'' hv => by obtain ⟨rfl, rfl⟩ := hv; exact ⟨.refl _, rfl⟩)) ?_
  rintro _ H25 ⟨st25, gC25, r25, at25, ge25, v25, hr25⟩
  replace hle := hle.st st25 (fun k hk => ⟨by omega, trivial⟩)
  replace at2 := st25.s at2
  replace at12 := st25.s at12
  replace at17 := st25.s at17
  replace at22 := st25.s at22
  replace hc := base_hc.mono hle
  refine .nil (hK3 _ _ (.seq (fun K4 hK4 => .region ?_)))
  refine .q rfl (.loadM ag_29_D rfl ⟨rfl, Mem.of_get at25⟩) ?_
  refine .r0 rfl rfl (.fillA rfl sz_29_D rfl rfl rfl rfl) ?_
  rintro _ H3001 ⟨rfl, st3001, at3001⟩
  replace hle := hle.st st3001 (fun k hk => ⟨by omega, trivial⟩)
  replace at12 := st3001.s at12
  replace at17 := st3001.s at17
  replace at22 := st3001.s at22
  replace hc := base_hc.mono hle
  refine .nil (hK4 _ _ ?_)
  refine .ret ?_
  refine hret _ _ ?_
  refine ⟨_, _, _, _, rfl, ag_29_D, (by rfl), (Mem.of_get at3001), ?_⟩
  rw [Cat.op_tab hS] at v25
  refine ⟨hle, ⟨some ⟨g12, 0, none⟩, some ⟨g17, 0, none⟩, some ⟨g22, 0, none⟩, some ⟨gC25, 0, none⟩, r25⟩, by simp [Cat.cells, Cat.op, b2], ?_⟩
  have hv := v25.keep (st3001.keep (b := H3.next) (fun k hk => ⟨by omega, trivial⟩)) (by omega)
  refine .mk (.of_at at12 (by omega)) (.of_at at17 (by omega)) (.of_at at22 (by omega)) (hv.keep (.of_le (.refl _)) (by omega)) (g1 := g12) (g2 := g17) (g3 := g22) (.inr rfl) (.inr rfl) (.inr rfl) (by omega) (by omega) (by omega) (fun i hi => ?_)
  have hi' : i < c.src.length := by simpa [Cat.op] using hi
  exact ⟨fun e => by have := hr25 i hi' _ e; omega, fun e => by have := hr25 i hi' _ e; omega, fun e => by have := hr25 i hi' _ e; omega⟩
theorem oppositeCategory_c {c : Cat} {p : CatP} {H : GHeap} (hin : c.In H p := by assumption) (hs : c.Small := by assumption) :
    GCalls Try.prog 29 [.agg (c.cells p).toArray] H (NewCR (c.code []) c.opR H) := by
  refine GCalls.body (N := 8) (rs := [.cell 2 29, .tmp 3]) Try.func29 rfl rfl rfl rfl (fun Qx hret hend => ?_)
  refine .fg [0] rfl ?_
  have hle := GHeap.Le.refl H
  have base_hin := hin
  refine .seq (fun K1 hK1 => .region ?_)
  refine .R rfl (.boxR rfl sz_29_D rfl) ?_
  rintro _ H1 ⟨g1, rfl, le1, ge1, at1⟩
  replace hle := hle.trans le1
  have lt_at1 := GHeap.ltg at1
  replace hin := base_hin.mono hle
  have hb1 : Cat.At _ g1 0 c p := ⟨Mem.of_get at1, hin⟩
  refine .R rfl (.allocR rfl ze_29_Hj rfl) ?_
  rintro _ H2 ⟨g2, rfl, le2, ge2, at2⟩
  have nx_H2 := le2.1
  replace hle := hle.trans le2
  replace at1 := le2.2 _ _ at1
  have lt_at2 := GHeap.ltg at2
  replace hin := base_hin.mono hle
  clear hb1
  have hb1 : Cat.At _ g1 0 c p := ⟨Mem.of_get at1, hin⟩
  refine .mv rfl (.nil (hK1 _ _ (.seq (fun K2 hK2 => .seq (fun K3 hK3 => .region ?_)))))
  refine .callQ rfl rfl rfl rfl @Try.call46 rfl (isCategory_c) ?_
  refine .q rfl (.not rfl) (.nil (hK3 _ _ ?_))
  refine .cond rfl (fun h5 => ?_) (fun h5 => ?_)
  ·
   try simp only [sps] at h5
   refine .seq (fun K4 hK4 => .region (.q rfl (.build bt_29_Hj rfl rfl rfl) ?_))
   refine .r0 rfl rfl (.fillA rfl sz_29_D rfl rfl rfl rfl) ?_
   rintro _ H2001 ⟨rfl, st2001, at2001⟩
   replace hle := hle.st st2001 (fun k hk => ⟨by omega, trivial⟩)
   have ne_g1_g2 : NE g1 g2 := .a
   replace at1 := st2001.s at1 ne_g1_g2.ne
   replace hin := base_hin.mono hle
   clear hb1
   have hb1 : Cat.At _ g1 0 c p := ⟨Mem.of_get at1, hin⟩
   refine .mv rfl (.nil (hK4 _ _ ?_))
   refine .ret ?_
   refine hret _ _ ?_
   refine ⟨_, _, _, _, _, rfl, ag_29_D, (by rfl), (Mem.of_get at2001), rfl, ?_⟩
   rw [Cat.op_not h5, Cat.code_nil1 h5]; exact ⟨hle, .zero, rfl, .zero _ _⟩
  simp only [sps] at h5
  have hS := h5.1
  refine .skip ?_
  refine hK2 _ _ (.seq (fun K5 hK5 => .region ?_))
  refine .call rfl rfl rfl rfl @Try.call47 rfl (opposite_c) ?_
  rintro _ H7 ⟨le7, p7, rfl, v7⟩
  replace hle := hle.trans le7
  replace at1 := le7.2 _ _ at1
  replace at2 := le7.2 _ _ at2
  have bs_v7 := v7
  have lv_v7 : Keep H2.next H7 H7 := fun _ _ _ h => h
  replace hin := base_hin.mono hle
  have hb1 : Cat.At _ g1 0 c p := ⟨Mem.of_get at1, hin⟩
  refine .r0 rfl rfl (.fillA rfl sz_29_D rfl rfl rfl rfl) ?_
  rintro _ H3001 ⟨rfl, st3001, at3001⟩
  replace hle := hle.st st3001 (fun k hk => ⟨by omega, trivial⟩)
  have ne_g1_g2 : NE g1 g2 := .a
  replace at1 := st3001.s at1 ne_g1_g2.ne
  replace lv_v7 := Keep.st lv_v7 st3001 (fun k hb hk => ⟨by omega, trivial⟩)
  replace v7 := bs_v7.keep lv_v7 (Nat.le_refl _)
  replace hin := base_hin.mono hle
  clear hb1
  have hb1 : Cat.At _ g1 0 c p := ⟨Mem.of_get at1, hin⟩
  refine .mv rfl (.nil (hK5 _ _ ?_))
  refine .ret ?_
  refine hret _ _ ?_
  refine ⟨_, _, _, _, _, rfl, ag_29_D, (by rfl), (Mem.of_get at3001), rfl, ?_⟩
  rw [Cat.op_ok h5, Cat.code_nil.2 h5]; exact ⟨hle, p7, rfl, v7.keep (.of_le (.refl _)) (by omega)⟩
end Go.Proofs.Ytjdedelneppnlaa
namespace Go.GL
abbrev hd (l : List Int) : Int := l.getD 0 0
structure EqvOn (P : Int → Prop) (E : Int → Int → Bool) : Prop where
  refl : ∀ x, P x → E x x = true
  symm : ∀ x y, E x y = true → E y x = true
  trans : ∀ x y z, P x → P y → P z → E x y = true → E y z = true → E x z = true
structure ClsOk (P : Int → Prop) (E : Int → Int → Bool) (T : List (List Int)) : Prop where
  ne : ∀ i, i < T.length → 0 < (T.getD i []).length
  mem : ∀ i, i < T.length → ∀ x ∈ T.getD i [], P x ∧ E x (hd (T.getD i [])) = true
  ap : ∀ i j, i < T.length → j < T.length → i ≠ j → E (hd (T.getD i [])) (hd (T.getD j [])) = false
structure Cat.ToX (c : Cat) (x m : Int) : Prop where
  ge : 0 ≤ m
  lt : m < c.src.length
  tg : c.T m = x
  mono : c.Mono m
end Go.GL
namespace Go.Proofs.Ytjdedelneppnlaa
open Go Go.GL Go.RowKit Go.Proofs
end Go.Proofs.Ytjdedelneppnlaa
namespace Go.GL
def Cat.pw (c : Cat) (f : Int) : Nat → Int
  | 0 => f
  | k + 1 => c.th (c.pw f k) f
structure Cat.Cyc (c : Cat) (f : Int) (k a : Nat) : Prop where
  lt : a < k
  eq : c.pw f k = c.pw f a
  ne : ∀ i j, i < j → j < k → c.pw f i ≠ c.pw f j
inductive Cat.Pw (c : Cat) (f i p e : Int) : Prop
  | err (h : c.code [f] ≠ 0) (hi : i = 0) (hp : p = 0) (he : e = c.code [f])
  | ends (h : c.code [f] = 0) (hn : ¬ c.S f = c.T f) (hi : i = 0) (hp : p = 0) (he : e = 5)
  | yes (h : c.code [f] = 0) (hn : c.S f = c.T f) (k a : Nat) (hc : c.Cyc f k a) (hi : i = (a : Int) + 1) (hp : p = (k : Int) - a) (he : e = 0)
theorem allIn_two {f g n : Int} : allIn [f, g] n = true ↔ (0 ≤ f ∧ f < n) ∧ 0 ≤ g ∧ g < n := by
  rw [allIn_iff]
  exact ⟨fun h => ⟨h 0 (by simp), h 1 (by simp)⟩, fun h i hi => by
    obtain rfl | rfl : i = 0 ∨ i = 1 := by simp at hi; omega
    · exact h.1
    · exact h.2⟩
theorem Cat.code_two {c : Cat} {f g : Int} : c.code [f, g] = 0 ↔ c.Is ∧ (0 ≤ f ∧ f < c.src.length) ∧ 0 ≤ g ∧ g < c.src.length := by rw [Cat.code_ok, allIn_two]
end Go.GL
namespace Go.GL
end Go.GL
namespace Go.Proofs.Ytjdedelneppnlaa
open Go Go.GL Go.RowKit Go.Proofs
theorem l02Arrows_c {c : Cat} {p : CatP} {a : Option Addr} {xs : List Int} {H : GHeap} (hin : c.In H p := by assumption) (hs : c.Small := by assumption) (hx : Ints H a xs := by assumption) (hl : xs.length ≤ 1048576 := by omega) :
    GCalls Try.prog 113 [.agg (c.cells p).toArray, .slice a xs.length xs.length] H (Ret (.int .i64 (c.code xs)) H) := by
  refine GCalls.ret rfl ?_
  refine GCalls.body (N := 14) (rs := [.tmp 4]) Try.func113 rfl rfl rfl rfl (fun Qx hret hend => ?_)
  refine .fg [0, 1] rfl ?_
  have hle := GHeap.Le.refl H
  have base_hin := hin
  have base_hx := hx
  refine .seq (fun K1 hK1 => .region ?_)
  refine .R rfl (.boxR rfl sz_29_D rfl) ?_
  rintro _ H2 ⟨g2, rfl, le2, ge2, at2⟩
  replace hle := hle.trans le2
  replace hin := base_hin.mono hle
  replace hx := base_hx.mono hle
  have hb2 : Cat.At _ g2 0 c p := ⟨Mem.of_get at2, hin⟩
  obtain ⟨-, c12, -, -, -, -, -, -, -⟩ := hb2.get
  have hi2 := hb2.2
  refine .mv rfl (.nil (hK1 _ _ (.seq (fun K2 hK2 => .seq (fun K3 hK3 => .region ?_)))))
  refine .q rfl (.loadM ag_29_D rfl ⟨rfl, Mem.of_get at2⟩) ?_
  refine .callQ rfl rfl rfl rfl @Try.call41 rfl (l02Is_c) ?_
  refine .q rfl (.not rfl) (.nil (hK3 _ _ ?_))
  refine .cond rfl (fun h7 => ?_) (fun h7 => ?_)
  ·
   try simp only [sps] at h7
   refine .seq (fun K4 hK4 => .region (.mv rfl (.nil (hK4 _ _ ?_))))
   refine .ret ?_
   refine hret _ _ ?_
   refine ⟨_, rfl, ?_⟩
   exact ⟨congrArg _ (Cat.code_not h7), hle⟩
  try simp only [sps] at h7
  refine .skip ?_
  refine hK2 _ _ (.seq (fun K5 hK5 => .seq (fun K6 hK6 => .region (.q rfl (.fieldAddr fo_29_1_B rfl) ?_))))
  refine .q rfl (.load on_22_B rfl (by first | assumption | exact Mem.of_get at2 1 _ rfl)) ?_
  refine .q rfl (.len sl_22_A rfl) (.mv rfl ?_)
  refine .callQ rfl rfl rfl rfl @Try.call106 rfl (l01Map_c) ?_
  refine .q rfl (.not rfl) (.nil (hK6 _ _ ?_))
  refine .cond rfl (fun h13 => ?_) (fun h13 => ?_)
  ·
   try simp only [sps] at h13
   refine .seq (fun K7 hK7 => .region (.mv rfl (.nil (hK7 _ _ ?_))))
   refine .ret ?_
   refine hret _ _ ?_
   refine ⟨_, rfl, ?_⟩
   exact ⟨congrArg _ (Cat.code_out h7 (by first | exact h13 | (rw [h13]; simp) | (simp only [sps] at h13 ⊢; exact h13))), hle⟩
  try simp only [sps] at h13
  refine .skip ?_
  refine hK5 _ _ (.seq (fun K8 hK8 => .region (.mv rfl (.nil (hK8 _ _ ?_)))))
  refine .ret ?_
  refine hret _ _ ?_
  refine ⟨_, rfl, ?_⟩
  exact ⟨congrArg _ (Cat.code_ok.2 ⟨h7, allIn_iff.2 h13⟩), hle⟩
theorem l02Number_c {gS : Nat} {n : Int} {H : GHeap} (hs : DSrc 120 H gS := by assumption) (hn : -9223372036854775808 ≤ n ∧ n ≤ 9223372036854775807 := by omega) :
    GCalls Try.prog 53 [.pointer (some ⟨gS, 0, none⟩), .int .i64 n] H (fun v H' => ∃ k, v = .int .i64 k ∧ I64 k ∧ St [gS] H H' ∧ DSrc 120 H' gS) := by
  have hlS := hs.lt
  refine GCalls.body (N := 15) (rs := [.tmp 4]) Try.func53 rfl rfl rfl rfl (fun Qx hret hend => ?_)
  refine .fg [0, 1] rfl ?_
  have hst := St.refl [gS] H
  refine .seq (fun K1 hK1 => .region (.mv rfl (.nil (hK1 _ _ (.seq (fun K2 hK2 => .seq (fun K3 hK3 => .region ?_)))))))
  have hs := hs
  refine .mv rfl ?_
  refine .call rfl rfl rfl rfl @Try.call70 rfl (l01Next_c) ?_
  rintro _ H6 ⟨k6, rfl, ka6, kb6, kc6, st6, hs⟩
  have nx_H6 := st6.nx
  replace hst := hst.sA st6
  refine .q rfl (.cmp rfl rfl rfl) (.nil (hK3 _ _ ?_))
  refine .cond rfl (fun h7 => ?_) (fun h7 => ?_)
  ·
   try simp only [sps] at h7
   refine .seq (fun K4 hK4 => .region (.mv rfl (.mv rfl ?_)))
   refine .R rfl (.litA rfl sl_22_A ze_2_L rfl rfl rfl rfl) ?_
   rintro _ H10 ⟨g10, rfl, le10, ge10, at10⟩
   replace hst := hst.le le10
   replace hs := hs.le le10
   refine .call rfl rfl rfl rfl @Try.call102 rfl ((by have hh := l01Pick_c (xs := [-1, n, 9223372036854775807, -9223372036854775808]) (hl := fun H' s => Ints.of_get (s.same _ _ ⟨by omega, trivial⟩ at10)) (h0 := by simp); exact hh)) ?_
   rintro _ H11 ⟨i11, hi11, rfl, st11, hs⟩
   obtain ⟨k11, e11, b11⟩ : ∃ k : Int, ([-1, n, 9223372036854775807, -9223372036854775808] : List Int).getD i11 0 = k ∧ I64 k := ⟨_, rfl, bd_iff.2 (by intro x hx; simp only [List.mem_cons, List.not_mem_nil, or_false] at hx; omega) _ hi11⟩
   rw [e11]
   replace hst := hst.sA st11
   refine .mv rfl (.nil (hK4 _ _ ?_))
   refine .ret ?_
   refine hret _ _ ?_
   refine ⟨_, rfl, ?_⟩
   exact ⟨k11, rfl, b11, hst, hs⟩
  try simp only [sps] at h7
  refine .skip ?_
  refine hK2 _ _ (.seq (fun K5 hK5 => .region (.mv rfl (.mv rfl ?_))))
  refine .call rfl rfl rfl rfl @Try.call70 rfl (l01Next_c) ?_
  rintro _ H14 ⟨k14, rfl, ka14, kb14, kc14, st14, hs⟩
  replace hst := hst.sA st14
  refine .mv rfl (.nil (hK5 _ _ ?_))
  refine .ret ?_
  refine hret _ _ ?_
  refine ⟨_, rfl, ?_⟩
  exact ⟨k14, rfl, ⟨by omega, by omega⟩, hst, hs⟩
end Go.Proofs.Ytjdedelneppnlaa
namespace Go.Proofs.Ytjdedelneppnlaa
open Go Go.GL Go.RowKit Go.Proofs
set_option maxHeartbeats 8000000 in
theorem l12Target_c {gS : Nat} {H : GHeap} (hs : DSrc 120 H gS := by assumption) :
    GCalls Try.prog 101 [.pointer (some ⟨gS, 0, none⟩)] H (DrawnCat 120 33000 gS H) := by
  have hlS := hs.lt
  refine GCalls.body (N := 25) (rs := [.cell 2 29]) Try.func101 rfl rfl rfl rfl (fun Qx hret hend => ?_)
  refine .fg [0] rfl ?_
  have hst := St.refl [gS] H
  refine .seq (fun K1 hK1 => .region ?_)
  refine .R rfl (.allocR rfl ze_29_Hj rfl) ?_
  rintro _ H2 ⟨g2, rfl, le2, ge2, at2⟩
  have nx_H2 := le2.1
  replace hst := hst.le le2
  have lt_at2 := GHeap.ltg at2
  refine .nil (hK1 _ _ (.seq (fun K2 hK2 => .seq (fun K3 hK3 => .region (.mv rfl ?_)))))
  refine .call rfl rfl rfl rfl @Try.call70 rfl (l01Next_c (hs.le le2)) ?_
  rintro _ H4 ⟨k4, rfl, ka4, kb4, kc4, st4, hs⟩
  have nx_H4 := st4.nx
  replace hst := hst.sA st4
  have ne_g2_gS : NE g2 gS := .a
  replace at2 := st4.s at2 ne_g2_gS.ne
  refine .nil (hK3 _ _ ?_)
  refine .block ?_
  refine .seq (fun K4 hK4 => .region (.q rfl (.cmp rfl rfl rfl) (.mv rfl (.nil (hK4 _ _ ?_)))))
  refine .cond rfl (fun h5 => ?_) (fun h5 => ?_)
  ·
   try simp only [sps] at h5
   refine .seq (fun K5 hK5 => .region ?_)
   refine .R rfl (.litA rfl sl_22_A ze_2_L rfl rfl rfl rfl) ?_
   rintro _ H7 ⟨g7, rfl, le7, ge7, at7⟩
   have nx_H7 := le7.1
   replace hst := hst.le le7
   replace hs := hs.le le7
   replace at2 := le7.2 _ _ at2
   have lt_at7 := GHeap.ltg at7
   refine .R rfl (.litA rfl sl_22_A ze_2_L rfl rfl rfl rfl) ?_
   rintro _ H8 ⟨g8, rfl, le8, ge8, at8⟩
   have nx_H8 := le8.1
   replace hst := hst.le le8
   replace hs := hs.le le8
   replace at2 := le8.2 _ _ at2
   replace at7 := le8.2 _ _ at7
   have lt_at8 := GHeap.ltg at8
   refine .R rfl (.litA rfl sl_22_A ze_2_L rfl rfl rfl rfl) ?_
   rintro _ H9 ⟨g9, rfl, le9, ge9, at9⟩
   have nx_H9 := le9.1
   replace hst := hst.le le9
   replace hs := hs.le le9
   replace at2 := le9.2 _ _ at2
   replace at7 := le9.2 _ _ at7
   replace at8 := le9.2 _ _ at8
   have lt_at9 := GHeap.ltg at9
   refine .R rfl (.litA rfl sl_22_A ze_2_L rfl rfl rfl rfl) ?_
   rintro _ H10 ⟨g10, rfl, le10, ge10, at10⟩
   have nx_H10 := le10.1
   replace hst := hst.le le10
   replace hs := hs.le le10
   replace at2 := le10.2 _ _ at2
   replace at7 := le10.2 _ _ at7
   replace at8 := le10.2 _ _ at8
   replace at9 := le10.2 _ _ at9
   have lt_at10 := GHeap.ltg at10
   refine .R rfl (.litA rfl sl_23_B ze_22_Hj rfl rfl rfl rfl) ?_
   rintro _ H11 ⟨g11, rfl, le11, ge11, at11⟩
   have nx_H11 := le11.1
   replace hst := hst.le le11
   replace hs := hs.le le11
   replace at2 := le11.2 _ _ at2
   replace at7 := le11.2 _ _ at7
   replace at8 := le11.2 _ _ at8
   replace at9 := le11.2 _ _ at9
   replace at10 := le11.2 _ _ at10
   have lt_at11 := GHeap.ltg at11
   refine .call rfl rfl rfl rfl @Try.call71 rfl ((by have hh := l03Poset_c (rel := [[1, 1, 1, 1], [0, 1, 0, 1], [0, 0, 1, 1], [0, 0, 0, 1]]) (hin := ((lit_own (gs := [g7, g8, g9, g10]) (by simp only [LitAt]; exact ⟨⟨Nat.zero_le _, at7⟩, ⟨Nat.zero_le _, at8⟩, ⟨Nat.zero_le _, at9⟩, ⟨Nat.zero_le _, at10⟩, trivial⟩) (by simp <;> omega)).done (by exact at11) (Nat.zero_le _)).intss) (hn := by decide) (hr := by decide); exact hh)) ?_
   rintro _ H12 ⟨c12, rc12, le12, ga12, gb12, gc12, gd12, rr12, rfl, o12⟩
   have v12 := o12.catR
   have nx_H12 := le12.1
   replace hst := hst.le le12
   replace hs := hs.le le12
   replace at2 := le12.2 _ _ at2
   replace at7 := le12.2 _ _ at7
   replace at8 := le12.2 _ _ at8
   replace at9 := le12.2 _ _ at9
   replace at10 := le12.2 _ _ at10
   replace at11 := le12.2 _ _ at11
   have bs_v12 := v12
   have lv_v12 : Keep H11.next H12 H12 := fun _ _ _ h => h
   have i12 := v12.inn
   refine .r0 rfl rfl (.fillA rfl sz_29_D rfl rfl rfl rfl) ?_
   rintro _ H3006 ⟨rfl, st3006, at3006⟩
   have nx_H3006 := st3006.nx
   replace hst := hst.sA st3006
   replace hs := hs.sA st3006
   replace at7 := st3006.s at7
   replace at8 := st3006.s at8
   replace at9 := st3006.s at9
   replace at10 := st3006.s at10
   replace at11 := st3006.s at11
   replace lv_v12 := Keep.st lv_v12 st3006 (fun k hb hk => ⟨(by omega), trivial⟩)
   replace v12 := bs_v12.keep lv_v12 (Nat.le_refl _)
   have lt_at3006 := GHeap.ltg at3006
   clear i12
   have i12 := v12.inn
   have mm3006 : MemN _ _ _ _ _ := ⟨rfl, Mem.of_get at3006⟩
   refine .nil (hK5 _ _ ?_)
   refine .ret ?_
   refine hret _ _ ?_
   refine ⟨_, _, _, _, rfl, ag_29_D, (by rfl), (Mem.of_get at3006), ?_⟩
   exact ⟨c12, _, rfl, rc12.mono (by decide), v12.keep (.of_le (.refl _)) (by omega), hst, hs⟩
  try simp only [sps] at h5
  refine .seq (fun K6 hK6 => .region (.q rfl (.cmp rfl rfl rfl) (.mv rfl (.nil (hK6 _ _ ?_)))))
  refine .cond rfl (fun h13 => ?_) (fun h13 => ?_)
  ·
   try simp only [sps] at h13
   refine .seq (fun K7 hK7 => .region ?_)
   refine .R rfl (.litA rfl sl_22_A ze_2_L rfl rfl rfl rfl) ?_
   rintro _ H15 ⟨g15, rfl, le15, ge15, at15⟩
   have nx_H15 := le15.1
   replace hst := hst.le le15
   replace hs := hs.le le15
   replace at2 := le15.2 _ _ at2
   have lt_at15 := GHeap.ltg at15
   refine .R rfl (.litA rfl sl_22_A ze_2_L rfl rfl rfl rfl) ?_
   rintro _ H16 ⟨g16, rfl, le16, ge16, at16⟩
   have nx_H16 := le16.1
   replace hst := hst.le le16
   replace hs := hs.le le16
   replace at2 := le16.2 _ _ at2
   replace at15 := le16.2 _ _ at15
   have lt_at16 := GHeap.ltg at16
   refine .R rfl (.litA rfl sl_22_A ze_2_L rfl rfl rfl rfl) ?_
   rintro _ H17 ⟨g17, rfl, le17, ge17, at17⟩
   have nx_H17 := le17.1
   replace hst := hst.le le17
   replace hs := hs.le le17
   replace at2 := le17.2 _ _ at2
   replace at15 := le17.2 _ _ at15
   replace at16 := le17.2 _ _ at16
   have lt_at17 := GHeap.ltg at17
   refine .R rfl (.litA rfl sl_23_B ze_22_Hj rfl rfl rfl rfl) ?_
   rintro _ H18 ⟨g18, rfl, le18, ge18, at18⟩
   have nx_H18 := le18.1
   replace hst := hst.le le18
   replace hs := hs.le le18
   replace at2 := le18.2 _ _ at2
   replace at15 := le18.2 _ _ at15
   replace at16 := le18.2 _ _ at16
   replace at17 := le18.2 _ _ at17
   have lt_at18 := GHeap.ltg at18
   refine .call rfl rfl rfl rfl @Try.call71 rfl ((by have hh := l03Poset_c (rel := [[1, 1, 1], [0, 1, 1], [0, 0, 1]]) (hin := ((lit_own (gs := [g15, g16, g17]) (by simp only [LitAt]; exact ⟨⟨Nat.zero_le _, at15⟩, ⟨Nat.zero_le _, at16⟩, ⟨Nat.zero_le _, at17⟩, trivial⟩) (by simp <;> omega)).done (by exact at18) (Nat.zero_le _)).intss) (hn := by decide) (hr := by decide); exact hh)) ?_
   rintro _ H19 ⟨c19, rc19, le19, ga19, gb19, gc19, gd19, rr19, rfl, o19⟩
   have v19 := o19.catR
   have nx_H19 := le19.1
   replace hst := hst.le le19
   replace hs := hs.le le19
   replace at2 := le19.2 _ _ at2
   replace at15 := le19.2 _ _ at15
   replace at16 := le19.2 _ _ at16
   replace at17 := le19.2 _ _ at17
   replace at18 := le19.2 _ _ at18
   have bs_v19 := v19
   have lv_v19 : Keep H18.next H19 H19 := fun _ _ _ h => h
   have i19 := v19.inn
   refine .r0 rfl rfl (.fillA rfl sz_29_D rfl rfl rfl rfl) ?_
   rintro _ H5005 ⟨rfl, st5005, at5005⟩
   have nx_H5005 := st5005.nx
   replace hst := hst.sA st5005
   replace hs := hs.sA st5005
   replace at15 := st5005.s at15
   replace at16 := st5005.s at16
   replace at17 := st5005.s at17
   replace at18 := st5005.s at18
   replace lv_v19 := Keep.st lv_v19 st5005 (fun k hb hk => ⟨(by omega), trivial⟩)
   replace v19 := bs_v19.keep lv_v19 (Nat.le_refl _)
   have lt_at5005 := GHeap.ltg at5005
   clear i19
   have i19 := v19.inn
   have mm5005 : MemN _ _ _ _ _ := ⟨rfl, Mem.of_get at5005⟩
   refine .nil (hK7 _ _ ?_)
   refine .ret ?_
   refine hret _ _ ?_
   refine ⟨_, _, _, _, rfl, ag_29_D, (by rfl), (Mem.of_get at5005), ?_⟩
   exact ⟨c19, _, rfl, rc19.mono (by decide), v19.keep (.of_le (.refl _)) (by omega), hst, hs⟩
  try simp only [sps] at h13
  refine .seq (fun K8 hK8 => .region (.q rfl (.cmp rfl rfl rfl) (.mv rfl (.nil (hK8 _ _ ?_)))))
  refine .cond rfl (fun h20 => ?_) (fun h20 => ?_)
  ·
   try simp only [sps] at h20
   refine .seq (fun K9 hK9 => .region ?_)
   refine .call rfl rfl rfl rfl @Try.call131 rfl (l02Split_c) ?_
   rintro _ H22 ⟨c22, rc22, le22, ga22, gb22, gc22, gd22, rr22, rfl, o22⟩
   have v22 := o22.catR
   have nx_H22 := le22.1
   replace hst := hst.le le22
   replace hs := hs.le le22
   replace at2 := le22.2 _ _ at2
   have bs_v22 := v22
   have lv_v22 : Keep H4.next H22 H22 := fun _ _ _ h => h
   have i22 := v22.inn
   refine .r0 rfl rfl (.fillA rfl sz_29_D rfl rfl rfl rfl) ?_
   rintro _ H7001 ⟨rfl, st7001, at7001⟩
   have nx_H7001 := st7001.nx
   replace hst := hst.sA st7001
   replace hs := hs.sA st7001
   replace lv_v22 := Keep.st lv_v22 st7001 (fun k hb hk => ⟨(by omega), trivial⟩)
   replace v22 := bs_v22.keep lv_v22 (Nat.le_refl _)
   have lt_at7001 := GHeap.ltg at7001
   clear i22
   have i22 := v22.inn
   have mm7001 : MemN _ _ _ _ _ := ⟨rfl, Mem.of_get at7001⟩
   refine .nil (hK9 _ _ ?_)
   refine .ret ?_
   refine hret _ _ ?_
   refine ⟨_, _, _, _, rfl, ag_29_D, (by rfl), (Mem.of_get at7001), ?_⟩
   exact ⟨c22, _, rfl, rc22.mono (by omega), v22.keep (.of_le (.refl _)) (by omega), hst, hs⟩
  try simp only [sps] at h20
  refine .skip ?_
  refine hK2 _ _ (.seq (fun K10 hK10 => .region (.mv rfl ?_)))
  refine .call rfl rfl rfl rfl @Try.call115 rfl (l02Some_c) ?_
  rintro _ H24 ⟨c24, p24, rfl, rc24, v24, st24, hs⟩
  have nx_H24 := st24.nx
  replace hst := hst.sA st24
  replace at2 := st24.s at2 ne_g2_gS.ne
  have bs_v24 := v24
  have lv_v24 : Keep H4.next H24 H24 := fun _ _ _ h => h
  refine .r0 rfl rfl (.fillA rfl sz_29_D rfl rfl rfl rfl) ?_
  rintro _ H8002 ⟨rfl, st8002, at8002⟩
  have nx_H8002 := st8002.nx
  replace hst := hst.sA st8002
  replace hs := hs.sA st8002
  replace lv_v24 := Keep.st lv_v24 st8002 (fun k hb hk => ⟨(by omega), trivial⟩)
  replace v24 := bs_v24.keep lv_v24 (Nat.le_refl _)
  have lt_at8002 := GHeap.ltg at8002
  have mm8002 : MemN _ _ _ _ _ := ⟨rfl, Mem.of_get at8002⟩
  refine .nil (hK10 _ _ ?_)
  refine .ret ?_
  refine hret _ _ ?_
  refine ⟨_, _, _, _, rfl, ag_29_D, (by rfl), (Mem.of_get at8002), ?_⟩
  exact ⟨c24, p24, rfl, rc24, v24.keep (.of_le (.refl _)) (by omega), hst, hs⟩
set_option maxHeartbeats 8000000 in
theorem l13Draw_c {gS : Nat} {H : GHeap} (hs : DSrc 120 H gS := by assumption) :
    GCalls Try.prog 52 [.pointer (some ⟨gS, 0, none⟩)] H (DrawnK 120 gS H) := by
  have hlS := hs.lt
  refine GCalls.body (N := 19) (rs := [.cell 2 29]) Try.func52 rfl rfl rfl rfl (fun Qx hret hend => ?_)
  refine .fg [0] rfl ?_
  have hst := St.refl [gS] H
  refine .seq (fun K1 hK1 => .region ?_)
  refine .R rfl (.allocR rfl ze_29_Hj rfl) ?_
  rintro _ H2 ⟨g2, rfl, le2, ge2, at2⟩
  have nx_H2 := le2.1
  replace hst := hst.le le2
  have lt_at2 := GHeap.ltg at2
  refine .nil (hK1 _ _ (.seq (fun K2 hK2 => .region ?_)))
  have hs := hs.le le2
  refine .mv rfl ?_
  refine .call rfl rfl rfl rfl @Try.call101 rfl (l12Target_c) ?_
  rintro _ H5 ⟨c5, p5, rfl, rc5, v5, st5, hs⟩
  have nx_H5 := st5.nx
  replace hst := hst.sA st5
  have ne_g2_gS : NE g2 gS := .a
  replace at2 := st5.s at2 ne_g2_gS.ne
  have bs_v5 := v5
  have lv_v5 : Keep H2.next H5 H5 := fun _ _ _ h => h
  have i5 := v5.inn
  refine .R rfl (.allocR rfl ze_29_Hj rfl) ?_
  rintro _ H3 ⟨g3, rfl, le3, ge3, at3⟩
  have nx_H3 := le3.1
  replace hst := hst.le le3
  replace hs := hs.le le3
  replace at2 := le3.2 _ _ at2
  replace lv_v5 := Keep.le lv_v5 le3
  replace v5 := bs_v5.keep lv_v5 (Nat.le_refl _)
  have lt_at3 := GHeap.ltg at3
  clear i5
  have i5 := v5.inn
  refine .r0 rfl rfl (.fillA rfl sz_29_D rfl rfl rfl rfl) ?_
  rintro _ H1003 ⟨rfl, st1003, at1003⟩
  have nx_H1003 := st1003.nx
  replace hst := hst.sA st1003
  replace hs := hs.sA st1003
  have ne_g2_g3 : NE g2 g3 := .a
  replace at2 := st1003.s at2 ne_g2_g3.ne
  replace lv_v5 := Keep.st lv_v5 st1003 (fun k hb hk => ⟨(by omega), trivial⟩)
  replace v5 := bs_v5.keep lv_v5 (Nat.le_refl _)
  have lt_at1003 := GHeap.ltg at1003
  clear i5
  have i5 := v5.inn
  have mm1003 : MemN _ _ _ _ _ := ⟨rfl, Mem.of_get at1003⟩
  refine .nil (hK2 _ _ (.seq (fun K3 hK3 => .seq (fun K4 hK4 => .region (.mv rfl ?_)))))
  refine .call rfl rfl rfl rfl @Try.call70 rfl (l01Next_c) ?_
  rintro _ H7 ⟨k7, rfl, ka7, kb7, kc7, st7, hs⟩
  have nx_H7 := st7.nx
  replace hst := hst.sA st7
  replace at2 := st7.s at2 ne_g2_gS.ne
  have ne_g3_gS : NE g3 gS := .a
  replace at1003 := st7.s at1003 ne_g3_gS.ne
  replace lv_v5 := Keep.st lv_v5 st7 (fun k hb hk => ⟨(by omega), trivial⟩)
  replace v5 := bs_v5.keep lv_v5 (Nat.le_refl _)
  clear i5
  have i5 := v5.inn
  clear mm1003
  have mm1003 : MemN _ _ _ _ _ := ⟨rfl, Mem.of_get at1003⟩
  refine .nil (hK4 _ _ ?_)
  refine .block ?_
  refine .seq (fun K5 hK5 => .region (.q rfl (.cmp rfl rfl rfl) (.mv rfl (.nil (hK5 _ _ ?_)))))
  refine .cond rfl (fun h8 => ?_) (fun h8 => ?_)
  ·
   try simp only [sps] at h8
   refine .seq (fun K6 hK6 => .region (.mv rfl ?_))
   refine .call rfl rfl rfl rfl @Try.call73 rfl (l02Draw_c) ?_
   rintro _ H11 ⟨c11, p11, rfl, sm11, v11, st11, hs⟩
   have nx_H11 := st11.nx
   replace hst := hst.sA st11
   replace at2 := st11.s at2 ne_g2_gS.ne
   replace at1003 := st11.s at1003 ne_g3_gS.ne
   replace lv_v5 := Keep.st lv_v5 st11 (fun k hb hk => ⟨(by omega), trivial⟩)
   replace v5 := bs_v5.keep lv_v5 (Nat.le_refl _)
   clear i5
   have i5 := v5.inn
   clear mm1003
   have mm1003 : MemN _ _ _ _ _ := ⟨rfl, Mem.of_get at1003⟩
   have bs_v11 := v11
   have lv_v11 : Keep H7.next H11 H11 := fun _ _ _ h => h
   refine .r0 rfl rfl (.fillA rfl sz_29_D rfl rfl rfl rfl) ?_
   rintro _ H4002 ⟨rfl, st4002, at4002⟩
   have nx_H4002 := st4002.nx
   replace hst := hst.sA st4002
   replace hs := hs.sA st4002
   replace at1003 := st4002.s at1003 (Ne.symm ne_g2_g3.ne)
   replace lv_v5 := Keep.st lv_v5 st4002 (fun k hb hk => ⟨(by omega), trivial⟩)
   replace v5 := bs_v5.keep lv_v5 (Nat.le_refl _)
   replace lv_v11 := Keep.st lv_v11 st4002 (fun k hb hk => ⟨(by omega), trivial⟩)
   replace v11 := bs_v11.keep lv_v11 (Nat.le_refl _)
   have lt_at4002 := GHeap.ltg at4002
   clear i5
   have i5 := v5.inn
   clear mm1003
   have mm1003 : MemN _ _ _ _ _ := ⟨rfl, Mem.of_get at1003⟩
   have mm4002 : MemN _ _ _ _ _ := ⟨rfl, Mem.of_get at4002⟩
   refine .nil (hK6 _ _ ?_)
   refine .ret ?_
   refine hret _ _ ?_
   refine ⟨_, _, _, _, rfl, ag_29_D, (by rfl), (Mem.of_get at4002), ?_⟩
   exact ⟨c11, p11, rfl, sm11, v11.keep (.of_le (.refl _)) (by omega), hst, hs⟩
  try simp only [sps] at h8
  refine .seq (fun K7 hK7 => .seq (fun K8 hK8 => .region (.q rfl (.cmp rfl rfl rfl) (.mv rfl (.nil (hK8 _ _ ?_))))))
  refine .cond rfl (fun h12 => ?_) (fun h12 => ?_)
  ·
   try simp only [sps] at h12
   refine .skip ?_
   refine hK7 _ _ ?_
   refine .cond rfl (fun h12 => ?_) (fun h12 => ?_)
   ·
    try simp only [sps] at h12
    refine .seq (fun K9 hK9 => .region ?_)
    refine .q rfl (.loadM ag_29_D rfl ⟨rfl, Mem.of_get at1003⟩) ?_
    refine .call rfl rfl rfl rfl @Try.call43 rfl (l03Op_c (hin := i5) (hr := rc5) (hN := by omega)) ?_
    rintro _ H17 ⟨le17, ga17, gb17, gc17, gd17, rr17, rfl, o17⟩
    have vO := o17.catR
    have nx_H17 := le17.1
    replace hst := hst.le le17
    replace hs := hs.le le17
    replace at2 := le17.2 _ _ at2
    replace at1003 := le17.2 _ _ at1003
    replace lv_v5 := Keep.le lv_v5 le17
    replace v5 := bs_v5.keep lv_v5 (Nat.le_refl _)
    have bs_vO := vO
    have lv_vO : Keep H7.next H17 H17 := fun _ _ _ h => h
    clear i5
    have i5 := v5.inn
    clear mm1003
    have mm1003 : MemN _ _ _ _ _ := ⟨rfl, Mem.of_get at1003⟩
    have iO := vO.inn
    refine .r0 rfl rfl (.fillA rfl sz_29_D rfl rfl rfl rfl) ?_
    rintro _ H8002 ⟨rfl, st8002, at8002⟩
    have nx_H8002 := st8002.nx
    replace hst := hst.sA st8002
    replace hs := hs.sA st8002
    replace at1003 := st8002.s at1003 (Ne.symm ne_g2_g3.ne)
    replace lv_v5 := Keep.st lv_v5 st8002 (fun k hb hk => ⟨(by omega), trivial⟩)
    replace v5 := bs_v5.keep lv_v5 (Nat.le_refl _)
    replace lv_vO := Keep.st lv_vO st8002 (fun k hb hk => ⟨(by omega), trivial⟩)
    replace vO := bs_vO.keep lv_vO (Nat.le_refl _)
    have lt_at8002 := GHeap.ltg at8002
    clear i5
    have i5 := v5.inn
    clear mm1003
    have mm1003 : MemN _ _ _ _ _ := ⟨rfl, Mem.of_get at1003⟩
    clear iO
    have iO := vO.inn
    have mm8002 : MemN _ _ _ _ _ := ⟨rfl, Mem.of_get at8002⟩
    refine .nil (hK9 _ _ ?_)
    refine .ret ?_
    refine hret _ _ ?_
    refine ⟨_, _, _, _, rfl, ag_29_D, (by rfl), (Mem.of_get at8002), ?_⟩
    first
    | exact ⟨c5, p5, rfl, rc5.small (by omega), v5.kin.keep (.of_le (.refl _)) (by omega), hst, hs⟩
    | exact ⟨c5.op, _, rfl, rc5.op.small (by omega), vO.kin.keep (.of_le (.refl _)) (by omega), hst, hs⟩
   try simp only [sps] at h12
   refine .skip ?_
   refine hK3 _ _ (.seq (fun K10 hK10 => .region ?_))
   refine .q rfl (.loadM ag_29_D rfl ⟨rfl, Mem.of_get at1003⟩) ?_
   refine .r0 rfl rfl (.fillA rfl sz_29_D rfl rfl rfl rfl) ?_
   rintro _ H9001 ⟨rfl, st9001, at9001⟩
   have nx_H9001 := st9001.nx
   replace hst := hst.sA st9001
   replace hs := hs.sA st9001
   replace at1003 := st9001.s at1003 (Ne.symm ne_g2_g3.ne)
   replace lv_v5 := Keep.st lv_v5 st9001 (fun k hb hk => ⟨(by omega), trivial⟩)
   replace v5 := bs_v5.keep lv_v5 (Nat.le_refl _)
   have lt_at9001 := GHeap.ltg at9001
   clear i5
   have i5 := v5.inn
   clear mm1003
   have mm1003 : MemN _ _ _ _ _ := ⟨rfl, Mem.of_get at1003⟩
   have mm9001 : MemN _ _ _ _ _ := ⟨rfl, Mem.of_get at9001⟩
   refine .nil (hK10 _ _ ?_)
   refine .ret ?_
   refine hret _ _ ?_
   refine ⟨_, _, _, _, rfl, ag_29_D, (by rfl), (Mem.of_get at9001), ?_⟩
   first
   | exact ⟨c5, p5, rfl, rc5.small (by omega), v5.kin.keep (.of_le (.refl _)) (by omega), hst, hs⟩
   | exact ⟨c5.op, _, rfl, rc5.op.small (by omega), vO.kin.keep (.of_le (.refl _)) (by omega), hst, hs⟩
  try simp only [sps] at h12
  refine .seq (fun K11 hK11 => .region (.q rfl (.cmp rfl rfl rfl) (.mv rfl (.nil (hK11 _ _ ?_)))))
  refine .cond rfl (fun h12 => ?_) (fun h12 => ?_)
  ·
   try simp only [sps] at h12
   refine .skip ?_
   refine hK7 _ _ ?_
   refine .cond rfl (fun h12 => ?_) (fun h12 => ?_)
   ·
    try simp only [sps] at h12
    refine .seq (fun K12 hK12 => .region ?_)
    refine .q rfl (.loadM ag_29_D rfl ⟨rfl, Mem.of_get at1003⟩) ?_
    refine .call rfl rfl rfl rfl @Try.call43 rfl (l03Op_c (hin := i5) (hr := rc5) (hN := by omega)) ?_
    rintro _ H17x2 ⟨le17x2, ga17x2, gb17x2, gc17x2, gd17x2, rr17x2, rfl, o17x2⟩
    have vO := o17x2.catR
    have nx_H17x2 := le17x2.1
    replace hst := hst.le le17x2
    replace hs := hs.le le17x2
    replace at2 := le17x2.2 _ _ at2
    replace at1003 := le17x2.2 _ _ at1003
    replace lv_v5 := Keep.le lv_v5 le17x2
    replace v5 := bs_v5.keep lv_v5 (Nat.le_refl _)
    have bs_vO := vO
    have lv_vO : Keep H7.next H17x2 H17x2 := fun _ _ _ h => h
    clear i5
    have i5 := v5.inn
    clear mm1003
    have mm1003 : MemN _ _ _ _ _ := ⟨rfl, Mem.of_get at1003⟩
    have iO := vO.inn
    refine .r0 rfl rfl (.fillA rfl sz_29_D rfl rfl rfl rfl) ?_
    rintro _ H8002x2 ⟨rfl, st8002x2, at8002x2⟩
    have nx_H8002x2 := st8002x2.nx
    replace hst := hst.sA st8002x2
    replace hs := hs.sA st8002x2
    replace at1003 := st8002x2.s at1003 (Ne.symm ne_g2_g3.ne)
    replace lv_v5 := Keep.st lv_v5 st8002x2 (fun k hb hk => ⟨(by omega), trivial⟩)
    replace v5 := bs_v5.keep lv_v5 (Nat.le_refl _)
    replace lv_vO := Keep.st lv_vO st8002x2 (fun k hb hk => ⟨(by omega), trivial⟩)
    replace vO := bs_vO.keep lv_vO (Nat.le_refl _)
    have lt_at8002x2 := GHeap.ltg at8002x2
    clear i5
    have i5 := v5.inn
    clear mm1003
    have mm1003 : MemN _ _ _ _ _ := ⟨rfl, Mem.of_get at1003⟩
    clear iO
    have iO := vO.inn
    have mm8002x2 : MemN _ _ _ _ _ := ⟨rfl, Mem.of_get at8002x2⟩
    refine .nil (hK12 _ _ ?_)
    refine .ret ?_
    refine hret _ _ ?_
    refine ⟨_, _, _, _, rfl, ag_29_D, (by rfl), (Mem.of_get at8002x2), ?_⟩
    first
    | exact ⟨c5, p5, rfl, rc5.small (by omega), v5.kin.keep (.of_le (.refl _)) (by omega), hst, hs⟩
    | exact ⟨c5.op, _, rfl, rc5.op.small (by omega), vO.kin.keep (.of_le (.refl _)) (by omega), hst, hs⟩
   try simp only [sps] at h12
   refine .skip ?_
   refine hK3 _ _ (.seq (fun K13 hK13 => .region ?_))
   refine .q rfl (.loadM ag_29_D rfl ⟨rfl, Mem.of_get at1003⟩) ?_
   refine .r0 rfl rfl (.fillA rfl sz_29_D rfl rfl rfl rfl) ?_
   rintro _ H9001x2 ⟨rfl, st9001x2, at9001x2⟩
   have nx_H9001x2 := st9001x2.nx
   replace hst := hst.sA st9001x2
   replace hs := hs.sA st9001x2
   replace at1003 := st9001x2.s at1003 (Ne.symm ne_g2_g3.ne)
   replace lv_v5 := Keep.st lv_v5 st9001x2 (fun k hb hk => ⟨(by omega), trivial⟩)
   replace v5 := bs_v5.keep lv_v5 (Nat.le_refl _)
   have lt_at9001x2 := GHeap.ltg at9001x2
   clear i5
   have i5 := v5.inn
   clear mm1003
   have mm1003 : MemN _ _ _ _ _ := ⟨rfl, Mem.of_get at1003⟩
   have mm9001x2 : MemN _ _ _ _ _ := ⟨rfl, Mem.of_get at9001x2⟩
   refine .nil (hK13 _ _ ?_)
   refine .ret ?_
   refine hret _ _ ?_
   refine ⟨_, _, _, _, rfl, ag_29_D, (by rfl), (Mem.of_get at9001x2), ?_⟩
   first
   | exact ⟨c5, p5, rfl, rc5.small (by omega), v5.kin.keep (.of_le (.refl _)) (by omega), hst, hs⟩
   | exact ⟨c5.op, _, rfl, rc5.op.small (by omega), vO.kin.keep (.of_le (.refl _)) (by omega), hst, hs⟩
  try simp only [sps] at h12
  refine .region (.q rfl (.cmp rfl rfl rfl) (.mv rfl (.nil (hK7 _ _ ?_))))
  refine .cond rfl (fun h12 => ?_) (fun h12 => ?_)
  ·
   try simp only [sps] at h12
   refine .seq (fun K14 hK14 => .region ?_)
   refine .q rfl (.loadM ag_29_D rfl ⟨rfl, Mem.of_get at1003⟩) ?_
   refine .call rfl rfl rfl rfl @Try.call43 rfl (l03Op_c (hin := i5) (hr := rc5) (hN := by omega)) ?_
   rintro _ H17x3 ⟨le17x3, ga17x3, gb17x3, gc17x3, gd17x3, rr17x3, rfl, o17x3⟩
   have vO := o17x3.catR
   have nx_H17x3 := le17x3.1
   replace hst := hst.le le17x3
   replace hs := hs.le le17x3
   replace at2 := le17x3.2 _ _ at2
   replace at1003 := le17x3.2 _ _ at1003
   replace lv_v5 := Keep.le lv_v5 le17x3
   replace v5 := bs_v5.keep lv_v5 (Nat.le_refl _)
   have bs_vO := vO
   have lv_vO : Keep H7.next H17x3 H17x3 := fun _ _ _ h => h
   clear i5
   have i5 := v5.inn
   clear mm1003
   have mm1003 : MemN _ _ _ _ _ := ⟨rfl, Mem.of_get at1003⟩
   have iO := vO.inn
   refine .r0 rfl rfl (.fillA rfl sz_29_D rfl rfl rfl rfl) ?_
   rintro _ H8002x3 ⟨rfl, st8002x3, at8002x3⟩
   have nx_H8002x3 := st8002x3.nx
   replace hst := hst.sA st8002x3
   replace hs := hs.sA st8002x3
   replace at1003 := st8002x3.s at1003 (Ne.symm ne_g2_g3.ne)
   replace lv_v5 := Keep.st lv_v5 st8002x3 (fun k hb hk => ⟨(by omega), trivial⟩)
   replace v5 := bs_v5.keep lv_v5 (Nat.le_refl _)
   replace lv_vO := Keep.st lv_vO st8002x3 (fun k hb hk => ⟨(by omega), trivial⟩)
   replace vO := bs_vO.keep lv_vO (Nat.le_refl _)
   have lt_at8002x3 := GHeap.ltg at8002x3
   clear i5
   have i5 := v5.inn
   clear mm1003
   have mm1003 : MemN _ _ _ _ _ := ⟨rfl, Mem.of_get at1003⟩
   clear iO
   have iO := vO.inn
   have mm8002x3 : MemN _ _ _ _ _ := ⟨rfl, Mem.of_get at8002x3⟩
   refine .nil (hK14 _ _ ?_)
   refine .ret ?_
   refine hret _ _ ?_
   refine ⟨_, _, _, _, rfl, ag_29_D, (by rfl), (Mem.of_get at8002x3), ?_⟩
   first
   | exact ⟨c5, p5, rfl, rc5.small (by omega), v5.kin.keep (.of_le (.refl _)) (by omega), hst, hs⟩
   | exact ⟨c5.op, _, rfl, rc5.op.small (by omega), vO.kin.keep (.of_le (.refl _)) (by omega), hst, hs⟩
  try simp only [sps] at h12
  refine .skip ?_
  refine hK3 _ _ (.seq (fun K15 hK15 => .region ?_))
  refine .q rfl (.loadM ag_29_D rfl ⟨rfl, Mem.of_get at1003⟩) ?_
  refine .r0 rfl rfl (.fillA rfl sz_29_D rfl rfl rfl rfl) ?_
  rintro _ H9001x3 ⟨rfl, st9001x3, at9001x3⟩
  have nx_H9001x3 := st9001x3.nx
  replace hst := hst.sA st9001x3
  replace hs := hs.sA st9001x3
  replace at1003 := st9001x3.s at1003 (Ne.symm ne_g2_g3.ne)
  replace lv_v5 := Keep.st lv_v5 st9001x3 (fun k hb hk => ⟨(by omega), trivial⟩)
  replace v5 := bs_v5.keep lv_v5 (Nat.le_refl _)
  have lt_at9001x3 := GHeap.ltg at9001x3
  clear i5
  have i5 := v5.inn
  clear mm1003
  have mm1003 : MemN _ _ _ _ _ := ⟨rfl, Mem.of_get at1003⟩
  have mm9001x3 : MemN _ _ _ _ _ := ⟨rfl, Mem.of_get at9001x3⟩
  refine .nil (hK15 _ _ ?_)
  refine .ret ?_
  refine hret _ _ ?_
  refine ⟨_, _, _, _, rfl, ag_29_D, (by rfl), (Mem.of_get at9001x3), ?_⟩
  first
  | exact ⟨c5, p5, rfl, rc5.small (by omega), v5.kin.keep (.of_le (.refl _)) (by omega), hst, hs⟩
  | exact ⟨c5.op, _, rfl, rc5.op.small (by omega), vO.kin.keep (.of_le (.refl _)) (by omega), hst, hs⟩
end Go.Proofs.Ytjdedelneppnlaa
namespace Go.GL
structure Cat.Chain (c : Cat) (xs : List Int) : Prop where
  all : ∀ i : Nat, i + 1 < xs.length → c.T (xs.getD i 0) = c.S (xs.getD (i + 1) 0)
structure Cat.Ch (c : Cat) (xs : List Int) : Prop where
  rg : ∀ i, i < xs.length → 0 ≤ xs.getD i 0 ∧ xs.getD i 0 < c.src.length
  ch : c.Chain xs
end Go.GL
namespace Go.GL
theorem mem_of_full {α : Type} [DecidableEq α] : ∀ {l s : List α}, l.Nodup → (∀ x ∈ l, x ∈ s) → s.length ≤ l.length → ∀ x ∈ s, x ∈ l
  | [], s, _, _, hl, x, hx => by
    have : s = [] := List.length_eq_zero_iff.1 (by simpa using hl)
    rw [this] at hx; cases hx
  | a :: l, s, hn, hs, hl, x, hx => by
    have ha : a ∈ s := hs a (List.mem_cons_self ..)
    obtain ⟨h1, h2⟩ := List.nodup_cons.1 hn
    by_cases e : x = a
    · rw [e]; exact List.mem_cons_self ..
    · have hlen : (s.erase a).length = s.length - 1 := List.length_erase_of_mem ha
      have hpos : 0 < s.length := List.length_pos_of_mem ha
      refine List.mem_cons_of_mem _ (mem_of_full (s := s.erase a) h2 (fun y hy => ?_) ?_ x ((List.mem_erase_of_ne e).2 hx))
      · exact (List.mem_erase_of_ne (fun q => h1 (by rw [← q]; exact hy))).2 (hs y (List.mem_cons_of_mem _ hy))
      · rw [List.length_cons] at hl; omega
theorem length_le_of_sub {α : Type} [DecidableEq α] : ∀ {l s : List α}, l.Nodup → (∀ x ∈ l, x ∈ s) → l.length ≤ s.length
  | [], _, _, _ => Nat.zero_le _
  | a :: l, s, hn, hs => by
    have ha : a ∈ s := hs a (List.mem_cons_self ..)
    obtain ⟨h1, h2⟩ := List.nodup_cons.1 hn
    have hlen : (s.erase a).length = s.length - 1 := List.length_erase_of_mem ha
    have hpos : 0 < s.length := List.length_pos_of_mem ha
    have := length_le_of_sub (l := l) (s := s.erase a) h2 (fun y hy => (List.mem_erase_of_ne (fun q => h1 (by rw [← q]; exact hy))).2 (hs y (List.mem_cons_of_mem _ hy)))
    rw [List.length_cons]; omega
theorem onto_iff {α β : Type} [DecidableEq α] [DecidableEq β] {l : List α} {s : List β} {φ : α → β} (hl : l.Nodup) (hs : s.Nodup) (hm : ∀ u ∈ l, φ u ∈ s) :
    (l.length = s.length ∧ (l.map φ).Nodup) ↔ ∀ y ∈ s, (l.filter fun u => decide (φ u = y)).length = 1 := by
  have hc : ∀ y, (l.filter fun u => decide (φ u = y)).length = (l.map φ).count y := fun y => by
    rw [List.count, List.countP_map, List.countP_eq_length_filter]
    congr 1
  constructor
  · rintro ⟨h1, h2⟩ y hy
    rw [hc]
    have hy' : y ∈ l.map φ := mem_of_full h2 (fun z hz => by obtain ⟨u, hu, rfl⟩ := List.mem_map.1 hz; exact hm u hu) (by rw [List.length_map]; omega) y hy
    have a1 := List.nodup_iff_count.1 h2 y
    have a2 := List.count_pos_iff.2 hy'
    omega
  · intro h
    have h2 : (l.map φ).Nodup := List.nodup_iff_count.2 fun y => by
      by_cases hy : y ∈ l.map φ
      · obtain ⟨u, hu, rfl⟩ := List.mem_map.1 hy
        have := h (φ u) (hm u hu)
        rw [hc] at this; omega
      · rw [List.count_eq_zero_of_not_mem hy]; omega
    refine ⟨?_, h2⟩
    have a1 := length_le_of_sub (l := l.map φ) (s := s) h2 (fun z hz => by obtain ⟨u, hu, rfl⟩ := List.mem_map.1 hz; exact hm u hu)
    have a2 := length_le_of_sub (l := s) (s := l.map φ) hs (fun y hy => by
      have := h y hy
      rw [hc] at this
      exact List.count_pos_iff.1 (by omega))
    rw [List.length_map] at a1 a2
    omega
structure Spn where
  x : Int
  y : Int
  fits : Int → Int → Bool
  alone : Bool
def Cat.spL (c : Cat) (s : Spn) (w : Int) : List (Int × Int) := if s.alone = true then ((c.hom w s.x).filter fun a => s.fits a a).map fun a => (a, a) else (c.hom w s.x).flatMap fun a => ((c.hom w s.y).filter fun b => s.fits a b).map fun b => (a, b)
theorem Cat.mem_spL {c : Cat} {s : Spn} {w : Int} {p : Int × Int} : p ∈ c.spL s w ↔ p.1 ∈ c.hom w s.x ∧ s.fits p.1 p.2 = true ∧ if s.alone = true then p.2 = p.1 else p.2 ∈ c.hom w s.y := by
  unfold Cat.spL
  by_cases h : s.alone = true
  · rw [if_pos h, if_pos h, List.mem_map]
    constructor
    · rintro ⟨a, ha, rfl⟩
      obtain ⟨h1, h2⟩ := List.mem_filter.1 ha
      exact ⟨h1, h2, rfl⟩
    · rintro ⟨h1, h2, h3⟩
      refine ⟨p.1, List.mem_filter.2 ⟨h1, ?_⟩, ?_⟩
      · rw [h3] at h2; exact h2
      · obtain ⟨a, b⟩ := p; simp only at h3; rw [h3]
  · rw [if_neg h, if_neg h, List.mem_flatMap]
    constructor
    · rintro ⟨a, ha, hb⟩
      obtain ⟨b, hb2, rfl⟩ := List.mem_map.1 hb
      obtain ⟨h1, h2⟩ := List.mem_filter.1 hb2
      exact ⟨ha, h2, h1⟩
    · rintro ⟨h1, h2, h3⟩
      exact ⟨p.1, h1, List.mem_map.2 ⟨p.2, List.mem_filter.2 ⟨h3, h2⟩, rfl⟩⟩
theorem Cat.spL_nd (c : Cat) (s : Spn) (w : Int) : (c.spL s w).Nodup := by
  unfold Cat.spL
  split
  · exact List.Pairwise.map _ (fun a b h e => h (Prod.mk.inj e).1) ((c.hom_nd _ _).filter _)
  · refine List.pairwise_flatMap.2 ⟨fun a _ => List.Pairwise.map _ (fun a b h e => h (Prod.mk.inj e).2) ((c.hom_nd _ _).filter _), ?_⟩
    refine List.Pairwise.imp (R := (· ≠ ·)) (fun {a b} hab => ?_) (c.hom_nd w s.x)
    intro q h1 q2 h2 e
    obtain ⟨_, _, rfl⟩ := List.mem_map.1 h1
    obtain ⟨_, _, rfl⟩ := List.mem_map.1 h2
    exact hab (Prod.mk.inj e).1
def Cat.spM (c : Cat) (p : Int × Int) (u : Int) : Int × Int := (c.th u p.1, c.th u p.2)
def Cat.spN (c : Cat) (z : Int) (p : Int × Int) (w : Int) (q : Int × Int) : Nat := ((c.hom w z).filter fun u => decide (c.spM p u = q)).length
structure Cat.SpU (c : Cat) (s : Spn) (z : Int) (p : Int × Int) : Prop where
  all : ∀ w : Nat, (w : Int) < c.obj → ∀ q ∈ c.spL s w, c.spN z p w q = 1
structure Cat.SpV (c : Cat) (s : Spn) (z : Int) (p : Int × Int) : Prop where
  all : ∀ w : Nat, (w : Int) < c.obj → (c.hom w z).length = (c.spL s w).length ∧ ((c.hom w z).map (c.spM p)).Nodup
structure Cat.SpC (c : Cat) (s : Spn) : Prop where
  go : ∀ (w z : Nat) (p : Int × Int) (u : Int), p ∈ c.spL s z → u ∈ c.hom w z → c.spM p u ∈ c.spL s w
theorem Cat.spV_iff {c : Cat} {s : Spn} (hc : c.SpC s) {z : Nat} {p : Int × Int} (hp : p ∈ c.spL s z) : c.SpV s z p ↔ c.SpU s z p := by
  constructor
  · intro h
    exact ⟨fun w hw => (onto_iff (φ := c.spM p) (c.hom_nd _ _) (c.spL_nd s w) (fun u hu => hc.go w z p u hp hu)).1 (h.all w hw)⟩
  · intro h
    exact ⟨fun w hw => (onto_iff (φ := c.spM p) (c.hom_nd _ _) (c.spL_nd s w) (fun u hu => hc.go w z p u hp hu)).2 (h.all w hw)⟩
theorem Cat.hom_th {c : Cat} (hS : c.Shape) {w z x u a : Int} (hu : u ∈ c.hom w z) (ha : a ∈ c.hom z x) : c.th u a ∈ c.hom w x := by
  obtain ⟨U, u1, u2, u3, rfl⟩ := Cat.mem_hom.1 hu
  obtain ⟨A, a1, a2, a3, rfl⟩ := Cat.mem_hom.1 ha
  obtain ⟨p1, p2, p3, p4⟩ := hS.tn u1 a1 (by rw [u3, a2])
  rw [Cat.th_nat, p4]
  exact Cat.mem_hom.2 ⟨_, p1, by rw [p2, u2], by rw [p3, a3], rfl⟩
theorem Cat.hom_as {c : Cat} (hI : c.Is) {w z x y u a f : Int} (hu : u ∈ c.hom w z) (ha : a ∈ c.hom z x) (hf : f ∈ c.hom x y) : c.th (c.th u a) f = c.th u (c.th a f) := by
  obtain ⟨U, u1, u2, u3, rfl⟩ := Cat.mem_hom.1 hu
  obtain ⟨A, a1, a2, a3, rfl⟩ := Cat.mem_hom.1 ha
  obtain ⟨F, f1, f2, f3, rfl⟩ := Cat.mem_hom.1 hf
  exact hI.2.as U u1 A a1 (by rw [u3, a2]) F f1 (by rw [a3, f2])
def Spn.prod (x y : Int) : Spn := ⟨x, y, fun _ _ => true, false⟩
def Cat.pull (c : Cat) (f g : Int) : Spn := ⟨c.S f, c.S g, fun a b => decide (c.th a f = c.th b g), false⟩
def Cat.fork (c : Cat) (f g : Int) : Spn := ⟨c.S f, c.S f, fun a b => decide (c.th a f = c.th b g), true⟩
theorem Cat.hom_self {c : Cat} {f : Nat} (h : f < c.src.length) : (f : Int) ∈ c.hom (c.S f) (c.T f) := Cat.mem_hom.2 ⟨f, h, rfl, rfl, rfl⟩
theorem Cat.pull_go {c : Cat} (hI : c.Is) {f g : Nat} (hf : f < c.src.length) (hg : g < c.src.length) : c.SpC (c.pull f g) := ⟨fun w z p u hp hu => by
  obtain ⟨h1, h2, h3⟩ := Cat.mem_spL.1 hp
  refine Cat.mem_spL.2 ⟨Cat.hom_th hI.1 hu h1, decide_eq_true ?_, Cat.hom_th hI.1 hu h3⟩
  have h2' : c.th p.1 f = c.th p.2 g := of_decide_eq_true h2
  show c.th (c.th u p.1) f = c.th (c.th u p.2) g
  rw [Cat.hom_as hI hu h1 (Cat.hom_self hf), Cat.hom_as hI hu h3 (Cat.hom_self hg), h2']⟩
structure Cat.SpE (c : Cat) (s : Spn) : Prop where
  ex : ∃ z : Nat, (z : Int) < c.obj ∧ ∃ p ∈ c.spL s z, c.SpU s z p
noncomputable def Cat.mapsL (c : Cat) (s t : List Int) : List Int := (c.hom (s.getD 0 0) (t.getD 0 0)).filter fun u => B (∀ i : Nat, 1 ≤ i → i < s.length → c.th u (t.getD i 0) = s.getD i 0)
noncomputable def Cat.okL (c : Cat) (L : List (List Int)) (t : List Int) : Bool := B (∀ s ∈ L, (c.mapsL s t).length = 1)
noncomputable def Cat.firstL (c : Cat) (L : List (List Int)) : List Int := (L.find? (c.okL L)).getD []
def objsL (c : Cat) (F : Nat → List (List Int)) : List (List Int) := (List.range c.obj.toNat).flatMap F
def Cat.sqL (c : Cat) (s : Spn) : List (List Int) := objsL c fun z => (c.spL s z).map fun p => [(z : Int), p.1, p.2]
theorem mem_objsL {c : Cat} {F : Nat → List (List Int)} {t : List Int} : t ∈ objsL c F ↔ ∃ z : Nat, (z : Int) < c.obj ∧ t ∈ F z := by
  unfold objsL
  rw [List.mem_flatMap]
  exact ⟨fun ⟨z, h1, h2⟩ => ⟨z, by have := List.mem_range.1 h1; omega, h2⟩, fun ⟨z, h1, h2⟩ => ⟨z, List.mem_range.2 (by omega), h2⟩⟩
theorem Cat.maps3 {c : Cat} {w z : Nat} {p q : Int × Int} : (c.mapsL [(w : Int), q.1, q.2] [(z : Int), p.1, p.2]).length = c.spN z p w q := by
  unfold Cat.mapsL Cat.spN
  congr 1
  refine List.filter_congr fun u _ => ?_
  by_cases h : c.spM p u = q
  · rw [decide_eq_true h]
    refine B_true fun i h1 h2 => ?_
    simp only [List.length_cons, List.length_nil] at h2
    rcases (by omega : i = 1 ∨ i = 2) with rfl | rfl
    · exact congrArg Prod.fst h
    · exact congrArg Prod.snd h
  · rw [decide_eq_false h]
    exact B_false fun q' => h (Prod.ext (q' 1 (by omega) (by simp)) (q' 2 (by omega) (by simp)))
theorem find_ne {L : List (List Int)} {p : List Int → Bool} (hne : ∀ t ∈ L, t ≠ []) : (L.find? p).getD [] ≠ [] ↔ ∃ t ∈ L, p t = true := by
  cases e : L.find? p with
  | none =>
    rw [List.find?_eq_none] at e
    simp only [Option.getD_none, ne_eq, not_true, false_iff]
    rintro ⟨t, h1, h2⟩
    exact e t h1 h2
  | some t =>
    have h1 := List.mem_of_find?_eq_some e
    have h2 := List.find?_some e
    exact ⟨fun _ => ⟨t, h1, h2⟩, fun _ => hne t h1⟩
theorem Cat.sq_first {c : Cat} {s : Spn} : c.firstL (c.sqL s) ≠ [] ↔ c.SpE s := by
  refine (find_ne fun t ht => ?_).trans ⟨?_, ?_⟩
  · obtain ⟨z, _, h⟩ := mem_objsL.1 ht
    obtain ⟨p, _, rfl⟩ := List.mem_map.1 h
    exact List.cons_ne_nil _ _
  · rintro ⟨t, ht, hok⟩
    obtain ⟨z, hz, h⟩ := mem_objsL.1 ht
    obtain ⟨p, hp, rfl⟩ := List.mem_map.1 h
    refine ⟨z, hz, p, hp, ⟨fun w hw q hq => ?_⟩⟩
    rw [← Cat.maps3]
    exact B_iff.1 hok _ (mem_objsL.2 ⟨w, hw, List.mem_map.2 ⟨q, hq, rfl⟩⟩)
  · intro h
    obtain ⟨z, hz, p, hp, hU⟩ := h.ex
    refine ⟨_, mem_objsL.2 ⟨z, hz, List.mem_map.2 ⟨p, hp, rfl⟩⟩, B_true fun t ht => ?_⟩
    obtain ⟨w, hw, h2⟩ := mem_objsL.1 ht
    obtain ⟨q, hq, rfl⟩ := List.mem_map.1 h2
    rw [Cat.maps3]
    exact hU.all w hw q hq
def Cat.fitB (c : Cat) (s t : List Int) (u : Int) : Bool := allN (s.length - 1) fun i => decide (c.th u (t.getD (i + 1) 0) = s.getD (i + 1) 0)
theorem Cat.mapsL_eq {c : Cat} {s t : List Int} : c.mapsL s t = (c.hom (s.getD 0 0) (t.getD 0 0)).filter (c.fitB s t) := by
  unfold Cat.mapsL Cat.fitB
  refine List.filter_congr fun u _ => ?_
  rw [Bool.eq_iff_iff, B_iff, allN_iff]
  constructor
  · intro h i hi
    exact decide_eq_true (h (i + 1) (by omega) (by omega))
  · intro h i h1 h2
    obtain ⟨k, rfl⟩ : ∃ k, i = k + 1 := ⟨i - 1, by omega⟩
    exact of_decide_eq_true (h k (by omega))
theorem mem_iff_getD {L : List (List Int)} {t : List Int} : t ∈ L ↔ ∃ k, k < L.length ∧ L.getD k [] = t := by
  rw [List.mem_iff_getElem]
  exact ⟨fun ⟨k, h, e⟩ => ⟨k, h, by simp [List.getD_eq_getElem?_getD, h, e]⟩, fun ⟨k, h, e⟩ => ⟨k, h, by simpa [List.getD_eq_getElem?_getD, h] using e⟩⟩
theorem Cat.okL_eq {c : Cat} {L : List (List Int)} {t : List Int} : c.okL L t = allN L.length fun k => decide ((c.mapsL (L.getD k []) t).length = 1) := by
  rw [Bool.eq_iff_iff, allN_iff]
  unfold Cat.okL
  rw [B_iff]
  exact ⟨fun h k hk => decide_eq_true (h _ (mem_iff_getD.2 ⟨k, hk, rfl⟩)), fun h s hs => by
    obtain ⟨k, hk, rfl⟩ := mem_iff_getD.1 hs
    exact of_decide_eq_true (h k hk)⟩
theorem find_getD {p : List Int → Bool} : ∀ {L : List (List Int)} {i : Nat}, i < L.length → (∀ j, j < i → p (L.getD j []) = false) → p (L.getD i []) = true → (L.find? p).getD [] = L.getD i []
  | [], _, h, _, _ => absurd h (Nat.not_lt_zero _)
  | a :: L, 0, _, _, hp => by
    have : p a = true := hp
    rw [List.find?_cons, this]; rfl
  | a :: L, i + 1, h, hb, hp => by
    have : p a = false := hb 0 (by omega)
    rw [List.find?_cons, this]
    exact find_getD (L := L) (i := i) (by simpa using h) (fun j hj => hb (j + 1) (by omega)) hp
theorem find_getD0 {p : List Int → Bool} {L : List (List Int)} (hb : ∀ j, j < L.length → p (L.getD j []) = false) : (L.find? p).getD [] = [] := by
  rw [List.find?_eq_none.2 fun t ht => by
    obtain ⟨k, hk, rfl⟩ := mem_iff_getD.1 ht
    rw [hb k hk]; exact Bool.false_ne_true]
  rfl
end Go.GL
namespace Go.GL
open Go.RowKit
def bmap (es : List (List Int)) : List (Value × Value) := es.map fun k => (kvT k, .bool true)
def insB (es : List (List Int)) (j : List Int) : List (List Int) := if j ∈ es then es else es ++ [j]
theorem findAsking_relB {P : Program} {k : TypeId} {n : Nat} (hk : KeyT P k n) {s : List Int} (hs : s.length = n) (w : World) : ∀ {E : List MapEntry} {es : List (List Int)} (_ : es.length = E.length) (_ : ∀ (i : Nat) (e : List Int), es[i]? = some e → e.length = n ∧ ∃ c : MapEntry, E[i]? = some c ∧ c.key = kvT e ∧ c.val = .bool true) (i : Nat),
    (∃ j, es[j]? = some s ∧ (Instr.findAsking k (kvT s) E i).run P w = .ok (some (i + j, .bool true)) w) ∨ (s ∉ es ∧ (Instr.findAsking k (kvT s) E i).run P w = .ok none w)
  | [], [], _, _, i => .inr ⟨by simp, by unfold Instr.findAsking; rfl⟩
  | [], _ :: _, hl, _, _ => by simp at hl
  | _ :: _, [], hl, _, _ => by simp at hl
  | c :: E, e :: es, hl, h, i => by
    obtain ⟨h0, c', h1, h2, h3⟩ := h 0 e rfl
    simp only [List.getElem?_cons_zero, Option.some.injEq] at h1
    subst h1
    have ih := findAsking_relB hk hs w (E := E) (es := es) (by simpa using hl) (fun i e' he => by simpa using h (i + 1) e' (by simpa using he)) (i + 1)
    unfold Instr.findAsking
    simp only [Sem.run_bind]
    rw [h2, hk.eq s e hs h0 w]
    simp only [Result.andThen_ok]
    by_cases hq : s = e
    · have hb : (s == e) = true := by simpa using hq
      rw [hb, if_pos rfl]
      exact .inl ⟨0, by rw [hq]; rfl, by rw [h3]; rfl⟩
    · have hb : (s == e) = false := by simpa using hq
      rw [hb, if_neg (by simp)]
      rcases ih with ⟨j, j1, j2⟩ | ⟨j1, j2⟩
      · exact .inl ⟨j + 1, by simpa using j1, by rw [j2, show i + 1 + j = i + (j + 1) by omega]⟩
      · exact .inr ⟨by simp [hq, j1], j2⟩
theorem findKeyB {P : Program} {k : TypeId} {n : Nat} (hk : KeyT P k n) {s : List Int} (hs : s.length = n) (w : World) {E : List MapEntry} {es : List (List Int)} (hl : es.length = E.length) (h : ∀ (i : Nat) (e : List Int), es[i]? = some e → e.length = n ∧ ∃ c : MapEntry, E[i]? = some c ∧ c.key = kvT e ∧ c.val = .bool true) :
    (∃ j, es[j]? = some s ∧ (Instr.findKey k (kvT s) E).run P w = .ok (some (j, .bool true)) w) ∨ (s ∉ es ∧ (Instr.findKey k (kvT s) E).run P w = .ok none w) := by
  obtain ⟨fs, hu⟩ := hk.st
  unfold Instr.findKey
  simp only [Sem.run_bind, run_underlying hu, Result.andThen_ok]
  match E, es, hl, h with
  | [], [], _, _ => exact .inr ⟨by simp, by unfold Instr.findNow; rfl⟩
  | c :: E, e :: es, hl, h =>
    obtain ⟨_, c', h1, h2, _⟩ := h 0 e rfl
    simp only [List.getElem?_cons_zero, Option.some.injEq] at h1
    subst h1
    have hn : Instr.findNow (.struct fs) (kvT s) (c :: E) 0 = none := by
      unfold Instr.findNow
      rw [h2]
      rfl
    rw [hn]
    have := findAsking_relB hk hs w hl h 0
    simpa only [Nat.zero_add] using this
theorem sameBits_kvT (s : List Int) : Instr.sameBits 10000 (kvT s) (kvT s) = true := by
  unfold kvT
  show ((s.map (Value.int .i64)).toArray.size == (s.map (Value.int .i64)).toArray.size && _) = true
  rw [beq_self_eq_true, Bool.true_and]
  rw [List.all_eq_true]
  intro p hp
  have h2 : ∀ (l : List Int) (p : Value × Value), p ∈ (l.map (Value.int .i64)).zip (l.map (Value.int .i64)) → ∃ x : Int, p = (.int .i64 x, .int .i64 x) := fun l => by
    induction l with
    | nil => intro p hp; simp at hp
    | cons a l ih =>
      intro p hp
      simp only [List.map_cons, List.zip_cons_cons, List.mem_cons] at hp
      rcases hp with rfl | hp
      · exact ⟨a, rfl⟩
      · exact ih p hp
  obtain ⟨x, rfl⟩ := h2 s p hp
  show (IntKind.i64 == IntKind.i64 && x == x) = true
  simp
section
variable {P : Program} {B : Nat} {w0 : World} {ρ : Place} {H : GHeap} {w : World} {fr : Slots} {o : Oper} {R : Option Value → GHeap → Prop}
theorem Sim.mrelB (hs : Sim P B w0 ρ H w) {g n : Nat} {es : List (List Int)} (hg : H.get g = some (.map (bmap es))) (hn : ∀ e ∈ es, e.length = n) {s : Spot} (hsp : ρ g = some s) : ∃ (E : Array MapEntry) (clock : Nat), w.heap[s.blk]? = some (.map E clock) ∧ es.length = E.size ∧ ∀ (i : Nat) (e : List Int), es[i]? = some e → e.length = n ∧ ∃ c : MapEntry, E[i]? = some c ∧ c.key = kvT e ∧ c.val = .bool true := by
  obtain ⟨s0, E, c0, k1, k2, _, k4, k5⟩ := hs.live _ _ hg
  rw [hsp] at k1
  cases k1
  refine ⟨E, c0, k2, by simpa [bmap] using k4, fun i e he => ⟨hn e (List.mem_of_getElem? he), ?_⟩⟩
  obtain ⟨c, h1, h2, h3⟩ := k5 i (kvT e) (.bool true) (by simp [bmap, he])
  exact ⟨c, h1, flatT_inv h2, h3.bool_inv⟩
theorem CDo.mapPutB {t kt e : TypeId} {m k x : Operand} {g n : Nat} {es : List (List Int)} {j : List Int} (ho : o.op = .mapUpdate t m k x) (ht : mapTT P t = some (kt, e)) (hkt : KeyT P kt n) (hm : ev fr m = some (.map (some g))) (hk : ev fr k = some (kvT j)) (hx : ev fr x = some (.bool true)) (hj : j.length = n) (hg : H.get g = some (.map (bmap es))) (hnn : ∀ e ∈ es, e.length = n) :
    CDo P o fr H (fun r H' => r = none ∧ St [g] H H' ∧ H'.get g = some (.map (bmap (insB es j)))) := .mk fun B w0 ρ a w hs hf next Q hn => by
  rw [ho] at hf
  obtain ⟨s, hsp, em⟩ := (ev_rel hf (x := m) (by simp [Op.operands]) hm).map_inv
  have ek := flatT_inv (ev_rel hf (x := k) (by simp [Op.operands]) hk)
  have ex := (ev_rel hf (x := x) (by simp [Op.operands]) hx).bool_inv
  have hu := mapTT_run ht
  obtain ⟨E, clock, hE, hr⟩ := hs.mrelB hg hnn hsp
  have hlt := (Array.getElem?_eq_some_iff.1 hE).1
  have kv : ∀ t : List Int, VRel ρ (kvT t) (kvT t) := fun t => by
    unfold kvT
    refine .agg rfl fun i h1 h2 => ?_
    simp only [List.getElem_toArray, List.getElem_map]
    exact .int _ _
  have at' : ∀ (i : Nat) (k' v' : Value), (bmap es)[i]? = some (k', v') → ∃ c : MapEntry, E[i]? = some c ∧ c.key = k' ∧ c.val = .bool true ∧ v' = .bool true ∧ ∃ t : List Int, es[i]? = some t ∧ k' = kvT t := fun i k' v' hi => by
    simp only [bmap, List.getElem?_map, Option.map_eq_some_iff] at hi
    obtain ⟨e1, he1, heq⟩ := hi
    cases heq
    obtain ⟨_, c, c1, c2, c3⟩ := hr.2 i e1 he1
    exact ⟨c, c1, c2, c3, rfl, e1, he1, rfl⟩
  rcases findKeyB hkt hj w (E := E.toList) (es := es) (by simpa using hr.1) (fun i e he => by simpa using hr.2 i e he) with ⟨q, q1, q2⟩ | ⟨q1, q2⟩
  · have hin : insB es j = es := by unfold insB; rw [if_pos (List.mem_of_getElem? q1)]
    obtain ⟨_, cq, cq1, cq2, cq3⟩ := hr.2 q j q1
    have hs' := hs.mapTurn hg hsp (w' := { w with heap := w.heap.setIfInBounds s.blk (.map (E.modify q fun e => { e with key := kvT j, val := .bool true }) clock) }) (es' := bmap es) (E := E.modify q fun e => { e with key := kvT j, val := .bool true }) (clock := clock)
      (by simp [hlt]) (by simp [bmap, hr.1]) (fun i k' v' hi => by
        obtain ⟨c, c1, c2, c3, rfl, t, t1, rfl⟩ := at' i k' v' hi
        by_cases hq : q = i
        · subst hq
          rw [q1] at t1
          cases t1
          refine ⟨{ c with key := kvT j, val := .bool true }, by rw [Array.getElem?_modify, if_pos rfl, c1]; rfl, kv _, .bool _⟩
        · exact ⟨c, by rw [Array.getElem?_modify, if_neg hq]; exact c1, by rw [c2]; exact kv _, by rw [c3]; exact .bool _⟩)
      (fun k' hk' => by simp [Array.getElem?_setIfInBounds_ne (Ne.symm hk')]) (by simp) rfl rfl rfl
    refine upon_skip (w' := { w with heap := w.heap.setIfInBounds s.blk (.map (E.modify q fun e => { e with key := kvT j, val := .bool true }) clock) }) ?_ (hn ρ none undef _ _ ⟨rfl, .of_set, by rw [hin]; exact GHeap.get_set_eq (GHeap.ltg hg)⟩ (.refl ρ) hs' fun y hy => by cases hy)
    unfold execOp
    simp only [ho, em, ek, ex]
    refine u_run' ?_
    have hks : (Instr.keyThatStays (kvT j) (kvT j)).run P w = .ok (kvT j) w := by
      unfold Instr.keyThatStays
      rw [if_pos (sameBits_kvT j)]
      rfl
    have hold : ((E[q]?).map (·.key)).getD (kvT j) = kvT j := by rw [cq1]; exact cq2
    simp [Instr.mapUpdate, run_underlying hu, MapKept.run_getObj_map hE, MapKept.run_setObj_map _ hE, hkt.ck _ j hj, q2, hold, hks, Result.andThen]
  · have hin : insB es j = es ++ [j] := by unfold insB; rw [if_neg q1]
    have hs' := hs.mapTurn hg hsp (w' := { w with heap := w.heap.setIfInBounds s.blk (.map (E.push { key := kvT j, val := .bool true, born := clock }) (clock + 1)) }) (es' := bmap (es ++ [j])) (E := E.push { key := kvT j, val := .bool true, born := clock }) (clock := clock + 1)
      (by simp [hlt]) (by simp [bmap, hr.1]) (fun i k' v' hi => by
        by_cases hil : i < es.length
        · have hi' : (bmap es)[i]? = some (k', v') := by
            simp only [bmap, List.map_append] at hi ⊢
            rw [List.getElem?_append_left (by simpa using hil)] at hi
            exact hi
          obtain ⟨c, c1, c2, c3, rfl, t, t1, rfl⟩ := at' i k' v' hi'
          exact ⟨c, by rw [Array.getElem?_push]; rw [if_neg (by have := hr.1; omega)]; exact c1, by rw [c2]; exact kv _, by rw [c3]; exact .bool _⟩
        · simp only [bmap, List.map_append, List.map_cons, List.map_nil] at hi
          rw [List.getElem?_append_right (by simpa using Nat.le_of_not_lt hil)] at hi
          simp only [List.length_map] at hi
          have hi0 : i - es.length = 0 := by
            cases hd : i - es.length with
            | zero => rfl
            | succ d => rw [hd] at hi; simp at hi
          rw [hi0] at hi
          simp only [List.getElem?_cons_zero, Option.some.injEq, Prod.mk.injEq] at hi
          obtain ⟨rfl, rfl⟩ := hi
          exact ⟨_, by rw [Array.getElem?_push, if_pos (by have := hr.1; omega)], kv _, .bool _⟩)
      (fun k' hk' => by simp [Array.getElem?_setIfInBounds_ne (Ne.symm hk')]) (by simp) rfl rfl rfl
    refine upon_skip (w' := { w with heap := w.heap.setIfInBounds s.blk (.map (E.push { key := kvT j, val := .bool true, born := clock }) (clock + 1)) }) ?_ (hn ρ none undef _ _ ⟨rfl, .of_set, by rw [hin]; exact GHeap.get_set_eq (GHeap.ltg hg)⟩ (.refl ρ) hs' fun y hy => by cases hy)
    unfold execOp
    simp only [ho, em, ek, ex]
    refine u_run' ?_
    simp [Instr.mapUpdate, run_underlying hu, MapKept.run_getObj_map hE, MapKept.run_setObj_map _ hE, hkt.ck _ j hj, q2, Result.andThen]
theorem CDo.lenMapB {t kt e : TypeId} {m : Operand} {g n : Nat} {es : List (List Int)} (ho : o.op = .call { callee := .builtin .len, args := #[m], argTypes := #[t] }) (ht : mapTT P t = some (kt, e)) (hm : ev fr m = some (.map (some g))) (hg : H.get g = some (.map (bmap es))) (hnn : ∀ e ∈ es, e.length = n)
    (h : R (some (.int .i64 (es.length : Int))) H) : CDo P o fr H R := .mk fun B w0 ρ a w hs hf next Q hn => by
  rw [ho] at hf
  obtain ⟨s, hsp, em⟩ := (ev_rel hf (x := m) (by simp [Op.operands, Call.operands]) hm).map_inv
  have hu := mapTT_run ht
  obtain ⟨E, clock, hE, hr⟩ := hs.mrelB hg hnn hsp
  have hrun : (Builtin.len_ #[t] o.type #[.map (some s.blk)]).run P w = .ok (.int .i64 (es.length : Int)) w := by
    simp [Builtin.len_, Sem.run_bind, run_underlying hu, MapKept.run_getObj_map hE, hr.1, goInt, Result.andThen]
  refine upon_value (c := .int .i64 (es.length : Int)) (w' := w) ?_ (hn ρ _ _ _ _ h (.refl ρ) hs fun y hy => ?_)
  · unfold execOp
    simp only [ho, resolve, invoke, builtin, Sem.run_bind, Sem.run_pure, Result.andThen_ok, List.map_toArray, List.map_cons, List.map_nil, em, hrun]
  · cases hy
    exact .int _ _
end
theorem insB_len {n : Nat} {es : List (List Int)} {j : List Int} (h : ∀ e ∈ es, e.length = n) (hj : j.length = n) : ∀ e ∈ insB es j, e.length = n := by
  unfold insB
  split
  · exact h
  · intro e he
    rcases List.mem_append.1 he with he | he
    · exact h e he
    · rw [List.mem_singleton.1 he]; exact hj
def setB (l : List (List Int)) : List (List Int) := l.foldl insB []
theorem setB_snoc (l : List (List Int)) (j : List Int) : setB (l ++ [j]) = insB (setB l) j := by
  unfold setB; rw [List.foldl_append]; rfl
theorem foldB_len : ∀ (l acc : List (List Int)), (l.foldl insB acc).length ≤ acc.length + l.length ∧ ((l.foldl insB acc).length = acc.length + l.length ↔ l.Nodup ∧ ∀ x ∈ l, x ∉ acc)
  | [], acc => ⟨Nat.le_refl _, by simp⟩
  | j :: l, acc => by
    have ih := foldB_len l (insB acc j)
    rw [List.foldl_cons, List.length_cons]
    by_cases h : j ∈ acc
    · have e : insB acc j = acc := by unfold insB; rw [if_pos h]
      rw [e] at ih ⊢
      refine ⟨by omega, ⟨fun q => by omega, fun q => absurd h (q.2 j (List.mem_cons_self ..))⟩⟩
    · have e : insB acc j = acc ++ [j] := by unfold insB; rw [if_neg h]
      rw [e] at ih ⊢
      rw [List.length_append, List.length_singleton] at ih
      refine ⟨by omega, ?_⟩
      rw [show acc.length + (l.length + 1) = acc.length + 1 + l.length by omega, ih.2, List.nodup_cons]
      constructor
      · rintro ⟨a1, a2⟩
        refine ⟨⟨fun q => (a2 j q) (List.mem_append.2 (.inr (List.mem_singleton.2 rfl))), a1⟩, fun x hx => ?_⟩
        rcases List.mem_cons.1 hx with rfl | hx
        · exact h
        · exact fun q => a2 x hx (List.mem_append.2 (.inl q))
      · rintro ⟨⟨a1, a2⟩, a3⟩
        refine ⟨a2, fun x hx q => ?_⟩
        rcases List.mem_append.1 q with q | q
        · exact a3 x (List.mem_cons_of_mem _ hx) q
        · rw [List.mem_singleton.1 q] at hx; exact a1 hx
theorem setB_len {l : List (List Int)} : (setB l).length = l.length ↔ l.Nodup := by
  have h := (foldB_len l []).2
  unfold setB
  rw [show l.length = ([] : List (List Int)).length + l.length by simp, h]
  exact ⟨fun q => q.1, fun q => ⟨q, fun _ _ q => by cases q⟩⟩
end Go.GL
namespace Go.GL
open Go.RowKit
def prs (l : List (Int × Int)) : List Value := l.flatMap fun p => [.int .i64 p.1, .int .i64 p.2]
theorem prs_snoc (l : List (Int × Int)) (a b : Int) : prs (l ++ [(a, b)]) = prs l ++ [.int .i64 a, .int .i64 b] := by simp [prs]
@[simp] theorem length_prs (l : List (Int × Int)) : (prs l).length = l.length * 2 := by
  induction l with
  | nil => rfl
  | cons p l ih =>
    unfold prs at ih ⊢
    simp only [List.flatMap_cons, List.length_append, List.length_cons, List.length_nil, ih]
    omega
theorem prs_get {l : List (Int × Int)} {i j : Nat} (hi : i < l.length) (hj : j < 2) : (prs l)[i * 2 + j]? = [Value.int .i64 (l.getD i (0, 0)).1, .int .i64 (l.getD i (0, 0)).2][j]? := by
  induction l generalizing i with
  | nil => simp at hi
  | cons p l ih =>
    unfold prs
    rw [List.flatMap_cons]
    cases i with
    | zero =>
      rw [List.getElem?_append_left (by simp; omega)]
      simp only [Nat.zero_mul, Nat.zero_add, List.getD_cons_zero]
    | succ i =>
      rw [List.getElem?_append_right (by simp; omega)]
      simp only [List.length_cons, List.length_nil, List.getD_cons_succ]
      have := ih (i := i) (by simpa using hi)
      unfold prs at this
      rw [← this]
      congr 1
      omega
theorem prs_sl {H : GHeap} {g : Nat} {e : TypeId} {own : Bool} {l : List (Int × Int)} (hg : H.get g = some (.row (prs l) e own)) : SlA H (some ⟨g, 0, none⟩) (l.length * 2) (fun i => (prs l).getD i undef) :=
  .inr ⟨g, 0, rfl, fun i hi => by
    rw [GHeap.cell_of hg, Nat.zero_add]
    show _ = some ((prs l).getD i undef)
    rw [List.getD_eq_getElem?_getD, List.getElem?_eq_getElem (by rw [length_prs]; exact hi)]; rfl⟩
theorem prs_mem {H : GHeap} {g : Nat} {e : TypeId} {own : Bool} {l : List (Int × Int)} (hg : H.get g = some (.row (prs l) e own)) {i : Nat} (hi : i < l.length) :
    MemN H g (0 + (i : Int).toNat * 2) 2 [.int .i64 (l.getD i (0, 0)).1, .int .i64 (l.getD i (0, 0)).2] := by
  refine ⟨rfl, fun j v hv => ?_⟩
  rw [GHeap.cell_of hg, Int.toNat_natCast, Nat.zero_add]
  match j, hv with
  | 0, hv => rw [prs_get hi (by omega)]; exact hv
  | 1, hv => rw [prs_get hi (by omega)]; exact hv
  | n + 2, hv => simp at hv
structure PrsAt (b : Nat) (e : TypeId) (H : GHeap) (g : Nat) (l : List (Int × Int)) : Prop where
  lo : b ≤ g
  at' : H.get g = some (.row (prs l) e true)
def Cat.spR (c : Cat) (s : Spn) (w : Int) (a : Int) (j : Nat) : List (Int × Int) := (((c.hom w s.y).take j).filter fun b => s.fits a b).map fun b => (a, b)
def Cat.spP (c : Cat) (s : Spn) (w : Int) (k : Nat) : List (Int × Int) := if s.alone = true then (((c.hom w s.x).take k).filter fun a => s.fits a a).map fun a => (a, a) else ((c.hom w s.x).take k).flatMap fun a => ((c.hom w s.y).filter fun b => s.fits a b).map fun b => (a, b)
theorem Cat.spP_zero (c : Cat) (s : Spn) (w : Int) : c.spP s w 0 = [] := by unfold Cat.spP; split <;> rfl
theorem Cat.spP_all (c : Cat) (s : Spn) (w : Int) : c.spP s w (c.hom w s.x).length = c.spL s w := by unfold Cat.spP Cat.spL; rw [List.take_length]
theorem Cat.spP_aT {c : Cat} {s : Spn} {w : Int} {k : Nat} (ha : s.alone = true) (h : k < (c.hom w s.x).length) (hf : s.fits ((c.hom w s.x).getD k 0) ((c.hom w s.x).getD k 0) = true) : c.spP s w (k + 1) = c.spP s w k ++ [((c.hom w s.x).getD k 0, (c.hom w s.x).getD k 0)] := by
  unfold Cat.spP
  rw [if_pos ha, if_pos ha, take_snoc_getD h, List.filter_append, List.map_append]
  congr 1
  rw [List.filter_cons_of_pos (p := fun a => s.fits a a) hf]; rfl
theorem Cat.spP_aF {c : Cat} {s : Spn} {w : Int} {k : Nat} (ha : s.alone = true) (h : k < (c.hom w s.x).length) (hf : s.fits ((c.hom w s.x).getD k 0) ((c.hom w s.x).getD k 0) = false) : c.spP s w (k + 1) = c.spP s w k := by
  unfold Cat.spP
  rw [if_pos ha, if_pos ha, take_snoc_getD h, List.filter_append, List.map_append, List.filter_cons_of_neg (by rw [hf]; decide)]
  simp
theorem Cat.spR_zero (c : Cat) (s : Spn) (w a : Int) : c.spR s w a 0 = [] := rfl
theorem Cat.spR_T {c : Cat} {s : Spn} {w a : Int} {j : Nat} (h : j < (c.hom w s.y).length) (hf : s.fits a ((c.hom w s.y).getD j 0) = true) : c.spR s w a (j + 1) = c.spR s w a j ++ [(a, (c.hom w s.y).getD j 0)] := by
  unfold Cat.spR
  rw [take_snoc_getD h, List.filter_append, List.map_append, List.filter_cons_of_pos hf]; rfl
theorem Cat.spR_F {c : Cat} {s : Spn} {w a : Int} {j : Nat} (h : j < (c.hom w s.y).length) (hf : s.fits a ((c.hom w s.y).getD j 0) = false) : c.spR s w a (j + 1) = c.spR s w a j := by
  unfold Cat.spR
  rw [take_snoc_getD h, List.filter_append, List.map_append, List.filter_cons_of_neg (by rw [hf]; decide)]
  simp
theorem Cat.spP_next {c : Cat} {s : Spn} {w : Int} {k : Nat} (ha : ¬ s.alone = true) (h : k < (c.hom w s.x).length) : c.spP s w (k + 1) = c.spP s w k ++ c.spR s w ((c.hom w s.x).getD k 0) (c.hom w s.y).length := by
  unfold Cat.spP Cat.spR
  rw [if_neg ha, if_neg ha, take_snoc_getD h, List.flatMap_append, List.take_length]
  simp
theorem Cat.spR_len (c : Cat) (s : Spn) (w a : Int) (j : Nat) : (c.spR s w a j).length ≤ c.src.length := by
  unfold Cat.spR
  rw [List.length_map]
  exact Nat.le_trans (List.length_filter_le _ _) (Nat.le_trans (by rw [List.length_take]; omega) (Cat.hom_le c w s.y))
theorem Cat.spP_len (c : Cat) (s : Spn) (w : Int) : ∀ {k : Nat}, k ≤ (c.hom w s.x).length → (c.spP s w k).length ≤ k * c.src.length + k
  | 0, _ => by rw [Cat.spP_zero]; simp
  | k + 1, h => by
    have ih := Cat.spP_len c s w (k := k) (by omega)
    have e := Nat.add_mul k 1 c.src.length
    by_cases ha : s.alone = true
    · cases hf : s.fits ((c.hom w s.x).getD k 0) ((c.hom w s.x).getD k 0) with
      | true => rw [Cat.spP_aT ha (by omega) hf, List.length_append, List.length_singleton]; omega
      | false => rw [Cat.spP_aF ha (by omega) hf]; omega
    · rw [Cat.spP_next ha (by omega), List.length_append]
      have := Cat.spR_len c s w ((c.hom w s.x).getD k 0) (c.hom w s.y).length
      omega
def LastsN (T0 : TypeId) (H H' : GHeap) : Prop := ∀ e, (e != T0) = true → LastsV e H H'
theorem LastsN.of_le {T0 : TypeId} {H H' : GHeap} (h : H.Le H') : LastsN T0 H H' := fun _ _ => .of_le h
theorem LastsN.trans {T0 : TypeId} {A B C : GHeap} (h : LastsN T0 A B) (h' : LastsN T0 B C) : LastsN T0 A C := fun e he => (h e he).trans (h' e he)
structure SpnF (P : Program) (T0 : TypeId) (c : Cat) (gc : Nat) (p : CatP) (fn : Nat) (cap : Array Value) (s : Spn) (H : GHeap) : Prop where
  code : ∀ (xs : Array Value) (w : World), (callFunc fn xs).run P w = .ok (.enter fn xs) w
  run : ∀ H', LastsN T0 H H' → Cat.At H' gc 0 c p → ∀ (w : Nat) (a b : Int), a ∈ c.hom w s.x → (s.alone = true → b = a) → (¬ s.alone = true → b ∈ c.hom w s.y) → GCalls P fn ([.int .i64 a, .int .i64 b] ++ cap.toList) H' (Ret (.bool (s.fits a b)) H')
def SpnAt (P : Program) (TS T0 : TypeId) (c : Cat) (gc : Nat) (p : CatP) (H : GHeap) (g : Nat) (s : Spn) : Prop :=
  ∃ fn cap, H.get g = some (.row [.pointer (some ⟨gc, 0, none⟩), .int .i64 s.x, .int .i64 s.y, .func (.func fn) #[] cap, .bool s.alone] TS true) ∧ SpnF P T0 c gc p fn cap s H
theorem SpnAt.keep {P : Program} {TS T0 : TypeId} {c : Cat} {gc : Nat} {p : CatP} {H H' : GHeap} {g : Nat} {s : Spn} (h : SpnAt P TS T0 c gc p H g s) (hT : (TS != T0) = true) (l : LastsN T0 H H') : SpnAt P TS T0 c gc p H' g s := by
  obtain ⟨fn, cap, h1, h2⟩ := h
  exact ⟨fn, cap, l _ hT _ _ h1, h2.code, fun H'' l' => h2.run H'' (l.trans l')⟩
def Spn.z : Spn := ⟨0, 0, fun _ _ => true, false⟩
structure SpnsAt (P : Program) (TS T0 : TypeId) (c : Cat) (gc : Nat) (p : CatP) (H : GHeap) (gs : List Nat) (ss : List Spn) : Prop where
  len : gs.length = ss.length
  row : ∀ i, i < ss.length → SpnAt P TS T0 c gc p H (gs.getD i 0) (ss.getD i .z)
def row3 (z : Nat) (p : Int × Int) : List Int := [(z : Int), p.1, p.2]
def Cat.sqA (c : Cat) (s : Spn) (f : Nat → Int × Int → List Int) (z : Nat) : List (List Int) := (List.range z).flatMap fun (z : Nat) => (c.spL s z).map (f z)
def Cat.sqP (c : Cat) (s : Spn) (f : Nat → Int × Int → List Int) (z i : Nat) (k : Nat) : List (List Int) := c.sqA s f z ++ (c.spP s z i ++ c.spR s z ((c.hom z s.x).getD i 0) k).map (f z)
theorem Cat.sqA_next (c : Cat) (s : Spn) (f : Nat → Int × Int → List Int) (z : Nat) : c.sqA s f (z + 1) = c.sqA s f z ++ (c.spL s z).map (f z) := by
  unfold Cat.sqA
  rw [List.range_succ, List.flatMap_append]
  simp
theorem Cat.sqP_zero (c : Cat) (s : Spn) (f : Nat → Int × Int → List Int) (z : Nat) : c.sqP s f z 0 0 = c.sqA s f z := by
  unfold Cat.sqP
  rw [Cat.spP_zero, Cat.spR_zero]; simp
theorem Cat.sqP_end (c : Cat) (s : Spn) (f : Nat → Int × Int → List Int) (z : Nat) : c.sqP s f z (c.hom z s.x).length 0 = c.sqA s f (z + 1) := by
  unfold Cat.sqP
  rw [Cat.spR_zero, List.append_nil, Cat.spP_all, Cat.sqA_next]
theorem Cat.sqP_next {c : Cat} {s : Spn} {f : Nat → Int × Int → List Int} {z i : Nat} (ha : ¬ s.alone = true) (h : i < (c.hom z s.x).length) : c.sqP s f z (i + 1) 0 = c.sqP s f z i (c.hom z s.y).length := by
  unfold Cat.sqP
  rw [Cat.spR_zero, List.append_nil, Cat.spP_next ha h]
theorem Cat.sqP_T {c : Cat} {s : Spn} {f : Nat → Int × Int → List Int} {z i k : Nat} (h : k < (c.hom z s.y).length) (hf : s.fits ((c.hom z s.x).getD i 0) ((c.hom z s.y).getD k 0) = true) : c.sqP s f z i (k + 1) = c.sqP s f z i k ++ [f z ((c.hom z s.x).getD i 0, (c.hom z s.y).getD k 0)] := by
  unfold Cat.sqP
  rw [Cat.spR_T h hf, ← List.append_assoc, List.map_append, ← List.append_assoc]; rfl
theorem Cat.sqP_F {c : Cat} {s : Spn} {f : Nat → Int × Int → List Int} {z i k : Nat} (h : k < (c.hom z s.y).length) (hf : s.fits ((c.hom z s.x).getD i 0) ((c.hom z s.y).getD k 0) = false) : c.sqP s f z i (k + 1) = c.sqP s f z i k := by
  unfold Cat.sqP
  rw [Cat.spR_F h hf]
theorem Cat.spP_bound {c : Cat} (hS : c.Shape) (s : Spn) (w : Int) {k : Nat} (hk : k ≤ (c.hom w s.x).length) : (c.spP s w k).length ≤ 1640 := by
  have h1 := c.spP_len s w hk
  have h2 := hS.n40
  have h3 := c.hom_le w s.x
  have h4 : k * c.src.length ≤ 40 * 40 := Nat.mul_le_mul (by omega) h2
  omega
theorem Cat.spL_bound {c : Cat} (hS : c.Shape) (s : Spn) (w : Int) : (c.spL s w).length ≤ 1640 := by rw [← Cat.spP_all]; exact Cat.spP_bound hS s w (Nat.le_refl _)
theorem Cat.sqA_bound {c : Cat} (hS : c.Shape) (s : Spn) (f : Nat → Int × Int → List Int) (z : Nat) : (c.sqA s f z).length ≤ z * 1640 := flatMap_len fun a _ => by rw [List.length_map]; exact Cat.spL_bound hS s a
theorem Cat.sqP_bound {c : Cat} (hS : c.Shape) (s : Spn) (f : Nat → Int × Int → List Int) {z i k : Nat} (hz : z ≤ 8) (hi : i ≤ (c.hom z s.x).length) : (c.sqP s f z i k).length ≤ 20000 := by
  unfold Cat.sqP
  rw [List.length_append, List.length_map, List.length_append]
  have h1 := Cat.sqA_bound hS s f z
  have h2 := Cat.spP_bound hS s z hi
  have h3 := c.spR_len s z ((c.hom z s.x).getD i 0) k
  have h4 := hS.n40
  omega
theorem Cat.sqA_bound8 {c : Cat} (hS : c.Shape) (s : Spn) (f : Nat → Int × Int → List Int) {z : Nat} (hz : z ≤ 8) : (c.sqA s f z).length ≤ 20000 := by
  have := Cat.sqA_bound hS s f z
  omega
theorem Cat.sqL_eq (c : Cat) (s : Spn) : c.sqL s = c.sqA s row3 c.obj.toNat := rfl
theorem find_flatMap {α : Type} {p : α → Bool} {F : Nat → List α} {n z : Nat} (hz : z < n) (h1 : ∀ z', z' < z → ∀ t ∈ F z', p t = false) {i : Nat} {d : α} (hi : i < (F z).length) (h2 : ∀ j, j < i → p ((F z).getD j d) = false) (h3 : p ((F z).getD i d) = true) : ((List.range n).flatMap F).find? p = some ((F z).getD i d) := by
  obtain ⟨m, rfl⟩ : ∃ m, n = z + (m + 1) := ⟨n - z - 1, by omega⟩
  rw [List.range_add, List.flatMap_append, List.find?_append, List.find?_eq_none.2 fun t ht => by
    obtain ⟨a, ha, hb⟩ := List.mem_flatMap.1 ht
    rw [h1 a (List.mem_range.1 ha) t hb]; exact Bool.false_ne_true]
  rw [Option.none_or, List.range_succ_eq_map, List.map_cons, List.flatMap_cons, Nat.add_zero, List.find?_append]
  have hf : (F z).find? p = some ((F z).getD i d) := by
    rw [List.find?_eq_some_iff_getElem]
    refine ⟨h3, i, hi, by rw [List.getD_eq_getElem?_getD, List.getElem?_eq_getElem hi]; rfl, fun j hj => ?_⟩
    have := h2 j hj
    rw [List.getD_eq_getElem?_getD, List.getElem?_eq_getElem (by omega)] at this
    simpa using this
  rw [hf]; rfl
theorem Cat.okL_sq {c : Cat} {s : Spn} (hc : c.SpC s) {z : Nat} {p : Int × Int} (hp : p ∈ c.spL s z) : c.okL (c.sqL s) (row3 z p) = true ↔ c.SpV s z p := by
  rw [Cat.spV_iff hc hp]
  unfold Cat.okL
  rw [B_iff]
  constructor
  · intro h
    refine ⟨fun w hw q hq => ?_⟩
    rw [← Cat.maps3]
    exact h _ (mem_objsL.2 ⟨w, hw, List.mem_map.2 ⟨q, hq, rfl⟩⟩)
  · intro h t ht
    obtain ⟨w, hw, h2⟩ := mem_objsL.1 ht
    obtain ⟨q, hq, rfl⟩ := List.mem_map.1 h2
    show (c.mapsL [(w : Int), q.1, q.2] [(z : Int), p.1, p.2]).length = 1
    rw [Cat.maps3]
    exact h.all w hw q hq
noncomputable def Cat.fstL (c : Cat) (s : Spn) : List Int := c.firstL (c.sqL s)
theorem Cat.fst_hit {c : Cat} {s : Spn} (hc : c.SpC s) {z i : Nat} (hz : (z : Int) < c.obj) (h1 : ∀ z' : Nat, z' < z → ∀ q ∈ c.spL s z', ¬ c.SpV s z' q) (hi : i < (c.spL s z).length) (h2 : ∀ j, j < i → ¬ c.SpV s z ((c.spL s z).getD j (0, 0))) (h3 : c.SpV s z ((c.spL s z).getD i (0, 0))) : c.fstL s = row3 z ((c.spL s z).getD i (0, 0)) := by
  have gm : ∀ {j : Nat}, j < (c.spL s z).length → ((c.spL s z).map (row3 z)).getD j [] = row3 z ((c.spL s z).getD j (0, 0)) := fun {j} hj => by
    rw [List.getD_eq_getElem?_getD, List.getElem?_map, List.getD_eq_getElem?_getD, List.getElem?_eq_getElem hj]; rfl
  have hm : ∀ {j : Nat}, j < (c.spL s z).length → (c.spL s z).getD j (0, 0) ∈ c.spL s z := fun hj => getD_mem_list hj
  have := find_flatMap (p := c.okL (c.sqL s)) (F := fun z => (c.spL s z).map (row3 z)) (n := c.obj.toNat) (z := z) (i := i) (d := []) (by omega) (fun z' hz' t ht => by
    obtain ⟨q, hq, rfl⟩ := List.mem_map.1 ht
    exact Bool.eq_false_iff.2 fun e => h1 z' hz' q hq ((Cat.okL_sq hc hq).1 e)) (by rw [List.length_map]; exact hi) (fun j hj => by
    rw [gm (by omega)]
    exact Bool.eq_false_iff.2 fun e => h2 j hj ((Cat.okL_sq hc (hm (by omega))).1 e)) (by rw [gm hi]; exact (Cat.okL_sq hc (hm hi)).2 h3)
  unfold Cat.fstL Cat.firstL
  rw [show (c.sqL s).find? (c.okL (c.sqL s)) = _ from this, gm hi]; rfl
theorem Cat.fst_none {c : Cat} {s : Spn} (hc : c.SpC s) (h : ∀ z : Nat, (z : Int) < c.obj → ∀ q ∈ c.spL s z, ¬ c.SpV s z q) : c.fstL s = [] := by
  unfold Cat.fstL Cat.firstL
  rw [List.find?_eq_none.2 fun t ht => by
    obtain ⟨z, hz, h2⟩ := mem_objsL.1 ht
    obtain ⟨q, hq, rfl⟩ := List.mem_map.1 h2
    exact fun e => h z hz q hq ((Cat.okL_sq hc hq).1 e)]
  rfl
theorem Cat.fst_form (c : Cat) (s : Spn) : c.fstL s = [] ∨ ∃ (z : Nat) (p : Int × Int), (z : Int) < c.obj ∧ p ∈ c.spL s z ∧ c.fstL s = row3 z p := by
  by_cases h : c.fstL s = []
  · exact .inl h
  · unfold Cat.fstL Cat.firstL at h ⊢
    cases e : (c.sqL s).find? (c.okL (c.sqL s)) with
    | none => rw [e] at h; exact absurd rfl h
    | some t =>
      obtain ⟨z, hz, h2⟩ := mem_objsL.1 (List.mem_of_find?_eq_some e)
      obtain ⟨q, hq, rfl⟩ := List.mem_map.1 h2
      exact .inr ⟨z, q, hz, hq, rfl⟩
theorem Cat.sqL_ok {c : Cat} {s : Spn} (ha : ¬ s.alone = true) : ∀ k, k < (c.sqL s).length → ((c.sqL s).getD k []).length = 3 ∧ ∀ i, 1 ≤ i → i < 3 → 0 ≤ ((c.sqL s).getD k []).getD i 0 ∧ ((c.sqL s).getD k []).getD i 0 < c.src.length := fun k hk => by
  have hm := getD_mem_list (d := ([] : List Int)) hk
  generalize (c.sqL s).getD k [] = t at hm ⊢
  obtain ⟨z, hz, h⟩ := mem_objsL.1 hm
  obtain ⟨p, hp, rfl⟩ := List.mem_map.1 h
  obtain ⟨h1, _, h3⟩ := Cat.mem_spL.1 hp
  rw [if_neg ha] at h3
  obtain ⟨a, a1, _, _, a4⟩ := Cat.mem_hom.1 h1
  obtain ⟨b, b1, _, _, b4⟩ := Cat.mem_hom.1 h3
  refine ⟨rfl, fun i h1 h2 => ?_⟩
  rcases (by omega : i = 1 ∨ i = 2) with rfl | rfl
  · show 0 ≤ p.1 ∧ p.1 < _
    omega
  · show 0 ≤ p.2 ∧ p.2 < _
    omega
structure Bef (n f t : Nat) (Q : Nat → Nat → Prop) : Prop where
  all : ∀ f' g', f' ≤ g' → g' < n → (f' < f ∨ (f' = f ∧ g' < t)) → Q f' g'
structure BefA (n f t : Nat) (Q : Nat → Nat → Prop) : Prop where
  all : ∀ f' g', g' < n → (f' < f ∨ (f' = f ∧ g' < t)) → Q f' g'
def Cat.Q1 (c : Cat) (x y : Nat) : Prop := c.SpE (.prod x y)
def Cat.Q2 (c : Cat) (f g : Nat) : Prop := c.src.getD f 0 = c.src.getD g 0 → c.tgt.getD f 0 = c.tgt.getD g 0 → c.SpE (c.fork f g)
def Cat.Q3 (c : Cat) (f g : Nat) : Prop := c.tgt.getD f 0 = c.tgt.getD g 0 → c.SpE (c.pull f g)
def Cat.sp2 (c : Cat) (p1 p2 : Int) (u : Int) : List Int := [c.th u p1, c.th u p2]
theorem foldB_two : ∀ {l acc : List (List Int)} {n : Nat}, (∀ e ∈ l, e.length = n) → (∀ e ∈ acc, e.length = n) → ∀ e ∈ l.foldl insB acc, e.length = n
  | [], _, _, _, h2 => h2
  | j :: l, acc, n, h1, h2 => by
    rw [List.foldl_cons]
    exact foldB_two (fun e he => h1 e (List.mem_cons_of_mem _ he)) (insB_len h2 (h1 j (List.mem_cons_self ..)))
theorem sp2_len {c : Cat} {p1 p2 : Int} (l : List Int) : ∀ e ∈ setB (l.map (c.sp2 p1 p2)), e.length = 2 := foldB_two (fun e he => by
  obtain ⟨u, _, rfl⟩ := List.mem_map.1 he
  rfl) fun _ h => by cases h
theorem Cat.sp2_nd {c : Cat} {p1 p2 : Int} {l : List Int} : (l.map (c.sp2 p1 p2)).Nodup ↔ (l.map (c.spM (p1, p2))).Nodup := by
  have e : l.map (c.sp2 p1 p2) = (l.map (c.spM (p1, p2))).map fun q => [q.1, q.2] := by rw [List.map_map]; rfl
  rw [e]
  refine ⟨fun h => List.Pairwise.imp (fun {a b} h e => h (by rw [e])) (List.pairwise_map.1 h), fun h => List.pairwise_map.2 (List.Pairwise.imp (fun {a b} h e => h ?_) h)⟩
  have e1 := List.cons.inj e
  exact Prod.ext e1.1 (List.cons.inj e1.2).1
theorem Cat.sp2_set {c : Cat} {p1 p2 : Int} {l : List Int} : (setB (l.map (c.sp2 p1 p2))).length = l.length ↔ (l.map (c.spM (p1, p2))).Nodup := by
  rw [← Cat.sp2_nd, ← setB_len, List.length_map]
theorem mem_iff_getD' {l : List (Int × Int)} {q : Int × Int} : q ∈ l ↔ ∃ j, j < l.length ∧ l.getD j (0, 0) = q := by
  constructor
  · intro h
    obtain ⟨j, hj, e⟩ := List.mem_iff_getElem.1 h
    exact ⟨j, hj, by rw [List.getD_eq_getElem?_getD, List.getElem?_eq_getElem hj]; exact e⟩
  · rintro ⟨j, hj, rfl⟩
    exact getD_mem_list hj
theorem Cat.spL_rg {c : Cat} {s : Spn} (hS : c.Shape) {z : Nat} {q : Int × Int} (h : q ∈ c.spL s z) : 0 ≤ q.1 ∧ q.1 < c.src.length ∧ 0 ≤ q.2 ∧ q.2 < c.src.length := by
  obtain ⟨h1, _, h3⟩ := Cat.mem_spL.1 h
  obtain ⟨a, a1, _, _, a4⟩ := Cat.mem_hom.1 h1
  by_cases ha : s.alone = true
  · rw [if_pos ha] at h3
    omega
  · rw [if_neg ha] at h3
    obtain ⟨b, b1, _, _, b4⟩ := Cat.mem_hom.1 h3
    omega
structure Spns3 (P : Program) (TS T0 : TypeId) (c : Cat) (gc : Nat) (p : CatP) (H : GHeap) (gs : List Nat) (ss : List Spn) (us : List Nat) (es : List Spn) (ws : List Nat) (ps : List Spn) : Prop where
  a : SpnsAt P TS T0 c gc p H gs ss
  b : SpnsAt P TS T0 c gc p H us es
  d : SpnsAt P TS T0 c gc p H ws ps
  ac : ∀ s ∈ ss, c.SpC s
  bc : ∀ s ∈ es, c.SpC s
  dc : ∀ s ∈ ps, c.SpC s
section
variable {P : Program} {TS T0 : TypeId} {c : Cat} {gc : Nat} {p : CatP} {H H' : GHeap} {gs us ws : List Nat} {ss es ps : List Spn} {g : Nat} {s : Spn}
end
end Go.GL
namespace Go.GL
def tripC (t : List Int) : Int := if t.isEmpty then 4 else 0
def trip (t : List Int) (k : Int) : Value := .tuple #[.int .i64 (t.getD 0 0), .int .i64 (t.getD 1 0), .int .i64 (t.getD 2 0), .int .i64 k]
theorem Cat.fst_is {c : Cat} {s : Spn} (hc : c.SpC s) (h : c.fstL s ≠ []) : ∃ (z : Nat) (p : Int × Int), (z : Int) < c.obj ∧ p ∈ c.spL s z ∧ c.fstL s = row3 z p ∧ c.SpU s z p := by
  unfold Cat.fstL Cat.firstL at h ⊢
  cases e : (c.sqL s).find? (c.okL (c.sqL s)) with
  | none => rw [e] at h; exact absurd rfl h
  | some t =>
    obtain ⟨z, hz, h2⟩ := mem_objsL.1 (List.mem_of_find?_eq_some e)
    obtain ⟨q, hq, rfl⟩ := List.mem_map.1 h2
    exact ⟨z, q, hz, hq, rfl, (Cat.spV_iff hc hq).1 ((Cat.okL_sq hc hq).1 (List.find?_some e))⟩
theorem one_of {α : Type} {l : List α} (h : l.length = 1) : ∃ x, x ∈ l ∧ ∀ y ∈ l, y = x := by
  match l, h with
  | [x], _ => exact ⟨x, List.mem_singleton.2 rfl, fun y hy => List.mem_singleton.1 hy⟩
theorem Cat.SpU.ex {c : Cat} {s : Spn} {z : Int} {p : Int × Int} (h : c.SpU s z p) {w : Nat} (hw : (w : Int) < c.obj) {q : Int × Int} (hq : q ∈ c.spL s w) : ∃ u ∈ c.hom w z, c.spM p u = q := by
  obtain ⟨x, hx, _⟩ := one_of (h.all w hw q hq)
  obtain ⟨h1, h2⟩ := List.mem_filter.1 hx
  exact ⟨x, h1, of_decide_eq_true h2⟩
theorem Cat.SpU.un {c : Cat} {s : Spn} {z : Int} {p : Int × Int} (h : c.SpU s z p) {w : Nat} (hw : (w : Int) < c.obj) {u v : Int} (hq : c.spM p u ∈ c.spL s w) (hu : u ∈ c.hom w z) (hv : v ∈ c.hom w z) (e : c.spM p v = c.spM p u) : u = v := by
  obtain ⟨x, _, hx⟩ := one_of (h.all w hw _ hq)
  rw [hx u (List.mem_filter.2 ⟨hu, decide_eq_true rfl⟩), hx v (List.mem_filter.2 ⟨hv, decide_eq_true e⟩)]
theorem filter_one {l : List Int} (hn : l.Nodup) {a : Int} (ha : a ∈ l) : (l.filter fun u => decide (u = a)).length = 1 :=
  (onto_iff (φ := fun u : Int => u) hn hn (fun _ h => h)).1 ⟨rfl, by simpa using hn⟩ a ha
theorem Cat.mono_hom {c : Cat} {f : Int} (h : c.Mono f) {w a b : Int} (ha : a ∈ c.hom w (c.S f)) (hb : b ∈ c.hom w (c.S f)) (e : c.th a f = c.th b f) : a = b := by
  obtain ⟨A, a1, a2, a3, rfl⟩ := Cat.mem_hom.1 ha
  obtain ⟨B', b1, b2, b3, rfl⟩ := Cat.mem_hom.1 hb
  rw [h.all A B' a1 b1 (by rw [a2, b2]) a3 b3 e]
theorem Cat.pull_mem {c : Cat} {f g w : Int} {p : Int × Int} : p ∈ c.spL (c.pull f g) w ↔ p.1 ∈ c.hom w (c.S f) ∧ p.2 ∈ c.hom w (c.S g) ∧ c.th p.1 f = c.th p.2 g := by
  rw [Cat.mem_spL, if_neg (show ¬ (c.pull f g).alone = true from Bool.false_ne_true)]
  show _ ∧ decide (c.th p.1 f = c.th p.2 g) = true ∧ _ ↔ _
  rw [decide_eq_true_eq]
  exact ⟨fun h => ⟨h.1, h.2.2, h.2.1⟩, fun h => ⟨h.1, h.2.2, h.2.1⟩⟩
theorem Cat.pull_ex {c : Cat} (hI : c.Is) {f : Nat} (hf : f < c.src.length) (hm : c.Mono f) : c.SpE (c.pull f f) := by
  have hS := hI.1
  have h0 := hS.src f hf
  have hil := hS.il
  have hid := hS.idn (c.src.getD f 0).toNat (by omega)
  have his := hS.ids (c.src.getD f 0).toNat (by omega)
  have eS : c.S (f : Int) = c.src.getD f 0 := by unfold Cat.S; rw [Int.toNat_natCast]
  obtain ⟨I, hIe⟩ : ∃ I : Nat, c.idn.getD (c.src.getD f 0).toNat 0 = (I : Int) := ⟨(c.idn.getD (c.src.getD f 0).toNat 0).toNat, by omega⟩
  rw [hIe, Int.toNat_natCast] at his
  rw [hIe] at hid
  have hz : (((c.src.getD f 0).toNat : Nat) : Int) = c.src.getD f 0 := by omega
  have hIm : (I : Int) ∈ c.hom ((c.src.getD f 0).toNat : Nat) (c.S f) := Cat.mem_hom.2 ⟨I, by omega, his.1, by rw [his.2, eS, hz], rfl⟩
  refine ⟨(c.src.getD f 0).toNat, by omega, ((I : Int), (I : Int)), Cat.pull_mem.2 ⟨hIm, hIm, rfl⟩, ⟨fun w hw q hq => ?_⟩⟩
  obtain ⟨q1, q2, q3⟩ := Cat.pull_mem.1 hq
  have e12 := Cat.mono_hom hm q1 q2 q3
  have q1' : q.1 ∈ c.hom w ((c.src.getD f 0).toNat : Nat) := by rw [hz, ← eS]; exact q1
  unfold Cat.spN
  rw [← filter_one (c.hom_nd _ _) q1']
  congr 1
  refine List.filter_congr fun u hu => decide_eq_decide.2 ?_
  obtain ⟨U, u1, u2, u3, rfl⟩ := Cat.mem_hom.1 hu
  have hui := (hI.2.ids U u1).2
  rw [u3, Int.toNat_natCast, hIe] at hui
  unfold Cat.spM
  rw [hui]
  exact ⟨fun e => (Prod.mk.inj e).1, fun e => Prod.ext e (e.trans e12)⟩
theorem Cat.kp_no {c : Cat} (hI : c.Is) {f : Nat} (hf : f < c.src.length) (h : c.fstL (c.pull f f) = []) : ¬ c.Mono f := fun hm => Cat.sq_first.2 (Cat.pull_ex hI hf hm) h
theorem Cat.kp_law {c : Cat} (hI : c.Is) {f : Nat} (hf : f < c.src.length) (h : c.fstL (c.pull f f) ≠ []) : c.Mono f ↔ (c.fstL (c.pull f f)).getD 1 0 = (c.fstL (c.pull f f)).getD 2 0 := by
  obtain ⟨z, p, hz, hp, e, hU⟩ := Cat.fst_is (Cat.pull_go hI hf hf) h
  rw [e]
  show _ ↔ p.1 = p.2
  obtain ⟨p1, p2, p3⟩ := Cat.pull_mem.1 hp
  constructor
  · intro hm
    exact Cat.mono_hom hm p1 p2 p3
  · intro e12
    refine ⟨fun g k hg hk es tg tk et => ?_⟩
    have hw := hI.1.src g hg
    obtain ⟨w, hwe⟩ : ∃ w : Nat, c.src.getD g 0 = (w : Int) := ⟨(c.src.getD g 0).toNat, by omega⟩
    obtain ⟨u, hu, hue⟩ := hU.ex (w := w) (by omega) (q := ((g : Int), (k : Int))) (Cat.pull_mem.2 ⟨Cat.mem_hom.2 ⟨g, hg, hwe, tg, rfl⟩, Cat.mem_hom.2 ⟨k, hk, by rw [← es, hwe], tk, rfl⟩, et⟩)
    have a1 := congrArg Prod.fst hue
    have a2 := congrArg Prod.snd hue
    unfold Cat.spM at a1 a2
    simp only at a1 a2
    rw [e12] at a1
    exact Int.ofNat.inj (a1.symm.trans a2)
theorem Cat.pull_across {c : Cat} (hI : c.Is) {f g : Nat} (hf : f < c.src.length) (hg : g < c.src.length) (h : c.fstL (c.pull f g) ≠ []) : ∃ (z P Q : Nat), c.fstL (c.pull f g) = [(z : Int), (P : Int), (Q : Int)] ∧ P < c.src.length ∧ Q < c.src.length ∧ c.th P f = c.th Q g ∧ (c.Mono f → c.Mono Q) := by
  obtain ⟨z, p, hz, hp, e, hU⟩ := Cat.fst_is (Cat.pull_go hI hf hg) h
  obtain ⟨p1, p2, p3⟩ := Cat.pull_mem.1 hp
  obtain ⟨P, P1, P2, P3, hP⟩ := Cat.mem_hom.1 p1
  obtain ⟨Q, Q1, Q2, Q3, hQ⟩ := Cat.mem_hom.1 p2
  have hpe : p = ((P : Int), (Q : Int)) := Prod.ext hP hQ
  refine ⟨z, P, Q, by rw [e, hpe]; rfl, P1, Q1, by rw [← hP, ← hQ]; exact p3, fun hm => ⟨fun u v hu hv es tu tv et => ?_⟩⟩
  have eSQ : c.S (Q : Int) = (z : Int) := by unfold Cat.S; rw [Int.toNat_natCast]; exact Q2
  have hw := hI.1.src u hu
  obtain ⟨w, hwe⟩ : ∃ w : Nat, c.src.getD u 0 = (w : Int) := ⟨(c.src.getD u 0).toNat, by omega⟩
  have hU1 : (u : Int) ∈ c.hom w z := Cat.mem_hom.2 ⟨u, hu, hwe, by rw [tu, eSQ], rfl⟩
  have hV1 : (v : Int) ∈ c.hom w z := Cat.mem_hom.2 ⟨v, hv, by rw [← es, hwe], by rw [tv, eSQ], rfl⟩
  have gu := (Cat.pull_go hI hf hg).go w z p u hp hU1
  have hfs := Cat.hom_self hf
  have hgs := Cat.hom_self hg
  have e1 : c.th (c.th u p.1) f = c.th (c.th v p.1) f := by
    rw [Cat.hom_as hI hU1 p1 hfs, Cat.hom_as hI hV1 p1 hfs, p3, ← Cat.hom_as hI hU1 p2 hgs, ← Cat.hom_as hI hV1 p2 hgs, hQ, et]
  have e2 : c.th u p.1 = c.th v p.1 := Cat.mono_hom hm (Cat.hom_th hI.1 hU1 p1) (Cat.hom_th hI.1 hV1 p1) e1
  have e3 : (u : Int) = v := hU.un (w := w) (by omega) gu hU1 hV1 (by unfold Cat.spM; rw [e2, hQ, et])
  omega
noncomputable def Cat.pbC (c : Cat) (f g : Int) : Int := if c.code [f, g] = 0 then (if c.T f = c.T g then tripC (c.fstL (c.pull f g)) else 5) else c.code [f, g]
noncomputable def Cat.pbL (c : Cat) (f g : Int) : List Int := if c.code [f, g] = 0 ∧ c.T f = c.T g then c.fstL (c.pull f g) else []
theorem Cat.pb_err {c : Cat} {f g : Int} (h : c.code [f, g] ≠ 0) : c.pbC f g = c.code [f, g] ∧ c.pbL f g = [] := by
  unfold Cat.pbC Cat.pbL
  rw [if_neg h, if_neg fun q => h q.1]
  exact ⟨rfl, rfl⟩
theorem Cat.pb_st {c : Cat} {f g : Int} (h : c.code [f, g] = 0) (ht : ¬ c.T f = c.T g) : c.pbC f g = 5 ∧ c.pbL f g = [] := by
  unfold Cat.pbC Cat.pbL
  rw [if_pos h, if_neg ht, if_neg fun q => ht q.2]
  exact ⟨rfl, rfl⟩
theorem Cat.pb_ok {c : Cat} {f g : Int} (h : c.code [f, g] = 0) (ht : c.T f = c.T g) : c.pbC f g = tripC (c.fstL (c.pull f g)) ∧ c.pbL f g = c.fstL (c.pull f g) := by
  unfold Cat.pbC Cat.pbL
  rw [if_pos h, if_pos ht, if_pos ⟨h, ht⟩]
  exact ⟨rfl, rfl⟩
theorem Cat.code_cases (c : Cat) (xs : List Int) : c.code xs = 0 ∨ c.code xs = 1 ∨ c.code xs = 2 := by
  unfold Cat.code
  split
  · split
    · exact .inl rfl
    · exact .inr (.inr rfl)
  · exact .inr (.inl rfl)
theorem Cat.pb_in {c : Cat} {f g : Int} (h : c.pbC f g = 0 ∨ c.pbC f g = 4) : c.code [f, g] = 0 ∧ c.T f = c.T g := by
  by_cases h1 : c.code [f, g] = 0
  · by_cases h2 : c.T f = c.T g
    · exact ⟨h1, h2⟩
    · have := (Cat.pb_st h1 h2).1; omega
  · have := (Cat.pb_err h1).1
    have := c.code_cases [f, g]
    omega
theorem tripC_0 {t : List Int} : tripC t = 0 ↔ t ≠ [] := by unfold tripC; cases t <;> simp
theorem tripC_4 {t : List Int} (h : tripC t ≠ 0) : t = [] ∧ tripC t = 4 := by unfold tripC at h ⊢; cases t <;> simp_all
theorem Cat.pb_law {c : Cat} {f g : Int} (h : c.code [f, g] = 0) (ht : c.T f = c.T g) :
    c.code [f] = 0 ∧ c.code [f, f] = 0 ∧ (c.pbC f f = 0 → c.monoB f = decide ((c.pbL f f).getD 1 0 = (c.pbL f f).getD 2 0)) ∧ (c.pbC f f ≠ 0 → c.pbC f f = 4 ∧ c.monoB f = false) ∧
    (c.pbC f g = 0 → c.code [(c.pbL f g).getD 1 0] = 0 ∧ c.code [(c.pbL f g).getD 2 0] = 0 ∧ c.th ((c.pbL f g).getD 1 0) f = c.th ((c.pbL f g).getD 2 0) g ∧ (c.monoB f = true → c.monoB ((c.pbL f g).getD 2 0) = true)) := by
  obtain ⟨hI, ⟨f0, f1⟩, g0, g1⟩ := Cat.code_two.1 h
  obtain ⟨F, rfl⟩ : ∃ F : Nat, f = (F : Int) := ⟨f.toNat, by omega⟩
  obtain ⟨G, rfl⟩ : ∃ G : Nat, g = (G : Int) := ⟨g.toNat, by omega⟩
  have k1 : c.code [(F : Int)] = 0 := Cat.code_one.2 ⟨hI, f0, f1⟩
  have k2 : c.code [(F : Int), (F : Int)] = 0 := Cat.code_two.2 ⟨hI, ⟨f0, f1⟩, f0, f1⟩
  obtain ⟨a1, a2⟩ := Cat.pb_ok k2 rfl
  obtain ⟨b1, b2⟩ := Cat.pb_ok h ht
  refine ⟨k1, k2, fun q => ?_, fun q => ?_, fun q => ?_⟩
  · rw [a1, tripC_0] at q
    rw [a2, Cat.monoB_ok k1, Bool.eq_iff_iff, B_iff, decide_eq_true_eq]
    exact Cat.kp_law hI (by omega) q
  · rw [a1] at q ⊢
    obtain ⟨q1, q2⟩ := tripC_4 q
    exact ⟨q2, by rw [Cat.monoB_ok k1]; exact B_false (Cat.kp_no hI (by omega) q1)⟩
  · rw [b1, tripC_0] at q
    obtain ⟨z, P, Q, e, P1, Q1, hPQ, hm⟩ := Cat.pull_across hI (by omega) (by omega) q
    rw [b2, e]
    have kQ : c.code [(Q : Int)] = 0 := Cat.code_one.2 ⟨hI, by omega, by omega⟩
    refine ⟨Cat.code_one.2 ⟨hI, by show 0 ≤ (P : Int); omega, by show (P : Int) < _; omega⟩, kQ, hPQ, fun m => ?_⟩
    rw [Cat.monoB_ok k1, B_iff] at m
    show c.monoB (Q : Int) = true
    rw [Cat.monoB_ok kQ]
    exact B_true (hm m)
def DrawnT (TS : TypeId) (gS : Nat) (H : GHeap) (v : Value) (H' : GHeap) : Prop := ∃ c p f k, v = .tuple #[.agg (Cat.cells c p).toArray, .int .i64 f, .int .i64 k] ∧ c.Small ∧ KIn H.next H' c p ∧ I64 f ∧ I64 k ∧ St [gS] H H' ∧ DSrc TS H' gS
def NewT (H : GHeap) (v : Value) (H' : GHeap) : Prop := H.Le H' ∧ ∃ c p f k, v = .tuple #[.agg (Cat.cells c p).toArray, .int .i64 f, .int .i64 k] ∧ c.Small ∧ KIn H.next H' c p ∧ I64 f ∧ I64 k
theorem I64.tmod {a n : Int} (h : 0 < n) (hn : n ≤ 1048576) (ha : 0 ≤ a) : I64 (a.tmod n) := by
  have h1 := Int.tmod_nonneg n ha
  have h2 := Int.tmod_lt_of_pos a h
  exact ⟨by omega, by omega⟩
theorem Cat.pull_goI {c : Cat} (hI : c.Is) {f g : Int} (hf : 0 ≤ f ∧ f < c.src.length) (hg : 0 ≤ g ∧ g < c.src.length) : c.SpC (c.pull f g) := by
  obtain ⟨F, rfl⟩ : ∃ F : Nat, f = (F : Int) := ⟨f.toNat, by omega⟩
  obtain ⟨G, rfl⟩ : ∃ G : Nat, g = (G : Int) := ⟨g.toNat, by omega⟩
  exact Cat.pull_go hI (by omega) (by omega)
theorem Cat.fst_len (c : Cat) (s : Spn) : c.fstL s = [] ∨ (c.fstL s).length = 3 := by
  rcases Cat.fst_form c s with e | ⟨z, q, _, _, e⟩
  · exact .inl e
  · rw [e]; exact .inr rfl
end Go.GL
namespace Go.Proofs.Ytjdedelneppnlaa
open Go Go.GL Go.RowKit Go.Proofs
theorem l02Arrow_c {c : Cat} {p : CatP} {k : Int} {H : GHeap} (hin : c.In H p := by assumption) (hs : c.Small := by assumption) :
    GCalls Try.prog 111 [.agg (c.cells p).toArray, .int .i64 k] H (Ret (.bool (decide (0 ≤ k) && decide (k < c.src.length))) H) := by
  refine GCalls.ret rfl ?_
  refine GCalls.body (N := 14) (rs := [.tmp 4]) Try.func111 rfl rfl rfl rfl (fun Qx hret hend => ?_)
  refine .fg [0, 1] rfl ?_
  have hle := GHeap.Le.refl H
  have base_hin := hin
  refine .seq (fun K1 hK1 => .region ?_)
  refine .R rfl (.boxR rfl sz_29_D rfl) ?_
  rintro _ H2 ⟨g2, rfl, le2, ge2, at2⟩
  replace hle := hle.trans le2
  replace hin := base_hin.mono hle
  have hb2 : Cat.At _ g2 0 c p := ⟨Mem.of_get at2, hin⟩
  obtain ⟨-, c12, -, -, -, -, -, -, -⟩ := hb2.get
  refine .mv rfl (.nil (hK1 _ _ (.seq (fun K2 hK2 => .region (.mv rfl (.q rfl (.cmp rfl rfl rfl) (.mv rfl ?_)))))))
  refine .split (fun h7 => ?_) (fun h7 => ?_)
  ·
   simp only [sps] at h7
   refine .qg rfl (.move rfl) (.qg rfl (.fieldAddr fo_29_1_B rfl) ?_)
   refine .qg rfl (.load on_22_B rfl (by first | assumption | exact Mem.of_get at2 1 _ rfl)) ?_
   refine .qg rfl (.len sl_22_A rfl) (.qg rfl (.cmp rfl rfl rfl) (.q rfl (.pickT rfl rfl) (.mv rfl (.nil (hK2 _ _ ?_)))))
   refine .ret ?_
   refine hret _ _ ?_
   refine ⟨_, rfl, ?_⟩
   first
   | exact ⟨by rw [decide_eq_true h7, Bool.true_and], hle⟩
   | exact ⟨by rw [decide_eq_false (by omega), Bool.false_and], hle⟩
  simp only [sps] at h7
  refine .z rfl (.z rfl (.z rfl (.z rfl (.z rfl (.q rfl (.pickF rfl rfl) (.mv rfl (.nil (hK2 _ _ ?_))))))))
  refine .ret ?_
  refine hret _ _ ?_
  refine ⟨_, rfl, ?_⟩
  first
  | exact ⟨by rw [decide_eq_true h7, Bool.true_and], hle⟩
  | exact ⟨by rw [decide_eq_false (by omega), Bool.false_and], hle⟩
set_option maxHeartbeats 8000000 in
theorem l13ArrowsT_c {gS : Nat} {H : GHeap} (hs : DSrc 120 H gS := by assumption) :
    GCalls Try.prog 65 [.pointer (some ⟨gS, 0, none⟩), .bool false, .bool true] H (DrawnT 120 gS H) := by
  have hlS := hs.lt
  refine GCalls.body (N := 91) (rs := [.cell 6 29, .tmp 7, .tmp 8]) Try.func65 rfl rfl rfl rfl (fun Qx hret hend => ?_)
  refine .fg [0, 1, 2] rfl ?_
  have hst := St.refl [gS] H
  refine .seq (fun K1 hK1 => .region ?_)
  refine .R rfl (.allocR rfl ze_29_Hj rfl) ?_
  rintro _ H6 ⟨g6, rfl, le6, ge6, at6⟩
  have nx_H6 := le6.1
  replace hst := hst.le le6
  have lt_at6 := GHeap.ltg at6
  refine .mv rfl (.mv rfl (.nil (hK1 _ _ (.seq (fun K2 hK2 => .region ?_)))))
  have hs := hs.le le6
  refine .mv rfl ?_
  refine .call rfl rfl rfl rfl @Try.call52 rfl (l13Draw_c) ?_
  rintro _ H15 ⟨c15, p15, rfl, sm15, v15, st15, hs⟩
  have nx_H15 := st15.nx
  replace hst := hst.sA st15
  have ne_g6_gS : NE g6 gS := .a
  replace at6 := st15.s at6 ne_g6_gS.ne
  have bs_v15 := v15
  have lv_v15 : Keep H6.next H15 H15 := fun _ _ _ h => h
  refine .R rfl (.allocR rfl ze_29_Hj rfl) ?_
  rintro _ H9 ⟨g9, rfl, le9, ge9, at9⟩
  replace hst := hst.le le9
  replace hs := hs.le le9
  replace at6 := le9.2 _ _ at6
  replace lv_v15 := Keep.le lv_v15 le9
  refine .r0 rfl rfl (.fillA rfl sz_29_D rfl rfl rfl rfl) ?_
  rintro _ H1003 ⟨rfl, st1003, at1003⟩
  replace hst := hst.sA st1003
  replace hs := hs.sA st1003
  replace at6 := st1003.s at6
  replace lv_v15 := Keep.st lv_v15 st1003 (fun k hb hk => ⟨(by omega), trivial⟩)
  refine .nil (hK2 _ _ (.seq (fun K3 hK3 => .region ?_)))
  obtain ⟨n1, -, -, -, -, -⟩ := id sm15
  refine .q rfl (.fieldAddr fo_29_1_B rfl) ?_
  refine .q rfl (.load on_22_B rfl (by first | assumption | exact Mem.of_get at1003 1 _ rfl)) ?_
  refine .q rfl (.len sl_22_A rfl) (.mv rfl (.nil (hK3 _ _ (.seq (fun K4 hK4 => .region (.mv rfl (.mv rfl ?_)))))))
  refine .call rfl rfl rfl rfl @Try.call53 rfl (l02Number_c) ?_
  rintro _ H21 ⟨k21, rfl, b21, st21, hs⟩
  replace hst := hst.sA st21
  replace at6 := st21.s at6 ne_g6_gS.ne
  have ne_g9_gS : NE g9 gS := .a
  replace at1003 := st21.s at1003 ne_g9_gS.ne
  replace lv_v15 := Keep.st lv_v15 st21 (fun k hb hk => ⟨(by omega), trivial⟩)
  refine .mv rfl (.mv rfl ?_)
  refine .call rfl rfl rfl rfl @Try.call53 rfl (l02Number_c) ?_
  rintro _ H24 ⟨k24, rfl, b24, st24, hs⟩
  replace hst := hst.sA st24
  replace at6 := st24.s at6 ne_g6_gS.ne
  replace at1003 := st24.s at1003 ne_g9_gS.ne
  replace lv_v15 := Keep.st lv_v15 st24 (fun k hb hk => ⟨(by omega), trivial⟩)
  refine .mv rfl (.mv rfl (.nil (hK4 _ _ (.seq (fun K5 hK5 => .seq (fun K6 hK6 => .region (.mv rfl (.nil (hK6 _ _ ?_)))))))))
  refine .block ?_
  refine .loopR (σ := Nat × Int) [(0, some _), (1, some _), (2, some _), (6, some _), (9, some _), (10, some _), (11, some _)] (fun (k, q) => [(13, some (.int .i64 (k : Int))), (12, some (.int .i64 q))]) (fun (k, q) H' => St [gS] H24 H' ∧ k ≤ c15.src.length ∧ I64 q ∧ DSrc 120 H' gS) (fun (k, q) => c15.src.length - k) ((0, _)) ⟨rfl, rfl, rfl, rfl, rfl, rfl, rfl, trivial⟩ ⟨rfl, rfl, trivial⟩ ?_ ?_
  ·
   refine ⟨.refl _ _, ?_⟩
   exact ⟨by omega, b24, hs⟩
  rintro ⟨k, q⟩ HL1 ⟨lst1, hI⟩ KL1 hKL1
  refine .forget (fr' := [(13, some (.int .i64 (k : Int))), (12, some (.int .i64 q)), (0, some _), (1, some _), (2, some _), (6, some _), (9, some _), (10, some _), (11, some _)]) ⟨rfl, rfl, rfl, rfl, rfl, rfl, rfl, rfl, rfl, trivial⟩ ?_
  replace hst := hst.sA lst1
  replace at6 := lst1.s at6 ne_g6_gS.ne
  replace at1003 := lst1.s at1003 ne_g9_gS.ne
  replace lv_v15 := Keep.st lv_v15 lst1 (fun k hb hk => ⟨(by omega), trivial⟩)
  replace v15 := bs_v15.keep lv_v15 (Nat.le_refl _)
  have i15 := v15.inn
  obtain ⟨-, hq, hs⟩ := hI
  refine .seq (fun K7 hK7 => .seq (fun K8 hK8 => .region (.mv rfl (.mv rfl (.q rfl (.cmp rfl rfl rfl) (.mv rfl ?_))))))
  refine .split (fun h28 => ?_) (fun h28 => ?_)
  ·
   simp only [sps] at h28
   refine .qg rfl (.loadM ag_29_D rfl ⟨rfl, Mem.of_get at1003⟩) ?_
   refine .callQg rfl rfl rfl rfl rfl rfl @Try.call41 rfl (l02Is_c) ?_
   refine .q rfl (.pickT rfl rfl) (.mv rfl ?_)
   refine .split (fun h32 => ?_) (fun h32 => ?_)
   ·
    simp only [sps] at h32
    have htl := h32.1.tl
    refine .qg rfl (.loadM ag_29_D rfl ⟨rfl, Mem.of_get at1003⟩) ?_
    refine .qg rfl (.move rfl) ?_
    refine .callQg rfl rfl rfl rfl rfl rfl @Try.call111 rfl (l02Arrow_c) ?_
    refine .q rfl (.pickT rfl rfl) (.mv rfl ?_)
    refine .split (fun h37 => ?_) (fun h37 => ?_)
    ·
     simp only [sps] at h37
     refine .qg rfl (.loadM ag_29_D rfl ⟨rfl, Mem.of_get at1003⟩) ?_
     refine .qg rfl (.move rfl) ?_
     refine .callQg rfl rfl rfl rfl rfl rfl @Try.call111 rfl (l02Arrow_c) ?_
     refine .q rfl (.pickT rfl rfl) (.mv rfl ?_)
     refine .split (fun h42 => ?_) (fun h42 => ?_)
     ·
      simp only [sps] at h42
      refine .qg rfl (.move rfl) ?_
      refine .callg rfl rfl rfl rfl rfl rfl @Try.call70 rfl (l01Next_c) ?_
      rintro _ H44 ⟨k44, rfl, ka44, kb44, kc44, st44, hs⟩
      replace hst := hst.sA st44
      replace lst1 := lst1.sA st44
      replace at6 := st44.s at6 ne_g6_gS.ne
      replace at1003 := st44.s at1003 ne_g9_gS.ne
      replace lv_v15 := Keep.st lv_v15 st44 (fun k hb hk => ⟨(by omega), trivial⟩)
      replace v15 := bs_v15.keep lv_v15 (Nat.le_refl _)
      clear i15
      have i15 := v15.inn
      refine .qg rfl (.cmp rfl rfl rfl) (.q rfl (.pickT rfl rfl) (.nil (hK8 _ _ ?_)))
      refine .cond rfl (fun h46 => ?_) (fun h46 => ?_)
      ·
       simp only [sps] at h46
       refine .skip ?_
       refine hK7 _ _ (.seq (fun K9 hK9 => ?_))
       refine .block ?_
       refine .seq (fun K10 hK10 => .seq (fun K11 hK11 => ?_))
       refine .regionD mo_B (.q 0 (.q 1 (.q 2 (.q 3 (.q 4 (.q 5 (.q 6 (.q 7 (.q 8 (.q 9 (.q 10 (.q 11 (.q 12 (.q 13 (.q 14 (.q 15 (.q 16 (.q 17 (.q 18 (.q 19 (.q 20 (.q 21 (.q 22 (.q 23 (.q 24 (.q 25 (.q 26 (.q 27 (.q 28 (.q 29 (.q 30 (.q 31 (.done))))))))))))))))))))))))))))))))) (by kernel_rfl) ?_
       refine .mv rfl rfl (.q rfl (.not rfl) (.mv rfl rfl (.z rfl (.z rfl (.z rfl (.z rfl (.z rfl (.z rfl (.z rfl (.z rfl (.z rfl (.z rfl (.z rfl (.q rfl (.pickT rfl rfl) (.mv rfl rfl ?_)))))))))))))))
       refine .qg rfl (.move rfl) (.qg rfl (.not rfl) (.qg rfl (.move rfl) (.qg rfl (.fieldAddr fo_29_2_B rfl) ?_)))
       refine .qg rfl (.load on_22_B rfl (by first | assumption | exact Mem.of_get at1003 2 _ rfl)) ?_
       obtain ⟨-, u2, -, -⟩ := id i15
       refine .qg rfl (.move rfl) ?_
       refine .qg rfl (.idx1 sl_22_A (by assumption) rfl rfl (by omega) (by omega)) ?_
       refine .qg rfl (.loadI on_2_A (by assumption) rfl (by omega)) ?_
       obtain ⟨-, u2, -, -⟩ := id i15
       refine .qg rfl (.fieldAddr fo_29_2_B rfl) ?_
       refine .qg rfl (.load on_22_B rfl (by first | assumption | exact Mem.of_get at1003 2 _ rfl)) ?_
       refine .qg rfl (.move rfl) ?_
       refine .qg rfl (.idx1 sl_22_A (by assumption) rfl rfl (by omega) (by omega)) ?_
       refine .qg rfl (.loadI on_2_A (by assumption) rfl (by omega)) ?_
       refine .qg rfl (.cmp rfl rfl rfl) (.qg rfl (.pickF rfl rfl) (.q rfl (.pickT rfl rfl) ?_))
       refine .done ?_
       refine hK11 _ _ ?_
       refine .cond rfl (fun h80 => ?_) (fun h80 => ?_)
       ·
        try simp only [sps] at h80
        refine .seq (fun K12 hK12 => .region ?_)
        refine .q rfl (.loadM ag_29_D rfl ⟨rfl, Mem.of_get at1003⟩) ?_
        refine .mv rfl (.mv rfl ?_)
        refine .r0 rfl rfl (.fillA rfl sz_29_D rfl rfl rfl rfl) ?_
        rintro _ H8003 ⟨rfl, st8003, at8003⟩
        replace hst := hst.sA st8003
        replace hs := hs.sA st8003
        replace lv_v15 := Keep.st lv_v15 st8003 (fun k hb hk => ⟨(by omega), trivial⟩)
        replace v15 := bs_v15.keep lv_v15 (Nat.le_refl _)
        clear i15
        refine .mv rfl (.mv rfl (.nil (hK12 _ _ ?_)))
        refine .ret ?_
        refine hret _ _ ?_
        refine ⟨_, _, _, _, _, _, rfl, ag_29_D, (by rfl), (Mem.of_get at8003), rfl, rfl, ?_⟩
        exact ⟨c15, p15, _, _, rfl, sm15, v15.keep (.of_le (.refl _)) (by omega), b21, by first | assumption | exact b24, hst, hs⟩
       try simp only [sps] at h80
       refine .skip ?_
       refine hK10 _ _ (.region (.mv rfl ?_))
       refine .q rfl (.add rfl rfl rfl (by omega) (by omega)) ?_
       refine .mv rfl ?_
       refine .q rfl (.rem rfl rfl (by omega)) ?_
       refine .mv rfl (.nil (hK9 _ _ (.region (.mv rfl ?_))))
       refine .q rfl (.add rfl rfl rfl (by omega) (by omega)) ?_
       refine .mv rfl (.nil ?_)
       refine hKL1 ((k + 1, _)) _ _ ?_ ?_ ⟨rfl, rfl, rfl, rfl, rfl, rfl, rfl, rfl, rfl, trivial⟩
       ·
        refine ⟨lst1, ?_⟩
        exact ⟨by omega, I64.tmod (by omega) (by omega) (by omega), hs⟩
       (dsimp only; omega)
      simp only [sps] at h46
      refine .exit ?_
      refine hK5 _ _ (.seq (fun K13 hK13 => .region ?_))
      refine .q rfl (.loadM ag_29_D rfl ⟨rfl, Mem.of_get at1003⟩) ?_
      refine .mv rfl (.mv rfl ?_)
      refine .r0 rfl rfl (.fillA rfl sz_29_D rfl rfl rfl rfl) ?_
      rintro _ H10003 ⟨rfl, st10003, at10003⟩
      replace hst := hst.sA st10003
      replace hs := hs.sA st10003
      replace lv_v15 := Keep.st lv_v15 st10003 (fun k hb hk => ⟨(by omega), trivial⟩)
      replace v15 := bs_v15.keep lv_v15 (Nat.le_refl _)
      refine .mv rfl (.mv rfl (.nil (hK13 _ _ ?_)))
      refine .ret ?_
      refine hret _ _ ?_
      refine ⟨_, _, _, _, _, _, rfl, ag_29_D, (by rfl), (Mem.of_get at10003), rfl, rfl, ?_⟩
      exact ⟨c15, p15, _, _, rfl, sm15, v15.keep (.of_le (.refl _)) (by omega), b21, by first | assumption | exact b24, hst, hs⟩
     simp only [sps] at h42
     refine .z rfl (.z rfl (.z rfl (.q rfl (.pickF rfl rfl) (.nil (hK8 _ _ ?_)))))
     refine .condF rfl ?_
     refine .exit ?_
     refine hK5 _ _ (.seq (fun K14 hK14 => .region ?_))
     refine .q rfl (.loadM ag_29_D rfl ⟨rfl, Mem.of_get at1003⟩) ?_
     refine .mv rfl (.mv rfl ?_)
     refine .r0 rfl rfl (.fillA rfl sz_29_D rfl rfl rfl rfl) ?_
     rintro _ H10003x2 ⟨rfl, st10003x2, at10003x2⟩
     replace hst := hst.sA st10003x2
     replace hs := hs.sA st10003x2
     replace lv_v15 := Keep.st lv_v15 st10003x2 (fun k hb hk => ⟨(by omega), trivial⟩)
     replace v15 := bs_v15.keep lv_v15 (Nat.le_refl _)
     refine .mv rfl (.mv rfl (.nil (hK14 _ _ ?_)))
     refine .ret ?_
     refine hret _ _ ?_
     refine ⟨_, _, _, _, _, _, rfl, ag_29_D, (by rfl), (Mem.of_get at10003x2), rfl, rfl, ?_⟩
     exact ⟨c15, p15, _, _, rfl, sm15, v15.keep (.of_le (.refl _)) (by omega), b21, by first | assumption | exact b24, hst, hs⟩
    simp only [sps] at h37
    refine .z rfl (.z rfl (.z rfl (.q rfl (.pickF rfl rfl) (.mv rfl (.z rfl (.z rfl (.z rfl (.q rfl (.pickF rfl rfl) (.nil (hK8 _ _ ?_))))))))))
    refine .condF rfl ?_
    refine .exit ?_
    refine hK5 _ _ (.seq (fun K15 hK15 => .region ?_))
    refine .q rfl (.loadM ag_29_D rfl ⟨rfl, Mem.of_get at1003⟩) ?_
    refine .mv rfl (.mv rfl ?_)
    refine .r0 rfl rfl (.fillA rfl sz_29_D rfl rfl rfl rfl) ?_
    rintro _ H10003x3 ⟨rfl, st10003x3, at10003x3⟩
    replace hst := hst.sA st10003x3
    replace hs := hs.sA st10003x3
    replace lv_v15 := Keep.st lv_v15 st10003x3 (fun k hb hk => ⟨(by omega), trivial⟩)
    replace v15 := bs_v15.keep lv_v15 (Nat.le_refl _)
    refine .mv rfl (.mv rfl (.nil (hK15 _ _ ?_)))
    refine .ret ?_
    refine hret _ _ ?_
    refine ⟨_, _, _, _, _, _, rfl, ag_29_D, (by rfl), (Mem.of_get at10003x3), rfl, rfl, ?_⟩
    exact ⟨c15, p15, _, _, rfl, sm15, v15.keep (.of_le (.refl _)) (by omega), b21, by first | assumption | exact b24, hst, hs⟩
   try simp only [sps] at h32
   refine .z rfl (.z rfl (.z rfl (.q rfl (.pickF rfl rfl) (.mv rfl (.z rfl (.z rfl (.z rfl (.q rfl (.pickF rfl rfl) (.mv rfl (.z rfl (.z rfl (.z rfl (.q rfl (.pickF rfl rfl) (.nil (hK8 _ _ ?_)))))))))))))))
   refine .condF rfl ?_
   refine .exit ?_
   refine hK5 _ _ (.seq (fun K16 hK16 => .region ?_))
   refine .q rfl (.loadM ag_29_D rfl ⟨rfl, Mem.of_get at1003⟩) ?_
   refine .mv rfl (.mv rfl ?_)
   refine .r0 rfl rfl (.fillA rfl sz_29_D rfl rfl rfl rfl) ?_
   rintro _ H10003x4 ⟨rfl, st10003x4, at10003x4⟩
   replace hst := hst.sA st10003x4
   replace hs := hs.sA st10003x4
   replace lv_v15 := Keep.st lv_v15 st10003x4 (fun k hb hk => ⟨(by omega), trivial⟩)
   replace v15 := bs_v15.keep lv_v15 (Nat.le_refl _)
   refine .mv rfl (.mv rfl (.nil (hK16 _ _ ?_)))
   refine .ret ?_
   refine hret _ _ ?_
   refine ⟨_, _, _, _, _, _, rfl, ag_29_D, (by rfl), (Mem.of_get at10003x4), rfl, rfl, ?_⟩
   exact ⟨c15, p15, _, _, rfl, sm15, v15.keep (.of_le (.refl _)) (by omega), b21, by first | assumption | exact b24, hst, hs⟩
  simp only [sps] at h28
  refine .z rfl (.z rfl (.q rfl (.pickF rfl rfl) (.mv rfl (.z rfl (.z rfl (.z rfl (.q rfl (.pickF rfl rfl) (.mv rfl (.z rfl (.z rfl (.z rfl (.q rfl (.pickF rfl rfl) (.mv rfl (.z rfl (.z rfl ?_)))))))))))))))
  refine .z rfl (.q rfl (.pickF rfl rfl) (.nil (hK8 _ _ ?_)))
  refine .condF rfl ?_
  refine .exit ?_
  refine hK5 _ _ (.seq (fun K17 hK17 => .region ?_))
  refine .q rfl (.loadM ag_29_D rfl ⟨rfl, Mem.of_get at1003⟩) ?_
  refine .mv rfl (.mv rfl ?_)
  refine .r0 rfl rfl (.fillA rfl sz_29_D rfl rfl rfl rfl) ?_
  rintro _ H10003x5 ⟨rfl, st10003x5, at10003x5⟩
  replace hst := hst.sA st10003x5
  replace hs := hs.sA st10003x5
  replace lv_v15 := Keep.st lv_v15 st10003x5 (fun k hb hk => ⟨(by omega), trivial⟩)
  replace v15 := bs_v15.keep lv_v15 (Nat.le_refl _)
  refine .mv rfl (.mv rfl (.nil (hK17 _ _ ?_)))
  refine .ret ?_
  refine hret _ _ ?_
  refine ⟨_, _, _, _, _, _, rfl, ag_29_D, (by rfl), (Mem.of_get at10003x5), rfl, rfl, ?_⟩
  exact ⟨c15, p15, _, _, rfl, sm15, v15.keep (.of_le (.refl _)) (by omega), b21, by first | assumption | exact b24, hst, hs⟩
theorem drawPullbackArrows_c {a : Option Addr} {xs : List Int} {H : GHeap} (hb : Bytes H a xs := by assumption) (hlt : ∀ b o t, a = some ⟨b, o, t⟩ → b < H.next := by assumption) (hx : xs.length ≤ 4096 := by omega) :
    GCalls Try.prog 23 [.slice a xs.length xs.length] H (NewT H) := by
  refine GCalls.body (N := 18) (rs := [.cell 2 29, .tmp 3, .tmp 4]) Try.func23 rfl rfl rfl rfl (fun Qx hret hend => ?_)
  refine .fg [0] rfl ?_
  have hle := GHeap.Le.refl H
  have base_hb := hb
  refine .seq (fun K1 hK1 => .region ?_)
  refine .R rfl (.allocR rfl ze_29_Hj rfl) ?_
  rintro _ H2 ⟨g2, rfl, le2, ge2, at2⟩
  replace hle := hle.trans le2
  have lt_at2 := GHeap.ltg at2
  replace hb := base_hb.mono hle
  refine .mv rfl (.mv rfl (.nil (hK1 _ _ (.seq (fun K2 hK2 => .region (.mv rfl ?_))))))
  refine .call rfl rfl rfl rfl @Try.call51 rfl (l01From_c (hlt := fun b o t e => by have := hlt b o t e; omega)) ?_
  rintro _ H10 ⟨le10, gS, rfl, ge10, hs⟩
  have hlS := hs.lt
  have nx_H10 := le10.1
  replace hle := hle.trans le10
  replace at2 := le10.2 _ _ at2
  refine .call rfl rfl rfl rfl @Try.call65 rfl (l13ArrowsT_c) ?_
  rintro _ H11 ⟨c11, p11, f11, k11, rfl, sm11, v11, bf11, bk11, st11, hs⟩
  have nx_H11 := st11.nx
  replace hle := hle.st st11 (fun k hk => ⟨by omega, trivial⟩)
  replace at2 := st11.s at2
  have bs_v11 := v11
  have lv_v11 : Keep H10.next H11 H11 := fun _ _ _ h => h
  refine .mv rfl (.q rfl (.extract rfl rfl) (.q rfl (.extract rfl rfl) (.q rfl (.extract rfl rfl) ?_)))
  refine .R rfl (.allocR rfl ze_29_Hj rfl) ?_
  rintro _ H5 ⟨g5, rfl, le5, ge5, at5⟩
  replace hle := hle.trans le5
  replace at2 := le5.2 _ _ at2
  replace lv_v11 := Keep.le lv_v11 le5
  refine .r0 rfl rfl (.fillA rfl sz_29_D rfl rfl rfl rfl) ?_
  rintro _ H1008 ⟨rfl, st1008, at1008⟩
  replace hle := hle.st st1008 (fun k hk => ⟨by omega, trivial⟩)
  replace at2 := st1008.s at2
  replace lv_v11 := Keep.st lv_v11 st1008 (fun k hb hk => ⟨(by omega), trivial⟩)
  refine .mv rfl (.mv rfl (.nil (hK2 _ _ (.seq (fun K3 hK3 => .region ?_)))))
  refine .q rfl (.loadM ag_29_D rfl ⟨rfl, Mem.of_get at1008⟩) ?_
  refine .mv rfl (.mv rfl ?_)
  refine .r0 rfl rfl (.fillA rfl sz_29_D rfl rfl rfl rfl) ?_
  rintro _ H2003 ⟨rfl, st2003, at2003⟩
  replace hle := hle.st st2003 (fun k hk => ⟨by omega, trivial⟩)
  replace lv_v11 := Keep.st lv_v11 st2003 (fun k hb hk => ⟨(by omega), trivial⟩)
  replace v11 := bs_v11.keep lv_v11 (Nat.le_refl _)
  refine .mv rfl (.mv rfl (.nil (hK3 _ _ ?_)))
  refine .ret ?_
  refine hret _ _ ?_
  refine ⟨_, _, _, _, _, _, rfl, ag_29_D, (by rfl), (Mem.of_get at2003), rfl, rfl, ?_⟩
  exact ⟨hle, c11, p11, f11, k11, rfl, sm11, v11.keep (.of_le (.refl _)) (by omega), bf11, bk11⟩
end Go.Proofs.Ytjdedelneppnlaa
namespace Go.Proofs.Ytjdedelneppnlaa
open Go Go.GL Go.RowKit Go.Proofs
set_option maxHeartbeats 4000000 in
theorem l13Maps_c {c : Cat} {p : CatP} {a b : Option Addr} {s t : List Int} {H : GHeap} (hin : c.In H p := by assumption) (hS : c.Shape := by assumption) (hx : Ints H a s) (hy : Ints H b t) (h1 : 1 ≤ s.length) (h2 : t.length = s.length) (hl : s.length ≤ 1000) (ht : ∀ i, 1 ≤ i → i < t.length → 0 ≤ t.getD i 0 ∧ t.getD i 0 < c.src.length) :
    GCalls Try.prog 128 [.agg (c.cells p).toArray, .slice a s.length s.length, .slice b t.length t.length] H (NewInts 2 H (c.mapsL s t)) := by
  rw [Cat.mapsL_eq]
  have q1 := hS.n40
  have q2 := Cat.hom_le c (s.getD 0 0) (t.getD 0 0)
  refine GCalls.body (N := 60) (rs := [.tmp 6]) Try.func128 rfl rfl rfl rfl (fun Qx hret hend => ?_)
  refine .fg [0, 1, 2] rfl ?_
  have hle := GHeap.Le.refl H
  have base_hin := hin
  have base_hx := hx
  have base_hy := hy
  refine .seq (fun K1 hK1 => .region ?_)
  refine .R rfl (.boxR rfl sz_29_D rfl) ?_
  rintro _ H3 ⟨g3, rfl, le3, ge3, at3⟩
  replace hle := hle.trans le3
  have lt_at3 := GHeap.ltg at3
  replace hin := base_hin.mono hle
  replace hx := base_hx.mono hle
  replace hy := base_hy.mono hle
  have hb3 : Cat.At _ g3 0 c p := ⟨Mem.of_get at3, hin⟩
  have hi3 := hb3.2
  refine .mv rfl (.nil (hK1 _ _ (.seq (fun K2 hK2 => ?_))))
  refine .regionD mo_B (.q 0 (.q 1 (.q 2 (.q 3 (.q 4 (.q 5 (.q 6 (.or (.c 7 0 (.q 9 (.c 8 1 (.q 10 (.done))))) (.c 8 1 (.c 7 1 (.q 9 (.q 10 (.done))))))))))))) (by kernel_rfl) ?_
  refine .cut [(0, some _), (1, some _), (2, some _), (3, some _), (6, some _)] ⟨rfl, rfl, rfl, rfl, rfl, trivial⟩ (fun rest fr' H' => ∃ (gH : Nat) (gO : Nat), Sub ((7, some (.slice (some ⟨gH, 0, none⟩) (c.hom (s.getD 0 0) (t.getD 0 0)).length (c.hom (s.getD 0 0) (t.getD 0 0)).length)) :: (8, some (.slice (some ⟨gO, 0, none⟩) 0 0)) :: rest) fr' ∧ H3.Le H' ∧ H'.get gH = some (.row (ints (c.hom (s.getD 0 0) (t.getD 0 0))) 2 true) ∧ H3.next ≤ gH ∧ H'.get gO = some (.row (ints []) 2 true) ∧ H3.next ≤ gO ∧ gH ≠ gO) ?_ ?_
  ·
   have hf0 := St.refl [] H3
   refine .q rfl (.loadM ag_29_D rfl ⟨rfl, Mem.of_get at3⟩) ?_
   refine .qB rfl (.refl _) (.move rfl) ?_
   refine .q rfl (.idxN (j := 0) sl_22_A (by assumption) rfl rfl (by omega)) ?_
   refine .q rfl (.loadI on_2_A (by assumption) rfl (by omega)) ?_
   refine .qB rfl (.refl _) (.move rfl) ?_
   refine .q rfl (.idxN (j := 0) sl_22_A (by assumption) rfl rfl (by omega)) ?_
   refine .q rfl (.loadI on_2_A (by assumption) rfl (by omega)) ?_
   refine .orI ?_ ?_
   ·
    refine .call0 rfl rfl rfl rfl rfl @Try.call127 rfl (l02Hom_c) ?_
    rintro _ H19 ⟨le19, g19, rfl, at19, ge19⟩
    replace hle := hle.trans le19
    replace hf0 := hf0.le le19
    replace at3 := le19.2 _ _ at3
    have lt_at19 := GHeap.ltg at19
    replace hin := base_hin.mono hle
    clear hb3 hi3
    have hb3 : Cat.At _ g3 0 c p := ⟨Mem.of_get at3, hin⟩
    refine .qB rfl (.refl _) (.assign rfl) ?_
    refine .c1 rfl rfl rfl rfl (.litA rfl sl_22_A ze_2_L rfl rfl rfl rfl) ?_
    rintro _ H20 ⟨g20, rfl, le20, ge20, at20⟩
    have hbl := le20
    refine ⟨hbl, ?_⟩
    replace hle := hle.trans le20
    replace hf0 := hf0.le le20
    replace at3 := le20.2 _ _ at3
    replace at19 := le20.2 _ _ at19
    replace hin := base_hin.mono hle
    clear hb3
    have hb3 : Cat.At _ g3 0 c p := ⟨Mem.of_get at3, hin⟩
    replace at20 : GHeap.get H20 g20 = some (.row (ints []) 2 true) := at20
    refine .qB rfl hbl (.assign rfl) ?_
    refine .done ?_
    exact ⟨_, _, ⟨rfl, rfl, rfl, rfl, rfl, rfl, rfl, trivial⟩, ⟨hf0.nx, fun k o h => hf0.same k o trivial h⟩, by assumption, by omega, by assumption, by omega, by omega⟩
   refine .c1 rfl rfl rfl rfl (.litA rfl sl_22_A ze_2_L rfl rfl rfl rfl) ?_
   rintro _ H20x2 ⟨g20x2, rfl, le20x2, ge20x2, at20x2⟩
   have hbl := le20x2
   refine ⟨hbl, ?_⟩
   replace hle := hle.trans le20x2
   replace hf0 := hf0.le le20x2
   replace at3 := le20x2.2 _ _ at3
   have lt_at20x2 := GHeap.ltg at20x2
   replace hin := base_hin.mono hle
   have hb3 : Cat.At _ g3 0 c p := ⟨Mem.of_get at3, hin⟩
   have hi3 := hb3.2
   replace at20x2 : GHeap.get H20x2 g20x2 = some (.row (ints []) 2 true) := at20x2
   refine .call1 rfl rfl rfl rfl rfl @Try.call127 rfl (l02Hom_c) ?_
   rintro _ H19x2 ⟨le19x2, g19x2, rfl, at19x2, ge19x2⟩
   replace hbl := hbl.trans le19x2
   refine ⟨hbl, ?_⟩
   replace hle := hle.trans le19x2
   replace hf0 := hf0.le le19x2
   replace at3 := le19x2.2 _ _ at3
   replace at20x2 := le19x2.2 _ _ at20x2
   replace hin := base_hin.mono hle
   clear hb3 hi3
   have hb3 : Cat.At _ g3 0 c p := ⟨Mem.of_get at3, hin⟩
   refine .qB rfl hbl (.assign rfl) (.qB rfl hbl (.assign rfl) ?_)
   refine .done ?_
   exact ⟨_, _, ⟨rfl, rfl, rfl, rfl, rfl, rfl, rfl, trivial⟩, ⟨hf0.nx, fun k o h => hf0.same k o trivial h⟩, by assumption, by omega, by assumption, by omega, by omega⟩
  rintro fr901 H901 ⟨gH1, gO1, hsub901, le901, atH, geH, at901, ge901, neHO⟩
  replace hle := hle.trans le901
  replace at3 := le901.2 _ _ at3
  have lt_atH := GHeap.ltg atH
  replace hin := base_hin.mono hle
  have hb3 : Cat.At _ g3 0 c p := ⟨Mem.of_get at3, hin⟩
  refine hK2 _ _ ?_
  refine .forget hsub901 ?_
  refine .seq (fun K3 hK3 => .seq (fun K4 hK4 => .region (.mv rfl (.nil (hK4 _ _ ?_)))))
  refine .block ?_
  refine .loopR (σ := Nat × Nat × Nat) [(1, some _), (2, some _), (3, some _), (7, some _)] (fun (k, gL8, nL8) => [(9, some (.int .i64 (k : Int))), (8, some (.slice (some ⟨gL8, 0, none⟩) nL8 nL8))]) (fun (k, gL8, nL8) H' => St [gO1] H901 H' ∧ H'.get gL8 = some (.row (ints (((c.hom (s.getD 0 0) (t.getD 0 0)).take k).filter (c.fitB s t))) 2 true) ∧ (gL8 = gO1 ∨ H901.next ≤ gL8) ∧ nL8 = (((c.hom (s.getD 0 0) (t.getD 0 0)).take k).filter (c.fitB s t)).length ∧ k ≤ (c.hom (s.getD 0 0) (t.getD 0 0)).length) (fun (k, gL8, nL8) => (c.hom (s.getD 0 0) (t.getD 0 0)).length - k) ((0, _, _)) ⟨rfl, rfl, rfl, rfl, trivial⟩ ⟨rfl, rfl, trivial⟩ ?_ ?_
  ·
   refine ⟨.refl _ _, by first | assumption | exact at901 | simpa using at901, .inl rfl, by first | rfl | assumption | simp | omega, ?_⟩
   omega
  rintro ⟨k, gL8, nL8⟩ HL1 ⟨lst1, at_L8, pl_L8, ln_L8, hI⟩ KL1 hKL1
  refine .forget (fr' := [(9, some (.int .i64 (k : Int))), (8, some (.slice (some ⟨gL8, 0, none⟩) nL8 nL8)), (1, some _), (2, some _), (3, some _), (7, some _)]) ⟨rfl, rfl, rfl, rfl, rfl, rfl, trivial⟩ ?_
  have ge_L8 : H.next ≤ gL8 := by omega
  have nx_HL1 := lst1.nx
  replace hle := hle.st lst1 (fun k hk => ⟨by omega, trivial⟩)
  replace at3 := lst1.s at3
  replace atH := lst1.s atH
  replace hin := base_hin.mono hle
  clear hb3
  have hb3 : Cat.At _ g3 0 c p := ⟨Mem.of_get at3, hin⟩
  have hfl := filt_le (c.hom (s.getD 0 0) (t.getD 0 0)) (c.fitB s t) k
  refine .seq (fun K5 hK5 => .seq (fun K6 hK6 => .region (.mv rfl (.mv rfl (.q rfl (.len sl_22_A rfl) (.q rfl (.cmp rfl rfl rfl) (.nil (hK6 _ _ ?_))))))))
  refine .cond rfl (fun h24 => ?_) (fun h24 => ?_)
  ·
   simp only [sps] at h24
   obtain ⟨u, u1, -, -, u4⟩ := Cat.hom_get (c := c) (x := s.getD 0 0) (y := t.getD 0 0) (i := k) (by omega)
   refine .skip ?_
   refine hK5 _ _ (.seq (fun K7 hK7 => ?_))
   refine .block ?_
   refine .seq (fun K8 hK8 => .region (.mv rfl (.nil (hK8 _ _ (.seq (fun K9 hK9 => .seq (fun K10 hK10 => .region (.mv rfl (.nil (hK10 _ _ ?_))))))))))
   refine .block ?_
   refine .loopR (σ := Nat × Bool) [(1, some _), (2, some _), (3, some _), (7, some _), (8, some _), (9, some _)] (fun (i, e) => [(11, some (.int .i64 (i : Int))), (10, some (.bool e))]) (fun (i, e) H' => St [] HL1 H' ∧ (1 ≤ i ∧ i ≤ s.length) ∧ e = allN (i - 1) fun i => decide (c.th ((c.hom (s.getD 0 0) (t.getD 0 0)).getD k 0) (t.getD (i + 1) 0) = s.getD (i + 1) 0)) (fun (i, e) => s.length - i) ((1, true)) ⟨rfl, rfl, rfl, rfl, rfl, rfl, trivial⟩ ⟨rfl, rfl, trivial⟩ ?_ ?_
   ·
    refine ⟨.refl _ _, ?_⟩
    exact ⟨⟨by omega, by omega⟩, rfl⟩
   rintro ⟨i, e⟩ HL2 ⟨lst2, hI⟩ KL2 hKL2
   refine .forget (fr' := [(11, some (.int .i64 (i : Int))), (10, some (.bool e)), (1, some _), (2, some _), (3, some _), (7, some _), (8, some _), (9, some _)]) ⟨rfl, rfl, rfl, rfl, rfl, rfl, rfl, rfl, trivial⟩ ?_
   have nx_HL2 := lst2.nx
   replace hle := hle.st lst2 (fun k hk => trivial)
   replace lst1 := lst1.sA lst2
   replace at3 := lst2.same _ _ trivial at3
   replace atH := lst2.same _ _ trivial atH
   replace at_L8 := lst2.same _ _ trivial at_L8
   replace hin := base_hin.mono hle
   replace hx := base_hx.mono hle
   replace hy := base_hy.mono hle
   clear hb3
   have hb3 : Cat.At _ g3 0 c p := ⟨Mem.of_get at3, hin⟩
   have hi3 := hb3.2
   obtain ⟨hi, he⟩ := hI
   refine .seq (fun K11 hK11 => .seq (fun K12 hK12 => .region (.mv rfl (.mv rfl ?_))))
   refine .split (fun h28 => ?_) (fun h28 => ?_)
   ·
    try simp only [sps] at h28
    refine .qg rfl (.move rfl) (.qg rfl (.move rfl) (.qg rfl (.len sl_22_A rfl) (.qg rfl (.cmp rfl rfl rfl) (.q rfl (.pickT rfl rfl) (.nil (hK12 _ _ ?_))))))
    refine .cond rfl (fun h33 => ?_) (fun h33 => ?_)
    ·
     try simp only [sps] at h33
     refine .skip ?_
     refine hK11 _ _ (.seq (fun K13 hK13 => ?_))
     refine .block ?_
     refine .regionD mo_B (.q 0 (.q 1 (.q 2 (.q 3 (.q 4 (.q 5 (.q 6 (.q 7 (.q 8 (.q 10 (.q 11 (.q 12 (.q 13 (.c 9 1 (.q 14 (.q 15 (.done))))))))))))))))) (by kernel_rfl) ?_
     have ht1 := ht i (by omega) (by omega)
     refine .q rfl (.loadM ag_29_D rfl ⟨rfl, Mem.of_get at3⟩) ?_
     refine .mv rfl rfl (.mv rfl rfl ?_)
     refine .q rfl (.idxN sl_22_A (by first | assumption | exact SlA.of_row atH (by first | rfl | (simp; done) | (simp <;> omega))) rfl rfl (by omega)) ?_
     refine .q rfl (.loadI on_2_A (by first | assumption | exact Ints.of_get atH) rfl (by omega)) ?_
     refine .mv rfl rfl (.mv rfl rfl ?_)
     refine .q rfl (.idxN sl_22_A (by assumption) rfl rfl (by omega)) ?_
     refine .q rfl (.loadI on_2_A (by assumption) rfl (by omega)) ?_
     refine .mv rfl rfl (.mv rfl rfl ?_)
     refine .q rfl (.idxN sl_22_A (by assumption) rfl rfl (by omega)) ?_
     refine .q rfl (.loadI on_2_A (by assumption) rfl (by omega)) ?_
     refine .callQ1 rfl rfl rfl rfl rfl @Try.call129 rfl (l02Then_c) (.refl _) ?_
     refine .q rfl (.cmp rfl rfl rfl) (.mv rfl rfl ?_)
     refine .done ?_
     refine hK13 _ _ (.region (.mv rfl ?_))
     refine .q rfl (.add rfl rfl rfl (by omega) (by omega)) ?_
     refine .mv rfl (.nil ?_)
     refine hKL2 ((i + 1, _)) _ _ ?_ ?_ ⟨rfl, rfl, rfl, rfl, rfl, rfl, rfl, rfl, trivial⟩
     ·
      refine ⟨lst2, ?_⟩
      refine ⟨⟨by omega, by omega⟩, ?_⟩
      obtain ⟨m, rfl⟩ : ∃ m, i = m + 1 := ⟨i - 1, by omega⟩
      rw [show m + 1 + 1 - 1 = m + 1 by omega, allN_succ, show allN m _ = true from (he.symm.trans h28), Bool.true_and]
      rw [Bool.eq_iff_iff]
      simp only [sps]
     (dsimp only; omega)
    try simp only [sps] at h33
    refine .exit ?_
    refine hK9 _ _ (.seq (fun K14 hK14 => .region (.mv rfl (.nil (hK14 _ _ ?_)))))
    refine .cond rfl (fun h51 => ?_) (fun h51 => ?_)
    ·
     have hT : c.fitB s t ((c.hom (s.getD 0 0) (t.getD 0 0)).getD k 0) = true := by
       obtain rfl : i = s.length := by first | omega | (rw [h51] at h28; cases h28)
       exact he.symm.trans h51
     refine .region (.mv rfl (.mv rfl (.mv rfl ?_)))
     refine .q rfl (.idxN sl_22_A (by first | assumption | exact SlA.of_row atH (by first | rfl | (simp; done) | (simp <;> omega))) rfl rfl (by omega)) ?_
     refine .q rfl (.loadI on_2_A (by first | assumption | exact Ints.of_get atH) rfl (by omega)) ?_
     refine .R rfl (.litA rfl sl_22_A ze_2_L rfl rfl rfl rfl) ?_
     rintro _ H57 ⟨g57, rfl, le57, ge57, at57⟩
     replace hle := hle.trans le57
     replace lst1 := lst1.le le57
     replace at3 := le57.2 _ _ at3
     replace at_L8 := le57.2 _ _ at_L8
     have lt_at57 := GHeap.ltg at57
     replace hin := base_hin.mono hle
     clear hb3 hi3
     have hb3 : Cat.At _ g3 0 c p := ⟨Mem.of_get at3, hin⟩
     refine .R rfl (.appendI rfl sl_22_A ze_2_L rfl by_2_L sl_22_A rfl rfl (by assumption) (by assumption) (by first | omega | (simp <;> omega)) (by omega) (by omega)) ?_
     rintro _ H58 ⟨g58, rfl, st58, ge58, at58⟩
     replace hle := hle.st st58 (fun k hk => ⟨by omega, trivial⟩)
     replace lst1 := lst1.sA st58
     have ne_g3_gL8 : NE g3 gL8 := .a
     replace at3 := st58.s at3 ne_g3_gL8.ne
     replace hin := base_hin.mono hle
     clear hb3
     have hb3 : Cat.At _ g3 0 c p := ⟨Mem.of_get at3, hin⟩
     refine .mv rfl (.nil (hK7 _ _ (.region (.mv rfl ?_))))
     refine .q rfl (.add rfl rfl rfl (by omega) (by omega)) ?_
     refine .mv rfl (.nil ?_)
     refine hKL1 ((k + 1, _, _)) _ _ ?_ ?_ ⟨rfl, rfl, rfl, rfl, rfl, rfl, trivial⟩
     ·
      refine ⟨lst1, by first | assumption | (rw [filt_T (by omega) (by assumption)]; assumption) | (rw [filt_F (by omega) (by assumption)]; assumption), by omega, by first | omega | (simp only [List.length_append, List.length_cons, List.length_nil] <;> omega) | (rw [filt_T (by omega) (by assumption)] <;> (first | omega | (simp only [List.length_append, List.length_cons, List.length_nil] <;> omega))) | (rw [filt_F (by omega) (by assumption)] <;> (first | omega | (simp only [List.length_append, List.length_cons, List.length_nil] <;> omega))), ?_⟩
      omega
     (dsimp only; omega)
    have hF : c.fitB s t ((c.hom (s.getD 0 0) (t.getD 0 0)).getD k 0) = false := allN_early (he.symm.trans h51) (by omega)
    refine .skip ?_
    refine hK7 _ _ (.region (.mv rfl ?_))
    refine .q rfl (.add rfl rfl rfl (by omega) (by omega)) ?_
    refine .mv rfl (.nil ?_)
    refine hKL1 ((k + 1, _, _)) _ _ ?_ ?_ ⟨rfl, rfl, rfl, rfl, rfl, rfl, trivial⟩
    ·
     refine ⟨lst1, by first | assumption | (rw [filt_T (by omega) (by assumption)]; assumption) | (rw [filt_F (by omega) (by assumption)]; assumption), by omega, by first | omega | (simp only [List.length_append, List.length_cons, List.length_nil] <;> omega) | (rw [filt_T (by omega) (by assumption)] <;> (first | omega | (simp only [List.length_append, List.length_cons, List.length_nil] <;> omega))) | (rw [filt_F (by omega) (by assumption)] <;> (first | omega | (simp only [List.length_append, List.length_cons, List.length_nil] <;> omega))), ?_⟩
     omega
    (dsimp only; omega)
   try simp only [sps] at h28
   refine .z rfl (.z rfl (.z rfl (.z rfl (.q rfl (.pickF rfl rfl) (.nil (hK12 _ _ ?_))))))
   refine .condF rfl ?_
   refine .exit ?_
   refine hK9 _ _ (.seq (fun K15 hK15 => .region (.mv rfl (.nil (hK15 _ _ ?_)))))
   refine .cond rfl (fun h51 => ?_) (fun h51 => ?_)
   ·
    have hT : c.fitB s t ((c.hom (s.getD 0 0) (t.getD 0 0)).getD k 0) = true := by
      obtain rfl : i = s.length := by first | omega | (rw [h51] at h28; cases h28)
      exact he.symm.trans h51
    refine .region (.mv rfl (.mv rfl (.mv rfl ?_)))
    refine .q rfl (.idxN sl_22_A (by first | assumption | exact SlA.of_row atH (by first | rfl | (simp; done) | (simp <;> omega))) rfl rfl (by omega)) ?_
    refine .q rfl (.loadI on_2_A (by first | assumption | exact Ints.of_get atH) rfl (by omega)) ?_
    refine .R rfl (.litA rfl sl_22_A ze_2_L rfl rfl rfl rfl) ?_
    rintro _ H57x2 ⟨g57x2, rfl, le57x2, ge57x2, at57x2⟩
    replace hle := hle.trans le57x2
    replace lst1 := lst1.le le57x2
    replace at3 := le57x2.2 _ _ at3
    replace at_L8 := le57x2.2 _ _ at_L8
    have lt_at57x2 := GHeap.ltg at57x2
    replace hin := base_hin.mono hle
    have hb3 : Cat.At _ g3 0 c p := ⟨Mem.of_get at3, hin⟩
    refine .R rfl (.appendI rfl sl_22_A ze_2_L rfl by_2_L sl_22_A rfl rfl (by assumption) (by assumption) (by first | omega | (simp <;> omega)) (by omega) (by omega)) ?_
    rintro _ H58x2 ⟨g58x2, rfl, st58x2, ge58x2, at58x2⟩
    replace hle := hle.st st58x2 (fun k hk => ⟨by omega, trivial⟩)
    replace lst1 := lst1.sA st58x2
    have ne_g3_gL8 : NE g3 gL8 := .a
    replace at3 := st58x2.s at3 ne_g3_gL8.ne
    replace hin := base_hin.mono hle
    clear hb3
    have hb3 : Cat.At _ g3 0 c p := ⟨Mem.of_get at3, hin⟩
    refine .mv rfl (.nil (hK7 _ _ (.region (.mv rfl ?_))))
    refine .q rfl (.add rfl rfl rfl (by omega) (by omega)) ?_
    refine .mv rfl (.nil ?_)
    refine hKL1 ((k + 1, _, _)) _ _ ?_ ?_ ⟨rfl, rfl, rfl, rfl, rfl, rfl, trivial⟩
    ·
     refine ⟨lst1, by first | assumption | (rw [filt_T (by omega) (by assumption)]; assumption) | (rw [filt_F (by omega) (by assumption)]; assumption), by omega, by first | omega | (simp only [List.length_append, List.length_cons, List.length_nil] <;> omega) | (rw [filt_T (by omega) (by assumption)] <;> (first | omega | (simp only [List.length_append, List.length_cons, List.length_nil] <;> omega))) | (rw [filt_F (by omega) (by assumption)] <;> (first | omega | (simp only [List.length_append, List.length_cons, List.length_nil] <;> omega))), ?_⟩
     omega
    (dsimp only; omega)
   have hF : c.fitB s t ((c.hom (s.getD 0 0) (t.getD 0 0)).getD k 0) = false := allN_early (he.symm.trans h51) (by omega)
   refine .skip ?_
   refine hK7 _ _ (.region (.mv rfl ?_))
   refine .q rfl (.add rfl rfl rfl (by omega) (by omega)) ?_
   refine .mv rfl (.nil ?_)
   refine hKL1 ((k + 1, _, _)) _ _ ?_ ?_ ⟨rfl, rfl, rfl, rfl, rfl, rfl, trivial⟩
   ·
    refine ⟨lst1, by first | assumption | (rw [filt_T (by omega) (by assumption)]; assumption) | (rw [filt_F (by omega) (by assumption)]; assumption), by omega, by first | omega | (simp only [List.length_append, List.length_cons, List.length_nil] <;> omega) | (rw [filt_T (by omega) (by assumption)] <;> (first | omega | (simp only [List.length_append, List.length_cons, List.length_nil] <;> omega))) | (rw [filt_F (by omega) (by assumption)] <;> (first | omega | (simp only [List.length_append, List.length_cons, List.length_nil] <;> omega))), ?_⟩
    omega
   (dsimp only; omega)
  try simp only [sps] at h24
  refine .exit ?_
  refine hK3 _ _ (.seq (fun K16 hK16 => .region (.mv rfl (.mv rfl (.nil (hK16 _ _ ?_))))))
  refine .ret ?_
  refine hret _ _ ?_
  refine ⟨_, rfl, ?_⟩
  obtain rfl : k = (c.hom (s.getD 0 0) (t.getD 0 0)).length := by omega
  obtain rfl := ln_L8
  rw [List.take_length] at at_L8
  rw [List.take_length]
  exact ⟨hle, gL8, rfl, at_L8, by omega⟩
set_option maxHeartbeats 4000000 in
theorem l13First_c {c : Cat} {p : CatP} {b : Option Addr} {r : Nat → Option Addr} {L : List (List Int)} {m : Nat} {H : GHeap} (hin : c.In H p := by assumption) (hS : c.Shape := by assumption) (hL : Intss H b L r) (hl : L.length ≤ 1048576) (hm : 1 ≤ m ∧ m ≤ 1000) (hr : ∀ k, k < L.length → (L.getD k []).length = m ∧ ∀ i, 1 ≤ i → i < m → 0 ≤ (L.getD k []).getD i 0 ∧ (L.getD k []).getD i 0 < c.src.length) :
    GCalls Try.prog 90 [.agg (c.cells p).toArray, .slice b L.length L.length] H (fun v H' => H.Le H' ∧ ∃ a, v = .slice a (c.firstL L).length (c.firstL L).length ∧ Ints H' a (c.firstL L)) := by
  refine GCalls.body (N := 41) (rs := [.tmp 4]) Try.func90 rfl rfl rfl rfl (fun Qx hret hend => ?_)
  refine .fg [0, 1] rfl ?_
  have hle := GHeap.Le.refl H
  have base_hin := hin
  have base_hL := hL
  refine .seq (fun K1 hK1 => .region ?_)
  refine .R rfl (.boxR rfl sz_29_D rfl) ?_
  rintro _ H2 ⟨g2, rfl, le2, ge2, at2⟩
  replace hle := hle.trans le2
  replace hin := base_hin.mono hle
  have hb2 : Cat.At _ g2 0 c p := ⟨Mem.of_get at2, hin⟩
  refine .mv rfl (.nil (hK1 _ _ (.seq (fun K2 hK2 => .seq (fun K3 hK3 => .region (.mv rfl (.nil (hK3 _ _ ?_))))))))
  refine .block ?_
  refine .loopR (σ := Nat) [(1, some _), (2, some _)] (fun i => [(5, some (.int .i64 (i : Int)))]) (fun i H' => St [] H2 H' ∧ i ≤ L.length ∧ ∀ j, j < i → c.okL L (L.getD j []) = false) (fun i => L.length - i) (0) ⟨rfl, rfl, trivial⟩ ⟨rfl, trivial⟩ ?_ ?_
  ·
   refine ⟨.refl _ _, ?_⟩
   exact ⟨by omega, fun j hj => by omega⟩
  rintro i HL1 ⟨lst1, hI⟩ KL1 hKL1
  refine .forget (fr' := [(5, some (.int .i64 (i : Int))), (1, some _), (2, some _)]) ⟨rfl, rfl, rfl, trivial⟩ ?_
  replace hle := hle.st lst1 (fun k hk => trivial)
  replace at2 := lst1.same _ _ trivial at2
  replace hin := base_hin.mono hle
  clear hb2
  have hb2 : Cat.At _ g2 0 c p := ⟨Mem.of_get at2, hin⟩
  obtain ⟨hi, hall⟩ := hI
  refine .seq (fun K4 hK4 => .seq (fun K5 hK5 => .region (.mv rfl (.mv rfl (.q rfl (.len sl_23_B rfl) (.q rfl (.cmp rfl rfl rfl) (.nil (hK5 _ _ ?_))))))))
  refine .cond rfl (fun h11 => ?_) (fun h11 => ?_)
  ·
   simp only [sps] at h11
   refine .skip ?_
   refine hK4 _ _ (.seq (fun K6 hK6 => ?_))
   refine .block ?_
   refine .seq (fun K7 hK7 => .region (.mv rfl (.nil (hK7 _ _ (.seq (fun K8 hK8 => .seq (fun K9 hK9 => .region (.mv rfl (.nil (hK9 _ _ ?_))))))))))
   refine .block ?_
   refine .loopR (σ := Nat × Bool) [(1, some _), (2, some _), (5, some _)] (fun (k, e) => [(7, some (.int .i64 (k : Int))), (6, some (.bool e))]) (fun (k, e) H' => St [] HL1 H' ∧ k ≤ L.length ∧ e = allN k fun k => decide ((c.mapsL (L.getD k []) (L.getD i [])).length = 1)) (fun (k, e) => L.length - k) ((0, true)) ⟨rfl, rfl, rfl, trivial⟩ ⟨rfl, rfl, trivial⟩ ?_ ?_
   ·
    refine ⟨.refl _ _, ?_⟩
    exact ⟨by omega, rfl⟩
   rintro ⟨k, e⟩ HL2 ⟨lst2, hI⟩ KL2 hKL2
   refine .forget (fr' := [(7, some (.int .i64 (k : Int))), (6, some (.bool e)), (1, some _), (2, some _), (5, some _)]) ⟨rfl, rfl, rfl, rfl, rfl, trivial⟩ ?_
   replace hle := hle.st lst2 (fun k hk => trivial)
   replace lst1 := lst1.sA lst2
   replace at2 := lst2.same _ _ trivial at2
   replace hin := base_hin.mono hle
   replace hL := base_hL.mono hle
   clear hb2
   have hb2 : Cat.At _ g2 0 c p := ⟨Mem.of_get at2, hin⟩
   have hi2 := hb2.2
   obtain ⟨hk, he⟩ := hI
   refine .seq (fun K10 hK10 => .seq (fun K11 hK11 => .region (.mv rfl (.mv rfl ?_))))
   refine .split (fun h15 => ?_) (fun h15 => ?_)
   ·
    try simp only [sps] at h15
    refine .qg rfl (.move rfl) (.qg rfl (.move rfl) (.qg rfl (.len sl_23_B rfl) (.qg rfl (.cmp rfl rfl rfl) (.q rfl (.pickT rfl rfl) (.nil (hK11 _ _ ?_))))))
    refine .cond rfl (fun h20 => ?_) (fun h20 => ?_)
    ·
     try simp only [sps] at h20
     refine .skip ?_
     refine hK10 _ _ (.seq (fun K12 hK12 => ?_))
     refine .block ?_
     refine .regionD mo_B (.q 0 (.q 1 (.q 2 (.q 3 (.q 4 (.q 5 (.q 6 (.q 7 (.q 8 (.c 9 0 (.q 10 (.q 11 (.q 12 (.done)))))))))))))) (by kernel_rfl) ?_
     refine .q rfl (.loadM ag_29_D rfl ⟨rfl, Mem.of_get at2⟩) ?_
     refine .mv rfl rfl (.mv rfl rfl ?_)
     refine .q rfl (.idxN sl_23_B (Intss.sl (by assumption)) rfl rfl (by omega)) ?_
     refine .q rfl (.loadR on_22_B (by assumption) rfl (by omega)) ?_
     refine .mv rfl rfl (.mv rfl rfl ?_)
     refine .q rfl (.idxN sl_23_B (Intss.sl (by assumption)) rfl rfl (by omega)) ?_
     refine .q rfl (.loadR on_22_B (by assumption) rfl (by omega)) ?_
     refine .call0 rfl rfl rfl rfl rfl @Try.call128 rfl (l13Maps_c (s := L.getD k []) (t := L.getD i []) (hx := hL.2 k (by omega)) (hy := hL.2 i (by omega)) (h1 := by rw [(hr k (by omega)).1]; omega) (h2 := by rw [(hr k (by omega)).1, (hr i (by omega)).1]) (hl := by rw [(hr k (by omega)).1]; omega) (ht := by rw [(hr i (by omega)).1]; exact (hr i (by omega)).2)) ?_
     rintro _ H32 ⟨le32, g32, rfl, at32, ge32⟩
     replace hle := hle.trans le32
     replace lst2 := lst2.le le32
     replace at2 := le32.2 _ _ at2
     replace hin := base_hin.mono hle
     clear hb2 hi2
     have hb2 : Cat.At _ g2 0 c p := ⟨Mem.of_get at2, hin⟩
     refine .q rfl (.len sl_22_A rfl) (.q rfl (.cmp rfl rfl rfl) (.mv rfl rfl ?_))
     refine .done ?_
     refine hK12 _ _ (.region (.mv rfl ?_))
     refine .q rfl (.add rfl rfl rfl (by omega) (by omega)) ?_
     refine .mv rfl (.nil ?_)
     refine hKL2 ((k + 1, _)) _ _ ?_ ?_ ⟨rfl, rfl, rfl, rfl, rfl, trivial⟩
     ·
      refine ⟨lst2, ?_⟩
      refine ⟨by omega, ?_⟩
      rw [allN_succ, show allN k _ = true from (he.symm.trans h15), Bool.true_and]
      rw [Bool.eq_iff_iff]
      simp only [sps]
      omega
     (dsimp only; omega)
    try simp only [sps] at h20
    refine .exit ?_
    refine hK8 _ _ (.seq (fun K13 hK13 => .region (.mv rfl (.nil (hK13 _ _ ?_)))))
    refine .cond rfl (fun h35 => ?_) (fun h35 => ?_)
    ·
     have hT : c.okL L (L.getD i []) = true := by
       rw [Cat.okL_eq]
       obtain rfl : k = L.length := by first | omega | (rw [h35] at h15; cases h15)
       exact he.symm.trans h35
     refine .seq (fun K14 hK14 => .region (.mv rfl (.mv rfl ?_)))
     refine .q rfl (.idxN sl_23_B (Intss.sl (by assumption)) rfl rfl (by omega)) ?_
     refine .q rfl (.loadR on_22_B (by assumption) rfl (by omega)) ?_
     refine .mv rfl (.nil (hK14 _ _ ?_))
     refine .ret ?_
     refine hret _ _ ?_
     refine ⟨_, rfl, ?_⟩
     have hf : c.firstL L = L.getD i [] := find_getD (by omega) hall hT
     rw [hf]
     exact ⟨hle, _, rfl, hL.2 i (by omega)⟩
    have hF : c.okL L (L.getD i []) = false := by
      rw [Cat.okL_eq]
      exact allN_early (he.symm.trans h35) hk
    refine .skip ?_
    refine hK6 _ _ (.region (.mv rfl ?_))
    refine .q rfl (.add rfl rfl rfl (by omega) (by omega)) ?_
    refine .mv rfl (.nil ?_)
    refine hKL1 (i + 1) _ _ ?_ ?_ ⟨rfl, rfl, rfl, trivial⟩
    ·
     refine ⟨lst1, ?_⟩
     refine ⟨by omega, fun j hj => ?_⟩
     by_cases e1 : j < i
     · exact hall j e1
     · obtain rfl : j = i := by omega
       exact hF
    omega
   try simp only [sps] at h15
   refine .z rfl (.z rfl (.z rfl (.z rfl (.q rfl (.pickF rfl rfl) (.nil (hK11 _ _ ?_))))))
   refine .condF rfl ?_
   refine .exit ?_
   refine hK8 _ _ (.seq (fun K15 hK15 => .region (.mv rfl (.nil (hK15 _ _ ?_)))))
   refine .cond rfl (fun h35 => ?_) (fun h35 => ?_)
   ·
    have hT : c.okL L (L.getD i []) = true := by
      rw [Cat.okL_eq]
      obtain rfl : k = L.length := by first | omega | (rw [h35] at h15; cases h15)
      exact he.symm.trans h35
    refine .seq (fun K16 hK16 => .region (.mv rfl (.mv rfl ?_)))
    refine .q rfl (.idxN sl_23_B (Intss.sl (by assumption)) rfl rfl (by omega)) ?_
    refine .q rfl (.loadR on_22_B (by assumption) rfl (by omega)) ?_
    refine .mv rfl (.nil (hK16 _ _ ?_))
    refine .ret ?_
    refine hret _ _ ?_
    refine ⟨_, rfl, ?_⟩
    have hf : c.firstL L = L.getD i [] := find_getD (by omega) hall hT
    rw [hf]
    exact ⟨hle, _, rfl, hL.2 i (by omega)⟩
   have hF : c.okL L (L.getD i []) = false := by
     rw [Cat.okL_eq]
     exact allN_early (he.symm.trans h35) hk
   refine .skip ?_
   refine hK6 _ _ (.region (.mv rfl ?_))
   refine .q rfl (.add rfl rfl rfl (by omega) (by omega)) ?_
   refine .mv rfl (.nil ?_)
   refine hKL1 (i + 1) _ _ ?_ ?_ ⟨rfl, rfl, rfl, trivial⟩
   ·
    refine ⟨lst1, ?_⟩
    refine ⟨by omega, fun j hj => ?_⟩
    by_cases e1 : j < i
    · exact hall j e1
    · obtain rfl : j = i := by omega
      exact hF
   omega
  try simp only [sps] at h11
  refine .exit ?_
  refine hK2 _ _ (.seq (fun K17 hK17 => .region ?_))
  refine .R rfl (.litA rfl sl_22_A ze_2_L rfl rfl rfl rfl) ?_
  rintro _ H40 ⟨g40, rfl, le40, ge40, at40⟩
  replace hle := hle.trans le40
  replace at2 := le40.2 _ _ at2
  replace hin := base_hin.mono hle
  have hb2 : Cat.At _ g2 0 c p := ⟨Mem.of_get at2, hin⟩
  refine .mv rfl (.nil (hK17 _ _ ?_))
  refine .ret ?_
  refine hret _ _ ?_
  refine ⟨_, rfl, ?_⟩
  obtain rfl : i = L.length := by omega
  have hf : c.firstL L = [] := find_getD0 hall
  rw [hf]
  exact ⟨hle, _, rfl, .inl rfl⟩
end Go.Proofs.Ytjdedelneppnlaa
namespace Go.Proofs.Ytjdedelneppnlaa
open Go Go.GL Go.RowKit Go.Proofs
set_option maxHeartbeats 4000000 in
theorem l13Squares_c {c : Cat} {p : CatP} {s : Spn} {f k : Int} {H : GHeap} (hin : c.In H p := by assumption) (hS : c.Shape := by assumption) (ha : ¬ s.alone = true) (hr : 0 ≤ f → f < c.src.length ∧ 0 ≤ k ∧ k < c.src.length) (hf : ∀ (z : Nat) (a b : Int), a ∈ c.hom z s.x → b ∈ c.hom z s.y → s.fits a b = (decide (f < 0) || decide (c.th a f = c.th b k))) :
    GCalls Try.prog 107 [.agg (c.cells p).toArray, .int .i64 s.x, .int .i64 s.y, .int .i64 f, .int .i64 k] H (NewIntssR H (c.sqL s)) := by
  have b1 := hS.n40
  have b5 := hS.obj
  refine GCalls.body (N := 77) (rs := [.tmp 10]) Try.func107 rfl rfl rfl rfl (fun Qx hret hend => ?_)
  refine .fg [0, 1, 2, 3, 4] rfl ?_
  have hle := GHeap.Le.refl H
  have base_hin := hin
  refine .seq (fun K1 hK1 => .region ?_)
  refine .R rfl (.boxR rfl sz_29_D rfl) ?_
  rintro _ H5 ⟨g5, rfl, le5, ge5, at5⟩
  replace hle := hle.trans le5
  have lt_at5 := GHeap.ltg at5
  replace hin := base_hin.mono hle
  have hb5 : Cat.At _ g5 0 c p := ⟨Mem.of_get at5, hin⟩
  refine .mv rfl (.nil (hK1 _ _ (.seq (fun K2 hK2 => .region ?_))))
  refine .R rfl (.litA rfl sl_23_B ze_22_Tb rfl rfl rfl rfl) ?_
  rintro _ H17 ⟨g17, rfl, le17, ge17, at17⟩
  replace hle := hle.trans le17
  replace at5 := le17.2 _ _ at5
  have lt_at17 := GHeap.ltg at17
  replace hin := base_hin.mono hle
  clear hb5
  have hb5 : Cat.At _ g5 0 c p := ⟨Mem.of_get at5, hin⟩
  refine .mv rfl (.nil (hK2 _ _ (.seq (fun K3 hK3 => .seq (fun K4 hK4 => .region (.mv rfl (.nil (hK4 _ _ ?_))))))))
  refine .block ?_
  refine .loopR (σ := Nat × (Nat → Option Addr) × Nat × Nat) [(1, some _), (2, some _), (3, some _), (4, some _), (5, some _)] (fun (z, rr, gL11, nL11) => [(12, some (.int .i64 (z : Int))), (11, some (.slice (some ⟨gL11, 0, none⟩) nL11 nL11))]) (fun (z, rr, gL11, nL11) H' => St [g17] H17 H' ∧ H'.get gL11 = some (.row ((slsL rr (c.sqA s row3 z))) 22 true) ∧ (gL11 = g17 ∨ H17.next ≤ gL11) ∧ nL11 = (slsL rr (c.sqA s row3 z)).length ∧ z ≤ c.obj.toNat ∧ OwnL H.next H' 2 rr (c.sqA s row3 z)) (fun (z, rr, gL11, nL11) => c.obj.toNat - z) ((0, fun _ => none, _, _)) ⟨rfl, rfl, rfl, rfl, rfl, trivial⟩ ⟨rfl, rfl, trivial⟩ ?_ ?_
  ·
   refine ⟨.refl _ _, by first | assumption | exact at17 | simpa using at17, .inl rfl, by first | rfl | assumption | simp | omega, ?_⟩
   exact ⟨by omega, .nil _ _ _ _⟩
  rintro ⟨z, rr, gL11, nL11⟩ HL1 ⟨lst1, at_L11, pl_L11, ln_L11, hI⟩ KL1 hKL1
  refine .forget (fr' := [(12, some (.int .i64 (z : Int))), (11, some (.slice (some ⟨gL11, 0, none⟩) nL11 nL11)), (1, some _), (2, some _), (3, some _), (4, some _), (5, some _)]) ⟨rfl, rfl, rfl, rfl, rfl, rfl, rfl, trivial⟩ ?_
  have ge_L11 : H.next ≤ gL11 := by omega
  have nx_HL1 := lst1.nx
  replace hle := hle.st lst1 (fun k hk => ⟨by omega, trivial⟩)
  replace at5 := lst1.s at5
  have lt_at_L11 := GHeap.ltg at_L11
  replace hin := base_hin.mono hle
  clear hb5
  have hb5 : Cat.At _ g5 0 c p := ⟨Mem.of_get at5, hin⟩
  obtain ⟨c05, -, -, -, -, -, -, -, -⟩ := hb5.get
  have hi5 := hb5.2
  obtain ⟨hz, hR⟩ := hI
  refine .seq (fun K5 hK5 => .seq (fun K6 hK6 => .region (.mv rfl (.q rfl (.fieldAddr fo_29_0_B rfl) ?_))))
  refine .q rfl (.load on_2_A rfl (by first | assumption | exact Mem.of_get at5 0 _ rfl)) ?_
  refine .q rfl (.cmp rfl rfl rfl) (.nil (hK6 _ _ ?_))
  refine .cond rfl (fun h21 => ?_) (fun h21 => ?_)
  ·
   simp only [sps] at h21
   have q1 := Cat.hom_le c z s.x
   have q2 := Cat.hom_le c z s.y
   refine .skip ?_
   refine hK5 _ _ (.seq (fun K7 hK7 => ?_))
   refine .block ?_
   refine .seq (fun K8 hK8 => ?_)
   refine .regionD mo_B (.q 0 (.q 1 (.q 2 (.q 4 (.q 5 (.q 6 (.c 3 1 (.c 7 0 (.q 8 (.q 9 (.done))))))))))) (by kernel_rfl) ?_
   refine .cut [(1, some _), (2, some _), (3, some _), (4, some _), (5, some _), (11, some _), (12, some _), (18, some _), (19, some _), (20, some _), (21, some _)] ⟨rfl, rfl, rfl, rfl, rfl, rfl, rfl, rfl, rfl, rfl, rfl, trivial⟩ (fun rest fr' H' => ∃ (gP : Nat) (gQ : Nat), Sub ((13, some (.slice (some ⟨gP, 0, none⟩) (c.hom z s.x).length (c.hom z s.x).length)) :: (14, some (.slice (some ⟨gQ, 0, none⟩) (c.hom z s.y).length (c.hom z s.y).length)) :: rest) fr' ∧ HL1.Le H' ∧ H'.get gP = some (.row (ints (c.hom z s.x)) 2 true) ∧ HL1.next ≤ gP ∧ H'.get gQ = some (.row (ints (c.hom z s.y)) 2 true) ∧ HL1.next ≤ gQ ∧ gP ≠ gQ) ?_ ?_
   ·
    have hf0 := St.refl [] HL1
    refine .q rfl (.loadM ag_29_D rfl ⟨rfl, Mem.of_get at5⟩) ?_
    refine .qB rfl (.refl _) (.move rfl) (.qB rfl (.refl _) (.move rfl) ?_)
    refine .q rfl (.loadM ag_29_D rfl ⟨rfl, Mem.of_get at5⟩) ?_
    refine .qB rfl (.refl _) (.move rfl) (.qB rfl (.refl _) (.move rfl) ?_)
    refine .call1 rfl rfl rfl rfl rfl @Try.call127 rfl (l02Hom_c) ?_
    rintro _ H27 ⟨le27, g27, rfl, at27, ge27⟩
    have hbl := le27
    refine ⟨hbl, ?_⟩
    replace hle := hle.trans le27
    replace hf0 := hf0.le le27
    replace at5 := le27.2 _ _ at5
    have lt_at27 := GHeap.ltg at27
    replace hin := base_hin.mono hle
    clear hb5 c05 hi5
    have hb5 : Cat.At _ g5 0 c p := ⟨Mem.of_get at5, hin⟩
    have hi5 := hb5.2
    refine .call0 rfl rfl rfl rfl rfl @Try.call127 rfl (l02Hom_c) ?_
    rintro _ H31 ⟨le31, g31, rfl, at31, ge31⟩
    replace hle := hle.trans le31
    replace hf0 := hf0.le le31
    replace at5 := le31.2 _ _ at5
    replace at27 := le31.2 _ _ at27
    replace hin := base_hin.mono hle
    clear hb5 hi5
    have hb5 : Cat.At _ g5 0 c p := ⟨Mem.of_get at5, hin⟩
    refine .qB rfl (.refl _) (.assign rfl) (.qB rfl (.refl _) (.assign rfl) ?_)
    refine .done ?_
    exact ⟨_, _, ⟨rfl, rfl, rfl, rfl, rfl, rfl, rfl, rfl, rfl, rfl, rfl, rfl, rfl, trivial⟩, ⟨hf0.nx, fun k o h => hf0.same k o trivial h⟩, by assumption, by omega, by assumption, by omega, by omega⟩
   rintro fr905 H905 ⟨gP1, gQ1, hsub905, le905, atP, geP, atQ, geQ, nePQ⟩
   replace hle := hle.trans le905
   replace lst1 := lst1.le le905
   replace at5 := le905.2 _ _ at5
   replace at_L11 := le905.2 _ _ at_L11
   have lt_atP := GHeap.ltg atP
   have lt_atQ := GHeap.ltg atQ
   replace hin := base_hin.mono hle
   have hb5 : Cat.At _ g5 0 c p := ⟨Mem.of_get at5, hin⟩
   refine hK8 _ _ ?_
   refine .forget hsub905 ?_
   refine .seq (fun K9 hK9 => .region (.mv rfl (.nil (hK9 _ _ ?_))))
   refine .block ?_
   have hl0 : nL11 = (slsL rr (c.sqP s row3 z 0 0)).length := by rw [Cat.sqP_zero]; assumption
   refine .loopR (σ := Nat × (Nat → Option Addr) × Nat × Nat) [(1, some _), (2, some _), (3, some _), (4, some _), (5, some _), (12, some _), (13, some _), (14, some _)] (fun (i, r2, gL11v2, nL11v2) => [(15, some (.int .i64 (i : Int))), (11, some (.slice (some ⟨gL11v2, 0, none⟩) nL11v2 nL11v2))]) (fun (i, r2, gL11v2, nL11v2) H' => St [gL11] H905 H' ∧ H'.get gL11v2 = some (.row ((slsL r2 (c.sqP s row3 z i 0))) 22 true) ∧ (gL11v2 = gL11 ∨ H905.next ≤ gL11v2) ∧ nL11v2 = (slsL r2 (c.sqP s row3 z i 0)).length ∧ i ≤ (c.hom z s.x).length ∧ OwnL H.next H' 2 r2 (c.sqP s row3 z i 0)) (fun (i, r2, gL11v2, nL11v2) => (c.hom z s.x).length - i) ((0, rr, _, _)) ⟨rfl, rfl, rfl, rfl, rfl, rfl, rfl, rfl, trivial⟩ ⟨rfl, rfl, trivial⟩ ?_ ?_
   ·
    refine ⟨.refl _ _, by first | assumption | (rw [Cat.sqP_zero]; assumption), .inl rfl, by first | rfl | assumption | simp | omega, ?_⟩
    exact ⟨by omega, by rw [Cat.sqP_zero]; exact hR.keep (.of_le le905)⟩
   rintro ⟨i, r2, gL11v2, nL11v2⟩ HL2 ⟨lst2, at_L11v2, pl_L11v2, ln_L11v2, hI⟩ KL2 hKL2
   refine .forget (fr' := [(15, some (.int .i64 (i : Int))), (11, some (.slice (some ⟨gL11v2, 0, none⟩) nL11v2 nL11v2)), (1, some _), (2, some _), (3, some _), (4, some _), (5, some _), (12, some _), (13, some _), (14, some _)]) ⟨rfl, rfl, rfl, rfl, rfl, rfl, rfl, rfl, rfl, rfl, trivial⟩ ?_
   have ge_L11v2 : H.next ≤ gL11v2 := by omega
   have nx_HL2 := lst2.nx
   replace hle := hle.st lst2 (fun k hk => ⟨by omega, trivial⟩)
   replace lst1 := lst1.sA lst2
   replace at5 := lst2.s at5
   replace atP := lst2.s atP
   replace atQ := lst2.s atQ
   replace hin := base_hin.mono hle
   clear hb5
   have hb5 : Cat.At _ g5 0 c p := ⟨Mem.of_get at5, hin⟩
   obtain ⟨hi, hR⟩ := hI
   refine .seq (fun K10 hK10 => .seq (fun K11 hK11 => .region (.mv rfl (.mv rfl (.q rfl (.len sl_22_A rfl) (.q rfl (.cmp rfl rfl rfl) (.nil (hK11 _ _ ?_))))))))
   refine .cond rfl (fun h35 => ?_) (fun h35 => ?_)
   ·
    simp only [sps] at h35
    obtain ⟨u, u1, u2, -, u4⟩ := Cat.hom_get (c := c) (x := z) (y := s.x) (i := i) (by omega)
    refine .skip ?_
    refine hK10 _ _ (.seq (fun K12 hK12 => ?_))
    refine .block ?_
    refine .seq (fun K13 hK13 => .region (.mv rfl (.nil (hK13 _ _ ?_))))
    refine .block ?_
    refine .loopR (σ := Nat × (Nat → Option Addr) × Nat × Nat) [(1, some _), (2, some _), (3, some _), (4, some _), (5, some _), (12, some _), (13, some _), (14, some _), (15, some _)] (fun (t, r3, gL11v3, nL11v3) => [(16, some (.int .i64 (t : Int))), (11, some (.slice (some ⟨gL11v3, 0, none⟩) nL11v3 nL11v3))]) (fun (t, r3, gL11v3, nL11v3) H' => St [gL11v2] HL2 H' ∧ H'.get gL11v3 = some (.row ((slsL r3 (c.sqP s row3 z i t))) 22 true) ∧ (gL11v3 = gL11v2 ∨ HL2.next ≤ gL11v3) ∧ nL11v3 = (slsL r3 (c.sqP s row3 z i t)).length ∧ t ≤ (c.hom z s.y).length ∧ OwnL H.next H' 2 r3 (c.sqP s row3 z i t)) (fun (t, r3, gL11v3, nL11v3) => (c.hom z s.y).length - t) ((0, r2, _, _)) ⟨rfl, rfl, rfl, rfl, rfl, rfl, rfl, rfl, rfl, trivial⟩ ⟨rfl, rfl, trivial⟩ ?_ ?_
    ·
     refine ⟨.refl _ _, by first | assumption | exact at_L11v2 | simpa using at_L11v2, .inl rfl, by first | rfl | assumption | simp | omega, ?_⟩
     exact ⟨by omega, hR⟩
    rintro ⟨t, r3, gL11v3, nL11v3⟩ HL3 ⟨lst3, at_L11v3, pl_L11v3, ln_L11v3, hI⟩ KL3 hKL3
    refine .forget (fr' := [(16, some (.int .i64 (t : Int))), (11, some (.slice (some ⟨gL11v3, 0, none⟩) nL11v3 nL11v3)), (1, some _), (2, some _), (3, some _), (4, some _), (5, some _), (12, some _), (13, some _), (14, some _), (15, some _)]) ⟨rfl, rfl, rfl, rfl, rfl, rfl, rfl, rfl, rfl, rfl, rfl, trivial⟩ ?_
    have ge_L11v3 : H.next ≤ gL11v3 := by omega
    have nx_HL3 := lst3.nx
    replace hle := hle.st lst3 (fun k hk => ⟨by omega, trivial⟩)
    replace lst2 := lst2.sA lst3
    replace at5 := lst3.s at5
    replace atP := lst3.s atP
    replace atQ := lst3.s atQ
    have lt_at_L11v3 := GHeap.ltg at_L11v3
    replace hin := base_hin.mono hle
    clear hb5
    have hb5 : Cat.At _ g5 0 c p := ⟨Mem.of_get at5, hin⟩
    have hi5 := hb5.2
    have rk := St.refl [gL11v3] HL3
    obtain ⟨hk, hR⟩ := hI
    have hat11 := at_L11v3
    have hfl : (slsL r3 (c.sqP s row3 z i t)).length = (c.sqP s row3 z i t).length := length_slsL _ _
    have hln := Cat.sqP_bound hS s row3 (z := z) (i := i) (k := t) (by omega) (by omega)
    refine .seq (fun K14 hK14 => .seq (fun K15 hK15 => .region (.mv rfl (.mv rfl (.q rfl (.len sl_22_A rfl) (.q rfl (.cmp rfl rfl rfl) (.nil (hK15 _ _ ?_))))))))
    refine .cond rfl (fun h41 => ?_) (fun h41 => ?_)
    ·
     simp only [sps] at h41
     obtain ⟨v, v1, v2, -, v4⟩ := Cat.hom_get (c := c) (x := z) (y := s.y) (i := t) (by omega)
     have hfit := hf z ((c.hom z s.x).getD i 0) ((c.hom z s.y).getD t 0) (getD_mem_list (by omega)) (getD_mem_list (by omega))
     refine .skip ?_
     refine hK14 _ _ (.seq (fun K16 hK16 => ?_))
     refine .block ?_
     refine .seq (fun K17 hK17 => ?_)
     refine .regionD mo_B (.q 0 (.q 1 (.q 2 (.q 3 (.q 4 (.q 5 (.q 6 (.q 7 (.q 8 (.q 10 (.q 11 (.q 12 (.q 13 (.q 14 (.q 15 (.c 9 1 (.c 16 0 (.q 17 (.q 18 (.done)))))))))))))))))))) (by kernel_rfl) ?_
     refine .cut [(1, some _), (2, some _), (3, some _), (4, some _), (5, some _), (11, some _), (12, some _), (13, some _), (14, some _), (15, some _), (16, some _), (38, some _), (39, some _), (40, some _), (41, some _)] ⟨rfl, rfl, rfl, rfl, rfl, rfl, rfl, rfl, rfl, rfl, rfl, rfl, rfl, rfl, rfl, trivial⟩ (fun rest fr' H' => ∃ e : Bool, Sub ((62, some (.bool e)) :: rest) fr' ∧ HL3 = H' ∧ e = s.fits ((c.hom z s.x).getD i 0) ((c.hom z s.y).getD t 0)) ?_ ?_
     ·
      refine .mv rfl rfl (.q rfl (.cmp rfl rfl rfl) (.mv rfl rfl ?_))
      refine .split (fun h46 => ?_) (fun h46 => ?_)
      ·
       simp only [sps] at h46
       refine .z rfl (.z rfl (.z rfl (.z rfl (.z rfl (.z rfl (.z rfl (.z rfl (.z rfl (.z rfl (.z rfl (.z rfl (.sgc rfl rfl rfl rfl rfl rfl (.sgc rfl rfl rfl rfl rfl rfl (.z rfl (.q rfl (.pickT rfl rfl) ?_)))))))))))))))
       refine .done ?_
       refine ⟨_, ⟨rfl, rfl, rfl, rfl, rfl, rfl, rfl, rfl, rfl, rfl, rfl, rfl, rfl, rfl, rfl, rfl, trivial⟩, rfl, ?_⟩
       rw [hfit, decide_eq_true (by simpa only [sps] using h46), Bool.true_or]
      simp only [sps] at h46
      have hr1 := hr (by omega)
      refine .qg rfl (.loadM ag_29_D rfl ⟨rfl, Mem.of_get at5⟩) ?_
      refine .qg rfl (.move rfl) (.qg rfl (.move rfl) ?_)
      refine .qg rfl (.idxN sl_22_A (by first | assumption | exact SlA.of_row atP (by first | rfl | (simp; done) | (simp <;> omega))) rfl rfl (by omega)) ?_
      refine .qg rfl (.loadI on_2_A (by first | assumption | exact Ints.of_get atP) rfl (by omega)) ?_
      refine .qg rfl (.move rfl) ?_
      refine .qg rfl (.loadM ag_29_D rfl ⟨rfl, Mem.of_get at5⟩) ?_
      refine .qg rfl (.move rfl) (.qg rfl (.move rfl) ?_)
      refine .qg rfl (.idxN sl_22_A (by first | assumption | exact SlA.of_row atQ (by first | rfl | (simp; done) | (simp <;> omega))) rfl rfl (by omega)) ?_
      refine .qg rfl (.loadI on_2_A (by first | assumption | exact Ints.of_get atQ) rfl (by omega)) ?_
      refine .qg rfl (.move rfl) ?_
      refine .callQ1g rfl rfl rfl rfl rfl rfl rfl @Try.call129 rfl (l02Then_c) (.refl _) ?_
      refine .callQ0g rfl rfl rfl rfl rfl rfl rfl @Try.call129 rfl (l02Then_c) ?_
      refine .qg rfl (.cmp rfl rfl rfl) (.q rfl (.pickF rfl rfl) ?_)
      refine .done ?_
      refine ⟨_, ⟨rfl, rfl, rfl, rfl, rfl, rfl, rfl, rfl, rfl, rfl, rfl, rfl, rfl, rfl, rfl, rfl, trivial⟩, rfl, ?_⟩
      rw [hfit, decide_eq_false (by simpa only [sps] using h46), Bool.false_or]; rfl
     rintro frJ12 _ ⟨e, hsubJ12, rfl, hJ12⟩
     refine hK17 _ _ ?_
     refine .forget hsubJ12 ?_
     refine .cond rfl (fun h62 => ?_) (fun h62 => ?_)
     ·
      have hT := hJ12.symm.trans h62
      have hTT := Cat.sqP_T (f := row3) (by omega) hT
      refine .regionD mo_B (.q 0 (.q 1 (.q 2 (.q 3 (.q 4 (.q 5 (.q 6 (.q 7 (.q 8 (.q 9 (.c 10 1 (.c 11 1 (.c 12 0 (.c 13 0 (.done))))))))))))))) (by kernel_rfl) ?_
      refine .mv rfl rfl (.mv rfl rfl (.mv rfl rfl (.mv rfl rfl ?_)))
      refine .q rfl (.idxN sl_22_A (by first | assumption | exact SlA.of_row atP (by first | rfl | (simp; done) | (simp <;> omega))) rfl rfl (by omega)) ?_
      refine .q rfl (.loadI on_2_A (by first | assumption | exact Ints.of_get atP) rfl (by omega)) ?_
      refine .mv rfl rfl (.mv rfl rfl ?_)
      refine .q rfl (.idxN sl_22_A (by first | assumption | exact SlA.of_row atQ (by first | rfl | (simp; done) | (simp <;> omega))) rfl rfl (by omega)) ?_
      refine .q rfl (.loadI on_2_A (by first | assumption | exact Ints.of_get atQ) rfl (by omega)) ?_
      refine .c1 rfl rfl rfl rfl (.litA rfl sl_22_A ze_2_L rfl rfl rfl rfl) ?_
      rintro _ H73 ⟨g73, rfl, le73, ge73, at73⟩
      have hbl := le73
      refine ⟨hbl, ?_⟩
      replace hle := hle.trans le73
      replace lst3 := lst3.le le73
      replace rk := rk.le le73
      replace at5 := le73.2 _ _ at5
      replace at_L11v3 := le73.2 _ _ at_L11v3
      have lt_at73 := GHeap.ltg at73
      replace hin := base_hin.mono hle
      clear hb5 hi5
      have hb5 : Cat.At _ g5 0 c p := ⟨Mem.of_get at5, hin⟩
      refine .c1 rfl rfl rfl rfl (.litA rfl sl_23_B ze_22_Tb rfl rfl rfl rfl) ?_
      rintro _ H74 ⟨g74, rfl, le74, ge74, at74⟩
      replace hbl := hbl.trans le74
      refine ⟨hbl, ?_⟩
      replace hle := hle.trans le74
      replace lst3 := lst3.le le74
      replace rk := rk.le le74
      replace at5 := le74.2 _ _ at5
      replace at_L11v3 := le74.2 _ _ at_L11v3
      replace at73 := le74.2 _ _ at73
      have lt_at74 := GHeap.ltg at74
      replace hin := base_hin.mono hle
      clear hb5
      have hb5 : Cat.At _ g5 0 c p := ⟨Mem.of_get at5, hin⟩
      refine .c0 rfl rfl rfl rfl (.appendV rfl sl_23_B ze_22_Tb rfl by_22_Tb sl_23_B rfl rfl (by assumption) (by assumption) (by first | omega | (simp <;> omega)) rfl rfl (by omega) (by omega)) ?_
      rintro _ H75 ⟨g75, rfl, st75, ge75, at75⟩
      replace hle := hle.st st75 (fun k hk => ⟨by omega, trivial⟩)
      replace lst3 := lst3.sA st75
      replace rk := rk.sA st75
      replace at5 := st75.s at5
      replace at73 := st75.s at73
      replace hin := base_hin.mono hle
      clear hb5
      have hb5 : Cat.At _ g5 0 c p := ⟨Mem.of_get at5, hin⟩
      obtain ⟨rN, hrN⟩ : ∃ r, r = upd r3 (c.sqP s row3 z i t).length (some ⟨g73, 0, none⟩) := ⟨_, rfl⟩
      have hRN : OwnL H.next H75 2 rN (c.sqP s row3 z i (t + 1)) := by rw [hTT, hrN]; exact hR.snoc (x := row3 z ((c.hom z s.x).getD i 0, (c.hom z s.y).getD t 0)) (rk.lasts1 hat11 rfl) (by assumption) (by omega) (by omega)
      have hsN := slsL_snoc (r := r3) (xss := c.sqP s row3 z i t) (x := row3 z ((c.hom z s.x).getD i 0, (c.hom z s.y).getD t 0)) (a := some ⟨g73, 0, none⟩)
      rw [← hrN, ← hTT] at hsN
      have at75' : GHeap.get H75 g75 = some (.row (slsL rN (c.sqP s row3 z i (t + 1))) 22 true) := by rw [hsN]; exact at75
      have hfN : (slsL rN (c.sqP s row3 z i (t + 1))).length = (slsL r3 (c.sqP s row3 z i t)).length + 1 := by rw [hsN, List.length_append]; rfl
      refine .d0 rfl rfl rfl rfl (.quiet (.assign rfl) CIs.mk) ?_
      refine .done ?_
      refine hK16 _ _ (.region (.mv rfl ?_))
      refine .q rfl (.add rfl rfl rfl (by omega) (by omega)) ?_
      refine .mv rfl (.nil ?_)
      refine hKL3 ((t + 1, rN, _, _)) _ _ ?_ ?_ ⟨rfl, rfl, rfl, rfl, rfl, rfl, rfl, rfl, rfl, rfl, rfl, trivial⟩
      ·
       refine ⟨lst3, by first | assumption | (rw [hsN]; assumption), by omega, by first | omega | (simp only [List.length_append, List.length_cons, List.length_nil] <;> omega) | (rw [hsN] <;> (first | omega | (simp only [List.length_append, List.length_cons, List.length_nil] <;> omega))), ?_⟩
       exact ⟨by omega, hRN⟩
      (dsimp only; omega)
     have hF := hJ12.symm.trans h62
     have hFF := Cat.sqP_F (f := row3) (by omega) hF
     obtain ⟨rN, hrN⟩ : ∃ r, r = r3 := ⟨_, rfl⟩
     have hRN : OwnL H.next HL3 2 rN (c.sqP s row3 z i (t + 1)) := by rw [hrN, hFF]; exact hR
     have hsN : slsL rN (c.sqP s row3 z i (t + 1)) = slsL r3 (c.sqP s row3 z i t) := by rw [hrN, hFF]
     have hfN : (slsL rN (c.sqP s row3 z i (t + 1))).length = (slsL r3 (c.sqP s row3 z i t)).length := by rw [hsN]
     refine .skip ?_
     refine hK16 _ _ (.region (.mv rfl ?_))
     refine .q rfl (.add rfl rfl rfl (by omega) (by omega)) ?_
     refine .mv rfl (.nil ?_)
     refine hKL3 ((t + 1, rN, _, _)) _ _ ?_ ?_ ⟨rfl, rfl, rfl, rfl, rfl, rfl, rfl, rfl, rfl, rfl, rfl, trivial⟩
     ·
      refine ⟨lst3, by first | assumption | (rw [hsN]; assumption), by omega, by first | omega | (simp only [List.length_append, List.length_cons, List.length_nil] <;> omega) | (rw [hsN] <;> (first | omega | (simp only [List.length_append, List.length_cons, List.length_nil] <;> omega))), ?_⟩
      exact ⟨by omega, hRN⟩
     (dsimp only; omega)
    try simp only [sps] at h41
    refine .exit ?_
    refine hK12 _ _ (.region (.mv rfl ?_))
    refine .q rfl (.add rfl rfl rfl (by omega) (by omega)) ?_
    refine .mv rfl (.nil ?_)
    obtain rfl : t = (c.hom z s.y).length := by omega
    refine hKL2 ((i + 1, r3, _, _)) _ _ ?_ ?_ ⟨rfl, rfl, rfl, rfl, rfl, rfl, rfl, rfl, rfl, rfl, trivial⟩
    ·
     refine ⟨lst2, by first | assumption | (rw [Cat.sqP_next ha (by omega)]; assumption), by omega, by first | omega | (simp only [List.length_append, List.length_cons, List.length_nil] <;> omega) | (rw [Cat.sqP_next ha (by omega)] <;> (first | omega | (simp only [List.length_append, List.length_cons, List.length_nil] <;> omega))), ?_⟩
     exact ⟨by omega, by rw [Cat.sqP_next ha (by omega)]; exact hR⟩
    (dsimp only; omega)
   try simp only [sps] at h35
   refine .exit ?_
   refine hK7 _ _ (.region (.mv rfl ?_))
   refine .q rfl (.add rfl rfl rfl (by omega) (by omega)) ?_
   refine .mv rfl (.nil ?_)
   obtain rfl : i = (c.hom z s.x).length := by omega
   refine hKL1 ((z + 1, r2, _, _)) _ _ ?_ ?_ ⟨rfl, rfl, rfl, rfl, rfl, rfl, rfl, trivial⟩
   ·
    refine ⟨lst1, by first | assumption | (rw [← Cat.sqP_end]; assumption), by omega, by first | omega | (simp only [List.length_append, List.length_cons, List.length_nil] <;> omega) | (rw [← Cat.sqP_end] <;> (first | omega | (simp only [List.length_append, List.length_cons, List.length_nil] <;> omega))), ?_⟩
    exact ⟨by omega, by rw [← Cat.sqP_end]; exact hR⟩
   (dsimp only; omega)
  try simp only [sps] at h21
  refine .exit ?_
  refine hK3 _ _ (.seq (fun K18 hK18 => .region (.mv rfl (.mv rfl (.nil (hK18 _ _ ?_))))))
  refine .ret ?_
  refine hret _ _ ?_
  refine ⟨_, rfl, ?_⟩
  obtain rfl : z = c.obj.toNat := by omega
  rw [Cat.sqL_eq]
  exact ⟨hle, _, rr, by rw [ln_L11, length_slsL], hR.done at_L11 (by omega)⟩
theorem l13Pullback_c {c : Cat} {p : CatP} {f k : Int} {H : GHeap} (hin : c.In H p := by assumption) (hS : c.Shape := by assumption) (hf : 0 ≤ f ∧ f < c.src.length) (hk : 0 ≤ k ∧ k < c.src.length) :
    GCalls Try.prog 68 [.agg (c.cells p).toArray, .int .i64 f, .int .i64 k] H (fun v H' => H.Le H' ∧ ∃ a, v = .slice a (c.fstL (c.pull f k)).length (c.fstL (c.pull f k)).length ∧ Ints H' a (c.fstL (c.pull f k))) := by
  have hob := hS.obj
  refine GCalls.body (N := 23) (rs := [.tmp 6]) Try.func68 rfl rfl rfl rfl (fun Qx hret hend => ?_)
  refine .fg [0, 1, 2] rfl ?_
  have hle := GHeap.Le.refl H
  have base_hin := hin
  refine .seq (fun K1 hK1 => .region ?_)
  refine .R rfl (.boxR rfl sz_29_D rfl) ?_
  rintro _ H3 ⟨g3, rfl, le3, ge3, at3⟩
  replace hle := hle.trans le3
  replace hin := base_hin.mono hle
  have hb3 : Cat.At _ g3 0 c p := ⟨Mem.of_get at3, hin⟩
  obtain ⟨-, c13, -, -, -, i13, -, -, -⟩ := hb3.get
  have hi3 := hb3.2
  refine .mv rfl (.nil (hK1 _ _ (.seq (fun K2 hK2 => ?_))))
  refine .regionD mo_B (.q 0 (.q 1 (.q 2 (.q 3 (.q 4 (.q 5 (.q 6 (.q 7 (.q 8 (.q 9 (.q 10 (.q 11 (.q 12 (.q 13 (.c 14 1 (.c 15 0 (.q 16 (.done)))))))))))))))))) (by kernel_rfl) ?_
  refine .q rfl (.loadM ag_29_D rfl ⟨rfl, Mem.of_get at3⟩) ?_
  refine .q rfl (.loadM ag_29_D rfl ⟨rfl, Mem.of_get at3⟩) ?_
  refine .q rfl (.fieldAddr fo_29_1_B rfl) ?_
  refine .q rfl (.load on_22_B rfl (by first | assumption | exact Mem.of_get at3 1 _ rfl)) ?_
  refine .mv rfl rfl ?_
  refine .q rfl (.idx1 sl_22_A (by assumption) rfl rfl (by omega) (by omega)) ?_
  refine .q rfl (.loadI on_2_A (by assumption) rfl (by omega)) ?_
  refine .q rfl (.fieldAddr fo_29_1_B rfl) ?_
  refine .q rfl (.load on_22_B rfl (by first | assumption | exact Mem.of_get at3 1 _ rfl)) ?_
  refine .mv rfl rfl ?_
  refine .q rfl (.idx1 sl_22_A (by assumption) rfl rfl (by omega) (by omega)) ?_
  refine .q rfl (.loadI on_2_A (by assumption) rfl (by omega)) ?_
  refine .mv rfl rfl (.mv rfl rfl ?_)
  refine .call1 rfl rfl rfl rfl rfl @Try.call107 rfl (l13Squares_c (s := c.pull f k) (ha := Bool.false_ne_true) (hr := fun _ => by omega) (hf := fun _ a b _ _ => by rw [decide_eq_false (by omega : ¬ f < 0), Bool.false_or]; rfl)) ?_
  rintro _ H21 ⟨le21, a21, r21, rfl, v21⟩
  have hbl := le21
  refine ⟨hbl, ?_⟩
  replace hle := hle.trans le21
  replace at3 := le21.2 _ _ at3
  replace hin := base_hin.mono hle
  clear hb3 c13 i13 hi3
  have hb3 : Cat.At _ g3 0 c p := ⟨Mem.of_get at3, hin⟩
  have hi3 := hb3.2
  have i21 := v21.intss
  refine .call0 rfl rfl rfl rfl rfl @Try.call90 rfl (l13First_c (hL := i21) (hl := by have := Cat.sqA_bound8 hS (c.pull f k) row3 (z := c.obj.toNat) (by omega); rw [Cat.sqL_eq]; omega) (m := 3) (hm := by omega) (hr := Cat.sqL_ok Bool.false_ne_true)) ?_
  rintro _ H22 ⟨le22, a22, rfl, i22⟩
  replace hle := hle.trans le22
  replace at3 := le22.2 _ _ at3
  replace hin := base_hin.mono hle
  clear hb3 hi3
  have hb3 : Cat.At _ g3 0 c p := ⟨Mem.of_get at3, hin⟩
  clear i21
  refine .mv rfl rfl ?_
  refine .done ?_
  refine hK2 _ _ ?_
  refine .ret ?_
  refine hret _ _ ?_
  refine ⟨_, rfl, ?_⟩
  exact ⟨hle, _, rfl, i22⟩
end Go.Proofs.Ytjdedelneppnlaa
