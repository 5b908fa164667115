/- Opposites. No condition but those of each statement. -/
import Derived.Test.YtjdedelneppnlaaZ9
namespace Go.Proofs.Ytjdedelneppnlaa
open Go Go.GL Go.RowKit Go.Proofs
set_option maxHeartbeats 8000000 in
theorem l03Op_c {c : Cat} {p : CatP} {N : Nat} {H : GHeap} (hin : c.In H p := by assumption) (hr : c.Rect N) (hN : N ≤ 100000) :
    GCalls Try.prog 43 [.agg (c.cells p).toArray] H (NewCatO 2 22 H c.op) := by
  obtain ⟨b1, b2, b3, -, -, b6, -, b8, b9, -⟩ := id hr
  refine GCalls.body (N := 53) (rs := [.cell 2 29]) Try.func43 rfl rfl rfl rfl (fun Qx hret hend => ?_)
  refine .fg [0] rfl ?_
  have hle := GHeap.Le.refl H
  have base_hin := hin
  refine .seq (fun K1 hK1 => .region ?_)
  refine .R rfl (.boxR rfl sz_29_D rfl) ?_
  rintro _ H1 ⟨g1, rfl, le1, ge1, at1⟩
  replace hle := hle.trans le1
  have lt_at1 := GHeap.ltg at1
  replace hin := base_hin.mono hle
  have hb1 : Cat.At _ g1 0 c p := ⟨Mem.of_get at1, hin⟩
  refine .R rfl (.allocR rfl ze_29_Hj rfl) ?_
  rintro _ H2 ⟨g2, rfl, le2, ge2, at2⟩
  replace hle := hle.trans le2
  replace at1 := le2.2 _ _ at1
  have lt_at2 := GHeap.ltg at2
  replace hin := base_hin.mono hle
  clear hb1
  have hb1 : Cat.At _ g1 0 c p := ⟨Mem.of_get at1, hin⟩
  obtain ⟨c01, c11, c21, c31, -, -, i21, -, -⟩ := hb1.get
  refine .nil (hK1 _ _ (.seq (fun K2 hK2 => ?_)))
  refine .regionD mo_B (.q 0 (.q 1 (.q 2 (.q 3 (.q 5 (.q 6 (.q 8 (.q 9 (.or (.c 4 1 (.or (.c 7 1 (.or (.c 10 1 (.or (.c 11 1 (.q 12 (.c 13 1 (.c 14 1 (.done))))) (.c 13 1 (.c 11 1 (.q 12 (.c 14 1 (.done))))))) (.or (.c 11 1 (.or (.c 10 1 (.q 12 (.c 13 1 (.c 14 1 (.done))))) (.c 13 1 (.c 10 1 (.q 12 (.c 14 1 (.done))))))) (.c 13 1 (.or (.c 10 1 (.c 11 1 (.q 12 (.c 14 1 (.done))))) (.c 11 1 (.c 10 1 (.q 12 (.c 14 1 (.done)))))))))) (.or (.c 11 1 (.or (.c 7 1 (.or (.c 10 1 (.q 12 (.c 13 1 (.c 14 1 (.done))))) (.c 13 1 (.c 10 1 (.q 12 (.c 14 1 (.done))))))) (.c 13 1 (.c 7 1 (.c 10 1 (.q 12 (.c 14 1 (.done)))))))) (.c 13 1 (.or (.c 7 1 (.or (.c 10 1 (.c 11 1 (.q 12 (.c 14 1 (.done))))) (.c 11 1 (.c 10 1 (.q 12 (.c 14 1 (.done))))))) (.c 11 1 (.c 7 1 (.c 10 1 (.q 12 (.c 14 1 (.done))))))))))) (.or (.c 11 1 (.or (.c 4 1 (.or (.c 7 1 (.or (.c 10 1 (.q 12 (.c 13 1 (.c 14 1 (.done))))) (.c 13 1 (.c 10 1 (.q 12 (.c 14 1 (.done))))))) (.c 13 1 (.c 7 1 (.c 10 1 (.q 12 (.c 14 1 (.done)))))))) (.c 13 1 (.c 4 1 (.c 7 1 (.c 10 1 (.q 12 (.c 14 1 (.done))))))))) (.c 13 1 (.or (.c 4 1 (.or (.c 7 1 (.or (.c 10 1 (.c 11 1 (.q 12 (.c 14 1 (.done))))) (.c 11 1 (.c 10 1 (.q 12 (.c 14 1 (.done))))))) (.c 11 1 (.c 7 1 (.c 10 1 (.q 12 (.c 14 1 (.done)))))))) (.c 11 1 (.c 4 1 (.c 7 1 (.c 10 1 (.q 12 (.c 14 1 (.done))))))))))))))))))) (by kernel_rfl) ?_
  refine .cut [(0, some _), (1, some _), (2, some _)] ⟨rfl, rfl, rfl, trivial⟩ (fun rest fr' H' => ∃ g11 g14 g17 g18 g3, Sub ((11, some (.slice (some ⟨g11, 0, none⟩) c.tgt.length c.tgt.length)) :: (14, some (.slice (some ⟨g14, 0, none⟩) c.src.length c.src.length)) :: (17, some (.slice (some ⟨g17, 0, none⟩) c.idn.length c.idn.length)) :: (18, some (.slice (some ⟨g18, 0, none⟩) 0 0)) :: (3, some (.pointer (some ⟨g3, 0, none⟩))) :: rest) fr' ∧ H2.Le H' ∧ H2.next ≤ g11 ∧ H2.next ≤ g14 ∧ H2.next ≤ g17 ∧ H2.next ≤ g18 ∧ H2.next ≤ g3 ∧ H'.get g11 = some (.row (ints c.tgt) 2 true) ∧ H'.get g14 = some (.row (ints c.src) 2 true) ∧ H'.get g17 = some (.row (ints c.idn) 2 true) ∧ H'.get g18 = some (.row ([]) 22 true) ∧ H'.get g3 = some (.row ([.int .i64 c.obj, .slice (some ⟨g11, 0, none⟩) c.tgt.length c.tgt.length, .slice (some ⟨g14, 0, none⟩) c.src.length c.src.length, .slice (some ⟨g17, 0, none⟩) c.idn.length c.idn.length, .slice (some ⟨g18, 0, none⟩) 0 0]) 29 true) ∧ g11 ≠ g14 ∧ g11 ≠ g17 ∧ g11 ≠ g18 ∧ g11 ≠ g3 ∧ g14 ≠ g17 ∧ g14 ≠ g18 ∧ g14 ≠ g3 ∧ g17 ≠ g18 ∧ g17 ≠ g3 ∧ g18 ≠ g3) ?_ ?_
  ·
   have hf0 := GHeap.Le.refl H2
   refine .qB rfl (.refl _) (.fieldAddr fo_29_0_B rfl) ?_
   refine .q rfl (.load on_2_A rfl (by first | assumption | exact Mem.of_get at1 0 _ rfl)) ?_
   refine .qB rfl (.refl _) (.fieldAddr fo_29_2_B rfl) ?_
   refine .q rfl (.load on_22_B rfl (by first | assumption | exact Mem.of_get at1 2 _ rfl)) ?_
   refine .qB rfl (.refl _) (.fieldAddr fo_29_1_B rfl) ?_
   refine .q rfl (.load on_22_B rfl (by first | assumption | exact Mem.of_get at1 1 _ rfl)) ?_
   refine .qB rfl (.refl _) (.fieldAddr fo_29_3_B rfl) ?_
   refine .q rfl (.load on_22_B rfl (by first | assumption | exact Mem.of_get at1 3 _ rfl)) ?_
   refine .orI ?_ ?_
   ·
    refine .call1 rfl rfl rfl rfl rfl @Try.call92 rfl (l01Own_c) ?_
    rintro _ H11x2 ⟨le11x2, g11x2, rfl, at11x2, ge11x2⟩
    have hbl := le11x2
    refine ⟨hbl, ?_⟩
    replace hle := hle.trans le11x2
    replace at1 := le11x2.2 _ _ at1
    have lt_at11x2 := GHeap.ltg at11x2
    replace hf0 := hf0.trans le11x2
    refine .orI ?_ ?_
    ·
     replace hin := base_hin.mono hle
     clear hb1 c01 c11 c21 c31 i21
     have hb1 : Cat.At _ g1 0 c p := ⟨Mem.of_get at1, hin⟩
     obtain ⟨-, -, -, -, -, i11, -, -, -⟩ := hb1.get
     refine .call1 rfl rfl rfl rfl rfl @Try.call92 rfl (l01Own_c) ?_
     rintro _ H14x2 ⟨le14x2, g14x2, rfl, at14x2, ge14x2⟩
     replace hbl := hbl.trans le14x2
     refine ⟨hbl, ?_⟩
     replace hle := hle.trans le14x2
     replace at1 := le14x2.2 _ _ at1
     replace at11x2 := le14x2.2 _ _ at11x2
     have lt_at14x2 := GHeap.ltg at14x2
     replace hf0 := hf0.trans le14x2
     refine .orI ?_ ?_
     ·
      replace hin := base_hin.mono hle
      clear hb1 i11
      have hb1 : Cat.At _ g1 0 c p := ⟨Mem.of_get at1, hin⟩
      obtain ⟨-, -, -, -, -, -, -, i31, -⟩ := hb1.get
      refine .call1 rfl rfl rfl rfl rfl @Try.call92 rfl (l01Own_c) ?_
      rintro _ H17x2 ⟨le17x2, g17x2, rfl, at17x2, ge17x2⟩
      replace hbl := hbl.trans le17x2
      refine ⟨hbl, ?_⟩
      replace at11x2 := le17x2.2 _ _ at11x2
      replace at14x2 := le17x2.2 _ _ at14x2
      have lt_at17x2 := GHeap.ltg at17x2
      replace hf0 := hf0.trans le17x2
      refine .orI ?_ ?_
      ·
       refine .c1 rfl rfl rfl rfl (.litA rfl sl_23_B ze_22_Hj rfl rfl rfl rfl) ?_
       rintro _ H18x2 ⟨g18x2, rfl, le18x2, ge18x2, at18x2⟩
       replace hbl := hbl.trans le18x2
       refine ⟨hbl, ?_⟩
       replace at11x2 := le18x2.2 _ _ at11x2
       replace at14x2 := le18x2.2 _ _ at14x2
       replace at17x2 := le18x2.2 _ _ at17x2
       have lt_at18x2 := GHeap.ltg at18x2
       replace hf0 := hf0.trans le18x2
       refine .qB rfl hbl (.build bt_29_Hj rfl rfl rfl) ?_
       refine .c1 rfl rfl rfl rfl (.allocR rfl ze_29_Hj rfl) ?_
       rintro _ H3x2 ⟨g3x2, rfl, le3x2, ge3x2, at3x2⟩
       replace hbl := hbl.trans le3x2
       refine ⟨hbl, ?_⟩
       replace at11x2 := le3x2.2 _ _ at11x2
       replace at14x2 := le3x2.2 _ _ at14x2
       replace at17x2 := le3x2.2 _ _ at17x2
       replace at18x2 := le3x2.2 _ _ at18x2
       replace hf0 := hf0.trans le3x2
       refine .r1 rfl rfl rfl (.fillA rfl sz_29_D rfl rfl rfl rfl) ?_
       rintro _ H1014 ⟨rfl, st1014, at1014⟩
       replace hbl := hbl.st st1014 (fun k hk => ⟨by omega, trivial⟩)
       refine ⟨hbl, ?_⟩
       replace at11x2 := st1014.s at11x2
       replace at14x2 := st1014.s at14x2
       replace at17x2 := st1014.s at17x2
       replace at18x2 := st1014.s at18x2
       replace hf0 := hf0.st st1014 (fun k hk => ⟨by omega, trivial⟩)
       refine .done ?_
       exact ⟨g11x2, g14x2, g17x2, g18x2, g3x2, ⟨rfl, rfl, rfl, rfl, rfl, rfl, rfl, rfl, trivial⟩, hf0, by omega, by omega, by omega, by omega, by omega, by first | assumption | simpa using at11x2, by first | assumption | simpa using at14x2, by first | assumption | simpa using at17x2, by first | assumption | simpa using at18x2, by first | assumption | simpa using at1014, by omega, by omega, by omega, by omega, by omega, by omega, by omega, by omega, by omega, by omega⟩
      refine .c1 rfl rfl rfl rfl (.allocR rfl ze_29_Hj rfl) ?_
      rintro _ H3x3 ⟨g3x3, rfl, le3x3, ge3x3, at3x3⟩
      replace hbl := hbl.trans le3x3
      refine ⟨hbl, ?_⟩
      replace at11x2 := le3x3.2 _ _ at11x2
      replace at14x2 := le3x3.2 _ _ at14x2
      replace at17x2 := le3x3.2 _ _ at17x2
      have lt_at3x3 := GHeap.ltg at3x3
      replace hf0 := hf0.trans le3x3
      refine .c1 rfl rfl rfl rfl (.litA rfl sl_23_B ze_22_Hj rfl rfl rfl rfl) ?_
      rintro _ H18x3 ⟨g18x3, rfl, le18x3, ge18x3, at18x3⟩
      replace hbl := hbl.trans le18x3
      refine ⟨hbl, ?_⟩
      replace at11x2 := le18x3.2 _ _ at11x2
      replace at14x2 := le18x3.2 _ _ at14x2
      replace at17x2 := le18x3.2 _ _ at17x2
      replace at3x3 := le18x3.2 _ _ at3x3
      replace hf0 := hf0.trans le18x3
      refine .qB rfl hbl (.build bt_29_Hj rfl rfl rfl) ?_
      refine .r1 rfl rfl rfl (.fillA rfl sz_29_D rfl rfl rfl rfl) ?_
      rintro _ H1014x2 ⟨rfl, st1014x2, at1014x2⟩
      replace hbl := hbl.st st1014x2 (fun k hk => ⟨by omega, trivial⟩)
      refine ⟨hbl, ?_⟩
      replace at11x2 := st1014x2.s at11x2
      replace at14x2 := st1014x2.s at14x2
      replace at17x2 := st1014x2.s at17x2
      replace at18x3 := st1014x2.s at18x3
      replace hf0 := hf0.st st1014x2 (fun k hk => ⟨by omega, trivial⟩)
      refine .done ?_
      exact ⟨g11x2, g14x2, g17x2, g18x3, g3x3, ⟨rfl, rfl, rfl, rfl, rfl, rfl, rfl, rfl, trivial⟩, hf0, by omega, by omega, by omega, by omega, by omega, by first | assumption | simpa using at11x2, by first | assumption | simpa using at14x2, by first | assumption | simpa using at17x2, by first | assumption | simpa using at18x3, by first | assumption | simpa using at1014x2, by omega, by omega, by omega, by omega, by omega, by omega, by omega, by omega, by omega, by omega⟩
     refine .orI ?_ ?_
     ·
      refine .c1 rfl rfl rfl rfl (.litA rfl sl_23_B ze_22_Hj rfl rfl rfl rfl) ?_
      rintro _ H18x4 ⟨g18x4, rfl, le18x4, ge18x4, at18x4⟩
      replace hbl := hbl.trans le18x4
      refine ⟨hbl, ?_⟩
      replace hle := hle.trans le18x4
      replace at1 := le18x4.2 _ _ at1
      replace at11x2 := le18x4.2 _ _ at11x2
      replace at14x2 := le18x4.2 _ _ at14x2
      have lt_at18x4 := GHeap.ltg at18x4
      replace hf0 := hf0.trans le18x4
      refine .orI ?_ ?_
      ·
       replace hin := base_hin.mono hle
       have hb1 : Cat.At _ g1 0 c p := ⟨Mem.of_get at1, hin⟩
       obtain ⟨-, -, -, -, -, -, -, i31, -⟩ := hb1.get
       refine .call1 rfl rfl rfl rfl rfl @Try.call92 rfl (l01Own_c) ?_
       rintro _ H17x3 ⟨le17x3, g17x3, rfl, at17x3, ge17x3⟩
       replace hbl := hbl.trans le17x3
       refine ⟨hbl, ?_⟩
       replace at11x2 := le17x3.2 _ _ at11x2
       replace at14x2 := le17x3.2 _ _ at14x2
       replace at18x4 := le17x3.2 _ _ at18x4
       have lt_at17x3 := GHeap.ltg at17x3
       replace hf0 := hf0.trans le17x3
       refine .qB rfl hbl (.build bt_29_Hj rfl rfl rfl) ?_
       refine .c1 rfl rfl rfl rfl (.allocR rfl ze_29_Hj rfl) ?_
       rintro _ H3x4 ⟨g3x4, rfl, le3x4, ge3x4, at3x4⟩
       replace hbl := hbl.trans le3x4
       refine ⟨hbl, ?_⟩
       replace at11x2 := le3x4.2 _ _ at11x2
       replace at14x2 := le3x4.2 _ _ at14x2
       replace at18x4 := le3x4.2 _ _ at18x4
       replace at17x3 := le3x4.2 _ _ at17x3
       replace hf0 := hf0.trans le3x4
       refine .r1 rfl rfl rfl (.fillA rfl sz_29_D rfl rfl rfl rfl) ?_
       rintro _ H1014x3 ⟨rfl, st1014x3, at1014x3⟩
       replace hbl := hbl.st st1014x3 (fun k hk => ⟨by omega, trivial⟩)
       refine ⟨hbl, ?_⟩
       replace at11x2 := st1014x3.s at11x2
       replace at14x2 := st1014x3.s at14x2
       replace at18x4 := st1014x3.s at18x4
       replace at17x3 := st1014x3.s at17x3
       replace hf0 := hf0.st st1014x3 (fun k hk => ⟨by omega, trivial⟩)
       refine .done ?_
       exact ⟨g11x2, g14x2, g17x3, g18x4, g3x4, ⟨rfl, rfl, rfl, rfl, rfl, rfl, rfl, rfl, trivial⟩, hf0, by omega, by omega, by omega, by omega, by omega, by first | assumption | simpa using at11x2, by first | assumption | simpa using at14x2, by first | assumption | simpa using at17x3, by first | assumption | simpa using at18x4, by first | assumption | simpa using at1014x3, by omega, by omega, by omega, by omega, by omega, by omega, by omega, by omega, by omega, by omega⟩
      refine .c1 rfl rfl rfl rfl (.allocR rfl ze_29_Hj rfl) ?_
      rintro _ H3x5 ⟨g3x5, rfl, le3x5, ge3x5, at3x5⟩
      replace hbl := hbl.trans le3x5
      refine ⟨hbl, ?_⟩
      replace hle := hle.trans le3x5
      replace at1 := le3x5.2 _ _ at1
      replace at11x2 := le3x5.2 _ _ at11x2
      replace at14x2 := le3x5.2 _ _ at14x2
      replace at18x4 := le3x5.2 _ _ at18x4
      have lt_at3x5 := GHeap.ltg at3x5
      replace hf0 := hf0.trans le3x5
      replace hin := base_hin.mono hle
      have hb1 : Cat.At _ g1 0 c p := ⟨Mem.of_get at1, hin⟩
      obtain ⟨-, -, -, -, -, -, -, i31, -⟩ := hb1.get
      refine .call1 rfl rfl rfl rfl rfl @Try.call92 rfl (l01Own_c) ?_
      rintro _ H17x4 ⟨le17x4, g17x4, rfl, at17x4, ge17x4⟩
      replace hbl := hbl.trans le17x4
      refine ⟨hbl, ?_⟩
      replace at11x2 := le17x4.2 _ _ at11x2
      replace at14x2 := le17x4.2 _ _ at14x2
      replace at18x4 := le17x4.2 _ _ at18x4
      replace at3x5 := le17x4.2 _ _ at3x5
      replace hf0 := hf0.trans le17x4
      refine .qB rfl hbl (.build bt_29_Hj rfl rfl rfl) ?_
      refine .r1 rfl rfl rfl (.fillA rfl sz_29_D rfl rfl rfl rfl) ?_
      rintro _ H1014x4 ⟨rfl, st1014x4, at1014x4⟩
      replace hbl := hbl.st st1014x4 (fun k hk => ⟨by omega, trivial⟩)
      refine ⟨hbl, ?_⟩
      replace at11x2 := st1014x4.s at11x2
      replace at14x2 := st1014x4.s at14x2
      replace at18x4 := st1014x4.s at18x4
      replace at17x4 := st1014x4.s at17x4
      replace hf0 := hf0.st st1014x4 (fun k hk => ⟨by omega, trivial⟩)
      refine .done ?_
      exact ⟨g11x2, g14x2, g17x4, g18x4, g3x5, ⟨rfl, rfl, rfl, rfl, rfl, rfl, rfl, rfl, trivial⟩, hf0, by omega, by omega, by omega, by omega, by omega, by first | assumption | simpa using at11x2, by first | assumption | simpa using at14x2, by first | assumption | simpa using at17x4, by first | assumption | simpa using at18x4, by first | assumption | simpa using at1014x4, by omega, by omega, by omega, by omega, by omega, by omega, by omega, by omega, by omega, by omega⟩
     refine .c1 rfl rfl rfl rfl (.allocR rfl ze_29_Hj rfl) ?_
     rintro _ H3x6 ⟨g3x6, rfl, le3x6, ge3x6, at3x6⟩
     replace hbl := hbl.trans le3x6
     refine ⟨hbl, ?_⟩
     replace hle := hle.trans le3x6
     replace at1 := le3x6.2 _ _ at1
     replace at11x2 := le3x6.2 _ _ at11x2
     replace at14x2 := le3x6.2 _ _ at14x2
     have lt_at3x6 := GHeap.ltg at3x6
     replace hf0 := hf0.trans le3x6
     refine .orI ?_ ?_
     ·
      replace hin := base_hin.mono hle
      have hb1 : Cat.At _ g1 0 c p := ⟨Mem.of_get at1, hin⟩
      obtain ⟨-, -, -, -, -, -, -, i31, -⟩ := hb1.get
      refine .call1 rfl rfl rfl rfl rfl @Try.call92 rfl (l01Own_c) ?_
      rintro _ H17x5 ⟨le17x5, g17x5, rfl, at17x5, ge17x5⟩
      replace hbl := hbl.trans le17x5
      refine ⟨hbl, ?_⟩
      replace at11x2 := le17x5.2 _ _ at11x2
      replace at14x2 := le17x5.2 _ _ at14x2
      replace at3x6 := le17x5.2 _ _ at3x6
      have lt_at17x5 := GHeap.ltg at17x5
      replace hf0 := hf0.trans le17x5
      refine .c1 rfl rfl rfl rfl (.litA rfl sl_23_B ze_22_Hj rfl rfl rfl rfl) ?_
      rintro _ H18x5 ⟨g18x5, rfl, le18x5, ge18x5, at18x5⟩
      replace hbl := hbl.trans le18x5
      refine ⟨hbl, ?_⟩
      replace at11x2 := le18x5.2 _ _ at11x2
      replace at14x2 := le18x5.2 _ _ at14x2
      replace at3x6 := le18x5.2 _ _ at3x6
      replace at17x5 := le18x5.2 _ _ at17x5
      replace hf0 := hf0.trans le18x5
      refine .qB rfl hbl (.build bt_29_Hj rfl rfl rfl) ?_
      refine .r1 rfl rfl rfl (.fillA rfl sz_29_D rfl rfl rfl rfl) ?_
      rintro _ H1014x5 ⟨rfl, st1014x5, at1014x5⟩
      replace hbl := hbl.st st1014x5 (fun k hk => ⟨by omega, trivial⟩)
      refine ⟨hbl, ?_⟩
      have ne_g11x2_g3x6 : NE g11x2 g3x6 := .a
      replace at11x2 := st1014x5.s at11x2 ne_g11x2_g3x6.ne
      have ne_g14x2_g3x6 : NE g14x2 g3x6 := .a
      replace at14x2 := st1014x5.s at14x2 ne_g14x2_g3x6.ne
      replace at17x5 := st1014x5.s at17x5
      replace at18x5 := st1014x5.s at18x5
      replace hf0 := hf0.st st1014x5 (fun k hk => ⟨by omega, trivial⟩)
      refine .done ?_
      exact ⟨g11x2, g14x2, g17x5, g18x5, g3x6, ⟨rfl, rfl, rfl, rfl, rfl, rfl, rfl, rfl, trivial⟩, hf0, by omega, by omega, by omega, by omega, by omega, by first | assumption | simpa using at11x2, by first | assumption | simpa using at14x2, by first | assumption | simpa using at17x5, by first | assumption | simpa using at18x5, by first | assumption | simpa using at1014x5, by omega, by omega, by omega, by omega, by omega, by omega, by omega, by omega, by omega, by omega⟩
     refine .c1 rfl rfl rfl rfl (.litA rfl sl_23_B ze_22_Hj rfl rfl rfl rfl) ?_
     rintro _ H18x6 ⟨g18x6, rfl, le18x6, ge18x6, at18x6⟩
     replace hbl := hbl.trans le18x6
     refine ⟨hbl, ?_⟩
     replace hle := hle.trans le18x6
     replace at1 := le18x6.2 _ _ at1
     replace at11x2 := le18x6.2 _ _ at11x2
     replace at14x2 := le18x6.2 _ _ at14x2
     replace at3x6 := le18x6.2 _ _ at3x6
     have lt_at18x6 := GHeap.ltg at18x6
     replace hf0 := hf0.trans le18x6
     replace hin := base_hin.mono hle
     have hb1 : Cat.At _ g1 0 c p := ⟨Mem.of_get at1, hin⟩
     obtain ⟨-, -, -, -, -, -, -, i31, -⟩ := hb1.get
     refine .call1 rfl rfl rfl rfl rfl @Try.call92 rfl (l01Own_c) ?_
     rintro _ H17x6 ⟨le17x6, g17x6, rfl, at17x6, ge17x6⟩
     replace hbl := hbl.trans le17x6
     refine ⟨hbl, ?_⟩
     replace at11x2 := le17x6.2 _ _ at11x2
     replace at14x2 := le17x6.2 _ _ at14x2
     replace at3x6 := le17x6.2 _ _ at3x6
     replace at18x6 := le17x6.2 _ _ at18x6
     replace hf0 := hf0.trans le17x6
     refine .qB rfl hbl (.build bt_29_Hj rfl rfl rfl) ?_
     refine .r1 rfl rfl rfl (.fillA rfl sz_29_D rfl rfl rfl rfl) ?_
     rintro _ H1014x6 ⟨rfl, st1014x6, at1014x6⟩
     replace hbl := hbl.st st1014x6 (fun k hk => ⟨by omega, trivial⟩)
     refine ⟨hbl, ?_⟩
     have ne_g11x2_g3x6 : NE g11x2 g3x6 := .a
     replace at11x2 := st1014x6.s at11x2 ne_g11x2_g3x6.ne
     have ne_g14x2_g3x6 : NE g14x2 g3x6 := .a
     replace at14x2 := st1014x6.s at14x2 ne_g14x2_g3x6.ne
     replace at18x6 := st1014x6.s at18x6
     replace at17x6 := st1014x6.s at17x6
     replace hf0 := hf0.st st1014x6 (fun k hk => ⟨by omega, trivial⟩)
     refine .done ?_
     exact ⟨g11x2, g14x2, g17x6, g18x6, g3x6, ⟨rfl, rfl, rfl, rfl, rfl, rfl, rfl, rfl, trivial⟩, hf0, by omega, by omega, by omega, by omega, by omega, by first | assumption | simpa using at11x2, by first | assumption | simpa using at14x2, by first | assumption | simpa using at17x6, by first | assumption | simpa using at18x6, by first | assumption | simpa using at1014x6, by omega, by omega, by omega, by omega, by omega, by omega, by omega, by omega, by omega, by omega⟩
    refine .orI ?_ ?_
    ·
     refine .c1 rfl rfl rfl rfl (.litA rfl sl_23_B ze_22_Hj rfl rfl rfl rfl) ?_
     rintro _ H18x7 ⟨g18x7, rfl, le18x7, ge18x7, at18x7⟩
     replace hbl := hbl.trans le18x7
     refine ⟨hbl, ?_⟩
     replace hle := hle.trans le18x7
     replace at1 := le18x7.2 _ _ at1
     replace at11x2 := le18x7.2 _ _ at11x2
     have lt_at18x7 := GHeap.ltg at18x7
     replace hf0 := hf0.trans le18x7
     refine .orI ?_ ?_
     ·
      replace hin := base_hin.mono hle
      have hb1 : Cat.At _ g1 0 c p := ⟨Mem.of_get at1, hin⟩
      obtain ⟨-, -, -, -, -, i11, -, -, -⟩ := hb1.get
      refine .call1 rfl rfl rfl rfl rfl @Try.call92 rfl (l01Own_c) ?_
      rintro _ H14x3 ⟨le14x3, g14x3, rfl, at14x3, ge14x3⟩
      replace hbl := hbl.trans le14x3
      refine ⟨hbl, ?_⟩
      replace hle := hle.trans le14x3
      replace at1 := le14x3.2 _ _ at1
      replace at11x2 := le14x3.2 _ _ at11x2
      replace at18x7 := le14x3.2 _ _ at18x7
      have lt_at14x3 := GHeap.ltg at14x3
      replace hf0 := hf0.trans le14x3
      refine .orI ?_ ?_
      ·
       replace hin := base_hin.mono hle
       clear hb1 i11
       have hb1 : Cat.At _ g1 0 c p := ⟨Mem.of_get at1, hin⟩
       obtain ⟨-, -, -, -, -, -, -, i31, -⟩ := hb1.get
       refine .call1 rfl rfl rfl rfl rfl @Try.call92 rfl (l01Own_c) ?_
       rintro _ H17x7 ⟨le17x7, g17x7, rfl, at17x7, ge17x7⟩
       replace hbl := hbl.trans le17x7
       refine ⟨hbl, ?_⟩
       replace at11x2 := le17x7.2 _ _ at11x2
       replace at18x7 := le17x7.2 _ _ at18x7
       replace at14x3 := le17x7.2 _ _ at14x3
       have lt_at17x7 := GHeap.ltg at17x7
       replace hf0 := hf0.trans le17x7
       refine .qB rfl hbl (.build bt_29_Hj rfl rfl rfl) ?_
       refine .c1 rfl rfl rfl rfl (.allocR rfl ze_29_Hj rfl) ?_
       rintro _ H3x7 ⟨g3x7, rfl, le3x7, ge3x7, at3x7⟩
       replace hbl := hbl.trans le3x7
       refine ⟨hbl, ?_⟩
       replace at11x2 := le3x7.2 _ _ at11x2
       replace at18x7 := le3x7.2 _ _ at18x7
       replace at14x3 := le3x7.2 _ _ at14x3
       replace at17x7 := le3x7.2 _ _ at17x7
       replace hf0 := hf0.trans le3x7
       refine .r1 rfl rfl rfl (.fillA rfl sz_29_D rfl rfl rfl rfl) ?_
       rintro _ H1014x7 ⟨rfl, st1014x7, at1014x7⟩
       replace hbl := hbl.st st1014x7 (fun k hk => ⟨by omega, trivial⟩)
       refine ⟨hbl, ?_⟩
       replace at11x2 := st1014x7.s at11x2
       replace at18x7 := st1014x7.s at18x7
       replace at14x3 := st1014x7.s at14x3
       replace at17x7 := st1014x7.s at17x7
       replace hf0 := hf0.st st1014x7 (fun k hk => ⟨by omega, trivial⟩)
       refine .done ?_
       exact ⟨g11x2, g14x3, g17x7, g18x7, g3x7, ⟨rfl, rfl, rfl, rfl, rfl, rfl, rfl, rfl, trivial⟩, hf0, by omega, by omega, by omega, by omega, by omega, by first | assumption | simpa using at11x2, by first | assumption | simpa using at14x3, by first | assumption | simpa using at17x7, by first | assumption | simpa using at18x7, by first | assumption | simpa using at1014x7, by omega, by omega, by omega, by omega, by omega, by omega, by omega, by omega, by omega, by omega⟩
      refine .c1 rfl rfl rfl rfl (.allocR rfl ze_29_Hj rfl) ?_
      rintro _ H3x8 ⟨g3x8, rfl, le3x8, ge3x8, at3x8⟩
      replace hbl := hbl.trans le3x8
      refine ⟨hbl, ?_⟩
      replace hle := hle.trans le3x8
      replace at1 := le3x8.2 _ _ at1
      replace at11x2 := le3x8.2 _ _ at11x2
      replace at18x7 := le3x8.2 _ _ at18x7
      replace at14x3 := le3x8.2 _ _ at14x3
      have lt_at3x8 := GHeap.ltg at3x8
      replace hf0 := hf0.trans le3x8
      replace hin := base_hin.mono hle
      have hb1 : Cat.At _ g1 0 c p := ⟨Mem.of_get at1, hin⟩
      obtain ⟨-, -, -, -, -, -, -, i31, -⟩ := hb1.get
      refine .call1 rfl rfl rfl rfl rfl @Try.call92 rfl (l01Own_c) ?_
      rintro _ H17x8 ⟨le17x8, g17x8, rfl, at17x8, ge17x8⟩
      replace hbl := hbl.trans le17x8
      refine ⟨hbl, ?_⟩
      replace at11x2 := le17x8.2 _ _ at11x2
      replace at18x7 := le17x8.2 _ _ at18x7
      replace at14x3 := le17x8.2 _ _ at14x3
      replace at3x8 := le17x8.2 _ _ at3x8
      replace hf0 := hf0.trans le17x8
      refine .qB rfl hbl (.build bt_29_Hj rfl rfl rfl) ?_
      refine .r1 rfl rfl rfl (.fillA rfl sz_29_D rfl rfl rfl rfl) ?_
      rintro _ H1014x8 ⟨rfl, st1014x8, at1014x8⟩
      replace hbl := hbl.st st1014x8 (fun k hk => ⟨by omega, trivial⟩)
      refine ⟨hbl, ?_⟩
      replace at11x2 := st1014x8.s at11x2
      replace at18x7 := st1014x8.s at18x7
      replace at14x3 := st1014x8.s at14x3
      replace at17x8 := st1014x8.s at17x8
      replace hf0 := hf0.st st1014x8 (fun k hk => ⟨by omega, trivial⟩)
      refine .done ?_
      exact ⟨g11x2, g14x3, g17x8, g18x7, g3x8, ⟨rfl, rfl, rfl, rfl, rfl, rfl, rfl, rfl, trivial⟩, hf0, by omega, by omega, by omega, by omega, by omega, by first | assumption | simpa using at11x2, by first | assumption | simpa using at14x3, by first | assumption | simpa using at17x8, by first | assumption | simpa using at18x7, by first | assumption | simpa using at1014x8, by omega, by omega, by omega, by omega, by omega, by omega, by omega, by omega, by omega, by omega⟩
     refine .c1 rfl rfl rfl rfl (.allocR rfl ze_29_Hj rfl) ?_
     rintro _ H3x9 ⟨g3x9, rfl, le3x9, ge3x9, at3x9⟩
     replace hbl := hbl.trans le3x9
     refine ⟨hbl, ?_⟩
     replace hle := hle.trans le3x9
     replace at1 := le3x9.2 _ _ at1
     replace at11x2 := le3x9.2 _ _ at11x2
     replace at18x7 := le3x9.2 _ _ at18x7
     have lt_at3x9 := GHeap.ltg at3x9
     replace hf0 := hf0.trans le3x9
     replace hin := base_hin.mono hle
     have hb1 : Cat.At _ g1 0 c p := ⟨Mem.of_get at1, hin⟩
     obtain ⟨-, -, -, -, -, i11, -, -, -⟩ := hb1.get
     refine .call1 rfl rfl rfl rfl rfl @Try.call92 rfl (l01Own_c) ?_
     rintro _ H14x4 ⟨le14x4, g14x4, rfl, at14x4, ge14x4⟩
     replace hbl := hbl.trans le14x4
     refine ⟨hbl, ?_⟩
     replace hle := hle.trans le14x4
     replace at1 := le14x4.2 _ _ at1
     replace at11x2 := le14x4.2 _ _ at11x2
     replace at18x7 := le14x4.2 _ _ at18x7
     replace at3x9 := le14x4.2 _ _ at3x9
     have lt_at14x4 := GHeap.ltg at14x4
     replace hf0 := hf0.trans le14x4
     replace hin := base_hin.mono hle
     clear hb1 i11
     have hb1 : Cat.At _ g1 0 c p := ⟨Mem.of_get at1, hin⟩
     obtain ⟨-, -, -, -, -, -, -, i31, -⟩ := hb1.get
     refine .call1 rfl rfl rfl rfl rfl @Try.call92 rfl (l01Own_c) ?_
     rintro _ H17x9 ⟨le17x9, g17x9, rfl, at17x9, ge17x9⟩
     replace hbl := hbl.trans le17x9
     refine ⟨hbl, ?_⟩
     replace at11x2 := le17x9.2 _ _ at11x2
     replace at18x7 := le17x9.2 _ _ at18x7
     replace at3x9 := le17x9.2 _ _ at3x9
     replace at14x4 := le17x9.2 _ _ at14x4
     replace hf0 := hf0.trans le17x9
     refine .qB rfl hbl (.build bt_29_Hj rfl rfl rfl) ?_
     refine .r1 rfl rfl rfl (.fillA rfl sz_29_D rfl rfl rfl rfl) ?_
     rintro _ H1014x9 ⟨rfl, st1014x9, at1014x9⟩
     replace hbl := hbl.st st1014x9 (fun k hk => ⟨by omega, trivial⟩)
     refine ⟨hbl, ?_⟩
     replace at11x2 := st1014x9.s at11x2
     replace at18x7 := st1014x9.s at18x7
     replace at14x4 := st1014x9.s at14x4
     replace at17x9 := st1014x9.s at17x9
     replace hf0 := hf0.st st1014x9 (fun k hk => ⟨by omega, trivial⟩)
     refine .done ?_
     exact ⟨g11x2, g14x4, g17x9, g18x7, g3x9, ⟨rfl, rfl, rfl, rfl, rfl, rfl, rfl, rfl, trivial⟩, hf0, by omega, by omega, by omega, by omega, by omega, by first | assumption | simpa using at11x2, by first | assumption | simpa using at14x4, by first | assumption | simpa using at17x9, by first | assumption | simpa using at18x7, by first | assumption | simpa using at1014x9, by omega, by omega, by omega, by omega, by omega, by omega, by omega, by omega, by omega, by omega⟩
    refine .c1 rfl rfl rfl rfl (.allocR rfl ze_29_Hj rfl) ?_
    rintro _ H3x10 ⟨g3x10, rfl, le3x10, ge3x10, at3x10⟩
    replace hbl := hbl.trans le3x10
    refine ⟨hbl, ?_⟩
    replace hle := hle.trans le3x10
    replace at1 := le3x10.2 _ _ at1
    replace at11x2 := le3x10.2 _ _ at11x2
    have lt_at3x10 := GHeap.ltg at3x10
    replace hf0 := hf0.trans le3x10
    refine .orI ?_ ?_
    ·
     replace hin := base_hin.mono hle
     have hb1 : Cat.At _ g1 0 c p := ⟨Mem.of_get at1, hin⟩
     obtain ⟨-, -, -, -, -, i11, -, -, -⟩ := hb1.get
     refine .call1 rfl rfl rfl rfl rfl @Try.call92 rfl (l01Own_c) ?_
     rintro _ H14x5 ⟨le14x5, g14x5, rfl, at14x5, ge14x5⟩
     replace hbl := hbl.trans le14x5
     refine ⟨hbl, ?_⟩
     replace hle := hle.trans le14x5
     replace at1 := le14x5.2 _ _ at1
     replace at11x2 := le14x5.2 _ _ at11x2
     replace at3x10 := le14x5.2 _ _ at3x10
     have lt_at14x5 := GHeap.ltg at14x5
     replace hf0 := hf0.trans le14x5
     refine .orI ?_ ?_
     ·
      replace hin := base_hin.mono hle
      clear hb1 i11
      have hb1 : Cat.At _ g1 0 c p := ⟨Mem.of_get at1, hin⟩
      obtain ⟨-, -, -, -, -, -, -, i31, -⟩ := hb1.get
      refine .call1 rfl rfl rfl rfl rfl @Try.call92 rfl (l01Own_c) ?_
      rintro _ H17x10 ⟨le17x10, g17x10, rfl, at17x10, ge17x10⟩
      replace hbl := hbl.trans le17x10
      refine ⟨hbl, ?_⟩
      replace at11x2 := le17x10.2 _ _ at11x2
      replace at3x10 := le17x10.2 _ _ at3x10
      replace at14x5 := le17x10.2 _ _ at14x5
      have lt_at17x10 := GHeap.ltg at17x10
      replace hf0 := hf0.trans le17x10
      refine .c1 rfl rfl rfl rfl (.litA rfl sl_23_B ze_22_Hj rfl rfl rfl rfl) ?_
      rintro _ H18x8 ⟨g18x8, rfl, le18x8, ge18x8, at18x8⟩
      replace hbl := hbl.trans le18x8
      refine ⟨hbl, ?_⟩
      replace at11x2 := le18x8.2 _ _ at11x2
      replace at3x10 := le18x8.2 _ _ at3x10
      replace at14x5 := le18x8.2 _ _ at14x5
      replace at17x10 := le18x8.2 _ _ at17x10
      replace hf0 := hf0.trans le18x8
      refine .qB rfl hbl (.build bt_29_Hj rfl rfl rfl) ?_
      refine .r1 rfl rfl rfl (.fillA rfl sz_29_D rfl rfl rfl rfl) ?_
      rintro _ H1014x10 ⟨rfl, st1014x10, at1014x10⟩
      replace hbl := hbl.st st1014x10 (fun k hk => ⟨by omega, trivial⟩)
      refine ⟨hbl, ?_⟩
      have ne_g11x2_g3x10 : NE g11x2 g3x10 := .a
      replace at11x2 := st1014x10.s at11x2 ne_g11x2_g3x10.ne
      have ne_g14x5_g3x10 : NE g14x5 g3x10 := .a
      replace at14x5 := st1014x10.s at14x5 ne_g14x5_g3x10.ne
      replace at17x10 := st1014x10.s at17x10
      replace at18x8 := st1014x10.s at18x8
      replace hf0 := hf0.st st1014x10 (fun k hk => ⟨by omega, trivial⟩)
      refine .done ?_
      exact ⟨g11x2, g14x5, g17x10, g18x8, g3x10, ⟨rfl, rfl, rfl, rfl, rfl, rfl, rfl, rfl, trivial⟩, hf0, by omega, by omega, by omega, by omega, by omega, by first | assumption | simpa using at11x2, by first | assumption | simpa using at14x5, by first | assumption | simpa using at17x10, by first | assumption | simpa using at18x8, by first | assumption | simpa using at1014x10, by omega, by omega, by omega, by omega, by omega, by omega, by omega, by omega, by omega, by omega⟩
     refine .c1 rfl rfl rfl rfl (.litA rfl sl_23_B ze_22_Hj rfl rfl rfl rfl) ?_
     rintro _ H18x9 ⟨g18x9, rfl, le18x9, ge18x9, at18x9⟩
     replace hbl := hbl.trans le18x9
     refine ⟨hbl, ?_⟩
     replace hle := hle.trans le18x9
     replace at1 := le18x9.2 _ _ at1
     replace at11x2 := le18x9.2 _ _ at11x2
     replace at3x10 := le18x9.2 _ _ at3x10
     replace at14x5 := le18x9.2 _ _ at14x5
     have lt_at18x9 := GHeap.ltg at18x9
     replace hf0 := hf0.trans le18x9
     replace hin := base_hin.mono hle
     have hb1 : Cat.At _ g1 0 c p := ⟨Mem.of_get at1, hin⟩
     obtain ⟨-, -, -, -, -, -, -, i31, -⟩ := hb1.get
     refine .call1 rfl rfl rfl rfl rfl @Try.call92 rfl (l01Own_c) ?_
     rintro _ H17x11 ⟨le17x11, g17x11, rfl, at17x11, ge17x11⟩
     replace hbl := hbl.trans le17x11
     refine ⟨hbl, ?_⟩
     replace at11x2 := le17x11.2 _ _ at11x2
     replace at3x10 := le17x11.2 _ _ at3x10
     replace at14x5 := le17x11.2 _ _ at14x5
     replace at18x9 := le17x11.2 _ _ at18x9
     replace hf0 := hf0.trans le17x11
     refine .qB rfl hbl (.build bt_29_Hj rfl rfl rfl) ?_
     refine .r1 rfl rfl rfl (.fillA rfl sz_29_D rfl rfl rfl rfl) ?_
     rintro _ H1014x11 ⟨rfl, st1014x11, at1014x11⟩
     replace hbl := hbl.st st1014x11 (fun k hk => ⟨by omega, trivial⟩)
     refine ⟨hbl, ?_⟩
     have ne_g11x2_g3x10 : NE g11x2 g3x10 := .a
     replace at11x2 := st1014x11.s at11x2 ne_g11x2_g3x10.ne
     have ne_g14x5_g3x10 : NE g14x5 g3x10 := .a
     replace at14x5 := st1014x11.s at14x5 ne_g14x5_g3x10.ne
     replace at18x9 := st1014x11.s at18x9
     replace at17x11 := st1014x11.s at17x11
     replace hf0 := hf0.st st1014x11 (fun k hk => ⟨by omega, trivial⟩)
     refine .done ?_
     exact ⟨g11x2, g14x5, g17x11, g18x9, g3x10, ⟨rfl, rfl, rfl, rfl, rfl, rfl, rfl, rfl, trivial⟩, hf0, by omega, by omega, by omega, by omega, by omega, by first | assumption | simpa using at11x2, by first | assumption | simpa using at14x5, by first | assumption | simpa using at17x11, by first | assumption | simpa using at18x9, by first | assumption | simpa using at1014x11, by omega, by omega, by omega, by omega, by omega, by omega, by omega, by omega, by omega, by omega⟩
    refine .c1 rfl rfl rfl rfl (.litA rfl sl_23_B ze_22_Hj rfl rfl rfl rfl) ?_
    rintro _ H18x10 ⟨g18x10, rfl, le18x10, ge18x10, at18x10⟩
    replace hbl := hbl.trans le18x10
    refine ⟨hbl, ?_⟩
    replace hle := hle.trans le18x10
    replace at1 := le18x10.2 _ _ at1
    replace at11x2 := le18x10.2 _ _ at11x2
    replace at3x10 := le18x10.2 _ _ at3x10
    have lt_at18x10 := GHeap.ltg at18x10
    replace hf0 := hf0.trans le18x10
    replace hin := base_hin.mono hle
    have hb1 : Cat.At _ g1 0 c p := ⟨Mem.of_get at1, hin⟩
    obtain ⟨-, -, -, -, -, i11, -, -, -⟩ := hb1.get
    refine .call1 rfl rfl rfl rfl rfl @Try.call92 rfl (l01Own_c) ?_
    rintro _ H14x6 ⟨le14x6, g14x6, rfl, at14x6, ge14x6⟩
    replace hbl := hbl.trans le14x6
    refine ⟨hbl, ?_⟩
    replace hle := hle.trans le14x6
    replace at1 := le14x6.2 _ _ at1
    replace at11x2 := le14x6.2 _ _ at11x2
    replace at3x10 := le14x6.2 _ _ at3x10
    replace at18x10 := le14x6.2 _ _ at18x10
    have lt_at14x6 := GHeap.ltg at14x6
    replace hf0 := hf0.trans le14x6
    replace hin := base_hin.mono hle
    clear hb1 i11
    have hb1 : Cat.At _ g1 0 c p := ⟨Mem.of_get at1, hin⟩
    obtain ⟨-, -, -, -, -, -, -, i31, -⟩ := hb1.get
    refine .call1 rfl rfl rfl rfl rfl @Try.call92 rfl (l01Own_c) ?_
    rintro _ H17x12 ⟨le17x12, g17x12, rfl, at17x12, ge17x12⟩
    replace hbl := hbl.trans le17x12
    refine ⟨hbl, ?_⟩
    replace at11x2 := le17x12.2 _ _ at11x2
    replace at3x10 := le17x12.2 _ _ at3x10
    replace at18x10 := le17x12.2 _ _ at18x10
    replace at14x6 := le17x12.2 _ _ at14x6
    replace hf0 := hf0.trans le17x12
    refine .qB rfl hbl (.build bt_29_Hj rfl rfl rfl) ?_
    refine .r1 rfl rfl rfl (.fillA rfl sz_29_D rfl rfl rfl rfl) ?_
    rintro _ H1014x12 ⟨rfl, st1014x12, at1014x12⟩
    replace hbl := hbl.st st1014x12 (fun k hk => ⟨by omega, trivial⟩)
    refine ⟨hbl, ?_⟩
    have ne_g11x2_g3x10 : NE g11x2 g3x10 := .a
    replace at11x2 := st1014x12.s at11x2 ne_g11x2_g3x10.ne
    replace at18x10 := st1014x12.s at18x10
    replace at14x6 := st1014x12.s at14x6
    replace at17x12 := st1014x12.s at17x12
    replace hf0 := hf0.st st1014x12 (fun k hk => ⟨by omega, trivial⟩)
    refine .done ?_
    exact ⟨g11x2, g14x6, g17x12, g18x10, g3x10, ⟨rfl, rfl, rfl, rfl, rfl, rfl, rfl, rfl, trivial⟩, hf0, by omega, by omega, by omega, by omega, by omega, by first | assumption | simpa using at11x2, by first | assumption | simpa using at14x6, by first | assumption | simpa using at17x12, by first | assumption | simpa using at18x10, by first | assumption | simpa using at1014x12, by omega, by omega, by omega, by omega, by omega, by omega, by omega, by omega, by omega, by omega⟩
   refine .orI ?_ ?_
   ·
    refine .c1 rfl rfl rfl rfl (.litA rfl sl_23_B ze_22_Hj rfl rfl rfl rfl) ?_
    rintro _ H18x11 ⟨g18x11, rfl, le18x11, ge18x11, at18x11⟩
    have hbl := le18x11
    refine ⟨hbl, ?_⟩
    replace hle := hle.trans le18x11
    replace at1 := le18x11.2 _ _ at1
    have lt_at18x11 := GHeap.ltg at18x11
    replace hf0 := hf0.trans le18x11
    refine .orI ?_ ?_
    ·
     replace hin := base_hin.mono hle
     have hb1 : Cat.At _ g1 0 c p := ⟨Mem.of_get at1, hin⟩
     obtain ⟨-, -, -, -, -, -, i21, -, -⟩ := hb1.get
     refine .call1 rfl rfl rfl rfl rfl @Try.call92 rfl (l01Own_c) ?_
     rintro _ H11x3 ⟨le11x3, g11x3, rfl, at11x3, ge11x3⟩
     replace hbl := hbl.trans le11x3
     refine ⟨hbl, ?_⟩
     replace hle := hle.trans le11x3
     replace at1 := le11x3.2 _ _ at1
     replace at18x11 := le11x3.2 _ _ at18x11
     have lt_at11x3 := GHeap.ltg at11x3
     replace hf0 := hf0.trans le11x3
     refine .orI ?_ ?_
     ·
      replace hin := base_hin.mono hle
      clear hb1 i21
      have hb1 : Cat.At _ g1 0 c p := ⟨Mem.of_get at1, hin⟩
      obtain ⟨-, -, -, -, -, i11, -, -, -⟩ := hb1.get
      refine .call1 rfl rfl rfl rfl rfl @Try.call92 rfl (l01Own_c) ?_
      rintro _ H14x7 ⟨le14x7, g14x7, rfl, at14x7, ge14x7⟩
      replace hbl := hbl.trans le14x7
      refine ⟨hbl, ?_⟩
      replace hle := hle.trans le14x7
      replace at1 := le14x7.2 _ _ at1
      replace at18x11 := le14x7.2 _ _ at18x11
      replace at11x3 := le14x7.2 _ _ at11x3
      have lt_at14x7 := GHeap.ltg at14x7
      replace hf0 := hf0.trans le14x7
      refine .orI ?_ ?_
      ·
       replace hin := base_hin.mono hle
       clear hb1 i11
       have hb1 : Cat.At _ g1 0 c p := ⟨Mem.of_get at1, hin⟩
       obtain ⟨-, -, -, -, -, -, -, i31, -⟩ := hb1.get
       refine .call1 rfl rfl rfl rfl rfl @Try.call92 rfl (l01Own_c) ?_
       rintro _ H17x13 ⟨le17x13, g17x13, rfl, at17x13, ge17x13⟩
       replace hbl := hbl.trans le17x13
       refine ⟨hbl, ?_⟩
       replace at18x11 := le17x13.2 _ _ at18x11
       replace at11x3 := le17x13.2 _ _ at11x3
       replace at14x7 := le17x13.2 _ _ at14x7
       have lt_at17x13 := GHeap.ltg at17x13
       replace hf0 := hf0.trans le17x13
       refine .qB rfl hbl (.build bt_29_Hj rfl rfl rfl) ?_
       refine .c1 rfl rfl rfl rfl (.allocR rfl ze_29_Hj rfl) ?_
       rintro _ H3x11 ⟨g3x11, rfl, le3x11, ge3x11, at3x11⟩
       replace hbl := hbl.trans le3x11
       refine ⟨hbl, ?_⟩
       replace at18x11 := le3x11.2 _ _ at18x11
       replace at11x3 := le3x11.2 _ _ at11x3
       replace at14x7 := le3x11.2 _ _ at14x7
       replace at17x13 := le3x11.2 _ _ at17x13
       replace hf0 := hf0.trans le3x11
       refine .r1 rfl rfl rfl (.fillA rfl sz_29_D rfl rfl rfl rfl) ?_
       rintro _ H1014x13 ⟨rfl, st1014x13, at1014x13⟩
       replace hbl := hbl.st st1014x13 (fun k hk => ⟨by omega, trivial⟩)
       refine ⟨hbl, ?_⟩
       replace at18x11 := st1014x13.s at18x11
       replace at11x3 := st1014x13.s at11x3
       replace at14x7 := st1014x13.s at14x7
       replace at17x13 := st1014x13.s at17x13
       replace hf0 := hf0.st st1014x13 (fun k hk => ⟨by omega, trivial⟩)
       refine .done ?_
       exact ⟨g11x3, g14x7, g17x13, g18x11, g3x11, ⟨rfl, rfl, rfl, rfl, rfl, rfl, rfl, rfl, trivial⟩, hf0, by omega, by omega, by omega, by omega, by omega, by first | assumption | simpa using at11x3, by first | assumption | simpa using at14x7, by first | assumption | simpa using at17x13, by first | assumption | simpa using at18x11, by first | assumption | simpa using at1014x13, by omega, by omega, by omega, by omega, by omega, by omega, by omega, by omega, by omega, by omega⟩
      refine .c1 rfl rfl rfl rfl (.allocR rfl ze_29_Hj rfl) ?_
      rintro _ H3x12 ⟨g3x12, rfl, le3x12, ge3x12, at3x12⟩
      replace hbl := hbl.trans le3x12
      refine ⟨hbl, ?_⟩
      replace hle := hle.trans le3x12
      replace at1 := le3x12.2 _ _ at1
      replace at18x11 := le3x12.2 _ _ at18x11
      replace at11x3 := le3x12.2 _ _ at11x3
      replace at14x7 := le3x12.2 _ _ at14x7
      have lt_at3x12 := GHeap.ltg at3x12
      replace hf0 := hf0.trans le3x12
      replace hin := base_hin.mono hle
      have hb1 : Cat.At _ g1 0 c p := ⟨Mem.of_get at1, hin⟩
      obtain ⟨-, -, -, -, -, -, -, i31, -⟩ := hb1.get
      refine .call1 rfl rfl rfl rfl rfl @Try.call92 rfl (l01Own_c) ?_
      rintro _ H17x14 ⟨le17x14, g17x14, rfl, at17x14, ge17x14⟩
      replace hbl := hbl.trans le17x14
      refine ⟨hbl, ?_⟩
      replace at18x11 := le17x14.2 _ _ at18x11
      replace at11x3 := le17x14.2 _ _ at11x3
      replace at14x7 := le17x14.2 _ _ at14x7
      replace at3x12 := le17x14.2 _ _ at3x12
      replace hf0 := hf0.trans le17x14
      refine .qB rfl hbl (.build bt_29_Hj rfl rfl rfl) ?_
      refine .r1 rfl rfl rfl (.fillA rfl sz_29_D rfl rfl rfl rfl) ?_
      rintro _ H1014x14 ⟨rfl, st1014x14, at1014x14⟩
      replace hbl := hbl.st st1014x14 (fun k hk => ⟨by omega, trivial⟩)
      refine ⟨hbl, ?_⟩
      replace at18x11 := st1014x14.s at18x11
      replace at11x3 := st1014x14.s at11x3
      replace at14x7 := st1014x14.s at14x7
      replace at17x14 := st1014x14.s at17x14
      replace hf0 := hf0.st st1014x14 (fun k hk => ⟨by omega, trivial⟩)
      refine .done ?_
      exact ⟨g11x3, g14x7, g17x14, g18x11, g3x12, ⟨rfl, rfl, rfl, rfl, rfl, rfl, rfl, rfl, trivial⟩, hf0, by omega, by omega, by omega, by omega, by omega, by first | assumption | simpa using at11x3, by first | assumption | simpa using at14x7, by first | assumption | simpa using at17x14, by first | assumption | simpa using at18x11, by first | assumption | simpa using at1014x14, by omega, by omega, by omega, by omega, by omega, by omega, by omega, by omega, by omega, by omega⟩
     refine .c1 rfl rfl rfl rfl (.allocR rfl ze_29_Hj rfl) ?_
     rintro _ H3x13 ⟨g3x13, rfl, le3x13, ge3x13, at3x13⟩
     replace hbl := hbl.trans le3x13
     refine ⟨hbl, ?_⟩
     replace hle := hle.trans le3x13
     replace at1 := le3x13.2 _ _ at1
     replace at18x11 := le3x13.2 _ _ at18x11
     replace at11x3 := le3x13.2 _ _ at11x3
     have lt_at3x13 := GHeap.ltg at3x13
     replace hf0 := hf0.trans le3x13
     replace hin := base_hin.mono hle
     have hb1 : Cat.At _ g1 0 c p := ⟨Mem.of_get at1, hin⟩
     obtain ⟨-, -, -, -, -, i11, -, -, -⟩ := hb1.get
     refine .call1 rfl rfl rfl rfl rfl @Try.call92 rfl (l01Own_c) ?_
     rintro _ H14x8 ⟨le14x8, g14x8, rfl, at14x8, ge14x8⟩
     replace hbl := hbl.trans le14x8
     refine ⟨hbl, ?_⟩
     replace hle := hle.trans le14x8
     replace at1 := le14x8.2 _ _ at1
     replace at18x11 := le14x8.2 _ _ at18x11
     replace at11x3 := le14x8.2 _ _ at11x3
     replace at3x13 := le14x8.2 _ _ at3x13
     have lt_at14x8 := GHeap.ltg at14x8
     replace hf0 := hf0.trans le14x8
     replace hin := base_hin.mono hle
     clear hb1 i11
     have hb1 : Cat.At _ g1 0 c p := ⟨Mem.of_get at1, hin⟩
     obtain ⟨-, -, -, -, -, -, -, i31, -⟩ := hb1.get
     refine .call1 rfl rfl rfl rfl rfl @Try.call92 rfl (l01Own_c) ?_
     rintro _ H17x15 ⟨le17x15, g17x15, rfl, at17x15, ge17x15⟩
     replace hbl := hbl.trans le17x15
     refine ⟨hbl, ?_⟩
     replace at18x11 := le17x15.2 _ _ at18x11
     replace at11x3 := le17x15.2 _ _ at11x3
     replace at3x13 := le17x15.2 _ _ at3x13
     replace at14x8 := le17x15.2 _ _ at14x8
     replace hf0 := hf0.trans le17x15
     refine .qB rfl hbl (.build bt_29_Hj rfl rfl rfl) ?_
     refine .r1 rfl rfl rfl (.fillA rfl sz_29_D rfl rfl rfl rfl) ?_
     rintro _ H1014x15 ⟨rfl, st1014x15, at1014x15⟩
     replace hbl := hbl.st st1014x15 (fun k hk => ⟨by omega, trivial⟩)
     refine ⟨hbl, ?_⟩
     replace at18x11 := st1014x15.s at18x11
     replace at11x3 := st1014x15.s at11x3
     replace at14x8 := st1014x15.s at14x8
     replace at17x15 := st1014x15.s at17x15
     replace hf0 := hf0.st st1014x15 (fun k hk => ⟨by omega, trivial⟩)
     refine .done ?_
     exact ⟨g11x3, g14x8, g17x15, g18x11, g3x13, ⟨rfl, rfl, rfl, rfl, rfl, rfl, rfl, rfl, trivial⟩, hf0, by omega, by omega, by omega, by omega, by omega, by first | assumption | simpa using at11x3, by first | assumption | simpa using at14x8, by first | assumption | simpa using at17x15, by first | assumption | simpa using at18x11, by first | assumption | simpa using at1014x15, by omega, by omega, by omega, by omega, by omega, by omega, by omega, by omega, by omega, by omega⟩
    refine .c1 rfl rfl rfl rfl (.allocR rfl ze_29_Hj rfl) ?_
    rintro _ H3x14 ⟨g3x14, rfl, le3x14, ge3x14, at3x14⟩
    replace hbl := hbl.trans le3x14
    refine ⟨hbl, ?_⟩
    replace hle := hle.trans le3x14
    replace at1 := le3x14.2 _ _ at1
    replace at18x11 := le3x14.2 _ _ at18x11
    have lt_at3x14 := GHeap.ltg at3x14
    replace hf0 := hf0.trans le3x14
    replace hin := base_hin.mono hle
    have hb1 : Cat.At _ g1 0 c p := ⟨Mem.of_get at1, hin⟩
    obtain ⟨-, -, -, -, -, -, i21, -, -⟩ := hb1.get
    refine .call1 rfl rfl rfl rfl rfl @Try.call92 rfl (l01Own_c) ?_
    rintro _ H11x4 ⟨le11x4, g11x4, rfl, at11x4, ge11x4⟩
    replace hbl := hbl.trans le11x4
    refine ⟨hbl, ?_⟩
    replace hle := hle.trans le11x4
    replace at1 := le11x4.2 _ _ at1
    replace at18x11 := le11x4.2 _ _ at18x11
    replace at3x14 := le11x4.2 _ _ at3x14
    have lt_at11x4 := GHeap.ltg at11x4
    replace hf0 := hf0.trans le11x4
    replace hin := base_hin.mono hle
    clear hb1 i21
    have hb1 : Cat.At _ g1 0 c p := ⟨Mem.of_get at1, hin⟩
    obtain ⟨-, -, -, -, -, i11, -, -, -⟩ := hb1.get
    refine .call1 rfl rfl rfl rfl rfl @Try.call92 rfl (l01Own_c) ?_
    rintro _ H14x9 ⟨le14x9, g14x9, rfl, at14x9, ge14x9⟩
    replace hbl := hbl.trans le14x9
    refine ⟨hbl, ?_⟩
    replace hle := hle.trans le14x9
    replace at1 := le14x9.2 _ _ at1
    replace at18x11 := le14x9.2 _ _ at18x11
    replace at3x14 := le14x9.2 _ _ at3x14
    replace at11x4 := le14x9.2 _ _ at11x4
    have lt_at14x9 := GHeap.ltg at14x9
    replace hf0 := hf0.trans le14x9
    replace hin := base_hin.mono hle
    clear hb1 i11
    have hb1 : Cat.At _ g1 0 c p := ⟨Mem.of_get at1, hin⟩
    obtain ⟨-, -, -, -, -, -, -, i31, -⟩ := hb1.get
    refine .call1 rfl rfl rfl rfl rfl @Try.call92 rfl (l01Own_c) ?_
    rintro _ H17x16 ⟨le17x16, g17x16, rfl, at17x16, ge17x16⟩
    replace hbl := hbl.trans le17x16
    refine ⟨hbl, ?_⟩
    replace at18x11 := le17x16.2 _ _ at18x11
    replace at3x14 := le17x16.2 _ _ at3x14
    replace at11x4 := le17x16.2 _ _ at11x4
    replace at14x9 := le17x16.2 _ _ at14x9
    replace hf0 := hf0.trans le17x16
    refine .qB rfl hbl (.build bt_29_Hj rfl rfl rfl) ?_
    refine .r1 rfl rfl rfl (.fillA rfl sz_29_D rfl rfl rfl rfl) ?_
    rintro _ H1014x16 ⟨rfl, st1014x16, at1014x16⟩
    replace hbl := hbl.st st1014x16 (fun k hk => ⟨by omega, trivial⟩)
    refine ⟨hbl, ?_⟩
    replace at18x11 := st1014x16.s at18x11
    replace at11x4 := st1014x16.s at11x4
    replace at14x9 := st1014x16.s at14x9
    replace at17x16 := st1014x16.s at17x16
    replace hf0 := hf0.st st1014x16 (fun k hk => ⟨by omega, trivial⟩)
    refine .done ?_
    exact ⟨g11x4, g14x9, g17x16, g18x11, g3x14, ⟨rfl, rfl, rfl, rfl, rfl, rfl, rfl, rfl, trivial⟩, hf0, by omega, by omega, by omega, by omega, by omega, by first | assumption | simpa using at11x4, by first | assumption | simpa using at14x9, by first | assumption | simpa using at17x16, by first | assumption | simpa using at18x11, by first | assumption | simpa using at1014x16, by omega, by omega, by omega, by omega, by omega, by omega, by omega, by omega, by omega, by omega⟩
   refine .c1 rfl rfl rfl rfl (.allocR rfl ze_29_Hj rfl) ?_
   rintro _ H3x15 ⟨g3x15, rfl, le3x15, ge3x15, at3x15⟩
   have hbl := le3x15
   refine ⟨hbl, ?_⟩
   replace hle := hle.trans le3x15
   replace at1 := le3x15.2 _ _ at1
   have lt_at3x15 := GHeap.ltg at3x15
   replace hf0 := hf0.trans le3x15
   refine .orI ?_ ?_
   ·
    replace hin := base_hin.mono hle
    have hb1 : Cat.At _ g1 0 c p := ⟨Mem.of_get at1, hin⟩
    obtain ⟨-, -, -, -, -, -, i21, -, -⟩ := hb1.get
    refine .call1 rfl rfl rfl rfl rfl @Try.call92 rfl (l01Own_c) ?_
    rintro _ H11x5 ⟨le11x5, g11x5, rfl, at11x5, ge11x5⟩
    replace hbl := hbl.trans le11x5
    refine ⟨hbl, ?_⟩
    replace hle := hle.trans le11x5
    replace at1 := le11x5.2 _ _ at1
    replace at3x15 := le11x5.2 _ _ at3x15
    have lt_at11x5 := GHeap.ltg at11x5
    replace hf0 := hf0.trans le11x5
    refine .orI ?_ ?_
    ·
     replace hin := base_hin.mono hle
     clear hb1 i21
     have hb1 : Cat.At _ g1 0 c p := ⟨Mem.of_get at1, hin⟩
     obtain ⟨-, -, -, -, -, i11, -, -, -⟩ := hb1.get
     refine .call1 rfl rfl rfl rfl rfl @Try.call92 rfl (l01Own_c) ?_
     rintro _ H14x10 ⟨le14x10, g14x10, rfl, at14x10, ge14x10⟩
     replace hbl := hbl.trans le14x10
     refine ⟨hbl, ?_⟩
     replace hle := hle.trans le14x10
     replace at1 := le14x10.2 _ _ at1
     replace at3x15 := le14x10.2 _ _ at3x15
     replace at11x5 := le14x10.2 _ _ at11x5
     have lt_at14x10 := GHeap.ltg at14x10
     replace hf0 := hf0.trans le14x10
     refine .orI ?_ ?_
     ·
      replace hin := base_hin.mono hle
      clear hb1 i11
      have hb1 : Cat.At _ g1 0 c p := ⟨Mem.of_get at1, hin⟩
      obtain ⟨-, -, -, -, -, -, -, i31, -⟩ := hb1.get
      refine .call1 rfl rfl rfl rfl rfl @Try.call92 rfl (l01Own_c) ?_
      rintro _ H17x17 ⟨le17x17, g17x17, rfl, at17x17, ge17x17⟩
      replace hbl := hbl.trans le17x17
      refine ⟨hbl, ?_⟩
      replace at3x15 := le17x17.2 _ _ at3x15
      replace at11x5 := le17x17.2 _ _ at11x5
      replace at14x10 := le17x17.2 _ _ at14x10
      have lt_at17x17 := GHeap.ltg at17x17
      replace hf0 := hf0.trans le17x17
      refine .c1 rfl rfl rfl rfl (.litA rfl sl_23_B ze_22_Hj rfl rfl rfl rfl) ?_
      rintro _ H18x12 ⟨g18x12, rfl, le18x12, ge18x12, at18x12⟩
      replace hbl := hbl.trans le18x12
      refine ⟨hbl, ?_⟩
      replace at3x15 := le18x12.2 _ _ at3x15
      replace at11x5 := le18x12.2 _ _ at11x5
      replace at14x10 := le18x12.2 _ _ at14x10
      replace at17x17 := le18x12.2 _ _ at17x17
      replace hf0 := hf0.trans le18x12
      refine .qB rfl hbl (.build bt_29_Hj rfl rfl rfl) ?_
      refine .r1 rfl rfl rfl (.fillA rfl sz_29_D rfl rfl rfl rfl) ?_
      rintro _ H1014x17 ⟨rfl, st1014x17, at1014x17⟩
      replace hbl := hbl.st st1014x17 (fun k hk => ⟨by omega, trivial⟩)
      refine ⟨hbl, ?_⟩
      have ne_g11x5_g3x15 : NE g11x5 g3x15 := .a
      replace at11x5 := st1014x17.s at11x5 ne_g11x5_g3x15.ne
      have ne_g14x10_g3x15 : NE g14x10 g3x15 := .a
      replace at14x10 := st1014x17.s at14x10 ne_g14x10_g3x15.ne
      replace at17x17 := st1014x17.s at17x17
      replace at18x12 := st1014x17.s at18x12
      replace hf0 := hf0.st st1014x17 (fun k hk => ⟨by omega, trivial⟩)
      refine .done ?_
      exact ⟨g11x5, g14x10, g17x17, g18x12, g3x15, ⟨rfl, rfl, rfl, rfl, rfl, rfl, rfl, rfl, trivial⟩, hf0, by omega, by omega, by omega, by omega, by omega, by first | assumption | simpa using at11x5, by first | assumption | simpa using at14x10, by first | assumption | simpa using at17x17, by first | assumption | simpa using at18x12, by first | assumption | simpa using at1014x17, by omega, by omega, by omega, by omega, by omega, by omega, by omega, by omega, by omega, by omega⟩
     refine .c1 rfl rfl rfl rfl (.litA rfl sl_23_B ze_22_Hj rfl rfl rfl rfl) ?_
     rintro _ H18x13 ⟨g18x13, rfl, le18x13, ge18x13, at18x13⟩
     replace hbl := hbl.trans le18x13
     refine ⟨hbl, ?_⟩
     replace hle := hle.trans le18x13
     replace at1 := le18x13.2 _ _ at1
     replace at3x15 := le18x13.2 _ _ at3x15
     replace at11x5 := le18x13.2 _ _ at11x5
     replace at14x10 := le18x13.2 _ _ at14x10
     have lt_at18x13 := GHeap.ltg at18x13
     replace hf0 := hf0.trans le18x13
     replace hin := base_hin.mono hle
     have hb1 : Cat.At _ g1 0 c p := ⟨Mem.of_get at1, hin⟩
     obtain ⟨-, -, -, -, -, -, -, i31, -⟩ := hb1.get
     refine .call1 rfl rfl rfl rfl rfl @Try.call92 rfl (l01Own_c) ?_
     rintro _ H17x18 ⟨le17x18, g17x18, rfl, at17x18, ge17x18⟩
     replace hbl := hbl.trans le17x18
     refine ⟨hbl, ?_⟩
     replace at3x15 := le17x18.2 _ _ at3x15
     replace at11x5 := le17x18.2 _ _ at11x5
     replace at14x10 := le17x18.2 _ _ at14x10
     replace at18x13 := le17x18.2 _ _ at18x13
     replace hf0 := hf0.trans le17x18
     refine .qB rfl hbl (.build bt_29_Hj rfl rfl rfl) ?_
     refine .r1 rfl rfl rfl (.fillA rfl sz_29_D rfl rfl rfl rfl) ?_
     rintro _ H1014x18 ⟨rfl, st1014x18, at1014x18⟩
     replace hbl := hbl.st st1014x18 (fun k hk => ⟨by omega, trivial⟩)
     refine ⟨hbl, ?_⟩
     have ne_g11x5_g3x15 : NE g11x5 g3x15 := .a
     replace at11x5 := st1014x18.s at11x5 ne_g11x5_g3x15.ne
     have ne_g14x10_g3x15 : NE g14x10 g3x15 := .a
     replace at14x10 := st1014x18.s at14x10 ne_g14x10_g3x15.ne
     replace at18x13 := st1014x18.s at18x13
     replace at17x18 := st1014x18.s at17x18
     replace hf0 := hf0.st st1014x18 (fun k hk => ⟨by omega, trivial⟩)
     refine .done ?_
     exact ⟨g11x5, g14x10, g17x18, g18x13, g3x15, ⟨rfl, rfl, rfl, rfl, rfl, rfl, rfl, rfl, trivial⟩, hf0, by omega, by omega, by omega, by omega, by omega, by first | assumption | simpa using at11x5, by first | assumption | simpa using at14x10, by first | assumption | simpa using at17x18, by first | assumption | simpa using at18x13, by first | assumption | simpa using at1014x18, by omega, by omega, by omega, by omega, by omega, by omega, by omega, by omega, by omega, by omega⟩
    refine .c1 rfl rfl rfl rfl (.litA rfl sl_23_B ze_22_Hj rfl rfl rfl rfl) ?_
    rintro _ H18x14 ⟨g18x14, rfl, le18x14, ge18x14, at18x14⟩
    replace hbl := hbl.trans le18x14
    refine ⟨hbl, ?_⟩
    replace hle := hle.trans le18x14
    replace at1 := le18x14.2 _ _ at1
    replace at3x15 := le18x14.2 _ _ at3x15
    replace at11x5 := le18x14.2 _ _ at11x5
    have lt_at18x14 := GHeap.ltg at18x14
    replace hf0 := hf0.trans le18x14
    replace hin := base_hin.mono hle
    have hb1 : Cat.At _ g1 0 c p := ⟨Mem.of_get at1, hin⟩
    obtain ⟨-, -, -, -, -, i11, -, -, -⟩ := hb1.get
    refine .call1 rfl rfl rfl rfl rfl @Try.call92 rfl (l01Own_c) ?_
    rintro _ H14x11 ⟨le14x11, g14x11, rfl, at14x11, ge14x11⟩
    replace hbl := hbl.trans le14x11
    refine ⟨hbl, ?_⟩
    replace hle := hle.trans le14x11
    replace at1 := le14x11.2 _ _ at1
    replace at3x15 := le14x11.2 _ _ at3x15
    replace at11x5 := le14x11.2 _ _ at11x5
    replace at18x14 := le14x11.2 _ _ at18x14
    have lt_at14x11 := GHeap.ltg at14x11
    replace hf0 := hf0.trans le14x11
    replace hin := base_hin.mono hle
    clear hb1 i11
    have hb1 : Cat.At _ g1 0 c p := ⟨Mem.of_get at1, hin⟩
    obtain ⟨-, -, -, -, -, -, -, i31, -⟩ := hb1.get
    refine .call1 rfl rfl rfl rfl rfl @Try.call92 rfl (l01Own_c) ?_
    rintro _ H17x19 ⟨le17x19, g17x19, rfl, at17x19, ge17x19⟩
    replace hbl := hbl.trans le17x19
    refine ⟨hbl, ?_⟩
    replace at3x15 := le17x19.2 _ _ at3x15
    replace at11x5 := le17x19.2 _ _ at11x5
    replace at18x14 := le17x19.2 _ _ at18x14
    replace at14x11 := le17x19.2 _ _ at14x11
    replace hf0 := hf0.trans le17x19
    refine .qB rfl hbl (.build bt_29_Hj rfl rfl rfl) ?_
    refine .r1 rfl rfl rfl (.fillA rfl sz_29_D rfl rfl rfl rfl) ?_
    rintro _ H1014x19 ⟨rfl, st1014x19, at1014x19⟩
    replace hbl := hbl.st st1014x19 (fun k hk => ⟨by omega, trivial⟩)
    refine ⟨hbl, ?_⟩
    have ne_g11x5_g3x15 : NE g11x5 g3x15 := .a
    replace at11x5 := st1014x19.s at11x5 ne_g11x5_g3x15.ne
    replace at18x14 := st1014x19.s at18x14
    replace at14x11 := st1014x19.s at14x11
    replace at17x19 := st1014x19.s at17x19
    replace hf0 := hf0.st st1014x19 (fun k hk => ⟨by omega, trivial⟩)
    refine .done ?_
    exact ⟨g11x5, g14x11, g17x19, g18x14, g3x15, ⟨rfl, rfl, rfl, rfl, rfl, rfl, rfl, rfl, trivial⟩, hf0, by omega, by omega, by omega, by omega, by omega, by first | assumption | simpa using at11x5, by first | assumption | simpa using at14x11, by first | assumption | simpa using at17x19, by first | assumption | simpa using at18x14, by first | assumption | simpa using at1014x19, by omega, by omega, by omega, by omega, by omega, by omega, by omega, by omega, by omega, by omega⟩
   refine .c1 rfl rfl rfl rfl (.litA rfl sl_23_B ze_22_Hj rfl rfl rfl rfl) ?_
   rintro _ H18x15 ⟨g18x15, rfl, le18x15, ge18x15, at18x15⟩
   replace hbl := hbl.trans le18x15
   refine ⟨hbl, ?_⟩
   replace hle := hle.trans le18x15
   replace at1 := le18x15.2 _ _ at1
   replace at3x15 := le18x15.2 _ _ at3x15
   have lt_at18x15 := GHeap.ltg at18x15
   replace hf0 := hf0.trans le18x15
   replace hin := base_hin.mono hle
   have hb1 : Cat.At _ g1 0 c p := ⟨Mem.of_get at1, hin⟩
   obtain ⟨-, -, -, -, -, -, i21, -, -⟩ := hb1.get
   refine .call1 rfl rfl rfl rfl rfl @Try.call92 rfl (l01Own_c) ?_
   rintro _ H11x6 ⟨le11x6, g11x6, rfl, at11x6, ge11x6⟩
   replace hbl := hbl.trans le11x6
   refine ⟨hbl, ?_⟩
   replace hle := hle.trans le11x6
   replace at1 := le11x6.2 _ _ at1
   replace at3x15 := le11x6.2 _ _ at3x15
   replace at18x15 := le11x6.2 _ _ at18x15
   have lt_at11x6 := GHeap.ltg at11x6
   replace hf0 := hf0.trans le11x6
   replace hin := base_hin.mono hle
   clear hb1 i21
   have hb1 : Cat.At _ g1 0 c p := ⟨Mem.of_get at1, hin⟩
   obtain ⟨-, -, -, -, -, i11, -, -, -⟩ := hb1.get
   refine .call1 rfl rfl rfl rfl rfl @Try.call92 rfl (l01Own_c) ?_
   rintro _ H14x12 ⟨le14x12, g14x12, rfl, at14x12, ge14x12⟩
   replace hbl := hbl.trans le14x12
   refine ⟨hbl, ?_⟩
   replace hle := hle.trans le14x12
   replace at1 := le14x12.2 _ _ at1
   replace at3x15 := le14x12.2 _ _ at3x15
   replace at18x15 := le14x12.2 _ _ at18x15
   replace at11x6 := le14x12.2 _ _ at11x6
   have lt_at14x12 := GHeap.ltg at14x12
   replace hf0 := hf0.trans le14x12
   replace hin := base_hin.mono hle
   clear hb1 i11
   have hb1 : Cat.At _ g1 0 c p := ⟨Mem.of_get at1, hin⟩
   obtain ⟨-, -, -, -, -, -, -, i31, -⟩ := hb1.get
   refine .call1 rfl rfl rfl rfl rfl @Try.call92 rfl (l01Own_c) ?_
   rintro _ H17x20 ⟨le17x20, g17x20, rfl, at17x20, ge17x20⟩
   replace hbl := hbl.trans le17x20
   refine ⟨hbl, ?_⟩
   replace at3x15 := le17x20.2 _ _ at3x15
   replace at18x15 := le17x20.2 _ _ at18x15
   replace at11x6 := le17x20.2 _ _ at11x6
   replace at14x12 := le17x20.2 _ _ at14x12
   replace hf0 := hf0.trans le17x20
   refine .qB rfl hbl (.build bt_29_Hj rfl rfl rfl) ?_
   refine .r1 rfl rfl rfl (.fillA rfl sz_29_D rfl rfl rfl rfl) ?_
   rintro _ H1014x20 ⟨rfl, st1014x20, at1014x20⟩
   replace hbl := hbl.st st1014x20 (fun k hk => ⟨by omega, trivial⟩)
   refine ⟨hbl, ?_⟩
   replace at18x15 := st1014x20.s at18x15
   replace at11x6 := st1014x20.s at11x6
   replace at14x12 := st1014x20.s at14x12
   replace at17x20 := st1014x20.s at17x20
   replace hf0 := hf0.st st1014x20 (fun k hk => ⟨by omega, trivial⟩)
   refine .done ?_
   exact ⟨g11x6, g14x12, g17x20, g18x15, g3x15, ⟨rfl, rfl, rfl, rfl, rfl, rfl, rfl, rfl, trivial⟩, hf0, by omega, by omega, by omega, by omega, by omega, by first | assumption | simpa using at11x6, by first | assumption | simpa using at14x12, by first | assumption | simpa using at17x20, by first | assumption | simpa using at18x15, by first | assumption | simpa using at1014x20, by omega, by omega, by omega, by omega, by omega, by omega, by omega, by omega, by omega, by omega⟩
  rintro fr3 H3 ⟨g11, g14, g17, g18, g3, hsub3, le3, ge11, ge14, ge17, ge18, ge3, at11, at14, at17, at18, at3, ne3_0, ne3_1, ne3_2, ne3_3, ne3_4, ne3_5, ne3_6, ne3_7, ne3_8, ne3_9⟩
  have nx_H3 := le3.1
  replace hle := hle.trans le3
  replace at1 := le3.2 _ _ at1
  replace at2 := le3.2 _ _ at2
  have lt_at11 := GHeap.ltg at11
  have lt_at14 := GHeap.ltg at14
  have lt_at17 := GHeap.ltg at17
  have lt_at3 := GHeap.ltg at3
  replace hin := base_hin.mono hle
  have hb1 : Cat.At _ g1 0 c p := ⟨Mem.of_get at1, hin⟩
  refine hK2 _ _ ?_
  refine .forget hsub3 ?_
  refine .seq (fun K3 hK3 => .seq (fun K4 hK4 => .region (.mv rfl (.nil (hK4 _ _ ?_)))))
  refine .block ?_
  refine .loopR (σ := Nat × (Nat → Option Addr) × Nat) [(1, some _), (2, some _), (3, some _)] (fun (f, rc, gLC) => [(4, some (.int .i64 (f : Int)))]) (fun (f, rc, gLC) H' => St [g18, g3] H3 H' ∧ H'.get gLC = some (.row ((slsL rc (c.opTab f))) 22 true) ∧ (gLC = g18 ∨ H3.next ≤ gLC) ∧ H'.get g3 = some (.row ([.int .i64 c.obj, .slice (some ⟨g11, 0, none⟩) c.tgt.length c.tgt.length, .slice (some ⟨g14, 0, none⟩) c.src.length c.src.length, .slice (some ⟨g17, 0, none⟩) c.idn.length c.idn.length, .slice (some ⟨gLC, 0, none⟩) f f]) 29 true) ∧ gLC ≠ g3 ∧ f ≤ c.src.length ∧ OwnL H3.next H' 2 rc (c.opTab f)) (fun (f, rc, gLC) => c.src.length - f) ((0, fun _ => none, g18)) ⟨rfl, rfl, rfl, trivial⟩ ⟨rfl, trivial⟩ ?_ ?_
  ·
   refine ⟨.refl _ _, by assumption, .inl rfl, by assumption, by omega, ?_⟩
   exact ⟨by omega, .nil _ _ _ _⟩
  rintro ⟨f, rc, gLC⟩ HL1 ⟨lst1, at_LC, pl_LC, at_Lg3, ap1_0, hI⟩ KL1 hKL1
  refine .forget (fr' := [(4, some (.int .i64 (f : Int))), (1, some _), (2, some _), (3, some _)]) ⟨rfl, rfl, rfl, rfl, trivial⟩ ?_
  have ge_LC : H.next ≤ gLC := by omega
  have nx_HL1 := lst1.nx
  replace hle := hle.st lst1 (fun k hk => ⟨by omega, by omega, trivial⟩)
  have ne_g1_g3 : NE g1 g3 := .a
  replace at1 := lst1.same _ _ ⟨(by first | assumption | omega), ne_g1_g3.ne, trivial⟩ at1
  replace at2 := lst1.same _ _ ⟨(by first | assumption | omega), (by first | assumption | omega), trivial⟩ at2
  replace at11 := lst1.same _ _ ⟨(by first | assumption | omega), (by first | assumption | omega), trivial⟩ at11
  replace at14 := lst1.same _ _ ⟨(by first | assumption | omega), (by first | assumption | omega), trivial⟩ at14
  replace at17 := lst1.same _ _ ⟨(by first | assumption | omega), (by first | assumption | omega), trivial⟩ at17
  have lt_at_LC := GHeap.ltg at_LC
  have lt_at_Lg3 := GHeap.ltg at_Lg3
  replace hin := base_hin.mono hle
  clear hb1
  have hb1 : Cat.At _ g1 0 c p := ⟨Mem.of_get at1, hin⟩
  obtain ⟨-, c11, -, -, -, -, -, -, -⟩ := hb1.get
  have rk := St.refl [gLC, g3] HL1
  obtain ⟨hf, hR⟩ := hI
  have hatC := at_LC
  have hat3 := at_Lg3
  have hql := c.length_opTab f
  have hfl : (slsL rc (c.opTab f)).length = (c.opTab f).length := length_slsL _ _
  refine .seq (fun K5 hK5 => .seq (fun K6 hK6 => .region (.mv rfl (.q rfl (.fieldAddr fo_29_1_B rfl) ?_))))
  refine .q rfl (.load on_22_B rfl (by first | assumption | exact Mem.of_get at1 1 _ rfl)) ?_
  refine .q rfl (.len sl_22_A rfl) (.q rfl (.cmp rfl rfl rfl) (.nil (hK6 _ _ ?_)))
  refine .cond rfl (fun h24 => ?_) (fun h24 => ?_)
  ·
   simp only [sps] at h24
   refine .skip ?_
   refine hK5 _ _ (.seq (fun K7 hK7 => ?_))
   refine .block ?_
   refine .seq (fun K8 hK8 => .region ?_)
   refine .R rfl (.litA rfl sl_22_A ze_2_L rfl rfl rfl rfl) ?_
   rintro _ H27 ⟨g27, rfl, le27, ge27, at27⟩
   replace hle := hle.trans le27
   replace lst1 := lst1.le le27
   replace rk := rk.le le27
   replace at1 := le27.2 _ _ at1
   replace at_LC := le27.2 _ _ at_LC
   replace at_Lg3 := le27.2 _ _ at_Lg3
   have lt_at27 := GHeap.ltg at27
   replace hin := base_hin.mono hle
   clear hb1 c11
   have hb1 : Cat.At _ g1 0 c p := ⟨Mem.of_get at1, hin⟩
   replace at27 : GHeap.get H27 g27 = some (.row (ints []) 2 true) := at27
   refine .mv rfl (.nil (hK8 _ _ (.seq (fun K9 hK9 => .seq (fun K10 hK10 => .region (.mv rfl (.nil (hK10 _ _ ?_))))))))
   refine .block ?_
   refine .loopR (σ := Nat × Nat × Nat) [(1, some _), (2, some _), (3, some _), (4, some _)] (fun (g, gL5, nL5) => [(6, some (.int .i64 (g : Int))), (5, some (.slice (some ⟨gL5, 0, none⟩) nL5 nL5))]) (fun (g, gL5, nL5) H' => St [g27] H27 H' ∧ H'.get gL5 = some (.row (ints (c.opRow f g)) 2 true) ∧ (gL5 = g27 ∨ H27.next ≤ gL5) ∧ nL5 = (c.opRow f g).length ∧ g ≤ c.src.length) (fun (g, gL5, nL5) => c.src.length - g) ((0, _, _)) ⟨rfl, rfl, rfl, rfl, trivial⟩ ⟨rfl, rfl, trivial⟩ ?_ ?_
   ·
    refine ⟨.refl _ _, by assumption, .inl rfl, by rfl, ?_⟩
    omega
   rintro ⟨g, gL5, nL5⟩ HL2 ⟨lst2, at_L5, pl_L5, ln_L5, hI⟩ KL2 hKL2
   refine .forget (fr' := [(6, some (.int .i64 (g : Int))), (5, some (.slice (some ⟨gL5, 0, none⟩) nL5 nL5)), (1, some _), (2, some _), (3, some _), (4, some _)]) ⟨rfl, rfl, rfl, rfl, rfl, rfl, trivial⟩ ?_
   have ge_L5 : H.next ≤ gL5 := by omega
   have nx_HL2 := lst2.nx
   replace hle := hle.st lst2 (fun k hk => ⟨by omega, trivial⟩)
   replace lst1 := lst1.sA lst2
   replace rk := rk.sA lst2
   replace at1 := lst2.s at1
   replace at_LC := lst2.s at_LC
   replace at_Lg3 := lst2.s at_Lg3
   replace hin := base_hin.mono hle
   clear hb1
   have hb1 : Cat.At _ g1 0 c p := ⟨Mem.of_get at1, hin⟩
   obtain ⟨-, c11, -, -, c41, -, -, -, i41⟩ := hb1.get
   have hrl := c.length_opRow f g
   refine .seq (fun K11 hK11 => .seq (fun K12 hK12 => .region (.mv rfl (.q rfl (.fieldAddr fo_29_1_B rfl) ?_))))
   refine .q rfl (.load on_22_B rfl (by first | assumption | exact Mem.of_get at1 1 _ rfl)) ?_
   refine .q rfl (.len sl_22_A rfl) (.q rfl (.cmp rfl rfl rfl) (.nil (hK12 _ _ ?_)))
   refine .cond rfl (fun h32 => ?_) (fun h32 => ?_)
   ·
    simp only [sps] at h32
    have b9g := b9 g (by omega)
    have u1 := i41.2 g (by omega)
    refine .skip ?_
    refine hK11 _ _ (.seq (fun K13 hK13 => ?_))
    refine .block ?_
    refine .region (.mv rfl (.q rfl (.fieldAddr fo_29_4_B rfl) ?_))
    refine .q rfl (.load on_23_B rfl (by first | assumption | exact Mem.of_get at1 4 _ rfl)) ?_
    refine .mv rfl ?_
    refine .q rfl (.idxN sl_23_B (Intss.sl (by assumption)) rfl rfl (by omega)) ?_
    refine .q rfl (.loadR on_22_B (by assumption) rfl (by omega)) ?_
    refine .mv rfl ?_
    refine .q rfl (.idxN sl_22_A (by assumption) rfl rfl (by omega)) ?_
    refine .q rfl (.loadI on_2_A (by assumption) rfl (by omega)) ?_
    refine .R rfl (.litA rfl sl_22_A ze_2_L rfl rfl rfl rfl) ?_
    rintro _ H44 ⟨g44, rfl, le44, ge44, at44⟩
    replace hle := hle.trans le44
    replace lst2 := lst2.le le44
    replace at1 := le44.2 _ _ at1
    replace at_L5 := le44.2 _ _ at_L5
    have lt_at44 := GHeap.ltg at44
    replace hin := base_hin.mono hle
    clear hb1 c11 c41 i41
    have hb1 : Cat.At _ g1 0 c p := ⟨Mem.of_get at1, hin⟩
    clear u1
    refine .R rfl (.appendI rfl sl_22_A ze_2_L rfl by_2_L sl_22_A rfl rfl (by assumption) (by assumption) (by first | omega | (simp <;> omega)) (by omega) (by omega)) ?_
    rintro _ H45 ⟨g45, rfl, st45, ge45, at45⟩
    replace hle := hle.st st45 (fun k hk => ⟨by omega, trivial⟩)
    replace lst2 := lst2.sA st45
    replace at1 := st45.s at1
    replace hin := base_hin.mono hle
    clear hb1
    have hb1 : Cat.At _ g1 0 c p := ⟨Mem.of_get at1, hin⟩
    refine .mv rfl (.nil (hK13 _ _ (.region (.mv rfl ?_))))
    refine .q rfl (.add rfl rfl rfl (by omega) (by omega)) ?_
    refine .mv rfl (.nil ?_)
    refine hKL2 ((g + 1, _, _)) _ _ ?_ ?_ ⟨rfl, rfl, rfl, rfl, rfl, rfl, trivial⟩
    ·
     refine ⟨lst2, by (rw [Cat.opRow_snoc]; assumption), by omega, by (rw [Cat.opRow_snoc] <;> (first | omega | (simp only [List.length_append, List.length_cons, List.length_nil] <;> omega))), ?_⟩
     omega
    (dsimp only; omega)
   try simp only [sps] at h32
   refine .exit ?_
   refine hK9 _ _ (.region ?_)
   obtain rfl : g = c.src.length := by omega
   have hrl2 := ln_L5.symm
   refine .q rfl (.fieldAddr fo_29_4_B rfl) ?_
   refine .q rfl (.load on_23_B rfl (by first | assumption | exact Mem.of_get at_Lg3 4 _ rfl)) ?_
   refine .mv rfl ?_
   refine .R rfl (.litA rfl sl_23_B ze_22_Hj rfl rfl rfl rfl) ?_
   rintro _ H49 ⟨g49, rfl, le49, ge49, at49⟩
   replace hle := hle.trans le49
   replace lst1 := lst1.le le49
   replace rk := rk.le le49
   replace at1 := le49.2 _ _ at1
   replace at_LC := le49.2 _ _ at_LC
   replace at_Lg3 := le49.2 _ _ at_Lg3
   replace at_L5 := le49.2 _ _ at_L5
   have lt_at49 := GHeap.ltg at49
   replace hin := base_hin.mono hle
   have hb1 : Cat.At _ g1 0 c p := ⟨Mem.of_get at1, hin⟩
   refine .R rfl (.appendV rfl sl_23_B ze_22_Hj rfl by_22_Hj sl_23_B rfl rfl (by assumption) (by assumption) (by first | omega | (simp <;> omega)) rfl rfl (by omega) (by omega)) ?_
   rintro _ H50 ⟨g50, rfl, st50, ge50, at50⟩
   replace hle := hle.st st50 (fun k hk => ⟨by omega, trivial⟩)
   replace lst1 := lst1.sA st50
   replace rk := rk.sA st50
   replace at1 := st50.s at1
   replace at_Lg3 := st50.same _ _ ⟨(Ne.symm ap1_0), trivial⟩ at_Lg3
   replace at_L5 := st50.s at_L5
   replace hin := base_hin.mono hle
   clear hb1
   have hb1 : Cat.At _ g1 0 c p := ⟨Mem.of_get at1, hin⟩
   refine .q rfl (.fieldAddr fo_29_4_B rfl) ?_
   refine .r0 rfl rfl (.storeR rfl sz_23_Ch rfl rfl rfl (by assumption) (by first | exact Nat.le_of_ble_eq_true rfl | (simp; done) | (simp <;> omega))) ?_
   rintro _ H10006 ⟨rfl, st10006, at10006⟩
   replace hle := hle.st st10006 (fun k hk => ⟨by omega, trivial⟩)
   replace lst1 := lst1.sA st10006
   replace rk := rk.sA st10006
   replace at1 := st10006.s at1 ne_g1_g3.ne
   replace at_L5 := st10006.s at_L5
   replace at50 := st10006.s at50
   replace hin := base_hin.mono hle
   clear hb1
   have hb1 : Cat.At _ g1 0 c p := ⟨Mem.of_get at1, hin⟩
   try simp only [Nat.zero_add, List.set_cons_succ, List.set_cons_zero] at at10006
   refine .nil (hK7 _ _ (.region (.mv rfl ?_)))
   refine .q rfl (.add rfl rfl rfl (by omega) (by omega)) ?_
   refine .mv rfl (.nil ?_)
   refine hKL1 ((f + 1, upd rc (c.opTab f).length (some ⟨gL5, 0, none⟩), g50)) _ _ ?_ ?_ ⟨rfl, rfl, rfl, rfl, trivial⟩
   ·
    refine ⟨lst1, by (rw [Cat.opTab_snoc, slsL_snoc, hrl2]; assumption), by omega, by assumption, by omega, ?_⟩
    have hR' := hR.st rk (.cons (hR.neT hatC rfl) (.cons (hR.neT hat3 rfl) (.nil _ _)))
    have hb2 : HL1.next ≤ gL5 := by omega
    have hn1 := hR.ne (g := gL5) hb2
    have hrow := at_L5
    rw [Cat.opTab_snoc]
    exact ⟨by omega, hR'.snoc2 hrow hn1 (by omega)⟩
   (dsimp only; omega)
  try simp only [sps] at h24
  refine .exit ?_
  refine hK3 _ _ (.seq (fun K14 hK14 => .region ?_))
  refine .q rfl (.loadM ag_29_D rfl ⟨rfl, Mem.of_get at_Lg3⟩) ?_
  obtain rfl : f = c.src.length := by omega
  have hat2 := at2
  refine .r0 rfl rfl (.fillA rfl sz_29_D rfl rfl rfl rfl) ?_
  rintro _ H11001 ⟨rfl, st11001, at11001⟩
  replace hle := hle.st st11001 (fun k hk => ⟨by omega, trivial⟩)
  replace at1 := st11001.s at1
  replace at11 := st11001.s at11
  replace at14 := st11001.s at14
  replace at17 := st11001.s at17
  replace at_LC := st11001.s at_LC
  replace hin := base_hin.mono hle
  have hb1 : Cat.At _ g1 0 c p := ⟨Mem.of_get at1, hin⟩
  refine .nil (hK14 _ _ ?_)
  refine .ret ?_
  refine hret _ _ ?_
  refine ⟨_, _, _, _, rfl, ag_29_D, (by rfl), (Mem.of_get at11001), ?_⟩
  have hrc := (hR.st st11001 (.cons (hR.neT hat2 rfl) (.nil _ _)))
  exact ⟨hle, g11, g14, g17, gLC, rc, by simp [Cat.cells, Cat.op, ownP, b3], ⟨at11, at14, at17, at_LC, by omega, by omega, by omega, by omega, by omega, by omega, by omega, hrc.low (by omega), hR.lowNe (by omega), hR.lowNe (by omega), hR.lowNe (by omega)⟩⟩
end Go.Proofs.Ytjdedelneppnlaa
namespace Go.Proofs.Ytjdedelneppnlaa
open Go Go.GL Go.RowKit Go.Proofs
set_option maxHeartbeats 8000000 in
theorem l03Poset_c {a : Option Addr} {r : Nat → Option Addr} {rel : List (List Int)} {H : GHeap} (hin : Intss H a rel r := by assumption) (hn : rel.length ≤ 8) (hr : ∀ i, i < rel.length → (rel.getD i []).length = rel.length) :
    GCalls Try.prog 71 [.slice a rel.length rel.length] H (NewRc 2 22 (8 * rel.length) H) := by
  refine GCalls.body (N := 133) (rs := [.cell 2 29]) Try.func71 rfl rfl rfl rfl (fun Qx hret hend => ?_)
  refine .fg [0] rfl ?_
  have hle := GHeap.Le.refl H
  have base_hin := hin
  refine .seq (fun K1 hK1 => .region ?_)
  refine .R rfl (.allocR rfl ze_29_Hj rfl) ?_
  rintro _ H2 ⟨g2, rfl, le2, ge2, at2⟩
  replace hle := hle.trans le2
  have lt_at2 := GHeap.ltg at2
  refine .nil (hK1 _ _ (.seq (fun K2 hK2 => .region (.mv rfl (.q rfl (.len sl_23_B rfl) (.mv rfl (.nil (hK2 _ _ (.seq (fun K3 hK3 => .region ?_))))))))))
  refine .R rfl (.litA rfl sl_23_B ze_22_Hj rfl rfl rfl rfl) ?_
  rintro _ H16 ⟨g16, rfl, le16, ge16, at16⟩
  replace hle := hle.trans le16
  replace at2 := le16.2 _ _ at2
  have lt_at16 := GHeap.ltg at16
  refine .mv rfl (.nil (hK3 _ _ (.seq (fun K4 hK4 => .region (.mv rfl ?_)))))
  refine .R rfl (.litA rfl sl_22_A ze_2_L rfl rfl rfl rfl) ?_
  rintro _ H18 ⟨g18, rfl, le18, ge18, at18⟩
  replace hle := hle.trans le18
  replace at2 := le18.2 _ _ at2
  replace at16 := le18.2 _ _ at16
  have lt_at18 := GHeap.ltg at18
  replace at18 : GHeap.get H18 g18 = some (.row (ints []) 2 true) := at18
  refine .R rfl (.litA rfl sl_22_A ze_2_L rfl rfl rfl rfl) ?_
  rintro _ H19 ⟨g19, rfl, le19, ge19, at19⟩
  replace hle := hle.trans le19
  replace at2 := le19.2 _ _ at2
  replace at16 := le19.2 _ _ at16
  replace at18 := le19.2 _ _ at18
  have lt_at19 := GHeap.ltg at19
  replace at19 : GHeap.get H19 g19 = some (.row (ints []) 2 true) := at19
  refine .R rfl (.litA rfl sl_22_A ze_2_L rfl rfl rfl rfl) ?_
  rintro _ H20 ⟨g20, rfl, le20, ge20, at20⟩
  replace hle := hle.trans le20
  replace at2 := le20.2 _ _ at2
  replace at16 := le20.2 _ _ at16
  replace at18 := le20.2 _ _ at18
  replace at19 := le20.2 _ _ at19
  have lt_at20 := GHeap.ltg at20
  replace at20 : GHeap.get H20 g20 = some (.row (ints []) 2 true) := at20
  refine .R rfl (.litA rfl sl_23_B ze_22_Hj rfl rfl rfl rfl) ?_
  rintro _ H21 ⟨g21, rfl, le21, ge21, at21⟩
  replace hle := hle.trans le21
  replace at2 := le21.2 _ _ at2
  replace at16 := le21.2 _ _ at16
  replace at18 := le21.2 _ _ at18
  replace at19 := le21.2 _ _ at19
  replace at20 := le21.2 _ _ at20
  have lt_at21 := GHeap.ltg at21
  refine .q rfl (.build bt_29_Hj rfl rfl rfl) ?_
  refine .R rfl (.allocR rfl ze_29_Hj rfl) ?_
  rintro _ H5 ⟨g5, rfl, le5, ge5, at5⟩
  have nx_H5 := le5.1
  replace hle := hle.trans le5
  replace at2 := le5.2 _ _ at2
  replace at16 := le5.2 _ _ at16
  replace at18 := le5.2 _ _ at18
  replace at19 := le5.2 _ _ at19
  replace at20 := le5.2 _ _ at20
  replace at21 := le5.2 _ _ at21
  refine .r0 rfl rfl (.fillA rfl sz_29_D rfl rfl rfl rfl) ?_
  rintro _ H3007 ⟨rfl, st3007, at3007⟩
  have nx_H3007 := st3007.nx
  replace hle := hle.st st3007 (fun k hk => ⟨by omega, trivial⟩)
  have ne_g2_g5 : NE g2 g5 := .a
  replace at2 := st3007.s at2 ne_g2_g5.ne
  replace at16 := st3007.s at16
  replace at18 := st3007.s at18
  replace at19 := st3007.s at19
  have ne_g20_g5 : NE g20 g5 := .a
  replace at20 := st3007.s at20 ne_g20_g5.ne
  have ne_g21_g5 : NE g21 g5 := .a
  replace at21 := st3007.s at21 ne_g21_g5.ne
  have lt_at3007 := GHeap.ltg at3007
  refine .nil (hK4 _ _ (.seq (fun K5 hK5 => .seq (fun K6 hK6 => .region (.mv rfl (.nil (hK6 _ _ ?_)))))))
  refine .block ?_
  refine .loopR (σ := Nat × List Int × List Int × List (List Int) × (Nat → Option Addr) × Nat × Nat × Nat × Nat) [(0, some _), (2, some _), (3, some _), (5, some _)] (fun (i, ss, ts, num, rn, gL4, nL4, gLF, gLT) => [(6, some (.int .i64 (i : Int))), (4, some (.slice (some ⟨gL4, 0, none⟩) nL4 nL4))]) (fun (i, ss, ts, num, rn, gL4, nL4, gLF, gLT) H' => St [g16, g18, g19, g5] H3007 H' ∧ H'.get gL4 = some (.row ((slsL rn num)) 22 true) ∧ PL gL4 g16 H3007.next ∧ nL4 = (slsL rn num).length ∧ H'.get gLF = some (.row (ints ss) 2 true) ∧ PL gLF g18 H3007.next ∧ H'.get gLT = some (.row (ints ts) 2 true) ∧ PL gLT g19 H3007.next ∧ H'.get g5 = some (.row ([.int .i64 (rel.length : Int), .slice (some ⟨gLF, 0, none⟩) ss.length ss.length, .slice (some ⟨gLT, 0, none⟩) ss.length ss.length, .slice (some ⟨g20, 0, none⟩) 0 0, .slice (some ⟨g21, 0, none⟩) 0 0]) 29 true) ∧ gL4 ≠ gLF ∧ gL4 ≠ gLT ∧ gL4 ≠ g5 ∧ gLF ≠ gLT ∧ gLF ≠ g5 ∧ gLT ≠ g5 ∧ (i ≤ rel.length ∧ ss.length ≤ 8 * i ∧ ts.length = ss.length ∧ num.length = i) ∧ Bd 0 (rel.length - 1) ss ∧ Bd 0 (rel.length - 1) ts ∧ Tb 0 (8 * rel.length) rel.length num ∧ OwnL H3007.next H' 2 rn num ∧ (∀ j, j < num.length → rn j ≠ some ⟨gLF, 0, none⟩) ∧ ∀ j, j < num.length → rn j ≠ some ⟨gLT, 0, none⟩) (fun (i, ss, ts, num, rn, gL4, nL4, gLF, gLT) => rel.length - i) ((0, [], [], [], fun _ => none, _, _, g18, g19)) ⟨rfl, rfl, rfl, rfl, trivial⟩ ⟨rfl, rfl, trivial⟩ ?_ ?_
  ·
   refine ⟨.refl _ _, by assumption, ⟨.inl rfl⟩, by rfl, by assumption, ⟨.inl rfl⟩, by assumption, ⟨.inl rfl⟩, by assumption, by omega, by omega, by omega, by omega, by omega, by omega, ?_⟩
   exact ⟨⟨by omega, by simp, rfl, rfl⟩, .nil _ _, .nil _ _, .nil _ _ _, .nil _ _ _ _, fun _ h => by simp at h, fun _ h => by simp at h⟩
  rintro ⟨i, ss, ts, num, rn, gL4, nL4, gLF, gLT⟩ HL1 ⟨lst1, at_L4, pl_L4, ln_L4, at_LF, pl_LF, at_LT, pl_LT, at_Lg5, ap1_0, ap1_1, ap1_2, ap1_3, ap1_4, ap1_5, hI⟩ KL1 hKL1
  refine .forget (fr' := [(6, some (.int .i64 (i : Int))), (4, some (.slice (some ⟨gL4, 0, none⟩) nL4 nL4)), (0, some _), (2, some _), (3, some _), (5, some _)]) ⟨rfl, rfl, rfl, rfl, rfl, rfl, trivial⟩ ?_
  have ge_L4 : H.next ≤ gL4 := pl_L4.ge (by omega) (by omega)
  have ge_LF : H.next ≤ gLF := pl_LF.ge (by omega) (by omega)
  have ge_LT : H.next ≤ gLT := pl_LT.ge (by omega) (by omega)
  have nx_HL1 := lst1.nx
  replace hle := hle.st lst1 (fun k hk => ⟨by omega, by omega, by omega, by omega, trivial⟩)
  have ne_g2_g18 : NE g2 g18 := .a
  have ne_g2_g19 : NE g2 g19 := .a
  replace at2 := lst1.same _ _ ⟨(by first | assumption | omega), ne_g2_g18.ne, ne_g2_g19.ne, ne_g2_g5.ne, trivial⟩ at2
  have ne_g20_g16 : NE g20 g16 := .a
  have ne_g20_g18 : NE g20 g18 := .a
  have ne_g20_g19 : NE g20 g19 := .a
  replace at20 := lst1.same _ _ ⟨ne_g20_g16.ne, ne_g20_g18.ne, ne_g20_g19.ne, ne_g20_g5.ne, trivial⟩ at20
  have ne_g21_g16 : NE g21 g16 := .a
  have ne_g21_g18 : NE g21 g18 := .a
  have ne_g21_g19 : NE g21 g19 := .a
  replace at21 := lst1.same _ _ ⟨ne_g21_g16.ne, ne_g21_g18.ne, ne_g21_g19.ne, ne_g21_g5.ne, trivial⟩ at21
  have lt_at_L4 := GHeap.ltg at_L4
  have lt_at_LF := GHeap.ltg at_LF
  have lt_at_LT := GHeap.ltg at_LT
  have lt_at_Lg5 := GHeap.ltg at_Lg5
  obtain ⟨⟨hi, hs8, hts, hnl⟩, hS, hT, hN, hR, hF1, hT1⟩ := hI
  have hfl : (slsL rn num).length = num.length := length_slsL _ _
  refine .seq (fun K7 hK7 => .seq (fun K8 hK8 => .region (.mv rfl (.mv rfl (.q rfl (.cmp rfl rfl rfl) (.nil (hK8 _ _ ?_)))))))
  refine .cond rfl (fun h25 => ?_) (fun h25 => ?_)
  ·
   simp only [sps] at h25
   have hr1 := hr i (by omega)
   refine .skip ?_
   refine hK7 _ _ (.seq (fun K9 hK9 => ?_))
   refine .block ?_
   refine .seq (fun K10 hK10 => .region ?_)
   refine .R rfl (.litA rfl sl_22_A ze_2_L rfl rfl rfl rfl) ?_
   rintro _ H28 ⟨g28, rfl, le28, ge28, at28⟩
   have nx_H28 := le28.1
   replace hle := hle.trans le28
   replace lst1 := lst1.le le28
   replace at_L4 := le28.2 _ _ at_L4
   replace at_LF := le28.2 _ _ at_LF
   replace at_LT := le28.2 _ _ at_LT
   replace at_Lg5 := le28.2 _ _ at_Lg5
   have lt_at28 := GHeap.ltg at28
   replace at28 : GHeap.get H28 g28 = some (.row (ints []) 2 true) := at28
   refine .mv rfl (.nil (hK10 _ _ (.seq (fun K11 hK11 => .seq (fun K12 hK12 => .region (.mv rfl (.nil (hK12 _ _ ?_))))))))
   refine .block ?_
   refine .loopR (σ := Nat × List Int × List Int × List Int × Nat × Nat × Nat × Nat) [(0, some _), (2, some _), (3, some _), (4, some _), (5, some _), (6, some _)] (fun (j, s2, t2, row, gL7, nL7, gLF2, gLT2) => [(8, some (.int .i64 (j : Int))), (7, some (.slice (some ⟨gL7, 0, none⟩) nL7 nL7))]) (fun (j, s2, t2, row, gL7, nL7, gLF2, gLT2) H' => St [g28, gLF, gLT, g5] H28 H' ∧ H'.get gL7 = some (.row (ints row) 2 true) ∧ PL gL7 g28 H28.next ∧ nL7 = row.length ∧ H'.get gLF2 = some (.row (ints s2) 2 true) ∧ PL gLF2 gLF H28.next ∧ H'.get gLT2 = some (.row (ints t2) 2 true) ∧ PL gLT2 gLT H28.next ∧ H'.get g5 = some (.row ([.int .i64 (rel.length : Int), .slice (some ⟨gLF2, 0, none⟩) s2.length s2.length, .slice (some ⟨gLT2, 0, none⟩) s2.length s2.length, .slice (some ⟨g20, 0, none⟩) 0 0, .slice (some ⟨g21, 0, none⟩) 0 0]) 29 true) ∧ gL7 ≠ gLF2 ∧ gL7 ≠ gLT2 ∧ gL7 ≠ g5 ∧ gLF2 ≠ gLT2 ∧ gLF2 ≠ g5 ∧ gLT2 ≠ g5 ∧ (j ≤ rel.length ∧ s2.length ≤ 8 * i + j ∧ t2.length = s2.length ∧ row.length = j) ∧ Bd 0 (rel.length - 1) s2 ∧ Bd 0 (rel.length - 1) t2 ∧ Bd 0 (8 * rel.length) row ∧ OwnL H3007.next H' 2 rn num ∧ (∀ j, j < num.length → rn j ≠ some ⟨gL7, 0, none⟩) ∧ (∀ j, j < num.length → rn j ≠ some ⟨gLF2, 0, none⟩) ∧ ∀ j, j < num.length → rn j ≠ some ⟨gLT2, 0, none⟩) (fun (j, s2, t2, row, gL7, nL7, gLF2, gLT2) => rel.length - j) ((0, ss, ts, [], _, _, gLF, gLT)) ⟨rfl, rfl, rfl, rfl, rfl, rfl, trivial⟩ ⟨rfl, rfl, trivial⟩ ?_ ?_
   ·
    refine ⟨.refl _ _, by assumption, ⟨.inl rfl⟩, by rfl, by assumption, ⟨.inl rfl⟩, by assumption, ⟨.inl rfl⟩, by assumption, by omega, by omega, by omega, by omega, by omega, by omega, ?_⟩
    exact ⟨⟨by omega, by omega, by omega, rfl⟩, hS, hT, .nil _ _, hR.keep (.of_le (by assumption)), hR.ne (by omega), hF1, hT1⟩
   rintro ⟨j, s2, t2, row, gL7, nL7, gLF2, gLT2⟩ HL2 ⟨lst2, at_L7, pl_L7, ln_L7, at_LF2, pl_LF2, at_LT2, pl_LT2, at_Lg5, ap2_0, ap2_1, ap2_2, ap2_3, ap2_4, ap2_5, hI⟩ KL2 hKL2
   refine .forget (fr' := [(8, some (.int .i64 (j : Int))), (7, some (.slice (some ⟨gL7, 0, none⟩) nL7 nL7)), (0, some _), (2, some _), (3, some _), (4, some _), (5, some _), (6, some _)]) ⟨rfl, rfl, rfl, rfl, rfl, rfl, rfl, rfl, trivial⟩ ?_
   have ge_L7 : H.next ≤ gL7 := pl_L7.ge (by omega) (by omega)
   have nx_HL2 := lst2.nx
   replace hle := hle.st lst2 (fun k hk => ⟨by omega, by omega, by omega, by omega, trivial⟩)
   replace lst1 := lst1.st lst2 (fun k hk ho => by simp only [out, and_true] at ho ⊢ <;> exact ⟨by first | exact ho | exact ho.1 | exact ho.2 | exact ho.2.1 | exact ho.2.2 | exact ho.2.2.1 | exact ho.2.2.2 | omega, by first | exact ho | exact ho.1 | exact ho.2 | exact ho.2.1 | exact ho.2.2 | exact ho.2.2.1 | exact ho.2.2.2 | exact pl_LF.ne (by first | exact ho | exact ho.1 | exact ho.2 | exact ho.2.1 | exact ho.2.2 | exact ho.2.2.1 | exact ho.2.2.2 | omega) (by omega) | omega, by first | exact ho | exact ho.1 | exact ho.2 | exact ho.2.1 | exact ho.2.2 | exact ho.2.2.1 | exact ho.2.2.2 | exact pl_LT.ne (by first | exact ho | exact ho.1 | exact ho.2 | exact ho.2.1 | exact ho.2.2 | exact ho.2.2.1 | exact ho.2.2.2 | omega) (by omega) | omega, by first | exact ho | exact ho.1 | exact ho.2 | exact ho.2.1 | exact ho.2.2 | exact ho.2.2.1 | exact ho.2.2.2 | omega⟩)
   have ne_gL4_g28 : NE gL4 g28 := .a
   replace at_L4 := lst2.same _ _ ⟨ne_gL4_g28.ne, ap1_0, ap1_1, ap1_2, trivial⟩ at_L4
   have lt_at_LF2 := GHeap.ltg at_LF2
   have lt_at_LT2 := GHeap.ltg at_LT2
   have lt_at_Lg5 := GHeap.ltg at_Lg5
   have rk := St.refl [gL7, gLF2, gLT2, g5] HL2
   obtain ⟨⟨hj, hs9, hts, hrl⟩, hS, hT, hB, hR, h7, hF1, hT1⟩ := hI
   refine .seq (fun K13 hK13 => .seq (fun K14 hK14 => .region (.mv rfl (.mv rfl (.q rfl (.cmp rfl rfl rfl) (.nil (hK14 _ _ ?_)))))))
   refine .cond rfl (fun h31 => ?_) (fun h31 => ?_)
   ·
    try simp only [sps] at h31
    refine .skip ?_
    refine hK13 _ _ (.seq (fun K15 hK15 => ?_))
    refine .block ?_
    refine .seq (fun K16 hK16 => .region (.mv rfl (.q rfl (.fieldAddr fo_29_1_B rfl) ?_)))
    refine .q rfl (.load on_22_B rfl (by first | assumption | exact Mem.of_get at_Lg5 1 _ rfl)) ?_
    refine .q rfl (.len sl_22_A rfl) ?_
    refine .R rfl (.litA rfl sl_22_A ze_2_L rfl rfl rfl rfl) ?_
    rintro _ H38 ⟨g38, rfl, le38, ge38, at38⟩
    replace hle := hle.trans le38
    replace lst2 := lst2.le le38
    replace rk := rk.le le38
    replace at_L7 := le38.2 _ _ at_L7
    replace at_LF2 := le38.2 _ _ at_LF2
    replace at_LT2 := le38.2 _ _ at_LT2
    replace at_Lg5 := le38.2 _ _ at_Lg5
    have lt_at38 := GHeap.ltg at38
    refine .R rfl (.appendI rfl sl_22_A ze_2_L rfl by_2_L sl_22_A rfl rfl (by assumption) (by assumption) (by first | omega | (simp <;> omega)) (by omega) (by omega)) ?_
    rintro _ H39 ⟨g39, rfl, st39, ge39, at39⟩
    replace hle := hle.st st39 (fun k hk => ⟨by omega, trivial⟩)
    replace lst2 := lst2.sP st39
    replace rk := rk.sP st39
    replace at_LF2 := st39.same _ _ ⟨(Ne.symm ap2_0), trivial⟩ at_LF2
    replace at_LT2 := st39.same _ _ ⟨(Ne.symm ap2_1), trivial⟩ at_LT2
    replace at_Lg5 := st39.same _ _ ⟨(Ne.symm ap2_2), trivial⟩ at_Lg5
    have lt_at39 := GHeap.ltg at39
    replace hin := base_hin.mono hle
    refine .mv rfl (.nil (hK16 _ _ (.seq (fun K17 hK17 => .region ?_))))
    have u1 := hin.2 i (by omega)
    refine .mv rfl (.mv rfl ?_)
    refine .q rfl (.idxN sl_23_B (Intss.sl (by assumption)) rfl rfl (by omega)) ?_
    refine .q rfl (.loadR on_22_B (by assumption) rfl (by omega)) ?_
    refine .mv rfl ?_
    refine .q rfl (.idxN sl_22_A (by assumption) rfl rfl (by omega)) ?_
    refine .q rfl (.loadI on_2_A (by assumption) rfl (by omega)) ?_
    refine .q rfl (.cmp rfl rfl rfl) (.nil (hK17 _ _ ?_))
    refine .cond rfl (fun h47 => ?_) (fun h47 => ?_)
    ·
     obtain ⟨s3, hs3, hl3, hS3⟩ : ∃ s3, s3 = s2 ++ [(i : Int)] ∧ s3.length = s2.length + 1 ∧ Bd 0 (rel.length - 1) s3 := ⟨_, rfl, by simp, hS.snoc (by omega) (by omega)⟩
     obtain ⟨t3, ht3, hm3, hT3⟩ : ∃ t3, t3 = t2 ++ [(j : Int)] ∧ t3.length = t2.length + 1 ∧ Bd 0 (rel.length - 1) t3 := ⟨_, rfl, by simp, hT.snoc (by omega) (by omega)⟩
     refine .seq (fun K18 hK18 => .region (.q rfl (.fieldAddr fo_29_1_B rfl) ?_))
     refine .q rfl (.load on_22_B rfl (by first | assumption | exact Mem.of_get at_Lg5 1 _ rfl)) ?_
     refine .mv rfl ?_
     refine .R rfl (.litA rfl sl_22_A ze_2_L rfl rfl rfl rfl) ?_
     rintro _ H51 ⟨g51, rfl, le51, ge51, at51⟩
     replace lst2 := lst2.le le51
     replace rk := rk.le le51
     replace at_LF2 := le51.2 _ _ at_LF2
     replace at_LT2 := le51.2 _ _ at_LT2
     replace at_Lg5 := le51.2 _ _ at_Lg5
     replace at39 := le51.2 _ _ at39
     have lt_at51 := GHeap.ltg at51
     refine .R rfl (.appendI rfl sl_22_A ze_2_L rfl by_2_L sl_22_A rfl rfl (by assumption) (by assumption) (by first | omega | (simp <;> omega)) (by omega) (by omega)) ?_
     rintro _ H52 ⟨g52, rfl, st52, ge52, at52⟩
     replace lst2 := lst2.sQ st52
     replace rk := rk.sQ st52
     replace at_LT2 := st52.same _ _ ⟨(Ne.symm ap2_3), trivial⟩ at_LT2
     replace at_Lg5 := st52.same _ _ ⟨(Ne.symm ap2_4), trivial⟩ at_Lg5
     replace at39 := st52.s at39
     have lt_at52 := GHeap.ltg at52
     refine .q rfl (.fieldAddr fo_29_1_B rfl) ?_
     refine .r0 rfl rfl (.storeR rfl sz_22_Ch rfl rfl rfl (by assumption) (by first | exact Nat.le_of_ble_eq_true rfl | (simp; done) | (simp <;> omega))) ?_
     rintro _ H13006 ⟨rfl, st13006, at13006⟩
     have nx_H13006 := st13006.nx
     replace lst2 := lst2.sA st13006
     replace rk := rk.sA st13006
     replace at_LT2 := st13006.same _ _ ⟨ap2_5, trivial⟩ at_LT2
     have ne_g39_g5 : NE g39 g5 := .a
     replace at39 := st13006.s at39 ne_g39_g5.ne
     have ne_g52_g5 : NE g52 g5 := .a
     replace at52 := st13006.s at52 ne_g52_g5.ne
     have lt_at13006 := GHeap.ltg at13006
     try simp only [Nat.zero_add, List.set_cons_succ, List.set_cons_zero] at at13006
     refine .nil (hK18 _ _ (.region (.q rfl (.fieldAddr fo_29_2_B rfl) ?_)))
     refine .q rfl (.load on_22_B rfl (by first | assumption | exact Mem.of_get at13006 2 _ rfl)) ?_
     refine .mv rfl ?_
     refine .R rfl (.litA rfl sl_22_A ze_2_L rfl rfl rfl rfl) ?_
     rintro _ H57 ⟨g57, rfl, le57, ge57, at57⟩
     replace lst2 := lst2.le le57
     replace rk := rk.le le57
     replace at_LT2 := le57.2 _ _ at_LT2
     replace at39 := le57.2 _ _ at39
     replace at52 := le57.2 _ _ at52
     replace at13006 := le57.2 _ _ at13006
     have lt_at57 := GHeap.ltg at57
     refine .R rfl (.appendI rfl sl_22_A ze_2_L rfl by_2_L sl_22_A rfl rfl (by assumption) (by assumption) (by first | omega | (simp <;> omega)) (by omega) (by omega)) ?_
     rintro _ H58 ⟨g58, rfl, st58, ge58, at58⟩
     replace lst2 := lst2.sQ st58
     replace rk := rk.sQ st58
     replace at39 := st58.s at39
     replace at52 := st58.s at52
     replace at13006 := st58.same _ _ ⟨(Ne.symm ap2_5), trivial⟩ at13006
     refine .q rfl (.fieldAddr fo_29_2_B rfl) ?_
     refine .r0 rfl rfl (.storeR rfl sz_22_Ch rfl rfl rfl (by assumption) (by first | exact Nat.le_of_ble_eq_true rfl | (simp; done) | (simp <;> omega))) ?_
     rintro _ H14006 ⟨rfl, st14006, at14006⟩
     replace lst2 := lst2.sA st14006
     replace rk := rk.sA st14006
     replace at39 := st14006.s at39 ne_g39_g5.ne
     replace at52 := st14006.s at52 ne_g52_g5.ne
     replace at58 := st14006.s at58
     try simp only [Nat.zero_add, List.set_cons_succ, List.set_cons_zero] at at14006
     refine .nil (hK15 _ _ (.region (.mv rfl ?_)))
     refine .q rfl (.add rfl rfl rfl (by omega) (by omega)) ?_
     refine .mv rfl (.nil ?_)
     refine hKL2 ((j + 1, s3, t3, row ++ [(s2.length : Int)], _, _, g52, g58)) _ _ ?_ ?_ ⟨rfl, rfl, rfl, rfl, rfl, rfl, rfl, rfl, trivial⟩
     ·
      refine ⟨lst2, by assumption, by exact ⟨.inr (by omega)⟩, by (simp only [List.length_append, List.length_cons, List.length_nil] <;> omega), by (rw [hs3]; assumption), by exact ⟨.inr (by omega)⟩, by (rw [ht3]; assumption), by exact ⟨.inr (by omega)⟩, by (rw [hl3]; assumption), by omega, by omega, by omega, by omega, by omega, by omega, ?_⟩
      have hR' := hR.st rk (.cons h7 (.cons hF1 (.cons hT1 (.cons (hR.lowNe (by omega)) (.nil _ _)))))
      exact ⟨⟨by omega, by omega, by omega, by simp; omega⟩, hS3, hT3, hB.snoc (by omega) (by omega), hR', hR.ne (by omega), by first | exact hF1 | exact hR.ne (by omega), by first | exact hT1 | exact hR.ne (by omega)⟩
     (dsimp only; omega)
    obtain ⟨s3, hs3, hl3, hS3⟩ : ∃ s3, s3 = s2 ∧ s3.length = s2.length ∧ Bd 0 (rel.length - 1) s3 := ⟨_, rfl, by simp, hS⟩
    obtain ⟨t3, ht3, hm3, hT3⟩ : ∃ t3, t3 = t2 ∧ t3.length = t2.length ∧ Bd 0 (rel.length - 1) t3 := ⟨_, rfl, by simp, hT⟩
    refine .skip ?_
    refine hK15 _ _ (.region (.mv rfl ?_))
    refine .q rfl (.add rfl rfl rfl (by omega) (by omega)) ?_
    refine .mv rfl (.nil ?_)
    refine hKL2 ((j + 1, s3, t3, row ++ [(s2.length : Int)], _, _, gLF2, gLT2)) _ _ ?_ ?_ ⟨rfl, rfl, rfl, rfl, rfl, rfl, rfl, rfl, trivial⟩
    ·
     refine ⟨lst2, by assumption, by exact ⟨.inr (by omega)⟩, by (simp only [List.length_append, List.length_cons, List.length_nil] <;> omega), by (rw [hs3]; assumption), by assumption, by (rw [ht3]; assumption), by assumption, by (rw [hs3]; assumption), by omega, by omega, by omega, by assumption, by assumption, by assumption, ?_⟩
     have hR' := hR.st rk (.cons h7 (.cons hF1 (.cons hT1 (.cons (hR.lowNe (by omega)) (.nil _ _)))))
     exact ⟨⟨by omega, by omega, by omega, by simp; omega⟩, hS3, hT3, hB.snoc (by omega) (by omega), hR', hR.ne (by omega), by first | exact hF1 | exact hR.ne (by omega), by first | exact hT1 | exact hR.ne (by omega)⟩
    (dsimp only; omega)
   try simp only [sps] at h31
   refine .exit ?_
   refine hK11 _ _ (.region ?_)
   obtain rfl : j = rel.length := by omega
   obtain rfl := ln_L7
   have hat4 := at_L4
   refine .mv rfl (.mv rfl ?_)
   refine .R rfl (.litA rfl sl_23_B ze_22_Hj rfl rfl rfl rfl) ?_
   rintro _ H62 ⟨g62, rfl, le62, ge62, at62⟩
   replace lst1 := lst1.le le62
   replace at_L4 := le62.2 _ _ at_L4
   replace at_L7 := le62.2 _ _ at_L7
   replace at_LF2 := le62.2 _ _ at_LF2
   replace at_LT2 := le62.2 _ _ at_LT2
   replace at_Lg5 := le62.2 _ _ at_Lg5
   have lt_at62 := GHeap.ltg at62
   refine .R rfl (.appendV rfl sl_23_B ze_22_Hj rfl by_22_Hj sl_23_B rfl rfl (by assumption) (by assumption) (by first | omega | (simp <;> omega)) rfl rfl (by omega) (by omega)) ?_
   rintro _ H63 ⟨g63, rfl, st63, ge63, at63⟩
   replace lst1 := lst1.sP st63
   replace at_L7 := st63.same _ _ ⟨(Ne.symm (pl_L7.ne ne_gL4_g28.ne (by omega))), trivial⟩ at_L7
   replace at_LF2 := st63.same _ _ ⟨(Ne.symm (pl_LF2.ne ap1_0 (by omega))), trivial⟩ at_LF2
   replace at_LT2 := st63.same _ _ ⟨(Ne.symm (pl_LT2.ne ap1_1 (by omega))), trivial⟩ at_LT2
   replace at_Lg5 := st63.same _ _ ⟨(Ne.symm ap1_2), trivial⟩ at_Lg5
   refine .mv rfl (.nil (hK9 _ _ (.region (.mv rfl ?_))))
   refine .q rfl (.add rfl rfl rfl (by omega) (by omega)) ?_
   refine .mv rfl (.nil ?_)
   refine hKL1 ((i + 1, s2, t2, num ++ [row], upd rn num.length (some ⟨gL7, 0, none⟩), _, _, gLF2, gLT2)) _ _ ?_ ?_ ⟨rfl, rfl, rfl, rfl, rfl, rfl, trivial⟩
   ·
    refine ⟨lst1, by (rw [slsL_snoc]; assumption), by exact ⟨.inr (by omega)⟩, by (rw [slsL_snoc] <;> (first | omega | (simp only [List.length_append, List.length_cons, List.length_nil] <;> omega))), by assumption, by exact pl_LF2.trans pl_LF (by omega), by assumption, by exact pl_LT2.trans pl_LT (by omega), by assumption, by omega, by omega, by omega, by assumption, by assumption, by assumption, ?_⟩
    have hR' := (hR.keep (.of_le le62)).st st63 (.cons (hR.neT hat4 rfl) (.nil _ _))
    exact ⟨⟨by omega, by omega, by omega, by simp; omega⟩, hS, hT, hN.snoc (by omega) hB, hR'.snoc2 (by assumption) h7 (pl_L7.ge (by omega) (by omega)), ne_snoc hF1 (by omega), ne_snoc hT1 (by omega)⟩
   (dsimp only; omega)
  try simp only [sps] at h25
  refine .exit ?_
  refine hK5 _ _ (.seq (fun K19 hK19 => .seq (fun K20 hK20 => .region ?_)))
  obtain rfl : i = rel.length := by omega
  refine .mv rfl (.nil (hK20 _ _ ?_))
  refine .block ?_
  refine .loopR (σ := Nat × List Int × Nat) [(2, some _), (3, some _), (4, some _), (5, some _)] (fun (x, is, gLI) => [(9, some (.int .i64 (x : Int)))]) (fun (x, is, gLI) H' => St [g20, g5] HL1 H' ∧ H'.get gLI = some (.row (ints is) 2 true) ∧ PL gLI g20 HL1.next ∧ H'.get g5 = some (.row ([.int .i64 (rel.length : Int), .slice (some ⟨gLF, 0, none⟩) ss.length ss.length, .slice (some ⟨gLT, 0, none⟩) ss.length ss.length, .slice (some ⟨gLI, 0, none⟩) x x, .slice (some ⟨g21, 0, none⟩) 0 0]) 29 true) ∧ gLI ≠ g5 ∧ (x ≤ rel.length ∧ is.length = x) ∧ Bd 0 (8 * rel.length) is ∧ OwnL H3007.next H' 2 rn num ∧ ∀ j, j < num.length → rn j ≠ some ⟨gLI, 0, none⟩) (fun (x, is, gLI) => rel.length - x) ((0, [], g20)) ⟨rfl, rfl, rfl, rfl, trivial⟩ ⟨rfl, trivial⟩ ?_ ?_
  ·
   refine ⟨.refl _ _, by assumption, ⟨.inl rfl⟩, by assumption, by omega, ?_⟩
   exact ⟨⟨by omega, rfl⟩, .nil _ _, hR, hR.lowNe (by omega)⟩
  rintro ⟨x, is, gLI⟩ HL3 ⟨lst3, at_LI, pl_LI, at_Lg5, ap3_0, hI⟩ KL3 hKL3
  refine .forget (fr' := [(9, some (.int .i64 (x : Int))), (2, some _), (3, some _), (4, some _), (5, some _)]) ⟨rfl, rfl, rfl, rfl, rfl, trivial⟩ ?_
  have ge_LI : H.next ≤ gLI := pl_LI.ge (by omega) (by omega)
  have nx_HL3 := lst3.nx
  replace hle := hle.st lst3 (fun k hk => ⟨by omega, by omega, trivial⟩)
  have ne_g2_g20 : NE g2 g20 := .a
  replace at2 := lst3.same _ _ ⟨ne_g2_g20.ne, ne_g2_g5.ne, trivial⟩ at2
  have ne_g21_g20 : NE g21 g20 := .a
  replace at21 := lst3.same _ _ ⟨ne_g21_g20.ne, ne_g21_g5.ne, trivial⟩ at21
  replace at_L4 := lst3.same _ _ ⟨(Ne.symm (pl_L4.ne ne_g20_g16.ne (by omega))), ap1_2, trivial⟩ at_L4
  replace at_LF := lst3.same _ _ ⟨(Ne.symm (pl_LF.ne ne_g20_g18.ne (by omega))), ap1_4, trivial⟩ at_LF
  replace at_LT := lst3.same _ _ ⟨(Ne.symm (pl_LT.ne ne_g20_g19.ne (by omega))), ap1_5, trivial⟩ at_LT
  have lt_at_LI := GHeap.ltg at_LI
  have lt_at_Lg5 := GHeap.ltg at_Lg5
  have rk := St.refl [gLI, g5] HL3
  obtain ⟨⟨hx, hxl⟩, hI1, hR, hI2⟩ := hI
  refine .seq (fun K21 hK21 => .seq (fun K22 hK22 => .region (.mv rfl (.mv rfl (.q rfl (.cmp rfl rfl rfl) (.nil (hK22 _ _ ?_)))))))
  refine .cond rfl (fun h66 => ?_) (fun h66 => ?_)
  ·
   simp only [sps] at h66
   have n1 := hN.at (i := x) (j := x) (by omega) (by omega)
   have n2 := (hN x (by omega)).1
   refine .skip ?_
   refine hK21 _ _ (.seq (fun K23 hK23 => ?_))
   refine .block ?_
   refine .regionD mo_B (.q 0 (.q 1 (.q 2 (.q 3 (.q 4 (.q 5 (.q 6 (.q 7 (.q 8 (.c 9 1 (.c 10 0 (.q 11 (.c 12 0 (.done)))))))))))))) (by kernel_rfl) ?_
   have iN := (hR.low (b' := H.next) (by omega)).intss at_L4 (by omega)
   have u1 := iN.2 x (by omega)
   refine .q rfl (.fieldAddr fo_29_3_B rfl) ?_
   refine .q rfl (.load on_22_B rfl (by first | assumption | exact Mem.of_get at_Lg5 3 _ rfl)) ?_
   refine .mv rfl rfl (.mv rfl rfl ?_)
   refine .q rfl (.idxN sl_23_B (by first | exact (Intss.sl (by assumption)) | exact SlA.of_row at_L4 (by first | rfl | (simp; done) | (simp <;> omega))) rfl rfl (by omega)) ?_
   refine .q rfl (.loadR on_22_B (by assumption) rfl (by omega)) ?_
   refine .mv rfl rfl ?_
   refine .q rfl (.idxN sl_22_A (by assumption) rfl rfl (by omega)) ?_
   refine .q rfl (.loadI on_2_A (by assumption) rfl (by omega)) ?_
   refine .c1 rfl rfl rfl rfl (.litA rfl sl_22_A ze_2_L rfl rfl rfl rfl) ?_
   rintro _ H78 ⟨g78, rfl, le78, ge78, at78⟩
   have hbl := le78
   refine ⟨hbl, ?_⟩
   replace lst3 := lst3.le le78
   replace rk := rk.le le78
   replace at_LI := le78.2 _ _ at_LI
   replace at_Lg5 := le78.2 _ _ at_Lg5
   have lt_at78 := GHeap.ltg at78
   refine .c0 rfl rfl rfl rfl (.appendI rfl sl_22_A ze_2_L rfl by_2_L sl_22_A rfl rfl (by assumption) (by assumption) (by first | omega | (simp <;> omega)) (by omega) (by omega)) ?_
   rintro _ H79 ⟨g79, rfl, st79, ge79, at79⟩
   replace lst3 := lst3.sP st79
   replace rk := rk.sP st79
   replace at_Lg5 := st79.same _ _ ⟨(Ne.symm ap3_0), trivial⟩ at_Lg5
   refine .q rfl (.fieldAddr fo_29_3_B rfl) ?_
   refine .r0 rfl rfl rfl (.storeR rfl sz_22_Ch rfl rfl rfl (by assumption) (by first | exact Nat.le_of_ble_eq_true rfl | (simp; done) | (simp <;> omega))) ?_
   rintro _ H19012 ⟨rfl, st19012, at19012⟩
   replace lst3 := lst3.sA st19012
   replace rk := rk.sA st19012
   replace at79 := st19012.s at79
   try simp only [Nat.zero_add, List.set_cons_succ, List.set_cons_zero] at at19012
   refine .done ?_
   refine hK23 _ _ (.region (.mv rfl ?_))
   refine .q rfl (.add rfl rfl rfl (by omega) (by omega)) ?_
   refine .mv rfl (.nil ?_)
   refine hKL3 ((x + 1, is ++ [(num.getD x []).getD x 0], g79)) _ _ ?_ ?_ ⟨rfl, rfl, rfl, rfl, rfl, trivial⟩
   ·
    refine ⟨lst3, by assumption, by exact ⟨.inr (by omega)⟩, by assumption, by omega, ?_⟩
    exact ⟨⟨by omega, by simp; omega⟩, hI1.snoc n1.1 n1.2, hR.st rk (.cons hI2 (.cons (hR.lowNe (by omega)) (.nil _ _))), hR.ne (by omega)⟩
   (dsimp only; omega)
  try simp only [sps] at h66
  refine .exit ?_
  refine hK19 _ _ (.seq (fun K24 hK24 => .seq (fun K25 hK25 => .region ?_)))
  obtain rfl : x = rel.length := by omega
  refine .mv rfl (.nil (hK25 _ _ ?_))
  refine .block ?_
  refine .loopR (σ := Nat × (Nat → Option Addr) × List (List Int) × Nat) [(2, some _), (4, some _), (5, some _)] (fun (f, rr, cs, gLC) => [(10, some (.int .i64 (f : Int)))]) (fun (f, rr, cs, gLC) H' => St [g21, g5] HL3 H' ∧ H'.get gLC = some (.row ((slsL rr cs)) 22 true) ∧ PL gLC g21 HL3.next ∧ H'.get g5 = some (.row ([.int .i64 (rel.length : Int), .slice (some ⟨gLF, 0, none⟩) ss.length ss.length, .slice (some ⟨gLT, 0, none⟩) ss.length ss.length, .slice (some ⟨gLI, 0, none⟩) rel.length rel.length, .slice (some ⟨gLC, 0, none⟩) f f]) 29 true) ∧ gLC ≠ g5 ∧ (f ≤ ss.length ∧ cs.length = f) ∧ Tb (-1) (8 * rel.length) ss.length cs ∧ OwnL H3007.next H' 2 rn num ∧ OwnL H3007.next H' 2 rr cs ∧ (∀ j, j < cs.length → rr j ≠ some ⟨gLF, 0, none⟩) ∧ (∀ j, j < cs.length → rr j ≠ some ⟨gLT, 0, none⟩) ∧ ∀ j, j < cs.length → rr j ≠ some ⟨gLI, 0, none⟩) (fun (f, rr, cs, gLC) => ss.length - f) ((0, fun _ => none, [], g21)) ⟨rfl, rfl, rfl, trivial⟩ ⟨rfl, trivial⟩ ?_ ?_
  ·
   refine ⟨.refl _ _, by assumption, ⟨.inl rfl⟩, by assumption, by omega, ?_⟩
   exact ⟨⟨by omega, rfl⟩, .nil _ _ _, hR, .nil _ _ _ _, fun _ h => by simp at h, fun _ h => by simp at h, fun _ h => by simp at h⟩
  rintro ⟨f, rr, cs, gLC⟩ HL4 ⟨lst4, at_LC, pl_LC, at_Lg5, ap4_0, hI⟩ KL4 hKL4
  refine .forget (fr' := [(10, some (.int .i64 (f : Int))), (2, some _), (4, some _), (5, some _)]) ⟨rfl, rfl, rfl, rfl, trivial⟩ ?_
  have ge_LC : H.next ≤ gLC := pl_LC.ge (by omega) (by omega)
  have nx_HL4 := lst4.nx
  replace hle := hle.st lst4 (fun k hk => ⟨by omega, by omega, trivial⟩)
  have ne_g2_g21 : NE g2 g21 := .a
  replace at2 := lst4.same _ _ ⟨ne_g2_g21.ne, ne_g2_g5.ne, trivial⟩ at2
  replace at_L4 := lst4.same _ _ ⟨(Ne.symm (pl_L4.ne ne_g21_g16.ne (by omega))), ap1_2, trivial⟩ at_L4
  replace at_LF := lst4.same _ _ ⟨(Ne.symm (pl_LF.ne ne_g21_g18.ne (by omega))), ap1_4, trivial⟩ at_LF
  replace at_LT := lst4.same _ _ ⟨(Ne.symm (pl_LT.ne ne_g21_g19.ne (by omega))), ap1_5, trivial⟩ at_LT
  replace at_LI := lst4.same _ _ ⟨(Ne.symm (pl_LI.ne ne_g21_g20.ne (by omega))), ap3_0, trivial⟩ at_LI
  have lt_at_LC := GHeap.ltg at_LC
  have lt_at_Lg5 := GHeap.ltg at_Lg5
  have rk := St.refl [gLC, g5] HL4
  obtain ⟨⟨hf, hcl⟩, hC, hR, hQ, hF2, hT2, hI2⟩ := hI
  have hatC := at_LC
  have hfl : (slsL rr cs).length = cs.length := length_slsL _ _
  refine .seq (fun K26 hK26 => .seq (fun K27 hK27 => .region (.mv rfl (.q rfl (.fieldAddr fo_29_1_B rfl) ?_))))
  refine .q rfl (.load on_22_B rfl (by first | assumption | exact Mem.of_get at_Lg5 1 _ rfl)) ?_
  refine .q rfl (.len sl_22_A rfl) (.q rfl (.cmp rfl rfl rfl) (.nil (hK27 _ _ ?_)))
  refine .cond rfl (fun h85 => ?_) (fun h85 => ?_)
  ·
   simp only [sps] at h85
   have q1 := hS f (by omega)
   refine .skip ?_
   refine hK26 _ _ (.seq (fun K28 hK28 => ?_))
   refine .block ?_
   refine .seq (fun K29 hK29 => .region ?_)
   refine .R rfl (.litA rfl sl_22_A ze_2_L rfl rfl rfl rfl) ?_
   rintro _ H88 ⟨g88, rfl, le88, ge88, at88⟩
   have nx_H88 := le88.1
   replace lst4 := lst4.le le88
   replace rk := rk.le le88
   replace at_L4 := le88.2 _ _ at_L4
   replace at_LF := le88.2 _ _ at_LF
   replace at_LT := le88.2 _ _ at_LT
   replace at_LC := le88.2 _ _ at_LC
   replace at_Lg5 := le88.2 _ _ at_Lg5
   have lt_at88 := GHeap.ltg at88
   replace at88 : GHeap.get H88 g88 = some (.row (ints []) 2 true) := at88
   refine .mv rfl (.nil (hK29 _ _ (.seq (fun K30 hK30 => .seq (fun K31 hK31 => .region (.mv rfl (.nil (hK31 _ _ ?_))))))))
   refine .block ?_
   refine .loopR (σ := Nat × List Int × Nat × Nat) [(2, some _), (4, some _), (5, some _), (10, some _)] (fun (g, row, gL11, nL11) => [(12, some (.int .i64 (g : Int))), (11, some (.slice (some ⟨gL11, 0, none⟩) nL11 nL11))]) (fun (g, row, gL11, nL11) H' => St [g88] H88 H' ∧ H'.get gL11 = some (.row (ints row) 2 true) ∧ PL gL11 g88 H88.next ∧ nL11 = row.length ∧ (g ≤ ss.length ∧ row.length = g) ∧ Bd (-1) (8 * rel.length) row) (fun (g, row, gL11, nL11) => ss.length - g) ((0, [], _, _)) ⟨rfl, rfl, rfl, rfl, trivial⟩ ⟨rfl, rfl, trivial⟩ ?_ ?_
   ·
    refine ⟨.refl _ _, by assumption, ⟨.inl rfl⟩, by rfl, ?_⟩
    exact ⟨⟨by omega, rfl⟩, .nil _ _⟩
   rintro ⟨g, row, gL11, nL11⟩ HL5 ⟨lst5, at_L11, pl_L11, ln_L11, hI⟩ KL5 hKL5
   refine .forget (fr' := [(12, some (.int .i64 (g : Int))), (11, some (.slice (some ⟨gL11, 0, none⟩) nL11 nL11)), (2, some _), (4, some _), (5, some _), (10, some _)]) ⟨rfl, rfl, rfl, rfl, rfl, rfl, trivial⟩ ?_
   have nx_HL5 := lst5.nx
   replace lst4 := lst4.sA lst5
   replace rk := rk.sA lst5
   replace at_L4 := lst5.s at_L4
   replace at_LF := lst5.s at_LF
   replace at_LT := lst5.s at_LT
   have ne_gLC_g88 : NE gLC g88 := .a
   replace at_LC := lst5.s at_LC ne_gLC_g88.ne
   have ne_g5_g88 : NE g5 g88 := .a
   replace at_Lg5 := lst5.s at_Lg5 ne_g5_g88.ne
   obtain ⟨⟨hg, hrl⟩, hB⟩ := hI
   refine .seq (fun K32 hK32 => .seq (fun K33 hK33 => .region (.mv rfl (.q rfl (.fieldAddr fo_29_1_B rfl) ?_))))
   refine .q rfl (.load on_22_B rfl (by first | assumption | exact Mem.of_get at_Lg5 1 _ rfl)) ?_
   refine .q rfl (.len sl_22_A rfl) (.q rfl (.cmp rfl rfl rfl) (.nil (hK33 _ _ ?_)))
   refine .cond rfl (fun h93 => ?_) (fun h93 => ?_)
   ·
    simp only [sps] at h93
    have q4 := hT g (by omega)
    refine .skip ?_
    refine hK32 _ _ (.seq (fun K34 hK34 => ?_))
    refine .block ?_
    refine .seq (fun K35 hK35 => .region (.mv rfl (.nil (hK35 _ _ (.seq (fun K36 hK36 => .seq (fun K37 hK37 => ?_)))))))
    refine .regionD mo_B (.q 0 (.q 1 (.q 2 (.q 3 (.q 4 (.q 5 (.q 6 (.q 7 (.q 8 (.q 9 (.q 10 (.done)))))))))))) (by kernel_rfl) ?_
    refine .q rfl (.fieldAddr fo_29_2_B rfl) ?_
    refine .q rfl (.load on_22_B rfl (by first | assumption | exact Mem.of_get at_Lg5 2 _ rfl)) ?_
    refine .mv rfl rfl ?_
    refine .q rfl (.idxN sl_22_A (by first | assumption | exact SlA.of_row at_LT (by first | rfl | (simp; done) | (simp <;> omega))) rfl rfl (by omega)) ?_
    refine .q rfl (.loadI on_2_A (by first | assumption | exact Ints.of_get at_LT) rfl (by omega)) ?_
    refine .q rfl (.fieldAddr fo_29_1_B rfl) ?_
    refine .q rfl (.load on_22_B rfl (by first | assumption | exact Mem.of_get at_Lg5 1 _ rfl)) ?_
    refine .mv rfl rfl ?_
    refine .q rfl (.idxN sl_22_A (by first | assumption | exact SlA.of_row at_LF (by first | rfl | (simp; done) | (simp <;> omega))) rfl rfl (by omega)) ?_
    refine .q rfl (.loadI on_2_A (by first | assumption | exact Ints.of_get at_LF) rfl (by omega)) ?_
    refine .q rfl (.cmp rfl rfl rfl) ?_
    refine .done ?_
    refine hK37 _ _ ?_
    refine .cond rfl (fun h106 => ?_) (fun h106 => ?_)
    ·
     have n1 := hN.at (i := (ss.getD f 0).toNat) (j := (ts.getD g 0).toNat) (by omega) (by omega)
     obtain ⟨h3, hh3, n3⟩ : ∃ h3, h3 = (num.getD (ss.getD f 0).toNat []).getD (ts.getD g 0).toNat 0 ∧ -1 ≤ h3 ∧ h3 ≤ 8 * rel.length := ⟨_, rfl, by omega, by omega⟩
     refine .regionD mo_B (.q 0 (.q 1 (.q 2 (.q 3 (.q 4 (.q 5 (.q 6 (.q 7 (.q 8 (.q 9 (.q 10 (.q 11 (.q 12 (.q 13 (.q 14 (.q 15 (.done))))))))))))))))) (by kernel_rfl) ?_
     have hRn := hR.st rk (.cons (hR.neT hatC rfl) (.cons (hR.lowNe (by omega)) (.nil _ _)))
     have iN := (hRn.low (b' := H.next) (by omega)).intss at_L4 (by omega)
     have u1 := iN.2 (ss.getD f 0).toNat (by omega)
     have n2 := (hN (ss.getD f 0).toNat (by omega)).1
     refine .mv rfl rfl (.q rfl (.fieldAddr fo_29_1_B rfl) ?_)
     refine .q rfl (.load on_22_B rfl (by first | assumption | exact Mem.of_get at_Lg5 1 _ rfl)) ?_
     refine .mv rfl rfl ?_
     refine .q rfl (.idxN sl_22_A (by first | assumption | exact SlA.of_row at_LF (by first | rfl | (simp; done) | (simp <;> omega))) rfl rfl (by omega)) ?_
     refine .q rfl (.loadI on_2_A (by first | assumption | exact Ints.of_get at_LF) rfl (by omega)) ?_
     refine .q rfl (.idx1 sl_23_B (by first | exact (Intss.sl (by assumption)) | exact SlA.of_row at_L4 (by first | rfl | (simp; done) | (simp <;> omega))) rfl rfl (by omega) (by omega)) ?_
     refine .q rfl (.loadR on_22_B (by assumption) rfl (by omega)) ?_
     refine .q rfl (.fieldAddr fo_29_2_B rfl) ?_
     refine .q rfl (.load on_22_B rfl (by first | assumption | exact Mem.of_get at_Lg5 2 _ rfl)) ?_
     refine .mv rfl rfl ?_
     refine .q rfl (.idxN sl_22_A (by first | assumption | exact SlA.of_row at_LT (by first | rfl | (simp; done) | (simp <;> omega))) rfl rfl (by omega)) ?_
     refine .q rfl (.loadI on_2_A (by first | assumption | exact Ints.of_get at_LT) rfl (by omega)) ?_
     refine .q rfl (.idx1 sl_22_A (by assumption) rfl rfl (by omega) (by omega)) ?_
     refine .q rfl (.loadI on_2_A (by assumption) rfl (by omega)) ?_
     refine .mv rfl rfl ?_
     refine .done ?_
     refine hK36 _ _ (.region (.mv rfl (.mv rfl ?_)))
     refine .R rfl (.litA rfl sl_22_A ze_2_L rfl rfl rfl rfl) ?_
     rintro _ H124 ⟨g124, rfl, le124, ge124, at124⟩
     replace lst5 := lst5.le le124
     replace at_L11 := le124.2 _ _ at_L11
     have lt_at124 := GHeap.ltg at124
     refine .R rfl (.appendI rfl sl_22_A ze_2_L rfl by_2_L sl_22_A rfl rfl (by assumption) (by assumption) (by first | omega | (simp <;> omega)) (by omega) (by omega)) ?_
     rintro _ H125 ⟨g125, rfl, st125, ge125, at125⟩
     replace lst5 := lst5.sP st125
     refine .mv rfl (.nil (hK34 _ _ (.region (.mv rfl ?_))))
     refine .q rfl (.add rfl rfl rfl (by omega) (by omega)) ?_
     refine .mv rfl (.nil ?_)
     refine hKL5 ((g + 1, row ++ [h3], _, _)) _ _ ?_ ?_ ⟨rfl, rfl, rfl, rfl, rfl, rfl, trivial⟩
     ·
      refine ⟨lst5, by (rw [hh3]; assumption), by exact ⟨.inr (by omega)⟩, by (simp only [List.length_append, List.length_cons, List.length_nil] <;> omega), ?_⟩
      exact ⟨⟨by omega, by simp; omega⟩, hB.snoc (by omega) (by omega)⟩
     (dsimp only; omega)
    obtain ⟨h3, hh3, n3⟩ : ∃ h3 : Int, h3 = -1 ∧ -1 ≤ h3 ∧ h3 ≤ 8 * rel.length := ⟨_, rfl, by omega, by omega⟩
    refine .skip ?_
    refine hK36 _ _ (.region (.mv rfl (.mv rfl ?_)))
    refine .R rfl (.litA rfl sl_22_A ze_2_L rfl rfl rfl rfl) ?_
    rintro _ H124x2 ⟨g124x2, rfl, le124x2, ge124x2, at124x2⟩
    replace lst5 := lst5.le le124x2
    replace at_L11 := le124x2.2 _ _ at_L11
    have lt_at124x2 := GHeap.ltg at124x2
    refine .R rfl (.appendI rfl sl_22_A ze_2_L rfl by_2_L sl_22_A rfl rfl (by assumption) (by assumption) (by first | omega | (simp <;> omega)) (by omega) (by omega)) ?_
    rintro _ H125x2 ⟨g125x2, rfl, st125x2, ge125x2, at125x2⟩
    replace lst5 := lst5.sP st125x2
    refine .mv rfl (.nil (hK34 _ _ (.region (.mv rfl ?_))))
    refine .q rfl (.add rfl rfl rfl (by omega) (by omega)) ?_
    refine .mv rfl (.nil ?_)
    refine hKL5 ((g + 1, row ++ [h3], _, _)) _ _ ?_ ?_ ⟨rfl, rfl, rfl, rfl, rfl, rfl, trivial⟩
    ·
     refine ⟨lst5, by (rw [hh3]; assumption), by exact ⟨.inr (by omega)⟩, by (simp only [List.length_append, List.length_cons, List.length_nil] <;> omega), ?_⟩
     exact ⟨⟨by omega, by simp; omega⟩, hB.snoc (by omega) (by omega)⟩
    (dsimp only; omega)
   try simp only [sps] at h93
   refine .exit ?_
   refine hK30 _ _ (.region ?_)
   obtain rfl : g = ss.length := by omega
   obtain rfl := ln_L11
   refine .q rfl (.fieldAddr fo_29_4_B rfl) ?_
   refine .q rfl (.load on_23_B rfl (by first | assumption | exact Mem.of_get at_Lg5 4 _ rfl)) ?_
   refine .mv rfl ?_
   refine .R rfl (.litA rfl sl_23_B ze_22_Hj rfl rfl rfl rfl) ?_
   rintro _ H129 ⟨g129, rfl, le129, ge129, at129⟩
   replace lst4 := lst4.le le129
   replace rk := rk.le le129
   replace at_LC := le129.2 _ _ at_LC
   replace at_Lg5 := le129.2 _ _ at_Lg5
   replace at_L11 := le129.2 _ _ at_L11
   have lt_at129 := GHeap.ltg at129
   refine .R rfl (.appendV rfl sl_23_B ze_22_Hj rfl by_22_Hj sl_23_B rfl rfl (by assumption) (by assumption) (by first | omega | (simp <;> omega)) rfl rfl (by omega) (by omega)) ?_
   rintro _ H130 ⟨g130, rfl, st130, ge130, at130⟩
   replace lst4 := lst4.sP st130
   replace rk := rk.sP st130
   replace at_Lg5 := st130.same _ _ ⟨(Ne.symm ap4_0), trivial⟩ at_Lg5
   replace at_L11 := st130.same _ _ ⟨(Ne.symm (pl_L11.ne ne_gLC_g88.ne (by omega))), trivial⟩ at_L11
   refine .q rfl (.fieldAddr fo_29_4_B rfl) ?_
   refine .r0 rfl rfl (.storeR rfl sz_23_Ch rfl rfl rfl (by assumption) (by first | exact Nat.le_of_ble_eq_true rfl | (simp; done) | (simp <;> omega))) ?_
   rintro _ H31006 ⟨rfl, st31006, at31006⟩
   replace lst4 := lst4.sA st31006
   replace rk := rk.sA st31006
   replace at_L11 := st31006.same _ _ ⟨(Ne.symm (pl_L11.ne ne_g5_g88.ne (by omega))), trivial⟩ at_L11
   replace at130 := st31006.s at130
   try simp only [Nat.zero_add, List.set_cons_succ, List.set_cons_zero] at at31006
   refine .nil (hK28 _ _ (.region (.mv rfl ?_)))
   refine .q rfl (.add rfl rfl rfl (by omega) (by omega)) ?_
   refine .mv rfl (.nil ?_)
   refine hKL4 ((f + 1, upd rr cs.length (some ⟨gL11, 0, none⟩), cs ++ [row], g130)) _ _ ?_ ?_ ⟨rfl, rfl, rfl, rfl, trivial⟩
   ·
    refine ⟨lst4, by (rw [slsL_snoc]; assumption), by exact ⟨.inr (by omega)⟩, by assumption, by omega, ?_⟩
    have hR' := hR.st rk (.cons (hR.neT hatC rfl) (.cons (hR.lowNe (by omega)) (.nil _ _)))
    have hQ' := hQ.st rk (.cons (hQ.neT hatC rfl) (.cons (hQ.lowNe (by omega)) (.nil _ _)))
    have hn1 := hQ.ne (g := gL11) (pl_L11.ge (by omega) (by omega))
    have b11 : H3007.next ≤ gL11 := pl_L11.ge (by omega) (by omega)
    have hx1 : gL11 ≠ gLF := pl_L11.ne' (by omega) (by omega)
    have hx2 : gL11 ≠ gLT := pl_L11.ne' (by omega) (by omega)
    have hx3 : gL11 ≠ gLI := pl_L11.ne' (by omega) (by omega)
    exact ⟨⟨by omega, by simp; omega⟩, hC.snoc (by omega) hB, hR', hQ'.snoc2 (by assumption) hn1 (by omega), ne_snoc hF2 (by omega), ne_snoc hT2 (by omega), ne_snoc hI2 (by omega)⟩
   (dsimp only; omega)
  simp only [sps] at h85
  refine .exit ?_
  refine hK24 _ _ (.seq (fun K38 hK38 => .region ?_))
  refine .q rfl (.loadM ag_29_D rfl ⟨rfl, Mem.of_get at_Lg5⟩) ?_
  refine .r0 rfl rfl (.fillA rfl sz_29_D rfl rfl rfl rfl) ?_
  rintro _ H32001 ⟨rfl, st32001, at32001⟩
  replace hle := hle.st st32001 (fun k hk => ⟨by omega, trivial⟩)
  replace at_LF := st32001.same _ _ ⟨(Ne.symm (pl_LF.ne ne_g2_g18.ne (by omega))), trivial⟩ at_LF
  replace at_LT := st32001.same _ _ ⟨(Ne.symm (pl_LT.ne ne_g2_g19.ne (by omega))), trivial⟩ at_LT
  replace at_LI := st32001.same _ _ ⟨(Ne.symm (pl_LI.ne ne_g2_g20.ne (by omega))), trivial⟩ at_LI
  replace at_LC := st32001.same _ _ ⟨(Ne.symm (pl_LC.ne ne_g2_g21.ne (by omega))), trivial⟩ at_LC
  replace at_Lg5 := st32001.s at_Lg5 (Ne.symm ne_g2_g5.ne)
  have mm32001 : MemN _ _ _ _ _ := ⟨rfl, Mem.of_get at32001⟩
  refine .nil (hK38 _ _ ?_)
  refine .ret ?_
  refine hret _ _ ?_
  refine ⟨_, _, _, _, rfl, ag_29_D, (by rfl), (Mem.of_get at32001), ?_⟩
  obtain rfl : f = ss.length := by omega
  have hx4 : gLF ≠ gLI := pl_LI.ne (pl_LF.ne' (by omega) (by omega)) (by omega)
  have hx5 : gLT ≠ gLI := pl_LI.ne (pl_LT.ne' (by omega) (by omega)) (by omega)
  exact ⟨⟨rel.length, ss, ts, is, cs⟩, rect_mk (by omega) (by omega) hts (hS.mono (by omega) (by omega)) (hT.mono (by omega) (by omega)) (by omega) hI1 (by omega) (hC.mono (by omega) (by omega)), hle, gLF, gLT, gLI, gLC, rr, by simp [Cat.cells, ownP, hts, hxl, hcl], ⟨at_LF, at_LT, at_LI, at_LC, by omega, by omega, by omega, by omega, by omega, by omega, by omega, (hQ.st st32001 (.cons (hQ.lowNe (by omega)) (.nil _ _))).low (by omega), hF2, hT2, hI2⟩⟩
end Go.Proofs.Ytjdedelneppnlaa
namespace Go.Proofs.Ytjdedelneppnlaa
open Go Go.GL Go.RowKit Go.Proofs
set_option maxHeartbeats 8000000 in
theorem l02Family_c {gS : Nat} {H : GHeap} (hs : DSrc 120 H gS := by assumption) :
    GCalls Try.prog 138 [.pointer (some ⟨gS, 0, none⟩)] H (DrawnCat 120 128 gS H) := by
  have hlS := hs.lt
  refine GCalls.body (N := 141) (rs := [.cell 2 29]) Try.func138 rfl rfl rfl rfl (fun Qx hret hend => ?_)
  refine .fg [0] rfl ?_
  have hst := St.refl [gS] H
  refine .seq (fun K1 hK1 => .region ?_)
  refine .R rfl (.allocR rfl ze_29_Hj rfl) ?_
  rintro _ H2 ⟨g2, rfl, le2, ge2, at2⟩
  replace hst := hst.le le2
  have lt_at2 := GHeap.ltg at2
  refine .nil (hK1 _ _ (.seq (fun K2 hK2 => .seq (fun K3 hK3 => .region (.mv rfl ?_)))))
  refine .call rfl rfl rfl rfl @Try.call70 rfl (l01Next_c (hs.le le2)) ?_
  rintro _ H14 ⟨k14, rfl, ka14, kb14, kc14, st14, hs⟩
  have nx_H14 := st14.nx
  replace hst := hst.sA st14
  have ne_g2_gS : NE g2 gS := .a
  replace at2 := st14.s at2 ne_g2_gS.ne
  refine .nil (hK3 _ _ ?_)
  refine .block ?_
  refine .seq (fun K4 hK4 => .region (.q rfl (.cmp rfl rfl rfl) (.mv rfl (.nil (hK4 _ _ ?_)))))
  refine .cond rfl (fun h15 => ?_) (fun h15 => ?_)
  ·
   try simp only [sps] at h15
   refine .seq (fun K5 hK5 => .region (.mv rfl (.mv rfl ?_)))
   refine .call rfl rfl rfl rfl @Try.call70 rfl (l01Next_c) ?_
   rintro _ H19 ⟨k19, rfl, ka19, kb19, kc19, st19, hs⟩
   have nx_H19 := st19.nx
   replace hst := hst.sA st19
   replace at2 := st19.s at2 ne_g2_gS.ne
   obtain ⟨n, rfl⟩ : ∃ n : Nat, k19 = (n : Int) := ⟨k19.toNat, by omega⟩
   have hn5 : n < 5 := by omega
   refine .call rfl rfl rfl rfl @Try.call72 rfl (l02Relation_c (n := n) (hn := by omega)) ?_
   rintro _ H20 ⟨a20, T20, r20, rfl, v20, nT20, tb20, st20, hs⟩
   have nx_H20 := st20.nx
   replace hst := hst.sA st20
   replace at2 := st20.s at2 ne_g2_gS.ne
   refine .call rfl rfl rfl rfl @Try.call71 rfl (l03Poset_c (hin := v20.intss) (hn := by omega) (hr := tb20)) ?_
   rintro _ H21 ⟨c21, rc21, le21, ga21, gb21, gc21, gd21, rr21, rfl, o21⟩
   have v21 := o21.catR
   replace hst := hst.le le21
   replace hs := hs.le le21
   replace at2 := le21.2 _ _ at2
   have bs_v21 := v21
   have lv_v21 : Keep H20.next H21 H21 := fun _ _ _ h => h
   refine .r0 rfl rfl (.fillA rfl sz_29_D rfl rfl rfl rfl) ?_
   rintro _ H3005 ⟨rfl, st3005, at3005⟩
   replace hst := hst.sA st3005
   replace hs := hs.sA st3005
   replace lv_v21 := Keep.st lv_v21 st3005 (fun k hb hk => ⟨(by omega), trivial⟩)
   replace v21 := bs_v21.keep lv_v21 (Nat.le_refl _)
   refine .nil (hK5 _ _ ?_)
   refine .ret ?_
   refine hret _ _ ?_
   refine ⟨_, _, _, _, rfl, ag_29_D, (by rfl), (Mem.of_get at3005), ?_⟩
   exact ⟨c21, _, rfl, rc21.mono (by omega), v21.keep (.of_le (.refl _)) (by omega), hst, hs⟩
  try simp only [sps] at h15
  refine .seq (fun K6 hK6 => .region (.q rfl (.cmp rfl rfl rfl) (.mv rfl (.nil (hK6 _ _ ?_)))))
  refine .cond rfl (fun h22 => ?_) (fun h22 => ?_)
  ·
   try simp only [sps] at h22
   refine .seq (fun K7 hK7 => .region ?_)
   refine .R rfl (.litA rfl sl_22_A ze_2_L rfl rfl rfl rfl) ?_
   rintro _ H24 ⟨g24, rfl, le24, ge24, at24⟩
   replace hst := hst.le le24
   replace hs := hs.le le24
   replace at2 := le24.2 _ _ at2
   have lt_at24 := GHeap.ltg at24
   refine .R rfl (.litA rfl sl_22_A ze_2_L rfl rfl rfl rfl) ?_
   rintro _ H25 ⟨g25, rfl, le25, ge25, at25⟩
   replace hst := hst.le le25
   replace hs := hs.le le25
   replace at2 := le25.2 _ _ at2
   replace at24 := le25.2 _ _ at24
   have lt_at25 := GHeap.ltg at25
   refine .R rfl (.litA rfl sl_23_B ze_22_Hj rfl rfl rfl rfl) ?_
   rintro _ H26 ⟨g26, rfl, le26, ge26, at26⟩
   replace hst := hst.le le26
   replace hs := hs.le le26
   replace at2 := le26.2 _ _ at2
   replace at24 := le26.2 _ _ at24
   replace at25 := le26.2 _ _ at25
   have lt_at26 := GHeap.ltg at26
   refine .call rfl rfl rfl rfl @Try.call71 rfl ((by have hh := l03Poset_c (rel := [[1, 1], [0, 1]]) (hin := ((lit_own (gs := [g24, g25]) (by simp only [LitAt]; exact ⟨⟨Nat.zero_le _, at24⟩, ⟨Nat.zero_le _, at25⟩, trivial⟩) (by simp <;> omega)).done (by exact at26) (Nat.zero_le _)).intss) (hn := by decide) (hr := by decide); exact hh)) ?_
   rintro _ H27 ⟨c27, rc27, le27, ga27, gb27, gc27, gd27, rr27, rfl, o27⟩
   have v27 := o27.catR
   replace hst := hst.le le27
   replace hs := hs.le le27
   replace at2 := le27.2 _ _ at2
   have bs_v27 := v27
   have lv_v27 : Keep H26.next H27 H27 := fun _ _ _ h => h
   refine .r0 rfl rfl (.fillA rfl sz_29_D rfl rfl rfl rfl) ?_
   rintro _ H5004 ⟨rfl, st5004, at5004⟩
   replace hst := hst.sA st5004
   replace hs := hs.sA st5004
   replace lv_v27 := Keep.st lv_v27 st5004 (fun k hb hk => ⟨(by omega), trivial⟩)
   replace v27 := bs_v27.keep lv_v27 (Nat.le_refl _)
   refine .nil (hK7 _ _ ?_)
   refine .ret ?_
   refine hret _ _ ?_
   refine ⟨_, _, _, _, rfl, ag_29_D, (by rfl), (Mem.of_get at5004), ?_⟩
   exact ⟨c27, _, rfl, rc27.mono (by decide), v27.keep (.of_le (.refl _)) (by omega), hst, hs⟩
  try simp only [sps] at h22
  refine .seq (fun K8 hK8 => .region (.q rfl (.cmp rfl rfl rfl) (.mv rfl (.nil (hK8 _ _ ?_)))))
  refine .cond rfl (fun h28 => ?_) (fun h28 => ?_)
  ·
   try simp only [sps] at h28
   refine .seq (fun K9 hK9 => .region ?_)
   refine .R rfl (.litA rfl sl_22_A ze_2_L rfl rfl rfl rfl) ?_
   rintro _ H30 ⟨g30, rfl, le30, ge30, at30⟩
   replace hst := hst.le le30
   replace hs := hs.le le30
   replace at2 := le30.2 _ _ at2
   have lt_at30 := GHeap.ltg at30
   refine .R rfl (.litA rfl sl_22_A ze_2_L rfl rfl rfl rfl) ?_
   rintro _ H31 ⟨g31, rfl, le31, ge31, at31⟩
   replace hst := hst.le le31
   replace hs := hs.le le31
   replace at2 := le31.2 _ _ at2
   replace at30 := le31.2 _ _ at30
   have lt_at31 := GHeap.ltg at31
   refine .R rfl (.litA rfl sl_22_A ze_2_L rfl rfl rfl rfl) ?_
   rintro _ H32 ⟨g32, rfl, le32, ge32, at32⟩
   replace hst := hst.le le32
   replace hs := hs.le le32
   replace at2 := le32.2 _ _ at2
   replace at30 := le32.2 _ _ at30
   replace at31 := le32.2 _ _ at31
   have lt_at32 := GHeap.ltg at32
   refine .R rfl (.litA rfl sl_23_B ze_22_Hj rfl rfl rfl rfl) ?_
   rintro _ H33 ⟨g33, rfl, le33, ge33, at33⟩
   replace hst := hst.le le33
   replace hs := hs.le le33
   replace at2 := le33.2 _ _ at2
   replace at30 := le33.2 _ _ at30
   replace at31 := le33.2 _ _ at31
   replace at32 := le33.2 _ _ at32
   have lt_at33 := GHeap.ltg at33
   refine .call rfl rfl rfl rfl @Try.call71 rfl ((by have hh := l03Poset_c (rel := [[1, 1, 1], [0, 1, 0], [0, 0, 1]]) (hin := ((lit_own (gs := [g30, g31, g32]) (by simp only [LitAt]; exact ⟨⟨Nat.zero_le _, at30⟩, ⟨Nat.zero_le _, at31⟩, ⟨Nat.zero_le _, at32⟩, trivial⟩) (by simp <;> omega)).done (by exact at33) (Nat.zero_le _)).intss) (hn := by decide) (hr := by decide); exact hh)) ?_
   rintro _ H34 ⟨c34, rc34, le34, ga34, gb34, gc34, gd34, rr34, rfl, o34⟩
   have v34 := o34.catR
   replace hst := hst.le le34
   replace hs := hs.le le34
   replace at2 := le34.2 _ _ at2
   have bs_v34 := v34
   have lv_v34 : Keep H33.next H34 H34 := fun _ _ _ h => h
   refine .r0 rfl rfl (.fillA rfl sz_29_D rfl rfl rfl rfl) ?_
   rintro _ H7005 ⟨rfl, st7005, at7005⟩
   replace hst := hst.sA st7005
   replace hs := hs.sA st7005
   replace lv_v34 := Keep.st lv_v34 st7005 (fun k hb hk => ⟨(by omega), trivial⟩)
   replace v34 := bs_v34.keep lv_v34 (Nat.le_refl _)
   refine .nil (hK9 _ _ ?_)
   refine .ret ?_
   refine hret _ _ ?_
   refine ⟨_, _, _, _, rfl, ag_29_D, (by rfl), (Mem.of_get at7005), ?_⟩
   exact ⟨c34, _, rfl, rc34.mono (by decide), v34.keep (.of_le (.refl _)) (by omega), hst, hs⟩
  try simp only [sps] at h28
  refine .seq (fun K10 hK10 => .region (.q rfl (.cmp rfl rfl rfl) (.mv rfl (.nil (hK10 _ _ ?_)))))
  refine .cond rfl (fun h35 => ?_) (fun h35 => ?_)
  ·
   try simp only [sps] at h35
   refine .seq (fun K11 hK11 => .region ?_)
   refine .R rfl (.litA rfl sl_22_A ze_2_L rfl rfl rfl rfl) ?_
   rintro _ H37 ⟨g37, rfl, le37, ge37, at37⟩
   replace hst := hst.le le37
   replace hs := hs.le le37
   replace at2 := le37.2 _ _ at2
   have lt_at37 := GHeap.ltg at37
   refine .R rfl (.litA rfl sl_22_A ze_2_L rfl rfl rfl rfl) ?_
   rintro _ H38 ⟨g38, rfl, le38, ge38, at38⟩
   replace hst := hst.le le38
   replace hs := hs.le le38
   replace at2 := le38.2 _ _ at2
   replace at37 := le38.2 _ _ at37
   have lt_at38 := GHeap.ltg at38
   refine .call rfl rfl rfl rfl @Try.call147 rfl ((by have hh := l03Paths_c (n := 2) (xs := [0, 0]) (ys := [1, 1]) (ha := Ints.of_get at37) (hb := Ints.of_get at38) (hl := rfl) (hx := by decide) (hn := by decide) (hy := by unfold Bd; decide) (hup := by decide); exact hh)) ?_
   rintro _ H39 ⟨c39, rc39, le39, ga39, gb39, gc39, gd39, rr39, rfl, o39⟩
   have v39 := o39.catR
   replace hst := hst.le le39
   replace hs := hs.le le39
   replace at2 := le39.2 _ _ at2
   have bs_v39 := v39
   have lv_v39 : Keep H38.next H39 H39 := fun _ _ _ h => h
   refine .r0 rfl rfl (.fillA rfl sz_29_D rfl rfl rfl rfl) ?_
   rintro _ H9003 ⟨rfl, st9003, at9003⟩
   replace hst := hst.sA st9003
   replace hs := hs.sA st9003
   replace lv_v39 := Keep.st lv_v39 st9003 (fun k hb hk => ⟨(by omega), trivial⟩)
   replace v39 := bs_v39.keep lv_v39 (Nat.le_refl _)
   refine .nil (hK11 _ _ ?_)
   refine .ret ?_
   refine hret _ _ ?_
   refine ⟨_, _, _, _, rfl, ag_29_D, (by rfl), (Mem.of_get at9003), ?_⟩
   exact ⟨c39, _, rfl, rc39.mono (by omega), v39.keep (.of_le (.refl _)) (by omega), hst, hs⟩
  try simp only [sps] at h35
  refine .seq (fun K12 hK12 => .region (.q rfl (.cmp rfl rfl rfl) (.mv rfl (.nil (hK12 _ _ ?_)))))
  refine .cond rfl (fun h40 => ?_) (fun h40 => ?_)
  ·
   try simp only [sps] at h40
   refine .seq (fun K13 hK13 => .region (.mv rfl ?_))
   refine .call rfl rfl rfl rfl @Try.call149 rfl (l02Monoid_c) ?_
   rintro _ H43 ⟨a43, T43, r43, rfl, v43, nT43, tb43, st43, hs⟩
   have nx_H43 := st43.nx
   replace hst := hst.sA st43
   replace at2 := st43.s at2 ne_g2_gS.ne
   refine .call rfl rfl rfl rfl @Try.call148 rfl (l03Monoid_c (hin := v43.intss) (hn := nT43) (ht := tb43)) ?_
   rintro _ H44 ⟨c44, rc44, le44, ga44, gb44, gc44, gd44, rr44, rfl, o44⟩
   have v44 := o44.catR
   replace hst := hst.le le44
   replace hs := hs.le le44
   replace at2 := le44.2 _ _ at2
   have bs_v44 := v44
   have lv_v44 : Keep H43.next H44 H44 := fun _ _ _ h => h
   refine .r0 rfl rfl (.fillA rfl sz_29_D rfl rfl rfl rfl) ?_
   rintro _ H11003 ⟨rfl, st11003, at11003⟩
   replace hst := hst.sA st11003
   replace hs := hs.sA st11003
   replace lv_v44 := Keep.st lv_v44 st11003 (fun k hb hk => ⟨(by omega), trivial⟩)
   replace v44 := bs_v44.keep lv_v44 (Nat.le_refl _)
   refine .nil (hK13 _ _ ?_)
   refine .ret ?_
   refine hret _ _ ?_
   refine ⟨_, _, _, _, rfl, ag_29_D, (by rfl), (Mem.of_get at11003), ?_⟩
   exact ⟨c44, _, rfl, rc44.mono (by omega), v44.keep (.of_le (.refl _)) (by omega), hst, hs⟩
  try simp only [sps] at h40
  refine .seq (fun K14 hK14 => .region (.q rfl (.cmp rfl rfl rfl) (.mv rfl (.nil (hK14 _ _ ?_)))))
  refine .cond rfl (fun h45 => ?_) (fun h45 => ?_)
  ·
   try simp only [sps] at h45
   refine .seq (fun K15 hK15 => .region (.mv rfl ?_))
   refine .call rfl rfl rfl rfl @Try.call70 rfl (l01Next_c) ?_
   rintro _ H48 ⟨k48, rfl, ka48, kb48, kc48, st48, hs⟩
   have nx_H48 := st48.nx
   replace hst := hst.sA st48
   replace at2 := st48.s at2 ne_g2_gS.ne
   obtain ⟨n, hn⟩ : ∃ n : Nat, (n : Int) = 1 + k48 := ⟨(1 + k48).toNat, by omega⟩
   refine .q rfl (.add (r := (n : Int)) rfl rfl (by omega) (by omega) (by omega)) ?_
   refine .mv rfl (.nil (hK15 _ _ (.seq (fun K16 hK16 => .region ?_))))
   refine .R rfl (.litA rfl sl_23_B ze_22_Hj rfl rfl rfl rfl) ?_
   rintro _ H50 ⟨g50, rfl, le50, ge50, at50⟩
   replace hst := hst.le le50
   replace hs := hs.le le50
   replace at2 := le50.2 _ _ at2
   have lt_at50 := GHeap.ltg at50
   refine .mv rfl (.nil (hK16 _ _ (.seq (fun K17 hK17 => .seq (fun K18 hK18 => .region (.mv rfl (.nil (hK18 _ _ ?_))))))))
   refine .block ?_
   refine .loopR (σ := Nat × (Nat → Option Addr) × List (List Int) × Nat × Nat) [(2, some _), (3, some _)] (fun (i, rr, T, gL4, nL4) => [(5, some (.int .i64 (i : Int))), (4, some (.slice (some ⟨gL4, 0, none⟩) nL4 nL4))]) (fun (i, rr, T, gL4, nL4) H' => St [g50] H50 H' ∧ H'.get gL4 = some (.row ((slsL rr T)) 22 true) ∧ PL gL4 g50 H50.next ∧ nL4 = (slsL rr T).length ∧ (i ≤ n ∧ T.length = i) ∧ Tb 0 1 n T ∧ OwnL H.next H' 2 rr T) (fun (i, rr, T, gL4, nL4) => n - i) ((0, fun _ => none, [], _, _)) ⟨rfl, rfl, trivial⟩ ⟨rfl, rfl, trivial⟩ ?_ ?_
   ·
    refine ⟨.refl _ _, by assumption, ⟨.inl rfl⟩, by rfl, ?_⟩
    exact ⟨⟨by omega, rfl⟩, .nil _ _ _, .nil _ _ _ _⟩
   rintro ⟨i, rr, T, gL4, nL4⟩ HL1 ⟨lst1, at_L4, pl_L4, ln_L4, hI⟩ KL1 hKL1
   refine .forget (fr' := [(5, some (.int .i64 (i : Int))), (4, some (.slice (some ⟨gL4, 0, none⟩) nL4 nL4)), (2, some _), (3, some _)]) ⟨rfl, rfl, rfl, rfl, trivial⟩ ?_
   have nx_HL1 := lst1.nx
   replace hst := hst.sA lst1
   replace hs := hs.sA lst1
   replace at2 := lst1.s at2
   have lt_at_L4 := GHeap.ltg at_L4
   have rk := St.refl [gL4] HL1
   obtain ⟨⟨hi, hTl⟩, hT, hR⟩ := hI
   have hat4 := at_L4
   have hfl : (slsL rr T).length = T.length := length_slsL _ _
   refine .seq (fun K19 hK19 => .seq (fun K20 hK20 => .region (.mv rfl (.mv rfl (.q rfl (.cmp rfl rfl rfl) (.nil (hK20 _ _ ?_)))))))
   refine .cond rfl (fun h53 => ?_) (fun h53 => ?_)
   ·
    simp only [sps] at h53
    refine .skip ?_
    refine hK19 _ _ (.seq (fun K21 hK21 => ?_))
    refine .block ?_
    refine .seq (fun K22 hK22 => .region ?_)
    refine .R rfl (.litA rfl sl_22_A ze_2_L rfl rfl rfl rfl) ?_
    rintro _ H56 ⟨g56, rfl, le56, ge56, at56⟩
    have nx_H56 := le56.1
    replace lst1 := lst1.le le56
    replace rk := rk.le le56
    replace at_L4 := le56.2 _ _ at_L4
    have lt_at56 := GHeap.ltg at56
    replace at56 : GHeap.get H56 g56 = some (.row (ints []) 2 true) := at56
    refine .mv rfl (.nil (hK22 _ _ (.seq (fun K23 hK23 => .seq (fun K24 hK24 => .region (.mv rfl (.nil (hK24 _ _ ?_))))))))
    refine .block ?_
    refine .loopR (σ := Nat × List Int × Nat × Nat) [(2, some _), (3, some _), (4, some _), (5, some _)] (fun (j, row, gL6, nL6) => [(7, some (.int .i64 (j : Int))), (6, some (.slice (some ⟨gL6, 0, none⟩) nL6 nL6))]) (fun (j, row, gL6, nL6) H' => St [g56] H56 H' ∧ H'.get gL6 = some (.row (ints row) 2 true) ∧ PL gL6 g56 H56.next ∧ nL6 = row.length ∧ (j ≤ n ∧ row.length = j) ∧ Bd 0 1 row) (fun (j, row, gL6, nL6) => n - j) ((0, [], _, _)) ⟨rfl, rfl, rfl, rfl, trivial⟩ ⟨rfl, rfl, trivial⟩ ?_ ?_
    ·
     refine ⟨.refl _ _, by assumption, ⟨.inl rfl⟩, by rfl, ?_⟩
     exact ⟨⟨by omega, rfl⟩, .nil _ _⟩
    rintro ⟨j, row, gL6, nL6⟩ HL2 ⟨lst2, at_L6, pl_L6, ln_L6, hI⟩ KL2 hKL2
    refine .forget (fr' := [(7, some (.int .i64 (j : Int))), (6, some (.slice (some ⟨gL6, 0, none⟩) nL6 nL6)), (2, some _), (3, some _), (4, some _), (5, some _)]) ⟨rfl, rfl, rfl, rfl, rfl, rfl, trivial⟩ ?_
    have nx_HL2 := lst2.nx
    replace lst1 := lst1.sA lst2
    replace rk := rk.sA lst2
    have ne_gL4_g56 : NE gL4 g56 := .a
    replace at_L4 := lst2.s at_L4 ne_gL4_g56.ne
    obtain ⟨⟨hj, hrl⟩, hW⟩ := hI
    refine .seq (fun K25 hK25 => .seq (fun K26 hK26 => .region (.mv rfl (.mv rfl (.q rfl (.cmp rfl rfl rfl) (.nil (hK26 _ _ ?_)))))))
    refine .cond rfl (fun h59 => ?_) (fun h59 => ?_)
    ·
     simp only [sps] at h59
     refine .skip ?_
     refine hK25 _ _ (.seq (fun K27 hK27 => ?_))
     refine .block ?_
     refine .region (.mv rfl ?_)
     refine .R rfl (.litA rfl sl_22_A ze_2_L rfl rfl rfl rfl) ?_
     rintro _ H63 ⟨g63, rfl, le63, ge63, at63⟩
     replace lst2 := lst2.le le63
     replace at_L6 := le63.2 _ _ at_L6
     have lt_at63 := GHeap.ltg at63
     refine .R rfl (.appendI rfl sl_22_A ze_2_L rfl by_2_L sl_22_A rfl rfl (by assumption) (by assumption) (by first | omega | (simp <;> omega)) (by omega) (by omega)) ?_
     rintro _ H64 ⟨g64, rfl, st64, ge64, at64⟩
     replace lst2 := lst2.sP st64
     refine .mv rfl (.nil (hK27 _ _ (.region (.mv rfl ?_))))
     refine .q rfl (.add rfl rfl rfl (by omega) (by omega)) ?_
     refine .mv rfl (.nil ?_)
     refine hKL2 ((j + 1, row ++ [1], _, _)) _ _ ?_ ?_ ⟨rfl, rfl, rfl, rfl, rfl, rfl, trivial⟩
     ·
      refine ⟨lst2, by assumption, by exact ⟨.inr (by omega)⟩, by (simp only [List.length_append, List.length_cons, List.length_nil] <;> omega), ?_⟩
      exact ⟨⟨by omega, by simp; omega⟩, hW.snoc (by omega) (by omega)⟩
     (dsimp only; omega)
    try simp only [sps] at h59
    refine .exit ?_
    refine hK23 _ _ (.region ?_)
    obtain rfl : j = n := by omega
    obtain rfl := ln_L6
    refine .mv rfl (.mv rfl ?_)
    refine .R rfl (.litA rfl sl_23_B ze_22_Hj rfl rfl rfl rfl) ?_
    rintro _ H67 ⟨g67, rfl, le67, ge67, at67⟩
    replace lst1 := lst1.le le67
    replace rk := rk.le le67
    replace at_L4 := le67.2 _ _ at_L4
    replace at_L6 := le67.2 _ _ at_L6
    have lt_at67 := GHeap.ltg at67
    refine .R rfl (.appendV rfl sl_23_B ze_22_Hj rfl by_22_Hj sl_23_B rfl rfl (by assumption) (by assumption) (by first | omega | (simp <;> omega)) rfl rfl (by omega) (by omega)) ?_
    rintro _ H68 ⟨g68, rfl, st68, ge68, at68⟩
    replace lst1 := lst1.sP st68
    replace rk := rk.sP st68
    replace at_L6 := st68.same _ _ ⟨(Ne.symm (pl_L6.ne ne_gL4_g56.ne (by omega))), trivial⟩ at_L6
    refine .mv rfl (.nil (hK21 _ _ (.region (.mv rfl ?_))))
    refine .q rfl (.add rfl rfl rfl (by omega) (by omega)) ?_
    refine .mv rfl (.nil ?_)
    refine hKL1 ((i + 1, upd rr T.length (some ⟨gL6, 0, none⟩), T ++ [row], _, _)) _ _ ?_ ?_ ⟨rfl, rfl, rfl, rfl, trivial⟩
    ·
     refine ⟨lst1, by (rw [slsL_snoc]; assumption), by exact ⟨.inr (by omega)⟩, by (rw [slsL_snoc] <;> (first | omega | (simp only [List.length_append, List.length_cons, List.length_nil] <;> omega))), ?_⟩
     have hR' := hR.st rk (.cons (hR.neT hat4 rfl) (.nil _ _))
     exact ⟨⟨by omega, by simp; omega⟩, hT.snoc (by omega) hW, hR'.snoc2 (by assumption) (hR.ne (pl_L6.ge (by omega) (by omega))) (pl_L6.ge (by omega) (by omega))⟩
    (dsimp only; omega)
   try simp only [sps] at h53
   refine .exit ?_
   refine hK17 _ _ (.seq (fun K28 hK28 => .region ?_))
   obtain rfl : nL4 = T.length := by omega
   refine .mv rfl ?_
   refine .call rfl rfl rfl rfl @Try.call71 rfl (l03Poset_c (hin := (hR.done at_L4 (pl_L4.ge (by omega) (by omega))).intss) (hn := by omega) (hr := fun i hi => by rw [(hT i hi).1]; omega)) ?_
   rintro _ H70 ⟨c70, rc70, le70, ga70, gb70, gc70, gd70, rr70, rfl, o70⟩
   have v70 := o70.catR
   replace hst := hst.le le70
   replace hs := hs.le le70
   replace at2 := le70.2 _ _ at2
   have bs_v70 := v70
   have lv_v70 : Keep HL1.next H70 H70 := fun _ _ _ h => h
   refine .r0 rfl rfl (.fillA rfl sz_29_D rfl rfl rfl rfl) ?_
   rintro _ H24002 ⟨rfl, st24002, at24002⟩
   replace hst := hst.sA st24002
   replace hs := hs.sA st24002
   replace lv_v70 := Keep.st lv_v70 st24002 (fun k hb hk => ⟨(by omega), trivial⟩)
   replace v70 := bs_v70.keep lv_v70 (Nat.le_refl _)
   refine .nil (hK28 _ _ ?_)
   refine .ret ?_
   refine hret _ _ ?_
   refine ⟨_, _, _, _, rfl, ag_29_D, (by rfl), (Mem.of_get at24002), ?_⟩
   exact ⟨c70, _, rfl, rc70.mono (by omega), v70.keep (.of_le (.refl _)) (by omega), hst, hs⟩
  try simp only [sps] at h45
  refine .seq (fun K29 hK29 => .region (.q rfl (.cmp rfl rfl rfl) (.mv rfl (.nil (hK29 _ _ ?_)))))
  refine .cond rfl (fun h71 => ?_) (fun h71 => ?_)
  ·
   try simp only [sps] at h71
   refine .seq (fun K30 hK30 => .region ?_)
   refine .R rfl (.litA rfl sl_22_A ze_2_L rfl rfl rfl rfl) ?_
   rintro _ H73 ⟨g73, rfl, le73, ge73, at73⟩
   replace hst := hst.le le73
   replace hs := hs.le le73
   replace at2 := le73.2 _ _ at2
   have lt_at73 := GHeap.ltg at73
   refine .R rfl (.litA rfl sl_22_A ze_2_L rfl rfl rfl rfl) ?_
   rintro _ H74 ⟨g74, rfl, le74, ge74, at74⟩
   replace hst := hst.le le74
   replace hs := hs.le le74
   replace at2 := le74.2 _ _ at2
   replace at73 := le74.2 _ _ at73
   have lt_at74 := GHeap.ltg at74
   refine .call rfl rfl rfl rfl @Try.call147 rfl ((by have hh := l03Paths_c (n := 3) (xs := [0, 1, 0]) (ys := [1, 2, 2]) (ha := Ints.of_get at73) (hb := Ints.of_get at74) (hl := rfl) (hx := by decide) (hn := by decide) (hy := by unfold Bd; decide) (hup := by decide); exact hh)) ?_
   rintro _ H75 ⟨c75, rc75, le75, ga75, gb75, gc75, gd75, rr75, rfl, o75⟩
   have v75 := o75.catR
   replace hst := hst.le le75
   replace hs := hs.le le75
   replace at2 := le75.2 _ _ at2
   have bs_v75 := v75
   have lv_v75 : Keep H74.next H75 H75 := fun _ _ _ h => h
   refine .r0 rfl rfl (.fillA rfl sz_29_D rfl rfl rfl rfl) ?_
   rintro _ H26003 ⟨rfl, st26003, at26003⟩
   replace hst := hst.sA st26003
   replace hs := hs.sA st26003
   replace lv_v75 := Keep.st lv_v75 st26003 (fun k hb hk => ⟨(by omega), trivial⟩)
   replace v75 := bs_v75.keep lv_v75 (Nat.le_refl _)
   refine .nil (hK30 _ _ ?_)
   refine .ret ?_
   refine hret _ _ ?_
   refine ⟨_, _, _, _, rfl, ag_29_D, (by rfl), (Mem.of_get at26003), ?_⟩
   exact ⟨c75, _, rfl, rc75.mono (by omega), v75.keep (.of_le (.refl _)) (by omega), hst, hs⟩
  try simp only [sps] at h71
  refine .seq (fun K31 hK31 => .region (.q rfl (.cmp rfl rfl rfl) (.mv rfl (.nil (hK31 _ _ ?_)))))
  refine .cond rfl (fun h76 => ?_) (fun h76 => ?_)
  ·
   try simp only [sps] at h76
   refine .seq (fun K32 hK32 => .region ?_)
   refine .call rfl rfl rfl rfl @Try.call131 rfl (l02Split_c) ?_
   rintro _ H78 ⟨c78, rc78, le78, ga78, gb78, gc78, gd78, rr78, rfl, o78⟩
   have v78 := o78.catR
   replace hst := hst.le le78
   replace hs := hs.le le78
   replace at2 := le78.2 _ _ at2
   have bs_v78 := v78
   have lv_v78 : Keep H14.next H78 H78 := fun _ _ _ h => h
   refine .r0 rfl rfl (.fillA rfl sz_29_D rfl rfl rfl rfl) ?_
   rintro _ H28001 ⟨rfl, st28001, at28001⟩
   replace hst := hst.sA st28001
   replace hs := hs.sA st28001
   replace lv_v78 := Keep.st lv_v78 st28001 (fun k hb hk => ⟨(by omega), trivial⟩)
   replace v78 := bs_v78.keep lv_v78 (Nat.le_refl _)
   refine .nil (hK32 _ _ ?_)
   refine .ret ?_
   refine hret _ _ ?_
   refine ⟨_, _, _, _, rfl, ag_29_D, (by rfl), (Mem.of_get at28001), ?_⟩
   exact ⟨c78, _, rfl, rc78.mono (by omega), v78.keep (.of_le (.refl _)) (by omega), hst, hs⟩
  try simp only [sps] at h76
  refine .seq (fun K33 hK33 => .region (.q rfl (.cmp rfl rfl rfl) (.mv rfl (.nil (hK33 _ _ ?_)))))
  refine .cond rfl (fun h79 => ?_) (fun h79 => ?_)
  ·
   try simp only [sps] at h79
   refine .seq (fun K34 hK34 => .region (.mv rfl ?_))
   refine .call rfl rfl rfl rfl @Try.call149 rfl (l02Monoid_c) ?_
   rintro _ H82 ⟨a82, T82, r82, rfl, v82, nT82, tb82, st82, hs⟩
   have nx_H82 := st82.nx
   replace hst := hst.sA st82
   replace at2 := st82.s at2 ne_g2_gS.ne
   refine .call rfl rfl rfl rfl @Try.call148 rfl (l03Monoid_c (hin := v82.intss) (hn := nT82) (ht := tb82)) ?_
   rintro _ H83 ⟨c83, rc83, le83, ga83, gb83, gc83, gd83, rr83, rfl, o83⟩
   have v83 := o83.catR
   have nx_H83 := le83.1
   replace hst := hst.le le83
   replace hs := hs.le le83
   replace at2 := le83.2 _ _ at2
   have bs_v83 := v83
   have lv_v83 : Keep H82.next H83 H83 := fun _ _ _ h => h
   refine .R rfl (.litA rfl sl_22_A ze_2_L rfl rfl rfl rfl) ?_
   rintro _ H84 ⟨g84, rfl, le84, ge84, at84⟩
   replace hst := hst.le le84
   replace hs := hs.le le84
   replace at2 := le84.2 _ _ at2
   replace lv_v83 := Keep.le lv_v83 le84
   have lt_at84 := GHeap.ltg at84
   refine .R rfl (.litA rfl sl_23_B ze_22_Hj rfl rfl rfl rfl) ?_
   rintro _ H85 ⟨g85, rfl, le85, ge85, at85⟩
   replace hst := hst.le le85
   replace hs := hs.le le85
   replace at2 := le85.2 _ _ at2
   replace at84 := le85.2 _ _ at84
   replace lv_v83 := Keep.le lv_v83 le85
   have lt_at85 := GHeap.ltg at85
   refine .call rfl rfl rfl rfl @Try.call71 rfl ((by have hh := l03Poset_c (rel := [[1]]) (hin := ((lit_own (gs := [g84]) (by simp only [LitAt]; exact ⟨⟨Nat.zero_le _, at84⟩, trivial⟩) (by simp <;> omega)).done (by exact at85) (Nat.zero_le _)).intss) (hn := by decide) (hr := by decide); exact hh)) ?_
   rintro _ H86 ⟨c86, rc86, le86, ga86, gb86, gc86, gd86, rr86, rfl, o86⟩
   have v86 := o86.catR
   have nx_H86 := le86.1
   replace hst := hst.le le86
   replace hs := hs.le le86
   replace at2 := le86.2 _ _ at2
   replace lv_v83 := Keep.le lv_v83 le86
   replace v83 := bs_v83.keep lv_v83 (Nat.le_refl _)
   have i83 := v83.inn
   have i86 := v86.inn
   refine .call rfl rfl rfl rfl @Try.call150 rfl (l03Join_c (hin := i83) (hin1 := i86) (hc := rc83) (hd := rc86)) ?_
   rintro _ H87 ⟨c87, rc87, le87, ga87, gb87, gc87, gd87, rr87, rfl, o87⟩
   have v87 := o87.catR
   have nx_H87 := le87.1
   replace hst := hst.le le87
   replace hs := hs.le le87
   replace at2 := le87.2 _ _ at2
   clear i83
   clear i86
   have i87 := v87.inn
   refine .call rfl rfl rfl rfl @Try.call43 rfl (l03Op_c (hin := i87) (hr := rc87) (hN := by omega)) ?_
   rintro _ H88 ⟨le88, ga88, gb88, gc88, gd88, rr88, rfl, o88⟩
   have v88 := o88.catR
   replace hst := hst.le le88
   replace hs := hs.le le88
   replace at2 := le88.2 _ _ at2
   have bs_v88 := v88
   have lv_v88 : Keep H87.next H88 H88 := fun _ _ _ h => h
   clear i87
   refine .r0 rfl rfl (.fillA rfl sz_29_D rfl rfl rfl rfl) ?_
   rintro _ H30008 ⟨rfl, st30008, at30008⟩
   replace hst := hst.sA st30008
   replace hs := hs.sA st30008
   replace lv_v88 := Keep.st lv_v88 st30008 (fun k hb hk => ⟨(by omega), trivial⟩)
   replace v88 := bs_v88.keep lv_v88 (Nat.le_refl _)
   refine .nil (hK34 _ _ ?_)
   refine .ret ?_
   refine hret _ _ ?_
   refine ⟨_, _, _, _, rfl, ag_29_D, (by rfl), (Mem.of_get at30008), ?_⟩
   exact ⟨c87.op, _, rfl, rc87.op, v88.keep (.of_le (.refl _)) (by omega), hst, hs⟩
  try simp only [sps] at h79
  refine .seq (fun K35 hK35 => .region (.q rfl (.cmp rfl rfl rfl) (.mv rfl (.nil (hK35 _ _ ?_)))))
  refine .cond rfl (fun h89 => ?_) (fun h89 => ?_)
  ·
   try simp only [sps] at h89
   refine .seq (fun K36 hK36 => .region (.mv rfl ?_))
   refine .call rfl rfl rfl rfl @Try.call149 rfl (l02Monoid_c) ?_
   rintro _ H92 ⟨a92, T92, r92, rfl, v92, nT92, tb92, st92, hs⟩
   have nx_H92 := st92.nx
   replace hst := hst.sA st92
   replace at2 := st92.s at2 ne_g2_gS.ne
   refine .call rfl rfl rfl rfl @Try.call148 rfl (l03Monoid_c (hin := v92.intss) (hn := nT92) (ht := tb92)) ?_
   rintro _ H93 ⟨c93, rc93, le93, ga93, gb93, gc93, gd93, rr93, rfl, o93⟩
   have v93 := o93.catR
   have nx_H93 := le93.1
   replace hst := hst.le le93
   replace hs := hs.le le93
   replace at2 := le93.2 _ _ at2
   have bs_v93 := v93
   have lv_v93 : Keep H92.next H93 H93 := fun _ _ _ h => h
   refine .R rfl (.litA rfl sl_22_A ze_2_L rfl rfl rfl rfl) ?_
   rintro _ H94 ⟨g94, rfl, le94, ge94, at94⟩
   replace hst := hst.le le94
   replace hs := hs.le le94
   replace at2 := le94.2 _ _ at2
   replace lv_v93 := Keep.le lv_v93 le94
   have lt_at94 := GHeap.ltg at94
   refine .R rfl (.litA rfl sl_23_B ze_22_Hj rfl rfl rfl rfl) ?_
   rintro _ H95 ⟨g95, rfl, le95, ge95, at95⟩
   replace hst := hst.le le95
   replace hs := hs.le le95
   replace at2 := le95.2 _ _ at2
   replace at94 := le95.2 _ _ at94
   replace lv_v93 := Keep.le lv_v93 le95
   have lt_at95 := GHeap.ltg at95
   refine .call rfl rfl rfl rfl @Try.call71 rfl ((by have hh := l03Poset_c (rel := [[1]]) (hin := ((lit_own (gs := [g94]) (by simp only [LitAt]; exact ⟨⟨Nat.zero_le _, at94⟩, trivial⟩) (by simp <;> omega)).done (by exact at95) (Nat.zero_le _)).intss) (hn := by decide) (hr := by decide); exact hh)) ?_
   rintro _ H96 ⟨c96, rc96, le96, ga96, gb96, gc96, gd96, rr96, rfl, o96⟩
   have v96 := o96.catR
   have nx_H96 := le96.1
   replace hst := hst.le le96
   replace hs := hs.le le96
   replace at2 := le96.2 _ _ at2
   replace lv_v93 := Keep.le lv_v93 le96
   replace v93 := bs_v93.keep lv_v93 (Nat.le_refl _)
   have i93 := v93.inn
   have i96 := v96.inn
   refine .call rfl rfl rfl rfl @Try.call150 rfl (l03Join_c (hin := i93) (hin1 := i96) (hc := rc93) (hd := rc96)) ?_
   rintro _ H97 ⟨c97, rc97, le97, ga97, gb97, gc97, gd97, rr97, rfl, o97⟩
   have v97 := o97.catR
   replace hst := hst.le le97
   replace hs := hs.le le97
   replace at2 := le97.2 _ _ at2
   have bs_v97 := v97
   have lv_v97 : Keep H96.next H97 H97 := fun _ _ _ h => h
   clear i93
   clear i96
   refine .r0 rfl rfl (.fillA rfl sz_29_D rfl rfl rfl rfl) ?_
   rintro _ H32007 ⟨rfl, st32007, at32007⟩
   replace hst := hst.sA st32007
   replace hs := hs.sA st32007
   replace lv_v97 := Keep.st lv_v97 st32007 (fun k hb hk => ⟨(by omega), trivial⟩)
   replace v97 := bs_v97.keep lv_v97 (Nat.le_refl _)
   refine .nil (hK36 _ _ ?_)
   refine .ret ?_
   refine hret _ _ ?_
   refine ⟨_, _, _, _, rfl, ag_29_D, (by rfl), (Mem.of_get at32007), ?_⟩
   exact ⟨c97, _, rfl, rc97, v97.keep (.of_le (.refl _)) (by omega), hst, hs⟩
  try simp only [sps] at h89
  refine .seq (fun K37 hK37 => .region (.q rfl (.cmp rfl rfl rfl) (.mv rfl (.nil (hK37 _ _ ?_)))))
  refine .cond rfl (fun h98 => ?_) (fun h98 => ?_)
  ·
   try simp only [sps] at h98
   refine .seq (fun K38 hK38 => .region (.mv rfl (.mv rfl ?_)))
   refine .call rfl rfl rfl rfl @Try.call70 rfl (l01Next_c) ?_
   rintro _ H102 ⟨k102, rfl, ka102, kb102, kc102, st102, hs⟩
   have nx_H102 := st102.nx
   replace hst := hst.sA st102
   replace at2 := st102.s at2 ne_g2_gS.ne
   obtain ⟨n, hn⟩ : ∃ n : Nat, (n : Int) = 2 + k102 := ⟨(2 + k102).toNat, by omega⟩
   refine .q rfl (.add (r := (n : Int)) rfl rfl (by omega) (by omega) (by omega)) ?_
   refine .call rfl rfl rfl rfl @Try.call72 rfl (l02Relation_c (n := n) (hn := by omega)) ?_
   rintro _ H104 ⟨a104, T104, r104, rfl, v104, nT104, tb104, st104, hs⟩
   have nx_H104 := st104.nx
   replace hst := hst.sA st104
   replace at2 := st104.s at2 ne_g2_gS.ne
   refine .call rfl rfl rfl rfl @Try.call71 rfl (l03Poset_c (hin := v104.intss) (hn := by omega) (hr := tb104)) ?_
   rintro _ H105 ⟨c105, rc105, le105, ga105, gb105, gc105, gd105, rr105, rfl, o105⟩
   have v105 := o105.catR
   replace hst := hst.le le105
   replace hs := hs.le le105
   replace at2 := le105.2 _ _ at2
   have bs_v105 := v105
   have lv_v105 : Keep H104.next H105 H105 := fun _ _ _ h => h
   refine .r0 rfl rfl (.fillA rfl sz_29_D rfl rfl rfl rfl) ?_
   rintro _ H34006 ⟨rfl, st34006, at34006⟩
   replace hst := hst.sA st34006
   replace hs := hs.sA st34006
   replace lv_v105 := Keep.st lv_v105 st34006 (fun k hb hk => ⟨(by omega), trivial⟩)
   replace v105 := bs_v105.keep lv_v105 (Nat.le_refl _)
   refine .nil (hK38 _ _ ?_)
   refine .ret ?_
   refine hret _ _ ?_
   refine ⟨_, _, _, _, rfl, ag_29_D, (by rfl), (Mem.of_get at34006), ?_⟩
   exact ⟨c105, _, rfl, rc105.mono (by omega), v105.keep (.of_le (.refl _)) (by omega), hst, hs⟩
  try simp only [sps] at h98
  refine .skip ?_
  refine hK2 _ _ (.seq (fun K39 hK39 => .region (.mv rfl ?_)))
  refine .call rfl rfl rfl rfl @Try.call70 rfl (l01Next_c) ?_
  rintro _ H107 ⟨k107, rfl, ka107, kb107, kc107, st107, hs⟩
  have nx_H107 := st107.nx
  replace hst := hst.sA st107
  replace at2 := st107.s at2 ne_g2_gS.ne
  obtain ⟨n, hn⟩ : ∃ n : Nat, (n : Int) = 2 + k107 := ⟨(2 + k107).toNat, by omega⟩
  refine .q rfl (.add (r := (n : Int)) rfl rfl (by omega) (by omega) (by omega)) ?_
  refine .mv rfl (.nil (hK39 _ _ (.seq (fun K40 hK40 => .region ?_))))
  refine .R rfl (.litA rfl sl_22_A ze_2_L rfl rfl rfl rfl) ?_
  rintro _ H109 ⟨g109, rfl, le109, ge109, at109⟩
  replace hst := hst.le le109
  replace hs := hs.le le109
  replace at2 := le109.2 _ _ at2
  have lt_at109 := GHeap.ltg at109
  replace at109 : GHeap.get H109 g109 = some (.row (ints []) 2 true) := at109
  refine .R rfl (.litA rfl sl_22_A ze_2_L rfl rfl rfl rfl) ?_
  rintro _ H110 ⟨g110, rfl, le110, ge110, at110⟩
  replace hst := hst.le le110
  replace hs := hs.le le110
  replace at2 := le110.2 _ _ at2
  replace at109 := le110.2 _ _ at109
  have lt_at110 := GHeap.ltg at110
  replace at110 : GHeap.get H110 g110 = some (.row (ints []) 2 true) := at110
  refine .mv rfl (.mv rfl (.nil (hK40 _ _ (.seq (fun K41 hK41 => .seq (fun K42 hK42 => .region (.mv rfl ?_)))))))
  refine .call rfl rfl rfl rfl @Try.call70 rfl (l01Next_c) ?_
  rintro _ H112 ⟨k112, rfl, ka112, kb112, kc112, st112, hs⟩
  have nx_H112 := st112.nx
  replace hst := hst.sA st112
  replace at2 := st112.s at2 ne_g2_gS.ne
  replace at109 := st112.s at109
  replace at110 := st112.s at110
  obtain ⟨m, rfl⟩ : ∃ m : Nat, k112 = (m : Int) := ⟨k112.toNat, by omega⟩
  refine .mv rfl (.nil (hK42 _ _ ?_))
  refine .block ?_
  refine .loopR (σ := Nat × List Int × List Int × Nat × Nat × Nat × Nat) [(0, some _), (2, some _), (8, some _)] (fun (k, xs, ys, gL9, nL9, gL10, nL10) => [(11, some (.int .i64 (k : Int))), (9, some (.slice (some ⟨gL9, 0, none⟩) nL9 nL9)), (10, some (.slice (some ⟨gL10, 0, none⟩) nL10 nL10))]) (fun (k, xs, ys, gL9, nL9, gL10, nL10) H' => St [g109, g110, gS] H112 H' ∧ H'.get gL9 = some (.row (ints xs) 2 true) ∧ PL gL9 g109 H112.next ∧ nL9 = xs.length ∧ H'.get gL10 = some (.row (ints ys) 2 true) ∧ PL gL10 g110 H112.next ∧ nL10 = ys.length ∧ gL9 ≠ gL10 ∧ (k + xs.length ≤ 3 ∧ ys.length = xs.length) ∧ Bd 0 ((n : Int) - 1) ys ∧ (∀ e, e < xs.length → xs.getD e 0 < ys.getD e 0) ∧ DSrc 120 H' gS) (fun (k, xs, ys, gL9, nL9, gL10, nL10) => k) ((m, [], [], _, _, _, _)) ⟨rfl, rfl, rfl, trivial⟩ ⟨rfl, rfl, rfl, trivial⟩ ?_ ?_
  ·
   refine ⟨.refl _ _, by assumption, ⟨.inl rfl⟩, by rfl, by assumption, ⟨.inl rfl⟩, by rfl, by omega, ?_⟩
   exact ⟨⟨by simp; omega, rfl⟩, .nil _ _, fun _ h => by simp at h, hs⟩
  rintro ⟨k, xs, ys, gL9, nL9, gL10, nL10⟩ HL3 ⟨lst3, at_L9, pl_L9, ln_L9, at_L10, pl_L10, ln_L10, ap3_0, hI⟩ KL3 hKL3
  refine .forget (fr' := [(11, some (.int .i64 (k : Int))), (9, some (.slice (some ⟨gL9, 0, none⟩) nL9 nL9)), (10, some (.slice (some ⟨gL10, 0, none⟩) nL10 nL10)), (0, some _), (2, some _), (8, some _)]) ⟨rfl, rfl, rfl, rfl, rfl, rfl, trivial⟩ ?_
  have nx_HL3 := lst3.nx
  replace hst := hst.st lst3 (fun k hk ho => by simp only [out, and_true] at ho ⊢ <;> exact ⟨by first | exact ho | exact ho.1 | exact ho.2 | exact ho.2.1 | exact ho.2.2 | exact ho.2.2.1 | exact ho.2.2.2 | omega, by first | exact ho | exact ho.1 | exact ho.2 | exact ho.2.1 | exact ho.2.2 | exact ho.2.2.1 | exact ho.2.2.2 | omega, by first | exact ho | exact ho.1 | exact ho.2 | exact ho.2.1 | exact ho.2.2 | exact ho.2.2.1 | exact ho.2.2.2 | omega⟩)
  replace at2 := lst3.same _ _ ⟨(by first | assumption | omega), (by first | assumption | omega), ne_g2_gS.ne, trivial⟩ at2
  have lt_at_L10 := GHeap.ltg at_L10
  obtain ⟨⟨hk3, hyl⟩, hY, hU, hs⟩ := hI
  have ge9 : H.next ≤ gL9 := pl_L9.ge (by omega) (by omega)
  have ge10 : H.next ≤ gL10 := pl_L10.ge (by omega) (by omega)
  refine .seq (fun K43 hK43 => .seq (fun K44 hK44 => .region (.mv rfl (.q rfl (.cmp rfl rfl rfl) (.nil (hK44 _ _ ?_))))))
  refine .cond rfl (fun h114 => ?_) (fun h114 => ?_)
  ·
   simp only [sps] at h114
   obtain ⟨k1, rfl⟩ : ∃ k1, k = k1 + 1 := ⟨k - 1, by omega⟩
   refine .skip ?_
   refine hK43 _ _ (.seq (fun K45 hK45 => ?_))
   refine .block ?_
   refine .seq (fun K46 hK46 => .region (.mv rfl (.mv rfl ?_)))
   refine .q rfl (.sub rfl rfl rfl (by omega) (by omega)) ?_
   refine .call rfl rfl rfl rfl @Try.call70 rfl (l01Next_c) ?_
   rintro _ H120 ⟨k120, rfl, ka120, kb120, kc120, st120, hs⟩
   have nx_H120 := st120.nx
   replace lst3 := lst3.sA st120
   replace at_L9 := st120.s at_L9
   have ne_gL10_gS : NE gL10 gS := .a
   replace at_L10 := st120.s at_L10 ne_gL10_gS.ne
   refine .mv rfl (.nil (hK46 _ _ (.seq (fun K47 hK47 => .region (.mv rfl (.mv rfl ?_))))))
   refine .R rfl (.litA rfl sl_22_A ze_2_L rfl rfl rfl rfl) ?_
   rintro _ H123 ⟨g123, rfl, le123, ge123, at123⟩
   replace lst3 := lst3.le le123
   replace hs := hs.le le123
   replace at_L9 := le123.2 _ _ at_L9
   replace at_L10 := le123.2 _ _ at_L10
   have lt_at123 := GHeap.ltg at123
   refine .R rfl (.appendI rfl sl_22_A ze_2_L rfl by_2_L sl_22_A rfl rfl (by assumption) (by assumption) (by first | omega | (simp <;> omega)) (by omega) (by omega)) ?_
   rintro _ H124 ⟨g124, rfl, st124, ge124, at124⟩
   replace lst3 := lst3.sP st124
   replace hs := hs.sP st124
   replace at_L10 := st124.same _ _ ⟨(Ne.symm ap3_0), trivial⟩ at_L10
   have lt_at124 := GHeap.ltg at124
   refine .mv rfl (.nil (hK47 _ _ (.region (.mv rfl (.mv rfl ?_)))))
   refine .q rfl (.add rfl rfl rfl (by omega) (by omega)) ?_
   refine .mv rfl (.mv rfl ?_)
   refine .q rfl (.sub rfl rfl rfl (by omega) (by omega)) ?_
   refine .mv rfl ?_
   refine .q rfl (.sub rfl rfl rfl (by omega) (by omega)) ?_
   refine .call rfl rfl rfl rfl @Try.call70 rfl (l01Next_c) ?_
   rintro _ H133 ⟨k133, rfl, ka133, kb133, kc133, st133, hs⟩
   have nx_H133 := st133.nx
   replace lst3 := lst3.sA st133
   replace at_L10 := st133.s at_L10 ne_gL10_gS.ne
   replace at124 := st133.s at124
   refine .q rfl (.add rfl rfl rfl (by omega) (by omega)) ?_
   refine .R rfl (.litA rfl sl_22_A ze_2_L rfl rfl rfl rfl) ?_
   rintro _ H135 ⟨g135, rfl, le135, ge135, at135⟩
   replace lst3 := lst3.le le135
   replace hs := hs.le le135
   replace at_L10 := le135.2 _ _ at_L10
   replace at124 := le135.2 _ _ at124
   have lt_at135 := GHeap.ltg at135
   refine .R rfl (.appendI rfl sl_22_A ze_2_L rfl by_2_L sl_22_A rfl rfl (by assumption) (by assumption) (by first | omega | (simp <;> omega)) (by omega) (by omega)) ?_
   rintro _ H136 ⟨g136, rfl, st136, ge136, at136⟩
   replace lst3 := lst3.sP st136
   replace hs := hs.sP st136
   replace at124 := st136.s at124
   refine .mv rfl (.nil (hK45 _ _ (.region (.mv rfl ?_))))
   refine .q rfl (.sub (r := (k1 : Int)) rfl rfl (by omega) (by omega) (by omega)) ?_
   refine .mv rfl (.nil ?_)
   refine hKL3 ((k1, xs ++ [k120], ys ++ [k120 + 1 + k133], _, _, _, _)) _ _ ?_ ?_ ⟨rfl, rfl, rfl, rfl, rfl, rfl, trivial⟩
   ·
    refine ⟨lst3, by assumption, by exact ⟨.inr (by omega)⟩, by (simp only [List.length_append, List.length_cons, List.length_nil] <;> omega), by assumption, by exact ⟨.inr (by omega)⟩, by (simp only [List.length_append, List.length_cons, List.length_nil] <;> omega), by omega, ?_⟩
    exact ⟨⟨by simp; omega, by simp; omega⟩, hY.snoc (by omega) (by omega), up_snoc hyl hU (by omega), hs⟩
   (dsimp only; omega)
  try simp only [sps] at h114
  refine .exit ?_
  refine hK41 _ _ (.seq (fun K48 hK48 => .region ?_))
  obtain rfl := ln_L9
  have e10 : nL10 = ys.length := by omega
  subst e10
  refine .mv rfl (.mv rfl (.mv rfl ?_))
  refine .call rfl rfl rfl rfl @Try.call147 rfl (l03Paths_c (ha := Ints.of_get at_L9) (hb := Ints.of_get at_L10) (hl := hyl) (hx := by omega) (hn := by omega) (hy := hY) (hup := hU)) ?_
  rintro _ H140 ⟨c140, rc140, le140, ga140, gb140, gc140, gd140, rr140, rfl, o140⟩
  have v140 := o140.catR
  replace hst := hst.le le140
  replace at2 := le140.2 _ _ at2
  have bs_v140 := v140
  have lv_v140 : Keep HL3.next H140 H140 := fun _ _ _ h => h
  refine .r0 rfl rfl (.fillA rfl sz_29_D rfl rfl rfl rfl) ?_
  rintro _ H43004 ⟨rfl, st43004, at43004⟩
  replace hst := hst.sA st43004
  replace lv_v140 := Keep.st lv_v140 st43004 (fun k hb hk => ⟨(by omega), trivial⟩)
  replace v140 := bs_v140.keep lv_v140 (Nat.le_refl _)
  refine .nil (hK48 _ _ ?_)
  refine .ret ?_
  refine hret _ _ ?_
  refine ⟨_, _, _, _, rfl, ag_29_D, (by rfl), (Mem.of_get at43004), ?_⟩
  exact ⟨c140, _, rfl, rc140.mono (by omega), v140.keep (.of_le (.refl _)) (by omega), hst, (hs.le le140).st st43004 (fun k hk ho => ⟨by omega, trivial⟩)⟩
end Go.Proofs.Ytjdedelneppnlaa
