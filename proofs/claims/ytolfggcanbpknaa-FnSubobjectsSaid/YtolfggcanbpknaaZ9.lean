/- Opposites. No condition but those of each statement. -/
import Derived.Test.YtolfggcanbpknaaZ8
namespace Go.Proofs.Ytolfggcanbpknaa
open Go Go.GL Go.RowKit Go.Proofs
set_option maxHeartbeats 8000000 in
theorem l03Op_c {c : Cat} {p : CatP} {N : Nat} {H : GHeap} (hin : c.In H p := by assumption) (hr : c.Rect N) (hN : N ≤ 100000) :
    GCalls Try.prog 65 [.agg (c.cells p).toArray] H (NewCatO 2 24 H c.op) := by
  obtain ⟨b1, b2, b3, -, -, b6, -, b8, b9, -⟩ := id hr
  refine GCalls.body (N := 53) (rs := [.cell 2 27]) Try.func65 rfl rfl rfl rfl (fun Qx hret hend => ?_)
  refine .fg [0] rfl ?_
  have hle := GHeap.Le.refl H
  have base_hin := hin
  refine .seq (fun K1 hK1 => .region ?_)
  refine .R rfl (.boxR rfl sz_27_D rfl) ?_
  rintro _ H1 ⟨g1, rfl, le1, ge1, at1⟩
  replace hle := hle.trans le1
  have lt_at1 := GHeap.ltg at1
  replace hin := base_hin.mono hle
  have hb1 : Cat.At _ g1 0 c p := ⟨Mem.of_get at1, hin⟩
  refine .R rfl (.allocR rfl ze_27_Hj rfl) ?_
  rintro _ H2 ⟨g2, rfl, le2, ge2, at2⟩
  replace hle := hle.trans le2
  replace at1 := le2.2 _ _ at1
  have lt_at2 := GHeap.ltg at2
  replace hin := base_hin.mono hle
  clear hb1
  have hb1 : Cat.At _ g1 0 c p := ⟨Mem.of_get at1, hin⟩
  obtain ⟨c01, c11, c21, c31, -, -, i21, -, -⟩ := hb1.get
  refine .nil (hK1 _ _ (.seq (fun K2 hK2 => ?_)))
  refine .regionD mo_B (.q 0 (.q 1 (.q 2 (.q 3 (.q 5 (.q 6 (.q 8 (.q 9 (.or (.c 4 1 (.or (.c 7 1 (.or (.c 10 1 (.or (.c 11 1 (.q 12 (.c 13 1 (.c 14 1 (.done))))) (.c 13 1 (.c 11 1 (.q 12 (.c 14 1 (.done))))))) (.or (.c 11 1 (.or (.c 10 1 (.q 12 (.c 13 1 (.c 14 1 (.done))))) (.c 13 1 (.c 10 1 (.q 12 (.c 14 1 (.done))))))) (.c 13 1 (.or (.c 10 1 (.c 11 1 (.q 12 (.c 14 1 (.done))))) (.c 11 1 (.c 10 1 (.q 12 (.c 14 1 (.done)))))))))) (.or (.c 11 1 (.or (.c 7 1 (.or (.c 10 1 (.q 12 (.c 13 1 (.c 14 1 (.done))))) (.c 13 1 (.c 10 1 (.q 12 (.c 14 1 (.done))))))) (.c 13 1 (.c 7 1 (.c 10 1 (.q 12 (.c 14 1 (.done)))))))) (.c 13 1 (.or (.c 7 1 (.or (.c 10 1 (.c 11 1 (.q 12 (.c 14 1 (.done))))) (.c 11 1 (.c 10 1 (.q 12 (.c 14 1 (.done))))))) (.c 11 1 (.c 7 1 (.c 10 1 (.q 12 (.c 14 1 (.done))))))))))) (.or (.c 11 1 (.or (.c 4 1 (.or (.c 7 1 (.or (.c 10 1 (.q 12 (.c 13 1 (.c 14 1 (.done))))) (.c 13 1 (.c 10 1 (.q 12 (.c 14 1 (.done))))))) (.c 13 1 (.c 7 1 (.c 10 1 (.q 12 (.c 14 1 (.done)))))))) (.c 13 1 (.c 4 1 (.c 7 1 (.c 10 1 (.q 12 (.c 14 1 (.done))))))))) (.c 13 1 (.or (.c 4 1 (.or (.c 7 1 (.or (.c 10 1 (.c 11 1 (.q 12 (.c 14 1 (.done))))) (.c 11 1 (.c 10 1 (.q 12 (.c 14 1 (.done))))))) (.c 11 1 (.c 7 1 (.c 10 1 (.q 12 (.c 14 1 (.done)))))))) (.c 11 1 (.c 4 1 (.c 7 1 (.c 10 1 (.q 12 (.c 14 1 (.done))))))))))))))))))) (by kernel_rfl) ?_
  refine .cut [(0, some _), (1, some _), (2, some _)] ⟨rfl, rfl, rfl, trivial⟩ (fun rest fr' H' => ∃ g11 g14 g17 g18 g3, Sub ((11, some (.slice (some ⟨g11, 0, none⟩) c.tgt.length c.tgt.length)) :: (14, some (.slice (some ⟨g14, 0, none⟩) c.src.length c.src.length)) :: (17, some (.slice (some ⟨g17, 0, none⟩) c.idn.length c.idn.length)) :: (18, some (.slice (some ⟨g18, 0, none⟩) 0 0)) :: (3, some (.pointer (some ⟨g3, 0, none⟩))) :: rest) fr' ∧ H2.Le H' ∧ H2.next ≤ g11 ∧ H2.next ≤ g14 ∧ H2.next ≤ g17 ∧ H2.next ≤ g18 ∧ H2.next ≤ g3 ∧ H'.get g11 = some (.row (ints c.tgt) 2 true) ∧ H'.get g14 = some (.row (ints c.src) 2 true) ∧ H'.get g17 = some (.row (ints c.idn) 2 true) ∧ H'.get g18 = some (.row ([]) 24 true) ∧ H'.get g3 = some (.row ([.int .i64 c.obj, .slice (some ⟨g11, 0, none⟩) c.tgt.length c.tgt.length, .slice (some ⟨g14, 0, none⟩) c.src.length c.src.length, .slice (some ⟨g17, 0, none⟩) c.idn.length c.idn.length, .slice (some ⟨g18, 0, none⟩) 0 0]) 27 true) ∧ g11 ≠ g14 ∧ g11 ≠ g17 ∧ g11 ≠ g18 ∧ g11 ≠ g3 ∧ g14 ≠ g17 ∧ g14 ≠ g18 ∧ g14 ≠ g3 ∧ g17 ≠ g18 ∧ g17 ≠ g3 ∧ g18 ≠ g3) ?_ ?_
  ·
   have hf0 := GHeap.Le.refl H2
   refine .qB rfl (.refl _) (.fieldAddr fo_27_0_B rfl) ?_
   refine .q rfl (.load on_2_A rfl (by first | assumption | exact Mem.of_get at1 0 _ rfl)) ?_
   refine .qB rfl (.refl _) (.fieldAddr fo_27_2_B rfl) ?_
   refine .q rfl (.load on_24_B rfl (by first | assumption | exact Mem.of_get at1 2 _ rfl)) ?_
   refine .qB rfl (.refl _) (.fieldAddr fo_27_1_B rfl) ?_
   refine .q rfl (.load on_24_B rfl (by first | assumption | exact Mem.of_get at1 1 _ rfl)) ?_
   refine .qB rfl (.refl _) (.fieldAddr fo_27_3_B rfl) ?_
   refine .q rfl (.load on_24_B rfl (by first | assumption | exact Mem.of_get at1 3 _ rfl)) ?_
   refine .orI ?_ ?_
   ·
    refine .call1 rfl rfl rfl rfl rfl @Try.call102 rfl (l01Own_c) ?_
    rintro _ H11x2 ⟨le11x2, g11x2, rfl, at11x2, ge11x2⟩
    have hbl := le11x2
    refine ⟨hbl, ?_⟩
    replace hle := hle.trans le11x2
    replace at1 := le11x2.2 _ _ at1
    have lt_at11x2 := GHeap.ltg at11x2
    replace hf0 := hf0.trans le11x2
    refine .orI ?_ ?_
    ·
     replace hin := base_hin.mono hle
     clear hb1 c01 c11 c21 c31 i21
     have hb1 : Cat.At _ g1 0 c p := ⟨Mem.of_get at1, hin⟩
     obtain ⟨-, -, -, -, -, i11, -, -, -⟩ := hb1.get
     refine .call1 rfl rfl rfl rfl rfl @Try.call102 rfl (l01Own_c) ?_
     rintro _ H14x2 ⟨le14x2, g14x2, rfl, at14x2, ge14x2⟩
     replace hbl := hbl.trans le14x2
     refine ⟨hbl, ?_⟩
     replace hle := hle.trans le14x2
     replace at1 := le14x2.2 _ _ at1
     replace at11x2 := le14x2.2 _ _ at11x2
     have lt_at14x2 := GHeap.ltg at14x2
     replace hf0 := hf0.trans le14x2
     refine .orI ?_ ?_
     ·
      replace hin := base_hin.mono hle
      clear hb1 i11
      have hb1 : Cat.At _ g1 0 c p := ⟨Mem.of_get at1, hin⟩
      obtain ⟨-, -, -, -, -, -, -, i31, -⟩ := hb1.get
      refine .call1 rfl rfl rfl rfl rfl @Try.call102 rfl (l01Own_c) ?_
      rintro _ H17x2 ⟨le17x2, g17x2, rfl, at17x2, ge17x2⟩
      replace hbl := hbl.trans le17x2
      refine ⟨hbl, ?_⟩
      replace at11x2 := le17x2.2 _ _ at11x2
      replace at14x2 := le17x2.2 _ _ at14x2
      have lt_at17x2 := GHeap.ltg at17x2
      replace hf0 := hf0.trans le17x2
      refine .orI ?_ ?_
      ·
       refine .c1 rfl rfl rfl rfl (.litA rfl sl_25_B ze_24_Hj rfl rfl rfl rfl) ?_
       rintro _ H18x2 ⟨g18x2, rfl, le18x2, ge18x2, at18x2⟩
       replace hbl := hbl.trans le18x2
       refine ⟨hbl, ?_⟩
       replace at11x2 := le18x2.2 _ _ at11x2
       replace at14x2 := le18x2.2 _ _ at14x2
       replace at17x2 := le18x2.2 _ _ at17x2
       have lt_at18x2 := GHeap.ltg at18x2
       replace hf0 := hf0.trans le18x2
       refine .qB rfl hbl (.build bt_27_Hj rfl rfl rfl) ?_
       refine .c1 rfl rfl rfl rfl (.allocR rfl ze_27_Hj rfl) ?_
       rintro _ H3x2 ⟨g3x2, rfl, le3x2, ge3x2, at3x2⟩
       replace hbl := hbl.trans le3x2
       refine ⟨hbl, ?_⟩
       replace at11x2 := le3x2.2 _ _ at11x2
       replace at14x2 := le3x2.2 _ _ at14x2
       replace at17x2 := le3x2.2 _ _ at17x2
       replace at18x2 := le3x2.2 _ _ at18x2
       replace hf0 := hf0.trans le3x2
       refine .r1 rfl rfl rfl (.fillA rfl sz_27_D rfl rfl rfl rfl) ?_
       rintro _ H1014 ⟨rfl, st1014, at1014⟩
       replace hbl := hbl.st st1014 (fun k hk => ⟨by omega, trivial⟩)
       refine ⟨hbl, ?_⟩
       replace at11x2 := st1014.s at11x2
       replace at14x2 := st1014.s at14x2
       replace at17x2 := st1014.s at17x2
       replace at18x2 := st1014.s at18x2
       replace hf0 := hf0.st st1014 (fun k hk => ⟨by omega, trivial⟩)
       refine .done ?_
       exact ⟨g11x2, g14x2, g17x2, g18x2, g3x2, ⟨rfl, rfl, rfl, rfl, rfl, rfl, rfl, rfl, trivial⟩, hf0, by omega, by omega, by omega, by omega, by omega, by first | assumption | simpa using at11x2, by first | assumption | simpa using at14x2, by first | assumption | simpa using at17x2, by first | assumption | simpa using at18x2, by first | assumption | simpa using at1014, by omega, by omega, by omega, by omega, by omega, by omega, by omega, by omega, by omega, by omega⟩
      refine .c1 rfl rfl rfl rfl (.allocR rfl ze_27_Hj rfl) ?_
      rintro _ H3x3 ⟨g3x3, rfl, le3x3, ge3x3, at3x3⟩
      replace hbl := hbl.trans le3x3
      refine ⟨hbl, ?_⟩
      replace at11x2 := le3x3.2 _ _ at11x2
      replace at14x2 := le3x3.2 _ _ at14x2
      replace at17x2 := le3x3.2 _ _ at17x2
      have lt_at3x3 := GHeap.ltg at3x3
      replace hf0 := hf0.trans le3x3
      refine .c1 rfl rfl rfl rfl (.litA rfl sl_25_B ze_24_Hj rfl rfl rfl rfl) ?_
      rintro _ H18x3 ⟨g18x3, rfl, le18x3, ge18x3, at18x3⟩
      replace hbl := hbl.trans le18x3
      refine ⟨hbl, ?_⟩
      replace at11x2 := le18x3.2 _ _ at11x2
      replace at14x2 := le18x3.2 _ _ at14x2
      replace at17x2 := le18x3.2 _ _ at17x2
      replace at3x3 := le18x3.2 _ _ at3x3
      replace hf0 := hf0.trans le18x3
      refine .qB rfl hbl (.build bt_27_Hj rfl rfl rfl) ?_
      refine .r1 rfl rfl rfl (.fillA rfl sz_27_D rfl rfl rfl rfl) ?_
      rintro _ H1014x2 ⟨rfl, st1014x2, at1014x2⟩
      replace hbl := hbl.st st1014x2 (fun k hk => ⟨by omega, trivial⟩)
      refine ⟨hbl, ?_⟩
      replace at11x2 := st1014x2.s at11x2
      replace at14x2 := st1014x2.s at14x2
      replace at17x2 := st1014x2.s at17x2
      replace at18x3 := st1014x2.s at18x3
      replace hf0 := hf0.st st1014x2 (fun k hk => ⟨by omega, trivial⟩)
      refine .done ?_
      exact ⟨g11x2, g14x2, g17x2, g18x3, g3x3, ⟨rfl, rfl, rfl, rfl, rfl, rfl, rfl, rfl, trivial⟩, hf0, by omega, by omega, by omega, by omega, by omega, by first | assumption | simpa using at11x2, by first | assumption | simpa using at14x2, by first | assumption | simpa using at17x2, by first | assumption | simpa using at18x3, by first | assumption | simpa using at1014x2, by omega, by omega, by omega, by omega, by omega, by omega, by omega, by omega, by omega, by omega⟩
     refine .orI ?_ ?_
     ·
      refine .c1 rfl rfl rfl rfl (.litA rfl sl_25_B ze_24_Hj rfl rfl rfl rfl) ?_
      rintro _ H18x4 ⟨g18x4, rfl, le18x4, ge18x4, at18x4⟩
      replace hbl := hbl.trans le18x4
      refine ⟨hbl, ?_⟩
      replace hle := hle.trans le18x4
      replace at1 := le18x4.2 _ _ at1
      replace at11x2 := le18x4.2 _ _ at11x2
      replace at14x2 := le18x4.2 _ _ at14x2
      have lt_at18x4 := GHeap.ltg at18x4
      replace hf0 := hf0.trans le18x4
      refine .orI ?_ ?_
      ·
       replace hin := base_hin.mono hle
       have hb1 : Cat.At _ g1 0 c p := ⟨Mem.of_get at1, hin⟩
       obtain ⟨-, -, -, -, -, -, -, i31, -⟩ := hb1.get
       refine .call1 rfl rfl rfl rfl rfl @Try.call102 rfl (l01Own_c) ?_
       rintro _ H17x3 ⟨le17x3, g17x3, rfl, at17x3, ge17x3⟩
       replace hbl := hbl.trans le17x3
       refine ⟨hbl, ?_⟩
       replace at11x2 := le17x3.2 _ _ at11x2
       replace at14x2 := le17x3.2 _ _ at14x2
       replace at18x4 := le17x3.2 _ _ at18x4
       have lt_at17x3 := GHeap.ltg at17x3
       replace hf0 := hf0.trans le17x3
       refine .qB rfl hbl (.build bt_27_Hj rfl rfl rfl) ?_
       refine .c1 rfl rfl rfl rfl (.allocR rfl ze_27_Hj rfl) ?_
       rintro _ H3x4 ⟨g3x4, rfl, le3x4, ge3x4, at3x4⟩
       replace hbl := hbl.trans le3x4
       refine ⟨hbl, ?_⟩
       replace at11x2 := le3x4.2 _ _ at11x2
       replace at14x2 := le3x4.2 _ _ at14x2
       replace at18x4 := le3x4.2 _ _ at18x4
       replace at17x3 := le3x4.2 _ _ at17x3
       replace hf0 := hf0.trans le3x4
       refine .r1 rfl rfl rfl (.fillA rfl sz_27_D rfl rfl rfl rfl) ?_
       rintro _ H1014x3 ⟨rfl, st1014x3, at1014x3⟩
       replace hbl := hbl.st st1014x3 (fun k hk => ⟨by omega, trivial⟩)
       refine ⟨hbl, ?_⟩
       replace at11x2 := st1014x3.s at11x2
       replace at14x2 := st1014x3.s at14x2
       replace at18x4 := st1014x3.s at18x4
       replace at17x3 := st1014x3.s at17x3
       replace hf0 := hf0.st st1014x3 (fun k hk => ⟨by omega, trivial⟩)
       refine .done ?_
       exact ⟨g11x2, g14x2, g17x3, g18x4, g3x4, ⟨rfl, rfl, rfl, rfl, rfl, rfl, rfl, rfl, trivial⟩, hf0, by omega, by omega, by omega, by omega, by omega, by first | assumption | simpa using at11x2, by first | assumption | simpa using at14x2, by first | assumption | simpa using at17x3, by first | assumption | simpa using at18x4, by first | assumption | simpa using at1014x3, by omega, by omega, by omega, by omega, by omega, by omega, by omega, by omega, by omega, by omega⟩
      refine .c1 rfl rfl rfl rfl (.allocR rfl ze_27_Hj rfl) ?_
      rintro _ H3x5 ⟨g3x5, rfl, le3x5, ge3x5, at3x5⟩
      replace hbl := hbl.trans le3x5
      refine ⟨hbl, ?_⟩
      replace hle := hle.trans le3x5
      replace at1 := le3x5.2 _ _ at1
      replace at11x2 := le3x5.2 _ _ at11x2
      replace at14x2 := le3x5.2 _ _ at14x2
      replace at18x4 := le3x5.2 _ _ at18x4
      have lt_at3x5 := GHeap.ltg at3x5
      replace hf0 := hf0.trans le3x5
      replace hin := base_hin.mono hle
      have hb1 : Cat.At _ g1 0 c p := ⟨Mem.of_get at1, hin⟩
      obtain ⟨-, -, -, -, -, -, -, i31, -⟩ := hb1.get
      refine .call1 rfl rfl rfl rfl rfl @Try.call102 rfl (l01Own_c) ?_
      rintro _ H17x4 ⟨le17x4, g17x4, rfl, at17x4, ge17x4⟩
      replace hbl := hbl.trans le17x4
      refine ⟨hbl, ?_⟩
      replace at11x2 := le17x4.2 _ _ at11x2
      replace at14x2 := le17x4.2 _ _ at14x2
      replace at18x4 := le17x4.2 _ _ at18x4
      replace at3x5 := le17x4.2 _ _ at3x5
      replace hf0 := hf0.trans le17x4
      refine .qB rfl hbl (.build bt_27_Hj rfl rfl rfl) ?_
      refine .r1 rfl rfl rfl (.fillA rfl sz_27_D rfl rfl rfl rfl) ?_
      rintro _ H1014x4 ⟨rfl, st1014x4, at1014x4⟩
      replace hbl := hbl.st st1014x4 (fun k hk => ⟨by omega, trivial⟩)
      refine ⟨hbl, ?_⟩
      replace at11x2 := st1014x4.s at11x2
      replace at14x2 := st1014x4.s at14x2
      replace at18x4 := st1014x4.s at18x4
      replace at17x4 := st1014x4.s at17x4
      replace hf0 := hf0.st st1014x4 (fun k hk => ⟨by omega, trivial⟩)
      refine .done ?_
      exact ⟨g11x2, g14x2, g17x4, g18x4, g3x5, ⟨rfl, rfl, rfl, rfl, rfl, rfl, rfl, rfl, trivial⟩, hf0, by omega, by omega, by omega, by omega, by omega, by first | assumption | simpa using at11x2, by first | assumption | simpa using at14x2, by first | assumption | simpa using at17x4, by first | assumption | simpa using at18x4, by first | assumption | simpa using at1014x4, by omega, by omega, by omega, by omega, by omega, by omega, by omega, by omega, by omega, by omega⟩
     refine .c1 rfl rfl rfl rfl (.allocR rfl ze_27_Hj rfl) ?_
     rintro _ H3x6 ⟨g3x6, rfl, le3x6, ge3x6, at3x6⟩
     replace hbl := hbl.trans le3x6
     refine ⟨hbl, ?_⟩
     replace hle := hle.trans le3x6
     replace at1 := le3x6.2 _ _ at1
     replace at11x2 := le3x6.2 _ _ at11x2
     replace at14x2 := le3x6.2 _ _ at14x2
     have lt_at3x6 := GHeap.ltg at3x6
     replace hf0 := hf0.trans le3x6
     refine .orI ?_ ?_
     ·
      replace hin := base_hin.mono hle
      have hb1 : Cat.At _ g1 0 c p := ⟨Mem.of_get at1, hin⟩
      obtain ⟨-, -, -, -, -, -, -, i31, -⟩ := hb1.get
      refine .call1 rfl rfl rfl rfl rfl @Try.call102 rfl (l01Own_c) ?_
      rintro _ H17x5 ⟨le17x5, g17x5, rfl, at17x5, ge17x5⟩
      replace hbl := hbl.trans le17x5
      refine ⟨hbl, ?_⟩
      replace at11x2 := le17x5.2 _ _ at11x2
      replace at14x2 := le17x5.2 _ _ at14x2
      replace at3x6 := le17x5.2 _ _ at3x6
      have lt_at17x5 := GHeap.ltg at17x5
      replace hf0 := hf0.trans le17x5
      refine .c1 rfl rfl rfl rfl (.litA rfl sl_25_B ze_24_Hj rfl rfl rfl rfl) ?_
      rintro _ H18x5 ⟨g18x5, rfl, le18x5, ge18x5, at18x5⟩
      replace hbl := hbl.trans le18x5
      refine ⟨hbl, ?_⟩
      replace at11x2 := le18x5.2 _ _ at11x2
      replace at14x2 := le18x5.2 _ _ at14x2
      replace at3x6 := le18x5.2 _ _ at3x6
      replace at17x5 := le18x5.2 _ _ at17x5
      replace hf0 := hf0.trans le18x5
      refine .qB rfl hbl (.build bt_27_Hj rfl rfl rfl) ?_
      refine .r1 rfl rfl rfl (.fillA rfl sz_27_D rfl rfl rfl rfl) ?_
      rintro _ H1014x5 ⟨rfl, st1014x5, at1014x5⟩
      replace hbl := hbl.st st1014x5 (fun k hk => ⟨by omega, trivial⟩)
      refine ⟨hbl, ?_⟩
      have ne_g11x2_g3x6 : NE g11x2 g3x6 := .a
      replace at11x2 := st1014x5.s at11x2 ne_g11x2_g3x6.ne
      have ne_g14x2_g3x6 : NE g14x2 g3x6 := .a
      replace at14x2 := st1014x5.s at14x2 ne_g14x2_g3x6.ne
      replace at17x5 := st1014x5.s at17x5
      replace at18x5 := st1014x5.s at18x5
      replace hf0 := hf0.st st1014x5 (fun k hk => ⟨by omega, trivial⟩)
      refine .done ?_
      exact ⟨g11x2, g14x2, g17x5, g18x5, g3x6, ⟨rfl, rfl, rfl, rfl, rfl, rfl, rfl, rfl, trivial⟩, hf0, by omega, by omega, by omega, by omega, by omega, by first | assumption | simpa using at11x2, by first | assumption | simpa using at14x2, by first | assumption | simpa using at17x5, by first | assumption | simpa using at18x5, by first | assumption | simpa using at1014x5, by omega, by omega, by omega, by omega, by omega, by omega, by omega, by omega, by omega, by omega⟩
     refine .c1 rfl rfl rfl rfl (.litA rfl sl_25_B ze_24_Hj rfl rfl rfl rfl) ?_
     rintro _ H18x6 ⟨g18x6, rfl, le18x6, ge18x6, at18x6⟩
     replace hbl := hbl.trans le18x6
     refine ⟨hbl, ?_⟩
     replace hle := hle.trans le18x6
     replace at1 := le18x6.2 _ _ at1
     replace at11x2 := le18x6.2 _ _ at11x2
     replace at14x2 := le18x6.2 _ _ at14x2
     replace at3x6 := le18x6.2 _ _ at3x6
     have lt_at18x6 := GHeap.ltg at18x6
     replace hf0 := hf0.trans le18x6
     replace hin := base_hin.mono hle
     have hb1 : Cat.At _ g1 0 c p := ⟨Mem.of_get at1, hin⟩
     obtain ⟨-, -, -, -, -, -, -, i31, -⟩ := hb1.get
     refine .call1 rfl rfl rfl rfl rfl @Try.call102 rfl (l01Own_c) ?_
     rintro _ H17x6 ⟨le17x6, g17x6, rfl, at17x6, ge17x6⟩
     replace hbl := hbl.trans le17x6
     refine ⟨hbl, ?_⟩
     replace at11x2 := le17x6.2 _ _ at11x2
     replace at14x2 := le17x6.2 _ _ at14x2
     replace at3x6 := le17x6.2 _ _ at3x6
     replace at18x6 := le17x6.2 _ _ at18x6
     replace hf0 := hf0.trans le17x6
     refine .qB rfl hbl (.build bt_27_Hj rfl rfl rfl) ?_
     refine .r1 rfl rfl rfl (.fillA rfl sz_27_D rfl rfl rfl rfl) ?_
     rintro _ H1014x6 ⟨rfl, st1014x6, at1014x6⟩
     replace hbl := hbl.st st1014x6 (fun k hk => ⟨by omega, trivial⟩)
     refine ⟨hbl, ?_⟩
     have ne_g11x2_g3x6 : NE g11x2 g3x6 := .a
     replace at11x2 := st1014x6.s at11x2 ne_g11x2_g3x6.ne
     have ne_g14x2_g3x6 : NE g14x2 g3x6 := .a
     replace at14x2 := st1014x6.s at14x2 ne_g14x2_g3x6.ne
     replace at18x6 := st1014x6.s at18x6
     replace at17x6 := st1014x6.s at17x6
     replace hf0 := hf0.st st1014x6 (fun k hk => ⟨by omega, trivial⟩)
     refine .done ?_
     exact ⟨g11x2, g14x2, g17x6, g18x6, g3x6, ⟨rfl, rfl, rfl, rfl, rfl, rfl, rfl, rfl, trivial⟩, hf0, by omega, by omega, by omega, by omega, by omega, by first | assumption | simpa using at11x2, by first | assumption | simpa using at14x2, by first | assumption | simpa using at17x6, by first | assumption | simpa using at18x6, by first | assumption | simpa using at1014x6, by omega, by omega, by omega, by omega, by omega, by omega, by omega, by omega, by omega, by omega⟩
    refine .orI ?_ ?_
    ·
     refine .c1 rfl rfl rfl rfl (.litA rfl sl_25_B ze_24_Hj rfl rfl rfl rfl) ?_
     rintro _ H18x7 ⟨g18x7, rfl, le18x7, ge18x7, at18x7⟩
     replace hbl := hbl.trans le18x7
     refine ⟨hbl, ?_⟩
     replace hle := hle.trans le18x7
     replace at1 := le18x7.2 _ _ at1
     replace at11x2 := le18x7.2 _ _ at11x2
     have lt_at18x7 := GHeap.ltg at18x7
     replace hf0 := hf0.trans le18x7
     refine .orI ?_ ?_
     ·
      replace hin := base_hin.mono hle
      have hb1 : Cat.At _ g1 0 c p := ⟨Mem.of_get at1, hin⟩
      obtain ⟨-, -, -, -, -, i11, -, -, -⟩ := hb1.get
      refine .call1 rfl rfl rfl rfl rfl @Try.call102 rfl (l01Own_c) ?_
      rintro _ H14x3 ⟨le14x3, g14x3, rfl, at14x3, ge14x3⟩
      replace hbl := hbl.trans le14x3
      refine ⟨hbl, ?_⟩
      replace hle := hle.trans le14x3
      replace at1 := le14x3.2 _ _ at1
      replace at11x2 := le14x3.2 _ _ at11x2
      replace at18x7 := le14x3.2 _ _ at18x7
      have lt_at14x3 := GHeap.ltg at14x3
      replace hf0 := hf0.trans le14x3
      refine .orI ?_ ?_
      ·
       replace hin := base_hin.mono hle
       clear hb1 i11
       have hb1 : Cat.At _ g1 0 c p := ⟨Mem.of_get at1, hin⟩
       obtain ⟨-, -, -, -, -, -, -, i31, -⟩ := hb1.get
       refine .call1 rfl rfl rfl rfl rfl @Try.call102 rfl (l01Own_c) ?_
       rintro _ H17x7 ⟨le17x7, g17x7, rfl, at17x7, ge17x7⟩
       replace hbl := hbl.trans le17x7
       refine ⟨hbl, ?_⟩
       replace at11x2 := le17x7.2 _ _ at11x2
       replace at18x7 := le17x7.2 _ _ at18x7
       replace at14x3 := le17x7.2 _ _ at14x3
       have lt_at17x7 := GHeap.ltg at17x7
       replace hf0 := hf0.trans le17x7
       refine .qB rfl hbl (.build bt_27_Hj rfl rfl rfl) ?_
       refine .c1 rfl rfl rfl rfl (.allocR rfl ze_27_Hj rfl) ?_
       rintro _ H3x7 ⟨g3x7, rfl, le3x7, ge3x7, at3x7⟩
       replace hbl := hbl.trans le3x7
       refine ⟨hbl, ?_⟩
       replace at11x2 := le3x7.2 _ _ at11x2
       replace at18x7 := le3x7.2 _ _ at18x7
       replace at14x3 := le3x7.2 _ _ at14x3
       replace at17x7 := le3x7.2 _ _ at17x7
       replace hf0 := hf0.trans le3x7
       refine .r1 rfl rfl rfl (.fillA rfl sz_27_D rfl rfl rfl rfl) ?_
       rintro _ H1014x7 ⟨rfl, st1014x7, at1014x7⟩
       replace hbl := hbl.st st1014x7 (fun k hk => ⟨by omega, trivial⟩)
       refine ⟨hbl, ?_⟩
       replace at11x2 := st1014x7.s at11x2
       replace at18x7 := st1014x7.s at18x7
       replace at14x3 := st1014x7.s at14x3
       replace at17x7 := st1014x7.s at17x7
       replace hf0 := hf0.st st1014x7 (fun k hk => ⟨by omega, trivial⟩)
       refine .done ?_
       exact ⟨g11x2, g14x3, g17x7, g18x7, g3x7, ⟨rfl, rfl, rfl, rfl, rfl, rfl, rfl, rfl, trivial⟩, hf0, by omega, by omega, by omega, by omega, by omega, by first | assumption | simpa using at11x2, by first | assumption | simpa using at14x3, by first | assumption | simpa using at17x7, by first | assumption | simpa using at18x7, by first | assumption | simpa using at1014x7, by omega, by omega, by omega, by omega, by omega, by omega, by omega, by omega, by omega, by omega⟩
      refine .c1 rfl rfl rfl rfl (.allocR rfl ze_27_Hj rfl) ?_
      rintro _ H3x8 ⟨g3x8, rfl, le3x8, ge3x8, at3x8⟩
      replace hbl := hbl.trans le3x8
      refine ⟨hbl, ?_⟩
      replace hle := hle.trans le3x8
      replace at1 := le3x8.2 _ _ at1
      replace at11x2 := le3x8.2 _ _ at11x2
      replace at18x7 := le3x8.2 _ _ at18x7
      replace at14x3 := le3x8.2 _ _ at14x3
      have lt_at3x8 := GHeap.ltg at3x8
      replace hf0 := hf0.trans le3x8
      replace hin := base_hin.mono hle
      have hb1 : Cat.At _ g1 0 c p := ⟨Mem.of_get at1, hin⟩
      obtain ⟨-, -, -, -, -, -, -, i31, -⟩ := hb1.get
      refine .call1 rfl rfl rfl rfl rfl @Try.call102 rfl (l01Own_c) ?_
      rintro _ H17x8 ⟨le17x8, g17x8, rfl, at17x8, ge17x8⟩
      replace hbl := hbl.trans le17x8
      refine ⟨hbl, ?_⟩
      replace at11x2 := le17x8.2 _ _ at11x2
      replace at18x7 := le17x8.2 _ _ at18x7
      replace at14x3 := le17x8.2 _ _ at14x3
      replace at3x8 := le17x8.2 _ _ at3x8
      replace hf0 := hf0.trans le17x8
      refine .qB rfl hbl (.build bt_27_Hj rfl rfl rfl) ?_
      refine .r1 rfl rfl rfl (.fillA rfl sz_27_D rfl rfl rfl rfl) ?_
      rintro _ H1014x8 ⟨rfl, st1014x8, at1014x8⟩
      replace hbl := hbl.st st1014x8 (fun k hk => ⟨by omega, trivial⟩)
      refine ⟨hbl, ?_⟩
      replace at11x2 := st1014x8.s at11x2
      replace at18x7 := st1014x8.s at18x7
      replace at14x3 := st1014x8.s at14x3
      replace at17x8 := st1014x8.s at17x8
      replace hf0 := hf0.st st1014x8 (fun k hk => ⟨by omega, trivial⟩)
      refine .done ?_
      exact ⟨g11x2, g14x3, g17x8, g18x7, g3x8, ⟨rfl, rfl, rfl, rfl, rfl, rfl, rfl, rfl, trivial⟩, hf0, by omega, by omega, by omega, by omega, by omega, by first | assumption | simpa using at11x2, by first | assumption | simpa using at14x3, by first | assumption | simpa using at17x8, by first | assumption | simpa using at18x7, by first | assumption | simpa using at1014x8, by omega, by omega, by omega, by omega, by omega, by omega, by omega, by omega, by omega, by omega⟩
     refine .c1 rfl rfl rfl rfl (.allocR rfl ze_27_Hj rfl) ?_
     rintro _ H3x9 ⟨g3x9, rfl, le3x9, ge3x9, at3x9⟩
     replace hbl := hbl.trans le3x9
     refine ⟨hbl, ?_⟩
     replace hle := hle.trans le3x9
     replace at1 := le3x9.2 _ _ at1
     replace at11x2 := le3x9.2 _ _ at11x2
     replace at18x7 := le3x9.2 _ _ at18x7
     have lt_at3x9 := GHeap.ltg at3x9
     replace hf0 := hf0.trans le3x9
     replace hin := base_hin.mono hle
     have hb1 : Cat.At _ g1 0 c p := ⟨Mem.of_get at1, hin⟩
     obtain ⟨-, -, -, -, -, i11, -, -, -⟩ := hb1.get
     refine .call1 rfl rfl rfl rfl rfl @Try.call102 rfl (l01Own_c) ?_
     rintro _ H14x4 ⟨le14x4, g14x4, rfl, at14x4, ge14x4⟩
     replace hbl := hbl.trans le14x4
     refine ⟨hbl, ?_⟩
     replace hle := hle.trans le14x4
     replace at1 := le14x4.2 _ _ at1
     replace at11x2 := le14x4.2 _ _ at11x2
     replace at18x7 := le14x4.2 _ _ at18x7
     replace at3x9 := le14x4.2 _ _ at3x9
     have lt_at14x4 := GHeap.ltg at14x4
     replace hf0 := hf0.trans le14x4
     replace hin := base_hin.mono hle
     clear hb1 i11
     have hb1 : Cat.At _ g1 0 c p := ⟨Mem.of_get at1, hin⟩
     obtain ⟨-, -, -, -, -, -, -, i31, -⟩ := hb1.get
     refine .call1 rfl rfl rfl rfl rfl @Try.call102 rfl (l01Own_c) ?_
     rintro _ H17x9 ⟨le17x9, g17x9, rfl, at17x9, ge17x9⟩
     replace hbl := hbl.trans le17x9
     refine ⟨hbl, ?_⟩
     replace at11x2 := le17x9.2 _ _ at11x2
     replace at18x7 := le17x9.2 _ _ at18x7
     replace at3x9 := le17x9.2 _ _ at3x9
     replace at14x4 := le17x9.2 _ _ at14x4
     replace hf0 := hf0.trans le17x9
     refine .qB rfl hbl (.build bt_27_Hj rfl rfl rfl) ?_
     refine .r1 rfl rfl rfl (.fillA rfl sz_27_D rfl rfl rfl rfl) ?_
     rintro _ H1014x9 ⟨rfl, st1014x9, at1014x9⟩
     replace hbl := hbl.st st1014x9 (fun k hk => ⟨by omega, trivial⟩)
     refine ⟨hbl, ?_⟩
     replace at11x2 := st1014x9.s at11x2
     replace at18x7 := st1014x9.s at18x7
     replace at14x4 := st1014x9.s at14x4
     replace at17x9 := st1014x9.s at17x9
     replace hf0 := hf0.st st1014x9 (fun k hk => ⟨by omega, trivial⟩)
     refine .done ?_
     exact ⟨g11x2, g14x4, g17x9, g18x7, g3x9, ⟨rfl, rfl, rfl, rfl, rfl, rfl, rfl, rfl, trivial⟩, hf0, by omega, by omega, by omega, by omega, by omega, by first | assumption | simpa using at11x2, by first | assumption | simpa using at14x4, by first | assumption | simpa using at17x9, by first | assumption | simpa using at18x7, by first | assumption | simpa using at1014x9, by omega, by omega, by omega, by omega, by omega, by omega, by omega, by omega, by omega, by omega⟩
    refine .c1 rfl rfl rfl rfl (.allocR rfl ze_27_Hj rfl) ?_
    rintro _ H3x10 ⟨g3x10, rfl, le3x10, ge3x10, at3x10⟩
    replace hbl := hbl.trans le3x10
    refine ⟨hbl, ?_⟩
    replace hle := hle.trans le3x10
    replace at1 := le3x10.2 _ _ at1
    replace at11x2 := le3x10.2 _ _ at11x2
    have lt_at3x10 := GHeap.ltg at3x10
    replace hf0 := hf0.trans le3x10
    refine .orI ?_ ?_
    ·
     replace hin := base_hin.mono hle
     have hb1 : Cat.At _ g1 0 c p := ⟨Mem.of_get at1, hin⟩
     obtain ⟨-, -, -, -, -, i11, -, -, -⟩ := hb1.get
     refine .call1 rfl rfl rfl rfl rfl @Try.call102 rfl (l01Own_c) ?_
     rintro _ H14x5 ⟨le14x5, g14x5, rfl, at14x5, ge14x5⟩
     replace hbl := hbl.trans le14x5
     refine ⟨hbl, ?_⟩
     replace hle := hle.trans le14x5
     replace at1 := le14x5.2 _ _ at1
     replace at11x2 := le14x5.2 _ _ at11x2
     replace at3x10 := le14x5.2 _ _ at3x10
     have lt_at14x5 := GHeap.ltg at14x5
     replace hf0 := hf0.trans le14x5
     refine .orI ?_ ?_
     ·
      replace hin := base_hin.mono hle
      clear hb1 i11
      have hb1 : Cat.At _ g1 0 c p := ⟨Mem.of_get at1, hin⟩
      obtain ⟨-, -, -, -, -, -, -, i31, -⟩ := hb1.get
      refine .call1 rfl rfl rfl rfl rfl @Try.call102 rfl (l01Own_c) ?_
      rintro _ H17x10 ⟨le17x10, g17x10, rfl, at17x10, ge17x10⟩
      replace hbl := hbl.trans le17x10
      refine ⟨hbl, ?_⟩
      replace at11x2 := le17x10.2 _ _ at11x2
      replace at3x10 := le17x10.2 _ _ at3x10
      replace at14x5 := le17x10.2 _ _ at14x5
      have lt_at17x10 := GHeap.ltg at17x10
      replace hf0 := hf0.trans le17x10
      refine .c1 rfl rfl rfl rfl (.litA rfl sl_25_B ze_24_Hj rfl rfl rfl rfl) ?_
      rintro _ H18x8 ⟨g18x8, rfl, le18x8, ge18x8, at18x8⟩
      replace hbl := hbl.trans le18x8
      refine ⟨hbl, ?_⟩
      replace at11x2 := le18x8.2 _ _ at11x2
      replace at3x10 := le18x8.2 _ _ at3x10
      replace at14x5 := le18x8.2 _ _ at14x5
      replace at17x10 := le18x8.2 _ _ at17x10
      replace hf0 := hf0.trans le18x8
      refine .qB rfl hbl (.build bt_27_Hj rfl rfl rfl) ?_
      refine .r1 rfl rfl rfl (.fillA rfl sz_27_D rfl rfl rfl rfl) ?_
      rintro _ H1014x10 ⟨rfl, st1014x10, at1014x10⟩
      replace hbl := hbl.st st1014x10 (fun k hk => ⟨by omega, trivial⟩)
      refine ⟨hbl, ?_⟩
      have ne_g11x2_g3x10 : NE g11x2 g3x10 := .a
      replace at11x2 := st1014x10.s at11x2 ne_g11x2_g3x10.ne
      have ne_g14x5_g3x10 : NE g14x5 g3x10 := .a
      replace at14x5 := st1014x10.s at14x5 ne_g14x5_g3x10.ne
      replace at17x10 := st1014x10.s at17x10
      replace at18x8 := st1014x10.s at18x8
      replace hf0 := hf0.st st1014x10 (fun k hk => ⟨by omega, trivial⟩)
      refine .done ?_
      exact ⟨g11x2, g14x5, g17x10, g18x8, g3x10, ⟨rfl, rfl, rfl, rfl, rfl, rfl, rfl, rfl, trivial⟩, hf0, by omega, by omega, by omega, by omega, by omega, by first | assumption | simpa using at11x2, by first | assumption | simpa using at14x5, by first | assumption | simpa using at17x10, by first | assumption | simpa using at18x8, by first | assumption | simpa using at1014x10, by omega, by omega, by omega, by omega, by omega, by omega, by omega, by omega, by omega, by omega⟩
     refine .c1 rfl rfl rfl rfl (.litA rfl sl_25_B ze_24_Hj rfl rfl rfl rfl) ?_
     rintro _ H18x9 ⟨g18x9, rfl, le18x9, ge18x9, at18x9⟩
     replace hbl := hbl.trans le18x9
     refine ⟨hbl, ?_⟩
     replace hle := hle.trans le18x9
     replace at1 := le18x9.2 _ _ at1
     replace at11x2 := le18x9.2 _ _ at11x2
     replace at3x10 := le18x9.2 _ _ at3x10
     replace at14x5 := le18x9.2 _ _ at14x5
     have lt_at18x9 := GHeap.ltg at18x9
     replace hf0 := hf0.trans le18x9
     replace hin := base_hin.mono hle
     have hb1 : Cat.At _ g1 0 c p := ⟨Mem.of_get at1, hin⟩
     obtain ⟨-, -, -, -, -, -, -, i31, -⟩ := hb1.get
     refine .call1 rfl rfl rfl rfl rfl @Try.call102 rfl (l01Own_c) ?_
     rintro _ H17x11 ⟨le17x11, g17x11, rfl, at17x11, ge17x11⟩
     replace hbl := hbl.trans le17x11
     refine ⟨hbl, ?_⟩
     replace at11x2 := le17x11.2 _ _ at11x2
     replace at3x10 := le17x11.2 _ _ at3x10
     replace at14x5 := le17x11.2 _ _ at14x5
     replace at18x9 := le17x11.2 _ _ at18x9
     replace hf0 := hf0.trans le17x11
     refine .qB rfl hbl (.build bt_27_Hj rfl rfl rfl) ?_
     refine .r1 rfl rfl rfl (.fillA rfl sz_27_D rfl rfl rfl rfl) ?_
     rintro _ H1014x11 ⟨rfl, st1014x11, at1014x11⟩
     replace hbl := hbl.st st1014x11 (fun k hk => ⟨by omega, trivial⟩)
     refine ⟨hbl, ?_⟩
     have ne_g11x2_g3x10 : NE g11x2 g3x10 := .a
     replace at11x2 := st1014x11.s at11x2 ne_g11x2_g3x10.ne
     have ne_g14x5_g3x10 : NE g14x5 g3x10 := .a
     replace at14x5 := st1014x11.s at14x5 ne_g14x5_g3x10.ne
     replace at18x9 := st1014x11.s at18x9
     replace at17x11 := st1014x11.s at17x11
     replace hf0 := hf0.st st1014x11 (fun k hk => ⟨by omega, trivial⟩)
     refine .done ?_
     exact ⟨g11x2, g14x5, g17x11, g18x9, g3x10, ⟨rfl, rfl, rfl, rfl, rfl, rfl, rfl, rfl, trivial⟩, hf0, by omega, by omega, by omega, by omega, by omega, by first | assumption | simpa using at11x2, by first | assumption | simpa using at14x5, by first | assumption | simpa using at17x11, by first | assumption | simpa using at18x9, by first | assumption | simpa using at1014x11, by omega, by omega, by omega, by omega, by omega, by omega, by omega, by omega, by omega, by omega⟩
    refine .c1 rfl rfl rfl rfl (.litA rfl sl_25_B ze_24_Hj rfl rfl rfl rfl) ?_
    rintro _ H18x10 ⟨g18x10, rfl, le18x10, ge18x10, at18x10⟩
    replace hbl := hbl.trans le18x10
    refine ⟨hbl, ?_⟩
    replace hle := hle.trans le18x10
    replace at1 := le18x10.2 _ _ at1
    replace at11x2 := le18x10.2 _ _ at11x2
    replace at3x10 := le18x10.2 _ _ at3x10
    have lt_at18x10 := GHeap.ltg at18x10
    replace hf0 := hf0.trans le18x10
    replace hin := base_hin.mono hle
    have hb1 : Cat.At _ g1 0 c p := ⟨Mem.of_get at1, hin⟩
    obtain ⟨-, -, -, -, -, i11, -, -, -⟩ := hb1.get
    refine .call1 rfl rfl rfl rfl rfl @Try.call102 rfl (l01Own_c) ?_
    rintro _ H14x6 ⟨le14x6, g14x6, rfl, at14x6, ge14x6⟩
    replace hbl := hbl.trans le14x6
    refine ⟨hbl, ?_⟩
    replace hle := hle.trans le14x6
    replace at1 := le14x6.2 _ _ at1
    replace at11x2 := le14x6.2 _ _ at11x2
    replace at3x10 := le14x6.2 _ _ at3x10
    replace at18x10 := le14x6.2 _ _ at18x10
    have lt_at14x6 := GHeap.ltg at14x6
    replace hf0 := hf0.trans le14x6
    replace hin := base_hin.mono hle
    clear hb1 i11
    have hb1 : Cat.At _ g1 0 c p := ⟨Mem.of_get at1, hin⟩
    obtain ⟨-, -, -, -, -, -, -, i31, -⟩ := hb1.get
    refine .call1 rfl rfl rfl rfl rfl @Try.call102 rfl (l01Own_c) ?_
    rintro _ H17x12 ⟨le17x12, g17x12, rfl, at17x12, ge17x12⟩
    replace hbl := hbl.trans le17x12
    refine ⟨hbl, ?_⟩
    replace at11x2 := le17x12.2 _ _ at11x2
    replace at3x10 := le17x12.2 _ _ at3x10
    replace at18x10 := le17x12.2 _ _ at18x10
    replace at14x6 := le17x12.2 _ _ at14x6
    replace hf0 := hf0.trans le17x12
    refine .qB rfl hbl (.build bt_27_Hj rfl rfl rfl) ?_
    refine .r1 rfl rfl rfl (.fillA rfl sz_27_D rfl rfl rfl rfl) ?_
    rintro _ H1014x12 ⟨rfl, st1014x12, at1014x12⟩
    replace hbl := hbl.st st1014x12 (fun k hk => ⟨by omega, trivial⟩)
    refine ⟨hbl, ?_⟩
    have ne_g11x2_g3x10 : NE g11x2 g3x10 := .a
    replace at11x2 := st1014x12.s at11x2 ne_g11x2_g3x10.ne
    replace at18x10 := st1014x12.s at18x10
    replace at14x6 := st1014x12.s at14x6
    replace at17x12 := st1014x12.s at17x12
    replace hf0 := hf0.st st1014x12 (fun k hk => ⟨by omega, trivial⟩)
    refine .done ?_
    exact ⟨g11x2, g14x6, g17x12, g18x10, g3x10, ⟨rfl, rfl, rfl, rfl, rfl, rfl, rfl, rfl, trivial⟩, hf0, by omega, by omega, by omega, by omega, by omega, by first | assumption | simpa using at11x2, by first | assumption | simpa using at14x6, by first | assumption | simpa using at17x12, by first | assumption | simpa using at18x10, by first | assumption | simpa using at1014x12, by omega, by omega, by omega, by omega, by omega, by omega, by omega, by omega, by omega, by omega⟩
   refine .orI ?_ ?_
   ·
    refine .c1 rfl rfl rfl rfl (.litA rfl sl_25_B ze_24_Hj rfl rfl rfl rfl) ?_
    rintro _ H18x11 ⟨g18x11, rfl, le18x11, ge18x11, at18x11⟩
    have hbl := le18x11
    refine ⟨hbl, ?_⟩
    replace hle := hle.trans le18x11
    replace at1 := le18x11.2 _ _ at1
    have lt_at18x11 := GHeap.ltg at18x11
    replace hf0 := hf0.trans le18x11
    refine .orI ?_ ?_
    ·
     replace hin := base_hin.mono hle
     have hb1 : Cat.At _ g1 0 c p := ⟨Mem.of_get at1, hin⟩
     obtain ⟨-, -, -, -, -, -, i21, -, -⟩ := hb1.get
     refine .call1 rfl rfl rfl rfl rfl @Try.call102 rfl (l01Own_c) ?_
     rintro _ H11x3 ⟨le11x3, g11x3, rfl, at11x3, ge11x3⟩
     replace hbl := hbl.trans le11x3
     refine ⟨hbl, ?_⟩
     replace hle := hle.trans le11x3
     replace at1 := le11x3.2 _ _ at1
     replace at18x11 := le11x3.2 _ _ at18x11
     have lt_at11x3 := GHeap.ltg at11x3
     replace hf0 := hf0.trans le11x3
     refine .orI ?_ ?_
     ·
      replace hin := base_hin.mono hle
      clear hb1 i21
      have hb1 : Cat.At _ g1 0 c p := ⟨Mem.of_get at1, hin⟩
      obtain ⟨-, -, -, -, -, i11, -, -, -⟩ := hb1.get
      refine .call1 rfl rfl rfl rfl rfl @Try.call102 rfl (l01Own_c) ?_
      rintro _ H14x7 ⟨le14x7, g14x7, rfl, at14x7, ge14x7⟩
      replace hbl := hbl.trans le14x7
      refine ⟨hbl, ?_⟩
      replace hle := hle.trans le14x7
      replace at1 := le14x7.2 _ _ at1
      replace at18x11 := le14x7.2 _ _ at18x11
      replace at11x3 := le14x7.2 _ _ at11x3
      have lt_at14x7 := GHeap.ltg at14x7
      replace hf0 := hf0.trans le14x7
      refine .orI ?_ ?_
      ·
       replace hin := base_hin.mono hle
       clear hb1 i11
       have hb1 : Cat.At _ g1 0 c p := ⟨Mem.of_get at1, hin⟩
       obtain ⟨-, -, -, -, -, -, -, i31, -⟩ := hb1.get
       refine .call1 rfl rfl rfl rfl rfl @Try.call102 rfl (l01Own_c) ?_
       rintro _ H17x13 ⟨le17x13, g17x13, rfl, at17x13, ge17x13⟩
       replace hbl := hbl.trans le17x13
       refine ⟨hbl, ?_⟩
       replace at18x11 := le17x13.2 _ _ at18x11
       replace at11x3 := le17x13.2 _ _ at11x3
       replace at14x7 := le17x13.2 _ _ at14x7
       have lt_at17x13 := GHeap.ltg at17x13
       replace hf0 := hf0.trans le17x13
       refine .qB rfl hbl (.build bt_27_Hj rfl rfl rfl) ?_
       refine .c1 rfl rfl rfl rfl (.allocR rfl ze_27_Hj rfl) ?_
       rintro _ H3x11 ⟨g3x11, rfl, le3x11, ge3x11, at3x11⟩
       replace hbl := hbl.trans le3x11
       refine ⟨hbl, ?_⟩
       replace at18x11 := le3x11.2 _ _ at18x11
       replace at11x3 := le3x11.2 _ _ at11x3
       replace at14x7 := le3x11.2 _ _ at14x7
       replace at17x13 := le3x11.2 _ _ at17x13
       replace hf0 := hf0.trans le3x11
       refine .r1 rfl rfl rfl (.fillA rfl sz_27_D rfl rfl rfl rfl) ?_
       rintro _ H1014x13 ⟨rfl, st1014x13, at1014x13⟩
       replace hbl := hbl.st st1014x13 (fun k hk => ⟨by omega, trivial⟩)
       refine ⟨hbl, ?_⟩
       replace at18x11 := st1014x13.s at18x11
       replace at11x3 := st1014x13.s at11x3
       replace at14x7 := st1014x13.s at14x7
       replace at17x13 := st1014x13.s at17x13
       replace hf0 := hf0.st st1014x13 (fun k hk => ⟨by omega, trivial⟩)
       refine .done ?_
       exact ⟨g11x3, g14x7, g17x13, g18x11, g3x11, ⟨rfl, rfl, rfl, rfl, rfl, rfl, rfl, rfl, trivial⟩, hf0, by omega, by omega, by omega, by omega, by omega, by first | assumption | simpa using at11x3, by first | assumption | simpa using at14x7, by first | assumption | simpa using at17x13, by first | assumption | simpa using at18x11, by first | assumption | simpa using at1014x13, by omega, by omega, by omega, by omega, by omega, by omega, by omega, by omega, by omega, by omega⟩
      refine .c1 rfl rfl rfl rfl (.allocR rfl ze_27_Hj rfl) ?_
      rintro _ H3x12 ⟨g3x12, rfl, le3x12, ge3x12, at3x12⟩
      replace hbl := hbl.trans le3x12
      refine ⟨hbl, ?_⟩
      replace hle := hle.trans le3x12
      replace at1 := le3x12.2 _ _ at1
      replace at18x11 := le3x12.2 _ _ at18x11
      replace at11x3 := le3x12.2 _ _ at11x3
      replace at14x7 := le3x12.2 _ _ at14x7
      have lt_at3x12 := GHeap.ltg at3x12
      replace hf0 := hf0.trans le3x12
      replace hin := base_hin.mono hle
      have hb1 : Cat.At _ g1 0 c p := ⟨Mem.of_get at1, hin⟩
      obtain ⟨-, -, -, -, -, -, -, i31, -⟩ := hb1.get
      refine .call1 rfl rfl rfl rfl rfl @Try.call102 rfl (l01Own_c) ?_
      rintro _ H17x14 ⟨le17x14, g17x14, rfl, at17x14, ge17x14⟩
      replace hbl := hbl.trans le17x14
      refine ⟨hbl, ?_⟩
      replace at18x11 := le17x14.2 _ _ at18x11
      replace at11x3 := le17x14.2 _ _ at11x3
      replace at14x7 := le17x14.2 _ _ at14x7
      replace at3x12 := le17x14.2 _ _ at3x12
      replace hf0 := hf0.trans le17x14
      refine .qB rfl hbl (.build bt_27_Hj rfl rfl rfl) ?_
      refine .r1 rfl rfl rfl (.fillA rfl sz_27_D rfl rfl rfl rfl) ?_
      rintro _ H1014x14 ⟨rfl, st1014x14, at1014x14⟩
      replace hbl := hbl.st st1014x14 (fun k hk => ⟨by omega, trivial⟩)
      refine ⟨hbl, ?_⟩
      replace at18x11 := st1014x14.s at18x11
      replace at11x3 := st1014x14.s at11x3
      replace at14x7 := st1014x14.s at14x7
      replace at17x14 := st1014x14.s at17x14
      replace hf0 := hf0.st st1014x14 (fun k hk => ⟨by omega, trivial⟩)
      refine .done ?_
      exact ⟨g11x3, g14x7, g17x14, g18x11, g3x12, ⟨rfl, rfl, rfl, rfl, rfl, rfl, rfl, rfl, trivial⟩, hf0, by omega, by omega, by omega, by omega, by omega, by first | assumption | simpa using at11x3, by first | assumption | simpa using at14x7, by first | assumption | simpa using at17x14, by first | assumption | simpa using at18x11, by first | assumption | simpa using at1014x14, by omega, by omega, by omega, by omega, by omega, by omega, by omega, by omega, by omega, by omega⟩
     refine .c1 rfl rfl rfl rfl (.allocR rfl ze_27_Hj rfl) ?_
     rintro _ H3x13 ⟨g3x13, rfl, le3x13, ge3x13, at3x13⟩
     replace hbl := hbl.trans le3x13
     refine ⟨hbl, ?_⟩
     replace hle := hle.trans le3x13
     replace at1 := le3x13.2 _ _ at1
     replace at18x11 := le3x13.2 _ _ at18x11
     replace at11x3 := le3x13.2 _ _ at11x3
     have lt_at3x13 := GHeap.ltg at3x13
     replace hf0 := hf0.trans le3x13
     replace hin := base_hin.mono hle
     have hb1 : Cat.At _ g1 0 c p := ⟨Mem.of_get at1, hin⟩
     obtain ⟨-, -, -, -, -, i11, -, -, -⟩ := hb1.get
     refine .call1 rfl rfl rfl rfl rfl @Try.call102 rfl (l01Own_c) ?_
     rintro _ H14x8 ⟨le14x8, g14x8, rfl, at14x8, ge14x8⟩
     replace hbl := hbl.trans le14x8
     refine ⟨hbl, ?_⟩
     replace hle := hle.trans le14x8
     replace at1 := le14x8.2 _ _ at1
     replace at18x11 := le14x8.2 _ _ at18x11
     replace at11x3 := le14x8.2 _ _ at11x3
     replace at3x13 := le14x8.2 _ _ at3x13
     have lt_at14x8 := GHeap.ltg at14x8
     replace hf0 := hf0.trans le14x8
     replace hin := base_hin.mono hle
     clear hb1 i11
     have hb1 : Cat.At _ g1 0 c p := ⟨Mem.of_get at1, hin⟩
     obtain ⟨-, -, -, -, -, -, -, i31, -⟩ := hb1.get
     refine .call1 rfl rfl rfl rfl rfl @Try.call102 rfl (l01Own_c) ?_
     rintro _ H17x15 ⟨le17x15, g17x15, rfl, at17x15, ge17x15⟩
     replace hbl := hbl.trans le17x15
     refine ⟨hbl, ?_⟩
     replace at18x11 := le17x15.2 _ _ at18x11
     replace at11x3 := le17x15.2 _ _ at11x3
     replace at3x13 := le17x15.2 _ _ at3x13
     replace at14x8 := le17x15.2 _ _ at14x8
     replace hf0 := hf0.trans le17x15
     refine .qB rfl hbl (.build bt_27_Hj rfl rfl rfl) ?_
     refine .r1 rfl rfl rfl (.fillA rfl sz_27_D rfl rfl rfl rfl) ?_
     rintro _ H1014x15 ⟨rfl, st1014x15, at1014x15⟩
     replace hbl := hbl.st st1014x15 (fun k hk => ⟨by omega, trivial⟩)
     refine ⟨hbl, ?_⟩
     replace at18x11 := st1014x15.s at18x11
     replace at11x3 := st1014x15.s at11x3
     replace at14x8 := st1014x15.s at14x8
     replace at17x15 := st1014x15.s at17x15
     replace hf0 := hf0.st st1014x15 (fun k hk => ⟨by omega, trivial⟩)
     refine .done ?_
     exact ⟨g11x3, g14x8, g17x15, g18x11, g3x13, ⟨rfl, rfl, rfl, rfl, rfl, rfl, rfl, rfl, trivial⟩, hf0, by omega, by omega, by omega, by omega, by omega, by first | assumption | simpa using at11x3, by first | assumption | simpa using at14x8, by first | assumption | simpa using at17x15, by first | assumption | simpa using at18x11, by first | assumption | simpa using at1014x15, by omega, by omega, by omega, by omega, by omega, by omega, by omega, by omega, by omega, by omega⟩
    refine .c1 rfl rfl rfl rfl (.allocR rfl ze_27_Hj rfl) ?_
    rintro _ H3x14 ⟨g3x14, rfl, le3x14, ge3x14, at3x14⟩
    replace hbl := hbl.trans le3x14
    refine ⟨hbl, ?_⟩
    replace hle := hle.trans le3x14
    replace at1 := le3x14.2 _ _ at1
    replace at18x11 := le3x14.2 _ _ at18x11
    have lt_at3x14 := GHeap.ltg at3x14
    replace hf0 := hf0.trans le3x14
    replace hin := base_hin.mono hle
    have hb1 : Cat.At _ g1 0 c p := ⟨Mem.of_get at1, hin⟩
    obtain ⟨-, -, -, -, -, -, i21, -, -⟩ := hb1.get
    refine .call1 rfl rfl rfl rfl rfl @Try.call102 rfl (l01Own_c) ?_
    rintro _ H11x4 ⟨le11x4, g11x4, rfl, at11x4, ge11x4⟩
    replace hbl := hbl.trans le11x4
    refine ⟨hbl, ?_⟩
    replace hle := hle.trans le11x4
    replace at1 := le11x4.2 _ _ at1
    replace at18x11 := le11x4.2 _ _ at18x11
    replace at3x14 := le11x4.2 _ _ at3x14
    have lt_at11x4 := GHeap.ltg at11x4
    replace hf0 := hf0.trans le11x4
    replace hin := base_hin.mono hle
    clear hb1 i21
    have hb1 : Cat.At _ g1 0 c p := ⟨Mem.of_get at1, hin⟩
    obtain ⟨-, -, -, -, -, i11, -, -, -⟩ := hb1.get
    refine .call1 rfl rfl rfl rfl rfl @Try.call102 rfl (l01Own_c) ?_
    rintro _ H14x9 ⟨le14x9, g14x9, rfl, at14x9, ge14x9⟩
    replace hbl := hbl.trans le14x9
    refine ⟨hbl, ?_⟩
    replace hle := hle.trans le14x9
    replace at1 := le14x9.2 _ _ at1
    replace at18x11 := le14x9.2 _ _ at18x11
    replace at3x14 := le14x9.2 _ _ at3x14
    replace at11x4 := le14x9.2 _ _ at11x4
    have lt_at14x9 := GHeap.ltg at14x9
    replace hf0 := hf0.trans le14x9
    replace hin := base_hin.mono hle
    clear hb1 i11
    have hb1 : Cat.At _ g1 0 c p := ⟨Mem.of_get at1, hin⟩
    obtain ⟨-, -, -, -, -, -, -, i31, -⟩ := hb1.get
    refine .call1 rfl rfl rfl rfl rfl @Try.call102 rfl (l01Own_c) ?_
    rintro _ H17x16 ⟨le17x16, g17x16, rfl, at17x16, ge17x16⟩
    replace hbl := hbl.trans le17x16
    refine ⟨hbl, ?_⟩
    replace at18x11 := le17x16.2 _ _ at18x11
    replace at3x14 := le17x16.2 _ _ at3x14
    replace at11x4 := le17x16.2 _ _ at11x4
    replace at14x9 := le17x16.2 _ _ at14x9
    replace hf0 := hf0.trans le17x16
    refine .qB rfl hbl (.build bt_27_Hj rfl rfl rfl) ?_
    refine .r1 rfl rfl rfl (.fillA rfl sz_27_D rfl rfl rfl rfl) ?_
    rintro _ H1014x16 ⟨rfl, st1014x16, at1014x16⟩
    replace hbl := hbl.st st1014x16 (fun k hk => ⟨by omega, trivial⟩)
    refine ⟨hbl, ?_⟩
    replace at18x11 := st1014x16.s at18x11
    replace at11x4 := st1014x16.s at11x4
    replace at14x9 := st1014x16.s at14x9
    replace at17x16 := st1014x16.s at17x16
    replace hf0 := hf0.st st1014x16 (fun k hk => ⟨by omega, trivial⟩)
    refine .done ?_
    exact ⟨g11x4, g14x9, g17x16, g18x11, g3x14, ⟨rfl, rfl, rfl, rfl, rfl, rfl, rfl, rfl, trivial⟩, hf0, by omega, by omega, by omega, by omega, by omega, by first | assumption | simpa using at11x4, by first | assumption | simpa using at14x9, by first | assumption | simpa using at17x16, by first | assumption | simpa using at18x11, by first | assumption | simpa using at1014x16, by omega, by omega, by omega, by omega, by omega, by omega, by omega, by omega, by omega, by omega⟩
   refine .c1 rfl rfl rfl rfl (.allocR rfl ze_27_Hj rfl) ?_
   rintro _ H3x15 ⟨g3x15, rfl, le3x15, ge3x15, at3x15⟩
   have hbl := le3x15
   refine ⟨hbl, ?_⟩
   replace hle := hle.trans le3x15
   replace at1 := le3x15.2 _ _ at1
   have lt_at3x15 := GHeap.ltg at3x15
   replace hf0 := hf0.trans le3x15
   refine .orI ?_ ?_
   ·
    replace hin := base_hin.mono hle
    have hb1 : Cat.At _ g1 0 c p := ⟨Mem.of_get at1, hin⟩
    obtain ⟨-, -, -, -, -, -, i21, -, -⟩ := hb1.get
    refine .call1 rfl rfl rfl rfl rfl @Try.call102 rfl (l01Own_c) ?_
    rintro _ H11x5 ⟨le11x5, g11x5, rfl, at11x5, ge11x5⟩
    replace hbl := hbl.trans le11x5
    refine ⟨hbl, ?_⟩
    replace hle := hle.trans le11x5
    replace at1 := le11x5.2 _ _ at1
    replace at3x15 := le11x5.2 _ _ at3x15
    have lt_at11x5 := GHeap.ltg at11x5
    replace hf0 := hf0.trans le11x5
    refine .orI ?_ ?_
    ·
     replace hin := base_hin.mono hle
     clear hb1 i21
     have hb1 : Cat.At _ g1 0 c p := ⟨Mem.of_get at1, hin⟩
     obtain ⟨-, -, -, -, -, i11, -, -, -⟩ := hb1.get
     refine .call1 rfl rfl rfl rfl rfl @Try.call102 rfl (l01Own_c) ?_
     rintro _ H14x10 ⟨le14x10, g14x10, rfl, at14x10, ge14x10⟩
     replace hbl := hbl.trans le14x10
     refine ⟨hbl, ?_⟩
     replace hle := hle.trans le14x10
     replace at1 := le14x10.2 _ _ at1
     replace at3x15 := le14x10.2 _ _ at3x15
     replace at11x5 := le14x10.2 _ _ at11x5
     have lt_at14x10 := GHeap.ltg at14x10
     replace hf0 := hf0.trans le14x10
     refine .orI ?_ ?_
     ·
      replace hin := base_hin.mono hle
      clear hb1 i11
      have hb1 : Cat.At _ g1 0 c p := ⟨Mem.of_get at1, hin⟩
      obtain ⟨-, -, -, -, -, -, -, i31, -⟩ := hb1.get
      refine .call1 rfl rfl rfl rfl rfl @Try.call102 rfl (l01Own_c) ?_
      rintro _ H17x17 ⟨le17x17, g17x17, rfl, at17x17, ge17x17⟩
      replace hbl := hbl.trans le17x17
      refine ⟨hbl, ?_⟩
      replace at3x15 := le17x17.2 _ _ at3x15
      replace at11x5 := le17x17.2 _ _ at11x5
      replace at14x10 := le17x17.2 _ _ at14x10
      have lt_at17x17 := GHeap.ltg at17x17
      replace hf0 := hf0.trans le17x17
      refine .c1 rfl rfl rfl rfl (.litA rfl sl_25_B ze_24_Hj rfl rfl rfl rfl) ?_
      rintro _ H18x12 ⟨g18x12, rfl, le18x12, ge18x12, at18x12⟩
      replace hbl := hbl.trans le18x12
      refine ⟨hbl, ?_⟩
      replace at3x15 := le18x12.2 _ _ at3x15
      replace at11x5 := le18x12.2 _ _ at11x5
      replace at14x10 := le18x12.2 _ _ at14x10
      replace at17x17 := le18x12.2 _ _ at17x17
      replace hf0 := hf0.trans le18x12
      refine .qB rfl hbl (.build bt_27_Hj rfl rfl rfl) ?_
      refine .r1 rfl rfl rfl (.fillA rfl sz_27_D rfl rfl rfl rfl) ?_
      rintro _ H1014x17 ⟨rfl, st1014x17, at1014x17⟩
      replace hbl := hbl.st st1014x17 (fun k hk => ⟨by omega, trivial⟩)
      refine ⟨hbl, ?_⟩
      have ne_g11x5_g3x15 : NE g11x5 g3x15 := .a
      replace at11x5 := st1014x17.s at11x5 ne_g11x5_g3x15.ne
      have ne_g14x10_g3x15 : NE g14x10 g3x15 := .a
      replace at14x10 := st1014x17.s at14x10 ne_g14x10_g3x15.ne
      replace at17x17 := st1014x17.s at17x17
      replace at18x12 := st1014x17.s at18x12
      replace hf0 := hf0.st st1014x17 (fun k hk => ⟨by omega, trivial⟩)
      refine .done ?_
      exact ⟨g11x5, g14x10, g17x17, g18x12, g3x15, ⟨rfl, rfl, rfl, rfl, rfl, rfl, rfl, rfl, trivial⟩, hf0, by omega, by omega, by omega, by omega, by omega, by first | assumption | simpa using at11x5, by first | assumption | simpa using at14x10, by first | assumption | simpa using at17x17, by first | assumption | simpa using at18x12, by first | assumption | simpa using at1014x17, by omega, by omega, by omega, by omega, by omega, by omega, by omega, by omega, by omega, by omega⟩
     refine .c1 rfl rfl rfl rfl (.litA rfl sl_25_B ze_24_Hj rfl rfl rfl rfl) ?_
     rintro _ H18x13 ⟨g18x13, rfl, le18x13, ge18x13, at18x13⟩
     replace hbl := hbl.trans le18x13
     refine ⟨hbl, ?_⟩
     replace hle := hle.trans le18x13
     replace at1 := le18x13.2 _ _ at1
     replace at3x15 := le18x13.2 _ _ at3x15
     replace at11x5 := le18x13.2 _ _ at11x5
     replace at14x10 := le18x13.2 _ _ at14x10
     have lt_at18x13 := GHeap.ltg at18x13
     replace hf0 := hf0.trans le18x13
     replace hin := base_hin.mono hle
     have hb1 : Cat.At _ g1 0 c p := ⟨Mem.of_get at1, hin⟩
     obtain ⟨-, -, -, -, -, -, -, i31, -⟩ := hb1.get
     refine .call1 rfl rfl rfl rfl rfl @Try.call102 rfl (l01Own_c) ?_
     rintro _ H17x18 ⟨le17x18, g17x18, rfl, at17x18, ge17x18⟩
     replace hbl := hbl.trans le17x18
     refine ⟨hbl, ?_⟩
     replace at3x15 := le17x18.2 _ _ at3x15
     replace at11x5 := le17x18.2 _ _ at11x5
     replace at14x10 := le17x18.2 _ _ at14x10
     replace at18x13 := le17x18.2 _ _ at18x13
     replace hf0 := hf0.trans le17x18
     refine .qB rfl hbl (.build bt_27_Hj rfl rfl rfl) ?_
     refine .r1 rfl rfl rfl (.fillA rfl sz_27_D rfl rfl rfl rfl) ?_
     rintro _ H1014x18 ⟨rfl, st1014x18, at1014x18⟩
     replace hbl := hbl.st st1014x18 (fun k hk => ⟨by omega, trivial⟩)
     refine ⟨hbl, ?_⟩
     have ne_g11x5_g3x15 : NE g11x5 g3x15 := .a
     replace at11x5 := st1014x18.s at11x5 ne_g11x5_g3x15.ne
     have ne_g14x10_g3x15 : NE g14x10 g3x15 := .a
     replace at14x10 := st1014x18.s at14x10 ne_g14x10_g3x15.ne
     replace at18x13 := st1014x18.s at18x13
     replace at17x18 := st1014x18.s at17x18
     replace hf0 := hf0.st st1014x18 (fun k hk => ⟨by omega, trivial⟩)
     refine .done ?_
     exact ⟨g11x5, g14x10, g17x18, g18x13, g3x15, ⟨rfl, rfl, rfl, rfl, rfl, rfl, rfl, rfl, trivial⟩, hf0, by omega, by omega, by omega, by omega, by omega, by first | assumption | simpa using at11x5, by first | assumption | simpa using at14x10, by first | assumption | simpa using at17x18, by first | assumption | simpa using at18x13, by first | assumption | simpa using at1014x18, by omega, by omega, by omega, by omega, by omega, by omega, by omega, by omega, by omega, by omega⟩
    refine .c1 rfl rfl rfl rfl (.litA rfl sl_25_B ze_24_Hj rfl rfl rfl rfl) ?_
    rintro _ H18x14 ⟨g18x14, rfl, le18x14, ge18x14, at18x14⟩
    replace hbl := hbl.trans le18x14
    refine ⟨hbl, ?_⟩
    replace hle := hle.trans le18x14
    replace at1 := le18x14.2 _ _ at1
    replace at3x15 := le18x14.2 _ _ at3x15
    replace at11x5 := le18x14.2 _ _ at11x5
    have lt_at18x14 := GHeap.ltg at18x14
    replace hf0 := hf0.trans le18x14
    replace hin := base_hin.mono hle
    have hb1 : Cat.At _ g1 0 c p := ⟨Mem.of_get at1, hin⟩
    obtain ⟨-, -, -, -, -, i11, -, -, -⟩ := hb1.get
    refine .call1 rfl rfl rfl rfl rfl @Try.call102 rfl (l01Own_c) ?_
    rintro _ H14x11 ⟨le14x11, g14x11, rfl, at14x11, ge14x11⟩
    replace hbl := hbl.trans le14x11
    refine ⟨hbl, ?_⟩
    replace hle := hle.trans le14x11
    replace at1 := le14x11.2 _ _ at1
    replace at3x15 := le14x11.2 _ _ at3x15
    replace at11x5 := le14x11.2 _ _ at11x5
    replace at18x14 := le14x11.2 _ _ at18x14
    have lt_at14x11 := GHeap.ltg at14x11
    replace hf0 := hf0.trans le14x11
    replace hin := base_hin.mono hle
    clear hb1 i11
    have hb1 : Cat.At _ g1 0 c p := ⟨Mem.of_get at1, hin⟩
    obtain ⟨-, -, -, -, -, -, -, i31, -⟩ := hb1.get
    refine .call1 rfl rfl rfl rfl rfl @Try.call102 rfl (l01Own_c) ?_
    rintro _ H17x19 ⟨le17x19, g17x19, rfl, at17x19, ge17x19⟩
    replace hbl := hbl.trans le17x19
    refine ⟨hbl, ?_⟩
    replace at3x15 := le17x19.2 _ _ at3x15
    replace at11x5 := le17x19.2 _ _ at11x5
    replace at18x14 := le17x19.2 _ _ at18x14
    replace at14x11 := le17x19.2 _ _ at14x11
    replace hf0 := hf0.trans le17x19
    refine .qB rfl hbl (.build bt_27_Hj rfl rfl rfl) ?_
    refine .r1 rfl rfl rfl (.fillA rfl sz_27_D rfl rfl rfl rfl) ?_
    rintro _ H1014x19 ⟨rfl, st1014x19, at1014x19⟩
    replace hbl := hbl.st st1014x19 (fun k hk => ⟨by omega, trivial⟩)
    refine ⟨hbl, ?_⟩
    have ne_g11x5_g3x15 : NE g11x5 g3x15 := .a
    replace at11x5 := st1014x19.s at11x5 ne_g11x5_g3x15.ne
    replace at18x14 := st1014x19.s at18x14
    replace at14x11 := st1014x19.s at14x11
    replace at17x19 := st1014x19.s at17x19
    replace hf0 := hf0.st st1014x19 (fun k hk => ⟨by omega, trivial⟩)
    refine .done ?_
    exact ⟨g11x5, g14x11, g17x19, g18x14, g3x15, ⟨rfl, rfl, rfl, rfl, rfl, rfl, rfl, rfl, trivial⟩, hf0, by omega, by omega, by omega, by omega, by omega, by first | assumption | simpa using at11x5, by first | assumption | simpa using at14x11, by first | assumption | simpa using at17x19, by first | assumption | simpa using at18x14, by first | assumption | simpa using at1014x19, by omega, by omega, by omega, by omega, by omega, by omega, by omega, by omega, by omega, by omega⟩
   refine .c1 rfl rfl rfl rfl (.litA rfl sl_25_B ze_24_Hj rfl rfl rfl rfl) ?_
   rintro _ H18x15 ⟨g18x15, rfl, le18x15, ge18x15, at18x15⟩
   replace hbl := hbl.trans le18x15
   refine ⟨hbl, ?_⟩
   replace hle := hle.trans le18x15
   replace at1 := le18x15.2 _ _ at1
   replace at3x15 := le18x15.2 _ _ at3x15
   have lt_at18x15 := GHeap.ltg at18x15
   replace hf0 := hf0.trans le18x15
   replace hin := base_hin.mono hle
   have hb1 : Cat.At _ g1 0 c p := ⟨Mem.of_get at1, hin⟩
   obtain ⟨-, -, -, -, -, -, i21, -, -⟩ := hb1.get
   refine .call1 rfl rfl rfl rfl rfl @Try.call102 rfl (l01Own_c) ?_
   rintro _ H11x6 ⟨le11x6, g11x6, rfl, at11x6, ge11x6⟩
   replace hbl := hbl.trans le11x6
   refine ⟨hbl, ?_⟩
   replace hle := hle.trans le11x6
   replace at1 := le11x6.2 _ _ at1
   replace at3x15 := le11x6.2 _ _ at3x15
   replace at18x15 := le11x6.2 _ _ at18x15
   have lt_at11x6 := GHeap.ltg at11x6
   replace hf0 := hf0.trans le11x6
   replace hin := base_hin.mono hle
   clear hb1 i21
   have hb1 : Cat.At _ g1 0 c p := ⟨Mem.of_get at1, hin⟩
   obtain ⟨-, -, -, -, -, i11, -, -, -⟩ := hb1.get
   refine .call1 rfl rfl rfl rfl rfl @Try.call102 rfl (l01Own_c) ?_
   rintro _ H14x12 ⟨le14x12, g14x12, rfl, at14x12, ge14x12⟩
   replace hbl := hbl.trans le14x12
   refine ⟨hbl, ?_⟩
   replace hle := hle.trans le14x12
   replace at1 := le14x12.2 _ _ at1
   replace at3x15 := le14x12.2 _ _ at3x15
   replace at18x15 := le14x12.2 _ _ at18x15
   replace at11x6 := le14x12.2 _ _ at11x6
   have lt_at14x12 := GHeap.ltg at14x12
   replace hf0 := hf0.trans le14x12
   replace hin := base_hin.mono hle
   clear hb1 i11
   have hb1 : Cat.At _ g1 0 c p := ⟨Mem.of_get at1, hin⟩
   obtain ⟨-, -, -, -, -, -, -, i31, -⟩ := hb1.get
   refine .call1 rfl rfl rfl rfl rfl @Try.call102 rfl (l01Own_c) ?_
   rintro _ H17x20 ⟨le17x20, g17x20, rfl, at17x20, ge17x20⟩
   replace hbl := hbl.trans le17x20
   refine ⟨hbl, ?_⟩
   replace at3x15 := le17x20.2 _ _ at3x15
   replace at18x15 := le17x20.2 _ _ at18x15
   replace at11x6 := le17x20.2 _ _ at11x6
   replace at14x12 := le17x20.2 _ _ at14x12
   replace hf0 := hf0.trans le17x20
   refine .qB rfl hbl (.build bt_27_Hj rfl rfl rfl) ?_
   refine .r1 rfl rfl rfl (.fillA rfl sz_27_D rfl rfl rfl rfl) ?_
   rintro _ H1014x20 ⟨rfl, st1014x20, at1014x20⟩
   replace hbl := hbl.st st1014x20 (fun k hk => ⟨by omega, trivial⟩)
   refine ⟨hbl, ?_⟩
   replace at18x15 := st1014x20.s at18x15
   replace at11x6 := st1014x20.s at11x6
   replace at14x12 := st1014x20.s at14x12
   replace at17x20 := st1014x20.s at17x20
   replace hf0 := hf0.st st1014x20 (fun k hk => ⟨by omega, trivial⟩)
   refine .done ?_
   exact ⟨g11x6, g14x12, g17x20, g18x15, g3x15, ⟨rfl, rfl, rfl, rfl, rfl, rfl, rfl, rfl, trivial⟩, hf0, by omega, by omega, by omega, by omega, by omega, by first | assumption | simpa using at11x6, by first | assumption | simpa using at14x12, by first | assumption | simpa using at17x20, by first | assumption | simpa using at18x15, by first | assumption | simpa using at1014x20, by omega, by omega, by omega, by omega, by omega, by omega, by omega, by omega, by omega, by omega⟩
  rintro fr3 H3 ⟨g11, g14, g17, g18, g3, hsub3, le3, ge11, ge14, ge17, ge18, ge3, at11, at14, at17, at18, at3, ne3_0, ne3_1, ne3_2, ne3_3, ne3_4, ne3_5, ne3_6, ne3_7, ne3_8, ne3_9⟩
  have nx_H3 := le3.1
  replace hle := hle.trans le3
  replace at1 := le3.2 _ _ at1
  replace at2 := le3.2 _ _ at2
  have lt_at11 := GHeap.ltg at11
  have lt_at14 := GHeap.ltg at14
  have lt_at17 := GHeap.ltg at17
  have lt_at3 := GHeap.ltg at3
  replace hin := base_hin.mono hle
  have hb1 : Cat.At _ g1 0 c p := ⟨Mem.of_get at1, hin⟩
  refine hK2 _ _ ?_
  refine .forget hsub3 ?_
  refine .seq (fun K3 hK3 => .seq (fun K4 hK4 => .region (.mv rfl (.nil (hK4 _ _ ?_)))))
  refine .block ?_
  refine .loopR (σ := Nat × (Nat → Option Addr) × Nat) [(1, some _), (2, some _), (3, some _)] (fun (f, rc, gLC) => [(4, some (.int .i64 (f : Int)))]) (fun (f, rc, gLC) H' => St [g18, g3] H3 H' ∧ H'.get gLC = some (.row ((slsL rc (c.opTab f))) 24 true) ∧ (gLC = g18 ∨ H3.next ≤ gLC) ∧ H'.get g3 = some (.row ([.int .i64 c.obj, .slice (some ⟨g11, 0, none⟩) c.tgt.length c.tgt.length, .slice (some ⟨g14, 0, none⟩) c.src.length c.src.length, .slice (some ⟨g17, 0, none⟩) c.idn.length c.idn.length, .slice (some ⟨gLC, 0, none⟩) f f]) 27 true) ∧ gLC ≠ g3 ∧ f ≤ c.src.length ∧ OwnL H3.next H' 2 rc (c.opTab f)) (fun (f, rc, gLC) => c.src.length - f) ((0, fun _ => none, g18)) ⟨rfl, rfl, rfl, trivial⟩ ⟨rfl, trivial⟩ ?_ ?_
  ·
   refine ⟨.refl _ _, by assumption, .inl rfl, by assumption, by omega, ?_⟩
   exact ⟨by omega, .nil _ _ _ _⟩
  rintro ⟨f, rc, gLC⟩ HL1 ⟨lst1, at_LC, pl_LC, at_Lg3, ap1_0, hI⟩ KL1 hKL1
  refine .forget (fr' := [(4, some (.int .i64 (f : Int))), (1, some _), (2, some _), (3, some _)]) ⟨rfl, rfl, rfl, rfl, trivial⟩ ?_
  have ge_LC : H.next ≤ gLC := by omega
  have nx_HL1 := lst1.nx
  replace hle := hle.st lst1 (fun k hk => ⟨by omega, by omega, trivial⟩)
  have ne_g1_g3 : NE g1 g3 := .a
  replace at1 := lst1.same _ _ ⟨(by first | assumption | omega), ne_g1_g3.ne, trivial⟩ at1
  replace at2 := lst1.same _ _ ⟨(by first | assumption | omega), (by first | assumption | omega), trivial⟩ at2
  replace at11 := lst1.same _ _ ⟨(by first | assumption | omega), (by first | assumption | omega), trivial⟩ at11
  replace at14 := lst1.same _ _ ⟨(by first | assumption | omega), (by first | assumption | omega), trivial⟩ at14
  replace at17 := lst1.same _ _ ⟨(by first | assumption | omega), (by first | assumption | omega), trivial⟩ at17
  have lt_at_LC := GHeap.ltg at_LC
  have lt_at_Lg3 := GHeap.ltg at_Lg3
  replace hin := base_hin.mono hle
  clear hb1
  have hb1 : Cat.At _ g1 0 c p := ⟨Mem.of_get at1, hin⟩
  obtain ⟨-, c11, -, -, -, -, -, -, -⟩ := hb1.get
  have rk := St.refl [gLC, g3] HL1
  obtain ⟨hf, hR⟩ := hI
  have hatC := at_LC
  have hat3 := at_Lg3
  have hql := c.length_opTab f
  have hfl : (slsL rc (c.opTab f)).length = (c.opTab f).length := length_slsL _ _
  refine .seq (fun K5 hK5 => .seq (fun K6 hK6 => .region (.mv rfl (.q rfl (.fieldAddr fo_27_1_B rfl) ?_))))
  refine .q rfl (.load on_24_B rfl (by first | assumption | exact Mem.of_get at1 1 _ rfl)) ?_
  refine .q rfl (.len sl_24_A rfl) (.q rfl (.cmp rfl rfl rfl) (.nil (hK6 _ _ ?_)))
  refine .cond rfl (fun h24 => ?_) (fun h24 => ?_)
  ·
   simp only [sps] at h24
   refine .skip ?_
   refine hK5 _ _ (.seq (fun K7 hK7 => ?_))
   refine .block ?_
   refine .seq (fun K8 hK8 => .region ?_)
   refine .R rfl (.litA rfl sl_24_A ze_2_L rfl rfl rfl rfl) ?_
   rintro _ H27 ⟨g27, rfl, le27, ge27, at27⟩
   replace hle := hle.trans le27
   replace lst1 := lst1.le le27
   replace rk := rk.le le27
   replace at1 := le27.2 _ _ at1
   replace at_LC := le27.2 _ _ at_LC
   replace at_Lg3 := le27.2 _ _ at_Lg3
   have lt_at27 := GHeap.ltg at27
   replace hin := base_hin.mono hle
   clear hb1 c11
   have hb1 : Cat.At _ g1 0 c p := ⟨Mem.of_get at1, hin⟩
   replace at27 : GHeap.get H27 g27 = some (.row (ints []) 2 true) := at27
   refine .mv rfl (.nil (hK8 _ _ (.seq (fun K9 hK9 => .seq (fun K10 hK10 => .region (.mv rfl (.nil (hK10 _ _ ?_))))))))
   refine .block ?_
   refine .loopR (σ := Nat × Nat × Nat) [(1, some _), (2, some _), (3, some _), (4, some _)] (fun (g, gL5, nL5) => [(6, some (.int .i64 (g : Int))), (5, some (.slice (some ⟨gL5, 0, none⟩) nL5 nL5))]) (fun (g, gL5, nL5) H' => St [g27] H27 H' ∧ H'.get gL5 = some (.row (ints (c.opRow f g)) 2 true) ∧ (gL5 = g27 ∨ H27.next ≤ gL5) ∧ nL5 = (c.opRow f g).length ∧ g ≤ c.src.length) (fun (g, gL5, nL5) => c.src.length - g) ((0, _, _)) ⟨rfl, rfl, rfl, rfl, trivial⟩ ⟨rfl, rfl, trivial⟩ ?_ ?_
   ·
    refine ⟨.refl _ _, by assumption, .inl rfl, by rfl, ?_⟩
    omega
   rintro ⟨g, gL5, nL5⟩ HL2 ⟨lst2, at_L5, pl_L5, ln_L5, hI⟩ KL2 hKL2
   refine .forget (fr' := [(6, some (.int .i64 (g : Int))), (5, some (.slice (some ⟨gL5, 0, none⟩) nL5 nL5)), (1, some _), (2, some _), (3, some _), (4, some _)]) ⟨rfl, rfl, rfl, rfl, rfl, rfl, trivial⟩ ?_
   have ge_L5 : H.next ≤ gL5 := by omega
   have nx_HL2 := lst2.nx
   replace hle := hle.st lst2 (fun k hk => ⟨by omega, trivial⟩)
   replace lst1 := lst1.sA lst2
   replace rk := rk.sA lst2
   replace at1 := lst2.s at1
   replace at_LC := lst2.s at_LC
   replace at_Lg3 := lst2.s at_Lg3
   replace hin := base_hin.mono hle
   clear hb1
   have hb1 : Cat.At _ g1 0 c p := ⟨Mem.of_get at1, hin⟩
   obtain ⟨-, c11, -, -, c41, -, -, -, i41⟩ := hb1.get
   have hrl := c.length_opRow f g
   refine .seq (fun K11 hK11 => .seq (fun K12 hK12 => .region (.mv rfl (.q rfl (.fieldAddr fo_27_1_B rfl) ?_))))
   refine .q rfl (.load on_24_B rfl (by first | assumption | exact Mem.of_get at1 1 _ rfl)) ?_
   refine .q rfl (.len sl_24_A rfl) (.q rfl (.cmp rfl rfl rfl) (.nil (hK12 _ _ ?_)))
   refine .cond rfl (fun h32 => ?_) (fun h32 => ?_)
   ·
    simp only [sps] at h32
    have b9g := b9 g (by omega)
    have u1 := i41.2 g (by omega)
    refine .skip ?_
    refine hK11 _ _ (.seq (fun K13 hK13 => ?_))
    refine .block ?_
    refine .region (.mv rfl (.q rfl (.fieldAddr fo_27_4_B rfl) ?_))
    refine .q rfl (.load on_25_B rfl (by first | assumption | exact Mem.of_get at1 4 _ rfl)) ?_
    refine .mv rfl ?_
    refine .q rfl (.idxN sl_25_B (Intss.sl (by assumption)) rfl rfl (by omega)) ?_
    refine .q rfl (.loadR on_24_B (by assumption) rfl (by omega)) ?_
    refine .mv rfl ?_
    refine .q rfl (.idxN sl_24_A (by assumption) rfl rfl (by omega)) ?_
    refine .q rfl (.loadI on_2_A (by assumption) rfl (by omega)) ?_
    refine .R rfl (.litA rfl sl_24_A ze_2_L rfl rfl rfl rfl) ?_
    rintro _ H44 ⟨g44, rfl, le44, ge44, at44⟩
    replace hle := hle.trans le44
    replace lst2 := lst2.le le44
    replace at1 := le44.2 _ _ at1
    replace at_L5 := le44.2 _ _ at_L5
    have lt_at44 := GHeap.ltg at44
    replace hin := base_hin.mono hle
    clear hb1 c11 c41 i41
    have hb1 : Cat.At _ g1 0 c p := ⟨Mem.of_get at1, hin⟩
    clear u1
    refine .R rfl (.appendI rfl sl_24_A ze_2_L rfl by_2_L sl_24_A rfl rfl (by assumption) (by assumption) (by first | omega | (simp <;> omega)) (by omega) (by omega)) ?_
    rintro _ H45 ⟨g45, rfl, st45, ge45, at45⟩
    replace hle := hle.st st45 (fun k hk => ⟨by omega, trivial⟩)
    replace lst2 := lst2.sA st45
    replace at1 := st45.s at1
    replace hin := base_hin.mono hle
    clear hb1
    have hb1 : Cat.At _ g1 0 c p := ⟨Mem.of_get at1, hin⟩
    refine .mv rfl (.nil (hK13 _ _ (.region (.mv rfl ?_))))
    refine .q rfl (.add rfl rfl rfl (by omega) (by omega)) ?_
    refine .mv rfl (.nil ?_)
    refine hKL2 ((g + 1, _, _)) _ _ ?_ ?_ ⟨rfl, rfl, rfl, rfl, rfl, rfl, trivial⟩
    ·
     refine ⟨lst2, by (rw [Cat.opRow_snoc]; assumption), by omega, by (rw [Cat.opRow_snoc] <;> (first | omega | (simp only [List.length_append, List.length_cons, List.length_nil] <;> omega))), ?_⟩
     omega
    (dsimp only; omega)
   try simp only [sps] at h32
   refine .exit ?_
   refine hK9 _ _ (.region ?_)
   obtain rfl : g = c.src.length := by omega
   have hrl2 := ln_L5.symm
   refine .q rfl (.fieldAddr fo_27_4_B rfl) ?_
   refine .q rfl (.load on_25_B rfl (by first | assumption | exact Mem.of_get at_Lg3 4 _ rfl)) ?_
   refine .mv rfl ?_
   refine .R rfl (.litA rfl sl_25_B ze_24_Hj rfl rfl rfl rfl) ?_
   rintro _ H49 ⟨g49, rfl, le49, ge49, at49⟩
   replace hle := hle.trans le49
   replace lst1 := lst1.le le49
   replace rk := rk.le le49
   replace at1 := le49.2 _ _ at1
   replace at_LC := le49.2 _ _ at_LC
   replace at_Lg3 := le49.2 _ _ at_Lg3
   replace at_L5 := le49.2 _ _ at_L5
   have lt_at49 := GHeap.ltg at49
   replace hin := base_hin.mono hle
   have hb1 : Cat.At _ g1 0 c p := ⟨Mem.of_get at1, hin⟩
   refine .R rfl (.appendV rfl sl_25_B ze_24_Hj rfl by_24_Hj sl_25_B rfl rfl (by assumption) (by assumption) (by first | omega | (simp <;> omega)) rfl rfl (by omega) (by omega)) ?_
   rintro _ H50 ⟨g50, rfl, st50, ge50, at50⟩
   replace hle := hle.st st50 (fun k hk => ⟨by omega, trivial⟩)
   replace lst1 := lst1.sA st50
   replace rk := rk.sA st50
   replace at1 := st50.s at1
   replace at_Lg3 := st50.same _ _ ⟨(Ne.symm ap1_0), trivial⟩ at_Lg3
   replace at_L5 := st50.s at_L5
   replace hin := base_hin.mono hle
   clear hb1
   have hb1 : Cat.At _ g1 0 c p := ⟨Mem.of_get at1, hin⟩
   refine .q rfl (.fieldAddr fo_27_4_B rfl) ?_
   refine .r0 rfl rfl (.storeR rfl sz_25_Ch rfl rfl rfl (by assumption) (by first | exact Nat.le_of_ble_eq_true rfl | (simp; done) | (simp <;> omega))) ?_
   rintro _ H10006 ⟨rfl, st10006, at10006⟩
   replace hle := hle.st st10006 (fun k hk => ⟨by omega, trivial⟩)
   replace lst1 := lst1.sA st10006
   replace rk := rk.sA st10006
   replace at1 := st10006.s at1 ne_g1_g3.ne
   replace at_L5 := st10006.s at_L5
   replace at50 := st10006.s at50
   replace hin := base_hin.mono hle
   clear hb1
   have hb1 : Cat.At _ g1 0 c p := ⟨Mem.of_get at1, hin⟩
   try simp only [Nat.zero_add, List.set_cons_succ, List.set_cons_zero] at at10006
   refine .nil (hK7 _ _ (.region (.mv rfl ?_)))
   refine .q rfl (.add rfl rfl rfl (by omega) (by omega)) ?_
   refine .mv rfl (.nil ?_)
   refine hKL1 ((f + 1, upd rc (c.opTab f).length (some ⟨gL5, 0, none⟩), g50)) _ _ ?_ ?_ ⟨rfl, rfl, rfl, rfl, trivial⟩
   ·
    refine ⟨lst1, by (rw [Cat.opTab_snoc, slsL_snoc, hrl2]; assumption), by omega, by assumption, by omega, ?_⟩
    have hR' := hR.st rk (.cons (hR.neT hatC rfl) (.cons (hR.neT hat3 rfl) (.nil _ _)))
    have hb2 : HL1.next ≤ gL5 := by omega
    have hn1 := hR.ne (g := gL5) hb2
    have hrow := at_L5
    rw [Cat.opTab_snoc]
    exact ⟨by omega, hR'.snoc2 hrow hn1 (by omega)⟩
   (dsimp only; omega)
  try simp only [sps] at h24
  refine .exit ?_
  refine hK3 _ _ (.seq (fun K14 hK14 => .region ?_))
  refine .q rfl (.loadM ag_27_D rfl ⟨rfl, Mem.of_get at_Lg3⟩) ?_
  obtain rfl : f = c.src.length := by omega
  have hat2 := at2
  refine .r0 rfl rfl (.fillA rfl sz_27_D rfl rfl rfl rfl) ?_
  rintro _ H11001 ⟨rfl, st11001, at11001⟩
  replace hle := hle.st st11001 (fun k hk => ⟨by omega, trivial⟩)
  replace at1 := st11001.s at1
  replace at11 := st11001.s at11
  replace at14 := st11001.s at14
  replace at17 := st11001.s at17
  replace at_LC := st11001.s at_LC
  replace hin := base_hin.mono hle
  have hb1 : Cat.At _ g1 0 c p := ⟨Mem.of_get at1, hin⟩
  refine .nil (hK14 _ _ ?_)
  refine .ret ?_
  refine hret _ _ ?_
  refine ⟨_, _, _, _, rfl, ag_27_D, (by rfl), (Mem.of_get at11001), ?_⟩
  have hrc := (hR.st st11001 (.cons (hR.neT hat2 rfl) (.nil _ _)))
  exact ⟨hle, g11, g14, g17, gLC, rc, by simp [Cat.cells, Cat.op, ownP, b3], ⟨at11, at14, at17, at_LC, by omega, by omega, by omega, by omega, by omega, by omega, by omega, hrc.low (by omega), hR.lowNe (by omega), hR.lowNe (by omega), hR.lowNe (by omega)⟩⟩
end Go.Proofs.Ytolfggcanbpknaa
namespace Go.Proofs.Ytolfggcanbpknaa
open Go Go.GL Go.RowKit Go.Proofs
end Go.Proofs.Ytolfggcanbpknaa
namespace Go.GL
abbrev hd (l : List Int) : Int := l.getD 0 0
def clsIn (E : Int → Int → Bool) (T : List (List Int)) (m : Int) : List (List Int) := if T.any (fun l => E m (hd l)) then T.map (fun l => if E m (hd l) then l ++ [m] else l) else T ++ [[m]]
def clsOf (E : Int → Int → Bool) (ms : List Int) : List (List Int) := ms.foldl (clsIn E) []
theorem clsOf_snoc (E : Int → Int → Bool) (ms : List Int) (m : Int) : clsOf E (ms ++ [m]) = clsIn E (clsOf E ms) m := by unfold clsOf; rw [List.foldl_append]; rfl
theorem clsOf_take {E : Int → Int → Bool} {ms : List Int} {i : Nat} (h : i < ms.length) : clsOf E (ms.take (i + 1)) = clsIn E (clsOf E (ms.take i)) (ms.getD i 0) := by
  rw [List.take_add_one, List.getElem?_eq_getElem h, List.getD_eq_getElem?_getD, List.getElem?_eq_getElem h]
  exact clsOf_snoc _ _ _
structure EqvOn (P : Int → Prop) (E : Int → Int → Bool) : Prop where
  refl : ∀ x, P x → E x x = true
  symm : ∀ x y, E x y = true → E y x = true
  trans : ∀ x y z, P x → P y → P z → E x y = true → E y z = true → E x z = true
structure ClsOk (P : Int → Prop) (E : Int → Int → Bool) (T : List (List Int)) : Prop where
  ne : ∀ i, i < T.length → 0 < (T.getD i []).length
  mem : ∀ i, i < T.length → ∀ x ∈ T.getD i [], P x ∧ E x (hd (T.getD i [])) = true
  ap : ∀ i j, i < T.length → j < T.length → i ≠ j → E (hd (T.getD i [])) (hd (T.getD j [])) = false
theorem hd_mem {l : List Int} (h : 0 < l.length) : hd l ∈ l := getD_mem h
theorem ClsOk.hd {P : Int → Prop} {E : Int → Int → Bool} {T : List (List Int)} (h : ClsOk P E T) {i : Nat} (hi : i < T.length) : P (hd (T.getD i [])) := (h.mem i hi _ (hd_mem (h.ne i hi))).1
theorem ClsOk.nil (P : Int → Prop) (E : Int → Int → Bool) : ClsOk P E [] := ⟨fun i h => by simp at h, fun i h => by simp at h, fun i j h => by simp at h⟩
theorem ClsOk.one {P : Int → Prop} {E : Int → Int → Bool} {T : List (List Int)} (hE : EqvOn P E) (h : ClsOk P E T) {m : Int} (hm : P m) {i j : Nat} (hi : i < T.length) (hj : j < T.length) (e1 : E m (GL.hd (T.getD i [])) = true) (e2 : E m (GL.hd (T.getD j [])) = true) : i = j := Classical.byContradiction fun hne => by
  have := hE.trans _ _ _ (h.hd hi) hm (h.hd hj) (hE.symm _ _ e1) e2
  rw [h.ap i j hi hj hne] at this
  cases this
theorem clsIn_set {P : Int → Prop} {E : Int → Int → Bool} {T : List (List Int)} (hE : EqvOn P E) (h : ClsOk P E T) {m : Int} (hm : P m) {i : Nat} (hi : i < T.length) (he : E m (hd (T.getD i [])) = true) : clsIn E T m = T.set i (T.getD i [] ++ [m]) := by
  have ei : T.getD i [] = T[i] := by rw [List.getD_eq_getElem?_getD, List.getElem?_eq_getElem hi]; rfl
  unfold clsIn
  rw [if_pos (List.any_eq_true.2 ⟨T[i], List.getElem_mem hi, by rw [← ei]; exact he⟩)]
  apply List.ext_getElem (by simp)
  intro j h1 h2
  have hj : j < T.length := by simpa using h1
  have ej : T.getD j [] = T[j] := by rw [List.getD_eq_getElem?_getD, List.getElem?_eq_getElem hj]; rfl
  rw [List.getElem_map, List.getElem_set]
  by_cases e : i = j
  · subst e
    rw [if_pos rfl, ← ei, if_pos he]
  · rw [if_neg e, ← ej, if_neg]
    intro q
    exact e (h.one hE hm hi hj he q)
theorem clsIn_new {E : Int → Int → Bool} {T : List (List Int)} {m : Int} (h : ∀ i, i < T.length → E m (hd (T.getD i [])) = false) : clsIn E T m = T ++ [[m]] := by
  unfold clsIn
  rw [if_neg]
  intro q
  obtain ⟨l, hl, e⟩ := List.any_eq_true.1 q
  obtain ⟨i, hi, rfl⟩ := List.mem_iff_getElem.1 hl
  have := h i hi
  rw [List.getD_eq_getElem?_getD, List.getElem?_eq_getElem hi] at this
  simp only [Option.getD_some] at this
  rw [this] at e
  cases e
theorem clsIn_cases (E : Int → Int → Bool) (T : List (List Int)) (m : Int) : (∃ i, i < T.length ∧ E m (hd (T.getD i [])) = true) ∨ ∀ i, i < T.length → E m (hd (T.getD i [])) = false := by
  by_cases h : ∃ i, i < T.length ∧ E m (hd (T.getD i [])) = true
  · exact .inl h
  · exact .inr fun i hi => Bool.eq_false_iff.2 fun q => h ⟨i, hi, q⟩
theorem getD_setL {T : List (List Int)} {i j : Nat} {ys : List Int} (hi : i < T.length) : (T.set i ys).getD j [] = if i = j then ys else T.getD j [] := by
  rw [List.getD_eq_getElem?_getD, List.getElem?_set]
  by_cases e : i = j
  · subst e
    rw [if_pos rfl, if_pos hi, if_pos rfl]; rfl
  · rw [if_neg e, if_neg e, ← List.getD_eq_getElem?_getD]
theorem hd_snoc {l : List Int} {m : Int} (h : 0 < l.length) : hd (l ++ [m]) = hd l := by
  cases l with
  | nil => simp at h
  | cons a t => rfl
theorem ClsOk.step {P : Int → Prop} {E : Int → Int → Bool} {T : List (List Int)} (hE : EqvOn P E) (h : ClsOk P E T) {m : Int} (hm : P m) : ClsOk P E (clsIn E T m) := by
  rcases clsIn_cases E T m with ⟨i, hi, he⟩ | hno
  · rw [clsIn_set hE h hm hi he]
    have hh : ∀ j, j < T.length → GL.hd ((T.set i (T.getD i [] ++ [m])).getD j []) = GL.hd (T.getD j []) := fun j hj => by
      rw [getD_setL hi]
      split
      · rename_i e; subst e; exact hd_snoc (h.ne i hi)
      · rfl
    refine ⟨fun j hj => ?_, fun j hj x hx => ?_, fun j k hj hk hne => ?_⟩
    · rw [getD_setL hi]
      split
      · simp
      · exact h.ne j (by simpa using hj)
    · have hj' : j < T.length := by simpa using hj
      rw [hh j hj']
      rw [getD_setL hi] at hx
      split at hx
      · rename_i e
        subst e
        rcases List.mem_append.1 hx with q | q
        · exact h.mem i hi x q
        · rw [List.mem_singleton] at q
          subst q
          exact ⟨hm, he⟩
      · exact h.mem j hj' x hx
    · rw [hh j (by simpa using hj), hh k (by simpa using hk)]
      exact h.ap j k (by simpa using hj) (by simpa using hk) hne
  · rw [clsIn_new hno]
    have hh : ∀ j, j < (T ++ [[m]]).length → (j < T.length ∧ (T ++ [[m]]).getD j [] = T.getD j []) ∨ (j = T.length ∧ (T ++ [[m]]).getD j [] = [m]) := fun j hj => by
      rw [List.length_append, List.length_singleton] at hj
      rw [getD_snoc]
      by_cases e : j < T.length
      · rw [if_pos e]; exact .inl ⟨e, rfl⟩
      · rw [if_neg e, if_pos (by omega)]; exact .inr ⟨by omega, rfl⟩
    refine ⟨fun j hj => ?_, fun j hj x hx => ?_, fun j k hj hk hne => ?_⟩
    · rcases hh j hj with ⟨e, q⟩ | ⟨e, q⟩
      · rw [q]; exact h.ne j e
      · rw [q]; simp
    · rcases hh j hj with ⟨e, q⟩ | ⟨e, q⟩
      · rw [q] at hx ⊢; exact h.mem j e x hx
      · rw [q] at hx ⊢
        rw [List.mem_singleton] at hx
        subst hx
        exact ⟨hm, hE.refl _ hm⟩
    · rcases hh j hj with ⟨e, q⟩ | ⟨e, q⟩ <;> rcases hh k hk with ⟨e', q'⟩ | ⟨e', q'⟩
      · rw [q, q']; exact h.ap j k e e' hne
      · rw [q, q']
        refine Bool.eq_false_iff.2 fun z => ?_
        have := hE.symm _ _ z
        rw [show GL.hd [m] = m from rfl, hno j e] at this
        cases this
      · rw [q, q']; exact hno k e'
      · omega
theorem clsOf_ok {P : Int → Prop} {E : Int → Int → Bool} (hE : EqvOn P E) {ms : List Int} (h : ∀ m ∈ ms, P m) : ClsOk P E (clsOf E ms) := by
  have key : ∀ (ms : List Int) (T : List (List Int)), ClsOk P E T → (∀ m ∈ ms, P m) → ClsOk P E (ms.foldl (clsIn E) T) := by
    intro ms
    induction ms with
    | nil => intro T h _; exact h
    | cons a t ih => intro T h hm; exact ih _ (h.step hE (hm a (by simp))) fun m hm' => hm m (by simp [hm'])
  exact key ms [] (.nil _ _) h
def totN (T : List (List Int)) (k : Nat) : Nat := ((T.take k).map List.length).sum
theorem totN_succ {T : List (List Int)} {k : Nat} (h : k < T.length) : totN T (k + 1) = totN T k + (T.getD k []).length := by
  unfold totN
  rw [List.take_add_one, List.getElem?_eq_getElem h, List.map_append, List.sum_append, List.getD_eq_getElem?_getD, List.getElem?_eq_getElem h]
  simp
theorem totN_mono {T : List (List Int)} {k : Nat} (h : k ≤ T.length) : totN T k ≤ totN T T.length := by
  obtain ⟨d, hd⟩ : ∃ d, T.length = k + d := ⟨T.length - k, by omega⟩
  have : ∀ d, k + d ≤ T.length → totN T k ≤ totN T (k + d) := by
    intro d
    induction d with
    | zero => intro _; exact Nat.le_refl _
    | succ d ih => intro hq; have := ih (by omega); rw [← Nat.add_assoc, totN_succ (by omega)]; omega
  rw [hd]
  exact this d (by omega)
theorem totN_row {T : List (List Int)} {i : Nat} (h : i < T.length) : (T.getD i []).length ≤ totN T T.length := by
  have := totN_mono (T := T) (k := i + 1) h
  rw [totN_succ h] at this
  omega
theorem sum_set {l : List Nat} : ∀ {i : Nat} {v : Nat}, i < l.length → (l.set i (l.getD i 0 + v)).sum = l.sum + v := by
  induction l with
  | nil => intro i v h; simp at h
  | cons a t ih =>
    intro i v h
    cases i with
    | zero => simp; omega
    | succ i =>
      have := ih (i := i) (v := v) (by simpa using h)
      simp only [List.set_cons_succ, List.sum_cons, List.getD_cons_succ]
      rw [this]; omega
theorem totN_all (T : List (List Int)) : totN T T.length = (T.map List.length).sum := by unfold totN; rw [List.take_length]
theorem totN_in {P : Int → Prop} {E : Int → Int → Bool} {T : List (List Int)} (hE : EqvOn P E) (h : ClsOk P E T) {m : Int} (hm : P m) : totN (clsIn E T m) (clsIn E T m).length = totN T T.length + 1 := by
  rw [totN_all, totN_all]
  rcases clsIn_cases E T m with ⟨i, hi, he⟩ | hno
  · rw [clsIn_set hE h hm hi he, List.map_set]
    have := sum_set (l := T.map List.length) (i := i) (v := 1) (by simpa using hi)
    rw [← this]
    congr 1
    congr 1
    rw [List.length_append, List.length_singleton, List.getD_eq_getElem?_getD, List.getD_eq_getElem?_getD, List.getElem?_map, List.getElem?_eq_getElem hi]
    rfl
  · rw [clsIn_new hno]; simp
theorem clsOf_tot {P : Int → Prop} {E : Int → Int → Bool} (hE : EqvOn P E) {ms : List Int} (h : ∀ m ∈ ms, P m) : totN (clsOf E ms) (clsOf E ms).length = ms.length := by
  have key : ∀ (ms : List Int) (T : List (List Int)), ClsOk P E T → (∀ m ∈ ms, P m) → totN (ms.foldl (clsIn E) T) (ms.foldl (clsIn E) T).length = totN T T.length + ms.length := by
    intro ms
    induction ms with
    | nil => intro T h _; rfl
    | cons a t ih =>
      intro T h hm
      have := ih (clsIn E T a) (h.step hE (hm a (by simp))) fun m hm' => hm m (by simp [hm'])
      rw [List.foldl_cons, this, totN_in hE h (hm a (by simp)), List.length_cons]
      omega
  have := key ms [] (.nil _ _) h
  simpa [clsOf, totN] using this
theorem ClsOk.len {P : Int → Prop} {E : Int → Int → Bool} {T : List (List Int)} (h : ClsOk P E T) : T.length ≤ totN T T.length := by
  have : ∀ k, k ≤ T.length → k ≤ totN T k := by
    intro k
    induction k with
    | zero => intro _; exact Nat.zero_le _
    | succ k ih => intro hk; have := ih (by omega); have := h.ne k hk; rw [totN_succ hk]; omega
  exact this _ (Nat.le_refl _)
theorem Cat.mem_lif {c : Cat} {f k g : Int} : g ∈ c.lif f k ↔ ∃ j : Nat, j < c.src.length ∧ c.src.getD j 0 = c.S f ∧ c.tgt.getD j 0 = c.S k ∧ c.th j k = f ∧ g = j := by
  unfold Cat.lif
  rw [List.mem_filter, Cat.mem_hom]
  simp only [sps]
  exact ⟨fun ⟨⟨j, h1, h2, h3, h4⟩, h5⟩ => ⟨j, h1, h2, h3, by rw [← h4]; exact h5, h4⟩, fun ⟨j, h1, h2, h3, h4, h5⟩ => ⟨⟨j, h1, h2, h3, h5⟩, by rw [h5]; exact h4⟩⟩
def Cat.belB (c : Cat) (m k : Int) : Bool := decide (0 < (c.lif m k).length)
def Cat.eqvB (c : Cat) (m k : Int) : Bool := c.belB m k && c.belB k m
theorem Cat.belB_iff {c : Cat} {m k : Int} : c.belB m k = true ↔ ∃ j : Nat, j < c.src.length ∧ c.src.getD j 0 = c.S m ∧ c.tgt.getD j 0 = c.S k ∧ c.th j k = m := by
  unfold Cat.belB
  rw [decide_eq_true_iff, List.length_pos_iff_exists_mem]
  exact ⟨fun ⟨g, hg⟩ => by obtain ⟨j, h1, h2, h3, h4, h5⟩ := Cat.mem_lif.1 hg; exact ⟨j, h1, h2, h3, h4⟩, fun ⟨j, h1, h2, h3, h4⟩ => ⟨j, Cat.mem_lif.2 ⟨j, h1, h2, h3, h4, rfl⟩⟩⟩
structure Cat.ToX (c : Cat) (x m : Int) : Prop where
  ge : 0 ≤ m
  lt : m < c.src.length
  tg : c.T m = x
  mono : c.Mono m
theorem Cat.belB_refl {c : Cat} (hI : c.Is) {m : Int} (h0 : 0 ≤ m) (h1 : m < c.src.length) : c.belB m m = true := by
  obtain ⟨M, rfl⟩ : ∃ M : Nat, m = (M : Int) := ⟨m.toNat, by omega⟩
  have hM : M < c.src.length := by omega
  have s1 := hI.1.src M hM
  have i1 := hI.1.idn_lt s1.1 s1.2
  have q := hI.1.ids (c.src.getD M 0).toNat (by have := hI.1.il; omega)
  have e := (hI.2.ids M hM).1
  refine Cat.belB_iff.2 ⟨(c.idn.getD (c.src.getD M 0).toNat 0).toNat, by omega, ?_, ?_, ?_⟩
  · rw [q.1, Int.toNat_of_nonneg s1.1]; rfl
  · rw [q.2, Int.toNat_of_nonneg s1.1]; rfl
  · rw [Int.toNat_of_nonneg i1.1]; exact e
theorem Cat.belB_trans {c : Cat} (hI : c.Is) {a b d : Int} (hb : 0 ≤ b ∧ b < c.src.length) (hd : 0 ≤ d ∧ d < c.src.length) (h1 : c.belB a b = true) (h2 : c.belB b d = true) : c.belB a d = true := by
  obtain ⟨j, j1, j2, j3, j4⟩ := Cat.belB_iff.1 h1
  obtain ⟨k, k1, k2, k3, k4⟩ := Cat.belB_iff.1 h2
  obtain ⟨D, rfl⟩ : ∃ D : Nat, d = (D : Int) := ⟨d.toNat, by omega⟩
  obtain ⟨p1, p2, p3, p4⟩ := hI.1.tn j1 k1 (by rw [j3, k2])
  have a1 : c.th (j : Int) k = (c.tn j k : Int) := by rw [Cat.th_nat]; exact p4
  refine Cat.belB_iff.2 ⟨c.tn j k, p1, by rw [p2, j2], by rw [p3, k3], ?_⟩
  rw [← a1, hI.2.as j j1 k k1 (by rw [j3, k2]) D (by omega) (by rw [k3]; rfl), k4, j4]
theorem Cat.eqv_on {c : Cat} (hI : c.Is) (x : Int) : EqvOn (c.ToX x) c.eqvB where
  refl m h := by unfold Cat.eqvB; rw [Cat.belB_refl hI h.ge h.lt]; rfl
  symm a b h := by unfold Cat.eqvB at h ⊢; rw [Bool.and_comm]; exact h
  trans a b d ha hb hd h1 h2 := by
    unfold Cat.eqvB at h1 h2 ⊢
    rw [Bool.and_eq_true] at h1 h2 ⊢
    exact ⟨Cat.belB_trans hI ⟨hb.ge, hb.lt⟩ ⟨hd.ge, hd.lt⟩ h1.1 h2.1, Cat.belB_trans hI ⟨hb.ge, hb.lt⟩ ⟨ha.ge, ha.lt⟩ h2.2 h1.2⟩
def Cat.intoL (c : Cat) (x : Int) : List Int := filtN c.src.length fun f => decide (c.tgt.getD f 0 = x)
noncomputable def Cat.toL (c : Cat) (x : Int) (n : Nat) : List Int := filtN n fun m => decide (c.tgt.getD m 0 = x) && B (c.Mono m)
theorem Cat.toL_mem {c : Cat} {x : Int} {n : Nat} (hn : n ≤ c.src.length) {m : Int} (h : m ∈ c.toL x n) : c.ToX x m := by
  obtain ⟨i, h1, h2, rfl⟩ := mem_filtN.1 h
  simp only [sps] at h2
  exact ⟨by omega, by omega, h2.1, h2.2⟩
noncomputable def Cat.subs (c : Cat) (x : Int) : List (List Int) := clsOf c.eqvB (c.toL x c.src.length)
theorem Cat.subs_ok {c : Cat} (hI : c.Is) (x : Int) : ClsOk (c.ToX x) c.eqvB (c.subs x) := clsOf_ok (c.eqv_on hI x) fun _ h => Cat.toL_mem (Nat.le_refl _) h
theorem Cat.subs_tot {c : Cat} (hI : c.Is) (x : Int) : totN (c.subs x) (c.subs x).length = (c.toL x c.src.length).length := clsOf_tot (c.eqv_on hI x) fun _ h => Cat.toL_mem (Nat.le_refl _) h
def NewLLC (k : Int) (xs : List (List Int)) (H : GHeap) (v : Value) (H' : GHeap) : Prop := H.Le H' ∧ ∃ a r, v = .tuple #[.slice a xs.length xs.length, .int .i64 k] ∧ IntssR H.next H' a xs r
noncomputable def codeLL (k : Int) (xs : List (List Int)) : List (List Int) := if k = 0 then xs else []
theorem codeLL_ok {k : Int} {xs : List (List Int)} (h : k = 0) : codeLL k xs = xs := by unfold codeLL; rw [if_pos h]
theorem codeLL_err {k : Int} {xs : List (List Int)} (h : k ≠ 0) : codeLL k xs = [] := by unfold codeLL; rw [if_neg h]
noncomputable def Cat.codeO (c : Cat) (xs : List Int) : Int := if B c.Is = true then (if allIn xs c.obj = true then 0 else 2) else 1
theorem Cat.codeO_ok {c : Cat} {xs : List Int} : c.codeO xs = 0 ↔ c.Is ∧ allIn xs c.obj = true := by
  unfold Cat.codeO
  by_cases h : c.Is
  · rw [if_pos (B_iff.2 h)]
    split
    · exact ⟨fun _ => ⟨h, by assumption⟩, fun _ => rfl⟩
    · exact ⟨fun e => by omega, fun e => absurd e.2 (by assumption)⟩
  · rw [if_neg (fun e => h (B_iff.1 e))]
    exact ⟨fun e => by omega, fun e => absurd e.1 h⟩
theorem Cat.codeO_not {c : Cat} {xs : List Int} (h : ¬ c.Is) : c.codeO xs = 1 := by
  unfold Cat.codeO
  rw [if_neg (fun e => h (B_iff.1 e))]
theorem Cat.codeO_out {c : Cat} {xs : List Int} (h : c.Is) (h' : ¬ allIn xs c.obj = true) : c.codeO xs = 2 := by
  unfold Cat.codeO
  rw [if_pos (B_iff.2 h), if_neg h']
theorem Cat.codeO_one {c : Cat} {x : Int} : c.codeO [x] = 0 ↔ c.Is ∧ 0 ≤ x ∧ x < c.obj := by rw [Cat.codeO_ok, allIn_one]
end Go.GL
namespace Go.Proofs.Ytolfggcanbpknaa
open Go Go.GL Go.RowKit Go.Proofs
theorem objectCode_c {g o : Nat} {c : Cat} {p : CatP} {a : Option Addr} {xs : List Int} {H : GHeap} (h : Cat.At H g o c p := by assumption) (hs : c.Small := by assumption) (hx : Ints H a xs := by assumption) (hl : xs.length ≤ 1048576 := by omega) :
    GCalls Try.prog 70 [.pointer (some ⟨g, o, none⟩), .slice a xs.length xs.length] H (Ret (.int .i64 (c.codeO xs)) H) := by
  refine GCalls.ret rfl ?_
  obtain ⟨-, -, -, -, -, n6⟩ := id hs
  refine GCalls.body (N := 15) (rs := [.tmp 4]) Try.func70 rfl rfl rfl rfl (fun Qx hret hend => ?_)
  refine .fg [0, 1] rfl ?_
  have hle := GHeap.Le.refl H
  have base_h := h
  obtain ⟨c0, -, -, -, -, -, -, -, -⟩ := h.get
  refine .seq (fun K1 hK1 => .region (.mv rfl (.nil (hK1 _ _ (.seq (fun K2 hK2 => .seq (fun K3 hK3 => .region (.mv rfl ?_))))))))
  refine .callQ rfl rfl rfl rfl @Try.call61 rfl (isCategory_c) ?_
  refine .q rfl (.not rfl) (.nil (hK3 _ _ ?_))
  refine .cond rfl (fun h7 => ?_) (fun h7 => ?_)
  ·
   try simp only [sps] at h7
   refine .seq (fun K4 hK4 => .region (.mv rfl (.nil (hK4 _ _ ?_))))
   refine .ret ?_
   refine hret _ _ ?_
   refine ⟨_, rfl, ?_⟩
   exact ⟨congrArg _ (Cat.codeO_not h7), hle⟩
  simp only [sps] at h7
  have hob := h7.1.obj
  refine .skip ?_
  refine hK2 _ _ (.seq (fun K5 hK5 => .seq (fun K6 hK6 => .region (.mv rfl (.mv rfl (.q rfl (.nilCheck rfl) (.q rfl (.fieldAddr fo_27_0_B rfl) ?_)))))))
  refine .q rfl (.load on_2_A rfl (by assumption)) ?_
  refine .callQ rfl rfl rfl rfl @Try.call86 rfl (within_c) ?_
  refine .q rfl (.not rfl) (.nil (hK6 _ _ ?_))
  refine .cond rfl (fun h14 => ?_) (fun h14 => ?_)
  ·
   try simp only [sps] at h14
   refine .seq (fun K7 hK7 => .region (.mv rfl (.nil (hK7 _ _ ?_))))
   refine .ret ?_
   refine hret _ _ ?_
   refine ⟨_, rfl, ?_⟩
   exact ⟨congrArg _ (Cat.codeO_out h7 (by rw [h14]; simp)), hle⟩
  try simp only [sps] at h14
  refine .skip ?_
  refine hK5 _ _ (.seq (fun K8 hK8 => .region (.mv rfl (.nil (hK8 _ _ ?_)))))
  refine .ret ?_
  refine hret _ _ ?_
  refine ⟨_, rfl, ?_⟩
  exact ⟨congrArg _ (Cat.codeO_ok.2 ⟨h7, allIn_iff.2 h14⟩), hle⟩
theorem into_c {g o : Nat} {c : Cat} {p : CatP} {x : Int} {H : GHeap} (h : Cat.At H g o c p := by assumption) (hS : c.Shape := by assumption) :
    GCalls Try.prog 71 [.pointer (some ⟨g, o, none⟩), .int .i64 x] H (NewInts 2 H (c.intoL x)) := by
  refine GCalls.body (N := 28) (rs := [.tmp 4]) Try.func71 rfl rfl rfl rfl (fun Qx hret hend => ?_)
  refine .fg [0, 1] rfl ?_
  have hle := GHeap.Le.refl H
  have base_h := h
  have q1 := hS.tl
  have q2 := hS.n40
  refine .seq (fun K1 hK1 => .region (.mv rfl (.nil (hK1 _ _ (.seq (fun K2 hK2 => .region ?_))))))
  refine .R rfl (.litA rfl sl_24_A ze_2_L rfl rfl rfl rfl) ?_
  rintro _ H8 ⟨g8, rfl, le8, ge8, at8⟩
  replace hle := hle.trans le8
  have lt_at8 := GHeap.ltg at8
  replace h := base_h.mono hle
  obtain ⟨-, -, c2, -, -, -, -, -, -⟩ := h.get
  replace at8 : GHeap.get H8 g8 = some (.row (ints []) 2 true) := at8
  refine .mv rfl (.nil (hK2 _ _ (.seq (fun K3 hK3 => .seq (fun K4 hK4 => .region (.mv rfl (.q rfl (.nilCheck rfl) (.q rfl (.fieldAddr fo_27_2_B rfl) ?_))))))))
  refine .q rfl (.load on_24_B rfl (by assumption)) ?_
  refine .q rfl (.len sl_24_A rfl) (.mv rfl (.nil (hK4 _ _ ?_)))
  refine .block ?_
  refine .loopR (σ := Nat × Nat × Nat) [(1, some _), (12, some _), (13, some _)] (fun (k, gL5, nL5) => [(14, some (.int .i64 (k : Int))), (5, some (.slice (some ⟨gL5, 0, none⟩) nL5 nL5))]) (fun (k, gL5, nL5) H' => St [g8] H8 H' ∧ H'.get gL5 = some (.row (ints (filtN k (fun f => decide (c.tgt.getD f 0 = x)))) 2 true) ∧ (gL5 = g8 ∨ H8.next ≤ gL5) ∧ nL5 = (filtN k (fun f => decide (c.tgt.getD f 0 = x))).length ∧ k ≤ c.tgt.length) (fun (k, gL5, nL5) => c.tgt.length - k) ((0, _, _)) ⟨rfl, rfl, rfl, trivial⟩ ⟨rfl, rfl, trivial⟩ ?_ ?_
  ·
   refine ⟨.refl _ _, by assumption, .inl rfl, by rfl, ?_⟩
   omega
  rintro ⟨k, gL5, nL5⟩ HL1 ⟨lst1, at_L5, pl_L5, ln_L5, hI⟩ KL1 hKL1
  refine .forget (fr' := [(14, some (.int .i64 (k : Int))), (5, some (.slice (some ⟨gL5, 0, none⟩) nL5 nL5)), (1, some _), (12, some _), (13, some _)]) ⟨rfl, rfl, rfl, rfl, rfl, trivial⟩ ?_
  have ge_L5 : H.next ≤ gL5 := by omega
  have nx_HL1 := lst1.nx
  replace hle := hle.st lst1 (fun k hk => ⟨by omega, trivial⟩)
  replace h := base_h.mono hle
  clear c2
  obtain ⟨-, -, -, -, -, -, i2, -, -⟩ := h.get
  have hfl := filtN_le k (fun f => decide (c.tgt.getD f 0 = x))
  refine .seq (fun K5 hK5 => .region (.q rfl (.cmp rfl rfl rfl) (.nil (hK5 _ _ (.seq (fun K6 hK6 => ?_))))))
  refine .cond rfl (fun h15 => ?_) (fun h15 => ?_)
  ·
   simp only [sps] at h15
   refine .skip ?_
   refine hK6 _ _ (.seq (fun K7 hK7 => ?_))
   refine .block ?_
   refine .seq (fun K8 hK8 => .region (.mv rfl ?_))
   refine .q rfl (.idxN sl_24_A (by assumption) rfl rfl (by omega)) ?_
   refine .q rfl (.loadI on_2_A (by assumption) rfl (by omega)) ?_
   refine .mv rfl (.mv rfl (.nil (hK8 _ _ (.seq (fun K9 hK9 => .region (.mv rfl (.mv rfl (.q rfl (.cmp rfl rfl rfl) (.nil (hK9 _ _ ?_))))))))))
   refine .cond rfl (fun h21 => ?_) (fun h21 => ?_)
   ·
    try simp only [sps] at h21
    refine .region (.mv rfl (.mv rfl ?_))
    refine .R rfl (.litA rfl sl_24_A ze_2_L rfl rfl rfl rfl) ?_
    rintro _ H24 ⟨g24, rfl, le24, ge24, at24⟩
    replace hle := hle.trans le24
    replace lst1 := lst1.le le24
    replace at_L5 := le24.2 _ _ at_L5
    have lt_at24 := GHeap.ltg at24
    replace h := base_h.mono hle
    clear i2
    refine .R rfl (.appendI rfl sl_24_A ze_2_L rfl by_2_L sl_24_A rfl rfl (by assumption) (by assumption) (by first | omega | (simp <;> omega)) (by omega) (by omega)) ?_
    rintro _ H25 ⟨g25, rfl, st25, ge25, at25⟩
    replace hle := hle.st st25 (fun k hk => ⟨by omega, trivial⟩)
    replace lst1 := lst1.sA st25
    replace h := base_h.mono hle
    refine .mv rfl (.nil (hK7 _ _ (.region ?_)))
    refine .q rfl (.add rfl rfl rfl (by omega) (by omega)) ?_
    refine .mv rfl (.nil ?_)
    refine hKL1 ((k + 1, _, _)) _ _ ?_ ?_ ⟨rfl, rfl, rfl, rfl, rfl, trivial⟩
    ·
     refine ⟨lst1, by (rw [filtN_T (decide_eq_true (by assumption))]; assumption), by omega, by (rw [filtN_T (decide_eq_true (by assumption))] <;> (first | omega | (simp only [List.length_append, List.length_cons, List.length_nil] <;> omega))), ?_⟩
     omega
    (dsimp only; omega)
   try simp only [sps] at h21
   refine .skip ?_
   refine hK7 _ _ (.region ?_)
   refine .q rfl (.add rfl rfl rfl (by omega) (by omega)) ?_
   refine .mv rfl (.nil ?_)
   refine hKL1 ((k + 1, _, _)) _ _ ?_ ?_ ⟨rfl, rfl, rfl, rfl, rfl, trivial⟩
   ·
    refine ⟨lst1, by (rw [filtN_F (decide_eq_false (by assumption))]; assumption), by omega, by (rw [filtN_F (decide_eq_false (by assumption))] <;> (first | omega | (simp only [List.length_append, List.length_cons, List.length_nil] <;> omega))), ?_⟩
    omega
   (dsimp only; omega)
  try simp only [sps] at h15
  refine .exit ?_
  refine hK3 _ _ (.seq (fun K10 hK10 => .region (.mv rfl (.mv rfl (.nil (hK10 _ _ ?_))))))
  refine .ret ?_
  refine hret _ _ ?_
  refine ⟨_, rfl, ?_⟩
  obtain rfl : k = c.tgt.length := by omega
  exact ⟨hle, gL5, by rw [ln_L5]; unfold Cat.intoL; rw [q1], by unfold Cat.intoL; rw [← q1]; exact at_L5, by omega⟩
theorem subobjects1_c {g o : Nat} {c : Cat} {p : CatP} {m k : Int} {H : GHeap} (h : Cat.At H g o c p := by assumption) (hS : c.Shape := by assumption) (h0 : 0 ≤ m := by omega) (h1 : m < c.src.length := by omega) (h2 : 0 ≤ k := by omega) (h3 : k < c.src.length := by omega) :
    GCalls Try.prog 73 [.int .i64 m, .int .i64 k, .pointer (some ⟨g, o, none⟩)] H (Ret (.bool (c.belB m k)) H) := by
  refine GCalls.ret rfl ?_
  refine GCalls.body (N := 11) (rs := [.tmp 5]) Try.func73 rfl rfl rfl rfl (fun Qx hret hend => ?_)
  refine .fg [0, 1, 2] rfl ?_
  have hle := GHeap.Le.refl H
  have base_h := h
  refine .seq (fun K1 hK1 => .region (.mv rfl (.nil (hK1 _ _ (.seq (fun K2 hK2 => .region (.mv rfl (.mv rfl ?_))))))))
  refine .call rfl rfl rfl rfl @Try.call74 rfl (lifts_c) ?_
  rintro _ H8 ⟨le8, g8, rfl, at8, ge8⟩
  replace hle := hle.trans le8
  refine .q rfl (.len sl_24_A rfl) (.q rfl (.cmp rfl rfl rfl) (.mv rfl (.nil (hK2 _ _ ?_))))
  refine .ret ?_
  refine hret _ _ ?_
  refine ⟨_, rfl, ?_⟩
  exact ⟨congrArg _ (by unfold Cat.belB; rw [Bool.eq_iff_iff]; simp only [sps]; omega), hle⟩
set_option maxHeartbeats 4000000 in
theorem classesOf_c {fn : Nat} {a : Option Addr} {ms : List Int} {cap : Array Value} {P : Int → Prop} {bel : Int → Int → Bool} {H : GHeap} (h : Ints H a ms := by assumption) (hl : ms.length ≤ 1048576 := by omega) (hP : ∀ m ∈ ms, P m) (hE : EqvOn P fun m k => bel m k && bel k m)
    (hcall : ∀ (xs : Array Value) (w : World), (callFunc fn xs).run Try.prog w = .ok (.enter fn xs) w)
    (hq : ∀ H', H.Le H' → ∀ x y, P x → P y → GCalls Try.prog fn ([.int .i64 x, .int .i64 y] ++ cap.toList) H' (Ret (.bool (bel x y)) H')) :
    GCalls Try.prog 72 [.slice a ms.length ms.length, .func (.func fn) #[] cap] H (NewIntssR H (clsOf (fun m k => bel m k && bel k m) ms)) := by
  obtain ⟨E, hEe⟩ : ∃ E : Int → Int → Bool, E = fun m k => bel m k && bel k m := ⟨_, rfl⟩
  rw [← hEe] at hE ⊢
  have hEv : ∀ m k, E m k = (bel m k && bel k m) := fun m k => by rw [hEe]
  refine GCalls.body (N := 53) (rs := [.tmp 4]) Try.func72 rfl rfl rfl rfl (fun Qx hret hend => ?_)
  refine .fg [0, 1] rfl ?_
  have hle := GHeap.Le.refl H
  have base_h := h
  refine .seq (fun K1 hK1 => .region (.mv rfl (.nil (hK1 _ _ ?_))))
  refine .scope ?_
  refine .seq (fun K2 hK2 => .region ?_)
  refine .R rfl (.litA rfl sl_25_B ze_24_Hj rfl rfl rfl rfl) ?_
  rintro _ H10 ⟨g10, rfl, le10, ge10, at10⟩
  have nx_H10 := le10.1
  replace hle := hle.trans le10
  have lt_at10 := GHeap.ltg at10
  replace h := base_h.mono hle
  refine .mv rfl (.nil (hK2 _ _ (.seq (fun K3 hK3 => ?_))))
  refine .label ?_
  refine hK3 _ _ (.seq (fun K4 hK4 => .seq (fun K5 hK5 => .region (.mv rfl (.q rfl (.len sl_24_A rfl) (.mv rfl (.nil (hK5 _ _ ?_))))))))
  refine .block ?_
  refine .loopR (σ := Nat × (Nat → Option Addr) × Nat × Nat) [(1, some _), (11, some _), (12, some _)] (fun (i, rr, gL5, nL5) => [(13, some (.int .i64 (i : Int))), (5, some (.slice (some ⟨gL5, 0, none⟩) nL5 nL5))]) (fun (i, rr, gL5, nL5) H' => St [g10] H10 H' ∧ H'.get gL5 = some (.row ((slsL rr (clsOf E (ms.take i)))) 24 true) ∧ (gL5 = g10 ∨ H10.next ≤ gL5) ∧ nL5 = (slsL rr (clsOf E (ms.take i))).length ∧ i ≤ ms.length ∧ OwnL H10.next H' 2 rr (clsOf E (ms.take i))) (fun (i, rr, gL5, nL5) => ms.length - i) ((0, fun _ => none, _, _)) ⟨rfl, rfl, rfl, trivial⟩ ⟨rfl, rfl, trivial⟩ ?_ ?_
  ·
   refine ⟨.refl _ _, by assumption, .inl rfl, by rfl, ?_⟩
   exact ⟨by omega, .nil _ _ _ _⟩
  rintro ⟨i, rr, gL5, nL5⟩ HL1 ⟨lst1, at_L5, pl_L5, ln_L5, hI⟩ KL1 hKL1
  refine .forget (fr' := [(13, some (.int .i64 (i : Int))), (5, some (.slice (some ⟨gL5, 0, none⟩) nL5 nL5)), (1, some _), (11, some _), (12, some _)]) ⟨rfl, rfl, rfl, rfl, rfl, trivial⟩ ?_
  have ge_L5 : H.next ≤ gL5 := by omega
  have nx_HL1 := lst1.nx
  replace hle := hle.st lst1 (fun k hk => ⟨by omega, trivial⟩)
  have lt_at_L5 := GHeap.ltg at_L5
  replace h := base_h.mono hle
  have rk := St.refl [gL5] HL1
  obtain ⟨hi, hR⟩ := hI
  have hat5 := at_L5
  have hfl : (slsL rr (clsOf E (ms.take i))).length = (clsOf E (ms.take i)).length := length_slsL _ _
  have hok := clsOf_ok hE (ms := ms.take i) (fun m hm => hP m (List.mem_of_mem_take hm))
  have htl := hok.len
  have htt := clsOf_tot hE (ms := ms.take i) (fun m hm => hP m (List.mem_of_mem_take hm))
  have htk : (ms.take i).length ≤ ms.length := by rw [List.length_take]; omega
  refine .seq (fun K6 hK6 => .region (.q rfl (.cmp rfl rfl rfl) (.nil (hK6 _ _ (.seq (fun K7 hK7 => ?_))))))
  refine .cond rfl (fun h14 => ?_) (fun h14 => ?_)
  ·
   simp only [sps] at h14
   have hm := hP _ (getD_mem (xs := ms) (i := i) (by omega))
   have hct := clsOf_take (E := E) (ms := ms) (i := i) (by omega)
   refine .skip ?_
   refine hK7 _ _ (.seq (fun K8 hK8 => ?_))
   refine .block ?_
   refine .seq (fun K9 hK9 => .region ?_)
   refine .q rfl (.idxN sl_24_A (by assumption) rfl rfl (by omega)) ?_
   refine .q rfl (.loadI on_2_A (by assumption) rfl (by omega)) ?_
   refine .mv rfl (.nil (hK9 _ _ (.seq (fun K10 hK10 => .seq (fun K11 hK11 => .region (.mv rfl (.q rfl (.len sl_25_B rfl) (.mv rfl (.nil (hK11 _ _ ?_))))))))))
   refine .block ?_
   refine .loopR (σ := Nat) [(1, some _), (5, some _), (7, some _), (11, some _), (12, some _), (13, some _), (17, some _), (18, some _)] (fun j => [(19, some (.int .i64 (j : Int)))]) (fun j H' => St [] HL1 H' ∧ j ≤ (clsOf E (ms.take i)).length ∧ ∀ a, a < j → E (ms.getD i 0) (hd ((clsOf E (ms.take i)).getD a [])) = false) (fun j => (clsOf E (ms.take i)).length - j) (0) ⟨rfl, rfl, rfl, rfl, rfl, rfl, rfl, rfl, trivial⟩ ⟨rfl, trivial⟩ ?_ ?_
   ·
    refine ⟨.refl _ _, ?_⟩
    exact ⟨by omega, fun a h => by omega⟩
   rintro j HL2 ⟨lst2, hI⟩ KL2 hKL2
   refine .forget (fr' := [(19, some (.int .i64 (j : Int))), (1, some _), (5, some _), (7, some _), (11, some _), (12, some _), (13, some _), (17, some _), (18, some _)]) ⟨rfl, rfl, rfl, rfl, rfl, rfl, rfl, rfl, rfl, trivial⟩ ?_
   have nx_HL2 := lst2.nx
   replace hle := hle.st lst2 (fun k hk => trivial)
   replace lst1 := lst1.sA lst2
   replace rk := rk.sA lst2
   replace at_L5 := lst2.same _ _ trivial at_L5
   replace h := base_h.mono hle
   obtain ⟨hj, hno⟩ := hI
   have hR2 := hR.st lst2 (.nil _ _)
   refine .seq (fun K12 hK12 => .region (.q rfl (.cmp rfl rfl rfl) (.nil (hK12 _ _ (.seq (fun K13 hK13 => ?_))))))
   refine .cond rfl (fun h20 => ?_) (fun h20 => ?_)
   ·
    simp only [sps] at h20
    obtain ⟨gi, hgi, hbi, hati⟩ := hR2.row j (by omega)
    have m3 := row_ne at_L5 hati rfl
    have cC := slsL_cell at_L5 (i := j) (by omega)
    rw [hgi] at cC
    have hne := hok.ne j (by omega)
    have hrw := totN_row (T := clsOf E (ms.take i)) (i := j) (by omega)
    refine .skip ?_
    refine hK13 _ _ (.seq (fun K14 hK14 => ?_))
    refine .block ?_
    refine .seq (fun K15 hK15 => .region (.mv rfl ?_))
    refine .q rfl (.idxN sl_25_B (by first | exact (Intss.sl (by assumption)) | exact SlA.of_row at_L5 (by first | rfl | (simp; done) | (simp <;> omega))) rfl rfl (by omega)) ?_
    refine .q rfl (.load on_24_B rfl cC) ?_
    have lt_hati := GHeap.ltg hati
    refine .mv rfl (.mv rfl (.nil (hK15 _ _ (.seq (fun K16 hK16 => .region (.mv rfl (.mv rfl (.mv rfl ?_))))))))
    refine .q rfl (.idxN (j := 0) sl_24_A (by first | assumption | exact SlA.of_row hati (by first | rfl | (simp; done) | (simp <;> omega))) rfl rfl (by omega)) ?_
    refine .q rfl (.loadI on_2_A (by first | assumption | exact Ints.of_get hati) rfl (by omega)) ?_
    refine .callV rfl rfl rfl rfl rfl hcall rfl ((hq _ hle _ _ hm (hok.hd (by omega)))) ?_
    rintro _ _ ⟨rfl, rfl⟩
    refine .mv rfl ?_
    refine .split (fun h30 => ?_) (fun h30 => ?_)
    ·
     try simp only [sps] at h30
     refine .qg rfl (.move rfl) (.qg rfl (.move rfl) ?_)
     refine .qg rfl (.idxN (j := 0) sl_24_A (by first | assumption | exact SlA.of_row hati (by first | rfl | (simp; done) | (simp <;> omega))) rfl rfl (by omega)) ?_
     refine .qg rfl (.loadI on_2_A (by first | assumption | exact Ints.of_get hati) rfl (by omega)) ?_
     refine .qg rfl (.move rfl) ?_
     refine .callVg rfl rfl rfl rfl rfl rfl rfl hcall rfl ((hq _ hle _ _ (hok.hd (by omega)) hm)) ?_
     rintro _ _ ⟨rfl, rfl⟩
     refine .q rfl (.pickT rfl rfl) (.nil (hK16 _ _ ?_))
     refine .cond rfl (fun h37 => ?_) (fun h37 => ?_)
     ·
      try simp only [sps] at h37
      refine .seq (fun K17 hK17 => .region ?_)
      have he : E (ms.getD i 0) (hd ((clsOf E (ms.take i)).getD j [])) = true := by
        rw [hEv, h30, h37]; rfl
      have hT := hct.trans (clsIn_set hE hok hm (by omega) he)
      refine .mv rfl (.mv rfl (.mv rfl (.mv rfl ?_)))
      refine .R rfl (.litA rfl sl_24_A ze_2_L rfl rfl rfl rfl) ?_
      rintro _ H42 ⟨g42, rfl, le42, ge42, at42⟩
      have nx_H42 := le42.1
      replace hle := hle.trans le42
      replace lst1 := lst1.le le42
      replace rk := rk.le le42
      replace lst2 := lst2.le le42
      replace at_L5 := le42.2 _ _ at_L5
      replace hati := le42.2 _ _ hati
      have lt_at42 := GHeap.ltg at42
      replace h := base_h.mono hle
      have hR3 := hR.st lst2 (.nil _ _)
      refine .R rfl (.appendI rfl sl_24_A ze_2_L rfl by_2_L sl_24_A rfl rfl (by assumption) (by assumption) (by first | omega | (simp <;> omega)) (by omega) (by omega)) ?_
      rintro _ H43 ⟨g43, rfl, st43, ge43, at43⟩
      have nx_H43 := st43.nx
      replace hle := hle.st st43 (fun k hk => ⟨by omega, trivial⟩)
      replace lst1 := lst1.sA st43
      replace at_L5 := st43.s at_L5
      replace at42 := st43.s at42
      have lt_at43 := GHeap.ltg at43
      replace h := base_h.mono hle
      have hR4 := hR3.app st43 (by omega) hgi at43 ge43 (by omega)
      have hat5b := at_L5
      refine .q rfl (.idxN sl_25_B (by first | exact (Intss.sl (by assumption)) | exact SlA.of_row at_L5 (by first | rfl | (simp; done) | (simp <;> omega))) rfl rfl (by omega)) ?_
      refine .r0 rfl rfl (.storeR rfl sz_24_Fc rfl rfl rfl (by assumption) (by first | exact Nat.le_of_ble_eq_true rfl | (simp; done) | (simp <;> omega))) ?_
      rintro _ H9007 ⟨rfl, st9007, at9007⟩
      have nx_H9007 := st9007.nx
      replace hle := hle.st st9007 (fun k hk => ⟨by omega, trivial⟩)
      replace lst1 := lst1.sA st9007
      replace at42 := st9007.s at42
      replace at43 := st9007.s at43
      have lt_at9007 := GHeap.ltg at9007
      replace h := base_h.mono hle
      obtain ⟨rN, hrN⟩ : ∃ r, r = upd rr j (some ⟨g43, 0, none⟩) := ⟨_, rfl⟩
      have hRN := hR4.st st9007 (.cons (hR4.neT hat5b rfl) (.nil _ _))
      rw [← hrN, ← hT] at hRN
      have hlN : (clsOf E (ms.take (i + 1))).length = (clsOf E (ms.take i)).length := by rw [hT, List.length_set]
      have hfN : (slsL rN (clsOf E (ms.take (i + 1)))).length = (clsOf E (ms.take (i + 1))).length := length_slsL _ _
      rw [Nat.zero_add, slsL_set (ys := (clsOf E (ms.take i)).getD j [] ++ [ms.getD i 0]) (by omega) (by rw [List.length_append, List.length_singleton]), ← hrN, ← hT] at at9007
      refine .nil (hK17 _ _ ?_)
      refine .exit ?_
      refine hK8 _ _ (.region ?_)
      refine .q rfl (.add rfl rfl rfl (by omega) (by omega)) ?_
      refine .mv rfl (.nil ?_)
      refine hKL1 ((i + 1, rN, _, _)) _ _ ?_ ?_ ⟨rfl, rfl, rfl, rfl, rfl, trivial⟩
      ·
       refine ⟨lst1, by assumption, by omega, by omega, ?_⟩
       exact ⟨by omega, hRN⟩
      (dsimp only; omega)
     try simp only [sps] at h37
     refine .skip ?_
     refine hK14 _ _ (.region ?_)
     refine .q rfl (.add rfl rfl rfl (by omega) (by omega)) ?_
     refine .mv rfl (.nil ?_)
     refine hKL2 (j + 1) _ _ ?_ ?_ ⟨rfl, rfl, rfl, rfl, rfl, rfl, rfl, rfl, rfl, trivial⟩
     ·
      refine ⟨lst2, ?_⟩
      refine ⟨by omega, fun a ha => ?_⟩
      by_cases e : a < j
      · exact hno a e
      · obtain rfl : a = j := by omega
        rw [hEv]
        first | rw [h30, Bool.false_and] | rw [h37, Bool.and_false]
     omega
    try simp only [sps] at h30
    refine .z rfl (.z rfl (.z rfl (.z rfl (.z rfl (.z rfl (.q rfl (.pickF rfl rfl) (.nil (hK16 _ _ ?_))))))))
    refine .condF rfl ?_
    refine .skip ?_
    refine hK14 _ _ (.region ?_)
    refine .q rfl (.add rfl rfl rfl (by omega) (by omega)) ?_
    refine .mv rfl (.nil ?_)
    refine hKL2 (j + 1) _ _ ?_ ?_ ⟨rfl, rfl, rfl, rfl, rfl, rfl, rfl, rfl, rfl, trivial⟩
    ·
     refine ⟨lst2, ?_⟩
     refine ⟨by omega, fun a ha => ?_⟩
     by_cases e : a < j
     · exact hno a e
     · obtain rfl : a = j := by omega
       rw [hEv]
       first | rw [h30, Bool.false_and] | rw [h37, Bool.and_false]
    omega
   try simp only [sps] at h20
   refine .exit ?_
   refine hK10 _ _ (.region ?_)
   have hT := hct.trans (clsIn_new fun a ha => hno a (by omega))
   refine .mv rfl (.mv rfl ?_)
   refine .R rfl (.litA rfl sl_24_A ze_2_L rfl rfl rfl rfl) ?_
   rintro _ H48 ⟨g48, rfl, le48, ge48, at48⟩
   have nx_H48 := le48.1
   replace hle := hle.trans le48
   replace lst1 := lst1.le le48
   replace rk := rk.le le48
   replace at_L5 := le48.2 _ _ at_L5
   have lt_at48 := GHeap.ltg at48
   replace h := base_h.mono hle
   refine .R rfl (.litA rfl sl_25_B ze_24_Hj rfl rfl rfl rfl) ?_
   rintro _ H49 ⟨g49, rfl, le49, ge49, at49⟩
   have nx_H49 := le49.1
   replace hle := hle.trans le49
   replace lst1 := lst1.le le49
   replace rk := rk.le le49
   replace at_L5 := le49.2 _ _ at_L5
   replace at48 := le49.2 _ _ at48
   have lt_at49 := GHeap.ltg at49
   replace h := base_h.mono hle
   refine .R rfl (.appendV rfl sl_25_B ze_24_Hj rfl by_24_Hj sl_25_B rfl rfl (by assumption) (by assumption) (by first | omega | (simp <;> omega)) rfl rfl (by omega) (by omega)) ?_
   rintro _ H50 ⟨g50, rfl, st50, ge50, at50⟩
   have nx_H50 := st50.nx
   replace hle := hle.st st50 (fun k hk => ⟨by omega, trivial⟩)
   replace lst1 := lst1.sA st50
   replace rk := rk.sA st50
   replace at48 := st50.s at48
   replace at49 := st50.s at49
   have lt_at50 := GHeap.ltg at50
   replace h := base_h.mono hle
   obtain ⟨rN, hrN⟩ : ∃ r, r = upd rr (clsOf E (ms.take i)).length (some ⟨g48, 0, none⟩) := ⟨_, rfl⟩
   have hRN := (hR.st rk (.cons (hR.neT hat5 rfl) (.nil _ _))).snoc2 (g := g48) (x := [ms.getD i 0]) at48 (hR.ne (by omega)) (by omega)
   rw [← hrN, ← hT] at hRN
   have hlN : (clsOf E (ms.take (i + 1))).length = (clsOf E (ms.take i)).length + 1 := by rw [hT, List.length_append, List.length_singleton]
   have hfN : (slsL rN (clsOf E (ms.take (i + 1)))).length = (clsOf E (ms.take (i + 1))).length := length_slsL _ _
   have hsn := slsL_snoc (r := rr) (xss := clsOf E (ms.take i)) (x := [ms.getD i 0]) (a := some ⟨g48, 0, none⟩)
   rw [← hrN, ← hT] at hsn
   have at50' : GHeap.get H50 g50 = some (.row (slsL rr (clsOf E (ms.take i)) ++ [.slice (some ⟨g48, 0, none⟩) 1 1]) 24 true) := at50
   rw [show [ms.getD i 0].length = 1 from rfl] at hsn
   rw [← hsn] at at50'
   refine .mv rfl (.nil (hK8 _ _ (.region ?_)))
   refine .q rfl (.add rfl rfl rfl (by omega) (by omega)) ?_
   refine .mv rfl (.nil ?_)
   refine hKL1 ((i + 1, rN, _, _)) _ _ ?_ ?_ ⟨rfl, rfl, rfl, rfl, rfl, trivial⟩
   ·
    refine ⟨lst1, by assumption, by omega, by omega, ?_⟩
    exact ⟨by omega, hRN⟩
   (dsimp only; omega)
  try simp only [sps] at h14
  refine .exit ?_
  refine hK4 _ _ (.seq (fun K18 hK18 => .region (.mv rfl (.mv rfl (.nil (hK18 _ _ ?_))))))
  refine .ret ?_
  refine hret _ _ ?_
  refine ⟨_, rfl, ?_⟩
  obtain rfl : i = ms.length := by omega
  rw [List.take_length] at at_L5 ln_L5 hfl hR
  exact ⟨hle, some ⟨gL5, 0, none⟩, rr, by rw [ln_L5, hfl], (hR.low (b' := H.next) (by omega)).done at_L5 (by omega)⟩
set_option maxHeartbeats 4000000 in
theorem subobjectsOf_c {c : Cat} {p : CatP} {x : Int} {H : GHeap} (hin : c.In H p := by assumption) (hs : c.Small := by assumption) :
    GCalls Try.prog 38 [.agg (c.cells p).toArray, .int .i64 x] H (NewLLC (c.codeO [x]) (codeLL (c.codeO [x]) (c.subs x)) H) := by
  refine GCalls.body (N := 34) (rs := [.tmp 4, .tmp 5]) Try.func38 rfl rfl rfl rfl (fun Qx hret hend => ?_)
  refine .fg [0, 1] rfl ?_
  have hle := GHeap.Le.refl H
  have base_hin := hin
  refine .seq (fun K1 hK1 => .region ?_)
  refine .R rfl (.boxR rfl sz_27_D rfl) ?_
  rintro _ H2 ⟨g2, rfl, le2, ge2, at2⟩
  replace hle := hle.trans le2
  have lt_at2 := GHeap.ltg at2
  replace hin := base_hin.mono hle
  have hb2 : Cat.At _ g2 0 c p := ⟨Mem.of_get at2, hin⟩
  refine .mv rfl (.mv rfl (.nil (hK1 _ _ (.seq (fun K2 hK2 => .seq (fun K3 hK3 => .region (.mv rfl ?_)))))))
  refine .R rfl (.litA rfl sl_24_A ze_2_L rfl rfl rfl rfl) ?_
  rintro _ H11 ⟨g11, rfl, le11, ge11, at11⟩
  replace hle := hle.trans le11
  replace at2 := le11.2 _ _ at2
  have lt_at11 := GHeap.ltg at11
  replace hin := base_hin.mono hle
  clear hb2
  have hb2 : Cat.At _ g2 0 c p := ⟨Mem.of_get at2, hin⟩
  refine .callQ rfl rfl rfl rfl @Try.call70 rfl (objectCode_c (xs := [x]) (hx := Ints.of_get (by assumption)) (hl := by simp)) ?_
  refine .mv rfl (.nil (hK3 _ _ (.seq (fun K4 hK4 => .region (.mv rfl (.q rfl (.cmp rfl rfl rfl) (.nil (hK4 _ _ ?_))))))))
  refine .cond rfl (fun h14 => ?_) (fun h14 => ?_)
  ·
   try simp only [sps] at h14
   refine .seq (fun K5 hK5 => .region (.mv rfl (.mv rfl (.mv rfl (.nil (hK5 _ _ ?_))))))
   refine .ret ?_
   refine hret _ _ ?_
   refine ⟨_, _, rfl, rfl, ?_⟩
   rw [codeLL_err h14]; exact ⟨hle, none, fun _ => none, rfl, .nil _ _ _⟩
  simp only [sps] at h14
  obtain ⟨hIs, -, -⟩ := Cat.codeO_one.1 h14
  have hS := hIs.1
  have q1 := hS.n40
  have hle0 : (c.intoL x).length ≤ 40 := by have := filtN_le c.src.length (fun f => decide (c.tgt.getD f 0 = x)); unfold Cat.intoL; omega
  refine .skip ?_
  refine hK2 _ _ (.seq (fun K6 hK6 => .region ?_))
  refine .R rfl (.litA rfl sl_24_A ze_2_L rfl rfl rfl rfl) ?_
  rintro _ H16 ⟨g16, rfl, le16, ge16, at16⟩
  replace hle := hle.trans le16
  replace at2 := le16.2 _ _ at2
  have lt_at16 := GHeap.ltg at16
  replace hin := base_hin.mono hle
  clear hb2
  have hb2 : Cat.At _ g2 0 c p := ⟨Mem.of_get at2, hin⟩
  replace at16 : GHeap.get H16 g16 = some (.row (ints []) 2 true) := at16
  refine .mv rfl (.nil (hK6 _ _ (.seq (fun K7 hK7 => .seq (fun K8 hK8 => .region (.mv rfl ?_))))))
  refine .call rfl rfl rfl rfl @Try.call71 rfl (into_c) ?_
  rintro _ H18 ⟨le18, g18, rfl, at18, ge18⟩
  replace hle := hle.trans le18
  replace at2 := le18.2 _ _ at2
  replace at16 := le18.2 _ _ at16
  have lt_at18 := GHeap.ltg at18
  replace hin := base_hin.mono hle
  clear hb2
  have hb2 : Cat.At _ g2 0 c p := ⟨Mem.of_get at2, hin⟩
  refine .q rfl (.len sl_24_A rfl) (.mv rfl (.nil (hK8 _ _ ?_)))
  refine .block ?_
  refine .loopR (σ := Nat × Nat × Nat) [(2, some _), (18, some _), (19, some _)] (fun (k, gL7, nL7) => [(20, some (.int .i64 (k : Int))), (7, some (.slice (some ⟨gL7, 0, none⟩) nL7 nL7))]) (fun (k, gL7, nL7) H' => St [g16] H18 H' ∧ H'.get gL7 = some (.row (ints (((c.intoL x).take k).filter fun m => B (c.Mono m))) 2 true) ∧ (gL7 = g16 ∨ H18.next ≤ gL7) ∧ nL7 = (((c.intoL x).take k).filter fun m => B (c.Mono m)).length ∧ k ≤ (c.intoL x).length) (fun (k, gL7, nL7) => (c.intoL x).length - k) ((0, _, _)) ⟨rfl, rfl, rfl, trivial⟩ ⟨rfl, rfl, trivial⟩ ?_ ?_
  ·
   refine ⟨.refl _ _, by assumption, .inl rfl, by rfl, ?_⟩
   omega
  rintro ⟨k, gL7, nL7⟩ HL1 ⟨lst1, at_L7, pl_L7, ln_L7, hI⟩ KL1 hKL1
  refine .forget (fr' := [(20, some (.int .i64 (k : Int))), (7, some (.slice (some ⟨gL7, 0, none⟩) nL7 nL7)), (2, some _), (18, some _), (19, some _)]) ⟨rfl, rfl, rfl, rfl, rfl, trivial⟩ ?_
  have ge_L7 : H.next ≤ gL7 := by omega
  have nx_HL1 := lst1.nx
  replace hle := hle.st lst1 (fun k hk => ⟨by omega, trivial⟩)
  replace at2 := lst1.s at2
  replace at18 := lst1.s at18
  replace hin := base_hin.mono hle
  clear hb2
  have hb2 : Cat.At _ g2 0 c p := ⟨Mem.of_get at2, hin⟩
  have i18 := Ints.of_get at18
  have hfl := filt_le (c.intoL x) (fun m => B (c.Mono m)) k
  refine .seq (fun K9 hK9 => .region (.q rfl (.cmp rfl rfl rfl) (.nil (hK9 _ _ (.seq (fun K10 hK10 => ?_))))))
  refine .cond rfl (fun h21 => ?_) (fun h21 => ?_)
  ·
   simp only [sps] at h21
   obtain ⟨j, j1, -, j3⟩ := filtN_get (n := c.src.length) (p := fun f => decide (c.tgt.getD f 0 = x)) (i := k) (show k < (c.intoL x).length by omega)
   have j4 : (c.intoL x).getD k 0 = (j : Int) := j3
   refine .skip ?_
   refine hK10 _ _ (.seq (fun K11 hK11 => ?_))
   refine .block ?_
   refine .seq (fun K12 hK12 => .region ?_)
   refine .q rfl (.idxN sl_24_A (by first | assumption | exact SlA.of_row at18 (by first | rfl | (simp; done) | (simp <;> omega))) rfl rfl (by omega)) ?_
   refine .q rfl (.loadI on_2_A (by first | assumption | exact Ints.of_get at18) rfl (by omega)) ?_
   refine .mv rfl (.nil (hK12 _ _ (.seq (fun K13 hK13 => .region (.mv rfl ?_)))))
   refine .callQ rfl rfl rfl rfl @Try.call59 rfl (isMono_c) ?_
   refine .nil (hK13 _ _ ?_)
   refine .cond rfl (fun h25 => ?_) (fun h25 => ?_)
   ·
    try simp only [sps] at h25
    refine .region (.mv rfl (.mv rfl ?_))
    refine .R rfl (.litA rfl sl_24_A ze_2_L rfl rfl rfl rfl) ?_
    rintro _ H28 ⟨g28, rfl, le28, ge28, at28⟩
    replace hle := hle.trans le28
    replace lst1 := lst1.le le28
    replace at2 := le28.2 _ _ at2
    replace at_L7 := le28.2 _ _ at_L7
    have lt_at28 := GHeap.ltg at28
    replace hin := base_hin.mono hle
    clear hb2
    have hb2 : Cat.At _ g2 0 c p := ⟨Mem.of_get at2, hin⟩
    clear i18
    refine .R rfl (.appendI rfl sl_24_A ze_2_L rfl by_2_L sl_24_A rfl rfl (by assumption) (by assumption) (by first | omega | (simp <;> omega)) (by omega) (by omega)) ?_
    rintro _ H29 ⟨g29, rfl, st29, ge29, at29⟩
    replace hle := hle.st st29 (fun k hk => ⟨by omega, trivial⟩)
    replace lst1 := lst1.sA st29
    replace at2 := st29.s at2
    replace hin := base_hin.mono hle
    clear hb2
    have hb2 : Cat.At _ g2 0 c p := ⟨Mem.of_get at2, hin⟩
    refine .mv rfl (.nil (hK11 _ _ (.region ?_)))
    refine .q rfl (.add rfl rfl rfl (by omega) (by omega)) ?_
    refine .mv rfl (.nil ?_)
    refine hKL1 ((k + 1, _, _)) _ _ ?_ ?_ ⟨rfl, rfl, rfl, rfl, rfl, trivial⟩
    ·
     refine ⟨lst1, by (rw [filt_T (by omega) (B_true (by assumption))]; assumption), by omega, by (rw [filt_T (by omega) (B_true (by assumption))] <;> (first | omega | (simp only [List.length_append, List.length_cons, List.length_nil] <;> omega))), ?_⟩
     omega
    (dsimp only; omega)
   try simp only [sps] at h25
   refine .skip ?_
   refine hK11 _ _ (.region ?_)
   refine .q rfl (.add rfl rfl rfl (by omega) (by omega)) ?_
   refine .mv rfl (.nil ?_)
   refine hKL1 ((k + 1, _, _)) _ _ ?_ ?_ ⟨rfl, rfl, rfl, rfl, rfl, trivial⟩
   ·
    refine ⟨lst1, by (rw [filt_F (by omega) (B_false (by assumption))]; assumption), by omega, by (rw [filt_F (by omega) (B_false (by assumption))] <;> (first | omega | (simp only [List.length_append, List.length_cons, List.length_nil] <;> omega))), ?_⟩
    omega
   (dsimp only; omega)
  try simp only [sps] at h21
  refine .exit ?_
  refine hK7 _ _ (.seq (fun K14 hK14 => .region ?_))
  obtain rfl : k = (c.intoL x).length := by omega
  obtain rfl := ln_L7
  have hms : ((c.intoL x).take (c.intoL x).length).filter (fun m => B (c.Mono m)) = c.toL x c.src.length := by
    rw [List.take_length]; unfold Cat.intoL Cat.toL; rw [filter_filtN]
  rw [hms] at at_L7 hfl
  rw [hms]
  refine .mv rfl (.q rfl (.makeFunc rfl) ?_)
  refine .call rfl rfl rfl rfl @Try.call72 rfl (classesOf_c (P := c.ToX x) (bel := c.belB) (h := Ints.of_get at_L7) (hl := by omega) (fun m hm => Cat.toL_mem (Nat.le_refl _) hm) (Cat.eqv_on hIs x) @Try.call73 (fun H' hl' y z hy hz => subobjects1_c (hb2.mono hl') hS hy.ge hy.lt hz.ge hz.lt)) ?_
  rintro _ H33 ⟨le33, a33, r33, rfl, v33⟩
  replace hle := hle.trans le33
  replace at2 := le33.2 _ _ at2
  replace hin := base_hin.mono hle
  clear hb2
  have hb2 : Cat.At _ g2 0 c p := ⟨Mem.of_get at2, hin⟩
  refine .mv rfl (.mv rfl (.nil (hK14 _ _ ?_)))
  refine .ret ?_
  refine hret _ _ ?_
  refine ⟨_, _, rfl, rfl, ?_⟩
  rw [codeLL_ok h14, h14]; exact ⟨hle, a33, r33, rfl, v33.keep (.of_le (.refl _)) (by omega)⟩
end Go.Proofs.Ytolfggcanbpknaa
namespace Go.Proofs.Ytolfggcanbpknaa
open Go Go.GL Go.RowKit Go.Proofs
theorem sz_118_Dg : (Try.prog.info? 118).map (·.size) = some 3 := by kernel_rfl
theorem fo_118_0_Dg : fieldOff Try.prog 118 0 = some 0 := by kernel_rfl
theorem fo_118_1_Dg : fieldOff Try.prog 118 1 = some 1 := by kernel_rfl
theorem fo_118_2_Dg : fieldOff Try.prog 118 2 = some 2 := by kernel_rfl
theorem l01Less_c {a b : Option Addr} {xs ys : List Int} {H : GHeap} (ha : Ints H a xs := by assumption) (hb : Ints H b ys := by assumption) (hx : xs.length ≤ 1048576 := by omega) :
    GCalls Try.prog 129 [.slice a xs.length xs.length, .slice b ys.length ys.length] H (fun v H' => H.Le H' ∧ ∃ q, v = .bool q) := by
  refine GCalls.body (N := 41) (rs := [.tmp 4]) Try.func129 rfl rfl rfl rfl (fun Qx hret hend => ?_)
  refine .fg [0, 1] rfl ?_
  have hle := GHeap.Le.refl H
  have base_ha := ha
  have base_hb := hb
  refine .seq (fun K1 hK1 => .region (.mv rfl (.nil (hK1 _ _ (.seq (fun K2 hK2 => .seq (fun K3 hK3 => .region (.mv rfl (.nil (hK3 _ _ ?_))))))))))
  refine .block ?_
  refine .loopR (σ := Nat) [(0, some _), (1, some _)] (fun i => [(5, some (.int .i64 (i : Int)))]) (fun i H' => H = H' ∧ i ≤ xs.length) (fun i => xs.length - i) (0) ⟨rfl, rfl, trivial⟩ ⟨rfl, trivial⟩ ?_ ?_
  ·
   refine ⟨rfl, ?_⟩
   omega
  rintro i _ ⟨rfl, hI⟩ KL1 hKL1
  refine .forget (fr' := [(5, some (.int .i64 (i : Int))), (0, some _), (1, some _)]) ⟨rfl, rfl, rfl, trivial⟩ ?_
  refine .seq (fun K4 hK4 => .seq (fun K5 hK5 => .region (.mv rfl (.mv rfl (.q rfl (.len sl_24_A rfl) (.q rfl (.cmp rfl rfl rfl) (.mv rfl ?_)))))))
  refine .split (fun h10 => ?_) (fun h10 => ?_)
  ·
   simp only [sps] at h10
   refine .qg rfl (.move rfl) (.qg rfl (.move rfl) (.qg rfl (.len sl_24_A rfl) (.qg rfl (.cmp rfl rfl rfl) (.q rfl (.pickT rfl rfl) (.nil (hK5 _ _ ?_))))))
   refine .cond rfl (fun h15 => ?_) (fun h15 => ?_)
   ·
    simp only [sps] at h15
    refine .skip ?_
    refine hK4 _ _ (.seq (fun K6 hK6 => ?_))
    refine .block ?_
    refine .seq (fun K7 hK7 => ?_)
    refine .regionD mo_B (.q 0 (.q 1 (.q 2 (.q 3 (.q 4 (.q 5 (.q 6 (.q 7 (.q 8 (.done)))))))))) (by kernel_rfl) ?_
    refine .mv rfl rfl (.mv rfl rfl ?_)
    refine .q rfl (.idxN sl_24_A (by assumption) rfl rfl (by omega)) ?_
    refine .q rfl (.loadI on_2_A (by assumption) rfl (by omega)) ?_
    refine .mv rfl rfl (.mv rfl rfl ?_)
    refine .q rfl (.idxN sl_24_A (by assumption) rfl rfl (by omega)) ?_
    refine .q rfl (.loadI on_2_A (by assumption) rfl (by omega)) ?_
    refine .q rfl (.cmp rfl rfl rfl) ?_
    refine .done ?_
    refine hK7 _ _ ?_
    refine .cond rfl (fun h26 => ?_) (fun h26 => ?_)
    ·
     try simp only [sps] at h26
     refine .seq (fun K8 hK8 => ?_)
     refine .regionD mo_B (.q 0 (.q 1 (.q 2 (.q 3 (.q 4 (.q 5 (.q 6 (.q 7 (.q 8 (.q 9 (.done))))))))))) (by kernel_rfl) ?_
     refine .mv rfl rfl (.mv rfl rfl ?_)
     refine .q rfl (.idxN sl_24_A (by assumption) rfl rfl (by omega)) ?_
     refine .q rfl (.loadI on_2_A (by assumption) rfl (by omega)) ?_
     refine .mv rfl rfl (.mv rfl rfl ?_)
     refine .q rfl (.idxN sl_24_A (by assumption) rfl rfl (by omega)) ?_
     refine .q rfl (.loadI on_2_A (by assumption) rfl (by omega)) ?_
     refine .q rfl (.cmp rfl rfl rfl) (.mv rfl rfl ?_)
     refine .done ?_
     refine hK8 _ _ ?_
     refine .ret ?_
     refine hret _ _ ?_
     refine ⟨_, rfl, ?_⟩
     exact ⟨hle, _, rfl⟩
    try simp only [sps] at h26
    refine .skip ?_
    refine hK6 _ _ (.region (.mv rfl ?_))
    refine .q rfl (.add rfl rfl rfl (by omega) (by omega)) ?_
    refine .mv rfl (.nil ?_)
    refine hKL1 (i + 1) _ _ ?_ ?_ ⟨rfl, rfl, rfl, trivial⟩
    ·
     refine ⟨rfl, ?_⟩
     omega
    omega
   simp only [sps] at h15
   refine .exit ?_
   refine hK2 _ _ (.seq (fun K9 hK9 => .region (.mv rfl (.q rfl (.len sl_24_A rfl) (.mv rfl (.q rfl (.len sl_24_A rfl) (.q rfl (.cmp rfl rfl rfl) (.mv rfl (.nil (hK9 _ _ ?_))))))))))
   refine .ret ?_
   refine hret _ _ ?_
   refine ⟨_, rfl, ?_⟩
   exact ⟨hle, _, rfl⟩
  simp only [sps] at h10
  refine .z rfl (.z rfl (.z rfl (.z rfl (.q rfl (.pickF rfl rfl) (.nil (hK5 _ _ ?_))))))
  refine .condF rfl ?_
  refine .exit ?_
  refine hK2 _ _ (.seq (fun K10 hK10 => .region (.mv rfl (.q rfl (.len sl_24_A rfl) (.mv rfl (.q rfl (.len sl_24_A rfl) (.q rfl (.cmp rfl rfl rfl) (.mv rfl (.nil (hK10 _ _ ?_))))))))))
  refine .ret ?_
  refine hret _ _ ?_
  refine ⟨_, rfl, ?_⟩
  exact ⟨hle, _, rfl⟩
theorem l03Before_c {a b : Option Addr} {xs ys : List Int} {x1 x2 y1 y2 : Int} {H : GHeap} (ha : Ints H a xs := by assumption) (hb : Ints H b ys := by assumption) (hx : xs.length ≤ 1048576 := by omega) :
    GCalls Try.prog 128 [.agg #[.int .i64 x1, .int .i64 y1, .slice a xs.length xs.length], .agg #[.int .i64 x2, .int .i64 y2, .slice b ys.length ys.length]] H (fun v H' => H.Le H' ∧ ∃ q, v = .bool q) := by
  refine GCalls.body (N := 30) (rs := [.tmp 4]) Try.func128 rfl rfl rfl rfl (fun Qx hret hend => ?_)
  refine .fg [0, 1] rfl ?_
  have hle := GHeap.Le.refl H
  have base_ha := ha
  have base_hb := hb
  refine .seq (fun K1 hK1 => .region ?_)
  refine .R rfl (.boxR rfl sz_118_Dg rfl) ?_
  rintro _ H2 ⟨g2, rfl, le2, ge2, at2⟩
  replace hle := hle.trans le2
  refine .R rfl (.boxR rfl sz_118_Dg rfl) ?_
  rintro _ H3 ⟨g3, rfl, le3, ge3, at3⟩
  replace hle := hle.trans le3
  replace at2 := le3.2 _ _ at2
  replace ha := base_ha.mono hle
  replace hb := base_hb.mono hle
  refine .mv rfl (.nil (hK1 _ _ (.seq (fun K2 hK2 => .seq (fun K3 hK3 => .region (.q rfl (.fieldAddr fo_118_0_Dg rfl) ?_))))))
  refine .q rfl (.load on_2_A rfl (by first | assumption | exact Mem.of_get at2 0 _ rfl)) ?_
  refine .q rfl (.fieldAddr fo_118_0_Dg rfl) ?_
  refine .q rfl (.load on_2_A rfl (by first | assumption | exact Mem.of_get at3 0 _ rfl)) ?_
  refine .q rfl (.cmp rfl rfl rfl) (.nil (hK3 _ _ ?_))
  refine .cond rfl (fun h9 => ?_) (fun h9 => ?_)
  ·
   try simp only [sps] at h9
   refine .seq (fun K4 hK4 => .region (.q rfl (.fieldAddr fo_118_0_Dg rfl) ?_))
   refine .q rfl (.load on_2_A rfl (by first | assumption | exact Mem.of_get at2 0 _ rfl)) ?_
   refine .q rfl (.fieldAddr fo_118_0_Dg rfl) ?_
   refine .q rfl (.load on_2_A rfl (by first | assumption | exact Mem.of_get at3 0 _ rfl)) ?_
   refine .q rfl (.cmp rfl rfl rfl) (.mv rfl (.nil (hK4 _ _ ?_)))
   refine .ret ?_
   refine hret _ _ ?_
   refine ⟨_, rfl, ?_⟩
   exact ⟨hle, _, rfl⟩
  try simp only [sps] at h9
  refine .skip ?_
  refine hK2 _ _ (.seq (fun K5 hK5 => .seq (fun K6 hK6 => .region (.q rfl (.fieldAddr fo_118_1_Dg rfl) ?_))))
  refine .q rfl (.load on_2_A rfl (by first | assumption | exact Mem.of_get at2 1 _ rfl)) ?_
  refine .q rfl (.fieldAddr fo_118_1_Dg rfl) ?_
  refine .q rfl (.load on_2_A rfl (by first | assumption | exact Mem.of_get at3 1 _ rfl)) ?_
  refine .q rfl (.cmp rfl rfl rfl) (.nil (hK6 _ _ ?_))
  refine .cond rfl (fun h19 => ?_) (fun h19 => ?_)
  ·
   try simp only [sps] at h19
   refine .seq (fun K7 hK7 => .region (.q rfl (.fieldAddr fo_118_1_Dg rfl) ?_))
   refine .q rfl (.load on_2_A rfl (by first | assumption | exact Mem.of_get at2 1 _ rfl)) ?_
   refine .q rfl (.fieldAddr fo_118_1_Dg rfl) ?_
   refine .q rfl (.load on_2_A rfl (by first | assumption | exact Mem.of_get at3 1 _ rfl)) ?_
   refine .q rfl (.cmp rfl rfl rfl) (.mv rfl (.nil (hK7 _ _ ?_)))
   refine .ret ?_
   refine hret _ _ ?_
   refine ⟨_, rfl, ?_⟩
   exact ⟨hle, _, rfl⟩
  try simp only [sps] at h19
  refine .skip ?_
  refine hK5 _ _ (.seq (fun K8 hK8 => .region (.q rfl (.fieldAddr fo_118_2_Dg rfl) ?_)))
  refine .q rfl (.load on_24_B rfl (by first | assumption | exact Mem.of_get at2 2 _ rfl)) ?_
  refine .q rfl (.fieldAddr fo_118_2_Dg rfl) ?_
  refine .q rfl (.load on_24_B rfl (by first | assumption | exact Mem.of_get at3 2 _ rfl)) ?_
  refine .call rfl rfl rfl rfl @Try.call129 rfl (l01Less_c) ?_
  rintro _ H29 ⟨le29, q29, rfl⟩
  replace hle := hle.trans le29
  refine .mv rfl (.nil (hK8 _ _ ?_))
  refine .ret ?_
  refine hret _ _ ?_
  refine ⟨_, rfl, ?_⟩
  exact ⟨hle, _, rfl⟩
end Go.Proofs.Ytolfggcanbpknaa
namespace Go.Proofs.Ytolfggcanbpknaa
open Go Go.GL Go.RowKit Go.Proofs
theorem sl_115_Di : sliceT Try.prog 115 = some (118, 3) := by kernel_rfl
theorem ze_118_Di : zeroT Try.prog 118 = some ([.int .i64 0, .int .i64 0, .slice none 0 0], 3) := by kernel_rfl
theorem bt_118_Di : buildT Try.prog 118 = some ([.int .i64 0, .int .i64 0, .slice none 0 0], [(0, 1), (1, 1), (2, 1)]) := by kernel_rfl
theorem by_118_Di : (Try.prog.info? 118).map (·.bytes) = some 40 := by kernel_rfl
theorem ag_118_Di : aggT Try.prog 118 = some 3 := by kernel_rfl
set_option maxHeartbeats 8000000 in
theorem l03All_c {a b : Option Addr} {xs ys : List Int} {n : Nat} {H : GHeap} (ha : Ints H a xs := by assumption) (hb : Ints H b ys := by assumption) (hl : ys.length = xs.length) (hx : xs.length ≤ 3) (hn : n ≤ 3) (hy : Bd 0 ((n : Int) - 1) ys) (hup : ∀ e, e < xs.length → xs.getD e 0 < ys.getD e 0) :
    GCalls Try.prog 126 [.int .i64 (n : Int), .slice a xs.length xs.length, .slice b ys.length ys.length] H (NewPaths 2 118 ((n : Int) - 1) H) := by
  refine GCalls.body (N := 117) (rs := [.tmp 6]) Try.func126 rfl rfl rfl rfl (fun Qx hret hend => ?_)
  refine .fg [0, 1, 2] rfl ?_
  have hle := GHeap.Le.refl H
  have base_ha := ha
  have base_hb := hb
  refine .seq (fun K1 hK1 => .region (.mv rfl (.nil (hK1 _ _ (.seq (fun K2 hK2 => .region ?_))))))
  refine .R rfl (.litA rfl sl_115_Di ze_118_Di rfl rfl rfl rfl) ?_
  rintro _ H14 ⟨g14, rfl, le14, ge14, at14⟩
  have nx_H14 := le14.1
  replace hle := hle.trans le14
  have lt_at14 := GHeap.ltg at14
  refine .mv rfl (.nil (hK2 _ _ (.seq (fun K3 hK3 => .seq (fun K4 hK4 => .region (.mv rfl (.nil (hK4 _ _ ?_))))))))
  refine .block ?_
  refine .loopR (σ := Nat × List Pth × Nat × Nat) [(0, some _), (1, some _), (2, some _)] (fun (x, ps, gL7, nL7) => [(8, some (.int .i64 (x : Int))), (7, some (.slice (some ⟨gL7, 0, none⟩) nL7 nL7))]) (fun (x, ps, gL7, nL7) H' => St [g14] H14 H' ∧ H'.get gL7 = some (.row (pcells ps) 118 true) ∧ PL gL7 g14 H14.next ∧ nL7 = ps.length ∧ (x ≤ n ∧ ps.length = x ∧ pws ps ≤ pwn x) ∧ PthOk H.next 2 ((n : Int) - 1) H' ps) (fun (x, ps, gL7, nL7) => n - x) ((0, [], _, _)) ⟨rfl, rfl, rfl, trivial⟩ ⟨rfl, rfl, trivial⟩ ?_ ?_
  ·
   refine ⟨.refl _ _, by assumption, ⟨.inl rfl⟩, by rfl, ?_⟩
   exact ⟨⟨by omega, rfl, Nat.le_refl _⟩, .nil _ _ _ _⟩
  rintro ⟨x, ps, gL7, nL7⟩ HL1 ⟨lst1, at_L7, pl_L7, ln_L7, hI⟩ KL1 hKL1
  refine .forget (fr' := [(8, some (.int .i64 (x : Int))), (7, some (.slice (some ⟨gL7, 0, none⟩) nL7 nL7)), (0, some _), (1, some _), (2, some _)]) ⟨rfl, rfl, rfl, rfl, rfl, trivial⟩ ?_
  have ge_L7 : H.next ≤ gL7 := pl_L7.ge (by omega) (by omega)
  have nx_HL1 := lst1.nx
  replace hle := hle.st lst1 (fun k hk => ⟨by omega, trivial⟩)
  have lt_at_L7 := GHeap.ltg at_L7
  have rk := St.refl [gL7] HL1
  obtain ⟨⟨hxn, hpl, hw⟩, hP⟩ := hI
  have htl := pcells_len ps
  have hat7 := at_L7
  refine .seq (fun K5 hK5 => .seq (fun K6 hK6 => .region (.mv rfl (.mv rfl (.q rfl (.cmp rfl rfl rfl) (.nil (hK6 _ _ ?_)))))))
  refine .cond rfl (fun h17 => ?_) (fun h17 => ?_)
  ·
   simp only [sps] at h17
   refine .skip ?_
   refine hK5 _ _ (.seq (fun K7 hK7 => ?_))
   refine .block ?_
   refine .region (.mv rfl (.mv rfl (.mv rfl ?_)))
   refine .R rfl (.litA rfl sl_24_A ze_2_L rfl rfl rfl rfl) ?_
   rintro _ H23 ⟨g23, rfl, le23, ge23, at23⟩
   replace lst1 := lst1.le le23
   replace rk := rk.le le23
   replace at_L7 := le23.2 _ _ at_L7
   have lt_at23 := GHeap.ltg at23
   replace at23 : GHeap.get H23 g23 = some (.row (ints []) 2 true) := at23
   refine .q rfl (.build bt_118_Di rfl rfl rfl) ?_
   refine .R rfl (.litA rfl sl_115_Di ze_118_Di rfl rfl rfl rfl) ?_
   rintro _ H25 ⟨g25, rfl, le25, ge25, at25⟩
   replace lst1 := lst1.le le25
   replace rk := rk.le le25
   replace at_L7 := le25.2 _ _ at_L7
   replace at23 := le25.2 _ _ at23
   have lt_at25 := GHeap.ltg at25
   refine .R rfl (.appendV rfl sl_115_Di ze_118_Di rfl by_118_Di sl_115_Di rfl rfl (by assumption) (by assumption) (by first | omega | (simp <;> omega)) rfl rfl (by omega) (by omega)) ?_
   rintro _ H26 ⟨g26, rfl, st26, ge26, at26⟩
   replace lst1 := lst1.sP st26
   replace rk := rk.sP st26
   replace at23 := st26.s at23
   refine .mv rfl (.nil (hK7 _ _ (.region (.mv rfl ?_))))
   refine .q rfl (.add rfl rfl rfl (by omega) (by omega)) ?_
   refine .mv rfl (.nil ?_)
   refine hKL1 ((x + 1, ps ++ [⟨(x : Int), (x : Int), [], g23⟩], _, _)) _ _ ?_ ?_ ⟨rfl, rfl, rfl, rfl, rfl, trivial⟩
   ·
    refine ⟨lst1, by (rw [pcells_snoc]; assumption), by exact ⟨.inr (by omega)⟩, by (simp only [List.length_append, List.length_cons, List.length_nil] <;> omega), ?_⟩
    exact ⟨⟨by omega, by simp; omega, by rw [pws_snoc, ← pwn_succ (by omega)]; exact Nat.add_le_add_right hw _⟩, (hP.keep (rk.lasts1 hat7 rfl)).snoc ⟨by simp, by simp; omega⟩ ⟨by simp, by simp; omega⟩ (by simp) (by simp; omega) (by assumption)⟩
   (dsimp only; omega)
  try simp only [sps] at h17
  refine .exit ?_
  refine hK3 _ _ (.seq (fun K8 hK8 => .seq (fun K9 hK9 => .region (.mv rfl (.nil (hK9 _ _ ?_))))))
  refine .block ?_
  refine .loopR (σ := Nat × List Pth × Nat × Nat) [(1, some _), (2, some _)] (fun (k, ps, gL7v2, nL7v2) => [(9, some (.int .i64 (k : Int))), (7, some (.slice (some ⟨gL7v2, 0, none⟩) nL7v2 nL7v2))]) (fun (k, ps, gL7v2, nL7v2) H' => St [gL7] HL1 H' ∧ H'.get gL7v2 = some (.row (pcells ps) 118 true) ∧ PL gL7v2 gL7 HL1.next ∧ nL7v2 = ps.length ∧ (k ≤ ps.length ∧ k + pws (ps.drop k) ≤ 18) ∧ PthOk H.next 2 ((n : Int) - 1) H' ps) (fun (k, ps, gL7v2, nL7v2) => 60 - k) ((0, ps, _, _)) ⟨rfl, rfl, trivial⟩ ⟨rfl, rfl, trivial⟩ ?_ ?_
  ·
   refine ⟨.refl _ _, by assumption, ⟨.inl rfl⟩, by assumption, ?_⟩
   exact ⟨⟨by omega, by have := pwn_le x; rw [List.drop_zero]; omega⟩, hP⟩
  rintro ⟨k, ps, gL7v2, nL7v2⟩ HL2 ⟨lst2, at_L7v2, pl_L7v2, ln_L7v2, hI⟩ KL2 hKL2
  refine .forget (fr' := [(9, some (.int .i64 (k : Int))), (7, some (.slice (some ⟨gL7v2, 0, none⟩) nL7v2 nL7v2)), (1, some _), (2, some _)]) ⟨rfl, rfl, rfl, rfl, trivial⟩ ?_
  have ge_L7v2 : H.next ≤ gL7v2 := pl_L7v2.ge (by omega) (by omega)
  have nx_HL2 := lst2.nx
  replace hle := hle.st lst2 (fun k hk => ⟨by omega, trivial⟩)
  obtain ⟨⟨hk, hwk⟩, hP⟩ := hI
  have hpl := pws_len hk hwk
  refine .seq (fun K10 hK10 => .seq (fun K11 hK11 => .region (.mv rfl (.mv rfl (.q rfl (.len sl_115_Di rfl) (.q rfl (.cmp rfl rfl rfl) (.mv rfl ?_)))))))
  refine .split (fun h31 => ?_) (fun h31 => ?_)
  ·
   simp only [sps] at h31
   refine .qg rfl (.move rfl) (.qg rfl (.len sl_115_Di rfl) (.qg rfl (.cmp rfl rfl rfl) (.q rfl (.pickT rfl rfl) (.nil (hK11 _ _ ?_)))))
   refine .cond rfl (fun h35 => ?_) (fun h35 => ?_)
   ·
    simp only [sps] at h35
    refine .skip ?_
    refine hK10 _ _ (.seq (fun K12 hK12 => ?_))
    refine .block ?_
    refine .seq (fun K13 hK13 => .region (.mv rfl (.nil (hK13 _ _ ?_))))
    refine .block ?_
    refine .loopR (σ := Nat × List Pth × Nat × Nat) [(1, some _), (2, some _), (9, some _), (32, some _), (33, some _), (34, some _)] (fun (e, p2, gL7v3, nL7v3) => [(10, some (.int .i64 (e : Int))), (7, some (.slice (some ⟨gL7v3, 0, none⟩) nL7v3 nL7v3))]) (fun (e, p2, gL7v3, nL7v3) H' => St [gL7v2] HL2 H' ∧ H'.get gL7v3 = some (.row (pcells p2) 118 true) ∧ PL gL7v3 gL7v2 HL2.next ∧ nL7v3 = p2.length ∧ (e ≤ xs.length ∧ ps.length ≤ p2.length ∧ p2.getD k pz = ps.getD k pz ∧ k + 1 + pws (p2.drop (k + 1)) + 3 * ((pw (ps.getD k pz).t - 1) / 3) ≤ 18 + e * ((pw (ps.getD k pz).t - 1) / 3)) ∧ PthOk H.next 2 ((n : Int) - 1) H' p2) (fun (e, p2, gL7v3, nL7v3) => xs.length - e) ((0, ps, _, _)) ⟨rfl, rfl, rfl, rfl, rfl, rfl, trivial⟩ ⟨rfl, rfl, trivial⟩ ?_ ?_
    ·
     refine ⟨.refl _ _, by assumption, ⟨.inl rfl⟩, by assumption, ?_⟩
     have hd := pws_drop (ps := ps) (k := k) (by omega)
     have h1 := pw_pos (ps.getD k pz).t
     exact ⟨⟨by omega, by omega, rfl, by omega⟩, hP⟩
    rintro ⟨e, p2, gL7v3, nL7v3⟩ HL3 ⟨lst3, at_L7v3, pl_L7v3, ln_L7v3, hI⟩ KL3 hKL3
    refine .forget (fr' := [(10, some (.int .i64 (e : Int))), (7, some (.slice (some ⟨gL7v3, 0, none⟩) nL7v3 nL7v3)), (1, some _), (2, some _), (9, some _), (32, some _), (33, some _), (34, some _)]) ⟨rfl, rfl, rfl, rfl, rfl, rfl, rfl, rfl, trivial⟩ ?_
    have nx_HL3 := lst3.nx
    replace hle := hle.st lst3 (fun k hk => ⟨by omega, trivial⟩)
    replace lst2 := lst2.sQ lst3
    have lt_at_L7v3 := GHeap.ltg at_L7v3
    replace ha := base_ha.mono hle
    replace hb := base_hb.mono hle
    obtain ⟨⟨he, hp1, hp2, hwe⟩, hP⟩ := hI
    have hl18 : p2.length ≤ 18 := by
      have hB := Nat.mul_le_mul_right ((pw (ps.getD k pz).t - 1) / 3) (show e ≤ 3 by omega)
      exact pws_len (k := k + 1) (by omega) (by omega)
    have htl := pcells_len p2
    refine .seq (fun K14 hK14 => .seq (fun K15 hK15 => .region (.mv rfl (.mv rfl (.q rfl (.len sl_24_A rfl) (.q rfl (.cmp rfl rfl rfl) (.nil (hK15 _ _ ?_))))))))
    refine .cond rfl (fun h41 => ?_) (fun h41 => ?_)
    ·
     simp only [sps] at h41
     refine .skip ?_
     refine hK14 _ _ (.seq (fun K16 hK16 => ?_))
     refine .block ?_
     refine .seq (fun K17 hK17 => ?_)
     refine .regionD mo_B (.q 0 (.q 1 (.q 2 (.q 3 (.q 4 (.q 5 (.q 6 (.q 7 (.q 8 (.q 9 (.done))))))))))) (by kernel_rfl) ?_
     obtain rfl := ln_L7v3
     have sA := pcells_slA at_L7v3
     have mk := pcells_mem at_L7v3 (i := k) (by omega)
     refine .mv rfl rfl (.mv rfl rfl ?_)
     refine .q rfl (.idxN sl_24_A (by assumption) rfl rfl (by omega)) ?_
     refine .q rfl (.loadI on_2_A (by assumption) rfl (by omega)) ?_
     refine .mv rfl rfl (.mv rfl rfl ?_)
     refine .q rfl (.idx sl_115_Di (by assumption) (by omega) rfl rfl (by omega) (by omega) rfl) ?_
     refine .q rfl (.fieldAddr fo_118_1_Dg rfl) (.q rfl (.load on_2_A rfl (mk.2 1 _ rfl)) (.q rfl (.cmp rfl rfl rfl) ?_))
     refine .done ?_
     refine hK17 _ _ ?_
     refine .cond rfl (fun h53 => ?_) (fun h53 => ?_)
     ·
      simp only [sps] at h53
      have pk := hP.at (i := k) (by omega)
      have iE := Ints.of_get pk.2.2.2.2
      have yb := hy e (by omega)
      have pk1 := pk.1
      have hh : ((p2.getD k pz).e ++ [(e : Int)]).length = (p2.getD k pz).e.length + 1 := by rw [List.length_append]; rfl
      refine .regionD mo_B (.q 0 (.q 1 (.q 2 (.q 3 (.q 4 (.q 5 (.q 6 (.q 7 (.q 8 (.q 9 (.q 10 (.q 11 (.q 12 (.q 13 (.q 14 (.q 16 (.or (.c 15 1 (.c 17 1 (.c 18 1 (.q 19 (.c 20 1 (.c 21 0 (.c 22 0 (.done)))))))) (.c 17 1 (.c 15 1 (.c 18 1 (.q 19 (.c 20 1 (.c 21 0 (.c 22 0 (.done))))))))))))))))))))))))) (by kernel_rfl) ?_
      refine .cut [(1, some _), (2, some _), (9, some _), (10, some _), (32, some _), (33, some _), (34, some _), (38, some _), (39, some _), (40, some _), (41, some _), (44, some _), (45, some _), (46, some _), (47, some _), (48, some _), (49, some _), (50, some _), (51, some _), (52, some _), (53, some _)] ⟨rfl, rfl, rfl, rfl, rfl, rfl, rfl, rfl, rfl, rfl, rfl, rfl, rfl, rfl, rfl, rfl, rfl, rfl, rfl, rfl, rfl, trivial⟩ (fun rest fr' H' => ∃ (gE : Nat) (gV : Nat), Sub ((7, some (.slice (some ⟨gV, 0, none⟩) (p2.length + 1) (p2.length + 1))) :: rest) fr' ∧ St [gL7v3] HL3 H' ∧ H'.get gE = some (.row (ints ((p2.getD k pz).e ++ [(e : Int)])) 2 true) ∧ HL3.next ≤ gE ∧ H'.get gV = some (.row (pcells (p2 ++ [⟨(p2.getD k pz).f, ys.getD e 0, (p2.getD k pz).e ++ [(e : Int)], gE⟩])) 118 true) ∧ HL3.next ≤ gV) ?_ ?_
      ·
       have hf0 := St.refl [gL7v3] HL3
       refine .qB rfl (.refl _) (.move rfl) (.qB rfl (.refl _) (.move rfl) (.qB rfl (.refl _) (.move rfl) ?_))
       refine .q rfl (.idx sl_115_Di (by assumption) (by omega) rfl rfl (by omega) (by omega) rfl) ?_
       refine .qB rfl (.refl _) (.fieldAddr fo_118_0_Dg rfl) (.q rfl (.load on_2_A rfl (mk.2 0 _ rfl)) (.qB rfl (.refl _) (.move rfl) (.qB rfl (.refl _) (.move rfl) ?_)))
       refine .q rfl (.idxN sl_24_A (by assumption) rfl rfl (by omega)) ?_
       refine .q rfl (.loadI on_2_A (by assumption) rfl (by omega)) ?_
       refine .qB rfl (.refl _) (.move rfl) (.qB rfl (.refl _) (.move rfl) ?_)
       refine .q rfl (.idx sl_115_Di (by assumption) (by omega) rfl rfl (by omega) (by omega) rfl) ?_
       refine .qB rfl (.refl _) (.fieldAddr fo_118_2_Dg rfl) (.q rfl (.load on_24_B rfl (mk.2 2 _ rfl)) (.qB rfl (.refl _) (.move rfl) ?_))
       refine .orI ?_ ?_
       ·
        refine .call1 rfl rfl rfl rfl rfl @Try.call102 rfl (l01Own_c (by first | exact iE | exact Ints.mono iE (by assumption))) ?_
        rintro _ H69 ⟨le69, g69, rfl, at69, ge69⟩
        have hbl := le69
        refine ⟨hbl, ?_⟩
        replace hf0 := hf0.le le69
        replace at_L7v3 := le69.2 _ _ at_L7v3
        have lt_at69 := GHeap.ltg at69
        refine .c1 rfl rfl rfl rfl (.litA rfl sl_24_A ze_2_L rfl rfl rfl rfl) ?_
        rintro _ H71 ⟨g71, rfl, le71, ge71, at71⟩
        replace hbl := hbl.trans le71
        refine ⟨hbl, ?_⟩
        replace hf0 := hf0.le le71
        replace at_L7v3 := le71.2 _ _ at_L7v3
        replace at69 := le71.2 _ _ at69
        have lt_at71 := GHeap.ltg at71
        refine .c1 rfl rfl rfl rfl (.appendI rfl sl_24_A ze_2_L rfl by_2_L sl_24_A rfl rfl (by assumption) (by assumption) (by first | omega | (simp <;> omega)) (by omega) (by omega)) ?_
        rintro _ H72 ⟨g72, rfl, st72, ge72, at72⟩
        replace hbl := hbl.st st72 (fun k hk => ⟨by omega, trivial⟩)
        refine ⟨hbl, ?_⟩
        replace hf0 := hf0.sA st72
        replace at_L7v3 := st72.s at_L7v3
        have lt_at72 := GHeap.ltg at72
        refine .qB rfl hbl (.build bt_118_Di rfl rfl rfl) ?_
        refine .c1 rfl rfl rfl rfl (.litA rfl sl_115_Di ze_118_Di rfl rfl rfl rfl) ?_
        rintro _ H74 ⟨g74, rfl, le74, ge74, at74⟩
        replace hbl := hbl.trans le74
        refine ⟨hbl, ?_⟩
        replace hf0 := hf0.le le74
        replace at_L7v3 := le74.2 _ _ at_L7v3
        replace at72 := le74.2 _ _ at72
        have lt_at74 := GHeap.ltg at74
        refine .c0 rfl rfl rfl rfl (.appendV rfl sl_115_Di ze_118_Di rfl by_118_Di sl_115_Di rfl rfl (by assumption) (by assumption) (by first | omega | (simp <;> omega)) rfl rfl (by omega) (by omega)) ?_
        rintro _ H75 ⟨g75, rfl, st75, ge75, at75⟩
        replace hf0 := hf0.sQ st75
        replace at72 := st75.s at72
        refine .d0 rfl rfl rfl rfl (.quiet (.assign rfl) CIs.mk) ?_
        refine .done ?_
        exact ⟨_, _, ⟨rfl, rfl, rfl, rfl, rfl, rfl, rfl, rfl, rfl, rfl, rfl, rfl, rfl, rfl, rfl, rfl, rfl, rfl, rfl, rfl, rfl, rfl, trivial⟩, hf0, by assumption, by omega, by (rw [pcells_snoc]; unfold Pth.cs; dsimp only; rw [hh]; assumption), by omega⟩
       refine .c1 rfl rfl rfl rfl (.litA rfl sl_24_A ze_2_L rfl rfl rfl rfl) ?_
       rintro _ H71x2 ⟨g71x2, rfl, le71x2, ge71x2, at71x2⟩
       have hbl := le71x2
       refine ⟨hbl, ?_⟩
       replace hf0 := hf0.le le71x2
       replace at_L7v3 := le71x2.2 _ _ at_L7v3
       have lt_at71x2 := GHeap.ltg at71x2
       refine .call1 rfl rfl rfl rfl rfl @Try.call102 rfl (l01Own_c (by first | exact iE | exact Ints.mono iE (by assumption))) ?_
       rintro _ H69x2 ⟨le69x2, g69x2, rfl, at69x2, ge69x2⟩
       replace hbl := hbl.trans le69x2
       refine ⟨hbl, ?_⟩
       replace hf0 := hf0.le le69x2
       replace at_L7v3 := le69x2.2 _ _ at_L7v3
       replace at71x2 := le69x2.2 _ _ at71x2
       have lt_at69x2 := GHeap.ltg at69x2
       refine .c1 rfl rfl rfl rfl (.appendI rfl sl_24_A ze_2_L rfl by_2_L sl_24_A rfl rfl (by assumption) (by assumption) (by first | omega | (simp <;> omega)) (by omega) (by omega)) ?_
       rintro _ H72x2 ⟨g72x2, rfl, st72x2, ge72x2, at72x2⟩
       replace hbl := hbl.st st72x2 (fun k hk => ⟨by omega, trivial⟩)
       refine ⟨hbl, ?_⟩
       replace hf0 := hf0.sA st72x2
       replace at_L7v3 := st72x2.s at_L7v3
       have lt_at72x2 := GHeap.ltg at72x2
       refine .qB rfl hbl (.build bt_118_Di rfl rfl rfl) ?_
       refine .c1 rfl rfl rfl rfl (.litA rfl sl_115_Di ze_118_Di rfl rfl rfl rfl) ?_
       rintro _ H74x2 ⟨g74x2, rfl, le74x2, ge74x2, at74x2⟩
       replace hbl := hbl.trans le74x2
       refine ⟨hbl, ?_⟩
       replace hf0 := hf0.le le74x2
       replace at_L7v3 := le74x2.2 _ _ at_L7v3
       replace at72x2 := le74x2.2 _ _ at72x2
       have lt_at74x2 := GHeap.ltg at74x2
       refine .c0 rfl rfl rfl rfl (.appendV rfl sl_115_Di ze_118_Di rfl by_118_Di sl_115_Di rfl rfl (by assumption) (by assumption) (by first | omega | (simp <;> omega)) rfl rfl (by omega) (by omega)) ?_
       rintro _ H75x2 ⟨g75x2, rfl, st75x2, ge75x2, at75x2⟩
       replace hf0 := hf0.sQ st75x2
       replace at72x2 := st75x2.s at72x2
       refine .d0 rfl rfl rfl rfl (.quiet (.assign rfl) CIs.mk) ?_
       refine .done ?_
       exact ⟨_, _, ⟨rfl, rfl, rfl, rfl, rfl, rfl, rfl, rfl, rfl, rfl, rfl, rfl, rfl, rfl, rfl, rfl, rfl, rfl, rfl, rfl, rfl, rfl, trivial⟩, hf0, by assumption, by omega, by (rw [pcells_snoc]; unfold Pth.cs; dsimp only; rw [hh]; assumption), by omega⟩
      rintro fr913 H913 ⟨gE13, gV13, hsub913, st913, aE, ge913, at913, gv913⟩
      have hpu := pw_up (t := (ps.getD k pz).t) (u := ys.getD e 0) (by rw [← hp2]; exact pk.2.1.1) (by rw [← hp2]; have := hup e (by omega); omega) (by omega)
      obtain ⟨p3, hp3, hl3, hg3, hw3, hP3⟩ : ∃ p3, p3 = p2 ++ [⟨(p2.getD k pz).f, ys.getD e 0, (p2.getD k pz).e ++ [(e : Int)], gE13⟩] ∧ p3.length = p2.length + 1 ∧ p3.getD k pz = p2.getD k pz ∧ pws (p3.drop (k + 1)) ≤ pws (p2.drop (k + 1)) + (pw (ps.getD k pz).t - 1) / 3 ∧ PthOk H.next 2 ((n : Int) - 1) H913 p3 := ⟨_, rfl, by simp, by rw [getD_snoc, if_pos (by omega)], by rw [pws_drop_snoc (by omega)]; dsimp only; omega, PthOk.snoc (p := ⟨(p2.getD k pz).f, ys.getD e 0, (p2.getD k pz).e ++ [(e : Int)], gE13⟩) (hP.keep (st913.lasts1 at_L7v3 rfl)) pk1 yb (by dsimp only; omega) (by dsimp only; omega) aE⟩
      rw [← hp3] at at913
      replace lst3 := lst3.sQ st913
      refine hK16 _ _ ?_
      refine .forget hsub913 ?_
      refine .region (.mv rfl ?_)
      refine .q rfl (.add rfl rfl rfl (by omega) (by omega)) ?_
      refine .mv rfl (.nil ?_)
      refine hKL3 ((e + 1, p3, _, _)) _ _ ?_ ?_ ⟨rfl, rfl, rfl, rfl, rfl, rfl, rfl, rfl, trivial⟩
      ·
       refine ⟨lst3, by assumption, by exact ⟨.inr (by omega)⟩, by omega, ?_⟩
       have e1 := sm e ((pw (ps.getD k pz).t - 1) / 3)
       exact ⟨⟨by omega, by omega, by rw [hg3, hp2], by omega⟩, hP3⟩
      (dsimp only; omega)
     obtain ⟨p3, hp3, hl3, hg3, hw3, hP3⟩ : ∃ p3, p3 = p2 ∧ p3.length = p2.length ∧ p3.getD k pz = p2.getD k pz ∧ pws (p3.drop (k + 1)) ≤ pws (p2.drop (k + 1)) + (pw (ps.getD k pz).t - 1) / 3 ∧ PthOk H.next 2 ((n : Int) - 1) HL3 p3 := ⟨_, rfl, rfl, rfl, by omega, hP⟩
     refine .skip ?_
     refine hK16 _ _ (.region (.mv rfl ?_))
     refine .q rfl (.add rfl rfl rfl (by omega) (by omega)) ?_
     refine .mv rfl (.nil ?_)
     refine hKL3 ((e + 1, p3, _, _)) _ _ ?_ ?_ ⟨rfl, rfl, rfl, rfl, rfl, rfl, rfl, rfl, trivial⟩
     ·
      refine ⟨lst3, by (rw [hp3]; assumption), by assumption, by omega, ?_⟩
      have e1 := sm e ((pw (ps.getD k pz).t - 1) / 3)
      exact ⟨⟨by omega, by omega, by rw [hg3, hp2], by omega⟩, hP3⟩
     (dsimp only; omega)
    try simp only [sps] at h41
    refine .exit ?_
    refine hK12 _ _ (.region (.mv rfl ?_))
    refine .q rfl (.add rfl rfl rfl (by omega) (by omega)) ?_
    refine .mv rfl (.nil ?_)
    refine hKL2 ((k + 1, p2, _, _)) _ _ ?_ ?_ ⟨rfl, rfl, rfl, rfl, trivial⟩
    ·
     refine ⟨lst2, by assumption, by exact pl_L7v3.trans pl_L7v2 (by omega), by omega, ?_⟩
     have hB := Nat.mul_le_mul_right ((pw (ps.getD k pz).t - 1) / 3) (show e ≤ 3 by omega)
     exact ⟨⟨by omega, by omega⟩, hP⟩
    (dsimp only; omega)
   try simp only [sps] at h35
   refine .exit ?_
   refine hK8 _ _ (.seq (fun K18 hK18 => .seq (fun K19 hK19 => .region ?_)))
   obtain rfl := ln_L7v2
   refine .mv rfl (.nil (hK19 _ _ ?_))
   refine .block ?_
   refine .loopR (σ := Nat × List Pth) [(7, some _)] (fun (i, q4) => [(11, some (.int .i64 (i : Int)))]) (fun (i, q4) H' => St [gL7v2] HL2 H' ∧ H'.get gL7v2 = some (.row (pcells q4) 118 true) ∧ (i ≤ 44 ∧ q4.length = ps.length) ∧ PthOk H.next 2 ((n : Int) - 1) H' q4) (fun (i, q4) => 60 - i) ((1, ps)) ⟨rfl, trivial⟩ ⟨rfl, trivial⟩ ?_ ?_
   ·
    refine ⟨.refl _ _, by assumption, ?_⟩
    exact ⟨⟨by omega, by omega⟩, hP⟩
   rintro ⟨i, q4⟩ HL4 ⟨lst4, at_L7, hI⟩ KL4 hKL4
   refine .forget (fr' := [(11, some (.int .i64 (i : Int))), (7, some _)]) ⟨rfl, rfl, trivial⟩ ?_
   replace hle := hle.st lst4 (fun k hk => ⟨by omega, trivial⟩)
   obtain ⟨⟨hi4, hpl⟩, hP⟩ := hI
   refine .seq (fun K20 hK20 => .seq (fun K21 hK21 => .region (.mv rfl (.mv rfl (.q rfl (.len sl_115_Di rfl) (.q rfl (.cmp rfl rfl rfl) (.nil (hK21 _ _ ?_))))))))
   refine .cond rfl (fun h79 => ?_) (fun h79 => ?_)
   ·
    simp only [sps] at h79
    refine .skip ?_
    refine hK20 _ _ (.seq (fun K22 hK22 => ?_))
    refine .block ?_
    refine .seq (fun K23 hK23 => .region (.mv rfl (.mv rfl (.nil (hK23 _ _ ?_)))))
    refine .block ?_
    refine .loopR (σ := Nat × List Pth) [(7, some _), (11, some _)] (fun (z, qs) => [(12, some (.int .i64 (z : Int)))]) (fun (z, qs) H' => St [gL7v2] HL4 H' ∧ H'.get gL7v2 = some (.row (pcells qs) 118 true) ∧ (z < qs.length ∧ qs.length = ps.length) ∧ PthOk H.next 2 ((n : Int) - 1) H' qs) (fun (z, qs) => z) ((i, q4)) ⟨rfl, rfl, trivial⟩ ⟨rfl, trivial⟩ ?_ ?_
    ·
     refine ⟨.refl _ _, by assumption, ?_⟩
     exact ⟨⟨by omega, by omega⟩, hP⟩
    rintro ⟨z, qs⟩ HL5 ⟨lst5, at_L7, hI⟩ KL5 hKL5
    refine .forget (fr' := [(12, some (.int .i64 (z : Int))), (7, some _), (11, some _)]) ⟨rfl, rfl, rfl, trivial⟩ ?_
    replace lst4 := lst4.sQ lst5
    have rk := St.refl [gL7v2] HL5
    obtain ⟨⟨hz, hql⟩, hP⟩ := hI
    have hat7 := at_L7
    refine .seq (fun K24 hK24 => .seq (fun K25 hK25 => ?_))
    refine .regionD mo_B (.q 0 (.q 1 (.q 2 (.q 3 (.q 4 (.q 5 (.q 6 (.q 7 (.q 8 (.q 9 (.q 10 (.q 11 (.c 12 0 (.q 13 (.done))))))))))))))) (by kernel_rfl) ?_
    refine .mv rfl rfl (.q rfl (.cmp rfl rfl rfl) (.mv rfl rfl ?_))
    refine .split (fun h85 => ?_) (fun h85 => ?_)
    ·
     simp only [sps] at h85
     obtain ⟨w, rfl⟩ : ∃ w, z = w + 1 := ⟨z - 1, by omega⟩
     have sA := pcells_slA at_L7
     rw [hql] at sA
     have mz := pcells_mem at_L7 (i := w + 1) (by omega)
     have mw := pcells_mem at_L7 (i := w) (by omega)
     have pz1 := hP.at (i := w + 1) (by omega)
     have pz2 := hP.at (i := w) (by omega)
     refine .qg rfl (.move rfl) (.qg rfl (.move rfl) ?_)
     refine .qg rfl (.idx sl_115_Di (by assumption) (by omega) rfl rfl (by omega) (by omega) rfl) ?_
     refine .qg rfl (.loadM ag_118_Di rfl (by assumption)) ?_
     refine .qg rfl (.move rfl) (.qg rfl (.move rfl) ?_)
     refine .qg rfl (.sub (r := (w : Int)) rfl rfl (by omega) (by omega) (by omega)) ?_
     refine .qg rfl (.idx sl_115_Di (by assumption) (by omega) rfl rfl (by omega) (by omega) rfl) ?_
     refine .qg rfl (.loadM ag_118_Di rfl (by assumption)) ?_
     refine .call0g rfl rfl rfl rfl rfl rfl rfl @Try.call128 rfl (l03Before_c (Ints.of_get pz1.2.2.2.2) (Ints.of_get pz2.2.2.2.2) (by omega)) ?_
     rintro _ H95 ⟨le95, q95, rfl⟩
     replace lst4 := lst4.le le95
     replace lst5 := lst5.le le95
     replace rk := rk.le le95
     replace at_L7 := le95.2 _ _ at_L7
     refine .q rfl (.pickT rfl rfl) ?_
     refine .done ?_
     refine hK25 _ _ ?_
     refine .cond rfl (fun h96 => ?_) (fun h96 => ?_)
     ·
      try simp only [sps] at h96
      refine .skip ?_
      refine hK24 _ _ (.seq (fun K26 hK26 => ?_))
      refine .block ?_
      refine .seq (fun K27 hK27 => .region ?_)
      have mz := pcells_mem at_L7 (i := w + 1) (by omega)
      have sA := pcells_slA at_L7
      rw [hql] at sA
      refine .mv rfl (.mv rfl ?_)
      refine .q rfl (.idx sl_115_Di (by assumption) (by omega) rfl rfl (by omega) (by omega) rfl) ?_
      refine .q rfl (.loadM ag_118_Di rfl (by assumption)) ?_
      refine .R rfl (.allocR rfl ze_118_Di rfl) ?_
      rintro _ H13 ⟨g13, rfl, le13, ge13, at13⟩
      replace lst5 := lst5.le le13
      replace rk := rk.le le13
      replace at_L7 := le13.2 _ _ at_L7
      refine .r0 rfl rfl (.fillA rfl sz_118_Dg rfl rfl rfl rfl) ?_
      rintro _ H20005 ⟨rfl, st20005, at20005⟩
      replace lst5 := lst5.sA st20005
      replace rk := rk.sA st20005
      have ne_gL7v2_g13 : NE gL7v2 g13 := .a
      replace at_L7 := st20005.s at_L7 ne_gL7v2_g13.ne
      refine .nil (hK27 _ _ (.seq (fun K28 hK28 => .region ?_)))
      have mw := pcells_mem at_L7 (i := w) (by omega)
      have sA := pcells_slA at_L7
      rw [hql] at sA
      refine .mv rfl (.mv rfl (.mv rfl (.mv rfl ?_)))
      refine .q rfl (.sub (r := (w : Int)) rfl rfl (by omega) (by omega) (by omega)) ?_
      refine .q rfl (.idx sl_115_Di (by assumption) (by omega) rfl rfl (by omega) (by omega) rfl) ?_
      refine .q rfl (.loadM ag_118_Di rfl (by assumption)) ?_
      refine .q rfl (.idx sl_115_Di (by assumption) (by omega) rfl rfl (by omega) (by omega) rfl) ?_
      refine .r0 rfl rfl (.storeNR rfl sz_118_Dg rfl rfl rfl rfl (by assumption) (by rw [pcells_len]; simp; omega)) ?_
      rintro _ H21008 ⟨rfl, st21008, at21008⟩
      replace lst5 := lst5.sQ st21008
      replace rk := rk.sQ st21008
      replace at20005 := st21008.s at20005 (Ne.symm ne_gL7v2_g13.ne)
      obtain ⟨q5, hq5, hl5, hP5⟩ : ∃ q5, q5 = qs.set (w + 1) (qs.getD w pz) ∧ q5.length = qs.length ∧ PthOk H.next 2 ((n : Int) - 1) H21008 q5 := ⟨_, rfl, by simp, (hP.keep (rk.lasts1 hat7 rfl)).set (by omega)⟩
      replace at21008 : GHeap.get H21008 gL7v2 = some (.row (pcells q5) 118 true) := by
        have hx := at21008
        simp only [Int.toNat_natCast, Nat.zero_add] at hx
        rw [hq5, ← pcells_set _ (by omega)]
        exact hx
      have sA := pcells_slA at21008
      rw [hl5, hql] at sA
      refine .nil (hK28 _ _ (.region (.mv rfl (.mv rfl ?_))))
      refine .q rfl (.sub (r := (w : Int)) rfl rfl (by omega) (by omega) (by omega)) ?_
      refine .q rfl (.loadM ag_118_Di rfl ⟨rfl, Mem.of_get at20005⟩) ?_
      refine .q rfl (.idx sl_115_Di (by assumption) (by omega) rfl rfl (by omega) (by omega) rfl) ?_
      refine .r0 rfl rfl (.storeNR rfl sz_118_Dg rfl rfl rfl rfl (by assumption) (by rw [pcells_len]; simp; omega)) ?_
      rintro _ H22005 ⟨rfl, st22005, at22005⟩
      replace lst5 := lst5.sQ st22005
      replace rk := rk.sQ st22005
      obtain ⟨q6, hq6, hl6, hP6⟩ : ∃ q6, q6 = q5.set w (qs.getD (w + 1) pz) ∧ q6.length = qs.length ∧ PthOk H.next 2 ((n : Int) - 1) H22005 q6 := ⟨_, rfl, by simp; omega, fun p hp => by
        rcases List.mem_or_eq_of_mem_set hp with h | rfl
        · have h9 := (hP.keep (rk.lasts1 hat7 rfl)).set (i := w + 1) (j := w) (by omega) p (by rw [← hq5]; exact h)
          rw [List.length_set] at h9 ⊢
          rw [hl5]
          exact h9
        · have h9 := (hP.keep (rk.lasts1 hat7 rfl)).at (i := w + 1) (by omega)
          rw [List.length_set, hl5]
          exact h9⟩
      replace at22005 : GHeap.get H22005 gL7v2 = some (.row (pcells q6) 118 true) := by
        have hx := at22005
        simp only [Int.toNat_natCast, Nat.zero_add] at hx
        rw [hq6, ← pcells_set _ (by omega)]
        exact hx
      refine .nil (hK26 _ _ (.region (.mv rfl ?_)))
      refine .q rfl (.sub (r := (w : Int)) rfl rfl (by omega) (by omega) (by omega)) ?_
      refine .mv rfl (.nil ?_)
      refine hKL5 ((w, q6)) _ _ ?_ ?_ ⟨rfl, rfl, rfl, trivial⟩
      ·
       refine ⟨lst5, by assumption, ?_⟩
       exact ⟨⟨by omega, by omega⟩, hP6⟩
      (dsimp only; omega)
     try simp only [sps] at h96
     refine .exit ?_
     refine hK22 _ _ (.region (.mv rfl ?_))
     refine .q rfl (.add rfl rfl rfl (by omega) (by omega)) ?_
     refine .mv rfl (.nil ?_)
     refine hKL4 ((i + 1, qs)) _ _ ?_ ?_ ⟨rfl, rfl, trivial⟩
     ·
      refine ⟨lst4, by assumption, ?_⟩
      exact ⟨⟨by omega, by omega⟩, by first | exact hP | exact hP.keep (.of_le (by assumption))⟩
     (dsimp only; omega)
    try simp only [sps] at h85
    refine .z rfl (.z rfl (.z rfl (.z rfl (.z rfl (.z rfl (.z rfl (.z rfl (.z rfl (.sgc rfl rfl rfl rfl rfl rfl (.q rfl (.pickF rfl rfl) ?_))))))))))
    refine .done ?_
    refine hK25 _ _ ?_
    refine .condF rfl ?_
    refine .exit ?_
    refine hK22 _ _ (.region (.mv rfl ?_))
    refine .q rfl (.add rfl rfl rfl (by omega) (by omega)) ?_
    refine .mv rfl (.nil ?_)
    refine hKL4 ((i + 1, qs)) _ _ ?_ ?_ ⟨rfl, rfl, trivial⟩
    ·
     refine ⟨lst4, by assumption, ?_⟩
     exact ⟨⟨by omega, by omega⟩, by first | exact hP | exact hP.keep (.of_le (by assumption))⟩
    (dsimp only; omega)
   try simp only [sps] at h79
   refine .exit ?_
   refine hK18 _ _ (.seq (fun K29 hK29 => .region (.mv rfl (.mv rfl (.nil (hK29 _ _ ?_))))))
   refine .ret ?_
   refine hret _ _ ?_
   refine ⟨_, rfl, ?_⟩
   exact ⟨hle, gL7v2, q4, by rw [‹q4.length = _›], by omega, by assumption, hP, by omega⟩
  try simp only [sps] at h31
  refine .z rfl (.z rfl (.z rfl (.q rfl (.pickF rfl rfl) (.nil (hK11 _ _ ?_)))))
  refine .condF rfl ?_
  refine .exit ?_
  refine hK8 _ _ (.seq (fun K30 hK30 => .seq (fun K31 hK31 => .region ?_)))
  obtain rfl := ln_L7v2
  refine .mv rfl (.nil (hK31 _ _ ?_))
  refine .block ?_
  refine .loopR (σ := Nat × List Pth) [(7, some _)] (fun (i, q4) => [(11, some (.int .i64 (i : Int)))]) (fun (i, q4) H' => St [gL7v2] HL2 H' ∧ H'.get gL7v2 = some (.row (pcells q4) 118 true) ∧ (i ≤ 44 ∧ q4.length = ps.length) ∧ PthOk H.next 2 ((n : Int) - 1) H' q4) (fun (i, q4) => 60 - i) ((1, ps)) ⟨rfl, trivial⟩ ⟨rfl, trivial⟩ ?_ ?_
  ·
   refine ⟨.refl _ _, by assumption, ?_⟩
   exact ⟨⟨by omega, by omega⟩, hP⟩
  rintro ⟨i, q4⟩ HL4 ⟨lst4, at_L7, hI⟩ KL4 hKL4
  refine .forget (fr' := [(11, some (.int .i64 (i : Int))), (7, some _)]) ⟨rfl, rfl, trivial⟩ ?_
  replace hle := hle.st lst4 (fun k hk => ⟨by omega, trivial⟩)
  obtain ⟨⟨hi4, hpl⟩, hP⟩ := hI
  refine .seq (fun K32 hK32 => .seq (fun K33 hK33 => .region (.mv rfl (.mv rfl (.q rfl (.len sl_115_Di rfl) (.q rfl (.cmp rfl rfl rfl) (.nil (hK33 _ _ ?_))))))))
  refine .cond rfl (fun h79 => ?_) (fun h79 => ?_)
  ·
   simp only [sps] at h79
   refine .skip ?_
   refine hK32 _ _ (.seq (fun K34 hK34 => ?_))
   refine .block ?_
   refine .seq (fun K35 hK35 => .region (.mv rfl (.mv rfl (.nil (hK35 _ _ ?_)))))
   refine .block ?_
   refine .loopR (σ := Nat × List Pth) [(7, some _), (11, some _)] (fun (z, qs) => [(12, some (.int .i64 (z : Int)))]) (fun (z, qs) H' => St [gL7v2] HL4 H' ∧ H'.get gL7v2 = some (.row (pcells qs) 118 true) ∧ (z < qs.length ∧ qs.length = ps.length) ∧ PthOk H.next 2 ((n : Int) - 1) H' qs) (fun (z, qs) => z) ((i, q4)) ⟨rfl, rfl, trivial⟩ ⟨rfl, trivial⟩ ?_ ?_
   ·
    refine ⟨.refl _ _, by assumption, ?_⟩
    exact ⟨⟨by omega, by omega⟩, hP⟩
   rintro ⟨z, qs⟩ HL5 ⟨lst5, at_L7, hI⟩ KL5 hKL5
   refine .forget (fr' := [(12, some (.int .i64 (z : Int))), (7, some _), (11, some _)]) ⟨rfl, rfl, rfl, trivial⟩ ?_
   have nx_HL5 := lst5.nx
   replace lst4 := lst4.sQ lst5
   have lt_at_L7 := GHeap.ltg at_L7
   have rk := St.refl [gL7v2] HL5
   obtain ⟨⟨hz, hql⟩, hP⟩ := hI
   have hat7 := at_L7
   refine .seq (fun K36 hK36 => .seq (fun K37 hK37 => ?_))
   refine .regionD mo_B (.q 0 (.q 1 (.q 2 (.q 3 (.q 4 (.q 5 (.q 6 (.q 7 (.q 8 (.q 9 (.q 10 (.q 11 (.c 12 0 (.q 13 (.done))))))))))))))) (by kernel_rfl) ?_
   refine .mv rfl rfl (.q rfl (.cmp rfl rfl rfl) (.mv rfl rfl ?_))
   refine .split (fun h85 => ?_) (fun h85 => ?_)
   ·
    simp only [sps] at h85
    obtain ⟨w, rfl⟩ : ∃ w, z = w + 1 := ⟨z - 1, by omega⟩
    have sA := pcells_slA at_L7
    rw [hql] at sA
    have mz := pcells_mem at_L7 (i := w + 1) (by omega)
    have mw := pcells_mem at_L7 (i := w) (by omega)
    have pz1 := hP.at (i := w + 1) (by omega)
    have pz2 := hP.at (i := w) (by omega)
    refine .qg rfl (.move rfl) (.qg rfl (.move rfl) ?_)
    refine .qg rfl (.idx sl_115_Di (by assumption) (by omega) rfl rfl (by omega) (by omega) rfl) ?_
    refine .qg rfl (.loadM ag_118_Di rfl (by assumption)) ?_
    refine .qg rfl (.move rfl) (.qg rfl (.move rfl) ?_)
    refine .qg rfl (.sub (r := (w : Int)) rfl rfl (by omega) (by omega) (by omega)) ?_
    refine .qg rfl (.idx sl_115_Di (by assumption) (by omega) rfl rfl (by omega) (by omega) rfl) ?_
    refine .qg rfl (.loadM ag_118_Di rfl (by assumption)) ?_
    refine .call0g rfl rfl rfl rfl rfl rfl rfl @Try.call128 rfl (l03Before_c (Ints.of_get pz1.2.2.2.2) (Ints.of_get pz2.2.2.2.2) (by omega)) ?_
    rintro _ H95x2 ⟨le95x2, q95x2, rfl⟩
    have nx_H95x2 := le95x2.1
    replace lst4 := lst4.le le95x2
    replace lst5 := lst5.le le95x2
    replace rk := rk.le le95x2
    replace at_L7 := le95x2.2 _ _ at_L7
    refine .q rfl (.pickT rfl rfl) ?_
    refine .done ?_
    refine hK37 _ _ ?_
    refine .cond rfl (fun h96 => ?_) (fun h96 => ?_)
    ·
     try simp only [sps] at h96
     refine .skip ?_
     refine hK36 _ _ (.seq (fun K38 hK38 => ?_))
     refine .block ?_
     refine .seq (fun K39 hK39 => .region ?_)
     have mz := pcells_mem at_L7 (i := w + 1) (by omega)
     have sA := pcells_slA at_L7
     rw [hql] at sA
     refine .mv rfl (.mv rfl ?_)
     refine .q rfl (.idx sl_115_Di (by assumption) (by omega) rfl rfl (by omega) (by omega) rfl) ?_
     refine .q rfl (.loadM ag_118_Di rfl (by assumption)) ?_
     refine .R rfl (.allocR rfl ze_118_Di rfl) ?_
     rintro _ H13x2 ⟨g13x2, rfl, le13x2, ge13x2, at13x2⟩
     replace lst5 := lst5.le le13x2
     replace rk := rk.le le13x2
     replace at_L7 := le13x2.2 _ _ at_L7
     refine .r0 rfl rfl (.fillA rfl sz_118_Dg rfl rfl rfl rfl) ?_
     rintro _ H20005x2 ⟨rfl, st20005x2, at20005x2⟩
     replace lst5 := lst5.sA st20005x2
     replace rk := rk.sA st20005x2
     have ne_gL7v2_g13x2 : NE gL7v2 g13x2 := .a
     replace at_L7 := st20005x2.s at_L7 ne_gL7v2_g13x2.ne
     refine .nil (hK39 _ _ (.seq (fun K40 hK40 => .region ?_)))
     have mw := pcells_mem at_L7 (i := w) (by omega)
     have sA := pcells_slA at_L7
     rw [hql] at sA
     refine .mv rfl (.mv rfl (.mv rfl (.mv rfl ?_)))
     refine .q rfl (.sub (r := (w : Int)) rfl rfl (by omega) (by omega) (by omega)) ?_
     refine .q rfl (.idx sl_115_Di (by assumption) (by omega) rfl rfl (by omega) (by omega) rfl) ?_
     refine .q rfl (.loadM ag_118_Di rfl (by assumption)) ?_
     refine .q rfl (.idx sl_115_Di (by assumption) (by omega) rfl rfl (by omega) (by omega) rfl) ?_
     refine .r0 rfl rfl (.storeNR rfl sz_118_Dg rfl rfl rfl rfl (by assumption) (by rw [pcells_len]; simp; omega)) ?_
     rintro _ H21008x2 ⟨rfl, st21008x2, at21008x2⟩
     replace lst5 := lst5.sQ st21008x2
     replace rk := rk.sQ st21008x2
     replace at20005x2 := st21008x2.s at20005x2 (Ne.symm ne_gL7v2_g13x2.ne)
     obtain ⟨q5, hq5, hl5, hP5⟩ : ∃ q5, q5 = qs.set (w + 1) (qs.getD w pz) ∧ q5.length = qs.length ∧ PthOk H.next 2 ((n : Int) - 1) H21008x2 q5 := ⟨_, rfl, by simp, (hP.keep (rk.lasts1 hat7 rfl)).set (by omega)⟩
     replace at21008x2 : GHeap.get H21008x2 gL7v2 = some (.row (pcells q5) 118 true) := by
       have hx := at21008x2
       simp only [Int.toNat_natCast, Nat.zero_add] at hx
       rw [hq5, ← pcells_set _ (by omega)]
       exact hx
     have sA := pcells_slA at21008x2
     rw [hl5, hql] at sA
     refine .nil (hK40 _ _ (.region (.mv rfl (.mv rfl ?_))))
     refine .q rfl (.sub (r := (w : Int)) rfl rfl (by omega) (by omega) (by omega)) ?_
     refine .q rfl (.loadM ag_118_Di rfl ⟨rfl, Mem.of_get at20005x2⟩) ?_
     refine .q rfl (.idx sl_115_Di (by assumption) (by omega) rfl rfl (by omega) (by omega) rfl) ?_
     refine .r0 rfl rfl (.storeNR rfl sz_118_Dg rfl rfl rfl rfl (by assumption) (by rw [pcells_len]; simp; omega)) ?_
     rintro _ H22005x2 ⟨rfl, st22005x2, at22005x2⟩
     replace lst5 := lst5.sQ st22005x2
     replace rk := rk.sQ st22005x2
     obtain ⟨q6, hq6, hl6, hP6⟩ : ∃ q6, q6 = q5.set w (qs.getD (w + 1) pz) ∧ q6.length = qs.length ∧ PthOk H.next 2 ((n : Int) - 1) H22005x2 q6 := ⟨_, rfl, by simp; omega, fun p hp => by
       rcases List.mem_or_eq_of_mem_set hp with h | rfl
       · have h9 := (hP.keep (rk.lasts1 hat7 rfl)).set (i := w + 1) (j := w) (by omega) p (by rw [← hq5]; exact h)
         rw [List.length_set] at h9 ⊢
         rw [hl5]
         exact h9
       · have h9 := (hP.keep (rk.lasts1 hat7 rfl)).at (i := w + 1) (by omega)
         rw [List.length_set, hl5]
         exact h9⟩
     replace at22005x2 : GHeap.get H22005x2 gL7v2 = some (.row (pcells q6) 118 true) := by
       have hx := at22005x2
       simp only [Int.toNat_natCast, Nat.zero_add] at hx
       rw [hq6, ← pcells_set _ (by omega)]
       exact hx
     refine .nil (hK38 _ _ (.region (.mv rfl ?_)))
     refine .q rfl (.sub (r := (w : Int)) rfl rfl (by omega) (by omega) (by omega)) ?_
     refine .mv rfl (.nil ?_)
     refine hKL5 ((w, q6)) _ _ ?_ ?_ ⟨rfl, rfl, rfl, trivial⟩
     ·
      refine ⟨lst5, by assumption, ?_⟩
      exact ⟨⟨by omega, by omega⟩, hP6⟩
     (dsimp only; omega)
    try simp only [sps] at h96
    refine .exit ?_
    refine hK34 _ _ (.region (.mv rfl ?_))
    refine .q rfl (.add rfl rfl rfl (by omega) (by omega)) ?_
    refine .mv rfl (.nil ?_)
    refine hKL4 ((i + 1, qs)) _ _ ?_ ?_ ⟨rfl, rfl, trivial⟩
    ·
     refine ⟨lst4, by assumption, ?_⟩
     exact ⟨⟨by omega, by omega⟩, by first | exact hP | exact hP.keep (.of_le (by assumption))⟩
    (dsimp only; omega)
   try simp only [sps] at h85
   refine .z rfl (.z rfl (.z rfl (.z rfl (.z rfl (.z rfl (.z rfl (.z rfl (.z rfl (.sgc rfl rfl rfl rfl rfl rfl (.q rfl (.pickF rfl rfl) ?_))))))))))
   refine .done ?_
   refine hK37 _ _ ?_
   refine .condF rfl ?_
   refine .exit ?_
   refine hK34 _ _ (.region (.mv rfl ?_))
   refine .q rfl (.add rfl rfl rfl (by omega) (by omega)) ?_
   refine .mv rfl (.nil ?_)
   refine hKL4 ((i + 1, qs)) _ _ ?_ ?_ ⟨rfl, rfl, trivial⟩
   ·
    refine ⟨lst4, by assumption, ?_⟩
    exact ⟨⟨by omega, by omega⟩, by first | exact hP | exact hP.keep (.of_le (by assumption))⟩
   (dsimp only; omega)
  try simp only [sps] at h79
  refine .exit ?_
  refine hK30 _ _ (.seq (fun K41 hK41 => .region (.mv rfl (.mv rfl (.nil (hK41 _ _ ?_))))))
  refine .ret ?_
  refine hret _ _ ?_
  refine ⟨_, rfl, ?_⟩
  exact ⟨hle, gL7v2, q4, by rw [‹q4.length = _›], by omega, by assumption, hP, by omega⟩
end Go.Proofs.Ytolfggcanbpknaa
namespace Go.Proofs.Ytolfggcanbpknaa
open Go Go.GL Go.RowKit Go.Proofs
set_option maxHeartbeats 8000000 in
theorem l03Paths_c {a b : Option Addr} {xs ys : List Int} {n : Nat} {H : GHeap} (ha : Ints H a xs := by assumption) (hb : Ints H b ys := by assumption) (hl : ys.length = xs.length) (hx : xs.length ≤ 3) (hn : n ≤ 3) (hy : Bd 0 ((n : Int) - 1) ys) (hup : ∀ e, e < xs.length → xs.getD e 0 < ys.getD e 0) :
    GCalls Try.prog 120 [.int .i64 (n : Int), .slice a xs.length xs.length, .slice b ys.length ys.length] H (NewRc 2 24 18 H) := by
  refine GCalls.body (N := 147) (rs := [.cell 6 27]) Try.func120 rfl rfl rfl rfl (fun Qx hret hend => ?_)
  refine .fg [0, 1, 2] rfl ?_
  have hle := GHeap.Le.refl H
  have base_ha := ha
  have base_hb := hb
  refine .seq (fun K1 hK1 => .region ?_)
  refine .R rfl (.allocR rfl ze_27_Hj rfl) ?_
  rintro _ H6 ⟨g6, rfl, le6, ge6, at6⟩
  replace hle := hle.trans le6
  have lt_at6 := GHeap.ltg at6
  replace ha := base_ha.mono hle
  replace hb := base_hb.mono hle
  refine .nil (hK1 _ _ (.seq (fun K2 hK2 => .region (.mv rfl (.mv rfl (.mv rfl ?_))))))
  refine .call rfl rfl rfl rfl @Try.call126 rfl (l03All_c ha hb hl hx hn hy hup) ?_
  rintro _ H19 ⟨le19, gP, ps, rfl, bP, aP, hP0, hp18⟩
  have hK : PthK _ _ _ H19 ps := ⟨hP0⟩
  replace hle := hle.trans le19
  replace at6 := le19.2 _ _ at6
  have lt_aP := GHeap.ltg aP
  have bs_hK := hK
  have lv_hK : Keep H6.next H19 H19 := fun _ _ _ h => h
  refine .mv rfl (.nil (hK2 _ _ (.seq (fun K3 hK3 => .region (.mv rfl ?_)))))
  refine .R rfl (.litA rfl sl_24_A ze_2_L rfl rfl rfl rfl) ?_
  rintro _ H21 ⟨g21, rfl, le21, ge21, at21⟩
  replace hle := hle.trans le21
  replace at6 := le21.2 _ _ at6
  replace aP := le21.2 _ _ aP
  replace lv_hK := Keep.le lv_hK le21
  have lt_at21 := GHeap.ltg at21
  replace at21 : GHeap.get H21 g21 = some (.row (ints []) 2 true) := at21
  refine .R rfl (.litA rfl sl_24_A ze_2_L rfl rfl rfl rfl) ?_
  rintro _ H22 ⟨g22, rfl, le22, ge22, at22⟩
  replace hle := hle.trans le22
  replace at6 := le22.2 _ _ at6
  replace aP := le22.2 _ _ aP
  replace at21 := le22.2 _ _ at21
  replace lv_hK := Keep.le lv_hK le22
  have lt_at22 := GHeap.ltg at22
  replace at22 : GHeap.get H22 g22 = some (.row (ints []) 2 true) := at22
  refine .mv rfl ?_
  refine .R rfl (.makeI rfl sl_24_A ze_2_L by_2_L rfl rfl (by omega) (by omega) (by omega) (by omega)) ?_
  rintro _ H24 ⟨g24, rfl, le24, ge24, at24⟩
  have nx_H24 := le24.1
  replace hle := hle.trans le24
  replace at6 := le24.2 _ _ at6
  replace aP := le24.2 _ _ aP
  replace at21 := le24.2 _ _ at21
  replace at22 := le24.2 _ _ at22
  replace lv_hK := Keep.le lv_hK le24
  have lt_at24 := GHeap.ltg at24
  simp only [Int.toNat_natCast] at at24
  refine .R rfl (.litA rfl sl_25_B ze_24_Hj rfl rfl rfl rfl) ?_
  rintro _ H25 ⟨g25, rfl, le25, ge25, at25⟩
  replace hle := hle.trans le25
  replace at6 := le25.2 _ _ at6
  replace aP := le25.2 _ _ aP
  replace at21 := le25.2 _ _ at21
  replace at22 := le25.2 _ _ at22
  replace at24 := le25.2 _ _ at24
  replace lv_hK := Keep.le lv_hK le25
  have lt_at25 := GHeap.ltg at25
  refine .q rfl (.build bt_27_Hj rfl rfl rfl) ?_
  refine .R rfl (.allocR rfl ze_27_Hj rfl) ?_
  rintro _ H8 ⟨g8, rfl, le8, ge8, at8⟩
  have nx_H8 := le8.1
  replace hle := hle.trans le8
  replace at6 := le8.2 _ _ at6
  replace aP := le8.2 _ _ aP
  replace at21 := le8.2 _ _ at21
  replace at22 := le8.2 _ _ at22
  replace at24 := le8.2 _ _ at24
  replace at25 := le8.2 _ _ at25
  replace lv_hK := Keep.le lv_hK le8
  refine .r0 rfl rfl (.fillA rfl sz_27_D rfl rfl rfl rfl) ?_
  rintro _ H2008 ⟨rfl, st2008, at2008⟩
  have nx_H2008 := st2008.nx
  replace hle := hle.st st2008 (fun k hk => ⟨by omega, trivial⟩)
  have ne_g6_g8 : NE g6 g8 := .a
  replace at6 := st2008.s at6 ne_g6_g8.ne
  have ne_gP_g8 : NE gP g8 := .a
  replace aP := st2008.s aP ne_gP_g8.ne
  replace at21 := st2008.s at21
  replace at22 := st2008.s at22
  replace at24 := st2008.s at24
  have ne_g25_g8 : NE g25 g8 := .a
  replace at25 := st2008.s at25 ne_g25_g8.ne
  replace lv_hK := Keep.st lv_hK st2008 (fun k hb hk => ⟨(by omega), trivial⟩)
  refine .nil (hK3 _ _ (.seq (fun K4 hK4 => .seq (fun K5 hK5 => .region (.mv rfl (.nil (hK5 _ _ ?_)))))))
  refine .block ?_
  refine .loopR (σ := Nat × List Int × List Int × List Int × Nat × Nat) [(6, some _), (7, some _), (8, some _)] (fun (i, ss, ts, is, gLF, gLT) => [(9, some (.int .i64 (i : Int)))]) (fun (i, ss, ts, is, gLF, gLT) H' => St [g21, g22, g24, g8] H2008 H' ∧ H'.get gLF = some (.row (ints ss) 2 true) ∧ PL gLF g21 H2008.next ∧ H'.get gLT = some (.row (ints ts) 2 true) ∧ PL gLT g22 H2008.next ∧ H'.get g24 = some (.row (ints is) 2 true) ∧ H'.get g8 = some (.row ([.int .i64 (n : Int), .slice (some ⟨gLF, 0, none⟩) i i, .slice (some ⟨gLT, 0, none⟩) i i, .slice (some ⟨g24, 0, none⟩) n n, .slice (some ⟨g25, 0, none⟩) 0 0]) 27 true) ∧ gLF ≠ gLT ∧ gLF ≠ g24 ∧ gLF ≠ g8 ∧ gLT ≠ g24 ∧ gLT ≠ g8 ∧ g24 ≠ g8 ∧ (i ≤ ps.length ∧ ss.length = i ∧ ts.length = i ∧ is.length = n) ∧ Bd 0 18 ss ∧ Bd 0 18 ts ∧ Bd 0 18 is) (fun (i, ss, ts, is, gLF, gLT) => ps.length - i) ((0, [], [], List.replicate n 0, g21, g22)) ⟨rfl, rfl, rfl, trivial⟩ ⟨rfl, trivial⟩ ?_ ?_
  ·
   refine ⟨.refl _ _, by assumption, ⟨.inl rfl⟩, by assumption, ⟨.inl rfl⟩, by assumption, by assumption, by omega, by omega, by omega, by omega, by omega, by omega, ?_⟩
   exact ⟨⟨by omega, rfl, rfl, by simp⟩, .nil _ _, .nil _ _, .rep _ (by omega) (by omega)⟩
  rintro ⟨i, ss, ts, is, gLF, gLT⟩ HL1 ⟨lst1, at_LF, pl_LF, at_LT, pl_LT, at_Lg24, at_Lg8, ap1_0, ap1_1, ap1_2, ap1_3, ap1_4, ap1_5, hI⟩ KL1 hKL1
  refine .forget (fr' := [(9, some (.int .i64 (i : Int))), (6, some _), (7, some _), (8, some _)]) ⟨rfl, rfl, rfl, rfl, trivial⟩ ?_
  have ge_LF : H.next ≤ gLF := pl_LF.ge (by omega) (by omega)
  have ge_LT : H.next ≤ gLT := pl_LT.ge (by omega) (by omega)
  have nx_HL1 := lst1.nx
  replace hle := hle.st lst1 (fun k hk => ⟨by omega, by omega, by omega, by omega, trivial⟩)
  have ne_g6_g21 : NE g6 g21 := .a
  have ne_g6_g22 : NE g6 g22 := .a
  have ne_g6_g24 : NE g6 g24 := .a
  replace at6 := lst1.same _ _ ⟨ne_g6_g21.ne, ne_g6_g22.ne, ne_g6_g24.ne, ne_g6_g8.ne, trivial⟩ at6
  have ne_gP_g21 : NE gP g21 := .a
  have ne_gP_g22 : NE gP g22 := .a
  replace aP := lst1.same _ _ ⟨ne_gP_g21.ne, ne_gP_g22.ne, (by first | assumption | omega), ne_gP_g8.ne, trivial⟩ aP
  have ne_g25_g21 : NE g25 g21 := .a
  have ne_g25_g22 : NE g25 g22 := .a
  have ne_g25_g24 : NE g25 g24 := .a
  replace at25 := lst1.same _ _ ⟨ne_g25_g21.ne, ne_g25_g22.ne, ne_g25_g24.ne, ne_g25_g8.ne, trivial⟩ at25
  replace lv_hK := Keep.st lv_hK lst1 (fun k hb hk => ⟨(by omega), (by omega), (by omega), (by omega), trivial⟩)
  replace hK := bs_hK.keep lv_hK (Nat.le_refl _)
  have lt_at_LF := GHeap.ltg at_LF
  have lt_at_LT := GHeap.ltg at_LT
  have lt_at_Lg24 := GHeap.ltg at_Lg24
  have lt_at_Lg8 := GHeap.ltg at_Lg8
  have hP := hK.ok
  obtain ⟨⟨hi, hsl, htl, hil⟩, hS, hT, hI⟩ := hI
  refine .seq (fun K6 hK6 => .seq (fun K7 hK7 => .region (.mv rfl (.mv rfl (.q rfl (.len sl_115_Di rfl) (.q rfl (.cmp rfl rfl rfl) (.nil (hK7 _ _ ?_))))))))
  refine .cond rfl (fun h30 => ?_) (fun h30 => ?_)
  ·
   simp only [sps] at h30
   have pk1 := (hP.at (i := i) (by omega)).1
   have pk2 := (hP.at (i := i) (by omega)).2.1
   refine .skip ?_
   refine hK6 _ _ (.seq (fun K8 hK8 => ?_))
   refine .block ?_
   refine .seq (fun K9 hK9 => ?_)
   refine .regionD mo_B (.q 0 (.q 1 (.q 2 (.q 3 (.q 4 (.q 5 (.q 6 (.c 7 1 (.c 8 0 (.q 9 (.c 10 0 (.done)))))))))))) (by kernel_rfl) ?_
   have sA := pcells_slA aP
   have mk := pcells_mem aP (i := i) (by omega)
   refine .q rfl (.fieldAddr fo_27_1_B rfl) ?_
   refine .q rfl (.load on_24_B rfl (by first | assumption | exact Mem.of_get at_Lg8 1 _ rfl)) ?_
   refine .mv rfl rfl (.mv rfl rfl ?_)
   refine .q rfl (.idx sl_115_Di (by assumption) (by omega) rfl rfl (by omega) (by omega) rfl) ?_
   refine .q rfl (.fieldAddr fo_118_0_Dg rfl) (.q rfl (.load on_2_A rfl (mk.2 0 _ rfl)) ?_)
   refine .c1 rfl rfl rfl rfl (.litA rfl sl_24_A ze_2_L rfl rfl rfl rfl) ?_
   rintro _ H40 ⟨g40, rfl, le40, ge40, at40⟩
   have hbl := le40
   refine ⟨hbl, ?_⟩
   replace lst1 := lst1.le le40
   replace aP := le40.2 _ _ aP
   replace at_LF := le40.2 _ _ at_LF
   replace at_LT := le40.2 _ _ at_LT
   replace at_Lg24 := le40.2 _ _ at_Lg24
   replace at_Lg8 := le40.2 _ _ at_Lg8
   have lt_at40 := GHeap.ltg at40
   clear hP
   refine .c0 rfl rfl rfl rfl (.appendI rfl sl_24_A ze_2_L rfl by_2_L sl_24_A rfl rfl (by assumption) (by assumption) (by first | omega | (simp <;> omega)) (by omega) (by omega)) ?_
   rintro _ H41 ⟨g41, rfl, st41, ge41, at41⟩
   replace lst1 := lst1.sP st41
   replace aP := st41.same _ _ ⟨(pl_LF.ne ne_gP_g21.ne (by omega)), trivial⟩ aP
   replace at_LT := st41.same _ _ ⟨(Ne.symm ap1_0), trivial⟩ at_LT
   replace at_Lg24 := st41.same _ _ ⟨(Ne.symm ap1_1), trivial⟩ at_Lg24
   replace at_Lg8 := st41.same _ _ ⟨(Ne.symm ap1_2), trivial⟩ at_Lg8
   have lt_at41 := GHeap.ltg at41
   refine .q rfl (.fieldAddr fo_27_1_B rfl) ?_
   refine .r0 rfl rfl rfl (.storeR rfl sz_24_Ch rfl rfl rfl (by assumption) (by first | exact Nat.le_of_ble_eq_true rfl | (simp; done) | (simp <;> omega))) ?_
   rintro _ H6010 ⟨rfl, st6010, at6010⟩
   have nx_H6010 := st6010.nx
   replace lst1 := lst1.sA st6010
   replace aP := st6010.s aP ne_gP_g8.ne
   replace at_LT := st6010.same _ _ ⟨ap1_4, trivial⟩ at_LT
   replace at_Lg24 := st6010.same _ _ ⟨ap1_5, trivial⟩ at_Lg24
   have ne_g41_g8 : NE g41 g8 := .a
   replace at41 := st6010.s at41 ne_g41_g8.ne
   try simp only [Nat.zero_add, List.set_cons_succ, List.set_cons_zero] at at6010
   refine .done ?_
   refine hK9 _ _ (.seq (fun K10 hK10 => ?_))
   refine .regionD mo_B (.q 0 (.q 1 (.q 2 (.q 3 (.q 4 (.q 5 (.q 6 (.c 7 1 (.c 8 0 (.q 9 (.c 10 0 (.done)))))))))))) (by kernel_rfl) ?_
   have sA := pcells_slA aP
   have mk := pcells_mem aP (i := i) (by omega)
   refine .q rfl (.fieldAddr fo_27_2_B rfl) ?_
   refine .q rfl (.load on_24_B rfl (by first | assumption | exact Mem.of_get at6010 2 _ rfl)) ?_
   refine .mv rfl rfl (.mv rfl rfl ?_)
   refine .q rfl (.idx sl_115_Di (by assumption) (by omega) rfl rfl (by omega) (by omega) rfl) ?_
   refine .q rfl (.fieldAddr fo_118_1_Dg rfl) (.q rfl (.load on_2_A rfl (mk.2 1 _ rfl)) ?_)
   refine .c1 rfl rfl rfl rfl (.litA rfl sl_24_A ze_2_L rfl rfl rfl rfl) ?_
   rintro _ H50 ⟨g50, rfl, le50, ge50, at50⟩
   have hbl := le50
   refine ⟨hbl, ?_⟩
   replace lst1 := lst1.le le50
   replace aP := le50.2 _ _ aP
   replace at_LT := le50.2 _ _ at_LT
   replace at_Lg24 := le50.2 _ _ at_Lg24
   replace at41 := le50.2 _ _ at41
   replace at6010 := le50.2 _ _ at6010
   have lt_at50 := GHeap.ltg at50
   refine .c0 rfl rfl rfl rfl (.appendI rfl sl_24_A ze_2_L rfl by_2_L sl_24_A rfl rfl (by assumption) (by assumption) (by first | omega | (simp <;> omega)) (by omega) (by omega)) ?_
   rintro _ H51 ⟨g51, rfl, st51, ge51, at51⟩
   replace lst1 := lst1.sP st51
   replace aP := st51.same _ _ ⟨(pl_LT.ne ne_gP_g22.ne (by omega)), trivial⟩ aP
   replace at_Lg24 := st51.same _ _ ⟨(Ne.symm ap1_3), trivial⟩ at_Lg24
   replace at41 := st51.s at41
   replace at6010 := st51.same _ _ ⟨(Ne.symm ap1_4), trivial⟩ at6010
   refine .q rfl (.fieldAddr fo_27_2_B rfl) ?_
   refine .r0 rfl rfl rfl (.storeR rfl sz_24_Ch rfl rfl rfl (by assumption) (by first | exact Nat.le_of_ble_eq_true rfl | (simp; done) | (simp <;> omega))) ?_
   rintro _ H7010 ⟨rfl, st7010, at7010⟩
   replace lst1 := lst1.sA st7010
   replace aP := st7010.s aP ne_gP_g8.ne
   replace at_Lg24 := st7010.same _ _ ⟨ap1_5, trivial⟩ at_Lg24
   replace at41 := st7010.s at41 ne_g41_g8.ne
   replace at51 := st7010.s at51
   try simp only [Nat.zero_add, List.set_cons_succ, List.set_cons_zero] at at7010
   refine .done ?_
   refine hK10 _ _ (.seq (fun K11 hK11 => .region ?_))
   have sA := pcells_slA aP
   have mk := pcells_mem aP (i := i) (by omega)
   refine .mv rfl (.mv rfl ?_)
   refine .q rfl (.idx sl_115_Di (by assumption) (by omega) rfl rfl (by omega) (by omega) rfl) ?_
   refine .q rfl (.fieldAddr fo_118_2_Dg rfl) (.q rfl (.load on_24_B rfl (mk.2 2 _ rfl)) (.q rfl (.len sl_24_A rfl) (.q rfl (.cmp rfl rfl rfl) (.nil (hK11 _ _ ?_)))))
   refine .cond rfl (fun h59 => ?_) (fun h59 => ?_)
   ·
    obtain ⟨i9, hi9, hl9, hB9⟩ : ∃ i9, i9 = is.set (ps.getD i pz).f.toNat (i : Int) ∧ i9.length = is.length ∧ Bd 0 18 i9 := ⟨_, rfl, by simp, bd_iff.2 fun x hx => by
      rcases List.mem_or_eq_of_mem_set hx with h | rfl
      · exact bd_iff.1 hI x h
      · omega⟩
    refine .regionD mo_B (.q 0 (.q 1 (.q 2 (.q 3 (.q 4 (.q 5 (.q 6 (.q 7 (.q 8 (.c 9 0 (.done))))))))))) (by kernel_rfl) ?_
    refine .q rfl (.fieldAddr fo_27_3_B rfl) ?_
    refine .q rfl (.load on_24_B rfl (by first | assumption | exact Mem.of_get at7010 3 _ rfl)) ?_
    refine .mv rfl rfl (.mv rfl rfl ?_)
    refine .q rfl (.idx sl_115_Di (by assumption) (by omega) rfl rfl (by omega) (by omega) rfl) ?_
    refine .q rfl (.fieldAddr fo_118_0_Dg rfl) (.q rfl (.load on_2_A rfl (mk.2 0 _ rfl)) (.mv rfl rfl ?_))
    refine .q rfl (.idx1 sl_24_A (by first | assumption | exact SlA.of_row at_Lg24 (by first | rfl | (simp; done) | (simp <;> omega))) rfl rfl (by omega) (by omega)) ?_
    refine .r0 rfl rfl rfl (.storeI rfl sz_2_Ch rfl rfl (by assumption) (by first | omega | (simp <;> omega))) ?_
    rintro _ H9009 ⟨rfl, st9009, at9009⟩
    replace lst1 := lst1.sA st9009
    replace at41 := st9009.s at41
    replace at51 := st9009.s at51
    replace at7010 := st9009.same _ _ ⟨(Ne.symm ap1_5), trivial⟩ at7010
    rw [Nat.zero_add] at at9009
    refine .done ?_
    refine hK8 _ _ (.region (.mv rfl ?_))
    refine .q rfl (.add rfl rfl rfl (by omega) (by omega)) ?_
    refine .mv rfl (.nil ?_)
    refine hKL1 ((i + 1, ss ++ [(ps.getD i pz).f], ts ++ [(ps.getD i pz).t], i9, g41, g51)) _ _ ?_ ?_ ⟨rfl, rfl, rfl, rfl, trivial⟩
    ·
     refine ⟨lst1, by assumption, by exact ⟨.inr (by omega)⟩, by assumption, by exact ⟨.inr (by omega)⟩, by (rw [hi9]; assumption), by assumption, by omega, by omega, by omega, by omega, by omega, by assumption, ?_⟩
     exact ⟨⟨by omega, by simp; omega, by simp; omega, by omega⟩, hS.snoc pk1.1 (by omega), hT.snoc pk2.1 (by omega), hB9⟩
    (dsimp only; omega)
   obtain ⟨i9, hi9, hl9, hB9⟩ : ∃ i9, i9 = is ∧ i9.length = is.length ∧ Bd 0 18 i9 := ⟨_, rfl, rfl, hI⟩
   refine .skip ?_
   refine hK8 _ _ (.region (.mv rfl ?_))
   refine .q rfl (.add rfl rfl rfl (by omega) (by omega)) ?_
   refine .mv rfl (.nil ?_)
   refine hKL1 ((i + 1, ss ++ [(ps.getD i pz).f], ts ++ [(ps.getD i pz).t], i9, g41, g51)) _ _ ?_ ?_ ⟨rfl, rfl, rfl, rfl, trivial⟩
   ·
    refine ⟨lst1, by assumption, by exact ⟨.inr (by omega)⟩, by assumption, by exact ⟨.inr (by omega)⟩, by (rw [hi9]; assumption), by assumption, by omega, by omega, by omega, by omega, by omega, by assumption, ?_⟩
    exact ⟨⟨by omega, by simp; omega, by simp; omega, by omega⟩, hS.snoc pk1.1 (by omega), hT.snoc pk2.1 (by omega), hB9⟩
   (dsimp only; omega)
  try simp only [sps] at h30
  refine .exit ?_
  refine hK4 _ _ (.seq (fun K12 hK12 => .seq (fun K13 hK13 => .region ?_)))
  have hx4 : gLF ≠ g24 := pl_LF.ne' (by omega) (by omega)
  have hx5 : gLT ≠ g24 := pl_LT.ne' (by omega) (by omega)
  have hin0 : (Cat.mk (n : Int) ss ts is []).In HL1 (ownP gLF gLT g24 g25 fun _ => none) := (OwnCat.catR (b := H.next) ⟨at_LF, at_LT, at_Lg24, at25, by omega, by omega, by omega, by omega, by omega, by omega, by omega, .nil _ _ _ _, fun _ h => by simp at h, fun _ h => by simp at h, fun _ h => by simp at h⟩).inn
  refine .q rfl (.loadM ag_27_D rfl ⟨rfl, Mem.of_get at_Lg8⟩) ?_
  refine .callQ rfl rfl rfl rfl @Try.call109 rfl ((by have hh := l02Fits_c (c := Cat.mk (n : Int) ss ts is []) (p := ownP gLF gLT g24 g25 fun _ => none) hin0; simp only [Cat.cells, ownP, hsl, htl, hil, List.length_nil] at hh; exact hh)) ?_
  refine .q rfl (.not rfl) (.nil (hK13 _ _ ?_))
  refine .cond rfl (fun h71 => ?_) (fun h71 => ?_)
  ·
   exact absurd h71 (by simp [B]; omega)
  try simp only [sps] at h71
  refine .skip ?_
  refine hK12 _ _ (.seq (fun K14 hK14 => .seq (fun K15 hK15 => .region ?_)))
  obtain rfl : i = ps.length := by omega
  refine .mv rfl (.nil (hK15 _ _ ?_))
  refine .block ?_
  refine .loopR (σ := Nat × (Nat → Option Addr) × List (List Int) × Nat) [(6, some _), (7, some _), (8, some _)] (fun (f, rr, cs, gLC) => [(10, some (.int .i64 (f : Int)))]) (fun (f, rr, cs, gLC) H' => St [g25, g8] HL1 H' ∧ H'.get gLC = some (.row ((slsL rr cs)) 24 true) ∧ PL gLC g25 HL1.next ∧ H'.get g8 = some (.row ([.int .i64 (n : Int), .slice (some ⟨gLF, 0, none⟩) ps.length ps.length, .slice (some ⟨gLT, 0, none⟩) ps.length ps.length, .slice (some ⟨g24, 0, none⟩) n n, .slice (some ⟨gLC, 0, none⟩) f f]) 27 true) ∧ gLC ≠ g8 ∧ (f ≤ ps.length ∧ cs.length = f) ∧ Tb (-1) 18 ps.length cs ∧ OwnL H.next H' 2 rr cs ∧ (∀ j, j < cs.length → rr j ≠ some ⟨gLF, 0, none⟩) ∧ (∀ j, j < cs.length → rr j ≠ some ⟨gLT, 0, none⟩) ∧ ∀ j, j < cs.length → rr j ≠ some ⟨g24, 0, none⟩) (fun (f, rr, cs, gLC) => ps.length - f) ((0, fun _ => none, [], g25)) ⟨rfl, rfl, rfl, trivial⟩ ⟨rfl, trivial⟩ ?_ ?_
  ·
   refine ⟨.refl _ _, by assumption, ⟨.inl rfl⟩, by assumption, by omega, ?_⟩
   exact ⟨⟨by omega, rfl⟩, .nil _ _ _, .nil _ _ _ _, fun _ h => by simp at h, fun _ h => by simp at h, fun _ h => by simp at h⟩
  rintro ⟨f, rr, cs, gLC⟩ HL2 ⟨lst2, at_LC, pl_LC, at_Lg8, ap2_0, hI⟩ KL2 hKL2
  refine .forget (fr' := [(10, some (.int .i64 (f : Int))), (6, some _), (7, some _), (8, some _)]) ⟨rfl, rfl, rfl, rfl, trivial⟩ ?_
  have ge_LC : H.next ≤ gLC := pl_LC.ge (by omega) (by omega)
  have nx_HL2 := lst2.nx
  replace hle := hle.st lst2 (fun k hk => ⟨by omega, by omega, trivial⟩)
  have ne_g6_g25 : NE g6 g25 := .a
  replace at6 := lst2.same _ _ ⟨ne_g6_g25.ne, ne_g6_g8.ne, trivial⟩ at6
  replace aP := lst2.same _ _ ⟨(by first | assumption | omega), ne_gP_g8.ne, trivial⟩ aP
  replace at_LF := lst2.same _ _ ⟨(Ne.symm (pl_LF.ne ne_g25_g21.ne (by omega))), ap1_2, trivial⟩ at_LF
  replace at_LT := lst2.same _ _ ⟨(Ne.symm (pl_LT.ne ne_g25_g22.ne (by omega))), ap1_4, trivial⟩ at_LT
  replace at_Lg24 := lst2.same _ _ ⟨(Ne.symm ne_g25_g24.ne), ap1_5, trivial⟩ at_Lg24
  replace lv_hK := Keep.st lv_hK lst2 (fun k hb hk => ⟨(by omega), (by omega), trivial⟩)
  have lt_at_LC := GHeap.ltg at_LC
  have lt_at_Lg8 := GHeap.ltg at_Lg8
  have rk := St.refl [gLC, g8] HL2
  obtain ⟨⟨hf, hcl⟩, hC, hR, hF1, hT1, hI1⟩ := hI
  have hatC := at_LC
  have hat8 := at_Lg8
  have hfl : (slsL rr cs).length = cs.length := length_slsL _ _
  refine .seq (fun K16 hK16 => .seq (fun K17 hK17 => .region (.mv rfl (.mv rfl (.q rfl (.len sl_115_Di rfl) (.q rfl (.cmp rfl rfl rfl) (.nil (hK17 _ _ ?_))))))))
  refine .cond rfl (fun h76 => ?_) (fun h76 => ?_)
  ·
   simp only [sps] at h76
   refine .skip ?_
   refine hK16 _ _ (.seq (fun K18 hK18 => ?_))
   refine .block ?_
   refine .seq (fun K19 hK19 => .region ?_)
   refine .R rfl (.litA rfl sl_24_A ze_2_L rfl rfl rfl rfl) ?_
   rintro _ H79 ⟨g79, rfl, le79, ge79, at79⟩
   have nx_H79 := le79.1
   replace lst2 := lst2.le le79
   replace rk := rk.le le79
   replace aP := le79.2 _ _ aP
   replace at_LC := le79.2 _ _ at_LC
   replace at_Lg8 := le79.2 _ _ at_Lg8
   replace lv_hK := Keep.le lv_hK le79
   have lt_at79 := GHeap.ltg at79
   replace at79 : GHeap.get H79 g79 = some (.row (ints []) 2 true) := at79
   refine .mv rfl (.nil (hK19 _ _ (.seq (fun K20 hK20 => .seq (fun K21 hK21 => .region (.mv rfl (.nil (hK21 _ _ ?_))))))))
   refine .block ?_
   refine .loopR (σ := Nat × List Int × Nat × Nat) [(6, some _), (7, some _), (8, some _), (10, some _)] (fun (g, row, gL11, nL11) => [(12, some (.int .i64 (g : Int))), (11, some (.slice (some ⟨gL11, 0, none⟩) nL11 nL11))]) (fun (g, row, gL11, nL11) H' => St [g79] H79 H' ∧ H'.get gL11 = some (.row (ints row) 2 true) ∧ PL gL11 g79 H79.next ∧ nL11 = row.length ∧ (g ≤ ps.length ∧ row.length = g) ∧ Bd (-1) 18 row) (fun (g, row, gL11, nL11) => ps.length - g) ((0, [], _, _)) ⟨rfl, rfl, rfl, rfl, trivial⟩ ⟨rfl, rfl, trivial⟩ ?_ ?_
   ·
    refine ⟨.refl _ _, by assumption, ⟨.inl rfl⟩, by rfl, ?_⟩
    exact ⟨⟨by omega, rfl⟩, .nil _ _⟩
   rintro ⟨g, row, gL11, nL11⟩ HL3 ⟨lst3, at_L11, pl_L11, ln_L11, hI⟩ KL3 hKL3
   refine .forget (fr' := [(12, some (.int .i64 (g : Int))), (11, some (.slice (some ⟨gL11, 0, none⟩) nL11 nL11)), (6, some _), (7, some _), (8, some _), (10, some _)]) ⟨rfl, rfl, rfl, rfl, rfl, rfl, trivial⟩ ?_
   have ge_L11 : H.next ≤ gL11 := pl_L11.ge (by omega) (by omega)
   have nx_HL3 := lst3.nx
   replace lst2 := lst2.sA lst3
   replace rk := rk.sA lst3
   replace aP := lst3.s aP
   have ne_gLC_g79 : NE gLC g79 := .a
   replace at_LC := lst3.s at_LC ne_gLC_g79.ne
   have ne_g8_g79 : NE g8 g79 := .a
   replace at_Lg8 := lst3.s at_Lg8 ne_g8_g79.ne
   replace lv_hK := Keep.st lv_hK lst3 (fun k hb hk => ⟨(by omega), trivial⟩)
   replace hK := bs_hK.keep lv_hK (Nat.le_refl _)
   have lt_at_L11 := GHeap.ltg at_L11
   have hP := hK.ok
   obtain ⟨⟨hg, hrl⟩, hW⟩ := hI
   refine .seq (fun K22 hK22 => .seq (fun K23 hK23 => .region (.mv rfl (.mv rfl (.q rfl (.len sl_115_Di rfl) (.q rfl (.cmp rfl rfl rfl) (.nil (hK23 _ _ ?_))))))))
   refine .cond rfl (fun h83 => ?_) (fun h83 => ?_)
   ·
    simp only [sps] at h83
    refine .skip ?_
    refine hK22 _ _ (.seq (fun K24 hK24 => ?_))
    refine .block ?_
    refine .seq (fun K25 hK25 => .region (.mv rfl (.nil (hK25 _ _ (.seq (fun K26 hK26 => .seq (fun K27 hK27 => ?_)))))))
    refine .regionD mo_B (.q 0 (.q 1 (.q 2 (.q 3 (.q 4 (.q 5 (.q 6 (.q 7 (.q 8 (.q 9 (.q 10 (.done)))))))))))) (by kernel_rfl) ?_
    have sA := pcells_slA aP
    have mf := pcells_mem aP (i := f) (by omega)
    have mg := pcells_mem aP (i := g) (by omega)
    refine .mv rfl rfl (.mv rfl rfl ?_)
    refine .q rfl (.idx sl_115_Di (by assumption) (by omega) rfl rfl (by omega) (by omega) rfl) ?_
    refine .q rfl (.fieldAddr fo_118_1_Dg rfl) (.q rfl (.load on_2_A rfl (mf.2 1 _ rfl)) (.mv rfl rfl (.mv rfl rfl ?_)))
    refine .q rfl (.idx sl_115_Di (by assumption) (by omega) rfl rfl (by omega) (by omega) rfl) ?_
    refine .q rfl (.fieldAddr fo_118_0_Dg rfl) (.q rfl (.load on_2_A rfl (mg.2 0 _ rfl)) (.q rfl (.cmp rfl rfl rfl) ?_))
    refine .done ?_
    refine hK27 _ _ ?_
    refine .cond rfl (fun h96 => ?_) (fun h96 => ?_)
    ·
     try simp only [sps] at h96
     refine .seq (fun K28 hK28 => ?_)
     refine .regionD mo_B (.q 0 (.q 1 (.q 2 (.q 3 (.q 4 (.q 6 (.q 7 (.q 8 (.q 9 (.q 10 (.c 5 1 (.c 11 0 (.q 12 (.done)))))))))))))) (by kernel_rfl) ?_
     have pf := hP.at (i := f) (by omega)
     have pg := hP.at (i := g) (by omega)
     refine .mv rfl rfl (.mv rfl rfl ?_)
     refine .q rfl (.idx sl_115_Di (by assumption) (by omega) rfl rfl (by omega) (by omega) rfl) ?_
     refine .q rfl (.fieldAddr fo_118_2_Dg rfl) (.q rfl (.load on_24_B rfl (mf.2 2 _ rfl)) (.mv rfl rfl (.mv rfl rfl ?_)))
     refine .q rfl (.idx sl_115_Di (by assumption) (by omega) rfl rfl (by omega) (by omega) rfl) ?_
     refine .q rfl (.fieldAddr fo_118_2_Dg rfl) (.q rfl (.load on_24_B rfl (mg.2 2 _ rfl)) ?_)
     refine .call1 rfl rfl rfl rfl rfl @Try.call102 rfl (l01Own_c (Ints.of_get pf.2.2.2.2)) ?_
     rintro _ H102 ⟨le102, g102, rfl, at102, ge102⟩
     have hbl := le102
     refine ⟨hbl, ?_⟩
     replace lst3 := lst3.le le102
     replace aP := le102.2 _ _ aP
     replace at_L11 := le102.2 _ _ at_L11
     replace lv_hK := Keep.le lv_hK le102
     replace hK := bs_hK.keep lv_hK (Nat.le_refl _)
     have lt_at102 := GHeap.ltg at102
     clear hP
     have hP := hK.ok
     have iG := Ints.of_get (hP.at (i := g) (by omega)).2.2.2.2
     refine .c0 rfl rfl rfl rfl (.appendL rfl sl_24_A ze_2_L rfl by_2_L sl_24_A rfl rfl (by assumption) (by first | assumption | exact Ints.of_get (by assumption)) (by first | omega | (simp <;> omega)) (by omega) (by omega)) ?_
     rintro _ H108 ⟨g108, rfl, st108, ge108, at108⟩
     replace lst3 := lst3.sA st108
     replace aP := st108.s aP
     replace at_L11 := st108.s at_L11
     replace lv_hK := Keep.st lv_hK st108 (fun k hb hk => ⟨(by omega), trivial⟩)
     replace hK := bs_hK.keep lv_hK (Nat.le_refl _)
     have lt_at108 := GHeap.ltg at108
     clear hP
     have hP := hK.ok
     refine .mv rfl rfl ?_
     refine .done ?_
     refine hK28 _ _ (.seq (fun K29 hK29 => .region (.mv rfl (.nil (hK29 _ _ ?_)))))
     refine .block ?_
     refine .loopR (σ := Nat × Int) [(6, some _), (7, some _), (8, some _), (10, some _), (11, some _), (12, some _), (14, some _)] (fun (k, h3) => [(15, some (.int .i64 (k : Int))), (13, some (.int .i64 h3))]) (fun (k, h3) H' => H108 = H' ∧ k ≤ ps.length ∧ -1 ≤ h3 ∧ h3 ≤ 18) (fun (k, h3) => ps.length - k) ((0, -1)) ⟨rfl, rfl, rfl, rfl, rfl, rfl, rfl, trivial⟩ ⟨rfl, rfl, trivial⟩ ?_ ?_
     ·
      refine ⟨rfl, ?_⟩
      exact ⟨by omega, by omega, by omega⟩
     rintro ⟨k, h3⟩ _ ⟨rfl, hI⟩ KL4 hKL4
     refine .forget (fr' := [(15, some (.int .i64 (k : Int))), (13, some (.int .i64 h3)), (6, some _), (7, some _), (8, some _), (10, some _), (11, some _), (12, some _), (14, some _)]) ⟨rfl, rfl, rfl, rfl, rfl, rfl, rfl, rfl, rfl, trivial⟩ ?_
     obtain ⟨hk, n3⟩ := hI
     refine .seq (fun K30 hK30 => .seq (fun K31 hK31 => .region (.mv rfl (.mv rfl (.q rfl (.len sl_115_Di rfl) (.q rfl (.cmp rfl rfl rfl) (.nil (hK31 _ _ ?_))))))))
     refine .cond rfl (fun h112 => ?_) (fun h112 => ?_)
     ·
      simp only [sps] at h112
      refine .skip ?_
      refine hK30 _ _ (.seq (fun K32 hK32 => ?_))
      refine .block ?_
      refine .seq (fun K33 hK33 => ?_)
      refine .regionD mo_B (.q 0 (.q 1 (.q 2 (.q 3 (.q 4 (.q 5 (.q 6 (.q 7 (.q 8 (.q 9 (.q 10 (.q 11 (.q 12 (.q 13 (.q 14 (.q 15 (.q 16 (.q 17 (.c 18 0 (.q 19 (.done))))))))))))))))))))) (by kernel_rfl) ?_
      have sA := pcells_slA aP
      have mk := pcells_mem aP (i := k) (by omega)
      have mf := pcells_mem aP (i := f) (by omega)
      have pk := hP.at (i := k) (by omega)
      refine .mv rfl rfl (.mv rfl rfl ?_)
      refine .q rfl (.idx sl_115_Di (by assumption) (by omega) rfl rfl (by omega) (by omega) rfl) ?_
      refine .q rfl (.fieldAddr fo_118_0_Dg rfl) (.q rfl (.load on_2_A rfl (mk.2 0 _ rfl)) (.mv rfl rfl (.mv rfl rfl ?_)))
      refine .q rfl (.idx sl_115_Di (by assumption) (by omega) rfl rfl (by omega) (by omega) rfl) ?_
      refine .q rfl (.fieldAddr fo_118_0_Dg rfl) (.q rfl (.load on_2_A rfl (mf.2 0 _ rfl)) (.q rfl (.cmp rfl rfl rfl) (.mv rfl rfl ?_)))
      refine .split (fun h126 => ?_) (fun h126 => ?_)
      ·
       try simp only [sps] at h126
       refine .qg rfl (.move rfl) (.qg rfl (.move rfl) ?_)
       refine .qg rfl (.idx sl_115_Di (by assumption) (by omega) rfl rfl (by omega) (by omega) rfl) ?_
       refine .qg rfl (.fieldAddr fo_118_2_Dg rfl) (.qg rfl (.load on_24_B rfl (mk.2 2 _ rfl)) (.qg rfl (.move rfl) ?_))
       refine .callQ0g rfl rfl rfl rfl rfl rfl rfl @Try.call127 rfl ((by have hh := l01Same_c (h := Ints.of_get pk.2.2.2.2) (h' := Ints.of_get at108) (hy := by rw [List.length_append]; omega); rw [List.length_append] at hh; exact hh)) ?_
       refine .q rfl (.pickT rfl rfl) ?_
       refine .done ?_
       refine hK33 _ _ ?_
       refine .cond rfl (fun h134 => ?_) (fun h134 => ?_)
       ·
        try simp only [sps] at h134
        refine .region (.mv rfl (.mv rfl (.nil (hK32 _ _ (.region (.mv rfl ?_))))))
        refine .q rfl (.add rfl rfl rfl (by omega) (by omega)) ?_
        refine .mv rfl (.nil ?_)
        refine hKL4 ((k + 1, _)) _ _ ?_ ?_ ⟨rfl, rfl, rfl, rfl, rfl, rfl, rfl, rfl, rfl, trivial⟩
        ·
         refine ⟨rfl, ?_⟩
         exact ⟨by omega, by omega, by omega⟩
        (dsimp only; omega)
       try simp only [sps] at h134
       refine .skip ?_
       refine hK32 _ _ (.region (.mv rfl ?_))
       refine .q rfl (.add rfl rfl rfl (by omega) (by omega)) ?_
       refine .mv rfl (.nil ?_)
       refine hKL4 ((k + 1, _)) _ _ ?_ ?_ ⟨rfl, rfl, rfl, rfl, rfl, rfl, rfl, rfl, rfl, trivial⟩
       ·
        refine ⟨rfl, ?_⟩
        exact ⟨by omega, by omega, by omega⟩
       (dsimp only; omega)
      try simp only [sps] at h126
      refine .z rfl (.z rfl (.z rfl (.z rfl (.z rfl (.z rfl (.sgc rfl rfl rfl rfl rfl rfl (.q rfl (.pickF rfl rfl) ?_)))))))
      refine .done ?_
      refine hK33 _ _ ?_
      refine .condF rfl ?_
      refine .skip ?_
      refine hK32 _ _ (.region (.mv rfl ?_))
      refine .q rfl (.add rfl rfl rfl (by omega) (by omega)) ?_
      refine .mv rfl (.nil ?_)
      refine hKL4 ((k + 1, _)) _ _ ?_ ?_ ⟨rfl, rfl, rfl, rfl, rfl, rfl, rfl, rfl, rfl, trivial⟩
      ·
       refine ⟨rfl, ?_⟩
       exact ⟨by omega, by omega, by omega⟩
      (dsimp only; omega)
     try simp only [sps] at h112
     refine .exit ?_
     refine hK26 _ _ (.region (.mv rfl (.mv rfl ?_)))
     refine .R rfl (.litA rfl sl_24_A ze_2_L rfl rfl rfl rfl) ?_
     rintro _ H138 ⟨g138, rfl, le138, ge138, at138⟩
     replace lst3 := lst3.le le138
     replace at_L11 := le138.2 _ _ at_L11
     have lt_at138 := GHeap.ltg at138
     clear hP
     refine .R rfl (.appendI rfl sl_24_A ze_2_L rfl by_2_L sl_24_A rfl rfl (by assumption) (by assumption) (by first | omega | (simp <;> omega)) (by omega) (by omega)) ?_
     rintro _ H139 ⟨g139, rfl, st139, ge139, at139⟩
     replace lst3 := lst3.sP st139
     refine .mv rfl (.nil (hK24 _ _ (.region (.mv rfl ?_))))
     refine .q rfl (.add rfl rfl rfl (by omega) (by omega)) ?_
     refine .mv rfl (.nil ?_)
     refine hKL3 ((g + 1, row ++ [h3], _, _)) _ _ ?_ ?_ ⟨rfl, rfl, rfl, rfl, rfl, rfl, trivial⟩
     ·
      refine ⟨lst3, by assumption, by exact ⟨.inr (by omega)⟩, by (simp only [List.length_append, List.length_cons, List.length_nil] <;> omega), ?_⟩
      exact ⟨⟨by omega, by simp; omega⟩, hW.snoc (by omega) (by omega)⟩
     (dsimp only; omega)
    obtain ⟨h3, hh3, n3⟩ : ∃ h3 : Int, h3 = -1 ∧ -1 ≤ h3 ∧ h3 ≤ 18 := ⟨_, rfl, by omega, by omega⟩
    refine .skip ?_
    refine hK26 _ _ (.region (.mv rfl (.mv rfl ?_)))
    refine .R rfl (.litA rfl sl_24_A ze_2_L rfl rfl rfl rfl) ?_
    rintro _ H138x2 ⟨g138x2, rfl, le138x2, ge138x2, at138x2⟩
    replace lst3 := lst3.le le138x2
    replace at_L11 := le138x2.2 _ _ at_L11
    have lt_at138x2 := GHeap.ltg at138x2
    refine .R rfl (.appendI rfl sl_24_A ze_2_L rfl by_2_L sl_24_A rfl rfl (by assumption) (by assumption) (by first | omega | (simp <;> omega)) (by omega) (by omega)) ?_
    rintro _ H139x2 ⟨g139x2, rfl, st139x2, ge139x2, at139x2⟩
    replace lst3 := lst3.sP st139x2
    refine .mv rfl (.nil (hK24 _ _ (.region (.mv rfl ?_))))
    refine .q rfl (.add rfl rfl rfl (by omega) (by omega)) ?_
    refine .mv rfl (.nil ?_)
    refine hKL3 ((g + 1, row ++ [h3], _, _)) _ _ ?_ ?_ ⟨rfl, rfl, rfl, rfl, rfl, rfl, trivial⟩
    ·
     refine ⟨lst3, by (rw [hh3]; assumption), by exact ⟨.inr (by omega)⟩, by (simp only [List.length_append, List.length_cons, List.length_nil] <;> omega), ?_⟩
     exact ⟨⟨by omega, by simp; omega⟩, hW.snoc (by omega) (by omega)⟩
    (dsimp only; omega)
   try simp only [sps] at h83
   refine .exit ?_
   refine hK20 _ _ (.region ?_)
   obtain rfl : g = ps.length := by omega
   obtain rfl := ln_L11
   refine .q rfl (.fieldAddr fo_27_4_B rfl) ?_
   refine .q rfl (.load on_25_B rfl (by first | assumption | exact Mem.of_get at_Lg8 4 _ rfl)) ?_
   refine .mv rfl ?_
   refine .R rfl (.litA rfl sl_25_B ze_24_Hj rfl rfl rfl rfl) ?_
   rintro _ H143 ⟨g143, rfl, le143, ge143, at143⟩
   replace lst2 := lst2.le le143
   replace rk := rk.le le143
   replace at_LC := le143.2 _ _ at_LC
   replace at_Lg8 := le143.2 _ _ at_Lg8
   replace at_L11 := le143.2 _ _ at_L11
   have lt_at143 := GHeap.ltg at143
   refine .R rfl (.appendV rfl sl_25_B ze_24_Hj rfl by_24_Hj sl_25_B rfl rfl (by assumption) (by assumption) (by first | omega | (simp <;> omega)) rfl rfl (by omega) (by omega)) ?_
   rintro _ H144 ⟨g144, rfl, st144, ge144, at144⟩
   replace lst2 := lst2.sP st144
   replace rk := rk.sP st144
   replace at_Lg8 := st144.same _ _ ⟨(Ne.symm ap2_0), trivial⟩ at_Lg8
   replace at_L11 := st144.same _ _ ⟨(Ne.symm (pl_L11.ne ne_gLC_g79.ne (by omega))), trivial⟩ at_L11
   refine .q rfl (.fieldAddr fo_27_4_B rfl) ?_
   refine .r0 rfl rfl (.storeR rfl sz_25_Ch rfl rfl rfl (by assumption) (by first | exact Nat.le_of_ble_eq_true rfl | (simp; done) | (simp <;> omega))) ?_
   rintro _ H28006 ⟨rfl, st28006, at28006⟩
   replace lst2 := lst2.sA st28006
   replace rk := rk.sA st28006
   replace at_L11 := st28006.same _ _ ⟨(Ne.symm (pl_L11.ne ne_g8_g79.ne (by omega))), trivial⟩ at_L11
   replace at144 := st28006.s at144
   try simp only [Nat.zero_add, List.set_cons_succ, List.set_cons_zero] at at28006
   refine .nil (hK18 _ _ (.region (.mv rfl ?_)))
   refine .q rfl (.add rfl rfl rfl (by omega) (by omega)) ?_
   refine .mv rfl (.nil ?_)
   refine hKL2 ((f + 1, upd rr cs.length (some ⟨gL11, 0, none⟩), cs ++ [row], g144)) _ _ ?_ ?_ ⟨rfl, rfl, rfl, rfl, trivial⟩
   ·
    refine ⟨lst2, by (rw [slsL_snoc]; assumption), by exact ⟨.inr (by omega)⟩, by assumption, by omega, ?_⟩
    have hR' := hR.st rk (.cons (hR.neT hatC rfl) (.cons (hR.neT hat8 rfl) (.nil _ _)))
    have hn1 := hR.ne (g := gL11) (pl_L11.ge (by omega) (by omega))
    have hx1 : gL11 ≠ gLF := pl_L11.ne' (by omega) (by omega)
    have hx2 : gL11 ≠ gLT := pl_L11.ne' (by omega) (by omega)
    have hx3 : gL11 ≠ g24 := pl_L11.ne' (by omega) (by omega)
    exact ⟨⟨by omega, by simp; omega⟩, hC.snoc (by omega) hW, hR'.snoc2 (by assumption) hn1 (by omega), ne_snoc hF1 (by omega), ne_snoc hT1 (by omega), ne_snoc hI1 (by omega)⟩
   (dsimp only; omega)
  try simp only [sps] at h76
  refine .exit ?_
  refine hK14 _ _ (.seq (fun K34 hK34 => .region ?_))
  refine .q rfl (.loadM ag_27_D rfl ⟨rfl, Mem.of_get at_Lg8⟩) ?_
  refine .r0 rfl rfl (.fillA rfl sz_27_D rfl rfl rfl rfl) ?_
  rintro _ H29001 ⟨rfl, st29001, at29001⟩
  replace hle := hle.st st29001 (fun k hk => ⟨by omega, trivial⟩)
  replace at_LF := st29001.same _ _ ⟨(Ne.symm (pl_LF.ne ne_g6_g21.ne (by omega))), trivial⟩ at_LF
  replace at_LT := st29001.same _ _ ⟨(Ne.symm (pl_LT.ne ne_g6_g22.ne (by omega))), trivial⟩ at_LT
  replace at_Lg24 := st29001.s at_Lg24 (Ne.symm ne_g6_g24.ne)
  replace at_LC := st29001.same _ _ ⟨(Ne.symm (pl_LC.ne ne_g6_g25.ne (by omega))), trivial⟩ at_LC
  replace at_Lg8 := st29001.s at_Lg8 (Ne.symm ne_g6_g8.ne)
  have mm29001 : MemN _ _ _ _ _ := ⟨rfl, Mem.of_get at29001⟩
  refine .nil (hK34 _ _ ?_)
  refine .ret ?_
  refine hret _ _ ?_
  refine ⟨_, _, _, _, rfl, ag_27_D, (by rfl), (Mem.of_get at29001), ?_⟩
  obtain rfl : f = ps.length := by omega
  have hx4 : gLF ≠ g24 := pl_LF.ne' (by omega) (by omega)
  have hx5 : gLT ≠ g24 := pl_LT.ne' (by omega) (by omega)
  have hat6 := at6
  have hR' := hR.st st29001 (.cons (hR.neT hat6 rfl) (.nil _ _))
  exact ⟨⟨n, ss, ts, is, cs⟩, rect_mk (by omega) (by omega) (by omega) (hS.mono (by omega) (by omega)) (hT.mono (by omega) (by omega)) (by omega) (hI.mono (by omega) (by omega)) (by omega) (by rw [hsl]; exact hC.mono (by omega) (by omega)), hle, gLF, gLT, g24, gLC, rr, by simp [Cat.cells, ownP, hsl, htl, hil, hcl], ⟨at_LF, at_LT, at_Lg24, at_LC, by omega, by omega, by omega, by omega, by omega, by omega, by omega, hR', hF1, hT1, hI1⟩⟩
end Go.Proofs.Ytolfggcanbpknaa
