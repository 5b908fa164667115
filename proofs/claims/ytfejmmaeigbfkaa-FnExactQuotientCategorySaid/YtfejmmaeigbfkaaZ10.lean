/- Quotients of categories: the program's. No condition but those of each statement. -/
import Derived.Test.YtfejmmaeigbfkaaZ9
namespace Go.Proofs.Ytfejmmaeigbfkaa
open Go Go.GL Go.RowKit Go.Proofs
theorem sz_109_Qs : (Try.prog.info? 109).map (·.size) = some 1 := by kernel_rfl
theorem sz_88_Qs : (Try.prog.info? 88).map (·.size) = some 1 := by kernel_rfl
theorem bt_27_Qs : buildT Try.prog 27 = some ([.int .i64 0, .slice none 0 0, .slice none 0 0, .slice none 0 0, .slice none 0 0], [(0, 1), (1, 1), (2, 1), (3, 1), (4, 1)]) := by kernel_rfl
theorem classesQ_c {a : Option Addr} {xs : List Int} {H : GHeap} (h : Ints H a xs) (hl : xs.length ≤ 40) (hN : NorK xs xs.length) :
    GCalls Try.prog 91 [.slice a xs.length xs.length] H (Ret (.int .i64 ((repL xs xs.length).length : Int)) H) := by
  have := classes_c (H := H) (a := a) (xs := xs) h (by omega) (fun i hi => by have := hN.bd hi; have := reps_le (kerB xs) i; omega)
  rwa [topL_nor hN] at this
set_option maxHeartbeats 4000000 in
theorem quotient_c {g o : Nat} {c : Cat} {p : CatP} {a : Option Addr} {xs : List Int} {H : GHeap} (hc : Cat.At H g o c p := by assumption) (h : Ints H a xs := by assumption) (hS : c.Shape) (hQ : c.Cong xs) :
    GCalls Try.prog 47 [.pointer (some ⟨g, o, none⟩), .slice a xs.length xs.length] H (NewCatR H (c.quo xs)) := by
  have hl := hQ.len
  have hN := NorK.iff.2 hQ.nor
  have b1 := hS.n40
  have b2 := hS.tl
  have b3 := hS.cl
  have b4 := hS.il
  have b5 := hS.obj
  have b6 := repL_le xs xs.length
  have b7 : (repL xs xs.length).length = reps (kerB xs) xs.length := length_repL _ _
  have b8 : ∀ i, i < c.idn.length → 0 ≤ c.idn.getD i 0 ∧ c.idn.getD i 0 < xs.length := fun i hi => by have := hS.idn i hi; omega
  refine GCalls.body (N := 73) (rs := [.cell 4 27]) Try.func47 rfl rfl rfl rfl (fun Qx hret hend => ?_)
  refine .forget (fr' := [(0, some _), (1, some _)]) ⟨rfl, rfl, trivial⟩ ?_
  have hle := GHeap.Le.refl H
  have base_hc := hc
  have base_h := h
  obtain ⟨c0, c1, c2, c3, c4, i1, i2, i3, i4⟩ := hc.get
  refine .seq (fun K1 hK1 => ?_)
  refine .region ?_
  refine .r rfl rfl rfl (.boxR rfl sz_109_Qs rfl) ?_
  rintro _ H2 ⟨g2, rfl, le2, ge2, at2⟩
  have nx_H2 := le2.1
  replace hle := hle.trans le2
  have lt_at2 := GHeap.lt_of_get at2
  replace hc := base_hc.mono hle
  replace h := base_h.mono hle
  clear c0 c1 c2 c3 c4 i1 i2 i3 i4
  obtain ⟨c0, c1, c2, c3, c4, i1, i2, i3, i4⟩ := hc.get
  refine .r rfl rfl rfl (.boxR rfl sz_88_Qs rfl) ?_
  rintro _ H3 ⟨g3, rfl, le3, ge3, at3⟩
  have nx_H3 := le3.1
  replace hle := hle.trans le3
  replace at2 := le3.2 _ _ at2
  have lt_at3 := GHeap.lt_of_get at3
  replace hc := base_hc.mono hle
  replace h := base_h.mono hle
  clear c0 c1 c2 c3 c4 i1 i2 i3 i4
  obtain ⟨c0, c1, c2, c3, c4, i1, i2, i3, i4⟩ := hc.get
  refine .r rfl rfl rfl (.allocR rfl ze_27_E rfl) ?_
  rintro _ H4 ⟨g4, rfl, le4, ge4, at4⟩
  have nx_H4 := le4.1
  replace hle := hle.trans le4
  replace at2 := le4.2 _ _ at2
  replace at3 := le4.2 _ _ at3
  have lt_at4 := GHeap.lt_of_get at4
  replace hc := base_hc.mono hle
  replace h := base_h.mono hle
  clear c0 c1 c2 c3 c4 i1 i2 i3 i4
  obtain ⟨c0, c1, c2, c3, c4, i1, i2, i3, i4⟩ := hc.get
  refine .nil ?_
  refine hK1 _ _ ?_
  refine .seq (fun K2 hK2 => ?_)
  refine .region ?_
  refine .m rfl rfl rfl (.load on_88_Qi rfl (by first | assumption | exact Mem.of_get at3 0 _ rfl)) ?_
  refine .callQ rfl rfl rfl rfl @Try.call91 rfl (classesQ_c h (by omega) hN) ?_
  refine .m rfl rfl rfl (.assign rfl) ?_
  refine .nil ?_
  refine hK2 _ _ ?_
  refine .seq (fun K3 hK3 => ?_)
  refine .regionD mixed_orders_B (.q 0 (.q 1 (.q 2 (.q 3 (.q 4 (.q 6 (.q 8 (.q 9 (.q 10 (.q 11 (.q 12 (.or (.c 5 1 (.or (.c 7 1 (.or (.c 13 1 (.q 14 (.c 15 1 (.c 16 1 (.done))))) (.c 15 1 (.c 13 1 (.q 14 (.c 16 1 (.done))))))) (.or (.c 13 1 (.or (.c 7 1 (.q 14 (.c 15 1 (.c 16 1 (.done))))) (.c 15 1 (.c 7 1 (.q 14 (.c 16 1 (.done))))))) (.c 15 1 (.or (.c 7 1 (.c 13 1 (.q 14 (.c 16 1 (.done))))) (.c 13 1 (.c 7 1 (.q 14 (.c 16 1 (.done)))))))))) (.or (.c 7 1 (.or (.c 5 1 (.or (.c 13 1 (.q 14 (.c 15 1 (.c 16 1 (.done))))) (.c 15 1 (.c 13 1 (.q 14 (.c 16 1 (.done))))))) (.or (.c 13 1 (.or (.c 5 1 (.q 14 (.c 15 1 (.c 16 1 (.done))))) (.c 15 1 (.c 5 1 (.q 14 (.c 16 1 (.done))))))) (.c 15 1 (.or (.c 5 1 (.c 13 1 (.q 14 (.c 16 1 (.done))))) (.c 13 1 (.c 5 1 (.q 14 (.c 16 1 (.done)))))))))) (.or (.c 13 1 (.or (.c 5 1 (.or (.c 7 1 (.q 14 (.c 15 1 (.c 16 1 (.done))))) (.c 15 1 (.c 7 1 (.q 14 (.c 16 1 (.done))))))) (.or (.c 7 1 (.or (.c 5 1 (.q 14 (.c 15 1 (.c 16 1 (.done))))) (.c 15 1 (.c 5 1 (.q 14 (.c 16 1 (.done))))))) (.c 15 1 (.or (.c 5 1 (.c 7 1 (.q 14 (.c 16 1 (.done))))) (.c 7 1 (.c 5 1 (.q 14 (.c 16 1 (.done)))))))))) (.c 15 1 (.or (.c 5 1 (.or (.c 7 1 (.c 13 1 (.q 14 (.c 16 1 (.done))))) (.c 13 1 (.c 7 1 (.q 14 (.c 16 1 (.done))))))) (.or (.c 7 1 (.or (.c 5 1 (.c 13 1 (.q 14 (.c 16 1 (.done))))) (.c 13 1 (.c 5 1 (.q 14 (.c 16 1 (.done))))))) (.c 13 1 (.or (.c 5 1 (.c 7 1 (.q 14 (.c 16 1 (.done))))) (.c 7 1 (.c 5 1 (.q 14 (.c 16 1 (.done)))))))))))))))))))))))) (by kernel_rfl) ?_
  refine .cut [(0, some _), (1, some _), (2, some _), (3, some _), (4, some _), (5, some _), (9, some _), (10, some _)] ⟨rfl, rfl, rfl, rfl, rfl, rfl, rfl, rfl, trivial⟩ (fun rest fr' H' => ∃ g16 g18 g24 g6, Sub ((16, some (.slice (some ⟨g16, 0, none⟩) (repL xs xs.length).length (repL xs xs.length).length)) :: (18, some (.slice (some ⟨g18, 0, none⟩) (repL xs xs.length).length (repL xs xs.length).length)) :: (24, some (.slice (some ⟨g24, 0, none⟩) (thenL c.idn xs).length (thenL c.idn xs).length)) :: (6, some (.pointer (some ⟨g6, 0, none⟩))) :: rest) fr' ∧ H4.Le H' ∧ H4.next ≤ g16 ∧ H4.next ≤ g18 ∧ H4.next ≤ g24 ∧ H4.next ≤ g6 ∧ H'.get g16 = some (.row (ints (List.replicate (repL xs xs.length).length 0)) 2 true) ∧ H'.get g18 = some (.row (ints (List.replicate (repL xs xs.length).length 0)) 2 true) ∧ H'.get g24 = some (.row (ints (thenL c.idn xs)) 2 true) ∧ H'.get g6 = some (.row ([.int .i64 c.obj, .slice (some ⟨g16, 0, none⟩) (repL xs xs.length).length (repL xs xs.length).length, .slice (some ⟨g18, 0, none⟩) (repL xs xs.length).length (repL xs xs.length).length, .slice (some ⟨g24, 0, none⟩) (thenL c.idn xs).length (thenL c.idn xs).length, .slice none 0 0]) 27 true) ∧ g16 ≠ g18 ∧ g16 ≠ g24 ∧ g16 ≠ g6 ∧ g18 ≠ g24 ∧ g18 ≠ g6 ∧ g24 ≠ g6) ?_ ?_
  ·
   have hf0 := GHeap.Le.refl H4
   refine .m rfl rfl rfl rfl (.refl _) (.load on_109_Qi rfl (by first | assumption | exact Mem.of_get at2 0 _ rfl)) ?_
   refine .m rfl rfl rfl rfl (.refl _) (.nilCheck rfl) ?_
   refine .m rfl rfl rfl rfl (.refl _) (.fieldAddr fo_27_0_B rfl) ?_
   refine .m rfl rfl rfl rfl (.refl _) (.load on_2_A rfl (by assumption)) ?_
   refine .mB rfl rfl rfl rfl (.refl _) (.move rfl) ?_
   refine .mB rfl rfl rfl rfl (.refl _) (.move rfl) ?_
   refine .m rfl rfl rfl rfl (.refl _) (.load on_109_Qi rfl (by first | assumption | exact Mem.of_get at2 0 _ rfl)) ?_
   refine .m rfl rfl rfl rfl (.refl _) (.nilCheck rfl) ?_
   refine .m rfl rfl rfl rfl (.refl _) (.fieldAddr fo_27_3_B rfl) ?_
   refine .m rfl rfl rfl rfl (.refl _) (.load on_22_B rfl (by assumption)) ?_
   refine .m rfl rfl rfl rfl (.refl _) (.load on_88_Qi rfl (by first | assumption | exact Mem.of_get at3 0 _ rfl)) ?_
   refine .orI ?_ ?_
   ·
    refine .c1 rfl rfl rfl rfl (.makeIN rfl sl_22_A ze_2_E by_2_E rfl rfl (by omega) (by omega) (by omega)) ?_
    rintro _ H16x2 ⟨g16x2, rfl, le16x2, ge16x2, at16x2⟩
    have hbl := le16x2
    refine ⟨hbl, ?_⟩
    have nx_H16x2 := le16x2.1
    replace hle := hle.trans le16x2
    replace at2 := le16x2.2 _ _ at2
    replace at3 := le16x2.2 _ _ at3
    replace at4 := le16x2.2 _ _ at4
    have lt_at16x2 := GHeap.lt_of_get at16x2
    replace hc := base_hc.mono hle
    replace h := base_h.mono hle
    clear c0 c1 c2 c3 c4 i1 i2 i3 i4
    obtain ⟨c0, c1, c2, c3, c4, i1, i2, i3, i4⟩ := hc.get
    replace hf0 := hf0.trans le16x2
    refine .orI ?_ ?_
    ·
     refine .c1 rfl rfl rfl rfl (.makeIN rfl sl_22_A ze_2_E by_2_E rfl rfl (by omega) (by omega) (by omega)) ?_
     rintro _ H18x2 ⟨g18x2, rfl, le18x2, ge18x2, at18x2⟩
     replace hbl := hbl.trans le18x2
     refine ⟨hbl, ?_⟩
     have nx_H18x2 := le18x2.1
     replace hle := hle.trans le18x2
     replace at2 := le18x2.2 _ _ at2
     replace at3 := le18x2.2 _ _ at3
     replace at4 := le18x2.2 _ _ at4
     replace at16x2 := le18x2.2 _ _ at16x2
     have lt_at18x2 := GHeap.lt_of_get at18x2
     replace hc := base_hc.mono hle
     replace h := base_h.mono hle
     clear c0 c1 c2 c3 c4 i1 i2 i3 i4
     obtain ⟨c0, c1, c2, c3, c4, i1, i2, i3, i4⟩ := hc.get
     replace hf0 := hf0.trans le18x2
     refine .orI ?_ ?_
     ·
      refine .call1 rfl rfl rfl rfl rfl @Try.call92 rfl (implThen_c) ?_
      rintro _ H24x2 ⟨le24x2, g24x2, rfl, at24x2, ge24x2⟩
      replace hbl := hbl.trans le24x2
      refine ⟨hbl, ?_⟩
      have nx_H24x2 := le24x2.1
      replace hle := hle.trans le24x2
      replace at2 := le24x2.2 _ _ at2
      replace at3 := le24x2.2 _ _ at3
      replace at4 := le24x2.2 _ _ at4
      replace at16x2 := le24x2.2 _ _ at16x2
      replace at18x2 := le24x2.2 _ _ at18x2
      have lt_at24x2 := GHeap.lt_of_get at24x2
      replace hc := base_hc.mono hle
      replace h := base_h.mono hle
      clear c0 c1 c2 c3 c4 i1 i2 i3 i4
      obtain ⟨c0, c1, c2, c3, c4, i1, i2, i3, i4⟩ := hc.get
      have i24x2 := Ints.of_get at24x2
      replace hf0 := hf0.trans le24x2
      refine .mB rfl rfl rfl rfl hbl (.build bt_27_Qs rfl rfl rfl) ?_
      refine .c1 rfl rfl rfl rfl (.allocR rfl ze_27_E rfl) ?_
      rintro _ H6x2 ⟨g6x2, rfl, le6x2, ge6x2, at6x2⟩
      replace hbl := hbl.trans le6x2
      refine ⟨hbl, ?_⟩
      have nx_H6x2 := le6x2.1
      replace hle := hle.trans le6x2
      replace at2 := le6x2.2 _ _ at2
      replace at3 := le6x2.2 _ _ at3
      replace at4 := le6x2.2 _ _ at4
      replace at16x2 := le6x2.2 _ _ at16x2
      replace at18x2 := le6x2.2 _ _ at18x2
      replace at24x2 := le6x2.2 _ _ at24x2
      have lt_at6x2 := GHeap.lt_of_get at6x2
      replace hc := base_hc.mono hle
      replace h := base_h.mono hle
      clear c0 c1 c2 c3 c4 i1 i2 i3 i4
      obtain ⟨c0, c1, c2, c3, c4, i1, i2, i3, i4⟩ := hc.get
      clear i24x2
      have i24x2 := Ints.of_get at24x2
      replace hf0 := hf0.trans le6x2
      refine .r1 rfl rfl rfl (.fillR rfl sz_27_D rfl rfl rfl rfl (by assumption) (by first | rfl | exact Nat.le_of_ble_eq_true rfl | simp)) ?_
      rintro _ H2016 ⟨rfl, st2016, at2016⟩
      replace hbl := hbl.st st2016 (fun k hk => ⟨by omega, trivial⟩)
      refine ⟨hbl, ?_⟩
      have nx_H2016 := st2016.nx
      replace hle := hle.st st2016 (fun k hk => ⟨by omega, trivial⟩)
      replace at2 := st2016.same _ _ ⟨by omega, trivial⟩ at2
      replace at3 := st2016.same _ _ ⟨by omega, trivial⟩ at3
      replace at4 := st2016.same _ _ ⟨by omega, trivial⟩ at4
      replace at16x2 := st2016.same _ _ ⟨by omega, trivial⟩ at16x2
      replace at18x2 := st2016.same _ _ ⟨by omega, trivial⟩ at18x2
      replace at24x2 := st2016.same _ _ ⟨by omega, trivial⟩ at24x2
      have lt_at2016 := GHeap.lt_of_get at2016
      replace hc := base_hc.mono hle
      replace h := base_h.mono hle
      clear c0 c1 c2 c3 c4 i1 i2 i3 i4
      obtain ⟨c0, c1, c2, c3, c4, i1, i2, i3, i4⟩ := hc.get
      clear i24x2
      have i24x2 := Ints.of_get at24x2
      have mm2016 : MemN _ _ _ _ _ := ⟨rfl, Mem.of_get at2016⟩
      replace hf0 := hf0.st st2016 (fun k hk => ⟨by omega, trivial⟩)
      refine .done ?_
      exact ⟨g16x2, g18x2, g24x2, g6x2, ⟨rfl, rfl, rfl, rfl, rfl, rfl, rfl, rfl, rfl, rfl, rfl, rfl, trivial⟩, hf0, by omega, by omega, by omega, by omega, by first | assumption | simpa using at16x2, by first | assumption | simpa using at18x2, by first | assumption | simpa using at24x2, by first | assumption | simpa using at2016, by omega, by omega, by omega, by omega, by omega, by omega⟩
     ·
      refine .c1 rfl rfl rfl rfl (.allocR rfl ze_27_E rfl) ?_
      rintro _ H6x3 ⟨g6x3, rfl, le6x3, ge6x3, at6x3⟩
      replace hbl := hbl.trans le6x3
      refine ⟨hbl, ?_⟩
      have nx_H6x3 := le6x3.1
      replace hle := hle.trans le6x3
      replace at2 := le6x3.2 _ _ at2
      replace at3 := le6x3.2 _ _ at3
      replace at4 := le6x3.2 _ _ at4
      replace at16x2 := le6x3.2 _ _ at16x2
      replace at18x2 := le6x3.2 _ _ at18x2
      have lt_at6x3 := GHeap.lt_of_get at6x3
      replace hc := base_hc.mono hle
      replace h := base_h.mono hle
      clear c0 c1 c2 c3 c4 i1 i2 i3 i4
      obtain ⟨c0, c1, c2, c3, c4, i1, i2, i3, i4⟩ := hc.get
      replace hf0 := hf0.trans le6x3
      refine .call1 rfl rfl rfl rfl rfl @Try.call92 rfl (implThen_c) ?_
      rintro _ H24x3 ⟨le24x3, g24x3, rfl, at24x3, ge24x3⟩
      replace hbl := hbl.trans le24x3
      refine ⟨hbl, ?_⟩
      have nx_H24x3 := le24x3.1
      replace hle := hle.trans le24x3
      replace at2 := le24x3.2 _ _ at2
      replace at3 := le24x3.2 _ _ at3
      replace at4 := le24x3.2 _ _ at4
      replace at16x2 := le24x3.2 _ _ at16x2
      replace at18x2 := le24x3.2 _ _ at18x2
      replace at6x3 := le24x3.2 _ _ at6x3
      have lt_at24x3 := GHeap.lt_of_get at24x3
      replace hc := base_hc.mono hle
      replace h := base_h.mono hle
      clear c0 c1 c2 c3 c4 i1 i2 i3 i4
      obtain ⟨c0, c1, c2, c3, c4, i1, i2, i3, i4⟩ := hc.get
      have i24x3 := Ints.of_get at24x3
      replace hf0 := hf0.trans le24x3
      refine .mB rfl rfl rfl rfl hbl (.build bt_27_Qs rfl rfl rfl) ?_
      refine .r1 rfl rfl rfl (.fillR rfl sz_27_D rfl rfl rfl rfl (by assumption) (by first | rfl | exact Nat.le_of_ble_eq_true rfl | simp)) ?_
      rintro _ H2016x2 ⟨rfl, st2016x2, at2016x2⟩
      replace hbl := hbl.st st2016x2 (fun k hk => ⟨by omega, trivial⟩)
      refine ⟨hbl, ?_⟩
      have nx_H2016x2 := st2016x2.nx
      replace hle := hle.st st2016x2 (fun k hk => ⟨by omega, trivial⟩)
      replace at2 := st2016x2.same _ _ ⟨by omega, trivial⟩ at2
      replace at3 := st2016x2.same _ _ ⟨by omega, trivial⟩ at3
      replace at4 := st2016x2.same _ _ ⟨by omega, trivial⟩ at4
      replace at16x2 := st2016x2.same _ _ ⟨by omega, trivial⟩ at16x2
      replace at18x2 := st2016x2.same _ _ ⟨by omega, trivial⟩ at18x2
      replace at24x3 := st2016x2.same _ _ ⟨by omega, trivial⟩ at24x3
      have lt_at2016x2 := GHeap.lt_of_get at2016x2
      replace hc := base_hc.mono hle
      replace h := base_h.mono hle
      clear c0 c1 c2 c3 c4 i1 i2 i3 i4
      obtain ⟨c0, c1, c2, c3, c4, i1, i2, i3, i4⟩ := hc.get
      clear i24x3
      have i24x3 := Ints.of_get at24x3
      have mm2016x2 : MemN _ _ _ _ _ := ⟨rfl, Mem.of_get at2016x2⟩
      replace hf0 := hf0.st st2016x2 (fun k hk => ⟨by omega, trivial⟩)
      refine .done ?_
      exact ⟨g16x2, g18x2, g24x3, g6x3, ⟨rfl, rfl, rfl, rfl, rfl, rfl, rfl, rfl, rfl, rfl, rfl, rfl, trivial⟩, hf0, by omega, by omega, by omega, by omega, by first | assumption | simpa using at16x2, by first | assumption | simpa using at18x2, by first | assumption | simpa using at24x3, by first | assumption | simpa using at2016x2, by omega, by omega, by omega, by omega, by omega, by omega⟩
    ·
     refine .orI ?_ ?_
     ·
      refine .call1 rfl rfl rfl rfl rfl @Try.call92 rfl (implThen_c) ?_
      rintro _ H24x4 ⟨le24x4, g24x4, rfl, at24x4, ge24x4⟩
      replace hbl := hbl.trans le24x4
      refine ⟨hbl, ?_⟩
      have nx_H24x4 := le24x4.1
      replace hle := hle.trans le24x4
      replace at2 := le24x4.2 _ _ at2
      replace at3 := le24x4.2 _ _ at3
      replace at4 := le24x4.2 _ _ at4
      replace at16x2 := le24x4.2 _ _ at16x2
      have lt_at24x4 := GHeap.lt_of_get at24x4
      replace hc := base_hc.mono hle
      replace h := base_h.mono hle
      clear c0 c1 c2 c3 c4 i1 i2 i3 i4
      obtain ⟨c0, c1, c2, c3, c4, i1, i2, i3, i4⟩ := hc.get
      have i24x4 := Ints.of_get at24x4
      replace hf0 := hf0.trans le24x4
      refine .orI ?_ ?_
      ·
       refine .c1 rfl rfl rfl rfl (.makeIN rfl sl_22_A ze_2_E by_2_E rfl rfl (by omega) (by omega) (by omega)) ?_
       rintro _ H18x3 ⟨g18x3, rfl, le18x3, ge18x3, at18x3⟩
       replace hbl := hbl.trans le18x3
       refine ⟨hbl, ?_⟩
       have nx_H18x3 := le18x3.1
       replace hle := hle.trans le18x3
       replace at2 := le18x3.2 _ _ at2
       replace at3 := le18x3.2 _ _ at3
       replace at4 := le18x3.2 _ _ at4
       replace at16x2 := le18x3.2 _ _ at16x2
       replace at24x4 := le18x3.2 _ _ at24x4
       have lt_at18x3 := GHeap.lt_of_get at18x3
       replace hc := base_hc.mono hle
       replace h := base_h.mono hle
       clear c0 c1 c2 c3 c4 i1 i2 i3 i4
       obtain ⟨c0, c1, c2, c3, c4, i1, i2, i3, i4⟩ := hc.get
       clear i24x4
       have i24x4 := Ints.of_get at24x4
       replace hf0 := hf0.trans le18x3
       refine .mB rfl rfl rfl rfl hbl (.build bt_27_Qs rfl rfl rfl) ?_
       refine .c1 rfl rfl rfl rfl (.allocR rfl ze_27_E rfl) ?_
       rintro _ H6x4 ⟨g6x4, rfl, le6x4, ge6x4, at6x4⟩
       replace hbl := hbl.trans le6x4
       refine ⟨hbl, ?_⟩
       have nx_H6x4 := le6x4.1
       replace hle := hle.trans le6x4
       replace at2 := le6x4.2 _ _ at2
       replace at3 := le6x4.2 _ _ at3
       replace at4 := le6x4.2 _ _ at4
       replace at16x2 := le6x4.2 _ _ at16x2
       replace at24x4 := le6x4.2 _ _ at24x4
       replace at18x3 := le6x4.2 _ _ at18x3
       have lt_at6x4 := GHeap.lt_of_get at6x4
       replace hc := base_hc.mono hle
       replace h := base_h.mono hle
       clear c0 c1 c2 c3 c4 i1 i2 i3 i4
       obtain ⟨c0, c1, c2, c3, c4, i1, i2, i3, i4⟩ := hc.get
       clear i24x4
       have i24x4 := Ints.of_get at24x4
       replace hf0 := hf0.trans le6x4
       refine .r1 rfl rfl rfl (.fillR rfl sz_27_D rfl rfl rfl rfl (by assumption) (by first | rfl | exact Nat.le_of_ble_eq_true rfl | simp)) ?_
       rintro _ H2016x3 ⟨rfl, st2016x3, at2016x3⟩
       replace hbl := hbl.st st2016x3 (fun k hk => ⟨by omega, trivial⟩)
       refine ⟨hbl, ?_⟩
       have nx_H2016x3 := st2016x3.nx
       replace hle := hle.st st2016x3 (fun k hk => ⟨by omega, trivial⟩)
       replace at2 := st2016x3.same _ _ ⟨by omega, trivial⟩ at2
       replace at3 := st2016x3.same _ _ ⟨by omega, trivial⟩ at3
       replace at4 := st2016x3.same _ _ ⟨by omega, trivial⟩ at4
       replace at16x2 := st2016x3.same _ _ ⟨by omega, trivial⟩ at16x2
       replace at24x4 := st2016x3.same _ _ ⟨by omega, trivial⟩ at24x4
       replace at18x3 := st2016x3.same _ _ ⟨by omega, trivial⟩ at18x3
       have lt_at2016x3 := GHeap.lt_of_get at2016x3
       replace hc := base_hc.mono hle
       replace h := base_h.mono hle
       clear c0 c1 c2 c3 c4 i1 i2 i3 i4
       obtain ⟨c0, c1, c2, c3, c4, i1, i2, i3, i4⟩ := hc.get
       clear i24x4
       have i24x4 := Ints.of_get at24x4
       have mm2016x3 : MemN _ _ _ _ _ := ⟨rfl, Mem.of_get at2016x3⟩
       replace hf0 := hf0.st st2016x3 (fun k hk => ⟨by omega, trivial⟩)
       refine .done ?_
       exact ⟨g16x2, g18x3, g24x4, g6x4, ⟨rfl, rfl, rfl, rfl, rfl, rfl, rfl, rfl, rfl, rfl, rfl, rfl, trivial⟩, hf0, by omega, by omega, by omega, by omega, by first | assumption | simpa using at16x2, by first | assumption | simpa using at18x3, by first | assumption | simpa using at24x4, by first | assumption | simpa using at2016x3, by omega, by omega, by omega, by omega, by omega, by omega⟩
      ·
       refine .c1 rfl rfl rfl rfl (.allocR rfl ze_27_E rfl) ?_
       rintro _ H6x5 ⟨g6x5, rfl, le6x5, ge6x5, at6x5⟩
       replace hbl := hbl.trans le6x5
       refine ⟨hbl, ?_⟩
       have nx_H6x5 := le6x5.1
       replace hle := hle.trans le6x5
       replace at2 := le6x5.2 _ _ at2
       replace at3 := le6x5.2 _ _ at3
       replace at4 := le6x5.2 _ _ at4
       replace at16x2 := le6x5.2 _ _ at16x2
       replace at24x4 := le6x5.2 _ _ at24x4
       have lt_at6x5 := GHeap.lt_of_get at6x5
       replace hc := base_hc.mono hle
       replace h := base_h.mono hle
       clear c0 c1 c2 c3 c4 i1 i2 i3 i4
       obtain ⟨c0, c1, c2, c3, c4, i1, i2, i3, i4⟩ := hc.get
       clear i24x4
       have i24x4 := Ints.of_get at24x4
       replace hf0 := hf0.trans le6x5
       refine .c1 rfl rfl rfl rfl (.makeIN rfl sl_22_A ze_2_E by_2_E rfl rfl (by omega) (by omega) (by omega)) ?_
       rintro _ H18x4 ⟨g18x4, rfl, le18x4, ge18x4, at18x4⟩
       replace hbl := hbl.trans le18x4
       refine ⟨hbl, ?_⟩
       have nx_H18x4 := le18x4.1
       replace hle := hle.trans le18x4
       replace at2 := le18x4.2 _ _ at2
       replace at3 := le18x4.2 _ _ at3
       replace at4 := le18x4.2 _ _ at4
       replace at16x2 := le18x4.2 _ _ at16x2
       replace at24x4 := le18x4.2 _ _ at24x4
       replace at6x5 := le18x4.2 _ _ at6x5
       have lt_at18x4 := GHeap.lt_of_get at18x4
       replace hc := base_hc.mono hle
       replace h := base_h.mono hle
       clear c0 c1 c2 c3 c4 i1 i2 i3 i4
       obtain ⟨c0, c1, c2, c3, c4, i1, i2, i3, i4⟩ := hc.get
       clear i24x4
       have i24x4 := Ints.of_get at24x4
       replace hf0 := hf0.trans le18x4
       refine .mB rfl rfl rfl rfl hbl (.build bt_27_Qs rfl rfl rfl) ?_
       refine .r1 rfl rfl rfl (.fillR rfl sz_27_D rfl rfl rfl rfl (by assumption) (by first | rfl | exact Nat.le_of_ble_eq_true rfl | simp)) ?_
       rintro _ H2016x4 ⟨rfl, st2016x4, at2016x4⟩
       replace hbl := hbl.st st2016x4 (fun k hk => ⟨by omega, trivial⟩)
       refine ⟨hbl, ?_⟩
       have nx_H2016x4 := st2016x4.nx
       replace hle := hle.st st2016x4 (fun k hk => ⟨by omega, trivial⟩)
       replace at2 := st2016x4.same _ _ ⟨by omega, trivial⟩ at2
       replace at3 := st2016x4.same _ _ ⟨by omega, trivial⟩ at3
       replace at4 := st2016x4.same _ _ ⟨by omega, trivial⟩ at4
       replace at16x2 := st2016x4.same _ _ ⟨by omega, trivial⟩ at16x2
       replace at24x4 := st2016x4.same _ _ ⟨by omega, trivial⟩ at24x4
       replace at18x4 := st2016x4.same _ _ ⟨by omega, trivial⟩ at18x4
       have lt_at2016x4 := GHeap.lt_of_get at2016x4
       replace hc := base_hc.mono hle
       replace h := base_h.mono hle
       clear c0 c1 c2 c3 c4 i1 i2 i3 i4
       obtain ⟨c0, c1, c2, c3, c4, i1, i2, i3, i4⟩ := hc.get
       clear i24x4
       have i24x4 := Ints.of_get at24x4
       have mm2016x4 : MemN _ _ _ _ _ := ⟨rfl, Mem.of_get at2016x4⟩
       replace hf0 := hf0.st st2016x4 (fun k hk => ⟨by omega, trivial⟩)
       refine .done ?_
       exact ⟨g16x2, g18x4, g24x4, g6x5, ⟨rfl, rfl, rfl, rfl, rfl, rfl, rfl, rfl, rfl, rfl, rfl, rfl, trivial⟩, hf0, by omega, by omega, by omega, by omega, by first | assumption | simpa using at16x2, by first | assumption | simpa using at18x4, by first | assumption | simpa using at24x4, by first | assumption | simpa using at2016x4, by omega, by omega, by omega, by omega, by omega, by omega⟩
     ·
      refine .c1 rfl rfl rfl rfl (.allocR rfl ze_27_E rfl) ?_
      rintro _ H6x6 ⟨g6x6, rfl, le6x6, ge6x6, at6x6⟩
      replace hbl := hbl.trans le6x6
      refine ⟨hbl, ?_⟩
      have nx_H6x6 := le6x6.1
      replace hle := hle.trans le6x6
      replace at2 := le6x6.2 _ _ at2
      replace at3 := le6x6.2 _ _ at3
      replace at4 := le6x6.2 _ _ at4
      replace at16x2 := le6x6.2 _ _ at16x2
      have lt_at6x6 := GHeap.lt_of_get at6x6
      replace hc := base_hc.mono hle
      replace h := base_h.mono hle
      clear c0 c1 c2 c3 c4 i1 i2 i3 i4
      obtain ⟨c0, c1, c2, c3, c4, i1, i2, i3, i4⟩ := hc.get
      replace hf0 := hf0.trans le6x6
      refine .orI ?_ ?_
      ·
       refine .c1 rfl rfl rfl rfl (.makeIN rfl sl_22_A ze_2_E by_2_E rfl rfl (by omega) (by omega) (by omega)) ?_
       rintro _ H18x5 ⟨g18x5, rfl, le18x5, ge18x5, at18x5⟩
       replace hbl := hbl.trans le18x5
       refine ⟨hbl, ?_⟩
       have nx_H18x5 := le18x5.1
       replace hle := hle.trans le18x5
       replace at2 := le18x5.2 _ _ at2
       replace at3 := le18x5.2 _ _ at3
       replace at4 := le18x5.2 _ _ at4
       replace at16x2 := le18x5.2 _ _ at16x2
       replace at6x6 := le18x5.2 _ _ at6x6
       have lt_at18x5 := GHeap.lt_of_get at18x5
       replace hc := base_hc.mono hle
       replace h := base_h.mono hle
       clear c0 c1 c2 c3 c4 i1 i2 i3 i4
       obtain ⟨c0, c1, c2, c3, c4, i1, i2, i3, i4⟩ := hc.get
       replace hf0 := hf0.trans le18x5
       refine .call1 rfl rfl rfl rfl rfl @Try.call92 rfl (implThen_c) ?_
       rintro _ H24x5 ⟨le24x5, g24x5, rfl, at24x5, ge24x5⟩
       replace hbl := hbl.trans le24x5
       refine ⟨hbl, ?_⟩
       have nx_H24x5 := le24x5.1
       replace hle := hle.trans le24x5
       replace at2 := le24x5.2 _ _ at2
       replace at3 := le24x5.2 _ _ at3
       replace at4 := le24x5.2 _ _ at4
       replace at16x2 := le24x5.2 _ _ at16x2
       replace at6x6 := le24x5.2 _ _ at6x6
       replace at18x5 := le24x5.2 _ _ at18x5
       have lt_at24x5 := GHeap.lt_of_get at24x5
       replace hc := base_hc.mono hle
       replace h := base_h.mono hle
       clear c0 c1 c2 c3 c4 i1 i2 i3 i4
       obtain ⟨c0, c1, c2, c3, c4, i1, i2, i3, i4⟩ := hc.get
       have i24x5 := Ints.of_get at24x5
       replace hf0 := hf0.trans le24x5
       refine .mB rfl rfl rfl rfl hbl (.build bt_27_Qs rfl rfl rfl) ?_
       refine .r1 rfl rfl rfl (.fillR rfl sz_27_D rfl rfl rfl rfl (by assumption) (by first | rfl | exact Nat.le_of_ble_eq_true rfl | simp)) ?_
       rintro _ H2016x5 ⟨rfl, st2016x5, at2016x5⟩
       replace hbl := hbl.st st2016x5 (fun k hk => ⟨by omega, trivial⟩)
       refine ⟨hbl, ?_⟩
       have nx_H2016x5 := st2016x5.nx
       replace hle := hle.st st2016x5 (fun k hk => ⟨by omega, trivial⟩)
       replace at2 := st2016x5.same _ _ ⟨by omega, trivial⟩ at2
       replace at3 := st2016x5.same _ _ ⟨by omega, trivial⟩ at3
       replace at4 := st2016x5.same _ _ ⟨by omega, trivial⟩ at4
       replace at16x2 := st2016x5.same _ _ ⟨by omega, trivial⟩ at16x2
       replace at18x5 := st2016x5.same _ _ ⟨by omega, trivial⟩ at18x5
       replace at24x5 := st2016x5.same _ _ ⟨by omega, trivial⟩ at24x5
       have lt_at2016x5 := GHeap.lt_of_get at2016x5
       replace hc := base_hc.mono hle
       replace h := base_h.mono hle
       clear c0 c1 c2 c3 c4 i1 i2 i3 i4
       obtain ⟨c0, c1, c2, c3, c4, i1, i2, i3, i4⟩ := hc.get
       clear i24x5
       have i24x5 := Ints.of_get at24x5
       have mm2016x5 : MemN _ _ _ _ _ := ⟨rfl, Mem.of_get at2016x5⟩
       replace hf0 := hf0.st st2016x5 (fun k hk => ⟨by omega, trivial⟩)
       refine .done ?_
       exact ⟨g16x2, g18x5, g24x5, g6x6, ⟨rfl, rfl, rfl, rfl, rfl, rfl, rfl, rfl, rfl, rfl, rfl, rfl, trivial⟩, hf0, by omega, by omega, by omega, by omega, by first | assumption | simpa using at16x2, by first | assumption | simpa using at18x5, by first | assumption | simpa using at24x5, by first | assumption | simpa using at2016x5, by omega, by omega, by omega, by omega, by omega, by omega⟩
      ·
       refine .call1 rfl rfl rfl rfl rfl @Try.call92 rfl (implThen_c) ?_
       rintro _ H24x6 ⟨le24x6, g24x6, rfl, at24x6, ge24x6⟩
       replace hbl := hbl.trans le24x6
       refine ⟨hbl, ?_⟩
       have nx_H24x6 := le24x6.1
       replace hle := hle.trans le24x6
       replace at2 := le24x6.2 _ _ at2
       replace at3 := le24x6.2 _ _ at3
       replace at4 := le24x6.2 _ _ at4
       replace at16x2 := le24x6.2 _ _ at16x2
       replace at6x6 := le24x6.2 _ _ at6x6
       have lt_at24x6 := GHeap.lt_of_get at24x6
       replace hc := base_hc.mono hle
       replace h := base_h.mono hle
       clear c0 c1 c2 c3 c4 i1 i2 i3 i4
       obtain ⟨c0, c1, c2, c3, c4, i1, i2, i3, i4⟩ := hc.get
       have i24x6 := Ints.of_get at24x6
       replace hf0 := hf0.trans le24x6
       refine .c1 rfl rfl rfl rfl (.makeIN rfl sl_22_A ze_2_E by_2_E rfl rfl (by omega) (by omega) (by omega)) ?_
       rintro _ H18x6 ⟨g18x6, rfl, le18x6, ge18x6, at18x6⟩
       replace hbl := hbl.trans le18x6
       refine ⟨hbl, ?_⟩
       have nx_H18x6 := le18x6.1
       replace hle := hle.trans le18x6
       replace at2 := le18x6.2 _ _ at2
       replace at3 := le18x6.2 _ _ at3
       replace at4 := le18x6.2 _ _ at4
       replace at16x2 := le18x6.2 _ _ at16x2
       replace at6x6 := le18x6.2 _ _ at6x6
       replace at24x6 := le18x6.2 _ _ at24x6
       have lt_at18x6 := GHeap.lt_of_get at18x6
       replace hc := base_hc.mono hle
       replace h := base_h.mono hle
       clear c0 c1 c2 c3 c4 i1 i2 i3 i4
       obtain ⟨c0, c1, c2, c3, c4, i1, i2, i3, i4⟩ := hc.get
       clear i24x6
       have i24x6 := Ints.of_get at24x6
       replace hf0 := hf0.trans le18x6
       refine .mB rfl rfl rfl rfl hbl (.build bt_27_Qs rfl rfl rfl) ?_
       refine .r1 rfl rfl rfl (.fillR rfl sz_27_D rfl rfl rfl rfl (by assumption) (by first | rfl | exact Nat.le_of_ble_eq_true rfl | simp)) ?_
       rintro _ H2016x6 ⟨rfl, st2016x6, at2016x6⟩
       replace hbl := hbl.st st2016x6 (fun k hk => ⟨by omega, trivial⟩)
       refine ⟨hbl, ?_⟩
       have nx_H2016x6 := st2016x6.nx
       replace hle := hle.st st2016x6 (fun k hk => ⟨by omega, trivial⟩)
       replace at2 := st2016x6.same _ _ ⟨by omega, trivial⟩ at2
       replace at3 := st2016x6.same _ _ ⟨by omega, trivial⟩ at3
       replace at4 := st2016x6.same _ _ ⟨by omega, trivial⟩ at4
       replace at16x2 := st2016x6.same _ _ ⟨by omega, trivial⟩ at16x2
       replace at24x6 := st2016x6.same _ _ ⟨by omega, trivial⟩ at24x6
       replace at18x6 := st2016x6.same _ _ ⟨by omega, trivial⟩ at18x6
       have lt_at2016x6 := GHeap.lt_of_get at2016x6
       replace hc := base_hc.mono hle
       replace h := base_h.mono hle
       clear c0 c1 c2 c3 c4 i1 i2 i3 i4
       obtain ⟨c0, c1, c2, c3, c4, i1, i2, i3, i4⟩ := hc.get
       clear i24x6
       have i24x6 := Ints.of_get at24x6
       have mm2016x6 : MemN _ _ _ _ _ := ⟨rfl, Mem.of_get at2016x6⟩
       replace hf0 := hf0.st st2016x6 (fun k hk => ⟨by omega, trivial⟩)
       refine .done ?_
       exact ⟨g16x2, g18x6, g24x6, g6x6, ⟨rfl, rfl, rfl, rfl, rfl, rfl, rfl, rfl, rfl, rfl, rfl, rfl, trivial⟩, hf0, by omega, by omega, by omega, by omega, by first | assumption | simpa using at16x2, by first | assumption | simpa using at18x6, by first | assumption | simpa using at24x6, by first | assumption | simpa using at2016x6, by omega, by omega, by omega, by omega, by omega, by omega⟩
   ·
    refine .orI ?_ ?_
    ·
     refine .c1 rfl rfl rfl rfl (.makeIN rfl sl_22_A ze_2_E by_2_E rfl rfl (by omega) (by omega) (by omega)) ?_
     rintro _ H18x7 ⟨g18x7, rfl, le18x7, ge18x7, at18x7⟩
     have hbl := le18x7
     refine ⟨hbl, ?_⟩
     have nx_H18x7 := le18x7.1
     replace hle := hle.trans le18x7
     replace at2 := le18x7.2 _ _ at2
     replace at3 := le18x7.2 _ _ at3
     replace at4 := le18x7.2 _ _ at4
     have lt_at18x7 := GHeap.lt_of_get at18x7
     replace hc := base_hc.mono hle
     replace h := base_h.mono hle
     clear c0 c1 c2 c3 c4 i1 i2 i3 i4
     obtain ⟨c0, c1, c2, c3, c4, i1, i2, i3, i4⟩ := hc.get
     replace hf0 := hf0.trans le18x7
     refine .orI ?_ ?_
     ·
      refine .c1 rfl rfl rfl rfl (.makeIN rfl sl_22_A ze_2_E by_2_E rfl rfl (by omega) (by omega) (by omega)) ?_
      rintro _ H16x3 ⟨g16x3, rfl, le16x3, ge16x3, at16x3⟩
      replace hbl := hbl.trans le16x3
      refine ⟨hbl, ?_⟩
      have nx_H16x3 := le16x3.1
      replace hle := hle.trans le16x3
      replace at2 := le16x3.2 _ _ at2
      replace at3 := le16x3.2 _ _ at3
      replace at4 := le16x3.2 _ _ at4
      replace at18x7 := le16x3.2 _ _ at18x7
      have lt_at16x3 := GHeap.lt_of_get at16x3
      replace hc := base_hc.mono hle
      replace h := base_h.mono hle
      clear c0 c1 c2 c3 c4 i1 i2 i3 i4
      obtain ⟨c0, c1, c2, c3, c4, i1, i2, i3, i4⟩ := hc.get
      replace hf0 := hf0.trans le16x3
      refine .orI ?_ ?_
      ·
       refine .call1 rfl rfl rfl rfl rfl @Try.call92 rfl (implThen_c) ?_
       rintro _ H24x7 ⟨le24x7, g24x7, rfl, at24x7, ge24x7⟩
       replace hbl := hbl.trans le24x7
       refine ⟨hbl, ?_⟩
       have nx_H24x7 := le24x7.1
       replace hle := hle.trans le24x7
       replace at2 := le24x7.2 _ _ at2
       replace at3 := le24x7.2 _ _ at3
       replace at4 := le24x7.2 _ _ at4
       replace at18x7 := le24x7.2 _ _ at18x7
       replace at16x3 := le24x7.2 _ _ at16x3
       have lt_at24x7 := GHeap.lt_of_get at24x7
       replace hc := base_hc.mono hle
       replace h := base_h.mono hle
       clear c0 c1 c2 c3 c4 i1 i2 i3 i4
       obtain ⟨c0, c1, c2, c3, c4, i1, i2, i3, i4⟩ := hc.get
       have i24x7 := Ints.of_get at24x7
       replace hf0 := hf0.trans le24x7
       refine .mB rfl rfl rfl rfl hbl (.build bt_27_Qs rfl rfl rfl) ?_
       refine .c1 rfl rfl rfl rfl (.allocR rfl ze_27_E rfl) ?_
       rintro _ H6x7 ⟨g6x7, rfl, le6x7, ge6x7, at6x7⟩
       replace hbl := hbl.trans le6x7
       refine ⟨hbl, ?_⟩
       have nx_H6x7 := le6x7.1
       replace hle := hle.trans le6x7
       replace at2 := le6x7.2 _ _ at2
       replace at3 := le6x7.2 _ _ at3
       replace at4 := le6x7.2 _ _ at4
       replace at18x7 := le6x7.2 _ _ at18x7
       replace at16x3 := le6x7.2 _ _ at16x3
       replace at24x7 := le6x7.2 _ _ at24x7
       have lt_at6x7 := GHeap.lt_of_get at6x7
       replace hc := base_hc.mono hle
       replace h := base_h.mono hle
       clear c0 c1 c2 c3 c4 i1 i2 i3 i4
       obtain ⟨c0, c1, c2, c3, c4, i1, i2, i3, i4⟩ := hc.get
       clear i24x7
       have i24x7 := Ints.of_get at24x7
       replace hf0 := hf0.trans le6x7
       refine .r1 rfl rfl rfl (.fillR rfl sz_27_D rfl rfl rfl rfl (by assumption) (by first | rfl | exact Nat.le_of_ble_eq_true rfl | simp)) ?_
       rintro _ H2016x7 ⟨rfl, st2016x7, at2016x7⟩
       replace hbl := hbl.st st2016x7 (fun k hk => ⟨by omega, trivial⟩)
       refine ⟨hbl, ?_⟩
       have nx_H2016x7 := st2016x7.nx
       replace hle := hle.st st2016x7 (fun k hk => ⟨by omega, trivial⟩)
       replace at2 := st2016x7.same _ _ ⟨by omega, trivial⟩ at2
       replace at3 := st2016x7.same _ _ ⟨by omega, trivial⟩ at3
       replace at4 := st2016x7.same _ _ ⟨by omega, trivial⟩ at4
       replace at18x7 := st2016x7.same _ _ ⟨by omega, trivial⟩ at18x7
       replace at16x3 := st2016x7.same _ _ ⟨by omega, trivial⟩ at16x3
       replace at24x7 := st2016x7.same _ _ ⟨by omega, trivial⟩ at24x7
       have lt_at2016x7 := GHeap.lt_of_get at2016x7
       replace hc := base_hc.mono hle
       replace h := base_h.mono hle
       clear c0 c1 c2 c3 c4 i1 i2 i3 i4
       obtain ⟨c0, c1, c2, c3, c4, i1, i2, i3, i4⟩ := hc.get
       clear i24x7
       have i24x7 := Ints.of_get at24x7
       have mm2016x7 : MemN _ _ _ _ _ := ⟨rfl, Mem.of_get at2016x7⟩
       replace hf0 := hf0.st st2016x7 (fun k hk => ⟨by omega, trivial⟩)
       refine .done ?_
       exact ⟨g16x3, g18x7, g24x7, g6x7, ⟨rfl, rfl, rfl, rfl, rfl, rfl, rfl, rfl, rfl, rfl, rfl, rfl, trivial⟩, hf0, by omega, by omega, by omega, by omega, by first | assumption | simpa using at16x3, by first | assumption | simpa using at18x7, by first | assumption | simpa using at24x7, by first | assumption | simpa using at2016x7, by omega, by omega, by omega, by omega, by omega, by omega⟩
      ·
       refine .c1 rfl rfl rfl rfl (.allocR rfl ze_27_E rfl) ?_
       rintro _ H6x8 ⟨g6x8, rfl, le6x8, ge6x8, at6x8⟩
       replace hbl := hbl.trans le6x8
       refine ⟨hbl, ?_⟩
       have nx_H6x8 := le6x8.1
       replace hle := hle.trans le6x8
       replace at2 := le6x8.2 _ _ at2
       replace at3 := le6x8.2 _ _ at3
       replace at4 := le6x8.2 _ _ at4
       replace at18x7 := le6x8.2 _ _ at18x7
       replace at16x3 := le6x8.2 _ _ at16x3
       have lt_at6x8 := GHeap.lt_of_get at6x8
       replace hc := base_hc.mono hle
       replace h := base_h.mono hle
       clear c0 c1 c2 c3 c4 i1 i2 i3 i4
       obtain ⟨c0, c1, c2, c3, c4, i1, i2, i3, i4⟩ := hc.get
       replace hf0 := hf0.trans le6x8
       refine .call1 rfl rfl rfl rfl rfl @Try.call92 rfl (implThen_c) ?_
       rintro _ H24x8 ⟨le24x8, g24x8, rfl, at24x8, ge24x8⟩
       replace hbl := hbl.trans le24x8
       refine ⟨hbl, ?_⟩
       have nx_H24x8 := le24x8.1
       replace hle := hle.trans le24x8
       replace at2 := le24x8.2 _ _ at2
       replace at3 := le24x8.2 _ _ at3
       replace at4 := le24x8.2 _ _ at4
       replace at18x7 := le24x8.2 _ _ at18x7
       replace at16x3 := le24x8.2 _ _ at16x3
       replace at6x8 := le24x8.2 _ _ at6x8
       have lt_at24x8 := GHeap.lt_of_get at24x8
       replace hc := base_hc.mono hle
       replace h := base_h.mono hle
       clear c0 c1 c2 c3 c4 i1 i2 i3 i4
       obtain ⟨c0, c1, c2, c3, c4, i1, i2, i3, i4⟩ := hc.get
       have i24x8 := Ints.of_get at24x8
       replace hf0 := hf0.trans le24x8
       refine .mB rfl rfl rfl rfl hbl (.build bt_27_Qs rfl rfl rfl) ?_
       refine .r1 rfl rfl rfl (.fillR rfl sz_27_D rfl rfl rfl rfl (by assumption) (by first | rfl | exact Nat.le_of_ble_eq_true rfl | simp)) ?_
       rintro _ H2016x8 ⟨rfl, st2016x8, at2016x8⟩
       replace hbl := hbl.st st2016x8 (fun k hk => ⟨by omega, trivial⟩)
       refine ⟨hbl, ?_⟩
       have nx_H2016x8 := st2016x8.nx
       replace hle := hle.st st2016x8 (fun k hk => ⟨by omega, trivial⟩)
       replace at2 := st2016x8.same _ _ ⟨by omega, trivial⟩ at2
       replace at3 := st2016x8.same _ _ ⟨by omega, trivial⟩ at3
       replace at4 := st2016x8.same _ _ ⟨by omega, trivial⟩ at4
       replace at18x7 := st2016x8.same _ _ ⟨by omega, trivial⟩ at18x7
       replace at16x3 := st2016x8.same _ _ ⟨by omega, trivial⟩ at16x3
       replace at24x8 := st2016x8.same _ _ ⟨by omega, trivial⟩ at24x8
       have lt_at2016x8 := GHeap.lt_of_get at2016x8
       replace hc := base_hc.mono hle
       replace h := base_h.mono hle
       clear c0 c1 c2 c3 c4 i1 i2 i3 i4
       obtain ⟨c0, c1, c2, c3, c4, i1, i2, i3, i4⟩ := hc.get
       clear i24x8
       have i24x8 := Ints.of_get at24x8
       have mm2016x8 : MemN _ _ _ _ _ := ⟨rfl, Mem.of_get at2016x8⟩
       replace hf0 := hf0.st st2016x8 (fun k hk => ⟨by omega, trivial⟩)
       refine .done ?_
       exact ⟨g16x3, g18x7, g24x8, g6x8, ⟨rfl, rfl, rfl, rfl, rfl, rfl, rfl, rfl, rfl, rfl, rfl, rfl, trivial⟩, hf0, by omega, by omega, by omega, by omega, by first | assumption | simpa using at16x3, by first | assumption | simpa using at18x7, by first | assumption | simpa using at24x8, by first | assumption | simpa using at2016x8, by omega, by omega, by omega, by omega, by omega, by omega⟩
     ·
      refine .orI ?_ ?_
      ·
       refine .call1 rfl rfl rfl rfl rfl @Try.call92 rfl (implThen_c) ?_
       rintro _ H24x9 ⟨le24x9, g24x9, rfl, at24x9, ge24x9⟩
       replace hbl := hbl.trans le24x9
       refine ⟨hbl, ?_⟩
       have nx_H24x9 := le24x9.1
       replace hle := hle.trans le24x9
       replace at2 := le24x9.2 _ _ at2
       replace at3 := le24x9.2 _ _ at3
       replace at4 := le24x9.2 _ _ at4
       replace at18x7 := le24x9.2 _ _ at18x7
       have lt_at24x9 := GHeap.lt_of_get at24x9
       replace hc := base_hc.mono hle
       replace h := base_h.mono hle
       clear c0 c1 c2 c3 c4 i1 i2 i3 i4
       obtain ⟨c0, c1, c2, c3, c4, i1, i2, i3, i4⟩ := hc.get
       have i24x9 := Ints.of_get at24x9
       replace hf0 := hf0.trans le24x9
       refine .orI ?_ ?_
       ·
        refine .c1 rfl rfl rfl rfl (.makeIN rfl sl_22_A ze_2_E by_2_E rfl rfl (by omega) (by omega) (by omega)) ?_
        rintro _ H16x4 ⟨g16x4, rfl, le16x4, ge16x4, at16x4⟩
        replace hbl := hbl.trans le16x4
        refine ⟨hbl, ?_⟩
        have nx_H16x4 := le16x4.1
        replace hle := hle.trans le16x4
        replace at2 := le16x4.2 _ _ at2
        replace at3 := le16x4.2 _ _ at3
        replace at4 := le16x4.2 _ _ at4
        replace at18x7 := le16x4.2 _ _ at18x7
        replace at24x9 := le16x4.2 _ _ at24x9
        have lt_at16x4 := GHeap.lt_of_get at16x4
        replace hc := base_hc.mono hle
        replace h := base_h.mono hle
        clear c0 c1 c2 c3 c4 i1 i2 i3 i4
        obtain ⟨c0, c1, c2, c3, c4, i1, i2, i3, i4⟩ := hc.get
        clear i24x9
        have i24x9 := Ints.of_get at24x9
        replace hf0 := hf0.trans le16x4
        refine .mB rfl rfl rfl rfl hbl (.build bt_27_Qs rfl rfl rfl) ?_
        refine .c1 rfl rfl rfl rfl (.allocR rfl ze_27_E rfl) ?_
        rintro _ H6x9 ⟨g6x9, rfl, le6x9, ge6x9, at6x9⟩
        replace hbl := hbl.trans le6x9
        refine ⟨hbl, ?_⟩
        have nx_H6x9 := le6x9.1
        replace hle := hle.trans le6x9
        replace at2 := le6x9.2 _ _ at2
        replace at3 := le6x9.2 _ _ at3
        replace at4 := le6x9.2 _ _ at4
        replace at18x7 := le6x9.2 _ _ at18x7
        replace at24x9 := le6x9.2 _ _ at24x9
        replace at16x4 := le6x9.2 _ _ at16x4
        have lt_at6x9 := GHeap.lt_of_get at6x9
        replace hc := base_hc.mono hle
        replace h := base_h.mono hle
        clear c0 c1 c2 c3 c4 i1 i2 i3 i4
        obtain ⟨c0, c1, c2, c3, c4, i1, i2, i3, i4⟩ := hc.get
        clear i24x9
        have i24x9 := Ints.of_get at24x9
        replace hf0 := hf0.trans le6x9
        refine .r1 rfl rfl rfl (.fillR rfl sz_27_D rfl rfl rfl rfl (by assumption) (by first | rfl | exact Nat.le_of_ble_eq_true rfl | simp)) ?_
        rintro _ H2016x9 ⟨rfl, st2016x9, at2016x9⟩
        replace hbl := hbl.st st2016x9 (fun k hk => ⟨by omega, trivial⟩)
        refine ⟨hbl, ?_⟩
        have nx_H2016x9 := st2016x9.nx
        replace hle := hle.st st2016x9 (fun k hk => ⟨by omega, trivial⟩)
        replace at2 := st2016x9.same _ _ ⟨by omega, trivial⟩ at2
        replace at3 := st2016x9.same _ _ ⟨by omega, trivial⟩ at3
        replace at4 := st2016x9.same _ _ ⟨by omega, trivial⟩ at4
        replace at18x7 := st2016x9.same _ _ ⟨by omega, trivial⟩ at18x7
        replace at24x9 := st2016x9.same _ _ ⟨by omega, trivial⟩ at24x9
        replace at16x4 := st2016x9.same _ _ ⟨by omega, trivial⟩ at16x4
        have lt_at2016x9 := GHeap.lt_of_get at2016x9
        replace hc := base_hc.mono hle
        replace h := base_h.mono hle
        clear c0 c1 c2 c3 c4 i1 i2 i3 i4
        obtain ⟨c0, c1, c2, c3, c4, i1, i2, i3, i4⟩ := hc.get
        clear i24x9
        have i24x9 := Ints.of_get at24x9
        have mm2016x9 : MemN _ _ _ _ _ := ⟨rfl, Mem.of_get at2016x9⟩
        replace hf0 := hf0.st st2016x9 (fun k hk => ⟨by omega, trivial⟩)
        refine .done ?_
        exact ⟨g16x4, g18x7, g24x9, g6x9, ⟨rfl, rfl, rfl, rfl, rfl, rfl, rfl, rfl, rfl, rfl, rfl, rfl, trivial⟩, hf0, by omega, by omega, by omega, by omega, by first | assumption | simpa using at16x4, by first | assumption | simpa using at18x7, by first | assumption | simpa using at24x9, by first | assumption | simpa using at2016x9, by omega, by omega, by omega, by omega, by omega, by omega⟩
       ·
        refine .c1 rfl rfl rfl rfl (.allocR rfl ze_27_E rfl) ?_
        rintro _ H6x10 ⟨g6x10, rfl, le6x10, ge6x10, at6x10⟩
        replace hbl := hbl.trans le6x10
        refine ⟨hbl, ?_⟩
        have nx_H6x10 := le6x10.1
        replace hle := hle.trans le6x10
        replace at2 := le6x10.2 _ _ at2
        replace at3 := le6x10.2 _ _ at3
        replace at4 := le6x10.2 _ _ at4
        replace at18x7 := le6x10.2 _ _ at18x7
        replace at24x9 := le6x10.2 _ _ at24x9
        have lt_at6x10 := GHeap.lt_of_get at6x10
        replace hc := base_hc.mono hle
        replace h := base_h.mono hle
        clear c0 c1 c2 c3 c4 i1 i2 i3 i4
        obtain ⟨c0, c1, c2, c3, c4, i1, i2, i3, i4⟩ := hc.get
        clear i24x9
        have i24x9 := Ints.of_get at24x9
        replace hf0 := hf0.trans le6x10
        refine .c1 rfl rfl rfl rfl (.makeIN rfl sl_22_A ze_2_E by_2_E rfl rfl (by omega) (by omega) (by omega)) ?_
        rintro _ H16x5 ⟨g16x5, rfl, le16x5, ge16x5, at16x5⟩
        replace hbl := hbl.trans le16x5
        refine ⟨hbl, ?_⟩
        have nx_H16x5 := le16x5.1
        replace hle := hle.trans le16x5
        replace at2 := le16x5.2 _ _ at2
        replace at3 := le16x5.2 _ _ at3
        replace at4 := le16x5.2 _ _ at4
        replace at18x7 := le16x5.2 _ _ at18x7
        replace at24x9 := le16x5.2 _ _ at24x9
        replace at6x10 := le16x5.2 _ _ at6x10
        have lt_at16x5 := GHeap.lt_of_get at16x5
        replace hc := base_hc.mono hle
        replace h := base_h.mono hle
        clear c0 c1 c2 c3 c4 i1 i2 i3 i4
        obtain ⟨c0, c1, c2, c3, c4, i1, i2, i3, i4⟩ := hc.get
        clear i24x9
        have i24x9 := Ints.of_get at24x9
        replace hf0 := hf0.trans le16x5
        refine .mB rfl rfl rfl rfl hbl (.build bt_27_Qs rfl rfl rfl) ?_
        refine .r1 rfl rfl rfl (.fillR rfl sz_27_D rfl rfl rfl rfl (by assumption) (by first | rfl | exact Nat.le_of_ble_eq_true rfl | simp)) ?_
        rintro _ H2016x10 ⟨rfl, st2016x10, at2016x10⟩
        replace hbl := hbl.st st2016x10 (fun k hk => ⟨by omega, trivial⟩)
        refine ⟨hbl, ?_⟩
        have nx_H2016x10 := st2016x10.nx
        replace hle := hle.st st2016x10 (fun k hk => ⟨by omega, trivial⟩)
        replace at2 := st2016x10.same _ _ ⟨by omega, trivial⟩ at2
        replace at3 := st2016x10.same _ _ ⟨by omega, trivial⟩ at3
        replace at4 := st2016x10.same _ _ ⟨by omega, trivial⟩ at4
        replace at18x7 := st2016x10.same _ _ ⟨by omega, trivial⟩ at18x7
        replace at24x9 := st2016x10.same _ _ ⟨by omega, trivial⟩ at24x9
        replace at16x5 := st2016x10.same _ _ ⟨by omega, trivial⟩ at16x5
        have lt_at2016x10 := GHeap.lt_of_get at2016x10
        replace hc := base_hc.mono hle
        replace h := base_h.mono hle
        clear c0 c1 c2 c3 c4 i1 i2 i3 i4
        obtain ⟨c0, c1, c2, c3, c4, i1, i2, i3, i4⟩ := hc.get
        clear i24x9
        have i24x9 := Ints.of_get at24x9
        have mm2016x10 : MemN _ _ _ _ _ := ⟨rfl, Mem.of_get at2016x10⟩
        replace hf0 := hf0.st st2016x10 (fun k hk => ⟨by omega, trivial⟩)
        refine .done ?_
        exact ⟨g16x5, g18x7, g24x9, g6x10, ⟨rfl, rfl, rfl, rfl, rfl, rfl, rfl, rfl, rfl, rfl, rfl, rfl, trivial⟩, hf0, by omega, by omega, by omega, by omega, by first | assumption | simpa using at16x5, by first | assumption | simpa using at18x7, by first | assumption | simpa using at24x9, by first | assumption | simpa using at2016x10, by omega, by omega, by omega, by omega, by omega, by omega⟩
      ·
       refine .c1 rfl rfl rfl rfl (.allocR rfl ze_27_E rfl) ?_
       rintro _ H6x11 ⟨g6x11, rfl, le6x11, ge6x11, at6x11⟩
       replace hbl := hbl.trans le6x11
       refine ⟨hbl, ?_⟩
       have nx_H6x11 := le6x11.1
       replace hle := hle.trans le6x11
       replace at2 := le6x11.2 _ _ at2
       replace at3 := le6x11.2 _ _ at3
       replace at4 := le6x11.2 _ _ at4
       replace at18x7 := le6x11.2 _ _ at18x7
       have lt_at6x11 := GHeap.lt_of_get at6x11
       replace hc := base_hc.mono hle
       replace h := base_h.mono hle
       clear c0 c1 c2 c3 c4 i1 i2 i3 i4
       obtain ⟨c0, c1, c2, c3, c4, i1, i2, i3, i4⟩ := hc.get
       replace hf0 := hf0.trans le6x11
       refine .orI ?_ ?_
       ·
        refine .c1 rfl rfl rfl rfl (.makeIN rfl sl_22_A ze_2_E by_2_E rfl rfl (by omega) (by omega) (by omega)) ?_
        rintro _ H16x6 ⟨g16x6, rfl, le16x6, ge16x6, at16x6⟩
        replace hbl := hbl.trans le16x6
        refine ⟨hbl, ?_⟩
        have nx_H16x6 := le16x6.1
        replace hle := hle.trans le16x6
        replace at2 := le16x6.2 _ _ at2
        replace at3 := le16x6.2 _ _ at3
        replace at4 := le16x6.2 _ _ at4
        replace at18x7 := le16x6.2 _ _ at18x7
        replace at6x11 := le16x6.2 _ _ at6x11
        have lt_at16x6 := GHeap.lt_of_get at16x6
        replace hc := base_hc.mono hle
        replace h := base_h.mono hle
        clear c0 c1 c2 c3 c4 i1 i2 i3 i4
        obtain ⟨c0, c1, c2, c3, c4, i1, i2, i3, i4⟩ := hc.get
        replace hf0 := hf0.trans le16x6
        refine .call1 rfl rfl rfl rfl rfl @Try.call92 rfl (implThen_c) ?_
        rintro _ H24x10 ⟨le24x10, g24x10, rfl, at24x10, ge24x10⟩
        replace hbl := hbl.trans le24x10
        refine ⟨hbl, ?_⟩
        have nx_H24x10 := le24x10.1
        replace hle := hle.trans le24x10
        replace at2 := le24x10.2 _ _ at2
        replace at3 := le24x10.2 _ _ at3
        replace at4 := le24x10.2 _ _ at4
        replace at18x7 := le24x10.2 _ _ at18x7
        replace at6x11 := le24x10.2 _ _ at6x11
        replace at16x6 := le24x10.2 _ _ at16x6
        have lt_at24x10 := GHeap.lt_of_get at24x10
        replace hc := base_hc.mono hle
        replace h := base_h.mono hle
        clear c0 c1 c2 c3 c4 i1 i2 i3 i4
        obtain ⟨c0, c1, c2, c3, c4, i1, i2, i3, i4⟩ := hc.get
        have i24x10 := Ints.of_get at24x10
        replace hf0 := hf0.trans le24x10
        refine .mB rfl rfl rfl rfl hbl (.build bt_27_Qs rfl rfl rfl) ?_
        refine .r1 rfl rfl rfl (.fillR rfl sz_27_D rfl rfl rfl rfl (by assumption) (by first | rfl | exact Nat.le_of_ble_eq_true rfl | simp)) ?_
        rintro _ H2016x11 ⟨rfl, st2016x11, at2016x11⟩
        replace hbl := hbl.st st2016x11 (fun k hk => ⟨by omega, trivial⟩)
        refine ⟨hbl, ?_⟩
        have nx_H2016x11 := st2016x11.nx
        replace hle := hle.st st2016x11 (fun k hk => ⟨by omega, trivial⟩)
        replace at2 := st2016x11.same _ _ ⟨by omega, trivial⟩ at2
        replace at3 := st2016x11.same _ _ ⟨by omega, trivial⟩ at3
        replace at4 := st2016x11.same _ _ ⟨by omega, trivial⟩ at4
        replace at18x7 := st2016x11.same _ _ ⟨by omega, trivial⟩ at18x7
        replace at16x6 := st2016x11.same _ _ ⟨by omega, trivial⟩ at16x6
        replace at24x10 := st2016x11.same _ _ ⟨by omega, trivial⟩ at24x10
        have lt_at2016x11 := GHeap.lt_of_get at2016x11
        replace hc := base_hc.mono hle
        replace h := base_h.mono hle
        clear c0 c1 c2 c3 c4 i1 i2 i3 i4
        obtain ⟨c0, c1, c2, c3, c4, i1, i2, i3, i4⟩ := hc.get
        clear i24x10
        have i24x10 := Ints.of_get at24x10
        have mm2016x11 : MemN _ _ _ _ _ := ⟨rfl, Mem.of_get at2016x11⟩
        replace hf0 := hf0.st st2016x11 (fun k hk => ⟨by omega, trivial⟩)
        refine .done ?_
        exact ⟨g16x6, g18x7, g24x10, g6x11, ⟨rfl, rfl, rfl, rfl, rfl, rfl, rfl, rfl, rfl, rfl, rfl, rfl, trivial⟩, hf0, by omega, by omega, by omega, by omega, by first | assumption | simpa using at16x6, by first | assumption | simpa using at18x7, by first | assumption | simpa using at24x10, by first | assumption | simpa using at2016x11, by omega, by omega, by omega, by omega, by omega, by omega⟩
       ·
        refine .call1 rfl rfl rfl rfl rfl @Try.call92 rfl (implThen_c) ?_
        rintro _ H24x11 ⟨le24x11, g24x11, rfl, at24x11, ge24x11⟩
        replace hbl := hbl.trans le24x11
        refine ⟨hbl, ?_⟩
        have nx_H24x11 := le24x11.1
        replace hle := hle.trans le24x11
        replace at2 := le24x11.2 _ _ at2
        replace at3 := le24x11.2 _ _ at3
        replace at4 := le24x11.2 _ _ at4
        replace at18x7 := le24x11.2 _ _ at18x7
        replace at6x11 := le24x11.2 _ _ at6x11
        have lt_at24x11 := GHeap.lt_of_get at24x11
        replace hc := base_hc.mono hle
        replace h := base_h.mono hle
        clear c0 c1 c2 c3 c4 i1 i2 i3 i4
        obtain ⟨c0, c1, c2, c3, c4, i1, i2, i3, i4⟩ := hc.get
        have i24x11 := Ints.of_get at24x11
        replace hf0 := hf0.trans le24x11
        refine .c1 rfl rfl rfl rfl (.makeIN rfl sl_22_A ze_2_E by_2_E rfl rfl (by omega) (by omega) (by omega)) ?_
        rintro _ H16x7 ⟨g16x7, rfl, le16x7, ge16x7, at16x7⟩
        replace hbl := hbl.trans le16x7
        refine ⟨hbl, ?_⟩
        have nx_H16x7 := le16x7.1
        replace hle := hle.trans le16x7
        replace at2 := le16x7.2 _ _ at2
        replace at3 := le16x7.2 _ _ at3
        replace at4 := le16x7.2 _ _ at4
        replace at18x7 := le16x7.2 _ _ at18x7
        replace at6x11 := le16x7.2 _ _ at6x11
        replace at24x11 := le16x7.2 _ _ at24x11
        have lt_at16x7 := GHeap.lt_of_get at16x7
        replace hc := base_hc.mono hle
        replace h := base_h.mono hle
        clear c0 c1 c2 c3 c4 i1 i2 i3 i4
        obtain ⟨c0, c1, c2, c3, c4, i1, i2, i3, i4⟩ := hc.get
        clear i24x11
        have i24x11 := Ints.of_get at24x11
        replace hf0 := hf0.trans le16x7
        refine .mB rfl rfl rfl rfl hbl (.build bt_27_Qs rfl rfl rfl) ?_
        refine .r1 rfl rfl rfl (.fillR rfl sz_27_D rfl rfl rfl rfl (by assumption) (by first | rfl | exact Nat.le_of_ble_eq_true rfl | simp)) ?_
        rintro _ H2016x12 ⟨rfl, st2016x12, at2016x12⟩
        replace hbl := hbl.st st2016x12 (fun k hk => ⟨by omega, trivial⟩)
        refine ⟨hbl, ?_⟩
        have nx_H2016x12 := st2016x12.nx
        replace hle := hle.st st2016x12 (fun k hk => ⟨by omega, trivial⟩)
        replace at2 := st2016x12.same _ _ ⟨by omega, trivial⟩ at2
        replace at3 := st2016x12.same _ _ ⟨by omega, trivial⟩ at3
        replace at4 := st2016x12.same _ _ ⟨by omega, trivial⟩ at4
        replace at18x7 := st2016x12.same _ _ ⟨by omega, trivial⟩ at18x7
        replace at24x11 := st2016x12.same _ _ ⟨by omega, trivial⟩ at24x11
        replace at16x7 := st2016x12.same _ _ ⟨by omega, trivial⟩ at16x7
        have lt_at2016x12 := GHeap.lt_of_get at2016x12
        replace hc := base_hc.mono hle
        replace h := base_h.mono hle
        clear c0 c1 c2 c3 c4 i1 i2 i3 i4
        obtain ⟨c0, c1, c2, c3, c4, i1, i2, i3, i4⟩ := hc.get
        clear i24x11
        have i24x11 := Ints.of_get at24x11
        have mm2016x12 : MemN _ _ _ _ _ := ⟨rfl, Mem.of_get at2016x12⟩
        replace hf0 := hf0.st st2016x12 (fun k hk => ⟨by omega, trivial⟩)
        refine .done ?_
        exact ⟨g16x7, g18x7, g24x11, g6x11, ⟨rfl, rfl, rfl, rfl, rfl, rfl, rfl, rfl, rfl, rfl, rfl, rfl, trivial⟩, hf0, by omega, by omega, by omega, by omega, by first | assumption | simpa using at16x7, by first | assumption | simpa using at18x7, by first | assumption | simpa using at24x11, by first | assumption | simpa using at2016x12, by omega, by omega, by omega, by omega, by omega, by omega⟩
    ·
     refine .orI ?_ ?_
     ·
      refine .call1 rfl rfl rfl rfl rfl @Try.call92 rfl (implThen_c) ?_
      rintro _ H24x12 ⟨le24x12, g24x12, rfl, at24x12, ge24x12⟩
      have hbl := le24x12
      refine ⟨hbl, ?_⟩
      have nx_H24x12 := le24x12.1
      replace hle := hle.trans le24x12
      replace at2 := le24x12.2 _ _ at2
      replace at3 := le24x12.2 _ _ at3
      replace at4 := le24x12.2 _ _ at4
      have lt_at24x12 := GHeap.lt_of_get at24x12
      replace hc := base_hc.mono hle
      replace h := base_h.mono hle
      clear c0 c1 c2 c3 c4 i1 i2 i3 i4
      obtain ⟨c0, c1, c2, c3, c4, i1, i2, i3, i4⟩ := hc.get
      have i24x12 := Ints.of_get at24x12
      replace hf0 := hf0.trans le24x12
      refine .orI ?_ ?_
      ·
       refine .c1 rfl rfl rfl rfl (.makeIN rfl sl_22_A ze_2_E by_2_E rfl rfl (by omega) (by omega) (by omega)) ?_
       rintro _ H16x8 ⟨g16x8, rfl, le16x8, ge16x8, at16x8⟩
       replace hbl := hbl.trans le16x8
       refine ⟨hbl, ?_⟩
       have nx_H16x8 := le16x8.1
       replace hle := hle.trans le16x8
       replace at2 := le16x8.2 _ _ at2
       replace at3 := le16x8.2 _ _ at3
       replace at4 := le16x8.2 _ _ at4
       replace at24x12 := le16x8.2 _ _ at24x12
       have lt_at16x8 := GHeap.lt_of_get at16x8
       replace hc := base_hc.mono hle
       replace h := base_h.mono hle
       clear c0 c1 c2 c3 c4 i1 i2 i3 i4
       obtain ⟨c0, c1, c2, c3, c4, i1, i2, i3, i4⟩ := hc.get
       clear i24x12
       have i24x12 := Ints.of_get at24x12
       replace hf0 := hf0.trans le16x8
       refine .orI ?_ ?_
       ·
        refine .c1 rfl rfl rfl rfl (.makeIN rfl sl_22_A ze_2_E by_2_E rfl rfl (by omega) (by omega) (by omega)) ?_
        rintro _ H18x8 ⟨g18x8, rfl, le18x8, ge18x8, at18x8⟩
        replace hbl := hbl.trans le18x8
        refine ⟨hbl, ?_⟩
        have nx_H18x8 := le18x8.1
        replace hle := hle.trans le18x8
        replace at2 := le18x8.2 _ _ at2
        replace at3 := le18x8.2 _ _ at3
        replace at4 := le18x8.2 _ _ at4
        replace at24x12 := le18x8.2 _ _ at24x12
        replace at16x8 := le18x8.2 _ _ at16x8
        have lt_at18x8 := GHeap.lt_of_get at18x8
        replace hc := base_hc.mono hle
        replace h := base_h.mono hle
        clear c0 c1 c2 c3 c4 i1 i2 i3 i4
        obtain ⟨c0, c1, c2, c3, c4, i1, i2, i3, i4⟩ := hc.get
        clear i24x12
        have i24x12 := Ints.of_get at24x12
        replace hf0 := hf0.trans le18x8
        refine .mB rfl rfl rfl rfl hbl (.build bt_27_Qs rfl rfl rfl) ?_
        refine .c1 rfl rfl rfl rfl (.allocR rfl ze_27_E rfl) ?_
        rintro _ H6x12 ⟨g6x12, rfl, le6x12, ge6x12, at6x12⟩
        replace hbl := hbl.trans le6x12
        refine ⟨hbl, ?_⟩
        have nx_H6x12 := le6x12.1
        replace hle := hle.trans le6x12
        replace at2 := le6x12.2 _ _ at2
        replace at3 := le6x12.2 _ _ at3
        replace at4 := le6x12.2 _ _ at4
        replace at24x12 := le6x12.2 _ _ at24x12
        replace at16x8 := le6x12.2 _ _ at16x8
        replace at18x8 := le6x12.2 _ _ at18x8
        have lt_at6x12 := GHeap.lt_of_get at6x12
        replace hc := base_hc.mono hle
        replace h := base_h.mono hle
        clear c0 c1 c2 c3 c4 i1 i2 i3 i4
        obtain ⟨c0, c1, c2, c3, c4, i1, i2, i3, i4⟩ := hc.get
        clear i24x12
        have i24x12 := Ints.of_get at24x12
        replace hf0 := hf0.trans le6x12
        refine .r1 rfl rfl rfl (.fillR rfl sz_27_D rfl rfl rfl rfl (by assumption) (by first | rfl | exact Nat.le_of_ble_eq_true rfl | simp)) ?_
        rintro _ H2016x13 ⟨rfl, st2016x13, at2016x13⟩
        replace hbl := hbl.st st2016x13 (fun k hk => ⟨by omega, trivial⟩)
        refine ⟨hbl, ?_⟩
        have nx_H2016x13 := st2016x13.nx
        replace hle := hle.st st2016x13 (fun k hk => ⟨by omega, trivial⟩)
        replace at2 := st2016x13.same _ _ ⟨by omega, trivial⟩ at2
        replace at3 := st2016x13.same _ _ ⟨by omega, trivial⟩ at3
        replace at4 := st2016x13.same _ _ ⟨by omega, trivial⟩ at4
        replace at24x12 := st2016x13.same _ _ ⟨by omega, trivial⟩ at24x12
        replace at16x8 := st2016x13.same _ _ ⟨by omega, trivial⟩ at16x8
        replace at18x8 := st2016x13.same _ _ ⟨by omega, trivial⟩ at18x8
        have lt_at2016x13 := GHeap.lt_of_get at2016x13
        replace hc := base_hc.mono hle
        replace h := base_h.mono hle
        clear c0 c1 c2 c3 c4 i1 i2 i3 i4
        obtain ⟨c0, c1, c2, c3, c4, i1, i2, i3, i4⟩ := hc.get
        clear i24x12
        have i24x12 := Ints.of_get at24x12
        have mm2016x13 : MemN _ _ _ _ _ := ⟨rfl, Mem.of_get at2016x13⟩
        replace hf0 := hf0.st st2016x13 (fun k hk => ⟨by omega, trivial⟩)
        refine .done ?_
        exact ⟨g16x8, g18x8, g24x12, g6x12, ⟨rfl, rfl, rfl, rfl, rfl, rfl, rfl, rfl, rfl, rfl, rfl, rfl, trivial⟩, hf0, by omega, by omega, by omega, by omega, by first | assumption | simpa using at16x8, by first | assumption | simpa using at18x8, by first | assumption | simpa using at24x12, by first | assumption | simpa using at2016x13, by omega, by omega, by omega, by omega, by omega, by omega⟩
       ·
        refine .c1 rfl rfl rfl rfl (.allocR rfl ze_27_E rfl) ?_
        rintro _ H6x13 ⟨g6x13, rfl, le6x13, ge6x13, at6x13⟩
        replace hbl := hbl.trans le6x13
        refine ⟨hbl, ?_⟩
        have nx_H6x13 := le6x13.1
        replace hle := hle.trans le6x13
        replace at2 := le6x13.2 _ _ at2
        replace at3 := le6x13.2 _ _ at3
        replace at4 := le6x13.2 _ _ at4
        replace at24x12 := le6x13.2 _ _ at24x12
        replace at16x8 := le6x13.2 _ _ at16x8
        have lt_at6x13 := GHeap.lt_of_get at6x13
        replace hc := base_hc.mono hle
        replace h := base_h.mono hle
        clear c0 c1 c2 c3 c4 i1 i2 i3 i4
        obtain ⟨c0, c1, c2, c3, c4, i1, i2, i3, i4⟩ := hc.get
        clear i24x12
        have i24x12 := Ints.of_get at24x12
        replace hf0 := hf0.trans le6x13
        refine .c1 rfl rfl rfl rfl (.makeIN rfl sl_22_A ze_2_E by_2_E rfl rfl (by omega) (by omega) (by omega)) ?_
        rintro _ H18x9 ⟨g18x9, rfl, le18x9, ge18x9, at18x9⟩
        replace hbl := hbl.trans le18x9
        refine ⟨hbl, ?_⟩
        have nx_H18x9 := le18x9.1
        replace hle := hle.trans le18x9
        replace at2 := le18x9.2 _ _ at2
        replace at3 := le18x9.2 _ _ at3
        replace at4 := le18x9.2 _ _ at4
        replace at24x12 := le18x9.2 _ _ at24x12
        replace at16x8 := le18x9.2 _ _ at16x8
        replace at6x13 := le18x9.2 _ _ at6x13
        have lt_at18x9 := GHeap.lt_of_get at18x9
        replace hc := base_hc.mono hle
        replace h := base_h.mono hle
        clear c0 c1 c2 c3 c4 i1 i2 i3 i4
        obtain ⟨c0, c1, c2, c3, c4, i1, i2, i3, i4⟩ := hc.get
        clear i24x12
        have i24x12 := Ints.of_get at24x12
        replace hf0 := hf0.trans le18x9
        refine .mB rfl rfl rfl rfl hbl (.build bt_27_Qs rfl rfl rfl) ?_
        refine .r1 rfl rfl rfl (.fillR rfl sz_27_D rfl rfl rfl rfl (by assumption) (by first | rfl | exact Nat.le_of_ble_eq_true rfl | simp)) ?_
        rintro _ H2016x14 ⟨rfl, st2016x14, at2016x14⟩
        replace hbl := hbl.st st2016x14 (fun k hk => ⟨by omega, trivial⟩)
        refine ⟨hbl, ?_⟩
        have nx_H2016x14 := st2016x14.nx
        replace hle := hle.st st2016x14 (fun k hk => ⟨by omega, trivial⟩)
        replace at2 := st2016x14.same _ _ ⟨by omega, trivial⟩ at2
        replace at3 := st2016x14.same _ _ ⟨by omega, trivial⟩ at3
        replace at4 := st2016x14.same _ _ ⟨by omega, trivial⟩ at4
        replace at24x12 := st2016x14.same _ _ ⟨by omega, trivial⟩ at24x12
        replace at16x8 := st2016x14.same _ _ ⟨by omega, trivial⟩ at16x8
        replace at18x9 := st2016x14.same _ _ ⟨by omega, trivial⟩ at18x9
        have lt_at2016x14 := GHeap.lt_of_get at2016x14
        replace hc := base_hc.mono hle
        replace h := base_h.mono hle
        clear c0 c1 c2 c3 c4 i1 i2 i3 i4
        obtain ⟨c0, c1, c2, c3, c4, i1, i2, i3, i4⟩ := hc.get
        clear i24x12
        have i24x12 := Ints.of_get at24x12
        have mm2016x14 : MemN _ _ _ _ _ := ⟨rfl, Mem.of_get at2016x14⟩
        replace hf0 := hf0.st st2016x14 (fun k hk => ⟨by omega, trivial⟩)
        refine .done ?_
        exact ⟨g16x8, g18x9, g24x12, g6x13, ⟨rfl, rfl, rfl, rfl, rfl, rfl, rfl, rfl, rfl, rfl, rfl, rfl, trivial⟩, hf0, by omega, by omega, by omega, by omega, by first | assumption | simpa using at16x8, by first | assumption | simpa using at18x9, by first | assumption | simpa using at24x12, by first | assumption | simpa using at2016x14, by omega, by omega, by omega, by omega, by omega, by omega⟩
      ·
       refine .orI ?_ ?_
       ·
        refine .c1 rfl rfl rfl rfl (.makeIN rfl sl_22_A ze_2_E by_2_E rfl rfl (by omega) (by omega) (by omega)) ?_
        rintro _ H18x10 ⟨g18x10, rfl, le18x10, ge18x10, at18x10⟩
        replace hbl := hbl.trans le18x10
        refine ⟨hbl, ?_⟩
        have nx_H18x10 := le18x10.1
        replace hle := hle.trans le18x10
        replace at2 := le18x10.2 _ _ at2
        replace at3 := le18x10.2 _ _ at3
        replace at4 := le18x10.2 _ _ at4
        replace at24x12 := le18x10.2 _ _ at24x12
        have lt_at18x10 := GHeap.lt_of_get at18x10
        replace hc := base_hc.mono hle
        replace h := base_h.mono hle
        clear c0 c1 c2 c3 c4 i1 i2 i3 i4
        obtain ⟨c0, c1, c2, c3, c4, i1, i2, i3, i4⟩ := hc.get
        clear i24x12
        have i24x12 := Ints.of_get at24x12
        replace hf0 := hf0.trans le18x10
        refine .orI ?_ ?_
        ·
         refine .c1 rfl rfl rfl rfl (.makeIN rfl sl_22_A ze_2_E by_2_E rfl rfl (by omega) (by omega) (by omega)) ?_
         rintro _ H16x9 ⟨g16x9, rfl, le16x9, ge16x9, at16x9⟩
         replace hbl := hbl.trans le16x9
         refine ⟨hbl, ?_⟩
         have nx_H16x9 := le16x9.1
         replace hle := hle.trans le16x9
         replace at2 := le16x9.2 _ _ at2
         replace at3 := le16x9.2 _ _ at3
         replace at4 := le16x9.2 _ _ at4
         replace at24x12 := le16x9.2 _ _ at24x12
         replace at18x10 := le16x9.2 _ _ at18x10
         have lt_at16x9 := GHeap.lt_of_get at16x9
         replace hc := base_hc.mono hle
         replace h := base_h.mono hle
         clear c0 c1 c2 c3 c4 i1 i2 i3 i4
         obtain ⟨c0, c1, c2, c3, c4, i1, i2, i3, i4⟩ := hc.get
         clear i24x12
         have i24x12 := Ints.of_get at24x12
         replace hf0 := hf0.trans le16x9
         refine .mB rfl rfl rfl rfl hbl (.build bt_27_Qs rfl rfl rfl) ?_
         refine .c1 rfl rfl rfl rfl (.allocR rfl ze_27_E rfl) ?_
         rintro _ H6x14 ⟨g6x14, rfl, le6x14, ge6x14, at6x14⟩
         replace hbl := hbl.trans le6x14
         refine ⟨hbl, ?_⟩
         have nx_H6x14 := le6x14.1
         replace hle := hle.trans le6x14
         replace at2 := le6x14.2 _ _ at2
         replace at3 := le6x14.2 _ _ at3
         replace at4 := le6x14.2 _ _ at4
         replace at24x12 := le6x14.2 _ _ at24x12
         replace at18x10 := le6x14.2 _ _ at18x10
         replace at16x9 := le6x14.2 _ _ at16x9
         have lt_at6x14 := GHeap.lt_of_get at6x14
         replace hc := base_hc.mono hle
         replace h := base_h.mono hle
         clear c0 c1 c2 c3 c4 i1 i2 i3 i4
         obtain ⟨c0, c1, c2, c3, c4, i1, i2, i3, i4⟩ := hc.get
         clear i24x12
         have i24x12 := Ints.of_get at24x12
         replace hf0 := hf0.trans le6x14
         refine .r1 rfl rfl rfl (.fillR rfl sz_27_D rfl rfl rfl rfl (by assumption) (by first | rfl | exact Nat.le_of_ble_eq_true rfl | simp)) ?_
         rintro _ H2016x15 ⟨rfl, st2016x15, at2016x15⟩
         replace hbl := hbl.st st2016x15 (fun k hk => ⟨by omega, trivial⟩)
         refine ⟨hbl, ?_⟩
         have nx_H2016x15 := st2016x15.nx
         replace hle := hle.st st2016x15 (fun k hk => ⟨by omega, trivial⟩)
         replace at2 := st2016x15.same _ _ ⟨by omega, trivial⟩ at2
         replace at3 := st2016x15.same _ _ ⟨by omega, trivial⟩ at3
         replace at4 := st2016x15.same _ _ ⟨by omega, trivial⟩ at4
         replace at24x12 := st2016x15.same _ _ ⟨by omega, trivial⟩ at24x12
         replace at18x10 := st2016x15.same _ _ ⟨by omega, trivial⟩ at18x10
         replace at16x9 := st2016x15.same _ _ ⟨by omega, trivial⟩ at16x9
         have lt_at2016x15 := GHeap.lt_of_get at2016x15
         replace hc := base_hc.mono hle
         replace h := base_h.mono hle
         clear c0 c1 c2 c3 c4 i1 i2 i3 i4
         obtain ⟨c0, c1, c2, c3, c4, i1, i2, i3, i4⟩ := hc.get
         clear i24x12
         have i24x12 := Ints.of_get at24x12
         have mm2016x15 : MemN _ _ _ _ _ := ⟨rfl, Mem.of_get at2016x15⟩
         replace hf0 := hf0.st st2016x15 (fun k hk => ⟨by omega, trivial⟩)
         refine .done ?_
         exact ⟨g16x9, g18x10, g24x12, g6x14, ⟨rfl, rfl, rfl, rfl, rfl, rfl, rfl, rfl, rfl, rfl, rfl, rfl, trivial⟩, hf0, by omega, by omega, by omega, by omega, by first | assumption | simpa using at16x9, by first | assumption | simpa using at18x10, by first | assumption | simpa using at24x12, by first | assumption | simpa using at2016x15, by omega, by omega, by omega, by omega, by omega, by omega⟩
        ·
         refine .c1 rfl rfl rfl rfl (.allocR rfl ze_27_E rfl) ?_
         rintro _ H6x15 ⟨g6x15, rfl, le6x15, ge6x15, at6x15⟩
         replace hbl := hbl.trans le6x15
         refine ⟨hbl, ?_⟩
         have nx_H6x15 := le6x15.1
         replace hle := hle.trans le6x15
         replace at2 := le6x15.2 _ _ at2
         replace at3 := le6x15.2 _ _ at3
         replace at4 := le6x15.2 _ _ at4
         replace at24x12 := le6x15.2 _ _ at24x12
         replace at18x10 := le6x15.2 _ _ at18x10
         have lt_at6x15 := GHeap.lt_of_get at6x15
         replace hc := base_hc.mono hle
         replace h := base_h.mono hle
         clear c0 c1 c2 c3 c4 i1 i2 i3 i4
         obtain ⟨c0, c1, c2, c3, c4, i1, i2, i3, i4⟩ := hc.get
         clear i24x12
         have i24x12 := Ints.of_get at24x12
         replace hf0 := hf0.trans le6x15
         refine .c1 rfl rfl rfl rfl (.makeIN rfl sl_22_A ze_2_E by_2_E rfl rfl (by omega) (by omega) (by omega)) ?_
         rintro _ H16x10 ⟨g16x10, rfl, le16x10, ge16x10, at16x10⟩
         replace hbl := hbl.trans le16x10
         refine ⟨hbl, ?_⟩
         have nx_H16x10 := le16x10.1
         replace hle := hle.trans le16x10
         replace at2 := le16x10.2 _ _ at2
         replace at3 := le16x10.2 _ _ at3
         replace at4 := le16x10.2 _ _ at4
         replace at24x12 := le16x10.2 _ _ at24x12
         replace at18x10 := le16x10.2 _ _ at18x10
         replace at6x15 := le16x10.2 _ _ at6x15
         have lt_at16x10 := GHeap.lt_of_get at16x10
         replace hc := base_hc.mono hle
         replace h := base_h.mono hle
         clear c0 c1 c2 c3 c4 i1 i2 i3 i4
         obtain ⟨c0, c1, c2, c3, c4, i1, i2, i3, i4⟩ := hc.get
         clear i24x12
         have i24x12 := Ints.of_get at24x12
         replace hf0 := hf0.trans le16x10
         refine .mB rfl rfl rfl rfl hbl (.build bt_27_Qs rfl rfl rfl) ?_
         refine .r1 rfl rfl rfl (.fillR rfl sz_27_D rfl rfl rfl rfl (by assumption) (by first | rfl | exact Nat.le_of_ble_eq_true rfl | simp)) ?_
         rintro _ H2016x16 ⟨rfl, st2016x16, at2016x16⟩
         replace hbl := hbl.st st2016x16 (fun k hk => ⟨by omega, trivial⟩)
         refine ⟨hbl, ?_⟩
         have nx_H2016x16 := st2016x16.nx
         replace hle := hle.st st2016x16 (fun k hk => ⟨by omega, trivial⟩)
         replace at2 := st2016x16.same _ _ ⟨by omega, trivial⟩ at2
         replace at3 := st2016x16.same _ _ ⟨by omega, trivial⟩ at3
         replace at4 := st2016x16.same _ _ ⟨by omega, trivial⟩ at4
         replace at24x12 := st2016x16.same _ _ ⟨by omega, trivial⟩ at24x12
         replace at18x10 := st2016x16.same _ _ ⟨by omega, trivial⟩ at18x10
         replace at16x10 := st2016x16.same _ _ ⟨by omega, trivial⟩ at16x10
         have lt_at2016x16 := GHeap.lt_of_get at2016x16
         replace hc := base_hc.mono hle
         replace h := base_h.mono hle
         clear c0 c1 c2 c3 c4 i1 i2 i3 i4
         obtain ⟨c0, c1, c2, c3, c4, i1, i2, i3, i4⟩ := hc.get
         clear i24x12
         have i24x12 := Ints.of_get at24x12
         have mm2016x16 : MemN _ _ _ _ _ := ⟨rfl, Mem.of_get at2016x16⟩
         replace hf0 := hf0.st st2016x16 (fun k hk => ⟨by omega, trivial⟩)
         refine .done ?_
         exact ⟨g16x10, g18x10, g24x12, g6x15, ⟨rfl, rfl, rfl, rfl, rfl, rfl, rfl, rfl, rfl, rfl, rfl, rfl, trivial⟩, hf0, by omega, by omega, by omega, by omega, by first | assumption | simpa using at16x10, by first | assumption | simpa using at18x10, by first | assumption | simpa using at24x12, by first | assumption | simpa using at2016x16, by omega, by omega, by omega, by omega, by omega, by omega⟩
       ·
        refine .c1 rfl rfl rfl rfl (.allocR rfl ze_27_E rfl) ?_
        rintro _ H6x16 ⟨g6x16, rfl, le6x16, ge6x16, at6x16⟩
        replace hbl := hbl.trans le6x16
        refine ⟨hbl, ?_⟩
        have nx_H6x16 := le6x16.1
        replace hle := hle.trans le6x16
        replace at2 := le6x16.2 _ _ at2
        replace at3 := le6x16.2 _ _ at3
        replace at4 := le6x16.2 _ _ at4
        replace at24x12 := le6x16.2 _ _ at24x12
        have lt_at6x16 := GHeap.lt_of_get at6x16
        replace hc := base_hc.mono hle
        replace h := base_h.mono hle
        clear c0 c1 c2 c3 c4 i1 i2 i3 i4
        obtain ⟨c0, c1, c2, c3, c4, i1, i2, i3, i4⟩ := hc.get
        clear i24x12
        have i24x12 := Ints.of_get at24x12
        replace hf0 := hf0.trans le6x16
        refine .orI ?_ ?_
        ·
         refine .c1 rfl rfl rfl rfl (.makeIN rfl sl_22_A ze_2_E by_2_E rfl rfl (by omega) (by omega) (by omega)) ?_
         rintro _ H16x11 ⟨g16x11, rfl, le16x11, ge16x11, at16x11⟩
         replace hbl := hbl.trans le16x11
         refine ⟨hbl, ?_⟩
         have nx_H16x11 := le16x11.1
         replace hle := hle.trans le16x11
         replace at2 := le16x11.2 _ _ at2
         replace at3 := le16x11.2 _ _ at3
         replace at4 := le16x11.2 _ _ at4
         replace at24x12 := le16x11.2 _ _ at24x12
         replace at6x16 := le16x11.2 _ _ at6x16
         have lt_at16x11 := GHeap.lt_of_get at16x11
         replace hc := base_hc.mono hle
         replace h := base_h.mono hle
         clear c0 c1 c2 c3 c4 i1 i2 i3 i4
         obtain ⟨c0, c1, c2, c3, c4, i1, i2, i3, i4⟩ := hc.get
         clear i24x12
         have i24x12 := Ints.of_get at24x12
         replace hf0 := hf0.trans le16x11
         refine .c1 rfl rfl rfl rfl (.makeIN rfl sl_22_A ze_2_E by_2_E rfl rfl (by omega) (by omega) (by omega)) ?_
         rintro _ H18x11 ⟨g18x11, rfl, le18x11, ge18x11, at18x11⟩
         replace hbl := hbl.trans le18x11
         refine ⟨hbl, ?_⟩
         have nx_H18x11 := le18x11.1
         replace hle := hle.trans le18x11
         replace at2 := le18x11.2 _ _ at2
         replace at3 := le18x11.2 _ _ at3
         replace at4 := le18x11.2 _ _ at4
         replace at24x12 := le18x11.2 _ _ at24x12
         replace at6x16 := le18x11.2 _ _ at6x16
         replace at16x11 := le18x11.2 _ _ at16x11
         have lt_at18x11 := GHeap.lt_of_get at18x11
         replace hc := base_hc.mono hle
         replace h := base_h.mono hle
         clear c0 c1 c2 c3 c4 i1 i2 i3 i4
         obtain ⟨c0, c1, c2, c3, c4, i1, i2, i3, i4⟩ := hc.get
         clear i24x12
         have i24x12 := Ints.of_get at24x12
         replace hf0 := hf0.trans le18x11
         refine .mB rfl rfl rfl rfl hbl (.build bt_27_Qs rfl rfl rfl) ?_
         refine .r1 rfl rfl rfl (.fillR rfl sz_27_D rfl rfl rfl rfl (by assumption) (by first | rfl | exact Nat.le_of_ble_eq_true rfl | simp)) ?_
         rintro _ H2016x17 ⟨rfl, st2016x17, at2016x17⟩
         replace hbl := hbl.st st2016x17 (fun k hk => ⟨by omega, trivial⟩)
         refine ⟨hbl, ?_⟩
         have nx_H2016x17 := st2016x17.nx
         replace hle := hle.st st2016x17 (fun k hk => ⟨by omega, trivial⟩)
         replace at2 := st2016x17.same _ _ ⟨by omega, trivial⟩ at2
         replace at3 := st2016x17.same _ _ ⟨by omega, trivial⟩ at3
         replace at4 := st2016x17.same _ _ ⟨by omega, trivial⟩ at4
         replace at24x12 := st2016x17.same _ _ ⟨by omega, trivial⟩ at24x12
         replace at16x11 := st2016x17.same _ _ ⟨by omega, trivial⟩ at16x11
         replace at18x11 := st2016x17.same _ _ ⟨by omega, trivial⟩ at18x11
         have lt_at2016x17 := GHeap.lt_of_get at2016x17
         replace hc := base_hc.mono hle
         replace h := base_h.mono hle
         clear c0 c1 c2 c3 c4 i1 i2 i3 i4
         obtain ⟨c0, c1, c2, c3, c4, i1, i2, i3, i4⟩ := hc.get
         clear i24x12
         have i24x12 := Ints.of_get at24x12
         have mm2016x17 : MemN _ _ _ _ _ := ⟨rfl, Mem.of_get at2016x17⟩
         replace hf0 := hf0.st st2016x17 (fun k hk => ⟨by omega, trivial⟩)
         refine .done ?_
         exact ⟨g16x11, g18x11, g24x12, g6x16, ⟨rfl, rfl, rfl, rfl, rfl, rfl, rfl, rfl, rfl, rfl, rfl, rfl, trivial⟩, hf0, by omega, by omega, by omega, by omega, by first | assumption | simpa using at16x11, by first | assumption | simpa using at18x11, by first | assumption | simpa using at24x12, by first | assumption | simpa using at2016x17, by omega, by omega, by omega, by omega, by omega, by omega⟩
        ·
         refine .c1 rfl rfl rfl rfl (.makeIN rfl sl_22_A ze_2_E by_2_E rfl rfl (by omega) (by omega) (by omega)) ?_
         rintro _ H18x12 ⟨g18x12, rfl, le18x12, ge18x12, at18x12⟩
         replace hbl := hbl.trans le18x12
         refine ⟨hbl, ?_⟩
         have nx_H18x12 := le18x12.1
         replace hle := hle.trans le18x12
         replace at2 := le18x12.2 _ _ at2
         replace at3 := le18x12.2 _ _ at3
         replace at4 := le18x12.2 _ _ at4
         replace at24x12 := le18x12.2 _ _ at24x12
         replace at6x16 := le18x12.2 _ _ at6x16
         have lt_at18x12 := GHeap.lt_of_get at18x12
         replace hc := base_hc.mono hle
         replace h := base_h.mono hle
         clear c0 c1 c2 c3 c4 i1 i2 i3 i4
         obtain ⟨c0, c1, c2, c3, c4, i1, i2, i3, i4⟩ := hc.get
         clear i24x12
         have i24x12 := Ints.of_get at24x12
         replace hf0 := hf0.trans le18x12
         refine .c1 rfl rfl rfl rfl (.makeIN rfl sl_22_A ze_2_E by_2_E rfl rfl (by omega) (by omega) (by omega)) ?_
         rintro _ H16x12 ⟨g16x12, rfl, le16x12, ge16x12, at16x12⟩
         replace hbl := hbl.trans le16x12
         refine ⟨hbl, ?_⟩
         have nx_H16x12 := le16x12.1
         replace hle := hle.trans le16x12
         replace at2 := le16x12.2 _ _ at2
         replace at3 := le16x12.2 _ _ at3
         replace at4 := le16x12.2 _ _ at4
         replace at24x12 := le16x12.2 _ _ at24x12
         replace at6x16 := le16x12.2 _ _ at6x16
         replace at18x12 := le16x12.2 _ _ at18x12
         have lt_at16x12 := GHeap.lt_of_get at16x12
         replace hc := base_hc.mono hle
         replace h := base_h.mono hle
         clear c0 c1 c2 c3 c4 i1 i2 i3 i4
         obtain ⟨c0, c1, c2, c3, c4, i1, i2, i3, i4⟩ := hc.get
         clear i24x12
         have i24x12 := Ints.of_get at24x12
         replace hf0 := hf0.trans le16x12
         refine .mB rfl rfl rfl rfl hbl (.build bt_27_Qs rfl rfl rfl) ?_
         refine .r1 rfl rfl rfl (.fillR rfl sz_27_D rfl rfl rfl rfl (by assumption) (by first | rfl | exact Nat.le_of_ble_eq_true rfl | simp)) ?_
         rintro _ H2016x18 ⟨rfl, st2016x18, at2016x18⟩
         replace hbl := hbl.st st2016x18 (fun k hk => ⟨by omega, trivial⟩)
         refine ⟨hbl, ?_⟩
         have nx_H2016x18 := st2016x18.nx
         replace hle := hle.st st2016x18 (fun k hk => ⟨by omega, trivial⟩)
         replace at2 := st2016x18.same _ _ ⟨by omega, trivial⟩ at2
         replace at3 := st2016x18.same _ _ ⟨by omega, trivial⟩ at3
         replace at4 := st2016x18.same _ _ ⟨by omega, trivial⟩ at4
         replace at24x12 := st2016x18.same _ _ ⟨by omega, trivial⟩ at24x12
         replace at18x12 := st2016x18.same _ _ ⟨by omega, trivial⟩ at18x12
         replace at16x12 := st2016x18.same _ _ ⟨by omega, trivial⟩ at16x12
         have lt_at2016x18 := GHeap.lt_of_get at2016x18
         replace hc := base_hc.mono hle
         replace h := base_h.mono hle
         clear c0 c1 c2 c3 c4 i1 i2 i3 i4
         obtain ⟨c0, c1, c2, c3, c4, i1, i2, i3, i4⟩ := hc.get
         clear i24x12
         have i24x12 := Ints.of_get at24x12
         have mm2016x18 : MemN _ _ _ _ _ := ⟨rfl, Mem.of_get at2016x18⟩
         replace hf0 := hf0.st st2016x18 (fun k hk => ⟨by omega, trivial⟩)
         refine .done ?_
         exact ⟨g16x12, g18x12, g24x12, g6x16, ⟨rfl, rfl, rfl, rfl, rfl, rfl, rfl, rfl, rfl, rfl, rfl, rfl, trivial⟩, hf0, by omega, by omega, by omega, by omega, by first | assumption | simpa using at16x12, by first | assumption | simpa using at18x12, by first | assumption | simpa using at24x12, by first | assumption | simpa using at2016x18, by omega, by omega, by omega, by omega, by omega, by omega⟩
     ·
      refine .c1 rfl rfl rfl rfl (.allocR rfl ze_27_E rfl) ?_
      rintro _ H6x17 ⟨g6x17, rfl, le6x17, ge6x17, at6x17⟩
      have hbl := le6x17
      refine ⟨hbl, ?_⟩
      have nx_H6x17 := le6x17.1
      replace hle := hle.trans le6x17
      replace at2 := le6x17.2 _ _ at2
      replace at3 := le6x17.2 _ _ at3
      replace at4 := le6x17.2 _ _ at4
      have lt_at6x17 := GHeap.lt_of_get at6x17
      replace hc := base_hc.mono hle
      replace h := base_h.mono hle
      clear c0 c1 c2 c3 c4 i1 i2 i3 i4
      obtain ⟨c0, c1, c2, c3, c4, i1, i2, i3, i4⟩ := hc.get
      replace hf0 := hf0.trans le6x17
      refine .orI ?_ ?_
      ·
       refine .c1 rfl rfl rfl rfl (.makeIN rfl sl_22_A ze_2_E by_2_E rfl rfl (by omega) (by omega) (by omega)) ?_
       rintro _ H16x13 ⟨g16x13, rfl, le16x13, ge16x13, at16x13⟩
       replace hbl := hbl.trans le16x13
       refine ⟨hbl, ?_⟩
       have nx_H16x13 := le16x13.1
       replace hle := hle.trans le16x13
       replace at2 := le16x13.2 _ _ at2
       replace at3 := le16x13.2 _ _ at3
       replace at4 := le16x13.2 _ _ at4
       replace at6x17 := le16x13.2 _ _ at6x17
       have lt_at16x13 := GHeap.lt_of_get at16x13
       replace hc := base_hc.mono hle
       replace h := base_h.mono hle
       clear c0 c1 c2 c3 c4 i1 i2 i3 i4
       obtain ⟨c0, c1, c2, c3, c4, i1, i2, i3, i4⟩ := hc.get
       replace hf0 := hf0.trans le16x13
       refine .orI ?_ ?_
       ·
        refine .c1 rfl rfl rfl rfl (.makeIN rfl sl_22_A ze_2_E by_2_E rfl rfl (by omega) (by omega) (by omega)) ?_
        rintro _ H18x13 ⟨g18x13, rfl, le18x13, ge18x13, at18x13⟩
        replace hbl := hbl.trans le18x13
        refine ⟨hbl, ?_⟩
        have nx_H18x13 := le18x13.1
        replace hle := hle.trans le18x13
        replace at2 := le18x13.2 _ _ at2
        replace at3 := le18x13.2 _ _ at3
        replace at4 := le18x13.2 _ _ at4
        replace at6x17 := le18x13.2 _ _ at6x17
        replace at16x13 := le18x13.2 _ _ at16x13
        have lt_at18x13 := GHeap.lt_of_get at18x13
        replace hc := base_hc.mono hle
        replace h := base_h.mono hle
        clear c0 c1 c2 c3 c4 i1 i2 i3 i4
        obtain ⟨c0, c1, c2, c3, c4, i1, i2, i3, i4⟩ := hc.get
        replace hf0 := hf0.trans le18x13
        refine .call1 rfl rfl rfl rfl rfl @Try.call92 rfl (implThen_c) ?_
        rintro _ H24x13 ⟨le24x13, g24x13, rfl, at24x13, ge24x13⟩
        replace hbl := hbl.trans le24x13
        refine ⟨hbl, ?_⟩
        have nx_H24x13 := le24x13.1
        replace hle := hle.trans le24x13
        replace at2 := le24x13.2 _ _ at2
        replace at3 := le24x13.2 _ _ at3
        replace at4 := le24x13.2 _ _ at4
        replace at6x17 := le24x13.2 _ _ at6x17
        replace at16x13 := le24x13.2 _ _ at16x13
        replace at18x13 := le24x13.2 _ _ at18x13
        have lt_at24x13 := GHeap.lt_of_get at24x13
        replace hc := base_hc.mono hle
        replace h := base_h.mono hle
        clear c0 c1 c2 c3 c4 i1 i2 i3 i4
        obtain ⟨c0, c1, c2, c3, c4, i1, i2, i3, i4⟩ := hc.get
        have i24x13 := Ints.of_get at24x13
        replace hf0 := hf0.trans le24x13
        refine .mB rfl rfl rfl rfl hbl (.build bt_27_Qs rfl rfl rfl) ?_
        refine .r1 rfl rfl rfl (.fillR rfl sz_27_D rfl rfl rfl rfl (by assumption) (by first | rfl | exact Nat.le_of_ble_eq_true rfl | simp)) ?_
        rintro _ H2016x19 ⟨rfl, st2016x19, at2016x19⟩
        replace hbl := hbl.st st2016x19 (fun k hk => ⟨by omega, trivial⟩)
        refine ⟨hbl, ?_⟩
        have nx_H2016x19 := st2016x19.nx
        replace hle := hle.st st2016x19 (fun k hk => ⟨by omega, trivial⟩)
        replace at2 := st2016x19.same _ _ ⟨by omega, trivial⟩ at2
        replace at3 := st2016x19.same _ _ ⟨by omega, trivial⟩ at3
        replace at4 := st2016x19.same _ _ ⟨by omega, trivial⟩ at4
        replace at16x13 := st2016x19.same _ _ ⟨by omega, trivial⟩ at16x13
        replace at18x13 := st2016x19.same _ _ ⟨by omega, trivial⟩ at18x13
        replace at24x13 := st2016x19.same _ _ ⟨by omega, trivial⟩ at24x13
        have lt_at2016x19 := GHeap.lt_of_get at2016x19
        replace hc := base_hc.mono hle
        replace h := base_h.mono hle
        clear c0 c1 c2 c3 c4 i1 i2 i3 i4
        obtain ⟨c0, c1, c2, c3, c4, i1, i2, i3, i4⟩ := hc.get
        clear i24x13
        have i24x13 := Ints.of_get at24x13
        have mm2016x19 : MemN _ _ _ _ _ := ⟨rfl, Mem.of_get at2016x19⟩
        replace hf0 := hf0.st st2016x19 (fun k hk => ⟨by omega, trivial⟩)
        refine .done ?_
        exact ⟨g16x13, g18x13, g24x13, g6x17, ⟨rfl, rfl, rfl, rfl, rfl, rfl, rfl, rfl, rfl, rfl, rfl, rfl, trivial⟩, hf0, by omega, by omega, by omega, by omega, by first | assumption | simpa using at16x13, by first | assumption | simpa using at18x13, by first | assumption | simpa using at24x13, by first | assumption | simpa using at2016x19, by omega, by omega, by omega, by omega, by omega, by omega⟩
       ·
        refine .call1 rfl rfl rfl rfl rfl @Try.call92 rfl (implThen_c) ?_
        rintro _ H24x14 ⟨le24x14, g24x14, rfl, at24x14, ge24x14⟩
        replace hbl := hbl.trans le24x14
        refine ⟨hbl, ?_⟩
        have nx_H24x14 := le24x14.1
        replace hle := hle.trans le24x14
        replace at2 := le24x14.2 _ _ at2
        replace at3 := le24x14.2 _ _ at3
        replace at4 := le24x14.2 _ _ at4
        replace at6x17 := le24x14.2 _ _ at6x17
        replace at16x13 := le24x14.2 _ _ at16x13
        have lt_at24x14 := GHeap.lt_of_get at24x14
        replace hc := base_hc.mono hle
        replace h := base_h.mono hle
        clear c0 c1 c2 c3 c4 i1 i2 i3 i4
        obtain ⟨c0, c1, c2, c3, c4, i1, i2, i3, i4⟩ := hc.get
        have i24x14 := Ints.of_get at24x14
        replace hf0 := hf0.trans le24x14
        refine .c1 rfl rfl rfl rfl (.makeIN rfl sl_22_A ze_2_E by_2_E rfl rfl (by omega) (by omega) (by omega)) ?_
        rintro _ H18x14 ⟨g18x14, rfl, le18x14, ge18x14, at18x14⟩
        replace hbl := hbl.trans le18x14
        refine ⟨hbl, ?_⟩
        have nx_H18x14 := le18x14.1
        replace hle := hle.trans le18x14
        replace at2 := le18x14.2 _ _ at2
        replace at3 := le18x14.2 _ _ at3
        replace at4 := le18x14.2 _ _ at4
        replace at6x17 := le18x14.2 _ _ at6x17
        replace at16x13 := le18x14.2 _ _ at16x13
        replace at24x14 := le18x14.2 _ _ at24x14
        have lt_at18x14 := GHeap.lt_of_get at18x14
        replace hc := base_hc.mono hle
        replace h := base_h.mono hle
        clear c0 c1 c2 c3 c4 i1 i2 i3 i4
        obtain ⟨c0, c1, c2, c3, c4, i1, i2, i3, i4⟩ := hc.get
        clear i24x14
        have i24x14 := Ints.of_get at24x14
        replace hf0 := hf0.trans le18x14
        refine .mB rfl rfl rfl rfl hbl (.build bt_27_Qs rfl rfl rfl) ?_
        refine .r1 rfl rfl rfl (.fillR rfl sz_27_D rfl rfl rfl rfl (by assumption) (by first | rfl | exact Nat.le_of_ble_eq_true rfl | simp)) ?_
        rintro _ H2016x20 ⟨rfl, st2016x20, at2016x20⟩
        replace hbl := hbl.st st2016x20 (fun k hk => ⟨by omega, trivial⟩)
        refine ⟨hbl, ?_⟩
        have nx_H2016x20 := st2016x20.nx
        replace hle := hle.st st2016x20 (fun k hk => ⟨by omega, trivial⟩)
        replace at2 := st2016x20.same _ _ ⟨by omega, trivial⟩ at2
        replace at3 := st2016x20.same _ _ ⟨by omega, trivial⟩ at3
        replace at4 := st2016x20.same _ _ ⟨by omega, trivial⟩ at4
        replace at16x13 := st2016x20.same _ _ ⟨by omega, trivial⟩ at16x13
        replace at24x14 := st2016x20.same _ _ ⟨by omega, trivial⟩ at24x14
        replace at18x14 := st2016x20.same _ _ ⟨by omega, trivial⟩ at18x14
        have lt_at2016x20 := GHeap.lt_of_get at2016x20
        replace hc := base_hc.mono hle
        replace h := base_h.mono hle
        clear c0 c1 c2 c3 c4 i1 i2 i3 i4
        obtain ⟨c0, c1, c2, c3, c4, i1, i2, i3, i4⟩ := hc.get
        clear i24x14
        have i24x14 := Ints.of_get at24x14
        have mm2016x20 : MemN _ _ _ _ _ := ⟨rfl, Mem.of_get at2016x20⟩
        replace hf0 := hf0.st st2016x20 (fun k hk => ⟨by omega, trivial⟩)
        refine .done ?_
        exact ⟨g16x13, g18x14, g24x14, g6x17, ⟨rfl, rfl, rfl, rfl, rfl, rfl, rfl, rfl, rfl, rfl, rfl, rfl, trivial⟩, hf0, by omega, by omega, by omega, by omega, by first | assumption | simpa using at16x13, by first | assumption | simpa using at18x14, by first | assumption | simpa using at24x14, by first | assumption | simpa using at2016x20, by omega, by omega, by omega, by omega, by omega, by omega⟩
      ·
       refine .orI ?_ ?_
       ·
        refine .c1 rfl rfl rfl rfl (.makeIN rfl sl_22_A ze_2_E by_2_E rfl rfl (by omega) (by omega) (by omega)) ?_
        rintro _ H18x15 ⟨g18x15, rfl, le18x15, ge18x15, at18x15⟩
        replace hbl := hbl.trans le18x15
        refine ⟨hbl, ?_⟩
        have nx_H18x15 := le18x15.1
        replace hle := hle.trans le18x15
        replace at2 := le18x15.2 _ _ at2
        replace at3 := le18x15.2 _ _ at3
        replace at4 := le18x15.2 _ _ at4
        replace at6x17 := le18x15.2 _ _ at6x17
        have lt_at18x15 := GHeap.lt_of_get at18x15
        replace hc := base_hc.mono hle
        replace h := base_h.mono hle
        clear c0 c1 c2 c3 c4 i1 i2 i3 i4
        obtain ⟨c0, c1, c2, c3, c4, i1, i2, i3, i4⟩ := hc.get
        replace hf0 := hf0.trans le18x15
        refine .orI ?_ ?_
        ·
         refine .c1 rfl rfl rfl rfl (.makeIN rfl sl_22_A ze_2_E by_2_E rfl rfl (by omega) (by omega) (by omega)) ?_
         rintro _ H16x14 ⟨g16x14, rfl, le16x14, ge16x14, at16x14⟩
         replace hbl := hbl.trans le16x14
         refine ⟨hbl, ?_⟩
         have nx_H16x14 := le16x14.1
         replace hle := hle.trans le16x14
         replace at2 := le16x14.2 _ _ at2
         replace at3 := le16x14.2 _ _ at3
         replace at4 := le16x14.2 _ _ at4
         replace at6x17 := le16x14.2 _ _ at6x17
         replace at18x15 := le16x14.2 _ _ at18x15
         have lt_at16x14 := GHeap.lt_of_get at16x14
         replace hc := base_hc.mono hle
         replace h := base_h.mono hle
         clear c0 c1 c2 c3 c4 i1 i2 i3 i4
         obtain ⟨c0, c1, c2, c3, c4, i1, i2, i3, i4⟩ := hc.get
         replace hf0 := hf0.trans le16x14
         refine .call1 rfl rfl rfl rfl rfl @Try.call92 rfl (implThen_c) ?_
         rintro _ H24x15 ⟨le24x15, g24x15, rfl, at24x15, ge24x15⟩
         replace hbl := hbl.trans le24x15
         refine ⟨hbl, ?_⟩
         have nx_H24x15 := le24x15.1
         replace hle := hle.trans le24x15
         replace at2 := le24x15.2 _ _ at2
         replace at3 := le24x15.2 _ _ at3
         replace at4 := le24x15.2 _ _ at4
         replace at6x17 := le24x15.2 _ _ at6x17
         replace at18x15 := le24x15.2 _ _ at18x15
         replace at16x14 := le24x15.2 _ _ at16x14
         have lt_at24x15 := GHeap.lt_of_get at24x15
         replace hc := base_hc.mono hle
         replace h := base_h.mono hle
         clear c0 c1 c2 c3 c4 i1 i2 i3 i4
         obtain ⟨c0, c1, c2, c3, c4, i1, i2, i3, i4⟩ := hc.get
         have i24x15 := Ints.of_get at24x15
         replace hf0 := hf0.trans le24x15
         refine .mB rfl rfl rfl rfl hbl (.build bt_27_Qs rfl rfl rfl) ?_
         refine .r1 rfl rfl rfl (.fillR rfl sz_27_D rfl rfl rfl rfl (by assumption) (by first | rfl | exact Nat.le_of_ble_eq_true rfl | simp)) ?_
         rintro _ H2016x21 ⟨rfl, st2016x21, at2016x21⟩
         replace hbl := hbl.st st2016x21 (fun k hk => ⟨by omega, trivial⟩)
         refine ⟨hbl, ?_⟩
         have nx_H2016x21 := st2016x21.nx
         replace hle := hle.st st2016x21 (fun k hk => ⟨by omega, trivial⟩)
         replace at2 := st2016x21.same _ _ ⟨by omega, trivial⟩ at2
         replace at3 := st2016x21.same _ _ ⟨by omega, trivial⟩ at3
         replace at4 := st2016x21.same _ _ ⟨by omega, trivial⟩ at4
         replace at18x15 := st2016x21.same _ _ ⟨by omega, trivial⟩ at18x15
         replace at16x14 := st2016x21.same _ _ ⟨by omega, trivial⟩ at16x14
         replace at24x15 := st2016x21.same _ _ ⟨by omega, trivial⟩ at24x15
         have lt_at2016x21 := GHeap.lt_of_get at2016x21
         replace hc := base_hc.mono hle
         replace h := base_h.mono hle
         clear c0 c1 c2 c3 c4 i1 i2 i3 i4
         obtain ⟨c0, c1, c2, c3, c4, i1, i2, i3, i4⟩ := hc.get
         clear i24x15
         have i24x15 := Ints.of_get at24x15
         have mm2016x21 : MemN _ _ _ _ _ := ⟨rfl, Mem.of_get at2016x21⟩
         replace hf0 := hf0.st st2016x21 (fun k hk => ⟨by omega, trivial⟩)
         refine .done ?_
         exact ⟨g16x14, g18x15, g24x15, g6x17, ⟨rfl, rfl, rfl, rfl, rfl, rfl, rfl, rfl, rfl, rfl, rfl, rfl, trivial⟩, hf0, by omega, by omega, by omega, by omega, by first | assumption | simpa using at16x14, by first | assumption | simpa using at18x15, by first | assumption | simpa using at24x15, by first | assumption | simpa using at2016x21, by omega, by omega, by omega, by omega, by omega, by omega⟩
        ·
         refine .call1 rfl rfl rfl rfl rfl @Try.call92 rfl (implThen_c) ?_
         rintro _ H24x16 ⟨le24x16, g24x16, rfl, at24x16, ge24x16⟩
         replace hbl := hbl.trans le24x16
         refine ⟨hbl, ?_⟩
         have nx_H24x16 := le24x16.1
         replace hle := hle.trans le24x16
         replace at2 := le24x16.2 _ _ at2
         replace at3 := le24x16.2 _ _ at3
         replace at4 := le24x16.2 _ _ at4
         replace at6x17 := le24x16.2 _ _ at6x17
         replace at18x15 := le24x16.2 _ _ at18x15
         have lt_at24x16 := GHeap.lt_of_get at24x16
         replace hc := base_hc.mono hle
         replace h := base_h.mono hle
         clear c0 c1 c2 c3 c4 i1 i2 i3 i4
         obtain ⟨c0, c1, c2, c3, c4, i1, i2, i3, i4⟩ := hc.get
         have i24x16 := Ints.of_get at24x16
         replace hf0 := hf0.trans le24x16
         refine .c1 rfl rfl rfl rfl (.makeIN rfl sl_22_A ze_2_E by_2_E rfl rfl (by omega) (by omega) (by omega)) ?_
         rintro _ H16x15 ⟨g16x15, rfl, le16x15, ge16x15, at16x15⟩
         replace hbl := hbl.trans le16x15
         refine ⟨hbl, ?_⟩
         have nx_H16x15 := le16x15.1
         replace hle := hle.trans le16x15
         replace at2 := le16x15.2 _ _ at2
         replace at3 := le16x15.2 _ _ at3
         replace at4 := le16x15.2 _ _ at4
         replace at6x17 := le16x15.2 _ _ at6x17
         replace at18x15 := le16x15.2 _ _ at18x15
         replace at24x16 := le16x15.2 _ _ at24x16
         have lt_at16x15 := GHeap.lt_of_get at16x15
         replace hc := base_hc.mono hle
         replace h := base_h.mono hle
         clear c0 c1 c2 c3 c4 i1 i2 i3 i4
         obtain ⟨c0, c1, c2, c3, c4, i1, i2, i3, i4⟩ := hc.get
         clear i24x16
         have i24x16 := Ints.of_get at24x16
         replace hf0 := hf0.trans le16x15
         refine .mB rfl rfl rfl rfl hbl (.build bt_27_Qs rfl rfl rfl) ?_
         refine .r1 rfl rfl rfl (.fillR rfl sz_27_D rfl rfl rfl rfl (by assumption) (by first | rfl | exact Nat.le_of_ble_eq_true rfl | simp)) ?_
         rintro _ H2016x22 ⟨rfl, st2016x22, at2016x22⟩
         replace hbl := hbl.st st2016x22 (fun k hk => ⟨by omega, trivial⟩)
         refine ⟨hbl, ?_⟩
         have nx_H2016x22 := st2016x22.nx
         replace hle := hle.st st2016x22 (fun k hk => ⟨by omega, trivial⟩)
         replace at2 := st2016x22.same _ _ ⟨by omega, trivial⟩ at2
         replace at3 := st2016x22.same _ _ ⟨by omega, trivial⟩ at3
         replace at4 := st2016x22.same _ _ ⟨by omega, trivial⟩ at4
         replace at18x15 := st2016x22.same _ _ ⟨by omega, trivial⟩ at18x15
         replace at24x16 := st2016x22.same _ _ ⟨by omega, trivial⟩ at24x16
         replace at16x15 := st2016x22.same _ _ ⟨by omega, trivial⟩ at16x15
         have lt_at2016x22 := GHeap.lt_of_get at2016x22
         replace hc := base_hc.mono hle
         replace h := base_h.mono hle
         clear c0 c1 c2 c3 c4 i1 i2 i3 i4
         obtain ⟨c0, c1, c2, c3, c4, i1, i2, i3, i4⟩ := hc.get
         clear i24x16
         have i24x16 := Ints.of_get at24x16
         have mm2016x22 : MemN _ _ _ _ _ := ⟨rfl, Mem.of_get at2016x22⟩
         replace hf0 := hf0.st st2016x22 (fun k hk => ⟨by omega, trivial⟩)
         refine .done ?_
         exact ⟨g16x15, g18x15, g24x16, g6x17, ⟨rfl, rfl, rfl, rfl, rfl, rfl, rfl, rfl, rfl, rfl, rfl, rfl, trivial⟩, hf0, by omega, by omega, by omega, by omega, by first | assumption | simpa using at16x15, by first | assumption | simpa using at18x15, by first | assumption | simpa using at24x16, by first | assumption | simpa using at2016x22, by omega, by omega, by omega, by omega, by omega, by omega⟩
       ·
        refine .call1 rfl rfl rfl rfl rfl @Try.call92 rfl (implThen_c) ?_
        rintro _ H24x17 ⟨le24x17, g24x17, rfl, at24x17, ge24x17⟩
        replace hbl := hbl.trans le24x17
        refine ⟨hbl, ?_⟩
        have nx_H24x17 := le24x17.1
        replace hle := hle.trans le24x17
        replace at2 := le24x17.2 _ _ at2
        replace at3 := le24x17.2 _ _ at3
        replace at4 := le24x17.2 _ _ at4
        replace at6x17 := le24x17.2 _ _ at6x17
        have lt_at24x17 := GHeap.lt_of_get at24x17
        replace hc := base_hc.mono hle
        replace h := base_h.mono hle
        clear c0 c1 c2 c3 c4 i1 i2 i3 i4
        obtain ⟨c0, c1, c2, c3, c4, i1, i2, i3, i4⟩ := hc.get
        have i24x17 := Ints.of_get at24x17
        replace hf0 := hf0.trans le24x17
        refine .orI ?_ ?_
        ·
         refine .c1 rfl rfl rfl rfl (.makeIN rfl sl_22_A ze_2_E by_2_E rfl rfl (by omega) (by omega) (by omega)) ?_
         rintro _ H16x16 ⟨g16x16, rfl, le16x16, ge16x16, at16x16⟩
         replace hbl := hbl.trans le16x16
         refine ⟨hbl, ?_⟩
         have nx_H16x16 := le16x16.1
         replace hle := hle.trans le16x16
         replace at2 := le16x16.2 _ _ at2
         replace at3 := le16x16.2 _ _ at3
         replace at4 := le16x16.2 _ _ at4
         replace at6x17 := le16x16.2 _ _ at6x17
         replace at24x17 := le16x16.2 _ _ at24x17
         have lt_at16x16 := GHeap.lt_of_get at16x16
         replace hc := base_hc.mono hle
         replace h := base_h.mono hle
         clear c0 c1 c2 c3 c4 i1 i2 i3 i4
         obtain ⟨c0, c1, c2, c3, c4, i1, i2, i3, i4⟩ := hc.get
         clear i24x17
         have i24x17 := Ints.of_get at24x17
         replace hf0 := hf0.trans le16x16
         refine .c1 rfl rfl rfl rfl (.makeIN rfl sl_22_A ze_2_E by_2_E rfl rfl (by omega) (by omega) (by omega)) ?_
         rintro _ H18x16 ⟨g18x16, rfl, le18x16, ge18x16, at18x16⟩
         replace hbl := hbl.trans le18x16
         refine ⟨hbl, ?_⟩
         have nx_H18x16 := le18x16.1
         replace hle := hle.trans le18x16
         replace at2 := le18x16.2 _ _ at2
         replace at3 := le18x16.2 _ _ at3
         replace at4 := le18x16.2 _ _ at4
         replace at6x17 := le18x16.2 _ _ at6x17
         replace at24x17 := le18x16.2 _ _ at24x17
         replace at16x16 := le18x16.2 _ _ at16x16
         have lt_at18x16 := GHeap.lt_of_get at18x16
         replace hc := base_hc.mono hle
         replace h := base_h.mono hle
         clear c0 c1 c2 c3 c4 i1 i2 i3 i4
         obtain ⟨c0, c1, c2, c3, c4, i1, i2, i3, i4⟩ := hc.get
         clear i24x17
         have i24x17 := Ints.of_get at24x17
         replace hf0 := hf0.trans le18x16
         refine .mB rfl rfl rfl rfl hbl (.build bt_27_Qs rfl rfl rfl) ?_
         refine .r1 rfl rfl rfl (.fillR rfl sz_27_D rfl rfl rfl rfl (by assumption) (by first | rfl | exact Nat.le_of_ble_eq_true rfl | simp)) ?_
         rintro _ H2016x23 ⟨rfl, st2016x23, at2016x23⟩
         replace hbl := hbl.st st2016x23 (fun k hk => ⟨by omega, trivial⟩)
         refine ⟨hbl, ?_⟩
         have nx_H2016x23 := st2016x23.nx
         replace hle := hle.st st2016x23 (fun k hk => ⟨by omega, trivial⟩)
         replace at2 := st2016x23.same _ _ ⟨by omega, trivial⟩ at2
         replace at3 := st2016x23.same _ _ ⟨by omega, trivial⟩ at3
         replace at4 := st2016x23.same _ _ ⟨by omega, trivial⟩ at4
         replace at24x17 := st2016x23.same _ _ ⟨by omega, trivial⟩ at24x17
         replace at16x16 := st2016x23.same _ _ ⟨by omega, trivial⟩ at16x16
         replace at18x16 := st2016x23.same _ _ ⟨by omega, trivial⟩ at18x16
         have lt_at2016x23 := GHeap.lt_of_get at2016x23
         replace hc := base_hc.mono hle
         replace h := base_h.mono hle
         clear c0 c1 c2 c3 c4 i1 i2 i3 i4
         obtain ⟨c0, c1, c2, c3, c4, i1, i2, i3, i4⟩ := hc.get
         clear i24x17
         have i24x17 := Ints.of_get at24x17
         have mm2016x23 : MemN _ _ _ _ _ := ⟨rfl, Mem.of_get at2016x23⟩
         replace hf0 := hf0.st st2016x23 (fun k hk => ⟨by omega, trivial⟩)
         refine .done ?_
         exact ⟨g16x16, g18x16, g24x17, g6x17, ⟨rfl, rfl, rfl, rfl, rfl, rfl, rfl, rfl, rfl, rfl, rfl, rfl, trivial⟩, hf0, by omega, by omega, by omega, by omega, by first | assumption | simpa using at16x16, by first | assumption | simpa using at18x16, by first | assumption | simpa using at24x17, by first | assumption | simpa using at2016x23, by omega, by omega, by omega, by omega, by omega, by omega⟩
        ·
         refine .c1 rfl rfl rfl rfl (.makeIN rfl sl_22_A ze_2_E by_2_E rfl rfl (by omega) (by omega) (by omega)) ?_
         rintro _ H18x17 ⟨g18x17, rfl, le18x17, ge18x17, at18x17⟩
         replace hbl := hbl.trans le18x17
         refine ⟨hbl, ?_⟩
         have nx_H18x17 := le18x17.1
         replace hle := hle.trans le18x17
         replace at2 := le18x17.2 _ _ at2
         replace at3 := le18x17.2 _ _ at3
         replace at4 := le18x17.2 _ _ at4
         replace at6x17 := le18x17.2 _ _ at6x17
         replace at24x17 := le18x17.2 _ _ at24x17
         have lt_at18x17 := GHeap.lt_of_get at18x17
         replace hc := base_hc.mono hle
         replace h := base_h.mono hle
         clear c0 c1 c2 c3 c4 i1 i2 i3 i4
         obtain ⟨c0, c1, c2, c3, c4, i1, i2, i3, i4⟩ := hc.get
         clear i24x17
         have i24x17 := Ints.of_get at24x17
         replace hf0 := hf0.trans le18x17
         refine .c1 rfl rfl rfl rfl (.makeIN rfl sl_22_A ze_2_E by_2_E rfl rfl (by omega) (by omega) (by omega)) ?_
         rintro _ H16x17 ⟨g16x17, rfl, le16x17, ge16x17, at16x17⟩
         replace hbl := hbl.trans le16x17
         refine ⟨hbl, ?_⟩
         have nx_H16x17 := le16x17.1
         replace hle := hle.trans le16x17
         replace at2 := le16x17.2 _ _ at2
         replace at3 := le16x17.2 _ _ at3
         replace at4 := le16x17.2 _ _ at4
         replace at6x17 := le16x17.2 _ _ at6x17
         replace at24x17 := le16x17.2 _ _ at24x17
         replace at18x17 := le16x17.2 _ _ at18x17
         have lt_at16x17 := GHeap.lt_of_get at16x17
         replace hc := base_hc.mono hle
         replace h := base_h.mono hle
         clear c0 c1 c2 c3 c4 i1 i2 i3 i4
         obtain ⟨c0, c1, c2, c3, c4, i1, i2, i3, i4⟩ := hc.get
         clear i24x17
         have i24x17 := Ints.of_get at24x17
         replace hf0 := hf0.trans le16x17
         refine .mB rfl rfl rfl rfl hbl (.build bt_27_Qs rfl rfl rfl) ?_
         refine .r1 rfl rfl rfl (.fillR rfl sz_27_D rfl rfl rfl rfl (by assumption) (by first | rfl | exact Nat.le_of_ble_eq_true rfl | simp)) ?_
         rintro _ H2016x24 ⟨rfl, st2016x24, at2016x24⟩
         replace hbl := hbl.st st2016x24 (fun k hk => ⟨by omega, trivial⟩)
         refine ⟨hbl, ?_⟩
         have nx_H2016x24 := st2016x24.nx
         replace hle := hle.st st2016x24 (fun k hk => ⟨by omega, trivial⟩)
         replace at2 := st2016x24.same _ _ ⟨by omega, trivial⟩ at2
         replace at3 := st2016x24.same _ _ ⟨by omega, trivial⟩ at3
         replace at4 := st2016x24.same _ _ ⟨by omega, trivial⟩ at4
         replace at24x17 := st2016x24.same _ _ ⟨by omega, trivial⟩ at24x17
         replace at18x17 := st2016x24.same _ _ ⟨by omega, trivial⟩ at18x17
         replace at16x17 := st2016x24.same _ _ ⟨by omega, trivial⟩ at16x17
         have lt_at2016x24 := GHeap.lt_of_get at2016x24
         replace hc := base_hc.mono hle
         replace h := base_h.mono hle
         clear c0 c1 c2 c3 c4 i1 i2 i3 i4
         obtain ⟨c0, c1, c2, c3, c4, i1, i2, i3, i4⟩ := hc.get
         clear i24x17
         have i24x17 := Ints.of_get at24x17
         have mm2016x24 : MemN _ _ _ _ _ := ⟨rfl, Mem.of_get at2016x24⟩
         replace hf0 := hf0.st st2016x24 (fun k hk => ⟨by omega, trivial⟩)
         refine .done ?_
         exact ⟨g16x17, g18x17, g24x17, g6x17, ⟨rfl, rfl, rfl, rfl, rfl, rfl, rfl, rfl, rfl, rfl, rfl, rfl, trivial⟩, hf0, by omega, by omega, by omega, by omega, by first | assumption | simpa using at16x17, by first | assumption | simpa using at18x17, by first | assumption | simpa using at24x17, by first | assumption | simpa using at2016x24, by omega, by omega, by omega, by omega, by omega, by omega⟩
  ·
   rintro fr6 H6 ⟨g16, g18, g24, g6, hsub6, le6, ge16, ge18, ge24, ge6, at16, at18, at24, at6, ne6_0, ne6_1, ne6_2, ne6_3, ne6_4, ne6_5⟩
   have nx_H6 := le6.1
   replace hle := hle.trans le6
   replace at2 := le6.2 _ _ at2
   replace at3 := le6.2 _ _ at3
   replace at4 := le6.2 _ _ at4
   have lt_at16 := GHeap.lt_of_get at16
   have lt_at18 := GHeap.lt_of_get at18
   have lt_at24 := GHeap.lt_of_get at24
   have lt_at6 := GHeap.lt_of_get at6
   replace hc := base_hc.mono hle
   replace h := base_h.mono hle
   clear c0 c1 c2 c3 c4 i1 i2 i3 i4
   obtain ⟨c0, c1, c2, c3, c4, i1, i2, i3, i4⟩ := hc.get
   refine hK3 _ _ ?_
   refine .forget hsub6 ?_
   refine .seq (fun K4 hK4 => ?_)
   refine .region ?_
   refine .m rfl rfl rfl (.move rfl) ?_
   refine .r rfl rfl rfl (.makeIN rfl sl_22_A ze_2_E by_2_E rfl rfl (by omega) (by omega) (by omega)) ?_
   rintro _ H27 ⟨g27, rfl, le27, ge27, at27⟩
   have nx_H27 := le27.1
   replace hle := hle.trans le27
   replace at2 := le27.2 _ _ at2
   replace at3 := le27.2 _ _ at3
   replace at4 := le27.2 _ _ at4
   replace at16 := le27.2 _ _ at16
   replace at18 := le27.2 _ _ at18
   replace at24 := le27.2 _ _ at24
   replace at6 := le27.2 _ _ at6
   have lt_at27 := GHeap.lt_of_get at27
   replace hc := base_hc.mono hle
   replace h := base_h.mono hle
   clear c0 c1 c2 c3 c4 i1 i2 i3 i4
   obtain ⟨c0, c1, c2, c3, c4, i1, i2, i3, i4⟩ := hc.get
   refine .r rfl rfl rfl (.allocR rfl ze_22_E rfl) ?_
   rintro _ H7 ⟨g7, rfl, le7, ge7, at7⟩
   have nx_H7 := le7.1
   replace hle := hle.trans le7
   replace at2 := le7.2 _ _ at2
   replace at3 := le7.2 _ _ at3
   replace at4 := le7.2 _ _ at4
   replace at16 := le7.2 _ _ at16
   replace at18 := le7.2 _ _ at18
   replace at24 := le7.2 _ _ at24
   replace at6 := le7.2 _ _ at6
   replace at27 := le7.2 _ _ at27
   have lt_at7 := GHeap.lt_of_get at7
   replace hc := base_hc.mono hle
   replace h := base_h.mono hle
   clear c0 c1 c2 c3 c4 i1 i2 i3 i4
   obtain ⟨c0, c1, c2, c3, c4, i1, i2, i3, i4⟩ := hc.get
   refine .r0 rfl rfl (.storeR rfl sz_22_E rfl rfl rfl (by assumption) (by first | exact Nat.le_of_ble_eq_true rfl | (simp; done) | (simp <;> omega))) ?_
   rintro _ H3003 ⟨rfl, st3003, at3003⟩
   have nx_H3003 := st3003.nx
   replace hle := hle.st st3003 (fun k hk => ⟨by omega, trivial⟩)
   replace at2 := st3003.same _ _ ⟨by omega, trivial⟩ at2
   replace at3 := st3003.same _ _ ⟨by omega, trivial⟩ at3
   replace at4 := st3003.same _ _ ⟨by omega, trivial⟩ at4
   replace at16 := st3003.same _ _ ⟨by omega, trivial⟩ at16
   replace at18 := st3003.same _ _ ⟨by omega, trivial⟩ at18
   replace at24 := st3003.same _ _ ⟨by omega, trivial⟩ at24
   replace at6 := st3003.same _ _ ⟨by omega, trivial⟩ at6
   replace at27 := st3003.same _ _ ⟨by omega, trivial⟩ at27
   have lt_at3003 := GHeap.lt_of_get at3003
   replace hc := base_hc.mono hle
   replace h := base_h.mono hle
   clear c0 c1 c2 c3 c4 i1 i2 i3 i4
   obtain ⟨c0, c1, c2, c3, c4, i1, i2, i3, i4⟩ := hc.get
   try simp only [Nat.zero_add, List.set_cons_succ, List.set_cons_zero] at at3003
   refine .nil ?_
   refine hK4 _ _ ?_
   refine .seq (fun K5 hK5 => ?_)
   refine .seq (fun K6 hK6 => ?_)
   refine .region ?_
   refine .m rfl rfl rfl (.load on_88_Qi rfl (by first | assumption | exact Mem.of_get at3 0 _ rfl)) ?_
   refine .m rfl rfl rfl (.len sl_88_Pb rfl) ?_
   refine .m rfl rfl rfl (.sub rfl rfl rfl (by omega) (by omega)) ?_
   refine .m rfl rfl rfl (.assign rfl) ?_
   refine .nil ?_
   refine hK6 _ _ ?_
   refine .block ?_
   refine .loopR (σ := Nat) [(2, some _), (3, some _), (4, some _), (6, some _), (7, some _)] (fun e => [(8, some (.int .i64 ((e : Int) - 1)))]) (fun e H' => St [g27, g16, g18] H3003 H' ∧ H'.get g27 = some (.row (ints (backL xs (fun (i : Nat) => (i : Int)) (repL xs xs.length).length xs.length e)) 2 true) ∧ H'.get g16 = some (.row (ints (backL xs (fun (i : Nat) => c.src.getD i 0) (repL xs xs.length).length xs.length e)) 2 true) ∧ H'.get g18 = some (.row (ints (backL xs (fun (i : Nat) => c.tgt.getD i 0) (repL xs xs.length).length xs.length e)) 2 true) ∧ e ≤ xs.length) (fun e => e) (xs.length) ⟨rfl, rfl, rfl, rfl, rfl, trivial⟩ ⟨rfl, trivial⟩ ?_ ?_
   ·
    refine ⟨.refl _ _, by (rw [backL_start]; assumption), by (rw [backL_start]; assumption), by (rw [backL_start]; assumption), ?_⟩
    omega
   ·
    rintro e HL1 ⟨lst1, at_Lg27, at_Lg16, at_Lg18, hI⟩ KL1 hKL1
    refine .forget (fr' := [(8, some (.int .i64 ((e : Int) - 1))), (2, some _), (3, some _), (4, some _), (6, some _), (7, some _)]) ⟨rfl, rfl, rfl, rfl, rfl, rfl, trivial⟩ ?_
    have nx_HL1 := lst1.nx
    replace hle := hle.st lst1 (fun k hk => ⟨by omega, by omega, by omega, trivial⟩)
    replace at2 := lst1.same _ _ ⟨by omega, by omega, by omega, trivial⟩ at2
    replace at3 := lst1.same _ _ ⟨by omega, by omega, by omega, trivial⟩ at3
    replace at4 := lst1.same _ _ ⟨by omega, by omega, by omega, trivial⟩ at4
    replace at24 := lst1.same _ _ ⟨by omega, by omega, by omega, trivial⟩ at24
    replace at6 := lst1.same _ _ ⟨by omega, by omega, by omega, trivial⟩ at6
    replace at3003 := lst1.same _ _ ⟨by omega, by omega, by omega, trivial⟩ at3003
    have lt_at_Lg27 := GHeap.lt_of_get at_Lg27
    have lt_at_Lg16 := GHeap.lt_of_get at_Lg16
    have lt_at_Lg18 := GHeap.lt_of_get at_Lg18
    replace hc := base_hc.mono hle
    replace h := base_h.mono hle
    clear c0 c1 c2 c3 c4 i1 i2 i3 i4
    obtain ⟨c0, c1, c2, c3, c4, i1, i2, i3, i4⟩ := hc.get
    have z1 := length_backL xs (fun (i : Nat) => (i : Int)) (repL xs xs.length).length xs.length e
    have z2 := length_backL xs (fun (i : Nat) => c.src.getD i 0) (repL xs xs.length).length xs.length e
    have z3 := length_backL xs (fun (i : Nat) => c.tgt.getD i 0) (repL xs xs.length).length xs.length e
    refine .seq (fun K7 hK7 => ?_)
    refine .seq (fun K8 hK8 => ?_)
    refine .region ?_
    refine .m rfl rfl rfl (.move rfl) ?_
    refine .m rfl rfl rfl (.cmp rfl rfl rfl) ?_
    refine .nil ?_
    refine hK8 _ _ ?_
    refine .cond rfl (fun h32 => ?_) (fun h32 => ?_)
    ·
     simp only [sps] at h32
     obtain ⟨f, rfl⟩ : ∃ f, e = f + 1 := ⟨e - 1, by omega⟩
     have e8 : ((f + 1 : Nat) : Int) - 1 = (f : Int) := by omega
     rw [e8]
     have r1 := hN.bd (k := f) (by omega)
     have r2 := hN.lt (k := f) (by omega)
     refine .skip ?_
     refine hK7 _ _ ?_
     refine .seq (fun K9 hK9 => ?_)
     refine .block ?_
     refine .seq (fun K10 hK10 => ?_)
     refine .regionD mixed_orders_B (.q 0 (.q 1 (.q 2 (.q 3 (.q 4 (.q 5 (.q 6 (.c 7 0 (.done))))))))) (by kernel_rfl) ?_
     refine .m rfl rfl rfl rfl (.refl _) (.load on_22_B rfl (by first | assumption | exact Mem.of_get at3003 0 _ rfl)) ?_
     refine .m rfl rfl rfl rfl (.refl _) (.load on_88_Qi rfl (by first | assumption | exact Mem.of_get at3 0 _ rfl)) ?_
     refine .m rfl rfl rfl rfl (.refl _) (.move rfl) ?_
     refine .m rfl rfl rfl rfl (.refl _) (.idxN sl_88_Pb (by assumption) rfl rfl (by omega)) ?_
     refine .m rfl rfl rfl rfl (.refl _) (.loadI on_2_A (by assumption) rfl (by omega)) ?_
     refine .m rfl rfl rfl rfl (.refl _) (.move rfl) ?_
     refine .m rfl rfl rfl rfl (.refl _) (.idx1 sl_22_A (by first | assumption | exact SlA.of_row at_Lg27 (by first | rfl | (simp; done) | (simp <;> omega))) rfl rfl (by omega) (by omega)) ?_
     refine .r0 rfl rfl rfl (.storeI rfl sz_2_E rfl rfl (by assumption) (by first | omega | (simp <;> omega))) ?_
     rintro _ H7007 ⟨rfl, st7007, at7007⟩
     have nx_H7007 := st7007.nx
     replace hle := hle.st st7007 (fun k hk => ⟨by omega, trivial⟩)
     replace lst1 := lst1.st st7007 (fun k hk ho => by simp only [out, and_true] at ho ⊢ <;> omega)
     replace at2 := st7007.same _ _ ⟨by omega, trivial⟩ at2
     replace at3 := st7007.same _ _ ⟨by omega, trivial⟩ at3
     replace at4 := st7007.same _ _ ⟨by omega, trivial⟩ at4
     replace at24 := st7007.same _ _ ⟨by omega, trivial⟩ at24
     replace at6 := st7007.same _ _ ⟨by omega, trivial⟩ at6
     replace at3003 := st7007.same _ _ ⟨by omega, trivial⟩ at3003
     replace at_Lg16 := st7007.same _ _ ⟨by omega, trivial⟩ at_Lg16
     replace at_Lg18 := st7007.same _ _ ⟨by omega, trivial⟩ at_Lg18
     have lt_at7007 := GHeap.lt_of_get at7007
     replace hc := base_hc.mono hle
     replace h := base_h.mono hle
     clear c0 c1 c2 c3 c4 i1 i2 i3 i4
     obtain ⟨c0, c1, c2, c3, c4, i1, i2, i3, i4⟩ := hc.get
     rw [Nat.zero_add] at at7007
     refine .done ?_
     refine hK10 _ _ ?_
     refine .seq (fun K11 hK11 => ?_)
     refine .regionD mixed_orders_B (.q 0 (.q 1 (.q 2 (.q 3 (.q 4 (.q 5 (.q 6 (.q 7 (.q 8 (.q 9 (.q 10 (.q 11 (.q 12 (.q 13 (.c 14 0 (.done)))))))))))))))) (by kernel_rfl) ?_
     refine .m rfl rfl rfl rfl (.refl _) (.fieldAddr fo_27_1_B rfl) ?_
     refine .m rfl rfl rfl rfl (.refl _) (.load on_22_B rfl (by first | assumption | exact Mem.of_get at6 1 _ rfl)) ?_
     refine .m rfl rfl rfl rfl (.refl _) (.load on_88_Qi rfl (by first | assumption | exact Mem.of_get at3 0 _ rfl)) ?_
     refine .m rfl rfl rfl rfl (.refl _) (.move rfl) ?_
     refine .m rfl rfl rfl rfl (.refl _) (.idxN sl_88_Pb (by assumption) rfl rfl (by omega)) ?_
     refine .m rfl rfl rfl rfl (.refl _) (.loadI on_2_A (by assumption) rfl (by omega)) ?_
     refine .m rfl rfl rfl rfl (.refl _) (.load on_109_Qi rfl (by first | assumption | exact Mem.of_get at2 0 _ rfl)) ?_
     refine .m rfl rfl rfl rfl (.refl _) (.nilCheck rfl) ?_
     refine .m rfl rfl rfl rfl (.refl _) (.fieldAddr fo_27_1_B rfl) ?_
     refine .m rfl rfl rfl rfl (.refl _) (.load on_22_B rfl (by assumption)) ?_
     refine .m rfl rfl rfl rfl (.refl _) (.move rfl) ?_
     refine .m rfl rfl rfl rfl (.refl _) (.idxN sl_22_A (by assumption) rfl rfl (by omega)) ?_
     refine .m rfl rfl rfl rfl (.refl _) (.loadI on_2_A (by assumption) rfl (by omega)) ?_
     refine .m rfl rfl rfl rfl (.refl _) (.idx1 sl_22_A (by first | assumption | exact SlA.of_row at_Lg16 (by first | rfl | (simp; done) | (simp <;> omega))) rfl rfl (by omega) (by omega)) ?_
     refine .r0 rfl rfl rfl (.storeI rfl sz_2_E rfl rfl (by assumption) (by first | omega | (simp <;> omega))) ?_
     rintro _ H8014 ⟨rfl, st8014, at8014⟩
     have nx_H8014 := st8014.nx
     replace hle := hle.st st8014 (fun k hk => ⟨by omega, trivial⟩)
     replace lst1 := lst1.st st8014 (fun k hk ho => by simp only [out, and_true] at ho ⊢ <;> omega)
     replace at2 := st8014.same _ _ ⟨by omega, trivial⟩ at2
     replace at3 := st8014.same _ _ ⟨by omega, trivial⟩ at3
     replace at4 := st8014.same _ _ ⟨by omega, trivial⟩ at4
     replace at24 := st8014.same _ _ ⟨by omega, trivial⟩ at24
     replace at6 := st8014.same _ _ ⟨by omega, trivial⟩ at6
     replace at3003 := st8014.same _ _ ⟨by omega, trivial⟩ at3003
     replace at_Lg18 := st8014.same _ _ ⟨by omega, trivial⟩ at_Lg18
     replace at7007 := st8014.same _ _ ⟨by omega, trivial⟩ at7007
     have lt_at8014 := GHeap.lt_of_get at8014
     replace hc := base_hc.mono hle
     replace h := base_h.mono hle
     clear c0 c1 c2 c3 c4 i1 i2 i3 i4
     obtain ⟨c0, c1, c2, c3, c4, i1, i2, i3, i4⟩ := hc.get
     rw [Nat.zero_add] at at8014
     refine .done ?_
     refine hK11 _ _ ?_
     refine .regionD mixed_orders_B (.q 0 (.q 1 (.q 2 (.q 3 (.q 4 (.q 5 (.q 6 (.q 7 (.q 8 (.q 9 (.q 10 (.q 11 (.q 12 (.q 13 (.c 14 0 (.done)))))))))))))))) (by kernel_rfl) ?_
     refine .m rfl rfl rfl rfl (.refl _) (.fieldAddr fo_27_2_B rfl) ?_
     refine .m rfl rfl rfl rfl (.refl _) (.load on_22_B rfl (by first | assumption | exact Mem.of_get at6 2 _ rfl)) ?_
     refine .m rfl rfl rfl rfl (.refl _) (.load on_88_Qi rfl (by first | assumption | exact Mem.of_get at3 0 _ rfl)) ?_
     refine .m rfl rfl rfl rfl (.refl _) (.move rfl) ?_
     refine .m rfl rfl rfl rfl (.refl _) (.idxN sl_88_Pb (by assumption) rfl rfl (by omega)) ?_
     refine .m rfl rfl rfl rfl (.refl _) (.loadI on_2_A (by assumption) rfl (by omega)) ?_
     refine .m rfl rfl rfl rfl (.refl _) (.load on_109_Qi rfl (by first | assumption | exact Mem.of_get at2 0 _ rfl)) ?_
     refine .m rfl rfl rfl rfl (.refl _) (.nilCheck rfl) ?_
     refine .m rfl rfl rfl rfl (.refl _) (.fieldAddr fo_27_2_B rfl) ?_
     refine .m rfl rfl rfl rfl (.refl _) (.load on_22_B rfl (by assumption)) ?_
     refine .m rfl rfl rfl rfl (.refl _) (.move rfl) ?_
     refine .m rfl rfl rfl rfl (.refl _) (.idxN sl_22_A (by assumption) rfl rfl (by omega)) ?_
     refine .m rfl rfl rfl rfl (.refl _) (.loadI on_2_A (by assumption) rfl (by omega)) ?_
     refine .m rfl rfl rfl rfl (.refl _) (.idx1 sl_22_A (by first | assumption | exact SlA.of_row at_Lg18 (by first | rfl | (simp; done) | (simp <;> omega))) rfl rfl (by omega) (by omega)) ?_
     refine .r0 rfl rfl rfl (.storeI rfl sz_2_E rfl rfl (by assumption) (by first | omega | (simp <;> omega))) ?_
     rintro _ H9014 ⟨rfl, st9014, at9014⟩
     have nx_H9014 := st9014.nx
     replace hle := hle.st st9014 (fun k hk => ⟨by omega, trivial⟩)
     replace lst1 := lst1.st st9014 (fun k hk ho => by simp only [out, and_true] at ho ⊢ <;> omega)
     replace at2 := st9014.same _ _ ⟨by omega, trivial⟩ at2
     replace at3 := st9014.same _ _ ⟨by omega, trivial⟩ at3
     replace at4 := st9014.same _ _ ⟨by omega, trivial⟩ at4
     replace at24 := st9014.same _ _ ⟨by omega, trivial⟩ at24
     replace at6 := st9014.same _ _ ⟨by omega, trivial⟩ at6
     replace at3003 := st9014.same _ _ ⟨by omega, trivial⟩ at3003
     replace at7007 := st9014.same _ _ ⟨by omega, trivial⟩ at7007
     replace at8014 := st9014.same _ _ ⟨by omega, trivial⟩ at8014
     have lt_at9014 := GHeap.lt_of_get at9014
     replace hc := base_hc.mono hle
     replace h := base_h.mono hle
     clear c0 c1 c2 c3 c4 i1 i2 i3 i4
     obtain ⟨c0, c1, c2, c3, c4, i1, i2, i3, i4⟩ := hc.get
     rw [Nat.zero_add] at at9014
     refine .done ?_
     refine hK9 _ _ ?_
     refine .region ?_
     refine .m rfl rfl rfl (.move rfl) ?_
     refine .m rfl rfl rfl (.sub rfl rfl rfl (by omega) (by omega)) ?_
     refine .m rfl rfl rfl (.assign rfl) ?_
     refine .nil ?_
     refine hKL1 (f) _ _ ?_ ?_ ⟨rfl, rfl, rfl, rfl, rfl, rfl, trivial⟩
     ·
      refine ⟨lst1, by (rw [backL_step (by omega) (by omega) (by omega)]; assumption), by (rw [backL_step (by omega) (by omega) (by omega)]; assumption), by (rw [backL_step (by omega) (by omega) (by omega)]; assumption), ?_⟩
      omega
     ·
      omega
    ·
     try simp only [sps] at h32
     refine .exit ?_
     refine hK5 _ _ ?_
     refine .seq (fun K12 hK12 => ?_)
     refine .region ?_
     obtain rfl : e = 0 := by omega
     rw [b7, backL_all rfl hN] at at_Lg27 at_Lg16 at_Lg18
     refine .m rfl rfl rfl (.makeFunc rfl) ?_
     refine .call rfl rfl rfl rfl @Try.call93 rfl (table_c (src := (c.quo xs).src) (tgt := (c.quo xs).tgt) (X := c.quoA xs) (by assumption) (by simp [Cat.quo]) (by simp [Cat.quo]) (by omega) (fun H' s => Ints.of_get (s.same _ _ ⟨by omega, trivial⟩ at_Lg16)) (fun H' s => Ints.of_get (s.same _ _ ⟨by omega, trivial⟩ at_Lg18)) @Try.call94 (fun H' s i j hi hj e => (quotient1_c (H := H') (fs := repI xs xs.length) (base_hc.mono (hle.st s (fun k hk => ⟨by omega, trivial⟩))) (s.same _ _ ⟨by omega, trivial⟩ at3) (base_h.mono (hle.st s (fun k hk => ⟨by omega, trivial⟩))) (s.same _ _ ⟨by omega, trivial⟩ at2) (by rw [length_repI]; exact s.same _ _ ⟨by omega, trivial⟩ at3003) (Ints.of_get (s.same _ _ ⟨by omega, trivial⟩ at_Lg27)) hS hl (by rw [length_repI]; omega) (by rw [length_repI]; omega) (repI_get hi) (repI_get hj) (by have := repL_lt hi; omega) (by have := repL_lt hj; omega) (by obtain ⟨_, w1⟩ := Cat.quo_get (c := c) hi; obtain ⟨w2, _⟩ := Cat.quo_get (c := c) hj; rw [← w1, ← w2]; exact e)).mono fun v H'' hv => by obtain ⟨rfl, rfl⟩ := hv; exact ⟨.refl _, rfl⟩)) ?_
     rintro _ H71 ⟨st71, gC71, r71, at71, ge71, v71, hr71⟩
     have nx_H71 := st71.nx
     replace hle := hle.st st71 (fun k hk => ⟨by omega, trivial⟩)
     replace at2 := st71.same _ _ ⟨by omega, trivial⟩ at2
     replace at3 := st71.same _ _ ⟨by omega, trivial⟩ at3
     replace at4 := st71.same _ _ ⟨by omega, trivial⟩ at4
     replace at24 := st71.same _ _ ⟨by omega, trivial⟩ at24
     replace at3003 := st71.same _ _ ⟨by omega, trivial⟩ at3003
     replace at_Lg27 := st71.same _ _ ⟨by omega, trivial⟩ at_Lg27
     replace at_Lg16 := st71.same _ _ ⟨by omega, trivial⟩ at_Lg16
     replace at_Lg18 := st71.same _ _ ⟨by omega, trivial⟩ at_Lg18
     have lt_at71 := GHeap.lt_of_get at71
     replace hc := base_hc.mono hle
     replace h := base_h.mono hle
     clear c0 c1 c2 c3 c4 i1 i2 i3 i4
     obtain ⟨c0, c1, c2, c3, c4, i1, i2, i3, i4⟩ := hc.get
     refine .nil ?_
     refine hK12 _ _ ?_
     refine .seq (fun K13 hK13 => ?_)
     refine .region ?_
     refine .m rfl rfl rfl (.loadM ag_27_D rfl ⟨rfl, Mem.of_get at71⟩) ?_
     refine .r0 rfl rfl (.fillR rfl sz_27_D rfl rfl rfl rfl (by assumption) (by first | rfl | exact Nat.le_of_ble_eq_true rfl | simp)) ?_
     rintro _ H11001 ⟨rfl, st11001, at11001⟩
     have nx_H11001 := st11001.nx
     replace hle := hle.st st11001 (fun k hk => ⟨by omega, trivial⟩)
     replace at2 := st11001.same _ _ ⟨by omega, trivial⟩ at2
     replace at3 := st11001.same _ _ ⟨by omega, trivial⟩ at3
     replace at24 := st11001.same _ _ ⟨by omega, trivial⟩ at24
     replace at3003 := st11001.same _ _ ⟨by omega, trivial⟩ at3003
     replace at_Lg27 := st11001.same _ _ ⟨by omega, trivial⟩ at_Lg27
     replace at_Lg16 := st11001.same _ _ ⟨by omega, trivial⟩ at_Lg16
     replace at_Lg18 := st11001.same _ _ ⟨by omega, trivial⟩ at_Lg18
     replace at71 := st11001.same _ _ ⟨by omega, trivial⟩ at71
     have lt_at11001 := GHeap.lt_of_get at11001
     replace hc := base_hc.mono hle
     replace h := base_h.mono hle
     clear c0 c1 c2 c3 c4 i1 i2 i3 i4
     obtain ⟨c0, c1, c2, c3, c4, i1, i2, i3, i4⟩ := hc.get
     have mm11001 : MemN _ _ _ _ _ := ⟨rfl, Mem.of_get at11001⟩
     refine .nil ?_
     refine hK13 _ _ ?_
     refine .ret ?_
     -- leaf e1
     refine hret _ _ ?_
     refine ⟨_, _, _, _, rfl, ag_27_D, (by rfl), (Mem.of_get at11001), ?_⟩
     rw [Cat.quo_tab hS hl] at v71
     refine ⟨hle, ⟨some ⟨g16, 0, none⟩, some ⟨g18, 0, none⟩, some ⟨g24, 0, none⟩, some ⟨gC71, 0, none⟩, r71⟩, by simp [Cat.cells, Cat.quo], ?_⟩
     have hv := v71.keep (st11001.keep (b := H6.next) (fun k hk => ⟨by omega, trivial⟩)) (by omega)
     refine .mk (.of_at at_Lg16 (by omega)) (.of_at at_Lg18 (by omega)) (.of_at at24 (by omega)) (hv.keep (.of_le (.refl _)) (by omega)) (g1 := g16) (g2 := g18) (g3 := g24) (.inr rfl) (.inr rfl) (.inr rfl) (by omega) (by omega) (by omega) (fun i hi => ?_)
     have hi' : i < (repL xs xs.length).length := by simpa [Cat.quo] using hi
     exact ⟨fun e => by have := hr71 i hi' _ e; omega, fun e => by have := hr71 i hi' _ e; omega, fun e => by have := hr71 i hi' _ e; omega⟩
end Go.Proofs.Ytfejmmaeigbfkaa
/- Quotients of categories. No condition but those of each statement. -/
namespace Go.Proofs.Ytfejmmaeigbfkaa
open Go Go.GL Go.RowKit Go.Proofs
set_option maxHeartbeats 4000000 in
theorem specQuotientCategory_c {c : Cat} {p : CatP} {a : Option Addr} {xs : List Int} {H : GHeap} (hin : c.In H p := by assumption) (h : Ints H a xs := by assumption) (hs : c.Small := by assumption) (hl : xs.length ≤ 1048576 := by omega) :
    GCalls Try.prog 8 [.agg (c.cells p).toArray, .slice a xs.length xs.length] H (fun v H' => H.Le H' ∧ ∃ q, v = .tuple #[.agg ((c.quoR xs).cells q).toArray, .int .i64 (c.quoC xs)] ∧ CatR H.next H' (c.quoR xs) q) := by
  refine GCalls.body (N := 19) (rs := [.cell 4 27, .tmp 5]) Try.func8 rfl rfl rfl rfl (fun Qx hret hend => ?_)
  refine .forget (fr' := [(0, some _), (1, some _)]) ⟨rfl, rfl, trivial⟩ ?_
  have hle := GHeap.Le.refl H
  have base_hin := hin
  have base_h := h
  refine .seq (fun K1 hK1 => ?_)
  refine .region ?_
  refine .r rfl rfl rfl (.boxR rfl sz_27_D rfl) ?_
  rintro _ H2 ⟨g2, rfl, le2, ge2, at2⟩
  have nx_H2 := le2.1
  replace hle := hle.trans le2
  have lt_at2 := GHeap.lt_of_get at2
  replace hin := base_hin.mono hle
  replace h := base_h.mono hle
  have hb2 : Cat.At _ g2 0 c p := ⟨Mem.of_get at2, hin⟩
  obtain ⟨c02, c12, c22, c32, c42, i12, i22, i32, i42⟩ := hb2.get
  have hm2 : MemN _ _ _ _ _ := ⟨rfl, hb2.1⟩
  have hi2 := hb2.2
  refine .r rfl rfl rfl (.allocR rfl ze_27_E rfl) ?_
  rintro _ H4 ⟨g4, rfl, le4, ge4, at4⟩
  have nx_H4 := le4.1
  replace hle := hle.trans le4
  replace at2 := le4.2 _ _ at2
  have lt_at4 := GHeap.lt_of_get at4
  replace hin := base_hin.mono hle
  replace h := base_h.mono hle
  clear hb2 c02 c12 c22 c32 c42 i12 i22 i32 i42 hm2 hi2
  have hb2 : Cat.At _ g2 0 c p := ⟨Mem.of_get at2, hin⟩
  obtain ⟨c02, c12, c22, c32, c42, i12, i22, i32, i42⟩ := hb2.get
  have hm2 : MemN _ _ _ _ _ := ⟨rfl, hb2.1⟩
  have hi2 := hb2.2
  refine .m rfl rfl rfl (.assign rfl) ?_
  refine .nil ?_
  refine hK1 _ _ ?_
  refine .seq (fun K2 hK2 => ?_)
  refine .seq (fun K3 hK3 => ?_)
  refine .region ?_
  refine .m rfl rfl rfl (.loadM ag_27_D rfl ⟨rfl, Mem.of_get at2⟩) ?_
  refine .callQ rfl rfl rfl rfl @Try.call41 rfl (l02Is_c) ?_
  refine .m rfl rfl rfl (.not rfl) ?_
  refine .m rfl rfl rfl (.move rfl) ?_
  refine .split (fun h9 => ?_) (fun h9 => ?_)
  ·
   simp only [sps] at h9
   refine .sg rfl rfl rfl rfl rfl ?_
   refine .sg rfl rfl rfl rfl rfl ?_
   refine .sg rfl rfl rfl rfl rfl ?_
   refine .sg rfl rfl rfl rfl rfl ?_
   refine .m rfl rfl rfl (.pickT rfl rfl) ?_
   refine .nil ?_
   refine hK3 _ _ ?_
   refine .condT rfl ?_
   refine .seq (fun K4 hK4 => ?_)
   refine .region ?_
   refine .m rfl rfl rfl (.build bt_27_Qr rfl rfl rfl) ?_
   refine .r0 rfl rfl (.fillR rfl sz_27_D rfl rfl rfl rfl (by assumption) (by first | rfl | exact Nat.le_of_ble_eq_true rfl | simp)) ?_
   rintro _ H2001 ⟨rfl, st2001, at2001⟩
   have nx_H2001 := st2001.nx
   replace hle := hle.st st2001 (fun k hk => ⟨by omega, trivial⟩)
   replace at2 := st2001.same _ _ ⟨by omega, trivial⟩ at2
   have lt_at2001 := GHeap.lt_of_get at2001
   replace hin := base_hin.mono hle
   replace h := base_h.mono hle
   clear hb2 c02 c12 c22 c32 c42 i12 i22 i32 i42 hm2 hi2
   have hb2 : Cat.At _ g2 0 c p := ⟨Mem.of_get at2, hin⟩
   obtain ⟨c02, c12, c22, c32, c42, i12, i22, i32, i42⟩ := hb2.get
   have hm2 : MemN _ _ _ _ _ := ⟨rfl, hb2.1⟩
   have hi2 := hb2.2
   have mm2001 : MemN _ _ _ _ _ := ⟨rfl, Mem.of_get at2001⟩
   refine .m rfl rfl rfl (.assign rfl) ?_
   refine .nil ?_
   refine hK4 _ _ ?_
   refine .ret ?_
   -- leaf e1
   refine hret _ _ ?_
   refine ⟨_, _, _, _, _, rfl, ag_27_D, (by rfl), (Mem.of_get at2001), rfl, ?_⟩
   obtain ⟨e1, e2⟩ := Cat.quo_not (c := c) (xs := xs) (fun hh => h9 hh.1)
   rw [e1, e2]
   exact ⟨hle, .zero, rfl, CatR.zero _ _⟩
  ·
   simp only [sps] at h9
   refine .mg rfl rfl rfl rfl rfl (.loadM ag_27_D rfl ⟨rfl, Mem.of_get at2⟩) ?_
   refine .mg rfl rfl rfl rfl rfl (.move rfl) ?_
   refine .callQg rfl rfl rfl rfl rfl rfl @Try.call42 rfl (l03Congruence_c) ?_
   refine .mg rfl rfl rfl rfl rfl (.not rfl) ?_
   refine .m rfl rfl rfl (.pickF rfl rfl) ?_
   refine .nil ?_
   refine hK3 _ _ ?_
   refine .cond rfl (fun h14 => ?_) (fun h14 => ?_)
   ·
    simp only [sps] at h14
    refine .seq (fun K5 hK5 => ?_)
    refine .region ?_
    refine .m rfl rfl rfl (.build bt_27_Qr rfl rfl rfl) ?_
    refine .r0 rfl rfl (.fillR rfl sz_27_D rfl rfl rfl rfl (by assumption) (by first | rfl | exact Nat.le_of_ble_eq_true rfl | simp)) ?_
    rintro _ H2001x2 ⟨rfl, st2001x2, at2001x2⟩
    have nx_H2001x2 := st2001x2.nx
    replace hle := hle.st st2001x2 (fun k hk => ⟨by omega, trivial⟩)
    replace at2 := st2001x2.same _ _ ⟨by omega, trivial⟩ at2
    have lt_at2001x2 := GHeap.lt_of_get at2001x2
    replace hin := base_hin.mono hle
    replace h := base_h.mono hle
    clear hb2 c02 c12 c22 c32 c42 i12 i22 i32 i42 hm2 hi2
    have hb2 : Cat.At _ g2 0 c p := ⟨Mem.of_get at2, hin⟩
    obtain ⟨c02, c12, c22, c32, c42, i12, i22, i32, i42⟩ := hb2.get
    have hm2 : MemN _ _ _ _ _ := ⟨rfl, hb2.1⟩
    have hi2 := hb2.2
    have mm2001x2 : MemN _ _ _ _ _ := ⟨rfl, Mem.of_get at2001x2⟩
    refine .m rfl rfl rfl (.assign rfl) ?_
    refine .nil ?_
    refine hK5 _ _ ?_
    refine .ret ?_
    -- leaf e2
    refine hret _ _ ?_
    refine ⟨_, _, _, _, _, rfl, ag_27_D, (by rfl), (Mem.of_get at2001x2), rfl, ?_⟩
    obtain ⟨e1, e2⟩ := Cat.quo_not (c := c) (xs := xs) (fun hh => h14 hh.2)
    rw [e1, e2]
    exact ⟨hle, .zero, rfl, CatR.zero _ _⟩
   ·
    simp only [sps] at h14
    refine .skip ?_
    refine hK2 _ _ ?_
    refine .seq (fun K6 hK6 => ?_)
    refine .region ?_
    refine .m rfl rfl rfl (.loadM ag_27_D rfl ⟨rfl, Mem.of_get at2⟩) ?_
    refine .m rfl rfl rfl (.move rfl) ?_
    refine .call rfl rfl rfl rfl @Try.call43 rfl (l03Quotient_c (hS := h9.1) (hl := h14.len)) ?_
    rintro _ H18 ⟨le18, p18, rfl, v18⟩
    have nx_H18 := le18.1
    replace hle := hle.trans le18
    replace at2 := le18.2 _ _ at2
    replace at4 := le18.2 _ _ at4
    have bs_v18 := v18
    have lv_v18 : Keep H4.next H18 H18 := fun _ _ _ h => h
    replace hin := base_hin.mono hle
    replace h := base_h.mono hle
    clear hb2 c02 c12 c22 c32 c42 i12 i22 i32 i42 hm2 hi2
    have hb2 : Cat.At _ g2 0 c p := ⟨Mem.of_get at2, hin⟩
    obtain ⟨c02, c12, c22, c32, c42, i12, i22, i32, i42⟩ := hb2.get
    have hm2 : MemN _ _ _ _ _ := ⟨rfl, hb2.1⟩
    have hi2 := hb2.2
    have i18 := v18.inn
    refine .r0 rfl rfl (.fillR rfl sz_27_D rfl rfl rfl rfl (by assumption) (by first | rfl | exact Nat.le_of_ble_eq_true rfl | simp)) ?_
    rintro _ H3003 ⟨rfl, st3003, at3003⟩
    have nx_H3003 := st3003.nx
    replace hle := hle.st st3003 (fun k hk => ⟨by omega, trivial⟩)
    replace at2 := st3003.same _ _ ⟨by omega, trivial⟩ at2
    replace lv_v18 := Keep.st lv_v18 st3003 (fun k hb hk => ⟨by omega, trivial⟩)
    replace v18 := bs_v18.keep lv_v18 (Nat.le_refl _)
    have lt_at3003 := GHeap.lt_of_get at3003
    replace hin := base_hin.mono hle
    replace h := base_h.mono hle
    clear hb2 c02 c12 c22 c32 c42 i12 i22 i32 i42 hm2 hi2
    have hb2 : Cat.At _ g2 0 c p := ⟨Mem.of_get at2, hin⟩
    obtain ⟨c02, c12, c22, c32, c42, i12, i22, i32, i42⟩ := hb2.get
    have hm2 : MemN _ _ _ _ _ := ⟨rfl, hb2.1⟩
    have hi2 := hb2.2
    clear i18
    have i18 := v18.inn
    have mm3003 : MemN _ _ _ _ _ := ⟨rfl, Mem.of_get at3003⟩
    refine .m rfl rfl rfl (.assign rfl) ?_
    refine .nil ?_
    refine hK6 _ _ ?_
    refine .ret ?_
    -- leaf e3
    refine hret _ _ ?_
    refine ⟨_, _, _, _, _, rfl, ag_27_D, (by rfl), (Mem.of_get at3003), rfl, ?_⟩
    obtain ⟨e1, e2⟩ := Cat.quo_ok (c := c) (xs := xs) ⟨h9, h14⟩
    rw [e1, e2]
    exact ⟨hle, p18, rfl, v18.keep (.of_le (.refl _)) (by omega)⟩
set_option maxHeartbeats 4000000 in
theorem implQuotientCategory_c {c : Cat} {p : CatP} {a : Option Addr} {xs : List Int} {H : GHeap} (hin : c.In H p := by assumption) (h : Ints H a xs := by assumption) (hs : c.Small := by assumption) (hl : xs.length ≤ 1048576 := by omega) :
    GCalls Try.prog 11 [.agg (c.cells p).toArray, .slice a xs.length xs.length] H (fun v H' => H.Le H' ∧ ∃ q, v = .tuple #[.agg ((c.quoR xs).cells q).toArray, .int .i64 (c.quoC xs)] ∧ CatR H.next H' (c.quoR xs) q) := by
  refine GCalls.body (N := 16) (rs := [.cell 4 27, .tmp 5]) Try.func11 rfl rfl rfl rfl (fun Qx hret hend => ?_)
  refine .forget (fr' := [(0, some _), (1, some _)]) ⟨rfl, rfl, trivial⟩ ?_
  have hle := GHeap.Le.refl H
  have base_hin := hin
  have base_h := h
  refine .seq (fun K1 hK1 => ?_)
  refine .region ?_
  refine .r rfl rfl rfl (.boxR rfl sz_27_D rfl) ?_
  rintro _ H2 ⟨g2, rfl, le2, ge2, at2⟩
  have nx_H2 := le2.1
  replace hle := hle.trans le2
  have lt_at2 := GHeap.lt_of_get at2
  replace hin := base_hin.mono hle
  replace h := base_h.mono hle
  have hb2 : Cat.At _ g2 0 c p := ⟨Mem.of_get at2, hin⟩
  obtain ⟨c02, c12, c22, c32, c42, i12, i22, i32, i42⟩ := hb2.get
  have hm2 : MemN _ _ _ _ _ := ⟨rfl, hb2.1⟩
  have hi2 := hb2.2
  refine .r rfl rfl rfl (.allocR rfl ze_27_E rfl) ?_
  rintro _ H4 ⟨g4, rfl, le4, ge4, at4⟩
  have nx_H4 := le4.1
  replace hle := hle.trans le4
  replace at2 := le4.2 _ _ at2
  have lt_at4 := GHeap.lt_of_get at4
  replace hin := base_hin.mono hle
  replace h := base_h.mono hle
  clear hb2 c02 c12 c22 c32 c42 i12 i22 i32 i42 hm2 hi2
  have hb2 : Cat.At _ g2 0 c p := ⟨Mem.of_get at2, hin⟩
  obtain ⟨c02, c12, c22, c32, c42, i12, i22, i32, i42⟩ := hb2.get
  have hm2 : MemN _ _ _ _ _ := ⟨rfl, hb2.1⟩
  have hi2 := hb2.2
  refine .m rfl rfl rfl (.assign rfl) ?_
  refine .nil ?_
  refine hK1 _ _ ?_
  refine .seq (fun K2 hK2 => ?_)
  refine .seq (fun K3 hK3 => ?_)
  refine .region ?_
  refine .callQ rfl rfl rfl rfl @Try.call45 rfl (isCategory_c) ?_
  refine .m rfl rfl rfl (.not rfl) ?_
  refine .m rfl rfl rfl (.move rfl) ?_
  refine .split (fun h8 => ?_) (fun h8 => ?_)
  ·
   simp only [sps] at h8
   refine .sg rfl rfl rfl rfl rfl ?_
   refine .sg rfl rfl rfl rfl rfl ?_
   refine .sg rfl rfl rfl rfl rfl ?_
   refine .m rfl rfl rfl (.pickT rfl rfl) ?_
   refine .nil ?_
   refine hK3 _ _ ?_
   refine .condT rfl ?_
   refine .seq (fun K4 hK4 => ?_)
   refine .region ?_
   refine .m rfl rfl rfl (.build bt_27_Qr rfl rfl rfl) ?_
   refine .r0 rfl rfl (.fillR rfl sz_27_D rfl rfl rfl rfl (by assumption) (by first | rfl | exact Nat.le_of_ble_eq_true rfl | simp)) ?_
   rintro _ H2001 ⟨rfl, st2001, at2001⟩
   have nx_H2001 := st2001.nx
   replace hle := hle.st st2001 (fun k hk => ⟨by omega, trivial⟩)
   replace at2 := st2001.same _ _ ⟨by omega, trivial⟩ at2
   have lt_at2001 := GHeap.lt_of_get at2001
   replace hin := base_hin.mono hle
   replace h := base_h.mono hle
   clear hb2 c02 c12 c22 c32 c42 i12 i22 i32 i42 hm2 hi2
   have hb2 : Cat.At _ g2 0 c p := ⟨Mem.of_get at2, hin⟩
   obtain ⟨c02, c12, c22, c32, c42, i12, i22, i32, i42⟩ := hb2.get
   have hm2 : MemN _ _ _ _ _ := ⟨rfl, hb2.1⟩
   have hi2 := hb2.2
   have mm2001 : MemN _ _ _ _ _ := ⟨rfl, Mem.of_get at2001⟩
   refine .m rfl rfl rfl (.assign rfl) ?_
   refine .nil ?_
   refine hK4 _ _ ?_
   refine .ret ?_
   -- leaf e1
   refine hret _ _ ?_
   refine ⟨_, _, _, _, _, rfl, ag_27_D, (by rfl), (Mem.of_get at2001), rfl, ?_⟩
   obtain ⟨e1, e2⟩ := Cat.quo_not (c := c) (xs := xs) (fun hh => h8 hh.1)
   rw [e1, e2]
   exact ⟨hle, .zero, rfl, CatR.zero _ _⟩
  ·
   simp only [sps] at h8
   refine .mg rfl rfl rfl rfl rfl (.move rfl) ?_
   refine .callQg rfl rfl rfl rfl rfl rfl @Try.call46 rfl (isCongruence_c) ?_
   refine .mg rfl rfl rfl rfl rfl (.not rfl) ?_
   refine .m rfl rfl rfl (.pickF rfl rfl) ?_
   refine .nil ?_
   refine hK3 _ _ ?_
   refine .cond rfl (fun h12 => ?_) (fun h12 => ?_)
   ·
    simp only [sps] at h12
    refine .seq (fun K5 hK5 => ?_)
    refine .region ?_
    refine .m rfl rfl rfl (.build bt_27_Qr rfl rfl rfl) ?_
    refine .r0 rfl rfl (.fillR rfl sz_27_D rfl rfl rfl rfl (by assumption) (by first | rfl | exact Nat.le_of_ble_eq_true rfl | simp)) ?_
    rintro _ H2001x2 ⟨rfl, st2001x2, at2001x2⟩
    have nx_H2001x2 := st2001x2.nx
    replace hle := hle.st st2001x2 (fun k hk => ⟨by omega, trivial⟩)
    replace at2 := st2001x2.same _ _ ⟨by omega, trivial⟩ at2
    have lt_at2001x2 := GHeap.lt_of_get at2001x2
    replace hin := base_hin.mono hle
    replace h := base_h.mono hle
    clear hb2 c02 c12 c22 c32 c42 i12 i22 i32 i42 hm2 hi2
    have hb2 : Cat.At _ g2 0 c p := ⟨Mem.of_get at2, hin⟩
    obtain ⟨c02, c12, c22, c32, c42, i12, i22, i32, i42⟩ := hb2.get
    have hm2 : MemN _ _ _ _ _ := ⟨rfl, hb2.1⟩
    have hi2 := hb2.2
    have mm2001x2 : MemN _ _ _ _ _ := ⟨rfl, Mem.of_get at2001x2⟩
    refine .m rfl rfl rfl (.assign rfl) ?_
    refine .nil ?_
    refine hK5 _ _ ?_
    refine .ret ?_
    -- leaf e2
    refine hret _ _ ?_
    refine ⟨_, _, _, _, _, rfl, ag_27_D, (by rfl), (Mem.of_get at2001x2), rfl, ?_⟩
    obtain ⟨e1, e2⟩ := Cat.quo_not (c := c) (xs := xs) (fun hh => h12 hh.2)
    rw [e1, e2]
    exact ⟨hle, .zero, rfl, CatR.zero _ _⟩
   ·
    simp only [sps] at h12
    refine .skip ?_
    refine hK2 _ _ ?_
    refine .seq (fun K6 hK6 => ?_)
    refine .region ?_
    refine .m rfl rfl rfl (.move rfl) ?_
    refine .call rfl rfl rfl rfl @Try.call47 rfl (quotient_c (hS := h8.1) (hQ := h12)) ?_
    rintro _ H15 ⟨le15, p15, rfl, v15⟩
    have nx_H15 := le15.1
    replace hle := hle.trans le15
    replace at2 := le15.2 _ _ at2
    replace at4 := le15.2 _ _ at4
    have bs_v15 := v15
    have lv_v15 : Keep H4.next H15 H15 := fun _ _ _ h => h
    replace hin := base_hin.mono hle
    replace h := base_h.mono hle
    clear hb2 c02 c12 c22 c32 c42 i12 i22 i32 i42 hm2 hi2
    have hb2 : Cat.At _ g2 0 c p := ⟨Mem.of_get at2, hin⟩
    obtain ⟨c02, c12, c22, c32, c42, i12, i22, i32, i42⟩ := hb2.get
    have hm2 : MemN _ _ _ _ _ := ⟨rfl, hb2.1⟩
    have hi2 := hb2.2
    have i15 := v15.inn
    refine .r0 rfl rfl (.fillR rfl sz_27_D rfl rfl rfl rfl (by assumption) (by first | rfl | exact Nat.le_of_ble_eq_true rfl | simp)) ?_
    rintro _ H3002 ⟨rfl, st3002, at3002⟩
    have nx_H3002 := st3002.nx
    replace hle := hle.st st3002 (fun k hk => ⟨by omega, trivial⟩)
    replace at2 := st3002.same _ _ ⟨by omega, trivial⟩ at2
    replace lv_v15 := Keep.st lv_v15 st3002 (fun k hb hk => ⟨by omega, trivial⟩)
    replace v15 := bs_v15.keep lv_v15 (Nat.le_refl _)
    have lt_at3002 := GHeap.lt_of_get at3002
    replace hin := base_hin.mono hle
    replace h := base_h.mono hle
    clear hb2 c02 c12 c22 c32 c42 i12 i22 i32 i42 hm2 hi2
    have hb2 : Cat.At _ g2 0 c p := ⟨Mem.of_get at2, hin⟩
    obtain ⟨c02, c12, c22, c32, c42, i12, i22, i32, i42⟩ := hb2.get
    have hm2 : MemN _ _ _ _ _ := ⟨rfl, hb2.1⟩
    have hi2 := hb2.2
    clear i15
    have i15 := v15.inn
    have mm3002 : MemN _ _ _ _ _ := ⟨rfl, Mem.of_get at3002⟩
    refine .m rfl rfl rfl (.assign rfl) ?_
    refine .nil ?_
    refine hK6 _ _ ?_
    refine .ret ?_
    -- leaf e3
    refine hret _ _ ?_
    refine ⟨_, _, _, _, _, rfl, ag_27_D, (by rfl), (Mem.of_get at3002), rfl, ?_⟩
    obtain ⟨e1, e2⟩ := Cat.quo_ok (c := c) (xs := xs) ⟨h8, h12⟩
    rw [e1, e2]
    exact ⟨hle, p15, rfl, v15.keep (.of_le (.refl _)) (by omega)⟩
end Go.Proofs.Ytfejmmaeigbfkaa
/- Writing over lists, and finding again what was written. No condition but those of each statement. -/
namespace Go.Proofs.Ytfejmmaeigbfkaa
open Go Go.GL Go.RowKit Go.Proofs
theorem markInt64S_own {g : Nat} {e : TypeId} {xs : List Int} {k : Int} {H : GHeap} (at0 : H.get g = some (.row (ints xs) e true)) (hk : 0 ≤ k) (hk' : k + xs.length ≤ 9223372036854775000) :
    GCalls Try.prog 15 [.slice (some ⟨g, 0, none⟩) xs.length xs.length, .int .i64 k] H (fun v H' => v = .int .i64 (k + xs.length) ∧ St [g] H H' ∧ H'.get g = some (.row (ints (seqL k xs.length)) e true)) := by
  refine GCalls.body (N := 19) (rs := [.tmp 4]) Try.func15 rfl rfl rfl rfl (fun Qx hret hend => ?_)
  refine .forget (fr' := [(0, some _), (1, some _)]) ⟨rfl, rfl, trivial⟩ ?_
  have lt_at0 := GHeap.lt_of_get at0
  refine .seq (fun K1 hK1 => ?_)
  refine .region ?_
  refine .m rfl rfl rfl (.assign rfl) ?_
  refine .nil ?_
  refine hK1 _ _ ?_
  refine .seq (fun K2 hK2 => ?_)
  refine .seq (fun K3 hK3 => ?_)
  refine .region ?_
  refine .m rfl rfl rfl (.assign rfl) ?_
  refine .nil ?_
  refine hK3 _ _ ?_
  refine .block ?_
  refine .loopR (σ := Nat × Int × List Int) [(0, some _)] (fun (i, q, ys) => [(5, some (.int .i64 (i : Int))), (1, some (.int .i64 q))]) (fun (i, q, ys) H' => St [g] H H' ∧ H'.get g = some (.row (ints ys) e true) ∧ i ≤ xs.length ∧ q = k + i ∧ ys.length = xs.length ∧ ∀ j, j < i → ys.getD j 0 = k + j) (fun (i, q, ys) => xs.length - i) ((0, k, xs)) ⟨rfl, trivial⟩ ⟨rfl, rfl, trivial⟩ ?_ ?_
  ·
   refine ⟨.refl _ _, by first | assumption | exact at0 | simpa using at0, ?_⟩
   exact ⟨by omega, by omega, rfl, fun _ _ => by omega⟩
  ·
   rintro ⟨i, q, ys⟩ HL1 ⟨lst1, at_L0, hI⟩ KL1 hKL1
   refine .forget (fr' := [(5, some (.int .i64 (i : Int))), (1, some (.int .i64 q)), (0, some _)]) ⟨rfl, rfl, rfl, trivial⟩ ?_
   have nx_HL1 := lst1.nx
   have lt_at_L0 := GHeap.lt_of_get at_L0
   obtain ⟨hi, hq, hyl, ha⟩ := hI
   have hsl := SlA.of_ints at_L0 hyl
   refine .seq (fun K4 hK4 => ?_)
   refine .seq (fun K5 hK5 => ?_)
   refine .region ?_
   refine .m rfl rfl rfl (.move rfl) ?_
   refine .m rfl rfl rfl (.move rfl) ?_
   refine .m rfl rfl rfl (.len sl_22_A rfl) ?_
   refine .m rfl rfl rfl (.cmp rfl rfl rfl) ?_
   refine .nil ?_
   refine hK5 _ _ ?_
   refine .cond rfl (fun h9 => ?_) (fun h9 => ?_)
   ·
    try simp only [sps] at h9
    refine .skip ?_
    refine hK4 _ _ ?_
    refine .seq (fun K6 hK6 => ?_)
    refine .block ?_
    refine .seq (fun K7 hK7 => ?_)
    refine .region ?_
    refine .m rfl rfl rfl (.move rfl) ?_
    refine .m rfl rfl rfl (.move rfl) ?_
    refine .m rfl rfl rfl (.move rfl) ?_
    refine .m rfl rfl rfl (.idxN sl_22_A (by first | assumption | exact SlA.of_row at_L0 (by first | rfl | (simp; done) | (simp <;> omega))) rfl rfl (by omega)) ?_
    refine .r0 rfl rfl (.storeI rfl sz_2_E rfl rfl (by assumption) (by first | omega | (simp <;> omega))) ?_
    rintro _ H4004 ⟨rfl, st4004, at4004⟩
    have nx_H4004 := st4004.nx
    replace lst1 := lst1.st st4004 (fun k hk ho => by simp only [out, and_true] at ho ⊢ <;> omega)
    have lt_at4004 := GHeap.lt_of_get at4004
    refine .nil ?_
    refine hK7 _ _ ?_
    refine .region ?_
    refine .m rfl rfl rfl (.move rfl) ?_
    refine .m rfl rfl rfl (.add rfl rfl rfl (by omega) (by omega)) ?_
    refine .m rfl rfl rfl (.assign rfl) ?_
    refine .nil ?_
    refine hK6 _ _ ?_
    refine .region ?_
    refine .m rfl rfl rfl (.move rfl) ?_
    refine .m rfl rfl rfl (.add rfl rfl rfl (by omega) (by omega)) ?_
    refine .m rfl rfl rfl (.assign rfl) ?_
    refine .nil ?_
    refine hKL1 ((i + 1, q + 1, ys.set (0 + i) q)) _ _ ?_ ?_ ⟨rfl, rfl, rfl, trivial⟩
    ·
     refine ⟨lst1, by assumption, ?_⟩
     refine ⟨by omega, by omega, by simpa using hyl, fun j hj => ?_⟩
     rw [Nat.zero_add, getD_set (by omega)]
     split
     · rename_i e; rw [e]; exact hq
     · exact ha j (by omega)
    ·
     (dsimp only; omega)
   ·
    try simp only [sps] at h9
    refine .exit ?_
    refine hK2 _ _ ?_
    refine .seq (fun K8 hK8 => ?_)
    refine .region ?_
    refine .m rfl rfl rfl (.move rfl) ?_
    refine .m rfl rfl rfl (.assign rfl) ?_
    refine .nil ?_
    refine hK8 _ _ ?_
    refine .ret ?_
    -- leaf e1
    refine hret _ _ ?_
    refine ⟨_, rfl, ?_⟩
    obtain rfl : ys = seqL k xs.length := eq_of_getD (by rw [hyl, length_seqL]) fun j hj => by rw [length_seqL] at hj; rw [ha j (by omega), seqL_get hj]
    obtain rfl : i = xs.length := by omega
    exact ⟨by rw [hq], lst1, at_L0⟩
theorem markInt64S_nil {a : Option Addr} {k : Int} {H : GHeap} (hk : 0 ≤ k) (hk' : k ≤ 9223372036854775000) :
    GCalls Try.prog 15 [.slice a 0 0, .int .i64 k] H (fun v H' => v = .int .i64 k ∧ H' = H) := by
  refine GCalls.body (N := 19) (rs := [.tmp 4]) Try.func15 rfl rfl rfl rfl (fun Qx hret hend => ?_)
  refine .forget (fr' := [(0, some _), (1, some _)]) ⟨rfl, rfl, trivial⟩ ?_
  refine .seq (fun K1 hK1 => ?_)
  refine .region ?_
  refine .m rfl rfl rfl (.assign rfl) ?_
  refine .nil ?_
  refine hK1 _ _ ?_
  refine .seq (fun K2 hK2 => ?_)
  refine .seq (fun K3 hK3 => ?_)
  refine .region ?_
  refine .m rfl rfl rfl (.assign rfl) ?_
  refine .nil ?_
  refine hK3 _ _ ?_
  refine .block ?_
  refine .loopR (σ := Unit) [(0, some _)] (fun u => [(5, some (.int .i64 0)), (1, some (.int .i64 k))]) (fun u H' => H = H' ∧ True) (fun u => 0) (()) ⟨rfl, trivial⟩ ⟨rfl, rfl, trivial⟩ ?_ ?_
  ·
   refine ⟨rfl, ?_⟩
   exact trivial
  ·
   rintro u _ ⟨rfl, hI⟩ KL1 hKL1
   refine .forget (fr' := [(5, some (.int .i64 0)), (1, some (.int .i64 k)), (0, some _)]) ⟨rfl, rfl, rfl, trivial⟩ ?_
   refine .seq (fun K4 hK4 => ?_)
   refine .seq (fun K5 hK5 => ?_)
   refine .region ?_
   refine .m rfl rfl rfl (.move rfl) ?_
   refine .m rfl rfl rfl (.move rfl) ?_
   refine .m rfl rfl rfl (.len sl_22_A rfl) ?_
   refine .m rfl rfl rfl (.cmp rfl rfl rfl) ?_
   refine .nil ?_
   refine hK5 _ _ ?_
   refine .cond rfl (fun h9 => ?_) (fun h9 => ?_)
   ·
    exact absurd h9 (by simp)
   ·
    try simp only [sps] at h9
    refine .exit ?_
    refine hK2 _ _ ?_
    refine .seq (fun K6 hK6 => ?_)
    refine .region ?_
    refine .m rfl rfl rfl (.move rfl) ?_
    refine .m rfl rfl rfl (.assign rfl) ?_
    refine .nil ?_
    refine hK6 _ _ ?_
    refine .ret ?_
    -- leaf e1
    refine hret _ _ ?_
    refine ⟨_, rfl, ?_⟩
    exact ⟨rfl, rfl⟩
theorem markInt64S_c {a : Option Addr} {n lo hi : Nat} {k : Int} {H : GHeap} (h : IntsW lo hi H a n := by assumption) (hk : 0 ≤ k := by omega) (hk' : k + n ≤ 9223372036854775000 := by omega) :
    GCalls Try.prog 15 [.slice a n n, .int .i64 k] H (fun v H' => v = .int .i64 (k + n) ∧ Marked lo hi H H' [(a, n)] k) := by
  by_cases h0 : n = 0
  · subst h0
    refine (markInt64S_nil hk (by omega)).mono fun v H' ⟨h1, h2⟩ => ?_
    subst h2
    exact ⟨by rw [h1]; simp, .refl _ _ _, .refl _ _, fun _ => ⟨.inl rfl, trivial⟩⟩
  · rcases h with h | ⟨g, e, xs, rfl, h2, h3, h4, rfl⟩
    · exact absurd h h0
    · exact (markInt64S_own h4 hk hk').mono fun v H' ⟨k1, k2, k3⟩ => ⟨k1, .one h2 h3 h4 k2 k3 h0⟩
theorem heldInt64S_c {a : Option Addr} {n b : Nat} {k : Int} {H : GHeap} (h : Held b H [(a, n)] k := by assumption) (hk : 0 ≤ k := by omega) (hk' : k + n ≤ 9223372036854775000 := by omega) :
    GCalls Try.prog 23 [.slice a n n, .int .i64 k] H (Ret (.int .i64 (k + n)) H) := by
  have hi := h.ints
  have hl : (seqL k n).length = n := length_seqL k n
  have hsl : SlA H a n (fun i => .int .i64 ((seqL k n).getD i 0)) := by have hi' := hi; unfold Ints at hi'; rw [hl] at hi'; exact hi'
  refine GCalls.body (N := 21) (rs := [.tmp 4]) Try.func23 rfl rfl rfl rfl (fun Qx hret hend => ?_)
  refine .forget (fr' := [(0, some _), (1, some _)]) ⟨rfl, rfl, trivial⟩ ?_
  refine .seq (fun K1 hK1 => ?_)
  refine .region ?_
  refine .m rfl rfl rfl (.assign rfl) ?_
  refine .nil ?_
  refine hK1 _ _ ?_
  refine .seq (fun K2 hK2 => ?_)
  refine .seq (fun K3 hK3 => ?_)
  refine .region ?_
  refine .m rfl rfl rfl (.assign rfl) ?_
  refine .nil ?_
  refine hK3 _ _ ?_
  refine .block ?_
  refine .loopR (σ := Nat × Int) [(0, some _)] (fun (i, q) => [(5, some (.int .i64 (i : Int))), (1, some (.int .i64 q))]) (fun (i, q) H' => H = H' ∧ i ≤ n ∧ q = k + i) (fun (i, q) => n - i) ((0, k)) ⟨rfl, trivial⟩ ⟨rfl, rfl, trivial⟩ ?_ ?_
  ·
   refine ⟨rfl, ?_⟩
   exact ⟨by omega, by omega⟩
  ·
   rintro ⟨i, q⟩ _ ⟨rfl, hI⟩ KL1 hKL1
   refine .forget (fr' := [(5, some (.int .i64 (i : Int))), (1, some (.int .i64 q)), (0, some _)]) ⟨rfl, rfl, rfl, trivial⟩ ?_
   obtain ⟨hi, hq⟩ := hI
   refine .seq (fun K4 hK4 => ?_)
   refine .seq (fun K5 hK5 => ?_)
   refine .region ?_
   refine .m rfl rfl rfl (.move rfl) ?_
   refine .m rfl rfl rfl (.move rfl) ?_
   refine .m rfl rfl rfl (.len sl_22_A rfl) ?_
   refine .m rfl rfl rfl (.cmp rfl rfl rfl) ?_
   refine .nil ?_
   refine hK5 _ _ ?_
   refine .cond rfl (fun h9 => ?_) (fun h9 => ?_)
   ·
    try simp only [sps] at h9
    refine .skip ?_
    refine hK4 _ _ ?_
    refine .seq (fun K6 hK6 => ?_)
    refine .block ?_
    refine .seq (fun K7 hK7 => ?_)
    refine .seq (fun K8 hK8 => ?_)
    refine .region ?_
    refine .m rfl rfl rfl (.move rfl) ?_
    refine .m rfl rfl rfl (.move rfl) ?_
    refine .m rfl rfl rfl (.idxN sl_22_A hsl rfl rfl (by omega)) ?_
    refine .m rfl rfl rfl (.loadE on_2_A hsl rfl (by omega)) ?_
    refine .m rfl rfl rfl (.move rfl) ?_
    refine .m rfl rfl rfl (.cmp rfl rfl rfl) ?_
    refine .nil ?_
    refine hK8 _ _ ?_
    refine .cond rfl (fun h17 => ?_) (fun h17 => ?_)
    ·
     simp only [sps] at h17
     rw [seqL_get (by omega)] at h17
     refine .seq (fun K9 hK9 => ?_)
     refine .region ?_
     refine .m rfl rfl rfl (.assign rfl) ?_
     refine .nil ?_
     refine hK9 _ _ ?_
     refine .ret ?_
     -- leaf e1
     refine hret _ _ ?_
     refine ⟨_, rfl, ?_⟩
     exact absurd hq.symm (by omega)
    ·
     try simp only [sps] at h17
     refine .skip ?_
     refine hK7 _ _ ?_
     refine .region ?_
     refine .m rfl rfl rfl (.move rfl) ?_
     refine .m rfl rfl rfl (.add rfl rfl rfl (by omega) (by omega)) ?_
     refine .m rfl rfl rfl (.assign rfl) ?_
     refine .nil ?_
     refine hK6 _ _ ?_
     refine .region ?_
     refine .m rfl rfl rfl (.move rfl) ?_
     refine .m rfl rfl rfl (.add rfl rfl rfl (by omega) (by omega)) ?_
     refine .m rfl rfl rfl (.assign rfl) ?_
     refine .nil ?_
     refine hKL1 ((i + 1, q + 1)) _ _ ?_ ?_ ⟨rfl, rfl, rfl, trivial⟩
     ·
      refine ⟨rfl, ?_⟩
      exact ⟨by omega, by omega⟩
     ·
      (dsimp only; omega)
   ·
    try simp only [sps] at h9
    refine .exit ?_
    refine hK2 _ _ ?_
    refine .seq (fun K10 hK10 => ?_)
    refine .region ?_
    refine .m rfl rfl rfl (.move rfl) ?_
    refine .m rfl rfl rfl (.assign rfl) ?_
    refine .nil ?_
    refine hK10 _ _ ?_
    refine .ret ?_
    -- leaf e2
    refine hret _ _ ?_
    refine ⟨_, rfl, ?_⟩
    obtain rfl : i = n := by omega
    exact .of (by rw [hq])
theorem markInt64SS_c {a : Option Addr} {xss : List (List Int)} {r : Nat → Option Addr} {lo hi : Nat} {k : Int} {H : GHeap} (h : IntssW lo hi H a xss r := by assumption) (hk : 0 ≤ k := by omega) (hk' : k + sumL xss ≤ 9223372036854775000 := by omega) (hl : xss.length ≤ 1048576 := by omega) :
    GCalls Try.prog 37 [.slice a xss.length xss.length, .int .i64 k] H (fun v H' => v = .int .i64 (k + sumL xss) ∧ Marked lo hi H H' (rowsL r xss xss.length) k) := by
  refine GCalls.body (N := 19) (rs := [.tmp 4]) Try.func37 rfl rfl rfl rfl (fun Qx hret hend => ?_)
  refine .forget (fr' := [(0, some _), (1, some _)]) ⟨rfl, rfl, trivial⟩ ?_
  refine .seq (fun K1 hK1 => ?_)
  refine .region ?_
  refine .m rfl rfl rfl (.assign rfl) ?_
  refine .nil ?_
  refine hK1 _ _ ?_
  refine .seq (fun K2 hK2 => ?_)
  refine .seq (fun K3 hK3 => ?_)
  refine .region ?_
  refine .m rfl rfl rfl (.assign rfl) ?_
  refine .nil ?_
  refine hK3 _ _ ?_
  refine .block ?_
  refine .loopR (σ := Nat × Int) [(0, some _)] (fun (i, q) => [(5, some (.int .i64 (i : Int))), (1, some (.int .i64 q))]) (fun (i, q) H' => i ≤ xss.length ∧ q = k + sumL (xss.take i) ∧ Marked lo hi H H' (rowsL r xss i) k) (fun (i, q) => xss.length - i) ((0, k)) ⟨rfl, trivial⟩ ⟨rfl, rfl, trivial⟩ ?_ ?_
  ·
   exact ⟨by omega, by simp [sumL], .nil _ _ _ _⟩
  ·
   rintro ⟨i, q⟩ H' hI KL1 hKL1
   refine .forget (fr' := [(5, some (.int .i64 (i : Int))), (1, some (.int .i64 q)), (0, some _)]) ⟨rfl, rfl, rfl, trivial⟩ ?_
   obtain ⟨hi', hq, hm⟩ := hI
   have hw := h.stm hm.stm
   have hsl := hw.1
   have hle1 := sumL_take_le (xss := xss) (k := i + 1)
   refine .seq (fun K4 hK4 => ?_)
   refine .seq (fun K5 hK5 => ?_)
   refine .region ?_
   refine .m rfl rfl rfl (.move rfl) ?_
   refine .m rfl rfl rfl (.move rfl) ?_
   refine .m rfl rfl rfl (.len sl_23_B rfl) ?_
   refine .m rfl rfl rfl (.cmp rfl rfl rfl) ?_
   refine .nil ?_
   refine hK5 _ _ ?_
   refine .cond rfl (fun h9 => ?_) (fun h9 => ?_)
   ·
    simp only [sps] at h9
    have hts := sumL_take_succ (xss := xss) (k := i) (by omega)
    refine .skip ?_
    refine hK4 _ _ ?_
    refine .seq (fun K6 hK6 => ?_)
    refine .block ?_
    refine .region ?_
    refine .m rfl rfl rfl (.move rfl) ?_
    refine .m rfl rfl rfl (.move rfl) ?_
    refine .m rfl rfl rfl (.idxN sl_23_B hsl rfl rfl (by omega)) ?_
    refine .m rfl rfl rfl (.loadE on_22_B hsl rfl (by omega)) ?_
    refine .m rfl rfl rfl (.move rfl) ?_
    refine .call rfl rfl rfl rfl @Try.call15 rfl (markInt64S_c (hw.2.1 i (by omega)) (by omega) (by omega)) ?_
    rintro _ H17 ⟨rfl, mk17⟩
    refine .m rfl rfl rfl (.assign rfl) ?_
    refine .nil ?_
    refine hK6 _ _ ?_
    refine .region ?_
    refine .m rfl rfl rfl (.move rfl) ?_
    refine .m rfl rfl rfl (.add rfl rfl rfl (by omega) (by omega)) ?_
    refine .m rfl rfl rfl (.assign rfl) ?_
    refine .nil ?_
    refine hKL1 ((i + 1, _)) _ _ ?_ ?_ ⟨rfl, rfl, rfl, trivial⟩
    ·
     exact ⟨by omega, by rw [sumL_take_succ (by omega)]; omega, by rw [rowsL_succ]; exact hm.app' mk17 (by rw [lvSum_rowsL _ _ _ (by omega)]; omega)⟩
    ·
     (dsimp only; omega)
   ·
    try simp only [sps] at h9
    refine .exit ?_
    refine hK2 _ _ ?_
    refine .seq (fun K7 hK7 => ?_)
    refine .region ?_
    refine .m rfl rfl rfl (.move rfl) ?_
    refine .m rfl rfl rfl (.assign rfl) ?_
    refine .nil ?_
    refine hK7 _ _ ?_
    refine .ret ?_
    -- leaf e1
    refine hret _ _ ?_
    refine ⟨_, rfl, ?_⟩
    obtain rfl : i = xss.length := by omega
    rw [List.take_length] at hq
    exact ⟨by rw [hq], hm⟩
theorem heldRow {b : Nat} {H : GHeap} {r : Nat → Option Addr} {xss : List (List Int)} {k : Int} : ∀ {n : Nat}, n ≤ xss.length → Held b H (rowsL r xss n) k → ∀ i, i < n → Held b H [(r i, (xss.getD i []).length)] (k + sumL (xss.take i))
  | 0, _, _, i, hi => by omega
  | n + 1, hn, h, i, hi => by
    rw [rowsL_succ] at h
    obtain ⟨h1, h2⟩ := h.app
    rw [lvSum_rowsL _ _ _ (by omega)] at h2
    by_cases e : i = n
    · subst e; exact h2
    · exact heldRow (by omega) h1 i (by omega)
theorem heldInt64SS_c {a : Option Addr} {xss : List (List Int)} {r : Nat → Option Addr} {b : Nat} {k : Int} {H : GHeap} (hsl : SlA H a xss.length (fun i => .slice (r i) (xss.getD i []).length (xss.getD i []).length) := by assumption) (h : Held b H (rowsL r xss xss.length) k := by assumption) (hk : 0 ≤ k := by omega) (hk' : k + sumL xss ≤ 9223372036854775000 := by omega) (hl : xss.length ≤ 1048576 := by omega) :
    GCalls Try.prog 38 [.slice a xss.length xss.length, .int .i64 k] H (Ret (.int .i64 (k + sumL xss)) H) := by
  refine GCalls.body (N := 21) (rs := [.tmp 4]) Try.func38 rfl rfl rfl rfl (fun Qx hret hend => ?_)
  refine .forget (fr' := [(0, some _), (1, some _)]) ⟨rfl, rfl, trivial⟩ ?_
  refine .seq (fun K1 hK1 => ?_)
  refine .region ?_
  refine .m rfl rfl rfl (.assign rfl) ?_
  refine .nil ?_
  refine hK1 _ _ ?_
  refine .seq (fun K2 hK2 => ?_)
  refine .seq (fun K3 hK3 => ?_)
  refine .region ?_
  refine .m rfl rfl rfl (.assign rfl) ?_
  refine .nil ?_
  refine hK3 _ _ ?_
  refine .block ?_
  refine .loopR (σ := Nat × Int) [(0, some _)] (fun (i, q) => [(5, some (.int .i64 (i : Int))), (1, some (.int .i64 q))]) (fun (i, q) H' => H = H' ∧ i ≤ xss.length ∧ q = k + sumL (xss.take i)) (fun (i, q) => xss.length - i) ((0, k)) ⟨rfl, trivial⟩ ⟨rfl, rfl, trivial⟩ ?_ ?_
  ·
   refine ⟨rfl, ?_⟩
   exact ⟨by omega, by simp [sumL]⟩
  ·
   rintro ⟨i, q⟩ _ ⟨rfl, hI⟩ KL1 hKL1
   refine .forget (fr' := [(5, some (.int .i64 (i : Int))), (1, some (.int .i64 q)), (0, some _)]) ⟨rfl, rfl, rfl, trivial⟩ ?_
   obtain ⟨hi', hq⟩ := hI
   have hle1 := sumL_take_le (xss := xss) (k := i + 1)
   refine .seq (fun K4 hK4 => ?_)
   refine .seq (fun K5 hK5 => ?_)
   refine .region ?_
   refine .m rfl rfl rfl (.move rfl) ?_
   refine .m rfl rfl rfl (.move rfl) ?_
   refine .m rfl rfl rfl (.len sl_23_B rfl) ?_
   refine .m rfl rfl rfl (.cmp rfl rfl rfl) ?_
   refine .nil ?_
   refine hK5 _ _ ?_
   refine .cond rfl (fun h9 => ?_) (fun h9 => ?_)
   ·
    simp only [sps] at h9
    have hts := sumL_take_succ (xss := xss) (k := i) (by omega)
    have hr := heldRow (Nat.le_refl _) h i (by omega)
    rw [← hq] at hr
    refine .skip ?_
    refine hK4 _ _ ?_
    refine .seq (fun K6 hK6 => ?_)
    refine .block ?_
    refine .seq (fun K7 hK7 => ?_)
    refine .region ?_
    refine .m rfl rfl rfl (.move rfl) ?_
    refine .m rfl rfl rfl (.move rfl) ?_
    refine .m rfl rfl rfl (.idxN sl_23_B hsl rfl rfl (by omega)) ?_
    refine .m rfl rfl rfl (.loadE on_22_B hsl rfl (by omega)) ?_
    refine .m rfl rfl rfl (.move rfl) ?_
    refine .callQ rfl rfl rfl rfl @Try.call23 rfl (heldInt64S_c) ?_
    refine .m rfl rfl rfl (.assign rfl) ?_
    refine .nil ?_
    refine hK7 _ _ ?_
    refine .seq (fun K8 hK8 => ?_)
    refine .region ?_
    refine .m rfl rfl rfl (.move rfl) ?_
    refine .m rfl rfl rfl (.cmp rfl rfl rfl) ?_
    refine .nil ?_
    refine hK8 _ _ ?_
    refine .cond rfl (fun h19 => ?_) (fun h19 => ?_)
    ·
     exact absurd h19 (by simp; omega)
    ·
     try simp only [sps] at h19
     refine .skip ?_
     refine hK6 _ _ ?_
     refine .region ?_
     refine .m rfl rfl rfl (.move rfl) ?_
     refine .m rfl rfl rfl (.add rfl rfl rfl (by omega) (by omega)) ?_
     refine .m rfl rfl rfl (.assign rfl) ?_
     refine .nil ?_
     refine hKL1 ((i + 1, _)) _ _ ?_ ?_ ⟨rfl, rfl, rfl, trivial⟩
     ·
      refine ⟨rfl, ?_⟩
      exact ⟨by omega, by rw [sumL_take_succ (by omega)]; omega⟩
     ·
      (dsimp only; omega)
   ·
    try simp only [sps] at h9
    refine .exit ?_
    refine hK2 _ _ ?_
    refine .seq (fun K9 hK9 => ?_)
    refine .region ?_
    refine .m rfl rfl rfl (.move rfl) ?_
    refine .m rfl rfl rfl (.assign rfl) ?_
    refine .nil ?_
    refine hK9 _ _ ?_
    refine .ret ?_
    -- leaf e1
    refine hret _ _ ?_
    refine ⟨_, rfl, ?_⟩
    obtain rfl : i = xss.length := by omega
    rw [List.take_length] at hq
    exact .of (by rw [hq])
theorem heldInt64SSw_c {a : Option Addr} {xss : List (List Int)} {r : Nat → Option Addr} {lo hi b : Nat} {k : Int} {H : GHeap} (w : IntssW lo hi H a xss r := by assumption) (h : Held b H (rowsL r xss xss.length) k := by assumption) (hk : 0 ≤ k := by omega) (hk' : k + sumL xss ≤ 9223372036854775000 := by omega) (hl : xss.length ≤ 1048576 := by omega) :
    GCalls Try.prog 38 [.slice a xss.length xss.length, .int .i64 k] H (Ret (.int .i64 (k + sumL xss)) H) := heldInt64SS_c w.1 h hk hk' hl
theorem markCategory_c {c : Cat} {p : CatP} {lo hi : Nat} {k : Int} {H : GHeap} (w : CatW lo hi H c p := by assumption) (hs : c.Small := by assumption) (hk : 0 ≤ k := by omega) (hk' : k + c.total ≤ 9223372036854775000 := by omega) (hhi : hi ≤ H.next := by omega) :
    GCalls Try.prog 14 [.agg (c.cells p).toArray, .int .i64 k] H (fun v H' => v = .int .i64 (k + c.total) ∧ Marked lo hi H H' (c.leaves p) k) := by
  obtain ⟨w1, w2, w3, w4⟩ := w
  have ht : c.total = c.src.length + (c.tgt.length + (c.idn.length + sumL c.comp)) := rfl
  obtain ⟨s1, s2, s3, s4, s5, s6⟩ := hs
  refine GCalls.body (N := 22) (rs := [.tmp 4]) Try.func14 rfl rfl rfl rfl (fun Qx hret hend => ?_)
  refine .forget (fr' := [(0, some _), (1, some _)]) ⟨rfl, rfl, trivial⟩ ?_
  refine .seq (fun K1 hK1 => ?_)
  refine .region ?_
  refine .r rfl rfl rfl (.boxR rfl sz_27_D rfl) ?_
  rintro _ H2 ⟨g2, rfl, le2, ge2, at2⟩
  have nx_H2 := le2.1
  have lt_at2 := GHeap.lt_of_get at2
  have mm2 : MemN _ _ _ _ _ := ⟨rfl, Mem.of_get at2⟩
  replace w1 := w1.stm (.of_le le2)
  replace w2 := w2.stm (.of_le le2)
  replace w3 := w3.stm (.of_le le2)
  replace w4 := w4.stm (.of_le le2)
  have hc : Mem _ g2 0 (c.cells p) := Mem.of_get at2
  refine .m rfl rfl rfl (.assign rfl) ?_
  refine .nil ?_
  refine hK1 _ _ ?_
  refine .seq (fun K2 hK2 => ?_)
  refine .region ?_
  have c1 : H2.cell g2 (0 + 1) = some (.slice p.a1 c.src.length c.src.length) := Mem.of_get at2 1 _ rfl
  refine .m rfl rfl rfl (.fieldAddr fo_27_1_B rfl) ?_
  refine .m rfl rfl rfl (.load on_22_B rfl (by first | assumption | exact Mem.of_get at2 1 _ rfl)) ?_
  refine .m rfl rfl rfl (.move rfl) ?_
  refine .call rfl rfl rfl rfl @Try.call15 rfl (markInt64S_c) ?_
  rintro _ H8 ⟨rfl, mk8⟩
  have sm8 := mk8.stm
  have nx_H8 := sm8.nx
  replace at2 := sm8.same _ _ (by omega) at2
  replace w1 := w1.stm sm8
  replace w2 := w2.stm sm8
  replace w3 := w3.stm sm8
  replace w4 := w4.stm sm8
  clear mm2
  have mm2 : MemN _ _ _ _ _ := ⟨rfl, Mem.of_get at2⟩
  refine .m rfl rfl rfl (.assign rfl) ?_
  refine .nil ?_
  refine hK2 _ _ ?_
  refine .seq (fun K3 hK3 => ?_)
  refine .region ?_
  have c2 : H8.cell g2 (0 + 2) = some (.slice p.a2 c.tgt.length c.tgt.length) := Mem.of_get at2 2 _ rfl
  refine .m rfl rfl rfl (.fieldAddr fo_27_2_B rfl) ?_
  refine .m rfl rfl rfl (.load on_22_B rfl (by first | assumption | exact Mem.of_get at2 2 _ rfl)) ?_
  refine .m rfl rfl rfl (.move rfl) ?_
  refine .call rfl rfl rfl rfl @Try.call15 rfl (markInt64S_c) ?_
  rintro _ H12 ⟨rfl, mk12⟩
  have sm12 := mk12.stm
  have nx_H12 := sm12.nx
  replace at2 := sm12.same _ _ (by omega) at2
  replace w1 := w1.stm sm12
  replace w2 := w2.stm sm12
  replace w3 := w3.stm sm12
  replace w4 := w4.stm sm12
  clear mm2
  have mm2 : MemN _ _ _ _ _ := ⟨rfl, Mem.of_get at2⟩
  refine .m rfl rfl rfl (.assign rfl) ?_
  refine .nil ?_
  refine hK3 _ _ ?_
  refine .seq (fun K4 hK4 => ?_)
  refine .region ?_
  have c3 : H12.cell g2 (0 + 3) = some (.slice p.a3 c.idn.length c.idn.length) := Mem.of_get at2 3 _ rfl
  refine .m rfl rfl rfl (.fieldAddr fo_27_3_B rfl) ?_
  refine .m rfl rfl rfl (.load on_22_B rfl (by first | assumption | exact Mem.of_get at2 3 _ rfl)) ?_
  refine .m rfl rfl rfl (.move rfl) ?_
  refine .call rfl rfl rfl rfl @Try.call15 rfl (markInt64S_c) ?_
  rintro _ H16 ⟨rfl, mk16⟩
  have sm16 := mk16.stm
  have nx_H16 := sm16.nx
  replace at2 := sm16.same _ _ (by omega) at2
  replace w1 := w1.stm sm16
  replace w2 := w2.stm sm16
  replace w3 := w3.stm sm16
  replace w4 := w4.stm sm16
  clear mm2
  have mm2 : MemN _ _ _ _ _ := ⟨rfl, Mem.of_get at2⟩
  refine .m rfl rfl rfl (.assign rfl) ?_
  refine .nil ?_
  refine hK4 _ _ ?_
  refine .seq (fun K5 hK5 => ?_)
  refine .region ?_
  have c4 : H16.cell g2 (0 + 4) = some (.slice p.a4 c.comp.length c.comp.length) := Mem.of_get at2 4 _ rfl
  refine .m rfl rfl rfl (.fieldAddr fo_27_4_B rfl) ?_
  refine .m rfl rfl rfl (.load on_23_B rfl (by first | assumption | exact Mem.of_get at2 4 _ rfl)) ?_
  refine .m rfl rfl rfl (.move rfl) ?_
  refine .call rfl rfl rfl rfl @Try.call37 rfl (markInt64SS_c) ?_
  rintro _ H20 ⟨rfl, mk20⟩
  have sm20 := mk20.stm
  have nx_H20 := sm20.nx
  replace at2 := sm20.same _ _ (by omega) at2
  replace w1 := w1.stm sm20
  replace w2 := w2.stm sm20
  replace w3 := w3.stm sm20
  replace w4 := w4.stm sm20
  clear mm2
  have mm2 : MemN _ _ _ _ _ := ⟨rfl, Mem.of_get at2⟩
  refine .m rfl rfl rfl (.assign rfl) ?_
  refine .nil ?_
  refine hK5 _ _ ?_
  refine .seq (fun K6 hK6 => ?_)
  refine .region ?_
  refine .m rfl rfl rfl (.move rfl) ?_
  refine .m rfl rfl rfl (.assign rfl) ?_
  refine .nil ?_
  refine hK6 _ _ ?_
  refine .ret ?_
  -- leaf e1
  refine hret _ _ ?_
  refine ⟨_, rfl, ?_⟩
  exact ⟨by rw [ht]; congr 1; omega, .le_left le2 (mk8.app' (mk12.app' (mk16.app' mk20 (by simp [lvSum])) (by simp [lvSum])) (by simp [lvSum]))⟩
theorem heldCategory_c {c : Cat} {p : CatP} {lo hi b : Nat} {k : Int} {H : GHeap} (w : CatW lo hi H c p := by assumption) (h : Held b H (c.leaves p) k := by assumption) (hs : c.Small := by assumption) (hk : 0 ≤ k := by omega) (hk' : k + c.total ≤ 9223372036854775000 := by omega) :
    GCalls Try.prog 16 [.agg (c.cells p).toArray, .int .i64 k] H (Ret (.int .i64 (k + c.total)) H) := by
  refine GCalls.ret rfl ?_
  have ht : c.total = c.src.length + (c.tgt.length + (c.idn.length + sumL c.comp)) := rfl
  obtain ⟨s1, s2, s3, s4, s5, s6⟩ := hs
  obtain ⟨v1, h⟩ := h.app
  obtain ⟨v2, h⟩ := h.app
  obtain ⟨v3, v4⟩ := h.app
  simp only [lvSum, Nat.add_zero] at v2 v3 v4
  refine GCalls.body (N := 30) (rs := [.tmp 4]) Try.func16 rfl rfl rfl rfl (fun Qx hret hend => ?_)
  refine .forget (fr' := [(0, some _), (1, some _)]) ⟨rfl, rfl, trivial⟩ ?_
  have hle := GHeap.Le.refl H
  refine .seq (fun K1 hK1 => ?_)
  refine .region ?_
  refine .r rfl rfl rfl (.boxR rfl sz_27_D rfl) ?_
  rintro _ H2 ⟨g2, rfl, le2, ge2, at2⟩
  have nx_H2 := le2.1
  replace hle := hle.trans le2
  have lt_at2 := GHeap.lt_of_get at2
  have mm2 : MemN _ _ _ _ _ := ⟨rfl, Mem.of_get at2⟩
  refine .m rfl rfl rfl (.assign rfl) ?_
  refine .nil ?_
  refine hK1 _ _ ?_
  refine .seq (fun K2 hK2 => ?_)
  refine .region ?_
  replace v1 := v1.keep (.of_le le2) (Nat.zero_le _)
  replace v2 := v2.keep (.of_le le2) (Nat.zero_le _)
  replace v3 := v3.keep (.of_le le2) (Nat.zero_le _)
  replace v4 := v4.keep (.of_le le2) (Nat.zero_le _)
  have hsl := w.2.2.2.1.mono le2
  have c1 : H2.cell g2 (0 + 1) = some (.slice p.a1 c.src.length c.src.length) := Mem.of_get at2 1 _ rfl
  have c2 : H2.cell g2 (0 + 2) = some (.slice p.a2 c.tgt.length c.tgt.length) := Mem.of_get at2 2 _ rfl
  have c3 : H2.cell g2 (0 + 3) = some (.slice p.a3 c.idn.length c.idn.length) := Mem.of_get at2 3 _ rfl
  have c4 : H2.cell g2 (0 + 4) = some (.slice p.a4 c.comp.length c.comp.length) := Mem.of_get at2 4 _ rfl
  refine .m rfl rfl rfl (.fieldAddr fo_27_1_B rfl) ?_
  refine .m rfl rfl rfl (.load on_22_B rfl (by first | assumption | exact Mem.of_get at2 1 _ rfl)) ?_
  refine .m rfl rfl rfl (.move rfl) ?_
  refine .callQ rfl rfl rfl rfl @Try.call23 rfl (heldInt64S_c) ?_
  refine .m rfl rfl rfl (.assign rfl) ?_
  refine .nil ?_
  refine hK2 _ _ ?_
  refine .seq (fun K3 hK3 => ?_)
  refine .seq (fun K4 hK4 => ?_)
  refine .region ?_
  refine .m rfl rfl rfl (.move rfl) ?_
  refine .m rfl rfl rfl (.cmp rfl rfl rfl) ?_
  refine .nil ?_
  refine hK4 _ _ ?_
  refine .cond rfl (fun h10 => ?_) (fun h10 => ?_)
  ·
   exact absurd h10 (by simp; omega)
  ·
   try simp only [sps] at h10
   refine .skip ?_
   refine hK3 _ _ ?_
   refine .seq (fun K5 hK5 => ?_)
   refine .region ?_
   refine .m rfl rfl rfl (.fieldAddr fo_27_2_B rfl) ?_
   refine .m rfl rfl rfl (.load on_22_B rfl (by first | assumption | exact Mem.of_get at2 2 _ rfl)) ?_
   refine .m rfl rfl rfl (.move rfl) ?_
   refine .callQ rfl rfl rfl rfl @Try.call23 rfl (heldInt64S_c) ?_
   refine .m rfl rfl rfl (.assign rfl) ?_
   refine .nil ?_
   refine hK5 _ _ ?_
   refine .seq (fun K6 hK6 => ?_)
   refine .seq (fun K7 hK7 => ?_)
   refine .region ?_
   refine .m rfl rfl rfl (.move rfl) ?_
   refine .m rfl rfl rfl (.cmp rfl rfl rfl) ?_
   refine .nil ?_
   refine hK7 _ _ ?_
   refine .cond rfl (fun h16 => ?_) (fun h16 => ?_)
   ·
    exact absurd h16 (by simp; omega)
   ·
    try simp only [sps] at h16
    refine .skip ?_
    refine hK6 _ _ ?_
    refine .seq (fun K8 hK8 => ?_)
    refine .region ?_
    refine .m rfl rfl rfl (.fieldAddr fo_27_3_B rfl) ?_
    refine .m rfl rfl rfl (.load on_22_B rfl (by first | assumption | exact Mem.of_get at2 3 _ rfl)) ?_
    refine .m rfl rfl rfl (.move rfl) ?_
    refine .callQ rfl rfl rfl rfl @Try.call23 rfl (heldInt64S_c) ?_
    refine .m rfl rfl rfl (.assign rfl) ?_
    refine .nil ?_
    refine hK8 _ _ ?_
    refine .seq (fun K9 hK9 => ?_)
    refine .seq (fun K10 hK10 => ?_)
    refine .region ?_
    refine .m rfl rfl rfl (.move rfl) ?_
    refine .m rfl rfl rfl (.cmp rfl rfl rfl) ?_
    refine .nil ?_
    refine hK10 _ _ ?_
    refine .cond rfl (fun h22 => ?_) (fun h22 => ?_)
    ·
     exact absurd h22 (by simp; omega)
    ·
     try simp only [sps] at h22
     refine .skip ?_
     refine hK9 _ _ ?_
     refine .seq (fun K11 hK11 => ?_)
     refine .region ?_
     refine .m rfl rfl rfl (.fieldAddr fo_27_4_B rfl) ?_
     refine .m rfl rfl rfl (.load on_23_B rfl (by first | assumption | exact Mem.of_get at2 4 _ rfl)) ?_
     refine .m rfl rfl rfl (.move rfl) ?_
     refine .callQ rfl rfl rfl rfl @Try.call38 rfl (heldInt64SS_c) ?_
     refine .m rfl rfl rfl (.assign rfl) ?_
     refine .nil ?_
     refine hK11 _ _ ?_
     refine .seq (fun K12 hK12 => ?_)
     refine .seq (fun K13 hK13 => ?_)
     refine .region ?_
     refine .m rfl rfl rfl (.move rfl) ?_
     refine .m rfl rfl rfl (.cmp rfl rfl rfl) ?_
     refine .nil ?_
     refine hK13 _ _ ?_
     refine .cond rfl (fun h28 => ?_) (fun h28 => ?_)
     ·
      exact absurd h28 (by simp; omega)
     ·
      try simp only [sps] at h28
      refine .skip ?_
      refine hK12 _ _ ?_
      refine .seq (fun K14 hK14 => ?_)
      refine .region ?_
      refine .m rfl rfl rfl (.move rfl) ?_
      refine .m rfl rfl rfl (.assign rfl) ?_
      refine .nil ?_
      refine hK14 _ _ ?_
      refine .ret ?_
      -- leaf e1
      refine hret _ _ ?_
      refine ⟨_, rfl, ?_⟩
      exact ⟨by rw [ht]; congr 1; omega, hle⟩
end Go.Proofs.Ytfejmmaeigbfkaa
