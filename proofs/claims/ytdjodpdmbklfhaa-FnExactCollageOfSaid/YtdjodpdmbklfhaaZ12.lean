/- The collage: the program's. No condition but those of each statement. -/
import Derived.Test.YtdjodpdmbklfhaaZ11
namespace Go.Proofs.Ytdjodpdmbklfhaa
open Go Go.GL Go.RowKit Go.Proofs
theorem sz_77_Ck : (Try.prog.info? 77).map (·.size) = some 1 := by kernel_rfl
set_option maxHeartbeats 16000000 in
theorem implCollageOf_c {m : Prof} {p : ProfP} {H : GHeap} (hin : m.In H p := by assumption) (hs : m.Small := by assumption) :
    GCalls Try.prog 12 [.agg (m.cells p).toArray] H (fun v H' => H.Le H' ∧ ∃ q, v = .tuple #[.agg (m.colRes.cells q).toArray, .int .i64 m.colC] ∧ CatR H.next H' m.colRes q) := by
  refine GCalls.body (N := 129) (rs := [.cell 2 30, .tmp 3]) Try.func12 rfl rfl rfl rfl (fun Qx hret hend => ?_)
  refine .forget (fr' := [(0, some _)]) ⟨rfl, trivial⟩ ?_
  have hle := GHeap.Le.refl H
  have base_hin := hin
  refine .seq (fun K1 hK1 => .region ?_)
  refine .r rfl rfl rfl (.boxR rfl sz_34_VProf rfl) ?_
  rintro _ H1 ⟨g1, rfl, le1, ge1, at1⟩
  have nx_H1 := le1.1
  replace hle := hle.trans le1
  have lt_at1 := GHeap.ltg at1
  replace hin := base_hin.mono hle
  have hb1 : Prof.At _ g1 0 m p := ⟨Mem.of_get at1, hin⟩
  obtain ⟨fs1, ft1, c101, c111, c121, i21, i31, i41⟩ := hb1.get
  refine .r rfl rfl rfl (.allocR rfl ze_30_E rfl) ?_
  rintro _ H2 ⟨g2, rfl, le2, ge2, at2⟩
  have nx_H2 := le2.1
  replace hle := hle.trans le2
  replace at1 := le2.2 _ _ at1
  have lt_at2 := GHeap.ltg at2
  replace hin := base_hin.mono hle
  clear hb1 fs1 ft1 c101 c111 c121 i21 i31 i41
  have hb1 : Prof.At _ g1 0 m p := ⟨Mem.of_get at1, hin⟩
  obtain ⟨fs1, ft1, c101, c111, c121, i21, i31, i41⟩ := hb1.get
  obtain ⟨y0, y1, y2, y3, y4, j1, j2, j3, j4⟩ := fs1.get
  obtain ⟨z0, z1, z2, z3, z4, l1, l2, l3, l4⟩ := ft1.get
  refine .mv rfl (.nil (hK1 _ _ (.seq (fun K2 hK2 => .seq (fun K3 hK3 => .region ?_)))))
  refine .callQ rfl rfl rfl rfl @Try.call48 rfl (isProfunctor_c) ?_
  refine .m rfl rfl rfl (.not rfl) (.nil (hK3 _ _ ?_))
  refine .cond rfl (fun h17 => ?_) (fun h17 => ?_)
  ·
   simp only [sps] at h17
   refine .seq (fun K4 hK4 => .region (.m rfl rfl rfl (.build bt_30_Hj rfl rfl rfl) ?_))
   refine .r0 rfl rfl (.fillR rfl sz_30_D rfl rfl rfl rfl (by assumption) (by first | rfl | exact Nat.le_of_ble_eq_true rfl | simp)) ?_
   rintro _ H2001 ⟨rfl, st2001, at2001⟩
   have nx_H2001 := st2001.nx
   replace hle := hle.st st2001 (fun k hk => ⟨by omega, trivial⟩)
   have ne_g1_g2 : g1 ≠ g2 := by first | assumption | omega
   replace at1 := st2001.same _ _ ⟨ne_g1_g2, trivial⟩ at1
   have lt_at2001 := GHeap.ltg at2001
   replace hin := base_hin.mono hle
   clear hb1 fs1 ft1 c101 c111 c121 i21 i31 i41
   have hb1 : Prof.At _ g1 0 m p := ⟨Mem.of_get at1, hin⟩
   obtain ⟨fs1, ft1, c101, c111, c121, i21, i31, i41⟩ := hb1.get
   clear y0 y1 y2 y3 y4 j1 j2 j3 j4 z0 z1 z2 z3 z4 l1 l2 l3 l4
   obtain ⟨y0, y1, y2, y3, y4, j1, j2, j3, j4⟩ := fs1.get
   obtain ⟨z0, z1, z2, z3, z4, l1, l2, l3, l4⟩ := ft1.get
   refine .mv rfl (.nil (hK4 _ _ ?_))
   refine .ret ?_
   refine hret _ _ ?_
   refine ⟨_, _, _, _, _, rfl, ag_30_D, (by rfl), (Mem.of_get at2001), rfl, ?_⟩
   obtain ⟨e1, e2⟩ := Prof.col_nis h17
   rw [e1, e2]
   exact ⟨hle, .zero, rfl, CatR.zero _ _⟩
  simp only [sps] at h17
  have hS := h17.1
  have hC := hS.cok
  have b1 := hC.s0
  have b2 := hC.s8
  have b3 := hC.t0
  have b4 := hC.t8
  have b5 := hS.s.1.n40
  have b6 := hS.t.1.n40
  have b7 := hC.all
  have b8 := hC.z.sl
  have b9 : m.colN = m.s.src.length + m.t.src.length := rfl
  have b11 := m.length_colS
  have b12 := hS.length_colT
  have b13 := hS.s.1.tl
  have b14 := hS.t.1.tl
  have b15 := hS.s.1.il
  have b16 := hS.t.1.il
  have q1 : ∀ i, i < m.t.src.length → -1000000 ≤ m.t.src.getD i 0 + m.s.obj ∧ m.t.src.getD i 0 + m.s.obj ≤ 1000000 := fun i hi => by have := hS.t.1.src i hi; omega
  have q2 : ∀ i, i < m.t.tgt.length → -1000000 ≤ m.t.tgt.getD i 0 + m.s.obj ∧ m.t.tgt.getD i 0 + m.s.obj ≤ 1000000 := fun i hi => by have := hS.t.1.tgt i hi; omega
  have q3 : ∀ i, i < m.t.idn.length → -1000000 ≤ m.t.idn.getD i 0 + (m.s.src.length : Int) ∧ m.t.idn.getD i 0 + (m.s.src.length : Int) ≤ 1000000 := fun i hi => by have := hS.t.1.idn i hi; omega
  have c1 : (m.t.src.map (· + m.s.obj)).length = m.t.src.length := List.length_map _
  have c2 : (m.t.tgt.map (· + m.s.obj)).length = m.t.tgt.length := List.length_map _
  have c3 : (m.t.idn.map (· + (m.s.src.length : Int))).length = m.t.idn.length := List.length_map _
  refine .skip ?_
  refine hK2 _ _ (.seq (fun K5 hK5 => .region (.m rfl rfl rfl (.fieldAddr fo_34_0_VProf rfl) (.m rfl rfl rfl (.fieldAddr fo_34_1_VProf rfl) ?_))))
  refine .r rfl rfl rfl (.allocR rfl ze_77_O rfl) ?_
  rintro _ H4 ⟨g4, rfl, le4, ge4, at4⟩
  have nx_H4 := le4.1
  replace hle := hle.trans le4
  replace at1 := le4.2 _ _ at1
  replace at2 := le4.2 _ _ at2
  have lt_at4 := GHeap.ltg at4
  replace hin := base_hin.mono hle
  clear hb1 fs1 ft1 c101 c111 c121 i21 i31 i41
  have hb1 : Prof.At _ g1 0 m p := ⟨Mem.of_get at1, hin⟩
  obtain ⟨fs1, ft1, c101, c111, c121, i21, i31, i41⟩ := hb1.get
  clear y0 y1 y2 y3 y4 j1 j2 j3 j4 z0 z1 z2 z3 z4 l1 l2 l3 l4
  obtain ⟨y0, y1, y2, y3, y4, j1, j2, j3, j4⟩ := fs1.get
  obtain ⟨z0, z1, z2, z3, z4, l1, l2, l3, l4⟩ := ft1.get
  refine .r rfl rfl rfl (.allocR rfl ze_77_O rfl) ?_
  rintro _ H5 ⟨g5, rfl, le5, ge5, at5⟩
  have nx_H5 := le5.1
  replace hle := hle.trans le5
  replace at1 := le5.2 _ _ at1
  replace at2 := le5.2 _ _ at2
  replace at4 := le5.2 _ _ at4
  have lt_at5 := GHeap.ltg at5
  replace hin := base_hin.mono hle
  clear hb1 fs1 ft1 c101 c111 c121 i21 i31 i41
  have hb1 : Prof.At _ g1 0 m p := ⟨Mem.of_get at1, hin⟩
  obtain ⟨fs1, ft1, c101, c111, c121, i21, i31, i41⟩ := hb1.get
  clear y0 y1 y2 y3 y4 j1 j2 j3 j4 z0 z1 z2 z3 z4 l1 l2 l3 l4
  obtain ⟨y0, y1, y2, y3, y4, j1, j2, j3, j4⟩ := fs1.get
  obtain ⟨z0, z1, z2, z3, z4, l1, l2, l3, l4⟩ := ft1.get
  refine .r0 rfl rfl (.storeR rfl sz_77_Ck rfl rfl rfl (by assumption) (by first | exact Nat.le_of_ble_eq_true rfl | (simp; done) | (simp <;> omega))) ?_
  rintro _ H3004 ⟨rfl, st3004, at3004⟩
  have nx_H3004 := st3004.nx
  replace hle := hle.st st3004 (fun k hk => ⟨by omega, trivial⟩)
  replace at1 := st3004.same _ _ ⟨(by first | assumption | omega), trivial⟩ at1
  have ne_g2_g4 : g2 ≠ g4 := by first | assumption | omega
  replace at2 := st3004.same _ _ ⟨ne_g2_g4, trivial⟩ at2
  have ne_g5_g4 : g5 ≠ g4 := by first | assumption | omega
  replace at5 := st3004.same _ _ ⟨ne_g5_g4, trivial⟩ at5
  have lt_at3004 := GHeap.ltg at3004
  replace hin := base_hin.mono hle
  clear hb1 fs1 ft1 c101 c111 c121 i21 i31 i41
  have hb1 : Prof.At _ g1 0 m p := ⟨Mem.of_get at1, hin⟩
  obtain ⟨fs1, ft1, c101, c111, c121, i21, i31, i41⟩ := hb1.get
  clear y0 y1 y2 y3 y4 j1 j2 j3 j4 z0 z1 z2 z3 z4 l1 l2 l3 l4
  obtain ⟨y0, y1, y2, y3, y4, j1, j2, j3, j4⟩ := fs1.get
  obtain ⟨z0, z1, z2, z3, z4, l1, l2, l3, l4⟩ := ft1.get
  try simp only [Nat.zero_add, List.set_cons_succ, List.set_cons_zero] at at3004
  refine .r0 rfl rfl (.storeR rfl sz_77_Ck rfl rfl rfl (by assumption) (by first | exact Nat.le_of_ble_eq_true rfl | (simp; done) | (simp <;> omega))) ?_
  rintro _ H3005 ⟨rfl, st3005, at3005⟩
  have nx_H3005 := st3005.nx
  replace hle := hle.st st3005 (fun k hk => ⟨by omega, trivial⟩)
  replace at1 := st3005.same _ _ ⟨(by first | assumption | omega), trivial⟩ at1
  have ne_g2_g5 : g2 ≠ g5 := by first | assumption | omega
  replace at2 := st3005.same _ _ ⟨ne_g2_g5, trivial⟩ at2
  replace at3004 := st3005.same _ _ ⟨(Ne.symm ne_g5_g4), trivial⟩ at3004
  have lt_at3005 := GHeap.ltg at3005
  replace hin := base_hin.mono hle
  clear hb1 fs1 ft1 c101 c111 c121 i21 i31 i41
  have hb1 : Prof.At _ g1 0 m p := ⟨Mem.of_get at1, hin⟩
  obtain ⟨fs1, ft1, c101, c111, c121, i21, i31, i41⟩ := hb1.get
  clear y0 y1 y2 y3 y4 j1 j2 j3 j4 z0 z1 z2 z3 z4 l1 l2 l3 l4
  obtain ⟨y0, y1, y2, y3, y4, j1, j2, j3, j4⟩ := fs1.get
  obtain ⟨z0, z1, z2, z3, z4, l1, l2, l3, l4⟩ := ft1.get
  try simp only [Nat.zero_add, List.set_cons_succ, List.set_cons_zero] at at3005
  refine .nil (hK5 _ _ (.seq (fun K6 hK6 => ?_)))
  refine .regionD mo_B (.q 0 (.q 1 (.q 2 (.q 3 (.q 4 (.or (.c 5 1 (.or (.c 6 1 (.c 7 1 (.c 8 1 (.c 9 1 (.done))))) (.c 7 1 (.c 6 1 (.c 8 1 (.c 9 1 (.done))))))) (.or (.c 6 1 (.or (.c 5 1 (.c 7 1 (.c 8 1 (.c 9 1 (.done))))) (.c 7 1 (.c 5 1 (.c 8 1 (.c 9 1 (.done))))))) (.c 7 1 (.or (.c 5 1 (.c 6 1 (.c 8 1 (.c 9 1 (.done))))) (.c 6 1 (.c 5 1 (.c 8 1 (.c 9 1 (.done)))))))))))))) (by kernel_rfl) ?_
  refine .cut [(0, some _), (1, some _), (2, some _), (3, some _), (4, some _), (5, some _), (16, some _), (17, some _), (19, some _), (20, some _)] ⟨rfl, rfl, rfl, rfl, rfl, rfl, rfl, rfl, rfl, rfl, trivial⟩ (fun rest fr' H' => ∃ g6 g7, Sub ((6, some (.pointer (some ⟨g6, 0, none⟩))) :: (7, some (.pointer (some ⟨g7, 0, none⟩))) :: rest) fr' ∧ H3005.Le H' ∧ H3005.next ≤ g6 ∧ H3005.next ≤ g7 ∧ H'.get g6 = some (.row ([.int .i64 m.s.obj]) 2 true) ∧ H'.get g7 = some (.row ([.int .i64 (m.s.src.length:Int)]) 2 true) ∧ g6 ≠ g7) ?_ ?_
  ·
   have hf0 := GHeap.Le.refl H3005
   refine .m rfl rfl rfl rfl (.refl _) (.load on_77_F rfl (by first | assumption | exact Mem.of_get at3004 0 _ rfl)) ?_
   refine .mB rfl rfl rfl rfl (.refl _) (.nilCheck rfl) ?_
   refine .mB rfl rfl rfl rfl (.refl _) (.fieldAddr fo_30_0_B rfl) ?_
   refine .m rfl rfl rfl rfl (.refl _) (.load on_2_A rfl (by assumption)) ?_
   refine .m rfl rfl rfl rfl (.refl _) (.load on_77_F rfl (by first | assumption | exact Mem.of_get at3004 0 _ rfl)) ?_
   refine .orI ?_ ?_
   ·
    refine .callQ1 rfl rfl rfl rfl rfl @Try.call49 rfl (arrows_c) (.refl _) ?_
    refine .orI ?_ ?_
    ·
     refine .c1 rfl rfl rfl rfl (.allocR rfl ze_2_E rfl) ?_
     rintro _ H6x2 ⟨g6x2, rfl, le6x2, ge6x2, at6x2⟩
     have hbl := le6x2
     refine ⟨hbl, ?_⟩
     have nx_H6x2 := le6x2.1
     replace hle := hle.trans le6x2
     replace at1 := le6x2.2 _ _ at1
     have lt_at6x2 := GHeap.ltg at6x2
     replace hf0 := hf0.trans le6x2
     refine .c1 rfl rfl rfl rfl (.allocR rfl ze_2_E rfl) ?_
     rintro _ H7x2 ⟨g7x2, rfl, le7x2, ge7x2, at7x2⟩
     replace hbl := hbl.trans le7x2
     refine ⟨hbl, ?_⟩
     have nx_H7x2 := le7x2.1
     replace hle := hle.trans le7x2
     replace at1 := le7x2.2 _ _ at1
     replace at6x2 := le7x2.2 _ _ at6x2
     have lt_at7x2 := GHeap.ltg at7x2
     replace hf0 := hf0.trans le7x2
     refine .r1 rfl rfl rfl (.storeR rfl sz_2_E rfl rfl rfl (by assumption) (by first | exact Nat.le_of_ble_eq_true rfl | (simp; done) | (simp <;> omega))) ?_
     rintro _ H4008 ⟨rfl, st4008, at4008⟩
     replace hbl := hbl.st st4008 (fun k hk => ⟨by omega, trivial⟩)
     refine ⟨hbl, ?_⟩
     have nx_H4008 := st4008.nx
     replace hle := hle.st st4008 (fun k hk => ⟨by omega, trivial⟩)
     replace at1 := st4008.same _ _ ⟨(by first | assumption | omega), trivial⟩ at1
     have ne_g7x2_g6x2 : g7x2 ≠ g6x2 := by first | assumption | omega
     replace at7x2 := st4008.same _ _ ⟨ne_g7x2_g6x2, trivial⟩ at7x2
     have lt_at4008 := GHeap.ltg at4008
     try simp only [Nat.zero_add, List.set_cons_succ, List.set_cons_zero] at at4008
     replace hf0 := hf0.st st4008 (fun k hk => ⟨by omega, trivial⟩)
     refine .r1 rfl rfl rfl (.storeR rfl sz_2_E rfl rfl rfl (by assumption) (by first | exact Nat.le_of_ble_eq_true rfl | (simp; done) | (simp <;> omega))) ?_
     rintro _ H4009 ⟨rfl, st4009, at4009⟩
     replace hbl := hbl.st st4009 (fun k hk => ⟨by omega, trivial⟩)
     refine ⟨hbl, ?_⟩
     have nx_H4009 := st4009.nx
     replace hle := hle.st st4009 (fun k hk => ⟨by omega, trivial⟩)
     replace at1 := st4009.same _ _ ⟨(by first | assumption | omega), trivial⟩ at1
     replace at4008 := st4009.same _ _ ⟨(Ne.symm ne_g7x2_g6x2), trivial⟩ at4008
     have lt_at4009 := GHeap.ltg at4009
     try simp only [Nat.zero_add, List.set_cons_succ, List.set_cons_zero] at at4009
     replace hf0 := hf0.st st4009 (fun k hk => ⟨by omega, trivial⟩)
     refine .done ?_
     exact ⟨g6x2, g7x2, ⟨rfl, rfl, rfl, rfl, rfl, rfl, rfl, rfl, rfl, rfl, rfl, rfl, trivial⟩, hf0, by omega, by omega, by first | assumption | simpa using at4008, by first | assumption | simpa using at4009, by omega⟩
    refine .c1 rfl rfl rfl rfl (.allocR rfl ze_2_E rfl) ?_
    rintro _ H7x3 ⟨g7x3, rfl, le7x3, ge7x3, at7x3⟩
    have hbl := le7x3
    refine ⟨hbl, ?_⟩
    have nx_H7x3 := le7x3.1
    replace hle := hle.trans le7x3
    replace at1 := le7x3.2 _ _ at1
    have lt_at7x3 := GHeap.ltg at7x3
    replace hf0 := hf0.trans le7x3
    refine .c1 rfl rfl rfl rfl (.allocR rfl ze_2_E rfl) ?_
    rintro _ H6x3 ⟨g6x3, rfl, le6x3, ge6x3, at6x3⟩
    replace hbl := hbl.trans le6x3
    refine ⟨hbl, ?_⟩
    have nx_H6x3 := le6x3.1
    replace hle := hle.trans le6x3
    replace at1 := le6x3.2 _ _ at1
    replace at7x3 := le6x3.2 _ _ at7x3
    have lt_at6x3 := GHeap.ltg at6x3
    replace hf0 := hf0.trans le6x3
    refine .r1 rfl rfl rfl (.storeR rfl sz_2_E rfl rfl rfl (by assumption) (by first | exact Nat.le_of_ble_eq_true rfl | (simp; done) | (simp <;> omega))) ?_
    rintro _ H4008x2 ⟨rfl, st4008x2, at4008x2⟩
    replace hbl := hbl.st st4008x2 (fun k hk => ⟨by omega, trivial⟩)
    refine ⟨hbl, ?_⟩
    have nx_H4008x2 := st4008x2.nx
    replace hle := hle.st st4008x2 (fun k hk => ⟨by omega, trivial⟩)
    replace at1 := st4008x2.same _ _ ⟨(by first | assumption | omega), trivial⟩ at1
    have ne_g7x3_g6x3 : g7x3 ≠ g6x3 := by first | assumption | omega
    replace at7x3 := st4008x2.same _ _ ⟨ne_g7x3_g6x3, trivial⟩ at7x3
    have lt_at4008x2 := GHeap.ltg at4008x2
    try simp only [Nat.zero_add, List.set_cons_succ, List.set_cons_zero] at at4008x2
    replace hf0 := hf0.st st4008x2 (fun k hk => ⟨by omega, trivial⟩)
    refine .r1 rfl rfl rfl (.storeR rfl sz_2_E rfl rfl rfl (by assumption) (by first | exact Nat.le_of_ble_eq_true rfl | (simp; done) | (simp <;> omega))) ?_
    rintro _ H4009x2 ⟨rfl, st4009x2, at4009x2⟩
    replace hbl := hbl.st st4009x2 (fun k hk => ⟨by omega, trivial⟩)
    refine ⟨hbl, ?_⟩
    have nx_H4009x2 := st4009x2.nx
    replace hle := hle.st st4009x2 (fun k hk => ⟨by omega, trivial⟩)
    replace at1 := st4009x2.same _ _ ⟨(by first | assumption | omega), trivial⟩ at1
    replace at4008x2 := st4009x2.same _ _ ⟨(Ne.symm ne_g7x3_g6x3), trivial⟩ at4008x2
    have lt_at4009x2 := GHeap.ltg at4009x2
    try simp only [Nat.zero_add, List.set_cons_succ, List.set_cons_zero] at at4009x2
    replace hf0 := hf0.st st4009x2 (fun k hk => ⟨by omega, trivial⟩)
    refine .done ?_
    exact ⟨g6x3, g7x3, ⟨rfl, rfl, rfl, rfl, rfl, rfl, rfl, rfl, rfl, rfl, rfl, rfl, trivial⟩, hf0, by omega, by omega, by first | assumption | simpa using at4008x2, by first | assumption | simpa using at4009x2, by omega⟩
   refine .orI ?_ ?_
   ·
    refine .c1 rfl rfl rfl rfl (.allocR rfl ze_2_E rfl) ?_
    rintro _ H6x4 ⟨g6x4, rfl, le6x4, ge6x4, at6x4⟩
    have hbl := le6x4
    refine ⟨hbl, ?_⟩
    have nx_H6x4 := le6x4.1
    replace hle := hle.trans le6x4
    replace at1 := le6x4.2 _ _ at1
    have lt_at6x4 := GHeap.ltg at6x4
    replace hf0 := hf0.trans le6x4
    refine .orI ?_ ?_
    ·
     replace hin := base_hin.mono hle
     clear hb1 fs1 ft1 c101 c111 c121 i21 i31 i41
     have hb1 : Prof.At _ g1 0 m p := ⟨Mem.of_get at1, hin⟩
     obtain ⟨fs1, ft1, c101, c111, c121, i21, i31, i41⟩ := hb1.get
     clear y0 y1 y2 y3 y4 j1 j2 j3 j4 z0 z1 z2 z3 z4 l1 l2 l3 l4
     obtain ⟨y0, y1, y2, y3, y4, j1, j2, j3, j4⟩ := fs1.get
     obtain ⟨z0, z1, z2, z3, z4, l1, l2, l3, l4⟩ := ft1.get
     refine .callQ1 rfl rfl rfl rfl rfl @Try.call49 rfl (arrows_c) hbl ?_
     refine .c1 rfl rfl rfl rfl (.allocR rfl ze_2_E rfl) ?_
     rintro _ H7x4 ⟨g7x4, rfl, le7x4, ge7x4, at7x4⟩
     replace hbl := hbl.trans le7x4
     refine ⟨hbl, ?_⟩
     have nx_H7x4 := le7x4.1
     replace hle := hle.trans le7x4
     replace at1 := le7x4.2 _ _ at1
     replace at6x4 := le7x4.2 _ _ at6x4
     have lt_at7x4 := GHeap.ltg at7x4
     replace hf0 := hf0.trans le7x4
     refine .r1 rfl rfl rfl (.storeR rfl sz_2_E rfl rfl rfl (by assumption) (by first | exact Nat.le_of_ble_eq_true rfl | (simp; done) | (simp <;> omega))) ?_
     rintro _ H4008x3 ⟨rfl, st4008x3, at4008x3⟩
     replace hbl := hbl.st st4008x3 (fun k hk => ⟨by omega, trivial⟩)
     refine ⟨hbl, ?_⟩
     have nx_H4008x3 := st4008x3.nx
     replace hle := hle.st st4008x3 (fun k hk => ⟨by omega, trivial⟩)
     have ne_g1_g6x4 : g1 ≠ g6x4 := by first | assumption | omega
     replace at1 := st4008x3.same _ _ ⟨ne_g1_g6x4, trivial⟩ at1
     have ne_g7x4_g6x4 : g7x4 ≠ g6x4 := by first | assumption | omega
     replace at7x4 := st4008x3.same _ _ ⟨ne_g7x4_g6x4, trivial⟩ at7x4
     have lt_at4008x3 := GHeap.ltg at4008x3
     try simp only [Nat.zero_add, List.set_cons_succ, List.set_cons_zero] at at4008x3
     replace hf0 := hf0.st st4008x3 (fun k hk => ⟨by omega, trivial⟩)
     refine .r1 rfl rfl rfl (.storeR rfl sz_2_E rfl rfl rfl (by assumption) (by first | exact Nat.le_of_ble_eq_true rfl | (simp; done) | (simp <;> omega))) ?_
     rintro _ H4009x3 ⟨rfl, st4009x3, at4009x3⟩
     replace hbl := hbl.st st4009x3 (fun k hk => ⟨by omega, trivial⟩)
     refine ⟨hbl, ?_⟩
     have nx_H4009x3 := st4009x3.nx
     replace hle := hle.st st4009x3 (fun k hk => ⟨by omega, trivial⟩)
     replace at1 := st4009x3.same _ _ ⟨(by first | assumption | omega), trivial⟩ at1
     replace at4008x3 := st4009x3.same _ _ ⟨(Ne.symm ne_g7x4_g6x4), trivial⟩ at4008x3
     have lt_at4009x3 := GHeap.ltg at4009x3
     try simp only [Nat.zero_add, List.set_cons_succ, List.set_cons_zero] at at4009x3
     replace hf0 := hf0.st st4009x3 (fun k hk => ⟨by omega, trivial⟩)
     refine .done ?_
     exact ⟨g6x4, g7x4, ⟨rfl, rfl, rfl, rfl, rfl, rfl, rfl, rfl, rfl, rfl, rfl, rfl, trivial⟩, hf0, by omega, by omega, by first | assumption | simpa using at4008x3, by first | assumption | simpa using at4009x3, by omega⟩
    refine .c1 rfl rfl rfl rfl (.allocR rfl ze_2_E rfl) ?_
    rintro _ H7x5 ⟨g7x5, rfl, le7x5, ge7x5, at7x5⟩
    replace hbl := hbl.trans le7x5
    refine ⟨hbl, ?_⟩
    have nx_H7x5 := le7x5.1
    replace hle := hle.trans le7x5
    replace at1 := le7x5.2 _ _ at1
    replace at6x4 := le7x5.2 _ _ at6x4
    have lt_at7x5 := GHeap.ltg at7x5
    replace hf0 := hf0.trans le7x5
    replace hin := base_hin.mono hle
    clear hb1 fs1 ft1 c101 c111 c121 i21 i31 i41
    have hb1 : Prof.At _ g1 0 m p := ⟨Mem.of_get at1, hin⟩
    obtain ⟨fs1, ft1, c101, c111, c121, i21, i31, i41⟩ := hb1.get
    clear y0 y1 y2 y3 y4 j1 j2 j3 j4 z0 z1 z2 z3 z4 l1 l2 l3 l4
    obtain ⟨y0, y1, y2, y3, y4, j1, j2, j3, j4⟩ := fs1.get
    obtain ⟨z0, z1, z2, z3, z4, l1, l2, l3, l4⟩ := ft1.get
    refine .callQ1 rfl rfl rfl rfl rfl @Try.call49 rfl (arrows_c) hbl ?_
    refine .r1 rfl rfl rfl (.storeR rfl sz_2_E rfl rfl rfl (by assumption) (by first | exact Nat.le_of_ble_eq_true rfl | (simp; done) | (simp <;> omega))) ?_
    rintro _ H4008x4 ⟨rfl, st4008x4, at4008x4⟩
    replace hbl := hbl.st st4008x4 (fun k hk => ⟨by omega, trivial⟩)
    refine ⟨hbl, ?_⟩
    have nx_H4008x4 := st4008x4.nx
    replace hle := hle.st st4008x4 (fun k hk => ⟨by omega, trivial⟩)
    have ne_g1_g6x4 : g1 ≠ g6x4 := by first | assumption | omega
    replace at1 := st4008x4.same _ _ ⟨ne_g1_g6x4, trivial⟩ at1
    have ne_g7x5_g6x4 : g7x5 ≠ g6x4 := by first | assumption | omega
    replace at7x5 := st4008x4.same _ _ ⟨ne_g7x5_g6x4, trivial⟩ at7x5
    have lt_at4008x4 := GHeap.ltg at4008x4
    try simp only [Nat.zero_add, List.set_cons_succ, List.set_cons_zero] at at4008x4
    replace hf0 := hf0.st st4008x4 (fun k hk => ⟨by omega, trivial⟩)
    refine .r1 rfl rfl rfl (.storeR rfl sz_2_E rfl rfl rfl (by assumption) (by first | exact Nat.le_of_ble_eq_true rfl | (simp; done) | (simp <;> omega))) ?_
    rintro _ H4009x4 ⟨rfl, st4009x4, at4009x4⟩
    replace hbl := hbl.st st4009x4 (fun k hk => ⟨by omega, trivial⟩)
    refine ⟨hbl, ?_⟩
    have nx_H4009x4 := st4009x4.nx
    replace hle := hle.st st4009x4 (fun k hk => ⟨by omega, trivial⟩)
    replace at1 := st4009x4.same _ _ ⟨(by first | assumption | omega), trivial⟩ at1
    replace at4008x4 := st4009x4.same _ _ ⟨(Ne.symm ne_g7x5_g6x4), trivial⟩ at4008x4
    have lt_at4009x4 := GHeap.ltg at4009x4
    try simp only [Nat.zero_add, List.set_cons_succ, List.set_cons_zero] at at4009x4
    replace hf0 := hf0.st st4009x4 (fun k hk => ⟨by omega, trivial⟩)
    refine .done ?_
    exact ⟨g6x4, g7x5, ⟨rfl, rfl, rfl, rfl, rfl, rfl, rfl, rfl, rfl, rfl, rfl, rfl, trivial⟩, hf0, by omega, by omega, by first | assumption | simpa using at4008x4, by first | assumption | simpa using at4009x4, by omega⟩
   refine .c1 rfl rfl rfl rfl (.allocR rfl ze_2_E rfl) ?_
   rintro _ H7x6 ⟨g7x6, rfl, le7x6, ge7x6, at7x6⟩
   have hbl := le7x6
   refine ⟨hbl, ?_⟩
   have nx_H7x6 := le7x6.1
   replace hle := hle.trans le7x6
   replace at1 := le7x6.2 _ _ at1
   have lt_at7x6 := GHeap.ltg at7x6
   replace hf0 := hf0.trans le7x6
   refine .orI ?_ ?_
   ·
    replace hin := base_hin.mono hle
    clear hb1 fs1 ft1 c101 c111 c121 i21 i31 i41
    have hb1 : Prof.At _ g1 0 m p := ⟨Mem.of_get at1, hin⟩
    obtain ⟨fs1, ft1, c101, c111, c121, i21, i31, i41⟩ := hb1.get
    clear y0 y1 y2 y3 y4 j1 j2 j3 j4 z0 z1 z2 z3 z4 l1 l2 l3 l4
    obtain ⟨y0, y1, y2, y3, y4, j1, j2, j3, j4⟩ := fs1.get
    obtain ⟨z0, z1, z2, z3, z4, l1, l2, l3, l4⟩ := ft1.get
    refine .callQ1 rfl rfl rfl rfl rfl @Try.call49 rfl (arrows_c) hbl ?_
    refine .c1 rfl rfl rfl rfl (.allocR rfl ze_2_E rfl) ?_
    rintro _ H6x5 ⟨g6x5, rfl, le6x5, ge6x5, at6x5⟩
    replace hbl := hbl.trans le6x5
    refine ⟨hbl, ?_⟩
    have nx_H6x5 := le6x5.1
    replace hle := hle.trans le6x5
    replace at1 := le6x5.2 _ _ at1
    replace at7x6 := le6x5.2 _ _ at7x6
    have lt_at6x5 := GHeap.ltg at6x5
    replace hf0 := hf0.trans le6x5
    refine .r1 rfl rfl rfl (.storeR rfl sz_2_E rfl rfl rfl (by assumption) (by first | exact Nat.le_of_ble_eq_true rfl | (simp; done) | (simp <;> omega))) ?_
    rintro _ H4008x5 ⟨rfl, st4008x5, at4008x5⟩
    replace hbl := hbl.st st4008x5 (fun k hk => ⟨by omega, trivial⟩)
    refine ⟨hbl, ?_⟩
    have nx_H4008x5 := st4008x5.nx
    replace hle := hle.st st4008x5 (fun k hk => ⟨by omega, trivial⟩)
    replace at1 := st4008x5.same _ _ ⟨(by first | assumption | omega), trivial⟩ at1
    have ne_g7x6_g6x5 : g7x6 ≠ g6x5 := by first | assumption | omega
    replace at7x6 := st4008x5.same _ _ ⟨ne_g7x6_g6x5, trivial⟩ at7x6
    have lt_at4008x5 := GHeap.ltg at4008x5
    try simp only [Nat.zero_add, List.set_cons_succ, List.set_cons_zero] at at4008x5
    replace hf0 := hf0.st st4008x5 (fun k hk => ⟨by omega, trivial⟩)
    refine .r1 rfl rfl rfl (.storeR rfl sz_2_E rfl rfl rfl (by assumption) (by first | exact Nat.le_of_ble_eq_true rfl | (simp; done) | (simp <;> omega))) ?_
    rintro _ H4009x5 ⟨rfl, st4009x5, at4009x5⟩
    replace hbl := hbl.st st4009x5 (fun k hk => ⟨by omega, trivial⟩)
    refine ⟨hbl, ?_⟩
    have nx_H4009x5 := st4009x5.nx
    replace hle := hle.st st4009x5 (fun k hk => ⟨by omega, trivial⟩)
    have ne_g1_g7x6 : g1 ≠ g7x6 := by first | assumption | omega
    replace at1 := st4009x5.same _ _ ⟨ne_g1_g7x6, trivial⟩ at1
    replace at4008x5 := st4009x5.same _ _ ⟨(Ne.symm ne_g7x6_g6x5), trivial⟩ at4008x5
    have lt_at4009x5 := GHeap.ltg at4009x5
    try simp only [Nat.zero_add, List.set_cons_succ, List.set_cons_zero] at at4009x5
    replace hf0 := hf0.st st4009x5 (fun k hk => ⟨by omega, trivial⟩)
    refine .done ?_
    exact ⟨g6x5, g7x6, ⟨rfl, rfl, rfl, rfl, rfl, rfl, rfl, rfl, rfl, rfl, rfl, rfl, trivial⟩, hf0, by omega, by omega, by first | assumption | simpa using at4008x5, by first | assumption | simpa using at4009x5, by omega⟩
   refine .c1 rfl rfl rfl rfl (.allocR rfl ze_2_E rfl) ?_
   rintro _ H6x6 ⟨g6x6, rfl, le6x6, ge6x6, at6x6⟩
   replace hbl := hbl.trans le6x6
   refine ⟨hbl, ?_⟩
   have nx_H6x6 := le6x6.1
   replace hle := hle.trans le6x6
   replace at1 := le6x6.2 _ _ at1
   replace at7x6 := le6x6.2 _ _ at7x6
   have lt_at6x6 := GHeap.ltg at6x6
   replace hf0 := hf0.trans le6x6
   replace hin := base_hin.mono hle
   clear hb1 fs1 ft1 c101 c111 c121 i21 i31 i41
   have hb1 : Prof.At _ g1 0 m p := ⟨Mem.of_get at1, hin⟩
   obtain ⟨fs1, ft1, c101, c111, c121, i21, i31, i41⟩ := hb1.get
   clear y0 y1 y2 y3 y4 j1 j2 j3 j4 z0 z1 z2 z3 z4 l1 l2 l3 l4
   obtain ⟨y0, y1, y2, y3, y4, j1, j2, j3, j4⟩ := fs1.get
   obtain ⟨z0, z1, z2, z3, z4, l1, l2, l3, l4⟩ := ft1.get
   refine .callQ1 rfl rfl rfl rfl rfl @Try.call49 rfl (arrows_c) hbl ?_
   refine .r1 rfl rfl rfl (.storeR rfl sz_2_E rfl rfl rfl (by assumption) (by first | exact Nat.le_of_ble_eq_true rfl | (simp; done) | (simp <;> omega))) ?_
   rintro _ H4008x6 ⟨rfl, st4008x6, at4008x6⟩
   replace hbl := hbl.st st4008x6 (fun k hk => ⟨by omega, trivial⟩)
   refine ⟨hbl, ?_⟩
   have nx_H4008x6 := st4008x6.nx
   replace hle := hle.st st4008x6 (fun k hk => ⟨by omega, trivial⟩)
   replace at1 := st4008x6.same _ _ ⟨(by first | assumption | omega), trivial⟩ at1
   have ne_g7x6_g6x6 : g7x6 ≠ g6x6 := by first | assumption | omega
   replace at7x6 := st4008x6.same _ _ ⟨ne_g7x6_g6x6, trivial⟩ at7x6
   have lt_at4008x6 := GHeap.ltg at4008x6
   try simp only [Nat.zero_add, List.set_cons_succ, List.set_cons_zero] at at4008x6
   replace hf0 := hf0.st st4008x6 (fun k hk => ⟨by omega, trivial⟩)
   refine .r1 rfl rfl rfl (.storeR rfl sz_2_E rfl rfl rfl (by assumption) (by first | exact Nat.le_of_ble_eq_true rfl | (simp; done) | (simp <;> omega))) ?_
   rintro _ H4009x6 ⟨rfl, st4009x6, at4009x6⟩
   replace hbl := hbl.st st4009x6 (fun k hk => ⟨by omega, trivial⟩)
   refine ⟨hbl, ?_⟩
   have nx_H4009x6 := st4009x6.nx
   replace hle := hle.st st4009x6 (fun k hk => ⟨by omega, trivial⟩)
   have ne_g1_g7x6 : g1 ≠ g7x6 := by first | assumption | omega
   replace at1 := st4009x6.same _ _ ⟨ne_g1_g7x6, trivial⟩ at1
   replace at4008x6 := st4009x6.same _ _ ⟨(Ne.symm ne_g7x6_g6x6), trivial⟩ at4008x6
   have lt_at4009x6 := GHeap.ltg at4009x6
   try simp only [Nat.zero_add, List.set_cons_succ, List.set_cons_zero] at at4009x6
   replace hf0 := hf0.st st4009x6 (fun k hk => ⟨by omega, trivial⟩)
   refine .done ?_
   exact ⟨g6x6, g7x6, ⟨rfl, rfl, rfl, rfl, rfl, rfl, rfl, rfl, rfl, rfl, rfl, rfl, trivial⟩, hf0, by omega, by omega, by first | assumption | simpa using at4008x6, by first | assumption | simpa using at4009x6, by omega⟩
  rintro fr7 H7 ⟨g6, g7, hsub7, le7, ge6, ge7, at6, at7, ne7_0⟩
  have nx_H7 := le7.1
  replace hle := hle.trans le7
  replace at1 := le7.2 _ _ at1
  replace at2 := le7.2 _ _ at2
  replace at3004 := le7.2 _ _ at3004
  replace at3005 := le7.2 _ _ at3005
  have lt_at6 := GHeap.ltg at6
  have lt_at7 := GHeap.ltg at7
  replace hin := base_hin.mono hle
  clear hb1 fs1 ft1 c101 c111 c121 i21 i31 i41
  have hb1 : Prof.At _ g1 0 m p := ⟨Mem.of_get at1, hin⟩
  obtain ⟨fs1, ft1, c101, c111, c121, i21, i31, i41⟩ := hb1.get
  clear y0 y1 y2 y3 y4 j1 j2 j3 j4 z0 z1 z2 z3 z4 l1 l2 l3 l4
  obtain ⟨y0, y1, y2, y3, y4, j1, j2, j3, j4⟩ := fs1.get
  obtain ⟨z0, z1, z2, z3, z4, l1, l2, l3, l4⟩ := ft1.get
  refine hK6 _ _ ?_
  refine .forget hsub7 ?_
  refine .seq (fun K7 hK7 => .region ?_)
  refine .call rfl rfl rfl rfl @Try.call50 rfl (starts_c (hc := hC)) ?_
  rintro _ H28 ⟨le28, a28, r28, rfl, v28⟩
  have nx_H28 := le28.1
  replace hle := hle.trans le28
  replace at1 := le28.2 _ _ at1
  replace at2 := le28.2 _ _ at2
  replace at3004 := le28.2 _ _ at3004
  replace at3005 := le28.2 _ _ at3005
  replace at6 := le28.2 _ _ at6
  replace at7 := le28.2 _ _ at7
  have bs_v28 := v28
  have lv_v28 : Keep H7.next H28 H28 := fun _ _ _ h => h
  replace hin := base_hin.mono hle
  clear hb1 fs1 ft1 c101 c111 c121 i21 i31 i41
  have hb1 : Prof.At _ g1 0 m p := ⟨Mem.of_get at1, hin⟩
  obtain ⟨fs1, ft1, c101, c111, c121, i21, i31, i41⟩ := hb1.get
  clear y0 y1 y2 y3 y4 j1 j2 j3 j4 z0 z1 z2 z3 z4 l1 l2 l3 l4
  obtain ⟨y0, y1, y2, y3, y4, j1, j2, j3, j4⟩ := fs1.get
  obtain ⟨z0, z1, z2, z3, z4, l1, l2, l3, l4⟩ := ft1.get
  have i28 := v28.intss
  refine .mv rfl (.m rfl rfl rfl (.extract rfl rfl) (.m rfl rfl rfl (.extract rfl rfl) ?_))
  refine .r rfl rfl rfl (.allocR rfl ze_23_VZ rfl) ?_
  rintro _ H8 ⟨g8, rfl, le8, ge8, at8⟩
  have nx_H8 := le8.1
  replace hle := hle.trans le8
  replace at1 := le8.2 _ _ at1
  replace at2 := le8.2 _ _ at2
  replace at3004 := le8.2 _ _ at3004
  replace at3005 := le8.2 _ _ at3005
  replace at6 := le8.2 _ _ at6
  replace at7 := le8.2 _ _ at7
  replace lv_v28 := Keep.le lv_v28 le8
  replace v28 := bs_v28.keep lv_v28 (Nat.le_refl _)
  have lt_at8 := GHeap.ltg at8
  replace hin := base_hin.mono hle
  clear hb1 fs1 ft1 c101 c111 c121 i21 i31 i41
  have hb1 : Prof.At _ g1 0 m p := ⟨Mem.of_get at1, hin⟩
  obtain ⟨fs1, ft1, c101, c111, c121, i21, i31, i41⟩ := hb1.get
  clear y0 y1 y2 y3 y4 j1 j2 j3 j4 z0 z1 z2 z3 z4 l1 l2 l3 l4
  obtain ⟨y0, y1, y2, y3, y4, j1, j2, j3, j4⟩ := fs1.get
  obtain ⟨z0, z1, z2, z3, z4, l1, l2, l3, l4⟩ := ft1.get
  clear i28
  have i28 := v28.intss
  refine .r0 rfl rfl (.storeR rfl sz_23_E rfl rfl rfl (by assumption) (by first | exact Nat.le_of_ble_eq_true rfl | (simp; done) | (simp <;> omega))) ?_
  rintro _ H5005 ⟨rfl, st5005, at5005⟩
  have nx_H5005 := st5005.nx
  replace hle := hle.st st5005 (fun k hk => ⟨by omega, trivial⟩)
  replace at1 := st5005.same _ _ ⟨(by first | assumption | omega), trivial⟩ at1
  have ne_g2_g8 : g2 ≠ g8 := by first | assumption | omega
  replace at2 := st5005.same _ _ ⟨ne_g2_g8, trivial⟩ at2
  replace at3004 := st5005.same _ _ ⟨(by first | assumption | omega), trivial⟩ at3004
  replace at3005 := st5005.same _ _ ⟨(by first | assumption | omega), trivial⟩ at3005
  replace at6 := st5005.same _ _ ⟨(by first | assumption | omega), trivial⟩ at6
  replace at7 := st5005.same _ _ ⟨(by first | assumption | omega), trivial⟩ at7
  replace lv_v28 := Keep.st lv_v28 st5005 (fun k hb hk => ⟨(by omega), trivial⟩)
  replace v28 := bs_v28.keep lv_v28 (Nat.le_refl _)
  have lt_at5005 := GHeap.ltg at5005
  replace hin := base_hin.mono hle
  clear hb1 fs1 ft1 c101 c111 c121 i21 i31 i41
  have hb1 : Prof.At _ g1 0 m p := ⟨Mem.of_get at1, hin⟩
  obtain ⟨fs1, ft1, c101, c111, c121, i21, i31, i41⟩ := hb1.get
  clear y0 y1 y2 y3 y4 j1 j2 j3 j4 z0 z1 z2 z3 z4 l1 l2 l3 l4
  obtain ⟨y0, y1, y2, y3, y4, j1, j2, j3, j4⟩ := fs1.get
  obtain ⟨z0, z1, z2, z3, z4, l1, l2, l3, l4⟩ := ft1.get
  clear i28
  have i28 := v28.intss
  try simp only [Nat.zero_add, List.set_cons_succ, List.set_cons_zero] at at5005
  refine .mv rfl (.nil (hK7 _ _ (.seq (fun K8 hK8 => ?_))))
  refine .regionD mo_B (.q 0 (.q 1 (.or (.c 2 1 (.q 3 (.c 4 1 (.c 5 1 (.done))))) (.c 4 1 (.c 2 1 (.q 3 (.c 5 1 (.done)))))))) (by kernel_rfl) ?_
  refine .cut [(0, some _), (1, some _), (2, some _), (3, some _), (4, some _), (5, some _), (6, some _), (7, some _), (8, some _), (9, some _), (16, some _), (17, some _), (19, some _), (20, some _), (27, some _), (28, some _), (29, some _), (30, some _)] ⟨rfl, rfl, rfl, rfl, rfl, rfl, rfl, rfl, rfl, rfl, rfl, rfl, rfl, rfl, rfl, rfl, rfl, rfl, trivial⟩ (fun rest fr' H' => ∃ g10, Sub ((10, some (.pointer (some ⟨g10, 0, none⟩))) :: rest) fr' ∧ H5005.Le H' ∧ H5005.next ≤ g10 ∧ H'.get g10 = some (.row ([.int .i64 (m.colN:Int)]) 2 true)) ?_ ?_
  ·
   have hf0 := GHeap.Le.refl H5005
   refine .m rfl rfl rfl rfl (.refl _) (.load on_2_A rfl (by first | assumption | exact Mem.of_get at7 0 _ rfl)) ?_
   refine .m rfl rfl rfl rfl (.refl _) (.load on_77_F rfl (by first | assumption | exact Mem.of_get at3005 0 _ rfl)) ?_
   refine .orI ?_ ?_
   ·
    refine .callQ1 rfl rfl rfl rfl rfl @Try.call49 rfl (arrows_c) (.refl _) ?_
    refine .mB rfl rfl rfl rfl (.refl _) (.add rfl rfl rfl (by omega) (by omega)) ?_
    refine .c1 rfl rfl rfl rfl (.allocR rfl ze_2_E rfl) ?_
    rintro _ H10x2 ⟨g10x2, rfl, le10x2, ge10x2, at10x2⟩
    have hbl := le10x2
    refine ⟨hbl, ?_⟩
    have nx_H10x2 := le10x2.1
    replace hle := hle.trans le10x2
    replace at1 := le10x2.2 _ _ at1
    have lt_at10x2 := GHeap.ltg at10x2
    replace hf0 := hf0.trans le10x2
    refine .r1 rfl rfl rfl (.storeR rfl sz_2_E rfl rfl rfl (by assumption) (by first | exact Nat.le_of_ble_eq_true rfl | (simp; done) | (simp <;> omega))) ?_
    rintro _ H6005 ⟨rfl, st6005, at6005⟩
    replace hbl := hbl.st st6005 (fun k hk => ⟨by omega, trivial⟩)
    refine ⟨hbl, ?_⟩
    have nx_H6005 := st6005.nx
    replace hle := hle.st st6005 (fun k hk => ⟨by omega, trivial⟩)
    replace at1 := st6005.same _ _ ⟨(by first | assumption | omega), trivial⟩ at1
    have lt_at6005 := GHeap.ltg at6005
    try simp only [Nat.zero_add, List.set_cons_succ, List.set_cons_zero] at at6005
    replace hf0 := hf0.st st6005 (fun k hk => ⟨by omega, trivial⟩)
    refine .done ?_
    exact ⟨g10x2, ⟨rfl, rfl, rfl, rfl, rfl, rfl, rfl, rfl, rfl, rfl, rfl, rfl, rfl, rfl, rfl, rfl, rfl, rfl, rfl, trivial⟩, hf0, by omega, by first | assumption | simpa using at6005⟩
   refine .c1 rfl rfl rfl rfl (.allocR rfl ze_2_E rfl) ?_
   rintro _ H10x3 ⟨g10x3, rfl, le10x3, ge10x3, at10x3⟩
   have hbl := le10x3
   refine ⟨hbl, ?_⟩
   have nx_H10x3 := le10x3.1
   replace hle := hle.trans le10x3
   replace at1 := le10x3.2 _ _ at1
   have lt_at10x3 := GHeap.ltg at10x3
   replace hf0 := hf0.trans le10x3
   replace hin := base_hin.mono hle
   clear hb1 fs1 ft1 c101 c111 c121 i21 i31 i41
   have hb1 : Prof.At _ g1 0 m p := ⟨Mem.of_get at1, hin⟩
   obtain ⟨fs1, ft1, c101, c111, c121, i21, i31, i41⟩ := hb1.get
   clear y0 y1 y2 y3 y4 j1 j2 j3 j4 z0 z1 z2 z3 z4 l1 l2 l3 l4
   obtain ⟨y0, y1, y2, y3, y4, j1, j2, j3, j4⟩ := fs1.get
   obtain ⟨z0, z1, z2, z3, z4, l1, l2, l3, l4⟩ := ft1.get
   refine .callQ1 rfl rfl rfl rfl rfl @Try.call49 rfl (arrows_c) hbl ?_
   refine .mB rfl rfl rfl rfl hbl (.add rfl rfl rfl (by omega) (by omega)) ?_
   refine .r1 rfl rfl rfl (.storeR rfl sz_2_E rfl rfl rfl (by assumption) (by first | exact Nat.le_of_ble_eq_true rfl | (simp; done) | (simp <;> omega))) ?_
   rintro _ H6005x2 ⟨rfl, st6005x2, at6005x2⟩
   replace hbl := hbl.st st6005x2 (fun k hk => ⟨by omega, trivial⟩)
   refine ⟨hbl, ?_⟩
   have nx_H6005x2 := st6005x2.nx
   replace hle := hle.st st6005x2 (fun k hk => ⟨by omega, trivial⟩)
   replace at1 := st6005x2.same _ _ ⟨(by first | assumption | omega), trivial⟩ at1
   have lt_at6005x2 := GHeap.ltg at6005x2
   try simp only [Nat.zero_add, List.set_cons_succ, List.set_cons_zero] at at6005x2
   replace hf0 := hf0.st st6005x2 (fun k hk => ⟨by omega, trivial⟩)
   refine .done ?_
   exact ⟨g10x3, ⟨rfl, rfl, rfl, rfl, rfl, rfl, rfl, rfl, rfl, rfl, rfl, rfl, rfl, rfl, rfl, rfl, rfl, rfl, rfl, trivial⟩, hf0, by omega, by first | assumption | simpa using at6005x2⟩
  rintro fr10 H10 ⟨g10, hsub10, le10, ge10, at10⟩
  have nx_H10 := le10.1
  replace hle := hle.trans le10
  replace at1 := le10.2 _ _ at1
  replace at2 := le10.2 _ _ at2
  replace at3004 := le10.2 _ _ at3004
  replace at3005 := le10.2 _ _ at3005
  replace at6 := le10.2 _ _ at6
  replace at7 := le10.2 _ _ at7
  replace at5005 := le10.2 _ _ at5005
  replace lv_v28 := Keep.le lv_v28 le10
  replace v28 := bs_v28.keep lv_v28 (Nat.le_refl _)
  have lt_at10 := GHeap.ltg at10
  replace hin := base_hin.mono hle
  clear hb1 fs1 ft1 c101 c111 c121 i21 i31 i41
  have hb1 : Prof.At _ g1 0 m p := ⟨Mem.of_get at1, hin⟩
  obtain ⟨fs1, ft1, c101, c111, c121, i21, i31, i41⟩ := hb1.get
  clear y0 y1 y2 y3 y4 j1 j2 j3 j4 z0 z1 z2 z3 z4 l1 l2 l3 l4
  obtain ⟨y0, y1, y2, y3, y4, j1, j2, j3, j4⟩ := fs1.get
  obtain ⟨z0, z1, z2, z3, z4, l1, l2, l3, l4⟩ := ft1.get
  clear i28
  have i28 := v28.intss
  refine hK8 _ _ ?_
  refine .forget hsub10 ?_
  refine .seq (fun K9 hK9 => .seq (fun K10 hK10 => ?_))
  refine .regionD mo_B (.q 0 (.q 1 (.q 2 (.q 3 (.q 4 (.q 5 (.q 6 (.q 7 (.q 8 (.q 9 (.q 10 (.q 11 (.q 12 (.done)))))))))))))) (by kernel_rfl) ?_
  refine .m rfl rfl rfl rfl (.refl _) (.load on_2_A rfl (by first | assumption | exact Mem.of_get at6 0 _ rfl)) ?_
  refine .m rfl rfl rfl rfl (.refl _) (.load on_77_F rfl (by first | assumption | exact Mem.of_get at3005 0 _ rfl)) ?_
  refine .m rfl rfl rfl rfl (.refl _) (.nilCheck rfl) (.m rfl rfl rfl rfl (.refl _) (.fieldAddr fo_30_0_B rfl) ?_)
  refine .m rfl rfl rfl rfl (.refl _) (.load on_2_A rfl (by assumption)) ?_
  refine .m rfl rfl rfl rfl (.refl _) (.add rfl rfl rfl (by omega) (by omega)) ?_
  refine .m rfl rfl rfl rfl (.refl _) (.cmp rfl rfl rfl) (.mv rfl rfl ?_)
  refine .split (fun h42 => ?_) (fun h42 => ?_)
  ·
   try simp only [sps] at h42
   refine .sg rfl rfl rfl rfl rfl rfl (.sg rfl rfl rfl rfl rfl rfl (.sg rfl rfl rfl rfl rfl rfl (.sg rfl rfl rfl rfl rfl rfl (.m rfl rfl rfl rfl (.refl _) (.pickT rfl rfl) ?_))))
   refine .done ?_
   refine hK10 _ _ ?_
   refine .condT rfl ?_
   refine .seq (fun K11 hK11 => .region (.m rfl rfl rfl (.build bt_30_Hj rfl rfl rfl) ?_))
   refine .r0 rfl rfl (.fillR rfl sz_30_D rfl rfl rfl rfl (by assumption) (by first | rfl | exact Nat.le_of_ble_eq_true rfl | simp)) ?_
   rintro _ H8001 ⟨rfl, st8001, at8001⟩
   have nx_H8001 := st8001.nx
   replace hle := hle.st st8001 (fun k hk => ⟨by omega, trivial⟩)
   have ne_g1_g2 : g1 ≠ g2 := by first | assumption | omega
   replace at1 := st8001.same _ _ ⟨ne_g1_g2, trivial⟩ at1
   replace at3004 := st8001.same _ _ ⟨(Ne.symm ne_g2_g4), trivial⟩ at3004
   replace at3005 := st8001.same _ _ ⟨(Ne.symm ne_g2_g5), trivial⟩ at3005
   have ne_g6_g2 : g6 ≠ g2 := by first | assumption | omega
   replace at6 := st8001.same _ _ ⟨ne_g6_g2, trivial⟩ at6
   have ne_g7_g2 : g7 ≠ g2 := by first | assumption | omega
   replace at7 := st8001.same _ _ ⟨ne_g7_g2, trivial⟩ at7
   replace at5005 := st8001.same _ _ ⟨(Ne.symm ne_g2_g8), trivial⟩ at5005
   have ne_g10_g2 : g10 ≠ g2 := by first | assumption | omega
   replace at10 := st8001.same _ _ ⟨ne_g10_g2, trivial⟩ at10
   replace lv_v28 := Keep.st lv_v28 st8001 (fun k hb hk => ⟨(by omega), trivial⟩)
   replace v28 := bs_v28.keep lv_v28 (Nat.le_refl _)
   have lt_at8001 := GHeap.ltg at8001
   replace hin := base_hin.mono hle
   clear hb1 fs1 ft1 c101 c111 c121 i21 i31 i41
   have hb1 : Prof.At _ g1 0 m p := ⟨Mem.of_get at1, hin⟩
   obtain ⟨fs1, ft1, c101, c111, c121, i21, i31, i41⟩ := hb1.get
   clear y0 y1 y2 y3 y4 j1 j2 j3 j4 z0 z1 z2 z3 z4 l1 l2 l3 l4
   obtain ⟨y0, y1, y2, y3, y4, j1, j2, j3, j4⟩ := fs1.get
   obtain ⟨z0, z1, z2, z3, z4, l1, l2, l3, l4⟩ := ft1.get
   clear i28
   have i28 := v28.intss
   refine .mv rfl (.nil (hK11 _ _ ?_))
   refine .ret ?_
   refine hret _ _ ?_
   refine ⟨_, _, _, _, _, rfl, ag_30_D, (by rfl), (Mem.of_get at8001), rfl, ?_⟩
   obtain ⟨e1, e2⟩ := Prof.col_big h17 (fun hf => by unfold Prof.ColFits at hf; omega)
   rw [e1, e2]
   exact ⟨hle, .zero, rfl, CatR.zero _ _⟩
  try simp only [sps] at h42
  refine .mg rfl rfl rfl rfl rfl rfl (.refl _) (.load on_2_A rfl (by first | assumption | exact Mem.of_get at10 0 _ rfl)) ?_
  refine .mg rfl rfl rfl rfl rfl rfl (.refl _) (.move rfl) ?_
  refine .mg rfl rfl rfl rfl rfl rfl (.refl _) (.add rfl rfl rfl (by omega) (by omega)) ?_
  refine .mg rfl rfl rfl rfl rfl rfl (.refl _) (.cmp rfl rfl rfl) (.m rfl rfl rfl rfl (.refl _) (.pickF rfl rfl) ?_)
  refine .done ?_
  refine hK10 _ _ ?_
  refine .cond rfl (fun h47 => ?_) (fun h47 => ?_)
  ·
   try simp only [sps] at h47
   refine .seq (fun K12 hK12 => .region (.m rfl rfl rfl (.build bt_30_Hj rfl rfl rfl) ?_))
   refine .r0 rfl rfl (.fillR rfl sz_30_D rfl rfl rfl rfl (by assumption) (by first | rfl | exact Nat.le_of_ble_eq_true rfl | simp)) ?_
   rintro _ H8001x2 ⟨rfl, st8001x2, at8001x2⟩
   have nx_H8001x2 := st8001x2.nx
   replace hle := hle.st st8001x2 (fun k hk => ⟨by omega, trivial⟩)
   have ne_g1_g2 : g1 ≠ g2 := by first | assumption | omega
   replace at1 := st8001x2.same _ _ ⟨ne_g1_g2, trivial⟩ at1
   replace at3004 := st8001x2.same _ _ ⟨(Ne.symm ne_g2_g4), trivial⟩ at3004
   replace at3005 := st8001x2.same _ _ ⟨(Ne.symm ne_g2_g5), trivial⟩ at3005
   have ne_g6_g2 : g6 ≠ g2 := by first | assumption | omega
   replace at6 := st8001x2.same _ _ ⟨ne_g6_g2, trivial⟩ at6
   have ne_g7_g2 : g7 ≠ g2 := by first | assumption | omega
   replace at7 := st8001x2.same _ _ ⟨ne_g7_g2, trivial⟩ at7
   replace at5005 := st8001x2.same _ _ ⟨(Ne.symm ne_g2_g8), trivial⟩ at5005
   have ne_g10_g2 : g10 ≠ g2 := by first | assumption | omega
   replace at10 := st8001x2.same _ _ ⟨ne_g10_g2, trivial⟩ at10
   replace lv_v28 := Keep.st lv_v28 st8001x2 (fun k hb hk => ⟨(by omega), trivial⟩)
   replace v28 := bs_v28.keep lv_v28 (Nat.le_refl _)
   have lt_at8001x2 := GHeap.ltg at8001x2
   replace hin := base_hin.mono hle
   clear hb1 fs1 ft1 c101 c111 c121 i21 i31 i41
   have hb1 : Prof.At _ g1 0 m p := ⟨Mem.of_get at1, hin⟩
   obtain ⟨fs1, ft1, c101, c111, c121, i21, i31, i41⟩ := hb1.get
   clear y0 y1 y2 y3 y4 j1 j2 j3 j4 z0 z1 z2 z3 z4 l1 l2 l3 l4
   obtain ⟨y0, y1, y2, y3, y4, j1, j2, j3, j4⟩ := fs1.get
   obtain ⟨z0, z1, z2, z3, z4, l1, l2, l3, l4⟩ := ft1.get
   clear i28
   have i28 := v28.intss
   refine .mv rfl (.nil (hK12 _ _ ?_))
   refine .ret ?_
   refine hret _ _ ?_
   refine ⟨_, _, _, _, _, rfl, ag_30_D, (by rfl), (Mem.of_get at8001x2), rfl, ?_⟩
   obtain ⟨e1, e2⟩ := Prof.col_big h17 (fun hf => by unfold Prof.ColFits at hf; omega)
   rw [e1, e2]
   exact ⟨hle, .zero, rfl, CatR.zero _ _⟩
  try simp only [sps] at h47
  refine .skip ?_
  refine hK9 _ _ (.seq (fun K13 hK13 => ?_))
  refine .regionD mo_B (.q 0 (.q 1 (.q 2 (.q 3 (.q 4 (.q 5 (.q 6 (.q 7 (.q 8 (.q 9 (.q 11 (.q 12 (.q 13 (.q 14 (.q 15 (.q 18 (.q 19 (.q 20 (.q 21 (.q 23 (.q 24 (.q 25 (.q 26 (.q 27 (.or (.c 10 1 (.or (.c 16 1 (.or (.c 17 1 (.or (.c 22 1 (.or (.c 28 1 (.or (.c 29 1 (.q 30 (.c 31 1 (.c 32 1 (.done))))) (.c 31 1 (.c 29 1 (.q 30 (.c 32 1 (.done))))))) (.c 31 1 (.c 28 1 (.c 29 1 (.q 30 (.c 32 1 (.done)))))))) (.c 31 1 (.c 22 1 (.c 28 1 (.c 29 1 (.q 30 (.c 32 1 (.done))))))))) (.c 31 1 (.c 17 1 (.c 22 1 (.c 28 1 (.c 29 1 (.q 30 (.c 32 1 (.done)))))))))) (.c 31 1 (.c 16 1 (.c 17 1 (.c 22 1 (.c 28 1 (.c 29 1 (.q 30 (.c 32 1 (.done))))))))))) (.c 31 1 (.c 10 1 (.c 16 1 (.c 17 1 (.c 22 1 (.c 28 1 (.c 29 1 (.q 30 (.c 32 1 (.done))))))))))))))))))))))))))))))))))) (by kernel_rfl) ?_
  refine .cut [(0, some _), (1, some _), (2, some _), (3, some _), (4, some _), (5, some _), (6, some _), (7, some _), (8, some _), (9, some _), (10, some _), (16, some _), (17, some _), (19, some _), (20, some _), (27, some _), (28, some _), (29, some _), (30, some _), (35, some _), (36, some _), (37, some _), (38, some _), (39, some _), (40, some _), (41, some _), (42, some _), (43, some _), (44, some _), (45, some _), (46, some _), (47, some _)] ⟨rfl, rfl, rfl, rfl, rfl, rfl, rfl, rfl, rfl, rfl, rfl, rfl, rfl, rfl, rfl, rfl, rfl, rfl, rfl, rfl, rfl, rfl, rfl, rfl, rfl, rfl, rfl, rfl, rfl, rfl, rfl, rfl, trivial⟩ (fun rest fr' H' => ∃ g66 g78 g11, Sub ((66, some (.slice (some ⟨g66, 0, none⟩) (m.s.src.length + (m.t.src.map (· + m.s.obj)).length) (m.s.src.length + (m.t.src.map (· + m.s.obj)).length))) :: (78, some (.slice (some ⟨g78, 0, none⟩) (m.s.tgt.length + (m.t.tgt.map (· + m.s.obj)).length) (m.s.tgt.length + (m.t.tgt.map (· + m.s.obj)).length))) :: (11, some (.pointer (some ⟨g11, 0, none⟩))) :: rest) fr' ∧ H10.Le H' ∧ H10.next ≤ g66 ∧ H10.next ≤ g78 ∧ H10.next ≤ g11 ∧ H'.get g66 = some (.row (ints (m.s.src ++ m.t.src.map (· + m.s.obj))) 2 true) ∧ H'.get g78 = some (.row (ints (m.s.tgt ++ m.t.tgt.map (· + m.s.obj))) 2 true) ∧ H'.get g11 = some (.row ([.int .i64 (m.s.obj + m.t.obj), .slice (some ⟨g66, 0, none⟩) (m.s.src.length + (m.t.src.map (· + m.s.obj)).length) (m.s.src.length + (m.t.src.map (· + m.s.obj)).length), .slice (some ⟨g78, 0, none⟩) (m.s.tgt.length + (m.t.tgt.map (· + m.s.obj)).length) (m.s.tgt.length + (m.t.tgt.map (· + m.s.obj)).length), .slice none 0 0, .slice none 0 0]) 30 true) ∧ g66 ≠ g78 ∧ g66 ≠ g11 ∧ g78 ≠ g11) ?_ ?_
  ·
   have hf0 := GHeap.Le.refl H10
   refine .m rfl rfl rfl rfl (.refl _) (.load on_2_A rfl (by first | assumption | exact Mem.of_get at6 0 _ rfl)) ?_
   refine .m rfl rfl rfl rfl (.refl _) (.load on_77_F rfl (by first | assumption | exact Mem.of_get at3005 0 _ rfl)) ?_
   refine .mB rfl rfl rfl rfl (.refl _) (.nilCheck rfl) ?_
   refine .mB rfl rfl rfl rfl (.refl _) (.fieldAddr fo_30_0_B rfl) ?_
   refine .m rfl rfl rfl rfl (.refl _) (.load on_2_A rfl (by assumption)) ?_
   refine .mB rfl rfl rfl rfl (.refl _) (.add rfl rfl rfl (by omega) (by omega)) ?_
   refine .m rfl rfl rfl rfl (.refl _) (.load on_77_F rfl (by first | assumption | exact Mem.of_get at3004 0 _ rfl)) ?_
   refine .mB rfl rfl rfl rfl (.refl _) (.nilCheck rfl) ?_
   refine .mB rfl rfl rfl rfl (.refl _) (.fieldAddr fo_30_1_B rfl) ?_
   refine .m rfl rfl rfl rfl (.refl _) (.load on_22_B rfl (by assumption)) ?_
   refine .m rfl rfl rfl rfl (.refl _) (.load on_77_F rfl (by first | assumption | exact Mem.of_get at3005 0 _ rfl)) ?_
   refine .mB rfl rfl rfl rfl (.refl _) (.nilCheck rfl) ?_
   refine .mB rfl rfl rfl rfl (.refl _) (.fieldAddr fo_30_1_B rfl) ?_
   refine .m rfl rfl rfl rfl (.refl _) (.load on_22_B rfl (by assumption)) ?_
   refine .m rfl rfl rfl rfl (.refl _) (.load on_2_A rfl (by first | assumption | exact Mem.of_get at6 0 _ rfl)) ?_
   refine .m rfl rfl rfl rfl (.refl _) (.load on_77_F rfl (by first | assumption | exact Mem.of_get at3004 0 _ rfl)) ?_
   refine .mB rfl rfl rfl rfl (.refl _) (.nilCheck rfl) ?_
   refine .mB rfl rfl rfl rfl (.refl _) (.fieldAddr fo_30_2_B rfl) ?_
   refine .m rfl rfl rfl rfl (.refl _) (.load on_22_B rfl (by assumption)) ?_
   refine .m rfl rfl rfl rfl (.refl _) (.load on_77_F rfl (by first | assumption | exact Mem.of_get at3005 0 _ rfl)) ?_
   refine .mB rfl rfl rfl rfl (.refl _) (.nilCheck rfl) ?_
   refine .mB rfl rfl rfl rfl (.refl _) (.fieldAddr fo_30_2_B rfl) ?_
   refine .m rfl rfl rfl rfl (.refl _) (.load on_22_B rfl (by assumption)) ?_
   refine .m rfl rfl rfl rfl (.refl _) (.load on_2_A rfl (by first | assumption | exact Mem.of_get at6 0 _ rfl)) ?_
   refine .orI ?_ ?_
   ·
    refine .call1 rfl rfl rfl rfl rfl @Try.call51 rfl (clone_c) ?_
    rintro _ H59 ⟨le59, g59, rfl, at59, ge59⟩
    have hbl := le59
    refine ⟨hbl, ?_⟩
    have nx_H59 := le59.1
    replace hle := hle.trans le59
    replace at1 := le59.2 _ _ at1
    have lt_at59 := GHeap.ltg at59
    replace hf0 := hf0.trans le59
    refine .orI ?_ ?_
    ·
     replace hin := base_hin.mono hle
     clear hb1 fs1 ft1 c101 c111 c121 i21 i31 i41
     have hb1 : Prof.At _ g1 0 m p := ⟨Mem.of_get at1, hin⟩
     obtain ⟨fs1, ft1, c101, c111, c121, i21, i31, i41⟩ := hb1.get
     clear y0 y1 y2 y3 y4 j1 j2 j3 j4 z0 z1 z2 z3 z4 l1 l2 l3 l4
     obtain ⟨y0, y1, y2, y3, y4, j1, j2, j3, j4⟩ := fs1.get
     obtain ⟨z0, z1, z2, z3, z4, l1, l2, l3, l4⟩ := ft1.get
     refine .call1 rfl rfl rfl rfl rfl @Try.call52 rfl (shifted_c (hb := by first | exact q1 | exact q2 | exact q3)) ?_
     rintro _ H65 ⟨le65, g65, rfl, at65, ge65⟩
     replace hbl := hbl.trans le65
     refine ⟨hbl, ?_⟩
     have nx_H65 := le65.1
     replace hle := hle.trans le65
     replace at1 := le65.2 _ _ at1
     replace at59 := le65.2 _ _ at59
     have lt_at65 := GHeap.ltg at65
     replace hf0 := hf0.trans le65
     refine .orI ?_ ?_
     ·
      refine .c1 rfl rfl rfl rfl (.appendL rfl sl_22_A ze_2_E rfl by_2_E sl_22_A rfl rfl (by assumption) (by first | assumption | exact Ints.of_get (by assumption)) (by first | omega | (simp <;> omega)) (by omega) (by omega)) ?_
      rintro _ H66x2 ⟨g66x2, rfl, st66x2, ge66x2, at66x2⟩
      replace hbl := hbl.st st66x2 (fun k hk => ⟨by omega, trivial⟩)
      refine ⟨hbl, ?_⟩
      have nx_H66x2 := st66x2.nx
      replace hle := hle.st st66x2 (fun k hk => ⟨by omega, trivial⟩)
      have ne_g1_g59 : g1 ≠ g59 := by first | assumption | omega
      replace at1 := st66x2.same _ _ ⟨ne_g1_g59, trivial⟩ at1
      have ne_g65_g59 : g65 ≠ g59 := by first | assumption | omega
      replace at65 := st66x2.same _ _ ⟨ne_g65_g59, trivial⟩ at65
      have lt_at66x2 := GHeap.ltg at66x2
      replace hf0 := hf0.st st66x2 (fun k hk => ⟨by omega, trivial⟩)
      refine .orI ?_ ?_
      ·
       replace hin := base_hin.mono hle
       clear hb1 fs1 ft1 c101 c111 c121 i21 i31 i41
       have hb1 : Prof.At _ g1 0 m p := ⟨Mem.of_get at1, hin⟩
       obtain ⟨fs1, ft1, c101, c111, c121, i21, i31, i41⟩ := hb1.get
       clear y0 y1 y2 y3 y4 j1 j2 j3 j4 z0 z1 z2 z3 z4 l1 l2 l3 l4
       obtain ⟨y0, y1, y2, y3, y4, j1, j2, j3, j4⟩ := fs1.get
       obtain ⟨z0, z1, z2, z3, z4, l1, l2, l3, l4⟩ := ft1.get
       refine .call1 rfl rfl rfl rfl rfl @Try.call51 rfl (clone_c) ?_
       rintro _ H71 ⟨le71, g71, rfl, at71, ge71⟩
       replace hbl := hbl.trans le71
       refine ⟨hbl, ?_⟩
       have nx_H71 := le71.1
       replace hle := hle.trans le71
       replace at1 := le71.2 _ _ at1
       replace at65 := le71.2 _ _ at65
       replace at66x2 := le71.2 _ _ at66x2
       have lt_at71 := GHeap.ltg at71
       replace hf0 := hf0.trans le71
       refine .orI ?_ ?_
       ·
        replace hin := base_hin.mono hle
        clear hb1 fs1 ft1 c101 c111 c121 i21 i31 i41
        have hb1 : Prof.At _ g1 0 m p := ⟨Mem.of_get at1, hin⟩
        obtain ⟨fs1, ft1, c101, c111, c121, i21, i31, i41⟩ := hb1.get
        clear y0 y1 y2 y3 y4 j1 j2 j3 j4 z0 z1 z2 z3 z4 l1 l2 l3 l4
        obtain ⟨y0, y1, y2, y3, y4, j1, j2, j3, j4⟩ := fs1.get
        obtain ⟨z0, z1, z2, z3, z4, l1, l2, l3, l4⟩ := ft1.get
        refine .call1 rfl rfl rfl rfl rfl @Try.call52 rfl (shifted_c (hb := by first | exact q1 | exact q2 | exact q3)) ?_
        rintro _ H77 ⟨le77, g77, rfl, at77, ge77⟩
        replace hbl := hbl.trans le77
        refine ⟨hbl, ?_⟩
        have nx_H77 := le77.1
        replace hle := hle.trans le77
        replace at1 := le77.2 _ _ at1
        replace at65 := le77.2 _ _ at65
        replace at66x2 := le77.2 _ _ at66x2
        replace at71 := le77.2 _ _ at71
        have lt_at77 := GHeap.ltg at77
        replace hf0 := hf0.trans le77
        refine .orI ?_ ?_
        ·
         refine .c1 rfl rfl rfl rfl (.appendL rfl sl_22_A ze_2_E rfl by_2_E sl_22_A rfl rfl (by assumption) (by first | assumption | exact Ints.of_get (by assumption)) (by first | omega | (simp <;> omega)) (by omega) (by omega)) ?_
         rintro _ H78x2 ⟨g78x2, rfl, st78x2, ge78x2, at78x2⟩
         replace hbl := hbl.st st78x2 (fun k hk => ⟨by omega, trivial⟩)
         refine ⟨hbl, ?_⟩
         have nx_H78x2 := st78x2.nx
         replace hle := hle.st st78x2 (fun k hk => ⟨by omega, trivial⟩)
         have ne_g1_g71 : g1 ≠ g71 := by first | assumption | omega
         replace at1 := st78x2.same _ _ ⟨ne_g1_g71, trivial⟩ at1
         have ne_g65_g71 : g65 ≠ g71 := by first | assumption | omega
         replace at65 := st78x2.same _ _ ⟨ne_g65_g71, trivial⟩ at65
         have ne_g66x2_g71 : g66x2 ≠ g71 := by first | assumption | omega
         replace at66x2 := st78x2.same _ _ ⟨ne_g66x2_g71, trivial⟩ at66x2
         have ne_g77_g71 : g77 ≠ g71 := by first | assumption | omega
         replace at77 := st78x2.same _ _ ⟨ne_g77_g71, trivial⟩ at77
         have lt_at78x2 := GHeap.ltg at78x2
         replace hf0 := hf0.st st78x2 (fun k hk => ⟨by omega, trivial⟩)
         refine .mB rfl rfl rfl rfl hbl (.build bt_30_Hj rfl rfl rfl) ?_
         refine .c1 rfl rfl rfl rfl (.allocR rfl ze_30_E rfl) ?_
         rintro _ H11x2 ⟨g11x2, rfl, le11x2, ge11x2, at11x2⟩
         replace hbl := hbl.trans le11x2
         refine ⟨hbl, ?_⟩
         have nx_H11x2 := le11x2.1
         replace hle := hle.trans le11x2
         replace at1 := le11x2.2 _ _ at1
         replace at65 := le11x2.2 _ _ at65
         replace at66x2 := le11x2.2 _ _ at66x2
         replace at77 := le11x2.2 _ _ at77
         replace at78x2 := le11x2.2 _ _ at78x2
         have lt_at11x2 := GHeap.ltg at11x2
         replace hf0 := hf0.trans le11x2
         refine .r1 rfl rfl rfl (.fillR rfl sz_30_D rfl rfl rfl rfl (by assumption) (by first | rfl | exact Nat.le_of_ble_eq_true rfl | simp)) ?_
         rintro _ H9032 ⟨rfl, st9032, at9032⟩
         replace hbl := hbl.st st9032 (fun k hk => ⟨by omega, trivial⟩)
         refine ⟨hbl, ?_⟩
         have nx_H9032 := st9032.nx
         replace hle := hle.st st9032 (fun k hk => ⟨by omega, trivial⟩)
         replace at1 := st9032.same _ _ ⟨(by first | assumption | omega), trivial⟩ at1
         replace at65 := st9032.same _ _ ⟨(by first | assumption | omega), trivial⟩ at65
         replace at66x2 := st9032.same _ _ ⟨(by first | assumption | omega), trivial⟩ at66x2
         replace at77 := st9032.same _ _ ⟨(by first | assumption | omega), trivial⟩ at77
         replace at78x2 := st9032.same _ _ ⟨(by first | assumption | omega), trivial⟩ at78x2
         have lt_at9032 := GHeap.ltg at9032
         replace hf0 := hf0.st st9032 (fun k hk => ⟨by omega, trivial⟩)
         refine .done ?_
         exact ⟨g66x2, g78x2, g11x2, ⟨rfl, rfl, rfl, rfl, rfl, rfl, rfl, rfl, rfl, rfl, rfl, rfl, rfl, rfl, rfl, rfl, rfl, rfl, rfl, rfl, rfl, rfl, rfl, rfl, rfl, rfl, rfl, rfl, rfl, rfl, rfl, rfl, rfl, rfl, rfl, trivial⟩, hf0, by omega, by omega, by omega, by first | assumption | simpa using at66x2, by first | assumption | simpa using at78x2, by first | assumption | simpa using at9032, by omega, by omega, by omega⟩
        refine .c1 rfl rfl rfl rfl (.allocR rfl ze_30_E rfl) ?_
        rintro _ H11x3 ⟨g11x3, rfl, le11x3, ge11x3, at11x3⟩
        replace hbl := hbl.trans le11x3
        refine ⟨hbl, ?_⟩
        have nx_H11x3 := le11x3.1
        replace hle := hle.trans le11x3
        replace at1 := le11x3.2 _ _ at1
        replace at65 := le11x3.2 _ _ at65
        replace at66x2 := le11x3.2 _ _ at66x2
        replace at71 := le11x3.2 _ _ at71
        replace at77 := le11x3.2 _ _ at77
        have lt_at11x3 := GHeap.ltg at11x3
        replace hf0 := hf0.trans le11x3
        refine .c1 rfl rfl rfl rfl (.appendL rfl sl_22_A ze_2_E rfl by_2_E sl_22_A rfl rfl (by assumption) (by first | assumption | exact Ints.of_get (by assumption)) (by first | omega | (simp <;> omega)) (by omega) (by omega)) ?_
        rintro _ H78x3 ⟨g78x3, rfl, st78x3, ge78x3, at78x3⟩
        replace hbl := hbl.st st78x3 (fun k hk => ⟨by omega, trivial⟩)
        refine ⟨hbl, ?_⟩
        have nx_H78x3 := st78x3.nx
        replace hle := hle.st st78x3 (fun k hk => ⟨by omega, trivial⟩)
        have ne_g1_g71 : g1 ≠ g71 := by first | assumption | omega
        replace at1 := st78x3.same _ _ ⟨ne_g1_g71, trivial⟩ at1
        have ne_g65_g71 : g65 ≠ g71 := by first | assumption | omega
        replace at65 := st78x3.same _ _ ⟨ne_g65_g71, trivial⟩ at65
        have ne_g66x2_g71 : g66x2 ≠ g71 := by first | assumption | omega
        replace at66x2 := st78x3.same _ _ ⟨ne_g66x2_g71, trivial⟩ at66x2
        have ne_g77_g71 : g77 ≠ g71 := by first | assumption | omega
        replace at77 := st78x3.same _ _ ⟨ne_g77_g71, trivial⟩ at77
        replace at11x3 := st78x3.same _ _ ⟨(by first | assumption | omega), trivial⟩ at11x3
        have lt_at78x3 := GHeap.ltg at78x3
        replace hf0 := hf0.st st78x3 (fun k hk => ⟨by omega, trivial⟩)
        refine .mB rfl rfl rfl rfl hbl (.build bt_30_Hj rfl rfl rfl) ?_
        refine .r1 rfl rfl rfl (.fillR rfl sz_30_D rfl rfl rfl rfl (by assumption) (by first | rfl | exact Nat.le_of_ble_eq_true rfl | simp)) ?_
        rintro _ H9032x2 ⟨rfl, st9032x2, at9032x2⟩
        replace hbl := hbl.st st9032x2 (fun k hk => ⟨by omega, trivial⟩)
        refine ⟨hbl, ?_⟩
        have nx_H9032x2 := st9032x2.nx
        replace hle := hle.st st9032x2 (fun k hk => ⟨by omega, trivial⟩)
        replace at1 := st9032x2.same _ _ ⟨(by first | assumption | omega), trivial⟩ at1
        replace at65 := st9032x2.same _ _ ⟨(by first | assumption | omega), trivial⟩ at65
        replace at66x2 := st9032x2.same _ _ ⟨(by first | assumption | omega), trivial⟩ at66x2
        replace at77 := st9032x2.same _ _ ⟨(by first | assumption | omega), trivial⟩ at77
        replace at78x3 := st9032x2.same _ _ ⟨(by first | assumption | omega), trivial⟩ at78x3
        have lt_at9032x2 := GHeap.ltg at9032x2
        replace hf0 := hf0.st st9032x2 (fun k hk => ⟨by omega, trivial⟩)
        refine .done ?_
        exact ⟨g66x2, g78x3, g11x3, ⟨rfl, rfl, rfl, rfl, rfl, rfl, rfl, rfl, rfl, rfl, rfl, rfl, rfl, rfl, rfl, rfl, rfl, rfl, rfl, rfl, rfl, rfl, rfl, rfl, rfl, rfl, rfl, rfl, rfl, rfl, rfl, rfl, rfl, rfl, rfl, trivial⟩, hf0, by omega, by omega, by omega, by first | assumption | simpa using at66x2, by first | assumption | simpa using at78x3, by first | assumption | simpa using at9032x2, by omega, by omega, by omega⟩
       refine .c1 rfl rfl rfl rfl (.allocR rfl ze_30_E rfl) ?_
       rintro _ H11x4 ⟨g11x4, rfl, le11x4, ge11x4, at11x4⟩
       replace hbl := hbl.trans le11x4
       refine ⟨hbl, ?_⟩
       have nx_H11x4 := le11x4.1
       replace hle := hle.trans le11x4
       replace at1 := le11x4.2 _ _ at1
       replace at65 := le11x4.2 _ _ at65
       replace at66x2 := le11x4.2 _ _ at66x2
       replace at71 := le11x4.2 _ _ at71
       have lt_at11x4 := GHeap.ltg at11x4
       replace hf0 := hf0.trans le11x4
       replace hin := base_hin.mono hle
       clear hb1 fs1 ft1 c101 c111 c121 i21 i31 i41
       have hb1 : Prof.At _ g1 0 m p := ⟨Mem.of_get at1, hin⟩
       obtain ⟨fs1, ft1, c101, c111, c121, i21, i31, i41⟩ := hb1.get
       clear y0 y1 y2 y3 y4 j1 j2 j3 j4 z0 z1 z2 z3 z4 l1 l2 l3 l4
       obtain ⟨y0, y1, y2, y3, y4, j1, j2, j3, j4⟩ := fs1.get
       obtain ⟨z0, z1, z2, z3, z4, l1, l2, l3, l4⟩ := ft1.get
       refine .call1 rfl rfl rfl rfl rfl @Try.call52 rfl (shifted_c (hb := by first | exact q1 | exact q2 | exact q3)) ?_
       rintro _ H77x2 ⟨le77x2, g77x2, rfl, at77x2, ge77x2⟩
       replace hbl := hbl.trans le77x2
       refine ⟨hbl, ?_⟩
       have nx_H77x2 := le77x2.1
       replace hle := hle.trans le77x2
       replace at1 := le77x2.2 _ _ at1
       replace at65 := le77x2.2 _ _ at65
       replace at66x2 := le77x2.2 _ _ at66x2
       replace at71 := le77x2.2 _ _ at71
       replace at11x4 := le77x2.2 _ _ at11x4
       have lt_at77x2 := GHeap.ltg at77x2
       replace hf0 := hf0.trans le77x2
       refine .c1 rfl rfl rfl rfl (.appendL rfl sl_22_A ze_2_E rfl by_2_E sl_22_A rfl rfl (by assumption) (by first | assumption | exact Ints.of_get (by assumption)) (by first | omega | (simp <;> omega)) (by omega) (by omega)) ?_
       rintro _ H78x4 ⟨g78x4, rfl, st78x4, ge78x4, at78x4⟩
       replace hbl := hbl.st st78x4 (fun k hk => ⟨by omega, trivial⟩)
       refine ⟨hbl, ?_⟩
       have nx_H78x4 := st78x4.nx
       replace hle := hle.st st78x4 (fun k hk => ⟨by omega, trivial⟩)
       have ne_g1_g71 : g1 ≠ g71 := by first | assumption | omega
       replace at1 := st78x4.same _ _ ⟨ne_g1_g71, trivial⟩ at1
       have ne_g65_g71 : g65 ≠ g71 := by first | assumption | omega
       replace at65 := st78x4.same _ _ ⟨ne_g65_g71, trivial⟩ at65
       have ne_g66x2_g71 : g66x2 ≠ g71 := by first | assumption | omega
       replace at66x2 := st78x4.same _ _ ⟨ne_g66x2_g71, trivial⟩ at66x2
       replace at11x4 := st78x4.same _ _ ⟨(by first | assumption | omega), trivial⟩ at11x4
       replace at77x2 := st78x4.same _ _ ⟨(by first | assumption | omega), trivial⟩ at77x2
       have lt_at78x4 := GHeap.ltg at78x4
       replace hf0 := hf0.st st78x4 (fun k hk => ⟨by omega, trivial⟩)
       refine .mB rfl rfl rfl rfl hbl (.build bt_30_Hj rfl rfl rfl) ?_
       refine .r1 rfl rfl rfl (.fillR rfl sz_30_D rfl rfl rfl rfl (by assumption) (by first | rfl | exact Nat.le_of_ble_eq_true rfl | simp)) ?_
       rintro _ H9032x3 ⟨rfl, st9032x3, at9032x3⟩
       replace hbl := hbl.st st9032x3 (fun k hk => ⟨by omega, trivial⟩)
       refine ⟨hbl, ?_⟩
       have nx_H9032x3 := st9032x3.nx
       replace hle := hle.st st9032x3 (fun k hk => ⟨by omega, trivial⟩)
       replace at1 := st9032x3.same _ _ ⟨(by first | assumption | omega), trivial⟩ at1
       replace at65 := st9032x3.same _ _ ⟨(by first | assumption | omega), trivial⟩ at65
       replace at66x2 := st9032x3.same _ _ ⟨(by first | assumption | omega), trivial⟩ at66x2
       replace at77x2 := st9032x3.same _ _ ⟨(by first | assumption | omega), trivial⟩ at77x2
       replace at78x4 := st9032x3.same _ _ ⟨(by first | assumption | omega), trivial⟩ at78x4
       have lt_at9032x3 := GHeap.ltg at9032x3
       replace hf0 := hf0.st st9032x3 (fun k hk => ⟨by omega, trivial⟩)
       refine .done ?_
       exact ⟨g66x2, g78x4, g11x4, ⟨rfl, rfl, rfl, rfl, rfl, rfl, rfl, rfl, rfl, rfl, rfl, rfl, rfl, rfl, rfl, rfl, rfl, rfl, rfl, rfl, rfl, rfl, rfl, rfl, rfl, rfl, rfl, rfl, rfl, rfl, rfl, rfl, rfl, rfl, rfl, trivial⟩, hf0, by omega, by omega, by omega, by first | assumption | simpa using at66x2, by first | assumption | simpa using at78x4, by first | assumption | simpa using at9032x3, by omega, by omega, by omega⟩
      refine .c1 rfl rfl rfl rfl (.allocR rfl ze_30_E rfl) ?_
      rintro _ H11x5 ⟨g11x5, rfl, le11x5, ge11x5, at11x5⟩
      replace hbl := hbl.trans le11x5
      refine ⟨hbl, ?_⟩
      have nx_H11x5 := le11x5.1
      replace hle := hle.trans le11x5
      replace at1 := le11x5.2 _ _ at1
      replace at65 := le11x5.2 _ _ at65
      replace at66x2 := le11x5.2 _ _ at66x2
      have lt_at11x5 := GHeap.ltg at11x5
      replace hf0 := hf0.trans le11x5
      replace hin := base_hin.mono hle
      clear hb1 fs1 ft1 c101 c111 c121 i21 i31 i41
      have hb1 : Prof.At _ g1 0 m p := ⟨Mem.of_get at1, hin⟩
      obtain ⟨fs1, ft1, c101, c111, c121, i21, i31, i41⟩ := hb1.get
      clear y0 y1 y2 y3 y4 j1 j2 j3 j4 z0 z1 z2 z3 z4 l1 l2 l3 l4
      obtain ⟨y0, y1, y2, y3, y4, j1, j2, j3, j4⟩ := fs1.get
      obtain ⟨z0, z1, z2, z3, z4, l1, l2, l3, l4⟩ := ft1.get
      refine .call1 rfl rfl rfl rfl rfl @Try.call51 rfl (clone_c) ?_
      rintro _ H71x2 ⟨le71x2, g71x2, rfl, at71x2, ge71x2⟩
      replace hbl := hbl.trans le71x2
      refine ⟨hbl, ?_⟩
      have nx_H71x2 := le71x2.1
      replace hle := hle.trans le71x2
      replace at1 := le71x2.2 _ _ at1
      replace at65 := le71x2.2 _ _ at65
      replace at66x2 := le71x2.2 _ _ at66x2
      replace at11x5 := le71x2.2 _ _ at11x5
      have lt_at71x2 := GHeap.ltg at71x2
      replace hf0 := hf0.trans le71x2
      replace hin := base_hin.mono hle
      clear hb1 fs1 ft1 c101 c111 c121 i21 i31 i41
      have hb1 : Prof.At _ g1 0 m p := ⟨Mem.of_get at1, hin⟩
      obtain ⟨fs1, ft1, c101, c111, c121, i21, i31, i41⟩ := hb1.get
      clear y0 y1 y2 y3 y4 j1 j2 j3 j4 z0 z1 z2 z3 z4 l1 l2 l3 l4
      obtain ⟨y0, y1, y2, y3, y4, j1, j2, j3, j4⟩ := fs1.get
      obtain ⟨z0, z1, z2, z3, z4, l1, l2, l3, l4⟩ := ft1.get
      refine .call1 rfl rfl rfl rfl rfl @Try.call52 rfl (shifted_c (hb := by first | exact q1 | exact q2 | exact q3)) ?_
      rintro _ H77x3 ⟨le77x3, g77x3, rfl, at77x3, ge77x3⟩
      replace hbl := hbl.trans le77x3
      refine ⟨hbl, ?_⟩
      have nx_H77x3 := le77x3.1
      replace hle := hle.trans le77x3
      replace at1 := le77x3.2 _ _ at1
      replace at65 := le77x3.2 _ _ at65
      replace at66x2 := le77x3.2 _ _ at66x2
      replace at11x5 := le77x3.2 _ _ at11x5
      replace at71x2 := le77x3.2 _ _ at71x2
      have lt_at77x3 := GHeap.ltg at77x3
      replace hf0 := hf0.trans le77x3
      refine .c1 rfl rfl rfl rfl (.appendL rfl sl_22_A ze_2_E rfl by_2_E sl_22_A rfl rfl (by assumption) (by first | assumption | exact Ints.of_get (by assumption)) (by first | omega | (simp <;> omega)) (by omega) (by omega)) ?_
      rintro _ H78x5 ⟨g78x5, rfl, st78x5, ge78x5, at78x5⟩
      replace hbl := hbl.st st78x5 (fun k hk => ⟨by omega, trivial⟩)
      refine ⟨hbl, ?_⟩
      have nx_H78x5 := st78x5.nx
      replace hle := hle.st st78x5 (fun k hk => ⟨by omega, trivial⟩)
      replace at1 := st78x5.same _ _ ⟨(by first | assumption | omega), trivial⟩ at1
      replace at65 := st78x5.same _ _ ⟨(by first | assumption | omega), trivial⟩ at65
      replace at66x2 := st78x5.same _ _ ⟨(by first | assumption | omega), trivial⟩ at66x2
      replace at11x5 := st78x5.same _ _ ⟨(by first | assumption | omega), trivial⟩ at11x5
      replace at77x3 := st78x5.same _ _ ⟨(by first | assumption | omega), trivial⟩ at77x3
      have lt_at78x5 := GHeap.ltg at78x5
      replace hf0 := hf0.st st78x5 (fun k hk => ⟨by omega, trivial⟩)
      refine .mB rfl rfl rfl rfl hbl (.build bt_30_Hj rfl rfl rfl) ?_
      refine .r1 rfl rfl rfl (.fillR rfl sz_30_D rfl rfl rfl rfl (by assumption) (by first | rfl | exact Nat.le_of_ble_eq_true rfl | simp)) ?_
      rintro _ H9032x4 ⟨rfl, st9032x4, at9032x4⟩
      replace hbl := hbl.st st9032x4 (fun k hk => ⟨by omega, trivial⟩)
      refine ⟨hbl, ?_⟩
      have nx_H9032x4 := st9032x4.nx
      replace hle := hle.st st9032x4 (fun k hk => ⟨by omega, trivial⟩)
      replace at1 := st9032x4.same _ _ ⟨(by first | assumption | omega), trivial⟩ at1
      replace at65 := st9032x4.same _ _ ⟨(by first | assumption | omega), trivial⟩ at65
      replace at66x2 := st9032x4.same _ _ ⟨(by first | assumption | omega), trivial⟩ at66x2
      replace at77x3 := st9032x4.same _ _ ⟨(by first | assumption | omega), trivial⟩ at77x3
      replace at78x5 := st9032x4.same _ _ ⟨(by first | assumption | omega), trivial⟩ at78x5
      have lt_at9032x4 := GHeap.ltg at9032x4
      replace hf0 := hf0.st st9032x4 (fun k hk => ⟨by omega, trivial⟩)
      refine .done ?_
      exact ⟨g66x2, g78x5, g11x5, ⟨rfl, rfl, rfl, rfl, rfl, rfl, rfl, rfl, rfl, rfl, rfl, rfl, rfl, rfl, rfl, rfl, rfl, rfl, rfl, rfl, rfl, rfl, rfl, rfl, rfl, rfl, rfl, rfl, rfl, rfl, rfl, rfl, rfl, rfl, rfl, trivial⟩, hf0, by omega, by omega, by omega, by first | assumption | simpa using at66x2, by first | assumption | simpa using at78x5, by first | assumption | simpa using at9032x4, by omega, by omega, by omega⟩
     refine .c1 rfl rfl rfl rfl (.allocR rfl ze_30_E rfl) ?_
     rintro _ H11x6 ⟨g11x6, rfl, le11x6, ge11x6, at11x6⟩
     replace hbl := hbl.trans le11x6
     refine ⟨hbl, ?_⟩
     have nx_H11x6 := le11x6.1
     replace hle := hle.trans le11x6
     replace at1 := le11x6.2 _ _ at1
     replace at59 := le11x6.2 _ _ at59
     replace at65 := le11x6.2 _ _ at65
     have lt_at11x6 := GHeap.ltg at11x6
     replace hf0 := hf0.trans le11x6
     refine .c1 rfl rfl rfl rfl (.appendL rfl sl_22_A ze_2_E rfl by_2_E sl_22_A rfl rfl (by assumption) (by first | assumption | exact Ints.of_get (by assumption)) (by first | omega | (simp <;> omega)) (by omega) (by omega)) ?_
     rintro _ H66x3 ⟨g66x3, rfl, st66x3, ge66x3, at66x3⟩
     replace hbl := hbl.st st66x3 (fun k hk => ⟨by omega, trivial⟩)
     refine ⟨hbl, ?_⟩
     have nx_H66x3 := st66x3.nx
     replace hle := hle.st st66x3 (fun k hk => ⟨by omega, trivial⟩)
     have ne_g1_g59 : g1 ≠ g59 := by first | assumption | omega
     replace at1 := st66x3.same _ _ ⟨ne_g1_g59, trivial⟩ at1
     have ne_g65_g59 : g65 ≠ g59 := by first | assumption | omega
     replace at65 := st66x3.same _ _ ⟨ne_g65_g59, trivial⟩ at65
     replace at11x6 := st66x3.same _ _ ⟨(by first | assumption | omega), trivial⟩ at11x6
     have lt_at66x3 := GHeap.ltg at66x3
     replace hf0 := hf0.st st66x3 (fun k hk => ⟨by omega, trivial⟩)
     replace hin := base_hin.mono hle
     clear hb1 fs1 ft1 c101 c111 c121 i21 i31 i41
     have hb1 : Prof.At _ g1 0 m p := ⟨Mem.of_get at1, hin⟩
     obtain ⟨fs1, ft1, c101, c111, c121, i21, i31, i41⟩ := hb1.get
     clear y0 y1 y2 y3 y4 j1 j2 j3 j4 z0 z1 z2 z3 z4 l1 l2 l3 l4
     obtain ⟨y0, y1, y2, y3, y4, j1, j2, j3, j4⟩ := fs1.get
     obtain ⟨z0, z1, z2, z3, z4, l1, l2, l3, l4⟩ := ft1.get
     refine .call1 rfl rfl rfl rfl rfl @Try.call51 rfl (clone_c) ?_
     rintro _ H71x3 ⟨le71x3, g71x3, rfl, at71x3, ge71x3⟩
     replace hbl := hbl.trans le71x3
     refine ⟨hbl, ?_⟩
     have nx_H71x3 := le71x3.1
     replace hle := hle.trans le71x3
     replace at1 := le71x3.2 _ _ at1
     replace at65 := le71x3.2 _ _ at65
     replace at11x6 := le71x3.2 _ _ at11x6
     replace at66x3 := le71x3.2 _ _ at66x3
     have lt_at71x3 := GHeap.ltg at71x3
     replace hf0 := hf0.trans le71x3
     replace hin := base_hin.mono hle
     clear hb1 fs1 ft1 c101 c111 c121 i21 i31 i41
     have hb1 : Prof.At _ g1 0 m p := ⟨Mem.of_get at1, hin⟩
     obtain ⟨fs1, ft1, c101, c111, c121, i21, i31, i41⟩ := hb1.get
     clear y0 y1 y2 y3 y4 j1 j2 j3 j4 z0 z1 z2 z3 z4 l1 l2 l3 l4
     obtain ⟨y0, y1, y2, y3, y4, j1, j2, j3, j4⟩ := fs1.get
     obtain ⟨z0, z1, z2, z3, z4, l1, l2, l3, l4⟩ := ft1.get
     refine .call1 rfl rfl rfl rfl rfl @Try.call52 rfl (shifted_c (hb := by first | exact q1 | exact q2 | exact q3)) ?_
     rintro _ H77x4 ⟨le77x4, g77x4, rfl, at77x4, ge77x4⟩
     replace hbl := hbl.trans le77x4
     refine ⟨hbl, ?_⟩
     have nx_H77x4 := le77x4.1
     replace hle := hle.trans le77x4
     replace at1 := le77x4.2 _ _ at1
     replace at65 := le77x4.2 _ _ at65
     replace at11x6 := le77x4.2 _ _ at11x6
     replace at66x3 := le77x4.2 _ _ at66x3
     replace at71x3 := le77x4.2 _ _ at71x3
     have lt_at77x4 := GHeap.ltg at77x4
     replace hf0 := hf0.trans le77x4
     refine .c1 rfl rfl rfl rfl (.appendL rfl sl_22_A ze_2_E rfl by_2_E sl_22_A rfl rfl (by assumption) (by first | assumption | exact Ints.of_get (by assumption)) (by first | omega | (simp <;> omega)) (by omega) (by omega)) ?_
     rintro _ H78x6 ⟨g78x6, rfl, st78x6, ge78x6, at78x6⟩
     replace hbl := hbl.st st78x6 (fun k hk => ⟨by omega, trivial⟩)
     refine ⟨hbl, ?_⟩
     have nx_H78x6 := st78x6.nx
     replace hle := hle.st st78x6 (fun k hk => ⟨by omega, trivial⟩)
     replace at1 := st78x6.same _ _ ⟨(by first | assumption | omega), trivial⟩ at1
     replace at65 := st78x6.same _ _ ⟨(by first | assumption | omega), trivial⟩ at65
     replace at11x6 := st78x6.same _ _ ⟨(by first | assumption | omega), trivial⟩ at11x6
     replace at66x3 := st78x6.same _ _ ⟨(by first | assumption | omega), trivial⟩ at66x3
     replace at77x4 := st78x6.same _ _ ⟨(by first | assumption | omega), trivial⟩ at77x4
     have lt_at78x6 := GHeap.ltg at78x6
     replace hf0 := hf0.st st78x6 (fun k hk => ⟨by omega, trivial⟩)
     refine .mB rfl rfl rfl rfl hbl (.build bt_30_Hj rfl rfl rfl) ?_
     refine .r1 rfl rfl rfl (.fillR rfl sz_30_D rfl rfl rfl rfl (by assumption) (by first | rfl | exact Nat.le_of_ble_eq_true rfl | simp)) ?_
     rintro _ H9032x5 ⟨rfl, st9032x5, at9032x5⟩
     replace hbl := hbl.st st9032x5 (fun k hk => ⟨by omega, trivial⟩)
     refine ⟨hbl, ?_⟩
     have nx_H9032x5 := st9032x5.nx
     replace hle := hle.st st9032x5 (fun k hk => ⟨by omega, trivial⟩)
     replace at1 := st9032x5.same _ _ ⟨(by first | assumption | omega), trivial⟩ at1
     replace at65 := st9032x5.same _ _ ⟨(by first | assumption | omega), trivial⟩ at65
     replace at66x3 := st9032x5.same _ _ ⟨(by first | assumption | omega), trivial⟩ at66x3
     replace at77x4 := st9032x5.same _ _ ⟨(by first | assumption | omega), trivial⟩ at77x4
     replace at78x6 := st9032x5.same _ _ ⟨(by first | assumption | omega), trivial⟩ at78x6
     have lt_at9032x5 := GHeap.ltg at9032x5
     replace hf0 := hf0.st st9032x5 (fun k hk => ⟨by omega, trivial⟩)
     refine .done ?_
     exact ⟨g66x3, g78x6, g11x6, ⟨rfl, rfl, rfl, rfl, rfl, rfl, rfl, rfl, rfl, rfl, rfl, rfl, rfl, rfl, rfl, rfl, rfl, rfl, rfl, rfl, rfl, rfl, rfl, rfl, rfl, rfl, rfl, rfl, rfl, rfl, rfl, rfl, rfl, rfl, rfl, trivial⟩, hf0, by omega, by omega, by omega, by first | assumption | simpa using at66x3, by first | assumption | simpa using at78x6, by first | assumption | simpa using at9032x5, by omega, by omega, by omega⟩
    refine .c1 rfl rfl rfl rfl (.allocR rfl ze_30_E rfl) ?_
    rintro _ H11x7 ⟨g11x7, rfl, le11x7, ge11x7, at11x7⟩
    replace hbl := hbl.trans le11x7
    refine ⟨hbl, ?_⟩
    have nx_H11x7 := le11x7.1
    replace hle := hle.trans le11x7
    replace at1 := le11x7.2 _ _ at1
    replace at59 := le11x7.2 _ _ at59
    have lt_at11x7 := GHeap.ltg at11x7
    replace hf0 := hf0.trans le11x7
    replace hin := base_hin.mono hle
    clear hb1 fs1 ft1 c101 c111 c121 i21 i31 i41
    have hb1 : Prof.At _ g1 0 m p := ⟨Mem.of_get at1, hin⟩
    obtain ⟨fs1, ft1, c101, c111, c121, i21, i31, i41⟩ := hb1.get
    clear y0 y1 y2 y3 y4 j1 j2 j3 j4 z0 z1 z2 z3 z4 l1 l2 l3 l4
    obtain ⟨y0, y1, y2, y3, y4, j1, j2, j3, j4⟩ := fs1.get
    obtain ⟨z0, z1, z2, z3, z4, l1, l2, l3, l4⟩ := ft1.get
    refine .call1 rfl rfl rfl rfl rfl @Try.call52 rfl (shifted_c (hb := by first | exact q1 | exact q2 | exact q3)) ?_
    rintro _ H65x2 ⟨le65x2, g65x2, rfl, at65x2, ge65x2⟩
    replace hbl := hbl.trans le65x2
    refine ⟨hbl, ?_⟩
    have nx_H65x2 := le65x2.1
    replace hle := hle.trans le65x2
    replace at1 := le65x2.2 _ _ at1
    replace at59 := le65x2.2 _ _ at59
    replace at11x7 := le65x2.2 _ _ at11x7
    have lt_at65x2 := GHeap.ltg at65x2
    replace hf0 := hf0.trans le65x2
    refine .c1 rfl rfl rfl rfl (.appendL rfl sl_22_A ze_2_E rfl by_2_E sl_22_A rfl rfl (by assumption) (by first | assumption | exact Ints.of_get (by assumption)) (by first | omega | (simp <;> omega)) (by omega) (by omega)) ?_
    rintro _ H66x4 ⟨g66x4, rfl, st66x4, ge66x4, at66x4⟩
    replace hbl := hbl.st st66x4 (fun k hk => ⟨by omega, trivial⟩)
    refine ⟨hbl, ?_⟩
    have nx_H66x4 := st66x4.nx
    replace hle := hle.st st66x4 (fun k hk => ⟨by omega, trivial⟩)
    have ne_g1_g59 : g1 ≠ g59 := by first | assumption | omega
    replace at1 := st66x4.same _ _ ⟨ne_g1_g59, trivial⟩ at1
    replace at11x7 := st66x4.same _ _ ⟨(by first | assumption | omega), trivial⟩ at11x7
    replace at65x2 := st66x4.same _ _ ⟨(by first | assumption | omega), trivial⟩ at65x2
    have lt_at66x4 := GHeap.ltg at66x4
    replace hf0 := hf0.st st66x4 (fun k hk => ⟨by omega, trivial⟩)
    replace hin := base_hin.mono hle
    clear hb1 fs1 ft1 c101 c111 c121 i21 i31 i41
    have hb1 : Prof.At _ g1 0 m p := ⟨Mem.of_get at1, hin⟩
    obtain ⟨fs1, ft1, c101, c111, c121, i21, i31, i41⟩ := hb1.get
    clear y0 y1 y2 y3 y4 j1 j2 j3 j4 z0 z1 z2 z3 z4 l1 l2 l3 l4
    obtain ⟨y0, y1, y2, y3, y4, j1, j2, j3, j4⟩ := fs1.get
    obtain ⟨z0, z1, z2, z3, z4, l1, l2, l3, l4⟩ := ft1.get
    refine .call1 rfl rfl rfl rfl rfl @Try.call51 rfl (clone_c) ?_
    rintro _ H71x4 ⟨le71x4, g71x4, rfl, at71x4, ge71x4⟩
    replace hbl := hbl.trans le71x4
    refine ⟨hbl, ?_⟩
    have nx_H71x4 := le71x4.1
    replace hle := hle.trans le71x4
    replace at1 := le71x4.2 _ _ at1
    replace at11x7 := le71x4.2 _ _ at11x7
    replace at65x2 := le71x4.2 _ _ at65x2
    replace at66x4 := le71x4.2 _ _ at66x4
    have lt_at71x4 := GHeap.ltg at71x4
    replace hf0 := hf0.trans le71x4
    replace hin := base_hin.mono hle
    clear hb1 fs1 ft1 c101 c111 c121 i21 i31 i41
    have hb1 : Prof.At _ g1 0 m p := ⟨Mem.of_get at1, hin⟩
    obtain ⟨fs1, ft1, c101, c111, c121, i21, i31, i41⟩ := hb1.get
    clear y0 y1 y2 y3 y4 j1 j2 j3 j4 z0 z1 z2 z3 z4 l1 l2 l3 l4
    obtain ⟨y0, y1, y2, y3, y4, j1, j2, j3, j4⟩ := fs1.get
    obtain ⟨z0, z1, z2, z3, z4, l1, l2, l3, l4⟩ := ft1.get
    refine .call1 rfl rfl rfl rfl rfl @Try.call52 rfl (shifted_c (hb := by first | exact q1 | exact q2 | exact q3)) ?_
    rintro _ H77x5 ⟨le77x5, g77x5, rfl, at77x5, ge77x5⟩
    replace hbl := hbl.trans le77x5
    refine ⟨hbl, ?_⟩
    have nx_H77x5 := le77x5.1
    replace hle := hle.trans le77x5
    replace at1 := le77x5.2 _ _ at1
    replace at11x7 := le77x5.2 _ _ at11x7
    replace at65x2 := le77x5.2 _ _ at65x2
    replace at66x4 := le77x5.2 _ _ at66x4
    replace at71x4 := le77x5.2 _ _ at71x4
    have lt_at77x5 := GHeap.ltg at77x5
    replace hf0 := hf0.trans le77x5
    refine .c1 rfl rfl rfl rfl (.appendL rfl sl_22_A ze_2_E rfl by_2_E sl_22_A rfl rfl (by assumption) (by first | assumption | exact Ints.of_get (by assumption)) (by first | omega | (simp <;> omega)) (by omega) (by omega)) ?_
    rintro _ H78x7 ⟨g78x7, rfl, st78x7, ge78x7, at78x7⟩
    replace hbl := hbl.st st78x7 (fun k hk => ⟨by omega, trivial⟩)
    refine ⟨hbl, ?_⟩
    have nx_H78x7 := st78x7.nx
    replace hle := hle.st st78x7 (fun k hk => ⟨by omega, trivial⟩)
    replace at1 := st78x7.same _ _ ⟨(by first | assumption | omega), trivial⟩ at1
    replace at11x7 := st78x7.same _ _ ⟨(by first | assumption | omega), trivial⟩ at11x7
    replace at65x2 := st78x7.same _ _ ⟨(by first | assumption | omega), trivial⟩ at65x2
    replace at66x4 := st78x7.same _ _ ⟨(by first | assumption | omega), trivial⟩ at66x4
    replace at77x5 := st78x7.same _ _ ⟨(by first | assumption | omega), trivial⟩ at77x5
    have lt_at78x7 := GHeap.ltg at78x7
    replace hf0 := hf0.st st78x7 (fun k hk => ⟨by omega, trivial⟩)
    refine .mB rfl rfl rfl rfl hbl (.build bt_30_Hj rfl rfl rfl) ?_
    refine .r1 rfl rfl rfl (.fillR rfl sz_30_D rfl rfl rfl rfl (by assumption) (by first | rfl | exact Nat.le_of_ble_eq_true rfl | simp)) ?_
    rintro _ H9032x6 ⟨rfl, st9032x6, at9032x6⟩
    replace hbl := hbl.st st9032x6 (fun k hk => ⟨by omega, trivial⟩)
    refine ⟨hbl, ?_⟩
    have nx_H9032x6 := st9032x6.nx
    replace hle := hle.st st9032x6 (fun k hk => ⟨by omega, trivial⟩)
    replace at1 := st9032x6.same _ _ ⟨(by first | assumption | omega), trivial⟩ at1
    replace at65x2 := st9032x6.same _ _ ⟨(by first | assumption | omega), trivial⟩ at65x2
    replace at66x4 := st9032x6.same _ _ ⟨(by first | assumption | omega), trivial⟩ at66x4
    replace at77x5 := st9032x6.same _ _ ⟨(by first | assumption | omega), trivial⟩ at77x5
    replace at78x7 := st9032x6.same _ _ ⟨(by first | assumption | omega), trivial⟩ at78x7
    have lt_at9032x6 := GHeap.ltg at9032x6
    replace hf0 := hf0.st st9032x6 (fun k hk => ⟨by omega, trivial⟩)
    refine .done ?_
    exact ⟨g66x4, g78x7, g11x7, ⟨rfl, rfl, rfl, rfl, rfl, rfl, rfl, rfl, rfl, rfl, rfl, rfl, rfl, rfl, rfl, rfl, rfl, rfl, rfl, rfl, rfl, rfl, rfl, rfl, rfl, rfl, rfl, rfl, rfl, rfl, rfl, rfl, rfl, rfl, rfl, trivial⟩, hf0, by omega, by omega, by omega, by first | assumption | simpa using at66x4, by first | assumption | simpa using at78x7, by first | assumption | simpa using at9032x6, by omega, by omega, by omega⟩
   refine .c1 rfl rfl rfl rfl (.allocR rfl ze_30_E rfl) ?_
   rintro _ H11x8 ⟨g11x8, rfl, le11x8, ge11x8, at11x8⟩
   have hbl := le11x8
   refine ⟨hbl, ?_⟩
   have nx_H11x8 := le11x8.1
   replace hle := hle.trans le11x8
   replace at1 := le11x8.2 _ _ at1
   have lt_at11x8 := GHeap.ltg at11x8
   replace hf0 := hf0.trans le11x8
   replace hin := base_hin.mono hle
   clear hb1 fs1 ft1 c101 c111 c121 i21 i31 i41
   have hb1 : Prof.At _ g1 0 m p := ⟨Mem.of_get at1, hin⟩
   obtain ⟨fs1, ft1, c101, c111, c121, i21, i31, i41⟩ := hb1.get
   clear y0 y1 y2 y3 y4 j1 j2 j3 j4 z0 z1 z2 z3 z4 l1 l2 l3 l4
   obtain ⟨y0, y1, y2, y3, y4, j1, j2, j3, j4⟩ := fs1.get
   obtain ⟨z0, z1, z2, z3, z4, l1, l2, l3, l4⟩ := ft1.get
   refine .call1 rfl rfl rfl rfl rfl @Try.call51 rfl (clone_c) ?_
   rintro _ H59x2 ⟨le59x2, g59x2, rfl, at59x2, ge59x2⟩
   replace hbl := hbl.trans le59x2
   refine ⟨hbl, ?_⟩
   have nx_H59x2 := le59x2.1
   replace hle := hle.trans le59x2
   replace at1 := le59x2.2 _ _ at1
   replace at11x8 := le59x2.2 _ _ at11x8
   have lt_at59x2 := GHeap.ltg at59x2
   replace hf0 := hf0.trans le59x2
   replace hin := base_hin.mono hle
   clear hb1 fs1 ft1 c101 c111 c121 i21 i31 i41
   have hb1 : Prof.At _ g1 0 m p := ⟨Mem.of_get at1, hin⟩
   obtain ⟨fs1, ft1, c101, c111, c121, i21, i31, i41⟩ := hb1.get
   clear y0 y1 y2 y3 y4 j1 j2 j3 j4 z0 z1 z2 z3 z4 l1 l2 l3 l4
   obtain ⟨y0, y1, y2, y3, y4, j1, j2, j3, j4⟩ := fs1.get
   obtain ⟨z0, z1, z2, z3, z4, l1, l2, l3, l4⟩ := ft1.get
   refine .call1 rfl rfl rfl rfl rfl @Try.call52 rfl (shifted_c (hb := by first | exact q1 | exact q2 | exact q3)) ?_
   rintro _ H65x3 ⟨le65x3, g65x3, rfl, at65x3, ge65x3⟩
   replace hbl := hbl.trans le65x3
   refine ⟨hbl, ?_⟩
   have nx_H65x3 := le65x3.1
   replace hle := hle.trans le65x3
   replace at1 := le65x3.2 _ _ at1
   replace at11x8 := le65x3.2 _ _ at11x8
   replace at59x2 := le65x3.2 _ _ at59x2
   have lt_at65x3 := GHeap.ltg at65x3
   replace hf0 := hf0.trans le65x3
   refine .c1 rfl rfl rfl rfl (.appendL rfl sl_22_A ze_2_E rfl by_2_E sl_22_A rfl rfl (by assumption) (by first | assumption | exact Ints.of_get (by assumption)) (by first | omega | (simp <;> omega)) (by omega) (by omega)) ?_
   rintro _ H66x5 ⟨g66x5, rfl, st66x5, ge66x5, at66x5⟩
   replace hbl := hbl.st st66x5 (fun k hk => ⟨by omega, trivial⟩)
   refine ⟨hbl, ?_⟩
   have nx_H66x5 := st66x5.nx
   replace hle := hle.st st66x5 (fun k hk => ⟨by omega, trivial⟩)
   replace at1 := st66x5.same _ _ ⟨(by first | assumption | omega), trivial⟩ at1
   replace at11x8 := st66x5.same _ _ ⟨(by first | assumption | omega), trivial⟩ at11x8
   replace at65x3 := st66x5.same _ _ ⟨(by first | assumption | omega), trivial⟩ at65x3
   have lt_at66x5 := GHeap.ltg at66x5
   replace hf0 := hf0.st st66x5 (fun k hk => ⟨by omega, trivial⟩)
   replace hin := base_hin.mono hle
   clear hb1 fs1 ft1 c101 c111 c121 i21 i31 i41
   have hb1 : Prof.At _ g1 0 m p := ⟨Mem.of_get at1, hin⟩
   obtain ⟨fs1, ft1, c101, c111, c121, i21, i31, i41⟩ := hb1.get
   clear y0 y1 y2 y3 y4 j1 j2 j3 j4 z0 z1 z2 z3 z4 l1 l2 l3 l4
   obtain ⟨y0, y1, y2, y3, y4, j1, j2, j3, j4⟩ := fs1.get
   obtain ⟨z0, z1, z2, z3, z4, l1, l2, l3, l4⟩ := ft1.get
   refine .call1 rfl rfl rfl rfl rfl @Try.call51 rfl (clone_c) ?_
   rintro _ H71x5 ⟨le71x5, g71x5, rfl, at71x5, ge71x5⟩
   replace hbl := hbl.trans le71x5
   refine ⟨hbl, ?_⟩
   have nx_H71x5 := le71x5.1
   replace hle := hle.trans le71x5
   replace at1 := le71x5.2 _ _ at1
   replace at11x8 := le71x5.2 _ _ at11x8
   replace at65x3 := le71x5.2 _ _ at65x3
   replace at66x5 := le71x5.2 _ _ at66x5
   have lt_at71x5 := GHeap.ltg at71x5
   replace hf0 := hf0.trans le71x5
   replace hin := base_hin.mono hle
   clear hb1 fs1 ft1 c101 c111 c121 i21 i31 i41
   have hb1 : Prof.At _ g1 0 m p := ⟨Mem.of_get at1, hin⟩
   obtain ⟨fs1, ft1, c101, c111, c121, i21, i31, i41⟩ := hb1.get
   clear y0 y1 y2 y3 y4 j1 j2 j3 j4 z0 z1 z2 z3 z4 l1 l2 l3 l4
   obtain ⟨y0, y1, y2, y3, y4, j1, j2, j3, j4⟩ := fs1.get
   obtain ⟨z0, z1, z2, z3, z4, l1, l2, l3, l4⟩ := ft1.get
   refine .call1 rfl rfl rfl rfl rfl @Try.call52 rfl (shifted_c (hb := by first | exact q1 | exact q2 | exact q3)) ?_
   rintro _ H77x6 ⟨le77x6, g77x6, rfl, at77x6, ge77x6⟩
   replace hbl := hbl.trans le77x6
   refine ⟨hbl, ?_⟩
   have nx_H77x6 := le77x6.1
   replace hle := hle.trans le77x6
   replace at1 := le77x6.2 _ _ at1
   replace at11x8 := le77x6.2 _ _ at11x8
   replace at65x3 := le77x6.2 _ _ at65x3
   replace at66x5 := le77x6.2 _ _ at66x5
   replace at71x5 := le77x6.2 _ _ at71x5
   have lt_at77x6 := GHeap.ltg at77x6
   replace hf0 := hf0.trans le77x6
   refine .c1 rfl rfl rfl rfl (.appendL rfl sl_22_A ze_2_E rfl by_2_E sl_22_A rfl rfl (by assumption) (by first | assumption | exact Ints.of_get (by assumption)) (by first | omega | (simp <;> omega)) (by omega) (by omega)) ?_
   rintro _ H78x8 ⟨g78x8, rfl, st78x8, ge78x8, at78x8⟩
   replace hbl := hbl.st st78x8 (fun k hk => ⟨by omega, trivial⟩)
   refine ⟨hbl, ?_⟩
   have nx_H78x8 := st78x8.nx
   replace hle := hle.st st78x8 (fun k hk => ⟨by omega, trivial⟩)
   replace at1 := st78x8.same _ _ ⟨(by first | assumption | omega), trivial⟩ at1
   replace at11x8 := st78x8.same _ _ ⟨(by first | assumption | omega), trivial⟩ at11x8
   replace at65x3 := st78x8.same _ _ ⟨(by first | assumption | omega), trivial⟩ at65x3
   replace at66x5 := st78x8.same _ _ ⟨(by first | assumption | omega), trivial⟩ at66x5
   replace at77x6 := st78x8.same _ _ ⟨(by first | assumption | omega), trivial⟩ at77x6
   have lt_at78x8 := GHeap.ltg at78x8
   replace hf0 := hf0.st st78x8 (fun k hk => ⟨by omega, trivial⟩)
   refine .mB rfl rfl rfl rfl hbl (.build bt_30_Hj rfl rfl rfl) ?_
   refine .r1 rfl rfl rfl (.fillR rfl sz_30_D rfl rfl rfl rfl (by assumption) (by first | rfl | exact Nat.le_of_ble_eq_true rfl | simp)) ?_
   rintro _ H9032x7 ⟨rfl, st9032x7, at9032x7⟩
   replace hbl := hbl.st st9032x7 (fun k hk => ⟨by omega, trivial⟩)
   refine ⟨hbl, ?_⟩
   have nx_H9032x7 := st9032x7.nx
   replace hle := hle.st st9032x7 (fun k hk => ⟨by omega, trivial⟩)
   replace at1 := st9032x7.same _ _ ⟨(by first | assumption | omega), trivial⟩ at1
   replace at65x3 := st9032x7.same _ _ ⟨(by first | assumption | omega), trivial⟩ at65x3
   replace at66x5 := st9032x7.same _ _ ⟨(by first | assumption | omega), trivial⟩ at66x5
   replace at77x6 := st9032x7.same _ _ ⟨(by first | assumption | omega), trivial⟩ at77x6
   replace at78x8 := st9032x7.same _ _ ⟨(by first | assumption | omega), trivial⟩ at78x8
   have lt_at9032x7 := GHeap.ltg at9032x7
   replace hf0 := hf0.st st9032x7 (fun k hk => ⟨by omega, trivial⟩)
   refine .done ?_
   exact ⟨g66x5, g78x8, g11x8, ⟨rfl, rfl, rfl, rfl, rfl, rfl, rfl, rfl, rfl, rfl, rfl, rfl, rfl, rfl, rfl, rfl, rfl, rfl, rfl, rfl, rfl, rfl, rfl, rfl, rfl, rfl, rfl, rfl, rfl, rfl, rfl, rfl, rfl, rfl, rfl, trivial⟩, hf0, by omega, by omega, by omega, by first | assumption | simpa using at66x5, by first | assumption | simpa using at78x8, by first | assumption | simpa using at9032x7, by omega, by omega, by omega⟩
  rintro fr11 H11 ⟨g66, g78, g11, hsub11, le11, ge66, ge78, ge11, at66, at78, at11, ne11_0, ne11_1, ne11_2⟩
  have nx_H11 := le11.1
  replace hle := hle.trans le11
  replace at1 := le11.2 _ _ at1
  replace at2 := le11.2 _ _ at2
  replace at3004 := le11.2 _ _ at3004
  replace at3005 := le11.2 _ _ at3005
  replace at6 := le11.2 _ _ at6
  replace at7 := le11.2 _ _ at7
  replace at5005 := le11.2 _ _ at5005
  replace at10 := le11.2 _ _ at10
  replace lv_v28 := Keep.le lv_v28 le11
  replace v28 := bs_v28.keep lv_v28 (Nat.le_refl _)
  have lt_at66 := GHeap.ltg at66
  have lt_at78 := GHeap.ltg at78
  have lt_at11 := GHeap.ltg at11
  replace hin := base_hin.mono hle
  clear hb1 fs1 ft1 c101 c111 c121 i21 i31 i41
  have hb1 : Prof.At _ g1 0 m p := ⟨Mem.of_get at1, hin⟩
  obtain ⟨fs1, ft1, c101, c111, c121, i21, i31, i41⟩ := hb1.get
  clear y0 y1 y2 y3 y4 j1 j2 j3 j4 z0 z1 z2 z3 z4 l1 l2 l3 l4
  obtain ⟨y0, y1, y2, y3, y4, j1, j2, j3, j4⟩ := fs1.get
  obtain ⟨z0, z1, z2, z3, z4, l1, l2, l3, l4⟩ := ft1.get
  clear i28
  have i28 := v28.intss
  refine hK13 _ _ ?_
  refine .forget hsub11 ?_
  refine .seq (fun K14 hK14 => ?_)
  refine .regionD mo_B (.q 0 (.q 1 (.q 2 (.q 3 (.q 5 (.q 6 (.q 7 (.q 8 (.q 9 (.c 4 1 (.c 10 0 (.c 11 0 (.q 12 (.c 13 0 (.done))))))))))))))) (by kernel_rfl) ?_
  refine .m rfl rfl rfl rfl (.refl _) (.load on_77_F rfl (by first | assumption | exact Mem.of_get at3004 0 _ rfl)) ?_
  refine .m rfl rfl rfl rfl (.refl _) (.nilCheck rfl) (.m rfl rfl rfl rfl (.refl _) (.fieldAddr fo_30_3_B rfl) ?_)
  refine .m rfl rfl rfl rfl (.refl _) (.load on_22_B rfl (by assumption)) ?_
  refine .m rfl rfl rfl rfl (.refl _) (.load on_77_F rfl (by first | assumption | exact Mem.of_get at3005 0 _ rfl)) ?_
  refine .m rfl rfl rfl rfl (.refl _) (.nilCheck rfl) (.m rfl rfl rfl rfl (.refl _) (.fieldAddr fo_30_3_B rfl) ?_)
  refine .m rfl rfl rfl rfl (.refl _) (.load on_22_B rfl (by assumption)) ?_
  refine .m rfl rfl rfl rfl (.refl _) (.load on_2_A rfl (by first | assumption | exact Mem.of_get at7 0 _ rfl)) ?_
  refine .call1 rfl rfl rfl rfl rfl @Try.call51 rfl (clone_c) ?_
  rintro _ H84 ⟨le84, g84, rfl, at84, ge84⟩
  have hbl := le84
  refine ⟨hbl, ?_⟩
  have nx_H84 := le84.1
  replace hle := hle.trans le84
  replace at1 := le84.2 _ _ at1
  replace at2 := le84.2 _ _ at2
  replace at3004 := le84.2 _ _ at3004
  replace at3005 := le84.2 _ _ at3005
  replace at6 := le84.2 _ _ at6
  replace at7 := le84.2 _ _ at7
  replace at5005 := le84.2 _ _ at5005
  replace at10 := le84.2 _ _ at10
  replace at66 := le84.2 _ _ at66
  replace at78 := le84.2 _ _ at78
  replace at11 := le84.2 _ _ at11
  replace lv_v28 := Keep.le lv_v28 le84
  replace v28 := bs_v28.keep lv_v28 (Nat.le_refl _)
  have lt_at84 := GHeap.ltg at84
  replace hin := base_hin.mono hle
  clear hb1 fs1 ft1 c101 c111 c121 i21 i31 i41
  have hb1 : Prof.At _ g1 0 m p := ⟨Mem.of_get at1, hin⟩
  obtain ⟨fs1, ft1, c101, c111, c121, i21, i31, i41⟩ := hb1.get
  clear y0 y1 y2 y3 y4 j1 j2 j3 j4 z0 z1 z2 z3 z4 l1 l2 l3 l4
  obtain ⟨y0, y1, y2, y3, y4, j1, j2, j3, j4⟩ := fs1.get
  obtain ⟨z0, z1, z2, z3, z4, l1, l2, l3, l4⟩ := ft1.get
  clear i28
  have i28 := v28.intss
  refine .call0 rfl rfl rfl rfl rfl @Try.call52 rfl (shifted_c (hb := by first | exact q1 | exact q2 | exact q3)) ?_
  rintro _ H90 ⟨le90, g90, rfl, at90, ge90⟩
  have nx_H90 := le90.1
  replace hle := hle.trans le90
  replace at1 := le90.2 _ _ at1
  replace at2 := le90.2 _ _ at2
  replace at3004 := le90.2 _ _ at3004
  replace at3005 := le90.2 _ _ at3005
  replace at6 := le90.2 _ _ at6
  replace at7 := le90.2 _ _ at7
  replace at5005 := le90.2 _ _ at5005
  replace at10 := le90.2 _ _ at10
  replace at66 := le90.2 _ _ at66
  replace at78 := le90.2 _ _ at78
  replace at11 := le90.2 _ _ at11
  replace at84 := le90.2 _ _ at84
  replace lv_v28 := Keep.le lv_v28 le90
  replace v28 := bs_v28.keep lv_v28 (Nat.le_refl _)
  have lt_at90 := GHeap.ltg at90
  replace hin := base_hin.mono hle
  clear hb1 fs1 ft1 c101 c111 c121 i21 i31 i41
  have hb1 : Prof.At _ g1 0 m p := ⟨Mem.of_get at1, hin⟩
  obtain ⟨fs1, ft1, c101, c111, c121, i21, i31, i41⟩ := hb1.get
  clear y0 y1 y2 y3 y4 j1 j2 j3 j4 z0 z1 z2 z3 z4 l1 l2 l3 l4
  obtain ⟨y0, y1, y2, y3, y4, j1, j2, j3, j4⟩ := fs1.get
  obtain ⟨z0, z1, z2, z3, z4, l1, l2, l3, l4⟩ := ft1.get
  clear i28
  have i28 := v28.intss
  refine .c0 rfl rfl rfl rfl (.appendL rfl sl_22_A ze_2_E rfl by_2_E sl_22_A rfl rfl (by assumption) (by first | assumption | exact Ints.of_get (by assumption)) (by first | omega | (simp <;> omega)) (by omega) (by omega)) ?_
  rintro _ H91 ⟨g91, rfl, st91, ge91, at91⟩
  have nx_H91 := st91.nx
  replace hle := hle.st st91 (fun k hk => ⟨by omega, trivial⟩)
  replace at1 := st91.same _ _ ⟨(by first | assumption | omega), trivial⟩ at1
  replace at2 := st91.same _ _ ⟨(by first | assumption | omega), trivial⟩ at2
  replace at3004 := st91.same _ _ ⟨(by first | assumption | omega), trivial⟩ at3004
  replace at3005 := st91.same _ _ ⟨(by first | assumption | omega), trivial⟩ at3005
  replace at6 := st91.same _ _ ⟨(by first | assumption | omega), trivial⟩ at6
  replace at7 := st91.same _ _ ⟨(by first | assumption | omega), trivial⟩ at7
  replace at5005 := st91.same _ _ ⟨(by first | assumption | omega), trivial⟩ at5005
  replace at10 := st91.same _ _ ⟨(by first | assumption | omega), trivial⟩ at10
  replace at66 := st91.same _ _ ⟨(by first | assumption | omega), trivial⟩ at66
  replace at78 := st91.same _ _ ⟨(by first | assumption | omega), trivial⟩ at78
  replace at11 := st91.same _ _ ⟨(by first | assumption | omega), trivial⟩ at11
  replace at90 := st91.same _ _ ⟨(by first | assumption | omega), trivial⟩ at90
  replace lv_v28 := Keep.st lv_v28 st91 (fun k hb hk => ⟨(by omega), trivial⟩)
  replace v28 := bs_v28.keep lv_v28 (Nat.le_refl _)
  have lt_at91 := GHeap.ltg at91
  replace hin := base_hin.mono hle
  clear hb1 fs1 ft1 c101 c111 c121 i21 i31 i41
  have hb1 : Prof.At _ g1 0 m p := ⟨Mem.of_get at1, hin⟩
  obtain ⟨fs1, ft1, c101, c111, c121, i21, i31, i41⟩ := hb1.get
  clear y0 y1 y2 y3 y4 j1 j2 j3 j4 z0 z1 z2 z3 z4 l1 l2 l3 l4
  obtain ⟨y0, y1, y2, y3, y4, j1, j2, j3, j4⟩ := fs1.get
  obtain ⟨z0, z1, z2, z3, z4, l1, l2, l3, l4⟩ := ft1.get
  clear i28
  have i28 := v28.intss
  refine .m rfl rfl rfl rfl (.refl _) (.fieldAddr fo_30_3_B rfl) ?_
  refine .r0 rfl rfl rfl (.storeR rfl sz_22_E rfl rfl rfl (by assumption) (by first | exact Nat.le_of_ble_eq_true rfl | (simp; done) | (simp <;> omega))) ?_
  rintro _ H10013 ⟨rfl, st10013, at10013⟩
  have nx_H10013 := st10013.nx
  replace hle := hle.st st10013 (fun k hk => ⟨by omega, trivial⟩)
  have ne_g1_g11 : g1 ≠ g11 := by first | assumption | omega
  replace at1 := st10013.same _ _ ⟨ne_g1_g11, trivial⟩ at1
  have ne_g2_g11 : g2 ≠ g11 := by first | assumption | omega
  replace at2 := st10013.same _ _ ⟨ne_g2_g11, trivial⟩ at2
  have ne_g4_g11 : g4 ≠ g11 := by first | assumption | omega
  replace at3004 := st10013.same _ _ ⟨ne_g4_g11, trivial⟩ at3004
  have ne_g5_g11 : g5 ≠ g11 := by first | assumption | omega
  replace at3005 := st10013.same _ _ ⟨ne_g5_g11, trivial⟩ at3005
  have ne_g6_g11 : g6 ≠ g11 := by first | assumption | omega
  replace at6 := st10013.same _ _ ⟨ne_g6_g11, trivial⟩ at6
  have ne_g7_g11 : g7 ≠ g11 := by first | assumption | omega
  replace at7 := st10013.same _ _ ⟨ne_g7_g11, trivial⟩ at7
  have ne_g8_g11 : g8 ≠ g11 := by first | assumption | omega
  replace at5005 := st10013.same _ _ ⟨ne_g8_g11, trivial⟩ at5005
  have ne_g10_g11 : g10 ≠ g11 := by first | assumption | omega
  replace at10 := st10013.same _ _ ⟨ne_g10_g11, trivial⟩ at10
  replace at66 := st10013.same _ _ ⟨(by first | assumption | omega), trivial⟩ at66
  replace at78 := st10013.same _ _ ⟨(by first | assumption | omega), trivial⟩ at78
  replace at90 := st10013.same _ _ ⟨(by first | assumption | omega), trivial⟩ at90
  have ne_g91_g11 : g91 ≠ g11 := by first | assumption | omega
  replace at91 := st10013.same _ _ ⟨ne_g91_g11, trivial⟩ at91
  replace lv_v28 := Keep.st lv_v28 st10013 (fun k hb hk => ⟨(by omega), trivial⟩)
  replace v28 := bs_v28.keep lv_v28 (Nat.le_refl _)
  have lt_at10013 := GHeap.ltg at10013
  replace hin := base_hin.mono hle
  clear hb1 fs1 ft1 c101 c111 c121 i21 i31 i41
  have hb1 : Prof.At _ g1 0 m p := ⟨Mem.of_get at1, hin⟩
  obtain ⟨fs1, ft1, c101, c111, c121, i21, i31, i41⟩ := hb1.get
  clear y0 y1 y2 y3 y4 j1 j2 j3 j4 z0 z1 z2 z3 z4 l1 l2 l3 l4
  obtain ⟨y0, y1, y2, y3, y4, j1, j2, j3, j4⟩ := fs1.get
  obtain ⟨z0, z1, z2, z3, z4, l1, l2, l3, l4⟩ := ft1.get
  clear i28
  have i28 := v28.intss
  try simp only [Nat.zero_add, List.set_cons_succ, List.set_cons_zero] at at10013
  refine .done ?_
  refine hK14 _ _ (.seq (fun K15 hK15 => .seq (fun K16 hK16 => .region (.m rfl rfl rfl (.fieldAddr fo_34_2_VProf rfl) ?_))))
  refine .m rfl rfl rfl (.load on_23_B rfl (by first | assumption | exact Mem.of_get at1 10 _ rfl)) ?_
  refine .m rfl rfl rfl (.len sl_23_B rfl) (.mv rfl (.nil (hK16 _ _ ?_)))
  refine .block ?_
  refine .loopR (σ := Nat × Nat × Nat) [(1, some _), (2, some _), (4, some _), (5, some _), (6, some _), (7, some _), (8, some _), (10, some _), (11, some _), (94, some _), (95, some _)] (fun (x, gLF, gLT) => [(96, some (.int .i64 (x : Int)))]) (fun (x, gLF, gLT) H' => St [g66, g78, g11] H10013 H' ∧ H'.get gLF = some (.row (ints (m.colSp x 0 0)) 2 true) ∧ PL gLF g66 H10013.next ∧ H'.get gLT = some (.row (ints (m.colTp x 0 0)) 2 true) ∧ PL gLT g78 H10013.next ∧ H'.get g11 = some (.row ([.int .i64 (m.s.obj + m.t.obj), .slice (some ⟨gLF, 0, none⟩) (m.colSp x 0 0).length (m.colSp x 0 0).length, .slice (some ⟨gLT, 0, none⟩) (m.colTp x 0 0).length (m.colTp x 0 0).length, .slice (some ⟨g91, 0, none⟩) (m.s.idn.length + (m.t.idn.map (· + (m.s.src.length : Int))).length) (m.s.idn.length + (m.t.idn.map (· + (m.s.src.length : Int))).length), .slice none 0 0]) 30 true) ∧ gLF ≠ gLT ∧ gLF ≠ g11 ∧ gLT ≠ g11 ∧ x ≤ m.sz.length) (fun (x, gLF, gLT) => m.sz.length - x) ((0, g66, g78)) ⟨rfl, rfl, rfl, rfl, rfl, rfl, rfl, rfl, rfl, rfl, rfl, trivial⟩ ⟨rfl, trivial⟩ ?_ ?_
  ·
   refine ⟨.refl _ _, by first | assumption | (rw [Prof.colSp_zero]; assumption) | (rw [Prof.colTp_zero]; assumption) | (rw [Prof.colSp_zero, Prof.colTp_zero, List.length_append, List.length_append]; assumption), ⟨.inl rfl⟩, by first | assumption | (rw [Prof.colSp_zero]; assumption) | (rw [Prof.colTp_zero]; assumption) | (rw [Prof.colSp_zero, Prof.colTp_zero, List.length_append, List.length_append]; assumption), ⟨.inl rfl⟩, by first | assumption | (rw [Prof.colSp_zero]; assumption) | (rw [Prof.colTp_zero]; assumption) | (rw [Prof.colSp_zero, Prof.colTp_zero, List.length_append, List.length_append]; assumption), by omega, by omega, by omega, ?_⟩
   omega
  rintro ⟨x, gLF, gLT⟩ HL1 ⟨lst1, at_LF, pl_LF, at_LT, pl_LT, at_Lg11, ap1_0, ap1_1, ap1_2, hI⟩ KL1 hKL1
  refine .forget (fr' := [(96, some (.int .i64 (x : Int))), (1, some _), (2, some _), (4, some _), (5, some _), (6, some _), (7, some _), (8, some _), (10, some _), (11, some _), (94, some _), (95, some _)]) ⟨rfl, rfl, rfl, rfl, rfl, rfl, rfl, rfl, rfl, rfl, rfl, rfl, trivial⟩ ?_
  have ge_LF : H.next ≤ gLF := pl_LF.ge (by omega) (by omega)
  have ge_LT : H.next ≤ gLT := pl_LT.ge (by omega) (by omega)
  have nx_HL1 := lst1.nx
  replace hle := hle.st lst1 (fun k hk => ⟨by omega, by omega, by omega, trivial⟩)
  have ne_g1_g66 : g1 ≠ g66 := by first | assumption | omega
  have ne_g1_g78 : g1 ≠ g78 := by first | assumption | omega
  replace at1 := lst1.same _ _ ⟨ne_g1_g66, ne_g1_g78, ne_g1_g11, trivial⟩ at1
  have ne_g2_g66 : g2 ≠ g66 := by first | assumption | omega
  have ne_g2_g78 : g2 ≠ g78 := by first | assumption | omega
  replace at2 := lst1.same _ _ ⟨ne_g2_g66, ne_g2_g78, ne_g2_g11, trivial⟩ at2
  have ne_g4_g66 : g4 ≠ g66 := by first | assumption | omega
  have ne_g4_g78 : g4 ≠ g78 := by first | assumption | omega
  replace at3004 := lst1.same _ _ ⟨ne_g4_g66, ne_g4_g78, ne_g4_g11, trivial⟩ at3004
  have ne_g5_g66 : g5 ≠ g66 := by first | assumption | omega
  have ne_g5_g78 : g5 ≠ g78 := by first | assumption | omega
  replace at3005 := lst1.same _ _ ⟨ne_g5_g66, ne_g5_g78, ne_g5_g11, trivial⟩ at3005
  have ne_g6_g66 : g6 ≠ g66 := by first | assumption | omega
  have ne_g6_g78 : g6 ≠ g78 := by first | assumption | omega
  replace at6 := lst1.same _ _ ⟨ne_g6_g66, ne_g6_g78, ne_g6_g11, trivial⟩ at6
  have ne_g7_g66 : g7 ≠ g66 := by first | assumption | omega
  have ne_g7_g78 : g7 ≠ g78 := by first | assumption | omega
  replace at7 := lst1.same _ _ ⟨ne_g7_g66, ne_g7_g78, ne_g7_g11, trivial⟩ at7
  have ne_g8_g66 : g8 ≠ g66 := by first | assumption | omega
  have ne_g8_g78 : g8 ≠ g78 := by first | assumption | omega
  replace at5005 := lst1.same _ _ ⟨ne_g8_g66, ne_g8_g78, ne_g8_g11, trivial⟩ at5005
  have ne_g10_g66 : g10 ≠ g66 := by first | assumption | omega
  have ne_g10_g78 : g10 ≠ g78 := by first | assumption | omega
  replace at10 := lst1.same _ _ ⟨ne_g10_g66, ne_g10_g78, ne_g10_g11, trivial⟩ at10
  have ne_g91_g66 : g91 ≠ g66 := by first | assumption | omega
  have ne_g91_g78 : g91 ≠ g78 := by first | assumption | omega
  replace at91 := lst1.same _ _ ⟨ne_g91_g66, ne_g91_g78, ne_g91_g11, trivial⟩ at91
  replace lv_v28 := Keep.st lv_v28 lst1 (fun k hb hk => ⟨(by omega), (by omega), (by omega), trivial⟩)
  replace v28 := bs_v28.keep lv_v28 (Nat.le_refl _)
  have lt_at_LF := GHeap.ltg at_LF
  have lt_at_LT := GHeap.ltg at_LT
  have lt_at_Lg11 := GHeap.ltg at_Lg11
  replace hin := base_hin.mono hle
  clear hb1 fs1 ft1 c101 c111 c121 i21 i31 i41
  have hb1 : Prof.At _ g1 0 m p := ⟨Mem.of_get at1, hin⟩
  obtain ⟨fs1, ft1, c101, c111, c121, i21, i31, i41⟩ := hb1.get
  clear y0 y1 y2 y3 y4 j1 j2 j3 j4 z0 z1 z2 z3 z4 l1 l2 l3 l4
  obtain ⟨y0, y1, y2, y3, y4, j1, j2, j3, j4⟩ := fs1.get
  obtain ⟨z0, z1, z2, z3, z4, l1, l2, l3, l4⟩ := ft1.get
  clear i28
  have i28 := v28.intss
  have hl1 := Prof.colSp_len (m := m) (x := x) (y := 0) (e := 0)
  have hl2 := hS.colTp_len (x := x) (y := 0) (e := 0)
  have hl3 := hC.leX (x := x) (by omega)
  refine .seq (fun K17 hK17 => .region (.m rfl rfl rfl (.cmp rfl rfl rfl) (.nil (hK17 _ _ (.seq (fun K18 hK18 => ?_))))))
  refine .cond rfl (fun h97 => ?_) (fun h97 => ?_)
  ·
   simp only [sps] at h97
   have hrl := hC.z.row x (by omega)
   have u1 := i21.2 x (by omega)
   refine .skip ?_
   refine hK18 _ _ (.seq (fun K19 hK19 => ?_))
   refine .block ?_
   refine .seq (fun K20 hK20 => .region (.mv rfl ?_))
   refine .m rfl rfl rfl (.idxN sl_23_B (Intss.sl (by assumption)) rfl rfl (by omega)) ?_
   refine .m rfl rfl rfl (.loadR on_22_B (by assumption) rfl (by omega)) ?_
   refine .mv rfl (.mv rfl (.nil (hK20 _ _ (.seq (fun K21 hK21 => .region (.mv rfl (.m rfl rfl rfl (.len sl_22_A rfl) (.mv rfl (.nil (hK21 _ _ ?_))))))))))
   refine .block ?_
   refine .loopR (σ := Nat × Nat × Nat) [(1, some _), (2, some _), (4, some _), (5, some _), (6, some _), (7, some _), (8, some _), (10, some _), (11, some _), (12, some _), (94, some _), (95, some _), (96, some _), (101, some _), (102, some _)] (fun (y, gLF2, gLT2) => [(103, some (.int .i64 (y : Int)))]) (fun (y, gLF2, gLT2) H' => St [gLF, gLT, g11] HL1 H' ∧ H'.get gLF2 = some (.row (ints (m.colSp x y 0)) 2 true) ∧ PL gLF2 gLF HL1.next ∧ H'.get gLT2 = some (.row (ints (m.colTp x y 0)) 2 true) ∧ PL gLT2 gLT HL1.next ∧ H'.get g11 = some (.row ([.int .i64 (m.s.obj + m.t.obj), .slice (some ⟨gLF2, 0, none⟩) (m.colSp x y 0).length (m.colSp x y 0).length, .slice (some ⟨gLT2, 0, none⟩) (m.colTp x y 0).length (m.colTp x y 0).length, .slice (some ⟨g91, 0, none⟩) (m.s.idn.length + (m.t.idn.map (· + (m.s.src.length : Int))).length) (m.s.idn.length + (m.t.idn.map (· + (m.s.src.length : Int))).length), .slice none 0 0]) 30 true) ∧ gLF2 ≠ gLT2 ∧ gLF2 ≠ g11 ∧ gLT2 ≠ g11 ∧ y ≤ (m.sz.getD x []).length) (fun (y, gLF2, gLT2) => (m.sz.getD x []).length - y) ((0, gLF, gLT)) ⟨rfl, rfl, rfl, rfl, rfl, rfl, rfl, rfl, rfl, rfl, rfl, rfl, rfl, rfl, rfl, trivial⟩ ⟨rfl, trivial⟩ ?_ ?_
   ·
    refine ⟨.refl _ _, by first | assumption | exact at_LF | simpa using at_LF, ⟨.inl rfl⟩, by first | assumption | exact at_LT | simpa using at_LT, ⟨.inl rfl⟩, by first | assumption | exact at_Lg11 | simpa using at_Lg11, by omega, by omega, by omega, ?_⟩
    omega
   rintro ⟨y, gLF2, gLT2⟩ HL2 ⟨lst2, at_LF2, pl_LF2, at_LT2, pl_LT2, at_Lg11, ap2_0, ap2_1, ap2_2, hI⟩ KL2 hKL2
   refine .forget (fr' := [(103, some (.int .i64 (y : Int))), (1, some _), (2, some _), (4, some _), (5, some _), (6, some _), (7, some _), (8, some _), (10, some _), (11, some _), (12, some _), (94, some _), (95, some _), (96, some _), (101, some _), (102, some _)]) ⟨rfl, rfl, rfl, rfl, rfl, rfl, rfl, rfl, rfl, rfl, rfl, rfl, rfl, rfl, rfl, rfl, trivial⟩ ?_
   have ge_LF2 : H.next ≤ gLF2 := pl_LF2.ge (by omega) (by omega)
   have ge_LT2 : H.next ≤ gLT2 := pl_LT2.ge (by omega) (by omega)
   have nx_HL2 := lst2.nx
   replace hle := hle.st lst2 (fun k hk => ⟨by omega, by omega, by omega, trivial⟩)
   replace lst1 := lst1.st lst2 (fun k hk ho => by simp only [out, and_true] at ho ⊢ <;> exact ⟨by first | exact ho | exact ho.1 | exact ho.2 | exact ho.2.1 | exact ho.2.2 | exact ho.2.2.1 | exact ho.2.2.2 | exact pl_LF.ne (by first | exact ho | exact ho.1 | exact ho.2 | exact ho.2.1 | exact ho.2.2 | exact ho.2.2.1 | exact ho.2.2.2 | omega) (by omega) | omega, by first | exact ho | exact ho.1 | exact ho.2 | exact ho.2.1 | exact ho.2.2 | exact ho.2.2.1 | exact ho.2.2.2 | exact pl_LT.ne (by first | exact ho | exact ho.1 | exact ho.2 | exact ho.2.1 | exact ho.2.2 | exact ho.2.2.1 | exact ho.2.2.2 | omega) (by omega) | omega, by first | exact ho | exact ho.1 | exact ho.2 | exact ho.2.1 | exact ho.2.2 | exact ho.2.2.1 | exact ho.2.2.2 | omega⟩)
   have ne_g1_gLF : g1 ≠ gLF := pl_LF.ne ne_g1_g66 (by omega)
   have ne_g1_gLT : g1 ≠ gLT := pl_LT.ne ne_g1_g78 (by omega)
   replace at1 := lst2.same _ _ ⟨ne_g1_gLF, ne_g1_gLT, ne_g1_g11, trivial⟩ at1
   have ne_g2_gLF : g2 ≠ gLF := pl_LF.ne ne_g2_g66 (by omega)
   have ne_g2_gLT : g2 ≠ gLT := pl_LT.ne ne_g2_g78 (by omega)
   replace at2 := lst2.same _ _ ⟨ne_g2_gLF, ne_g2_gLT, ne_g2_g11, trivial⟩ at2
   have ne_g4_gLF : g4 ≠ gLF := pl_LF.ne ne_g4_g66 (by omega)
   have ne_g4_gLT : g4 ≠ gLT := pl_LT.ne ne_g4_g78 (by omega)
   replace at3004 := lst2.same _ _ ⟨ne_g4_gLF, ne_g4_gLT, ne_g4_g11, trivial⟩ at3004
   have ne_g5_gLF : g5 ≠ gLF := pl_LF.ne ne_g5_g66 (by omega)
   have ne_g5_gLT : g5 ≠ gLT := pl_LT.ne ne_g5_g78 (by omega)
   replace at3005 := lst2.same _ _ ⟨ne_g5_gLF, ne_g5_gLT, ne_g5_g11, trivial⟩ at3005
   have ne_g6_gLF : g6 ≠ gLF := pl_LF.ne ne_g6_g66 (by omega)
   have ne_g6_gLT : g6 ≠ gLT := pl_LT.ne ne_g6_g78 (by omega)
   replace at6 := lst2.same _ _ ⟨ne_g6_gLF, ne_g6_gLT, ne_g6_g11, trivial⟩ at6
   have ne_g7_gLF : g7 ≠ gLF := pl_LF.ne ne_g7_g66 (by omega)
   have ne_g7_gLT : g7 ≠ gLT := pl_LT.ne ne_g7_g78 (by omega)
   replace at7 := lst2.same _ _ ⟨ne_g7_gLF, ne_g7_gLT, ne_g7_g11, trivial⟩ at7
   have ne_g8_gLF : g8 ≠ gLF := pl_LF.ne ne_g8_g66 (by omega)
   have ne_g8_gLT : g8 ≠ gLT := pl_LT.ne ne_g8_g78 (by omega)
   replace at5005 := lst2.same _ _ ⟨ne_g8_gLF, ne_g8_gLT, ne_g8_g11, trivial⟩ at5005
   have ne_g10_gLF : g10 ≠ gLF := pl_LF.ne ne_g10_g66 (by omega)
   have ne_g10_gLT : g10 ≠ gLT := pl_LT.ne ne_g10_g78 (by omega)
   replace at10 := lst2.same _ _ ⟨ne_g10_gLF, ne_g10_gLT, ne_g10_g11, trivial⟩ at10
   have ne_g91_gLF : g91 ≠ gLF := pl_LF.ne ne_g91_g66 (by omega)
   have ne_g91_gLT : g91 ≠ gLT := pl_LT.ne ne_g91_g78 (by omega)
   replace at91 := lst2.same _ _ ⟨ne_g91_gLF, ne_g91_gLT, ne_g91_g11, trivial⟩ at91
   replace lv_v28 := Keep.st lv_v28 lst2 (fun k hb hk => ⟨(by first | exact pl_LF.ne (by omega) (by omega) | omega), (by first | exact pl_LT.ne (by omega) (by omega) | omega), (by omega), trivial⟩)
   replace v28 := bs_v28.keep lv_v28 (Nat.le_refl _)
   have lt_at_LF2 := GHeap.ltg at_LF2
   have lt_at_LT2 := GHeap.ltg at_LT2
   have lt_at_Lg11 := GHeap.ltg at_Lg11
   replace hin := base_hin.mono hle
   clear hb1 fs1 ft1 c101 c111 c121 i21 i31 i41
   have hb1 : Prof.At _ g1 0 m p := ⟨Mem.of_get at1, hin⟩
   obtain ⟨fs1, ft1, c101, c111, c121, i21, i31, i41⟩ := hb1.get
   clear y0 y1 y2 y3 y4 j1 j2 j3 j4 z0 z1 z2 z3 z4 l1 l2 l3 l4
   obtain ⟨y0, y1, y2, y3, y4, j1, j2, j3, j4⟩ := fs1.get
   obtain ⟨z0, z1, z2, z3, z4, l1, l2, l3, l4⟩ := ft1.get
   clear i28
   have i28 := v28.intss
   clear u1
   have u1 := i21.2 x (by omega)
   have hl1 := Prof.colSp_len (m := m) (x := x) (y := y) (e := 0)
   have hl2 := hS.colTp_len (x := x) (y := y) (e := 0)
   have hl3 := hC.leY (x := x) (y := y) (by omega) (by omega)
   refine .seq (fun K22 hK22 => .region (.m rfl rfl rfl (.cmp rfl rfl rfl) (.nil (hK22 _ _ (.seq (fun K23 hK23 => ?_))))))
   refine .cond rfl (fun h104 => ?_) (fun h104 => ?_)
   ·
    simp only [sps] at h104
    have hz := hC.z.rng x (by omega) y (by omega)
    have r1 : ((List.range ((m.sz.getD x []).getD y 0).toNat).map fun _ => (x : Int)).length = ((m.sz.getD x []).getD y 0).toNat := by simp
    have r2 : ((List.range ((m.sz.getD x []).getD y 0).toNat).map fun _ => m.s.obj + (y : Int)).length = ((m.sz.getD x []).getD y 0).toNat := by simp
    refine .skip ?_
    refine hK23 _ _ (.seq (fun K24 hK24 => ?_))
    refine .block ?_
    refine .seq (fun K25 hK25 => .region (.mv rfl ?_))
    refine .m rfl rfl rfl (.idxN sl_22_A (by assumption) rfl rfl (by omega)) ?_
    refine .m rfl rfl rfl (.loadI on_2_A (by assumption) rfl (by omega)) ?_
    refine .mv rfl (.mv rfl (.nil (hK25 _ _ (.seq (fun K26 hK26 => ?_)))))
    refine .regionD mo_B (.q 0 (.q 1 (.q 2 (.q 3 (.c 4 1 (.c 5 0 (.q 6 (.c 7 0 (.done))))))))) (by kernel_rfl) ?_
    refine .m rfl rfl rfl rfl (.refl _) (.fieldAddr fo_30_1_B rfl) ?_
    refine .m rfl rfl rfl rfl (.refl _) (.load on_22_B rfl (by first | assumption | exact Mem.of_get at_Lg11 1 _ rfl)) ?_
    refine .mv rfl rfl (.mv rfl rfl ?_)
    refine .call1 rfl rfl rfl rfl rfl @Try.call53 rfl (repeated_c) ?_
    rintro _ H112 ⟨le112, g112, rfl, at112, ge112⟩
    have hbl := le112
    refine ⟨hbl, ?_⟩
    have nx_H112 := le112.1
    replace hle := hle.trans le112
    replace lst1 := lst1.le le112
    replace lst2 := lst2.le le112
    replace at1 := le112.2 _ _ at1
    replace at2 := le112.2 _ _ at2
    replace at3004 := le112.2 _ _ at3004
    replace at3005 := le112.2 _ _ at3005
    replace at6 := le112.2 _ _ at6
    replace at7 := le112.2 _ _ at7
    replace at5005 := le112.2 _ _ at5005
    replace at10 := le112.2 _ _ at10
    replace at91 := le112.2 _ _ at91
    replace at_LF2 := le112.2 _ _ at_LF2
    replace at_LT2 := le112.2 _ _ at_LT2
    replace at_Lg11 := le112.2 _ _ at_Lg11
    replace lv_v28 := Keep.le lv_v28 le112
    replace v28 := bs_v28.keep lv_v28 (Nat.le_refl _)
    have lt_at112 := GHeap.ltg at112
    replace hin := base_hin.mono hle
    clear hb1 fs1 ft1 c101 c111 c121 i21 i31 i41
    have hb1 : Prof.At _ g1 0 m p := ⟨Mem.of_get at1, hin⟩
    obtain ⟨fs1, ft1, c101, c111, c121, i21, i31, i41⟩ := hb1.get
    clear y0 y1 y2 y3 y4 j1 j2 j3 j4 z0 z1 z2 z3 z4 l1 l2 l3 l4
    obtain ⟨y0, y1, y2, y3, y4, j1, j2, j3, j4⟩ := fs1.get
    obtain ⟨z0, z1, z2, z3, z4, l1, l2, l3, l4⟩ := ft1.get
    clear i28
    have i28 := v28.intss
    clear u1
    have u1 := i21.2 x (by omega)
    refine .c0 rfl rfl rfl rfl (.appendL rfl sl_22_A ze_2_E rfl by_2_E sl_22_A rfl rfl (by assumption) (by first | assumption | exact Ints.of_get (by assumption)) (by first | omega | (simp <;> omega)) (by omega) (by omega)) ?_
    rintro _ H113 ⟨g113, rfl, st113, ge113, at113⟩
    have nx_H113 := st113.nx
    replace hle := hle.st st113 (fun k hk => ⟨by omega, trivial⟩)
    replace lst1 := lst1.st st113 (fun k hk ho => by simp only [out, and_true] at ho ⊢ <;> first | exact ho | exact ho.1 | exact ho.2 | exact ho.2.1 | exact ho.2.2 | exact ho.2.2.1 | exact ho.2.2.2 | exact pl_LF2.ne (by first | exact ho | exact ho.1 | exact ho.2 | exact ho.2.1 | exact ho.2.2 | exact ho.2.2.1 | exact ho.2.2.2 | exact pl_LF.ne (by first | exact ho | exact ho.1 | exact ho.2 | exact ho.2.1 | exact ho.2.2 | exact ho.2.2.1 | exact ho.2.2.2 | omega) (by omega) | omega) (by omega) | omega)
    replace lst2 := lst2.st st113 (fun k hk ho => by simp only [out, and_true] at ho ⊢ <;> first | exact ho | exact ho.1 | exact ho.2 | exact ho.2.1 | exact ho.2.2 | exact ho.2.2.1 | exact ho.2.2.2 | exact pl_LF2.ne (by first | exact ho | exact ho.1 | exact ho.2 | exact ho.2.1 | exact ho.2.2 | exact ho.2.2.1 | exact ho.2.2.2 | exact pl_LF.ne (by first | exact ho | exact ho.1 | exact ho.2 | exact ho.2.1 | exact ho.2.2 | exact ho.2.2.1 | exact ho.2.2.2 | omega) (by omega) | omega) (by omega) | omega)
    have ne_g1_gLF2 : g1 ≠ gLF2 := pl_LF2.ne ne_g1_gLF (by omega)
    replace at1 := st113.same _ _ ⟨ne_g1_gLF2, trivial⟩ at1
    have ne_g2_gLF2 : g2 ≠ gLF2 := pl_LF2.ne ne_g2_gLF (by omega)
    replace at2 := st113.same _ _ ⟨ne_g2_gLF2, trivial⟩ at2
    have ne_g4_gLF2 : g4 ≠ gLF2 := pl_LF2.ne ne_g4_gLF (by omega)
    replace at3004 := st113.same _ _ ⟨ne_g4_gLF2, trivial⟩ at3004
    have ne_g5_gLF2 : g5 ≠ gLF2 := pl_LF2.ne ne_g5_gLF (by omega)
    replace at3005 := st113.same _ _ ⟨ne_g5_gLF2, trivial⟩ at3005
    have ne_g6_gLF2 : g6 ≠ gLF2 := pl_LF2.ne ne_g6_gLF (by omega)
    replace at6 := st113.same _ _ ⟨ne_g6_gLF2, trivial⟩ at6
    have ne_g7_gLF2 : g7 ≠ gLF2 := pl_LF2.ne ne_g7_gLF (by omega)
    replace at7 := st113.same _ _ ⟨ne_g7_gLF2, trivial⟩ at7
    have ne_g8_gLF2 : g8 ≠ gLF2 := pl_LF2.ne ne_g8_gLF (by omega)
    replace at5005 := st113.same _ _ ⟨ne_g8_gLF2, trivial⟩ at5005
    have ne_g10_gLF2 : g10 ≠ gLF2 := pl_LF2.ne ne_g10_gLF (by omega)
    replace at10 := st113.same _ _ ⟨ne_g10_gLF2, trivial⟩ at10
    have ne_g91_gLF2 : g91 ≠ gLF2 := pl_LF2.ne ne_g91_gLF (by omega)
    replace at91 := st113.same _ _ ⟨ne_g91_gLF2, trivial⟩ at91
    replace at_LT2 := st113.same _ _ ⟨(Ne.symm ap2_0), trivial⟩ at_LT2
    replace at_Lg11 := st113.same _ _ ⟨(Ne.symm ap2_1), trivial⟩ at_Lg11
    replace at112 := st113.same _ _ ⟨(by first | assumption | omega), trivial⟩ at112
    replace lv_v28 := Keep.st lv_v28 st113 (fun k hb hk => ⟨(by first | exact pl_LF2.ne (by first | exact pl_LF.ne (by omega) (by omega) | omega) (by omega) | omega), trivial⟩)
    replace v28 := bs_v28.keep lv_v28 (Nat.le_refl _)
    have lt_at113 := GHeap.ltg at113
    replace hin := base_hin.mono hle
    clear hb1 fs1 ft1 c101 c111 c121 i21 i31 i41
    have hb1 : Prof.At _ g1 0 m p := ⟨Mem.of_get at1, hin⟩
    obtain ⟨fs1, ft1, c101, c111, c121, i21, i31, i41⟩ := hb1.get
    clear y0 y1 y2 y3 y4 j1 j2 j3 j4 z0 z1 z2 z3 z4 l1 l2 l3 l4
    obtain ⟨y0, y1, y2, y3, y4, j1, j2, j3, j4⟩ := fs1.get
    obtain ⟨z0, z1, z2, z3, z4, l1, l2, l3, l4⟩ := ft1.get
    clear i28
    have i28 := v28.intss
    clear u1
    have u1 := i21.2 x (by omega)
    refine .m rfl rfl rfl rfl (.refl _) (.fieldAddr fo_30_1_B rfl) ?_
    refine .r0 rfl rfl rfl (.storeR rfl sz_22_E rfl rfl rfl (by assumption) (by first | exact Nat.le_of_ble_eq_true rfl | (simp; done) | (simp <;> omega))) ?_
    rintro _ H17007 ⟨rfl, st17007, at17007⟩
    have nx_H17007 := st17007.nx
    replace hle := hle.st st17007 (fun k hk => ⟨by omega, trivial⟩)
    replace lst1 := lst1.st st17007 (fun k hk ho => by simp only [out, and_true] at ho ⊢ <;> first | exact ho | exact ho.1 | exact ho.2 | exact ho.2.1 | exact ho.2.2 | exact ho.2.2.1 | exact ho.2.2.2 | omega)
    replace lst2 := lst2.st st17007 (fun k hk ho => by simp only [out, and_true] at ho ⊢ <;> first | exact ho | exact ho.1 | exact ho.2 | exact ho.2.1 | exact ho.2.2 | exact ho.2.2.1 | exact ho.2.2.2 | omega)
    replace at1 := st17007.same _ _ ⟨ne_g1_g11, trivial⟩ at1
    replace at2 := st17007.same _ _ ⟨ne_g2_g11, trivial⟩ at2
    replace at3004 := st17007.same _ _ ⟨ne_g4_g11, trivial⟩ at3004
    replace at3005 := st17007.same _ _ ⟨ne_g5_g11, trivial⟩ at3005
    replace at6 := st17007.same _ _ ⟨ne_g6_g11, trivial⟩ at6
    replace at7 := st17007.same _ _ ⟨ne_g7_g11, trivial⟩ at7
    replace at5005 := st17007.same _ _ ⟨ne_g8_g11, trivial⟩ at5005
    replace at10 := st17007.same _ _ ⟨ne_g10_g11, trivial⟩ at10
    replace at91 := st17007.same _ _ ⟨ne_g91_g11, trivial⟩ at91
    replace at_LT2 := st17007.same _ _ ⟨ap2_2, trivial⟩ at_LT2
    have ne_g113_g11 : g113 ≠ g11 := by first | assumption | omega
    replace at113 := st17007.same _ _ ⟨ne_g113_g11, trivial⟩ at113
    replace lv_v28 := Keep.st lv_v28 st17007 (fun k hb hk => ⟨(by omega), trivial⟩)
    replace v28 := bs_v28.keep lv_v28 (Nat.le_refl _)
    have lt_at17007 := GHeap.ltg at17007
    replace hin := base_hin.mono hle
    clear hb1 fs1 ft1 c101 c111 c121 i21 i31 i41
    have hb1 : Prof.At _ g1 0 m p := ⟨Mem.of_get at1, hin⟩
    obtain ⟨fs1, ft1, c101, c111, c121, i21, i31, i41⟩ := hb1.get
    clear y0 y1 y2 y3 y4 j1 j2 j3 j4 z0 z1 z2 z3 z4 l1 l2 l3 l4
    obtain ⟨y0, y1, y2, y3, y4, j1, j2, j3, j4⟩ := fs1.get
    obtain ⟨z0, z1, z2, z3, z4, l1, l2, l3, l4⟩ := ft1.get
    clear i28
    have i28 := v28.intss
    clear u1
    have u1 := i21.2 x (by omega)
    try simp only [Nat.zero_add, List.set_cons_succ, List.set_cons_zero] at at17007
    refine .done ?_
    refine hK26 _ _ ?_
    refine .regionD mo_B (.q 0 (.q 1 (.q 2 (.q 3 (.q 4 (.q 5 (.c 6 1 (.c 7 0 (.q 8 (.c 9 0 (.done))))))))))) (by kernel_rfl) ?_
    refine .m rfl rfl rfl rfl (.refl _) (.fieldAddr fo_30_2_B rfl) ?_
    refine .m rfl rfl rfl rfl (.refl _) (.load on_22_B rfl (by first | assumption | exact Mem.of_get at17007 2 _ rfl)) ?_
    refine .m rfl rfl rfl rfl (.refl _) (.load on_2_A rfl (by first | assumption | exact Mem.of_get at6 0 _ rfl)) ?_
    refine .mv rfl rfl ?_
    refine .m rfl rfl rfl rfl (.refl _) (.add rfl rfl rfl (by omega) (by omega)) ?_
    refine .mv rfl rfl ?_
    refine .call1 rfl rfl rfl rfl rfl @Try.call53 rfl (repeated_c) ?_
    rintro _ H121 ⟨le121, g121, rfl, at121, ge121⟩
    have hbl := le121
    refine ⟨hbl, ?_⟩
    have nx_H121 := le121.1
    replace hle := hle.trans le121
    replace lst1 := lst1.le le121
    replace lst2 := lst2.le le121
    replace at1 := le121.2 _ _ at1
    replace at2 := le121.2 _ _ at2
    replace at3004 := le121.2 _ _ at3004
    replace at3005 := le121.2 _ _ at3005
    replace at6 := le121.2 _ _ at6
    replace at7 := le121.2 _ _ at7
    replace at5005 := le121.2 _ _ at5005
    replace at10 := le121.2 _ _ at10
    replace at91 := le121.2 _ _ at91
    replace at_LT2 := le121.2 _ _ at_LT2
    replace at113 := le121.2 _ _ at113
    replace at17007 := le121.2 _ _ at17007
    replace lv_v28 := Keep.le lv_v28 le121
    replace v28 := bs_v28.keep lv_v28 (Nat.le_refl _)
    have lt_at121 := GHeap.ltg at121
    replace hin := base_hin.mono hle
    clear hb1 fs1 ft1 c101 c111 c121 i21 i31 i41
    have hb1 : Prof.At _ g1 0 m p := ⟨Mem.of_get at1, hin⟩
    obtain ⟨fs1, ft1, c101, c111, c121, i21, i31, i41⟩ := hb1.get
    clear y0 y1 y2 y3 y4 j1 j2 j3 j4 z0 z1 z2 z3 z4 l1 l2 l3 l4
    obtain ⟨y0, y1, y2, y3, y4, j1, j2, j3, j4⟩ := fs1.get
    obtain ⟨z0, z1, z2, z3, z4, l1, l2, l3, l4⟩ := ft1.get
    clear i28
    have i28 := v28.intss
    clear u1
    have u1 := i21.2 x (by omega)
    refine .c0 rfl rfl rfl rfl (.appendL rfl sl_22_A ze_2_E rfl by_2_E sl_22_A rfl rfl (by assumption) (by first | assumption | exact Ints.of_get (by assumption)) (by first | omega | (simp <;> omega)) (by omega) (by omega)) ?_
    rintro _ H122 ⟨g122, rfl, st122, ge122, at122⟩
    have nx_H122 := st122.nx
    replace hle := hle.st st122 (fun k hk => ⟨by omega, trivial⟩)
    replace lst1 := lst1.st st122 (fun k hk ho => by simp only [out, and_true] at ho ⊢ <;> first | exact ho | exact ho.1 | exact ho.2 | exact ho.2.1 | exact ho.2.2 | exact ho.2.2.1 | exact ho.2.2.2 | exact pl_LT2.ne (by first | exact ho | exact ho.1 | exact ho.2 | exact ho.2.1 | exact ho.2.2 | exact ho.2.2.1 | exact ho.2.2.2 | exact pl_LT.ne (by first | exact ho | exact ho.1 | exact ho.2 | exact ho.2.1 | exact ho.2.2 | exact ho.2.2.1 | exact ho.2.2.2 | omega) (by omega) | omega) (by omega) | omega)
    replace lst2 := lst2.st st122 (fun k hk ho => by simp only [out, and_true] at ho ⊢ <;> first | exact ho | exact ho.1 | exact ho.2 | exact ho.2.1 | exact ho.2.2 | exact ho.2.2.1 | exact ho.2.2.2 | exact pl_LT2.ne (by first | exact ho | exact ho.1 | exact ho.2 | exact ho.2.1 | exact ho.2.2 | exact ho.2.2.1 | exact ho.2.2.2 | exact pl_LT.ne (by first | exact ho | exact ho.1 | exact ho.2 | exact ho.2.1 | exact ho.2.2 | exact ho.2.2.1 | exact ho.2.2.2 | omega) (by omega) | omega) (by omega) | omega)
    have ne_g1_gLT2 : g1 ≠ gLT2 := pl_LT2.ne ne_g1_gLT (by omega)
    replace at1 := st122.same _ _ ⟨ne_g1_gLT2, trivial⟩ at1
    have ne_g2_gLT2 : g2 ≠ gLT2 := pl_LT2.ne ne_g2_gLT (by omega)
    replace at2 := st122.same _ _ ⟨ne_g2_gLT2, trivial⟩ at2
    have ne_g4_gLT2 : g4 ≠ gLT2 := pl_LT2.ne ne_g4_gLT (by omega)
    replace at3004 := st122.same _ _ ⟨ne_g4_gLT2, trivial⟩ at3004
    have ne_g5_gLT2 : g5 ≠ gLT2 := pl_LT2.ne ne_g5_gLT (by omega)
    replace at3005 := st122.same _ _ ⟨ne_g5_gLT2, trivial⟩ at3005
    have ne_g6_gLT2 : g6 ≠ gLT2 := pl_LT2.ne ne_g6_gLT (by omega)
    replace at6 := st122.same _ _ ⟨ne_g6_gLT2, trivial⟩ at6
    have ne_g7_gLT2 : g7 ≠ gLT2 := pl_LT2.ne ne_g7_gLT (by omega)
    replace at7 := st122.same _ _ ⟨ne_g7_gLT2, trivial⟩ at7
    have ne_g8_gLT2 : g8 ≠ gLT2 := pl_LT2.ne ne_g8_gLT (by omega)
    replace at5005 := st122.same _ _ ⟨ne_g8_gLT2, trivial⟩ at5005
    have ne_g10_gLT2 : g10 ≠ gLT2 := pl_LT2.ne ne_g10_gLT (by omega)
    replace at10 := st122.same _ _ ⟨ne_g10_gLT2, trivial⟩ at10
    have ne_g91_gLT2 : g91 ≠ gLT2 := pl_LT2.ne ne_g91_gLT (by omega)
    replace at91 := st122.same _ _ ⟨ne_g91_gLT2, trivial⟩ at91
    replace at113 := st122.same _ _ ⟨(by first | assumption | omega), trivial⟩ at113
    replace at17007 := st122.same _ _ ⟨(Ne.symm ap2_2), trivial⟩ at17007
    replace at121 := st122.same _ _ ⟨(by first | assumption | omega), trivial⟩ at121
    replace lv_v28 := Keep.st lv_v28 st122 (fun k hb hk => ⟨(by first | exact pl_LT2.ne (by first | exact pl_LT.ne (by omega) (by omega) | omega) (by omega) | omega), trivial⟩)
    replace v28 := bs_v28.keep lv_v28 (Nat.le_refl _)
    have lt_at122 := GHeap.ltg at122
    replace hin := base_hin.mono hle
    clear hb1 fs1 ft1 c101 c111 c121 i21 i31 i41
    have hb1 : Prof.At _ g1 0 m p := ⟨Mem.of_get at1, hin⟩
    obtain ⟨fs1, ft1, c101, c111, c121, i21, i31, i41⟩ := hb1.get
    clear y0 y1 y2 y3 y4 j1 j2 j3 j4 z0 z1 z2 z3 z4 l1 l2 l3 l4
    obtain ⟨y0, y1, y2, y3, y4, j1, j2, j3, j4⟩ := fs1.get
    obtain ⟨z0, z1, z2, z3, z4, l1, l2, l3, l4⟩ := ft1.get
    clear i28
    have i28 := v28.intss
    clear u1
    have u1 := i21.2 x (by omega)
    refine .m rfl rfl rfl rfl (.refl _) (.fieldAddr fo_30_2_B rfl) ?_
    refine .r0 rfl rfl rfl (.storeR rfl sz_22_E rfl rfl rfl (by assumption) (by first | exact Nat.le_of_ble_eq_true rfl | (simp; done) | (simp <;> omega))) ?_
    rintro _ H18009 ⟨rfl, st18009, at18009⟩
    have nx_H18009 := st18009.nx
    replace hle := hle.st st18009 (fun k hk => ⟨by omega, trivial⟩)
    replace lst1 := lst1.st st18009 (fun k hk ho => by simp only [out, and_true] at ho ⊢ <;> first | exact ho | exact ho.1 | exact ho.2 | exact ho.2.1 | exact ho.2.2 | exact ho.2.2.1 | exact ho.2.2.2 | omega)
    replace lst2 := lst2.st st18009 (fun k hk ho => by simp only [out, and_true] at ho ⊢ <;> first | exact ho | exact ho.1 | exact ho.2 | exact ho.2.1 | exact ho.2.2 | exact ho.2.2.1 | exact ho.2.2.2 | omega)
    replace at1 := st18009.same _ _ ⟨ne_g1_g11, trivial⟩ at1
    replace at2 := st18009.same _ _ ⟨ne_g2_g11, trivial⟩ at2
    replace at3004 := st18009.same _ _ ⟨ne_g4_g11, trivial⟩ at3004
    replace at3005 := st18009.same _ _ ⟨ne_g5_g11, trivial⟩ at3005
    replace at6 := st18009.same _ _ ⟨ne_g6_g11, trivial⟩ at6
    replace at7 := st18009.same _ _ ⟨ne_g7_g11, trivial⟩ at7
    replace at5005 := st18009.same _ _ ⟨ne_g8_g11, trivial⟩ at5005
    replace at10 := st18009.same _ _ ⟨ne_g10_g11, trivial⟩ at10
    replace at91 := st18009.same _ _ ⟨ne_g91_g11, trivial⟩ at91
    replace at113 := st18009.same _ _ ⟨ne_g113_g11, trivial⟩ at113
    replace at121 := st18009.same _ _ ⟨(by first | assumption | omega), trivial⟩ at121
    replace at122 := st18009.same _ _ ⟨(by first | assumption | omega), trivial⟩ at122
    replace lv_v28 := Keep.st lv_v28 st18009 (fun k hb hk => ⟨(by omega), trivial⟩)
    replace v28 := bs_v28.keep lv_v28 (Nat.le_refl _)
    have lt_at18009 := GHeap.ltg at18009
    replace hin := base_hin.mono hle
    clear hb1 fs1 ft1 c101 c111 c121 i21 i31 i41
    have hb1 : Prof.At _ g1 0 m p := ⟨Mem.of_get at1, hin⟩
    obtain ⟨fs1, ft1, c101, c111, c121, i21, i31, i41⟩ := hb1.get
    clear y0 y1 y2 y3 y4 j1 j2 j3 j4 z0 z1 z2 z3 z4 l1 l2 l3 l4
    obtain ⟨y0, y1, y2, y3, y4, j1, j2, j3, j4⟩ := fs1.get
    obtain ⟨z0, z1, z2, z3, z4, l1, l2, l3, l4⟩ := ft1.get
    clear i28
    have i28 := v28.intss
    clear u1
    have u1 := i21.2 x (by omega)
    try simp only [Nat.zero_add, List.set_cons_succ, List.set_cons_zero] at at18009
    refine .done ?_
    refine hK24 _ _ (.region ?_)
    refine .m rfl rfl rfl (.add rfl rfl rfl (by omega) (by omega)) ?_
    refine .mv rfl (.nil ?_)
    refine hKL2 ((y + 1, g113, g122)) _ _ ?_ ?_ ⟨rfl, rfl, rfl, rfl, rfl, rfl, rfl, rfl, rfl, rfl, rfl, rfl, rfl, rfl, rfl, rfl, trivial⟩
    ·
     refine ⟨lst2, by first | assumption | (rw [Prof.colSp_row]; assumption) | (rw [Prof.colTp_row]; assumption) | (rw [Prof.colSp_row, Prof.colTp_row, List.length_append, List.length_append]; assumption), by first | assumption | exact ⟨.inr (by omega)⟩ | exact ⟨.inl rfl⟩, by first | assumption | (rw [Prof.colSp_row]; assumption) | (rw [Prof.colTp_row]; assumption) | (rw [Prof.colSp_row, Prof.colTp_row, List.length_append, List.length_append]; assumption), by first | assumption | exact ⟨.inr (by omega)⟩ | exact ⟨.inl rfl⟩, by first | assumption | (rw [Prof.colSp_row]; assumption) | (rw [Prof.colTp_row]; assumption) | (rw [Prof.colSp_row, Prof.colTp_row, List.length_append, List.length_append]; assumption), by first | assumption | omega, by first | assumption | omega, by first | assumption | omega, ?_⟩
     omega
    (dsimp only; omega)
   try simp only [sps] at h104
   refine .exit ?_
   refine hK19 _ _ (.region ?_)
   refine .m rfl rfl rfl (.add rfl rfl rfl (by omega) (by omega)) ?_
   refine .mv rfl (.nil ?_)
   obtain rfl : y = m.t.obj.toNat := by omega
   refine hKL1 ((x + 1, gLF2, gLT2)) _ _ ?_ ?_ ⟨rfl, rfl, rfl, rfl, rfl, rfl, rfl, rfl, rfl, rfl, rfl, rfl, trivial⟩
   ·
    refine ⟨lst1, by first | assumption | (rw [Prof.colSp_next1]; assumption) | (rw [Prof.colTp_next1]; assumption) | (rw [Prof.colSp_next1, Prof.colTp_next1]; assumption), by first | assumption | exact pl_LF2.trans pl_LF (by omega) | exact ⟨.inr (by omega)⟩ | exact ⟨.inl rfl⟩, by first | assumption | (rw [Prof.colSp_next1]; assumption) | (rw [Prof.colTp_next1]; assumption) | (rw [Prof.colSp_next1, Prof.colTp_next1]; assumption), by first | assumption | exact pl_LT2.trans pl_LT (by omega) | exact ⟨.inr (by omega)⟩ | exact ⟨.inl rfl⟩, by first | assumption | (rw [Prof.colSp_next1]; assumption) | (rw [Prof.colTp_next1]; assumption) | (rw [Prof.colSp_next1, Prof.colTp_next1]; assumption), by first | assumption | omega, by first | assumption | omega, by first | assumption | omega, ?_⟩
    omega
   (dsimp only; omega)
  try simp only [sps] at h97
  refine .exit ?_
  refine hK15 _ _ (.seq (fun K27 hK27 => .region ?_))
  obtain rfl : x = m.sz.length := by omega
  have e9 : m.sz.length = m.s.obj.toNat := by omega
  have e10 : m.colT.length = m.colS.length := by omega
  rw [e9] at at_LF at_LT at_Lg11
  rw [show m.colSp m.s.obj.toNat 0 0 = m.colS from rfl] at at_LF at_Lg11
  rw [show m.colTp m.s.obj.toNat 0 0 = m.colT from rfl] at at_LT at_Lg11
  rw [e10] at at_Lg11
  have hfit : m.ColFits := by unfold Prof.ColFits; omega
  have m1 := row_ne at_LF at_Lg11 rfl
  have m2 := row_ne at_LT at_Lg11 rfl
  refine .m rfl rfl rfl (.makeFunc rfl) ?_
  refine .call rfl rfl rfl rfl @Try.call54 rfl (tableO_c (src := m.colS) (tgt := m.colT) (X := m.colX) at_Lg11 rfl e10 (by have := hfit.2; omega) (fun H' s => Ints.of_get (s.same _ _ ⟨m1, trivial⟩ at_LF)) (fun H' s => Ints.of_get (s.same _ _ ⟨m2, trivial⟩ at_LT)) @Try.call55 (fun H' v s hv i j hi hj e => (collage1_c (gF := gLF) (gT := gLT) (f := i) (g := j) (H := H') ⟨Mem.of_get (s.same _ _ ⟨by omega, trivial⟩ at1), base_hin.mono (hle.st s (fun k hk => ⟨by omega, trivial⟩))⟩ (by rw [e10]; exact hv) (Ints.of_get (s.same _ _ ⟨m1, trivial⟩ at_LF)) (Ints.of_get (s.same _ _ ⟨m2, trivial⟩ at_LT)) (s.same _ _ ⟨by omega, trivial⟩ at6) (s.same _ _ ⟨by omega, trivial⟩ at7) (s.same _ _ ⟨by omega, trivial⟩ at10) (s.same _ _ ⟨by omega, trivial⟩ at3004) (s.same _ _ ⟨by omega, trivial⟩ at3005) (s.same _ _ ⟨by omega, trivial⟩ at5005) (bs_v28.keep (Keep.st lv_v28 s (fun k hb hk => ⟨by omega, trivial⟩)) (Nat.le_refl _)).intss hS hi hj e).mono fun v H'' hv => by obtain ⟨rfl, rfl⟩ := hv; exact ⟨.refl _, rfl⟩)) ?_
  rintro _ H127 ⟨st127, gC127, r127, at127, ge127, v127, hr127⟩
  have nx_H127 := st127.nx
  replace hle := hle.st st127 (fun k hk => ⟨by omega, trivial⟩)
  replace at1 := st127.same _ _ ⟨ne_g1_g11, trivial⟩ at1
  replace at2 := st127.same _ _ ⟨ne_g2_g11, trivial⟩ at2
  replace at3004 := st127.same _ _ ⟨ne_g4_g11, trivial⟩ at3004
  replace at3005 := st127.same _ _ ⟨ne_g5_g11, trivial⟩ at3005
  replace at6 := st127.same _ _ ⟨ne_g6_g11, trivial⟩ at6
  replace at7 := st127.same _ _ ⟨ne_g7_g11, trivial⟩ at7
  replace at5005 := st127.same _ _ ⟨ne_g8_g11, trivial⟩ at5005
  replace at10 := st127.same _ _ ⟨ne_g10_g11, trivial⟩ at10
  replace at91 := st127.same _ _ ⟨ne_g91_g11, trivial⟩ at91
  replace at_LF := st127.same _ _ ⟨ap1_1, trivial⟩ at_LF
  replace at_LT := st127.same _ _ ⟨ap1_2, trivial⟩ at_LT
  replace lv_v28 := Keep.st lv_v28 st127 (fun k hb hk => ⟨(by omega), trivial⟩)
  replace v28 := bs_v28.keep lv_v28 (Nat.le_refl _)
  have lt_at127 := GHeap.ltg at127
  replace hin := base_hin.mono hle
  clear hb1 fs1 ft1 c101 c111 c121 i21 i31 i41
  have hb1 : Prof.At _ g1 0 m p := ⟨Mem.of_get at1, hin⟩
  obtain ⟨fs1, ft1, c101, c111, c121, i21, i31, i41⟩ := hb1.get
  clear y0 y1 y2 y3 y4 j1 j2 j3 j4 z0 z1 z2 z3 z4 l1 l2 l3 l4
  obtain ⟨y0, y1, y2, y3, y4, j1, j2, j3, j4⟩ := fs1.get
  obtain ⟨z0, z1, z2, z3, z4, l1, l2, l3, l4⟩ := ft1.get
  clear i28
  have i28 := v28.intss
  refine .nil (hK27 _ _ (.seq (fun K28 hK28 => .region ?_)))
  refine .m rfl rfl rfl (.loadM ag_30_D rfl ⟨rfl, Mem.of_get at127⟩) ?_
  refine .r0 rfl rfl (.fillR rfl sz_30_D rfl rfl rfl rfl (by assumption) (by first | rfl | exact Nat.le_of_ble_eq_true rfl | simp)) ?_
  rintro _ H22001 ⟨rfl, st22001, at22001⟩
  have nx_H22001 := st22001.nx
  replace hle := hle.st st22001 (fun k hk => ⟨by omega, trivial⟩)
  have ne_g1_g2 : g1 ≠ g2 := by first | assumption | omega
  replace at1 := st22001.same _ _ ⟨ne_g1_g2, trivial⟩ at1
  replace at3004 := st22001.same _ _ ⟨(Ne.symm ne_g2_g4), trivial⟩ at3004
  replace at3005 := st22001.same _ _ ⟨(Ne.symm ne_g2_g5), trivial⟩ at3005
  have ne_g6_g2 : g6 ≠ g2 := by first | assumption | omega
  replace at6 := st22001.same _ _ ⟨ne_g6_g2, trivial⟩ at6
  have ne_g7_g2 : g7 ≠ g2 := by first | assumption | omega
  replace at7 := st22001.same _ _ ⟨ne_g7_g2, trivial⟩ at7
  replace at5005 := st22001.same _ _ ⟨(Ne.symm ne_g2_g8), trivial⟩ at5005
  have ne_g10_g2 : g10 ≠ g2 := by first | assumption | omega
  replace at10 := st22001.same _ _ ⟨ne_g10_g2, trivial⟩ at10
  replace at91 := st22001.same _ _ ⟨(by first | assumption | omega), trivial⟩ at91
  have ne_g2_gLF : g2 ≠ gLF := pl_LF.ne ne_g2_g66 (by omega)
  replace at_LF := st22001.same _ _ ⟨(Ne.symm ne_g2_gLF), trivial⟩ at_LF
  have ne_g2_gLT : g2 ≠ gLT := pl_LT.ne ne_g2_g78 (by omega)
  replace at_LT := st22001.same _ _ ⟨(Ne.symm ne_g2_gLT), trivial⟩ at_LT
  replace at127 := st22001.same _ _ ⟨(Ne.symm ne_g2_g11), trivial⟩ at127
  replace lv_v28 := Keep.st lv_v28 st22001 (fun k hb hk => ⟨(by omega), trivial⟩)
  replace v28 := bs_v28.keep lv_v28 (Nat.le_refl _)
  have lt_at22001 := GHeap.ltg at22001
  replace hin := base_hin.mono hle
  clear hb1 fs1 ft1 c101 c111 c121 i21 i31 i41
  have hb1 : Prof.At _ g1 0 m p := ⟨Mem.of_get at1, hin⟩
  obtain ⟨fs1, ft1, c101, c111, c121, i21, i31, i41⟩ := hb1.get
  clear y0 y1 y2 y3 y4 j1 j2 j3 j4 z0 z1 z2 z3 z4 l1 l2 l3 l4
  obtain ⟨y0, y1, y2, y3, y4, j1, j2, j3, j4⟩ := fs1.get
  obtain ⟨z0, z1, z2, z3, z4, l1, l2, l3, l4⟩ := ft1.get
  clear i28
  have i28 := v28.intss
  refine .mv rfl (.nil (hK28 _ _ ?_))
  refine .ret ?_
  refine hret _ _ ?_
  refine ⟨_, _, _, _, _, rfl, ag_30_D, (by rfl), (Mem.of_get at22001), rfl, ?_⟩
  obtain ⟨e1, e2⟩ := Prof.col_ok h17 hfit
  rw [e1, e2]
  refine ⟨hle, ⟨some ⟨gLF, 0, none⟩, some ⟨gLT, 0, none⟩, some ⟨g91, 0, none⟩, some ⟨gC127, 0, none⟩, r127⟩, by simp [Cat.cells, Prof.col, Cat.sum, tabL, e10], ?_⟩
  have hv := v127.keep (st22001.keep (b := HL1.next) (fun k hk => ⟨by omega, trivial⟩)) (by omega)
  refine .mk (.of_at at_LF ge_LF) (.of_at at_LT ge_LT) (.of_at at91 (by omega)) (hv.keep (.of_le (.refl _)) (by omega)) (g1 := gLF) (g2 := gLT) (g3 := g91) (.inr rfl) (.inr rfl) (.inr rfl) (by assumption) (pl_LF.ne' (by omega) (by omega)) (pl_LT.ne' (by omega) (by omega)) (fun i hi => ?_)
  have hi' : i < m.colS.length := by simpa [Prof.col, tabL] using hi
  exact ⟨fun e => by have := hr127 i hi' _ e; omega, fun e => by have := hr127 i hi' _ e; omega, fun e => by have := hr127 i hi' _ e; omega⟩
end Go.Proofs.Ytdjodpdmbklfhaa
namespace Go.Proofs.Ytdjodpdmbklfhaa
open Go Go.GL Go.RowKit Go.Proofs
theorem markInt64S_own {g : Nat} {e : TypeId} {xs : List Int} {k : Int} {H : GHeap} (at0 : H.get g = some (.row (ints xs) e true)) (hk : 0 ≤ k) (hk' : k + xs.length ≤ 9223372036854775000) :
    GCalls Try.prog 61 [.slice (some ⟨g, 0, none⟩) xs.length xs.length, .int .i64 k] H (fun v H' => v = .int .i64 (k + xs.length) ∧ St [g] H H' ∧ H'.get g = some (.row (ints (seqL k xs.length)) e true)) := by
  refine GCalls.body (N := 19) (rs := [.tmp 4]) Try.func61 rfl rfl rfl rfl (fun Qx hret hend => ?_)
  refine .forget (fr' := [(0, some _), (1, some _)]) ⟨rfl, rfl, trivial⟩ ?_
  have lt_at0 := GHeap.ltg at0
  refine .seq (fun K1 hK1 => .region (.mv rfl (.nil (hK1 _ _ (.seq (fun K2 hK2 => .seq (fun K3 hK3 => .region (.mv rfl (.nil (hK3 _ _ ?_))))))))))
  refine .block ?_
  refine .loopR (σ := Nat × Int × List Int) [(0, some _)] (fun (i, q, ys) => [(5, some (.int .i64 (i : Int))), (1, some (.int .i64 q))]) (fun (i, q, ys) H' => St [g] H H' ∧ H'.get g = some (.row (ints ys) e true) ∧ i ≤ xs.length ∧ q = k + i ∧ ys.length = xs.length ∧ ∀ j, j < i → ys.getD j 0 = k + j) (fun (i, q, ys) => xs.length - i) ((0, k, xs)) ⟨rfl, trivial⟩ ⟨rfl, rfl, trivial⟩ ?_ ?_
  ·
   refine ⟨.refl _ _, by first | assumption | exact at0 | simpa using at0, ?_⟩
   exact ⟨by omega, by omega, rfl, fun _ _ => by omega⟩
  rintro ⟨i, q, ys⟩ HL1 ⟨lst1, at_L0, hI⟩ KL1 hKL1
  refine .forget (fr' := [(5, some (.int .i64 (i : Int))), (1, some (.int .i64 q)), (0, some _)]) ⟨rfl, rfl, rfl, trivial⟩ ?_
  have nx_HL1 := lst1.nx
  have lt_at_L0 := GHeap.ltg at_L0
  obtain ⟨hi, hq, hyl, ha⟩ := hI
  have hsl := SlA.of_ints at_L0 hyl
  refine .seq (fun K4 hK4 => .seq (fun K5 hK5 => .region (.mv rfl (.mv rfl (.m rfl rfl rfl (.len sl_22_A rfl) (.m rfl rfl rfl (.cmp rfl rfl rfl) (.nil (hK5 _ _ ?_))))))))
  refine .cond rfl (fun h9 => ?_) (fun h9 => ?_)
  ·
   try simp only [sps] at h9
   refine .skip ?_
   refine hK4 _ _ (.seq (fun K6 hK6 => ?_))
   refine .block ?_
   refine .seq (fun K7 hK7 => .region (.mv rfl (.mv rfl (.mv rfl ?_))))
   refine .m rfl rfl rfl (.idxN sl_22_A (by first | assumption | exact SlA.of_row at_L0 (by first | rfl | (simp; done) | (simp <;> omega))) rfl rfl (by omega)) ?_
   refine .r0 rfl rfl (.storeI rfl sz_2_E rfl rfl (by assumption) (by first | omega | (simp <;> omega))) ?_
   rintro _ H4004 ⟨rfl, st4004, at4004⟩
   have nx_H4004 := st4004.nx
   replace lst1 := lst1.st st4004 (fun k hk ho => by simp only [out, and_true] at ho ⊢ <;> first | exact ho | exact ho.1 | exact ho.2 | exact ho.2.1 | exact ho.2.2 | exact ho.2.2.1 | exact ho.2.2.2 | omega)
   have lt_at4004 := GHeap.ltg at4004
   refine .nil (hK7 _ _ (.region (.mv rfl ?_)))
   refine .m rfl rfl rfl (.add rfl rfl rfl (by omega) (by omega)) ?_
   refine .mv rfl (.nil (hK6 _ _ (.region (.mv rfl ?_))))
   refine .m rfl rfl rfl (.add rfl rfl rfl (by omega) (by omega)) ?_
   refine .mv rfl (.nil ?_)
   refine hKL1 ((i + 1, q + 1, ys.set (0 + i) q)) _ _ ?_ ?_ ⟨rfl, rfl, rfl, trivial⟩
   ·
    refine ⟨lst1, by assumption, ?_⟩
    refine ⟨by omega, by omega, by simpa using hyl, fun j hj => ?_⟩
    rw [Nat.zero_add, getD_set (by omega)]
    split
    · rename_i e; rw [e]; exact hq
    · exact ha j (by omega)
   (dsimp only; omega)
  try simp only [sps] at h9
  refine .exit ?_
  refine hK2 _ _ (.seq (fun K8 hK8 => .region (.mv rfl (.mv rfl (.nil (hK8 _ _ ?_))))))
  refine .ret ?_
  refine hret _ _ ?_
  refine ⟨_, rfl, ?_⟩
  obtain rfl : ys = seqL k xs.length := eq_of_getD (by rw [hyl, length_seqL]) fun j hj => by rw [length_seqL] at hj; rw [ha j (by omega), seqL_get hj]
  obtain rfl : i = xs.length := by omega
  exact ⟨by rw [hq], lst1, at_L0⟩
theorem markInt64S_nil {a : Option Addr} {k : Int} {H : GHeap} (hk : 0 ≤ k) (hk' : k ≤ 9223372036854775000) :
    GCalls Try.prog 61 [.slice a 0 0, .int .i64 k] H (fun v H' => v = .int .i64 k ∧ H' = H) := by
  refine GCalls.body (N := 19) (rs := [.tmp 4]) Try.func61 rfl rfl rfl rfl (fun Qx hret hend => ?_)
  refine .forget (fr' := [(0, some _), (1, some _)]) ⟨rfl, rfl, trivial⟩ ?_
  refine .seq (fun K1 hK1 => .region (.mv rfl (.nil (hK1 _ _ (.seq (fun K2 hK2 => .seq (fun K3 hK3 => .region (.mv rfl (.nil (hK3 _ _ ?_))))))))))
  refine .block ?_
  refine .loopR (σ := Unit) [(0, some _)] (fun u => [(5, some (.int .i64 0)), (1, some (.int .i64 k))]) (fun u H' => H = H' ∧ True) (fun u => 0) (()) ⟨rfl, trivial⟩ ⟨rfl, rfl, trivial⟩ ?_ ?_
  ·
   refine ⟨rfl, ?_⟩
   exact trivial
  rintro u _ ⟨rfl, hI⟩ KL1 hKL1
  refine .forget (fr' := [(5, some (.int .i64 0)), (1, some (.int .i64 k)), (0, some _)]) ⟨rfl, rfl, rfl, trivial⟩ ?_
  refine .seq (fun K4 hK4 => .seq (fun K5 hK5 => .region (.mv rfl (.mv rfl (.m rfl rfl rfl (.len sl_22_A rfl) (.m rfl rfl rfl (.cmp rfl rfl rfl) (.nil (hK5 _ _ ?_))))))))
  refine .cond rfl (fun h9 => ?_) (fun h9 => ?_)
  ·
   exact absurd h9 (by simp)
  try simp only [sps] at h9
  refine .exit ?_
  refine hK2 _ _ (.seq (fun K6 hK6 => .region (.mv rfl (.mv rfl (.nil (hK6 _ _ ?_))))))
  refine .ret ?_
  refine hret _ _ ?_
  refine ⟨_, rfl, ?_⟩
  exact ⟨rfl, rfl⟩
theorem markInt64S_c {a : Option Addr} {n lo hi : Nat} {k : Int} {H : GHeap} (h : IntsW lo hi H a n := by assumption) (hk : 0 ≤ k := by omega) (hk' : k + n ≤ 9223372036854775000 := by omega) :
    GCalls Try.prog 61 [.slice a n n, .int .i64 k] H (fun v H' => v = .int .i64 (k + n) ∧ Marked lo hi H H' [(a, n)] k) := by
  by_cases h0 : n = 0
  · subst h0
    refine (markInt64S_nil hk (by omega)).mono fun v H' ⟨h1, h2⟩ => ?_
    subst h2
    exact ⟨by rw [h1]; simp, .refl _ _ _, .refl _ _, fun _ => ⟨.inl rfl, trivial⟩⟩
  · rcases h with h | ⟨g, e, xs, rfl, h2, h3, h4, rfl⟩
    · exact absurd h h0
    · exact (markInt64S_own h4 hk hk').mono fun v H' ⟨k1, k2, k3⟩ => ⟨k1, .one h2 h3 h4 k2 k3 h0⟩
theorem heldInt64S_c {a : Option Addr} {n b : Nat} {k : Int} {H : GHeap} (h : Held b H [(a, n)] k := by assumption) (hk : 0 ≤ k := by omega) (hk' : k + n ≤ 9223372036854775000 := by omega) :
    GCalls Try.prog 62 [.slice a n n, .int .i64 k] H (Ret (.int .i64 (k + n)) H) := by
  have hi := h.ints
  have hl : (seqL k n).length = n := length_seqL k n
  have hsl : SlA H a n (fun i => .int .i64 ((seqL k n).getD i 0)) := by have hi' := hi; unfold Ints at hi'; rw [hl] at hi'; exact hi'
  refine GCalls.body (N := 21) (rs := [.tmp 4]) Try.func62 rfl rfl rfl rfl (fun Qx hret hend => ?_)
  refine .forget (fr' := [(0, some _), (1, some _)]) ⟨rfl, rfl, trivial⟩ ?_
  refine .seq (fun K1 hK1 => .region (.mv rfl (.nil (hK1 _ _ (.seq (fun K2 hK2 => .seq (fun K3 hK3 => .region (.mv rfl (.nil (hK3 _ _ ?_))))))))))
  refine .block ?_
  refine .loopR (σ := Nat × Int) [(0, some _)] (fun (i, q) => [(5, some (.int .i64 (i : Int))), (1, some (.int .i64 q))]) (fun (i, q) H' => H = H' ∧ i ≤ n ∧ q = k + i) (fun (i, q) => n - i) ((0, k)) ⟨rfl, trivial⟩ ⟨rfl, rfl, trivial⟩ ?_ ?_
  ·
   refine ⟨rfl, ?_⟩
   exact ⟨by omega, by omega⟩
  rintro ⟨i, q⟩ _ ⟨rfl, hI⟩ KL1 hKL1
  refine .forget (fr' := [(5, some (.int .i64 (i : Int))), (1, some (.int .i64 q)), (0, some _)]) ⟨rfl, rfl, rfl, trivial⟩ ?_
  obtain ⟨hi, hq⟩ := hI
  refine .seq (fun K4 hK4 => .seq (fun K5 hK5 => .region (.mv rfl (.mv rfl (.m rfl rfl rfl (.len sl_22_A rfl) (.m rfl rfl rfl (.cmp rfl rfl rfl) (.nil (hK5 _ _ ?_))))))))
  refine .cond rfl (fun h9 => ?_) (fun h9 => ?_)
  ·
   try simp only [sps] at h9
   refine .skip ?_
   refine hK4 _ _ (.seq (fun K6 hK6 => ?_))
   refine .block ?_
   refine .seq (fun K7 hK7 => .seq (fun K8 hK8 => .region (.mv rfl (.mv rfl ?_))))
   refine .m rfl rfl rfl (.idxN sl_22_A hsl rfl rfl (by omega)) ?_
   refine .m rfl rfl rfl (.loadE on_2_A hsl rfl (by omega)) ?_
   refine .mv rfl (.m rfl rfl rfl (.cmp rfl rfl rfl) (.nil (hK8 _ _ ?_)))
   refine .cond rfl (fun h17 => ?_) (fun h17 => ?_)
   ·
    simp only [sps] at h17
    rw [seqL_get (by omega)] at h17
    refine .seq (fun K9 hK9 => .region (.mv rfl (.nil (hK9 _ _ ?_))))
    refine .ret ?_
    refine hret _ _ ?_
    refine ⟨_, rfl, ?_⟩
    exact absurd hq.symm (by omega)
   try simp only [sps] at h17
   refine .skip ?_
   refine hK7 _ _ (.region (.mv rfl ?_))
   refine .m rfl rfl rfl (.add rfl rfl rfl (by omega) (by omega)) ?_
   refine .mv rfl (.nil (hK6 _ _ (.region (.mv rfl ?_))))
   refine .m rfl rfl rfl (.add rfl rfl rfl (by omega) (by omega)) ?_
   refine .mv rfl (.nil ?_)
   refine hKL1 ((i + 1, q + 1)) _ _ ?_ ?_ ⟨rfl, rfl, rfl, trivial⟩
   ·
    refine ⟨rfl, ?_⟩
    exact ⟨by omega, by omega⟩
   (dsimp only; omega)
  try simp only [sps] at h9
  refine .exit ?_
  refine hK2 _ _ (.seq (fun K10 hK10 => .region (.mv rfl (.mv rfl (.nil (hK10 _ _ ?_))))))
  refine .ret ?_
  refine hret _ _ ?_
  refine ⟨_, rfl, ?_⟩
  obtain rfl : i = n := by omega
  exact .of (by rw [hq])
theorem markInt64SS_c {a : Option Addr} {xss : List (List Int)} {r : Nat → Option Addr} {lo hi : Nat} {k : Int} {H : GHeap} (h : IntssW lo hi H a xss r := by assumption) (hk : 0 ≤ k := by omega) (hk' : k + sumL xss ≤ 9223372036854775000 := by omega) (hl : xss.length ≤ 1048576 := by omega) :
    GCalls Try.prog 21 [.slice a xss.length xss.length, .int .i64 k] H (fun v H' => v = .int .i64 (k + sumL xss) ∧ Marked lo hi H H' (rowsL r xss xss.length) k) := by
  refine GCalls.body (N := 19) (rs := [.tmp 4]) Try.func21 rfl rfl rfl rfl (fun Qx hret hend => ?_)
  refine .forget (fr' := [(0, some _), (1, some _)]) ⟨rfl, rfl, trivial⟩ ?_
  refine .seq (fun K1 hK1 => .region (.mv rfl (.nil (hK1 _ _ (.seq (fun K2 hK2 => .seq (fun K3 hK3 => .region (.mv rfl (.nil (hK3 _ _ ?_))))))))))
  refine .block ?_
  refine .loopR (σ := Nat × Int) [(0, some _)] (fun (i, q) => [(5, some (.int .i64 (i : Int))), (1, some (.int .i64 q))]) (fun (i, q) H' => i ≤ xss.length ∧ q = k + sumL (xss.take i) ∧ Marked lo hi H H' (rowsL r xss i) k) (fun (i, q) => xss.length - i) ((0, k)) ⟨rfl, trivial⟩ ⟨rfl, rfl, trivial⟩ ?_ ?_
  ·
   exact ⟨by omega, by simp [sumL], .nil _ _ _ _⟩
  rintro ⟨i, q⟩ H' hI KL1 hKL1
  refine .forget (fr' := [(5, some (.int .i64 (i : Int))), (1, some (.int .i64 q)), (0, some _)]) ⟨rfl, rfl, rfl, trivial⟩ ?_
  obtain ⟨hi', hq, hm⟩ := hI
  have hw := h.stm hm.stm
  have hsl := hw.1
  have hle1 := sumL_take_le (xss := xss) (k := i + 1)
  refine .seq (fun K4 hK4 => .seq (fun K5 hK5 => .region (.mv rfl (.mv rfl (.m rfl rfl rfl (.len sl_23_B rfl) (.m rfl rfl rfl (.cmp rfl rfl rfl) (.nil (hK5 _ _ ?_))))))))
  refine .cond rfl (fun h9 => ?_) (fun h9 => ?_)
  ·
   simp only [sps] at h9
   have hts := sumL_take_succ (xss := xss) (k := i) (by omega)
   refine .skip ?_
   refine hK4 _ _ (.seq (fun K6 hK6 => ?_))
   refine .block ?_
   refine .region (.mv rfl (.mv rfl ?_))
   refine .m rfl rfl rfl (.idxN sl_23_B hsl rfl rfl (by omega)) ?_
   refine .m rfl rfl rfl (.loadE on_22_B hsl rfl (by omega)) ?_
   refine .mv rfl ?_
   refine .call rfl rfl rfl rfl @Try.call61 rfl (markInt64S_c (hw.2.1 i (by omega)) (by omega) (by omega)) ?_
   rintro _ H17 ⟨rfl, mk17⟩
   refine .mv rfl (.nil (hK6 _ _ (.region (.mv rfl ?_))))
   refine .m rfl rfl rfl (.add rfl rfl rfl (by omega) (by omega)) ?_
   refine .mv rfl (.nil ?_)
   refine hKL1 ((i + 1, _)) _ _ ?_ ?_ ⟨rfl, rfl, rfl, trivial⟩
   ·
    exact ⟨by omega, by rw [sumL_take_succ (by omega)]; omega, by rw [rowsL_succ]; exact hm.app' mk17 (by rw [lvSum_rowsL _ _ _ (by omega)]; omega)⟩
   (dsimp only; omega)
  try simp only [sps] at h9
  refine .exit ?_
  refine hK2 _ _ (.seq (fun K7 hK7 => .region (.mv rfl (.mv rfl (.nil (hK7 _ _ ?_))))))
  refine .ret ?_
  refine hret _ _ ?_
  refine ⟨_, rfl, ?_⟩
  obtain rfl : i = xss.length := by omega
  rw [List.take_length] at hq
  exact ⟨by rw [hq], hm⟩
theorem heldRow {b : Nat} {H : GHeap} {r : Nat → Option Addr} {xss : List (List Int)} {k : Int} : ∀ {n : Nat}, n ≤ xss.length → Held b H (rowsL r xss n) k → ∀ i, i < n → Held b H [(r i, (xss.getD i []).length)] (k + sumL (xss.take i))
  | 0, _, _, i, hi => by omega
  | n + 1, hn, h, i, hi => by
    rw [rowsL_succ] at h
    obtain ⟨h1, h2⟩ := h.app
    rw [lvSum_rowsL _ _ _ (by omega)] at h2
    by_cases e : i = n
    · subst e; exact h2
    · exact heldRow (by omega) h1 i (by omega)
theorem heldInt64SS_c {a : Option Addr} {xss : List (List Int)} {r : Nat → Option Addr} {b : Nat} {k : Int} {H : GHeap} (hsl : SlA H a xss.length (fun i => .slice (r i) (xss.getD i []).length (xss.getD i []).length) := by assumption) (h : Held b H (rowsL r xss xss.length) k := by assumption) (hk : 0 ≤ k := by omega) (hk' : k + sumL xss ≤ 9223372036854775000 := by omega) (hl : xss.length ≤ 1048576 := by omega) :
    GCalls Try.prog 22 [.slice a xss.length xss.length, .int .i64 k] H (Ret (.int .i64 (k + sumL xss)) H) := by
  refine GCalls.body (N := 21) (rs := [.tmp 4]) Try.func22 rfl rfl rfl rfl (fun Qx hret hend => ?_)
  refine .forget (fr' := [(0, some _), (1, some _)]) ⟨rfl, rfl, trivial⟩ ?_
  refine .seq (fun K1 hK1 => .region (.mv rfl (.nil (hK1 _ _ (.seq (fun K2 hK2 => .seq (fun K3 hK3 => .region (.mv rfl (.nil (hK3 _ _ ?_))))))))))
  refine .block ?_
  refine .loopR (σ := Nat × Int) [(0, some _)] (fun (i, q) => [(5, some (.int .i64 (i : Int))), (1, some (.int .i64 q))]) (fun (i, q) H' => H = H' ∧ i ≤ xss.length ∧ q = k + sumL (xss.take i)) (fun (i, q) => xss.length - i) ((0, k)) ⟨rfl, trivial⟩ ⟨rfl, rfl, trivial⟩ ?_ ?_
  ·
   refine ⟨rfl, ?_⟩
   exact ⟨by omega, by simp [sumL]⟩
  rintro ⟨i, q⟩ _ ⟨rfl, hI⟩ KL1 hKL1
  refine .forget (fr' := [(5, some (.int .i64 (i : Int))), (1, some (.int .i64 q)), (0, some _)]) ⟨rfl, rfl, rfl, trivial⟩ ?_
  obtain ⟨hi', hq⟩ := hI
  have hle1 := sumL_take_le (xss := xss) (k := i + 1)
  refine .seq (fun K4 hK4 => .seq (fun K5 hK5 => .region (.mv rfl (.mv rfl (.m rfl rfl rfl (.len sl_23_B rfl) (.m rfl rfl rfl (.cmp rfl rfl rfl) (.nil (hK5 _ _ ?_))))))))
  refine .cond rfl (fun h9 => ?_) (fun h9 => ?_)
  ·
   simp only [sps] at h9
   have hts := sumL_take_succ (xss := xss) (k := i) (by omega)
   have hr := heldRow (Nat.le_refl _) h i (by omega)
   rw [← hq] at hr
   refine .skip ?_
   refine hK4 _ _ (.seq (fun K6 hK6 => ?_))
   refine .block ?_
   refine .seq (fun K7 hK7 => .region (.mv rfl (.mv rfl ?_)))
   refine .m rfl rfl rfl (.idxN sl_23_B hsl rfl rfl (by omega)) ?_
   refine .m rfl rfl rfl (.loadE on_22_B hsl rfl (by omega)) ?_
   refine .mv rfl ?_
   refine .callQ rfl rfl rfl rfl @Try.call62 rfl (heldInt64S_c) ?_
   refine .mv rfl (.nil (hK7 _ _ (.seq (fun K8 hK8 => .region (.mv rfl (.m rfl rfl rfl (.cmp rfl rfl rfl) (.nil (hK8 _ _ ?_))))))))
   refine .cond rfl (fun h19 => ?_) (fun h19 => ?_)
   ·
    exact absurd h19 (by simp; omega)
   try simp only [sps] at h19
   refine .skip ?_
   refine hK6 _ _ (.region (.mv rfl ?_))
   refine .m rfl rfl rfl (.add rfl rfl rfl (by omega) (by omega)) ?_
   refine .mv rfl (.nil ?_)
   refine hKL1 ((i + 1, _)) _ _ ?_ ?_ ⟨rfl, rfl, rfl, trivial⟩
   ·
    refine ⟨rfl, ?_⟩
    exact ⟨by omega, by rw [sumL_take_succ (by omega)]; omega⟩
   (dsimp only; omega)
  try simp only [sps] at h9
  refine .exit ?_
  refine hK2 _ _ (.seq (fun K9 hK9 => .region (.mv rfl (.mv rfl (.nil (hK9 _ _ ?_))))))
  refine .ret ?_
  refine hret _ _ ?_
  refine ⟨_, rfl, ?_⟩
  obtain rfl : i = xss.length := by omega
  rw [List.take_length] at hq
  exact .of (by rw [hq])
theorem markCategory_c {c : Cat} {p : CatP} {lo hi : Nat} {k : Int} {H : GHeap} (w : CatW lo hi H c p := by assumption) (hs : c.Small := by assumption) (hk : 0 ≤ k := by omega) (hk' : k + c.total ≤ 9223372036854775000 := by omega) (hhi : hi ≤ H.next := by omega) :
    GCalls Try.prog 16 [.agg (c.cells p).toArray, .int .i64 k] H (fun v H' => v = .int .i64 (k + c.total) ∧ Marked lo hi H H' (c.leaves p) k) := by
  obtain ⟨w1, w2, w3, w4⟩ := w
  have ht : c.total = c.src.length + (c.tgt.length + (c.idn.length + sumL c.comp)) := rfl
  obtain ⟨s1, s2, s3, s4, s5, s6⟩ := hs
  refine GCalls.body (N := 22) (rs := [.tmp 4]) Try.func16 rfl rfl rfl rfl (fun Qx hret hend => ?_)
  refine .forget (fr' := [(0, some _), (1, some _)]) ⟨rfl, rfl, trivial⟩ ?_
  refine .seq (fun K1 hK1 => .region ?_)
  refine .r rfl rfl rfl (.boxR rfl sz_30_D rfl) ?_
  rintro _ H2 ⟨g2, rfl, le2, ge2, at2⟩
  have nx_H2 := le2.1
  have lt_at2 := GHeap.ltg at2
  have mm2 : MemN _ _ _ _ _ := ⟨rfl, Mem.of_get at2⟩
  replace w1 := w1.stm (.of_le le2)
  replace w2 := w2.stm (.of_le le2)
  replace w3 := w3.stm (.of_le le2)
  replace w4 := w4.stm (.of_le le2)
  have hc : Mem _ g2 0 (c.cells p) := Mem.of_get at2
  refine .mv rfl (.nil (hK1 _ _ (.seq (fun K2 hK2 => .region ?_))))
  have c1 : H2.cell g2 (0 + 1) = some (.slice p.a1 c.src.length c.src.length) := Mem.of_get at2 1 _ rfl
  refine .m rfl rfl rfl (.fieldAddr fo_30_1_B rfl) ?_
  refine .m rfl rfl rfl (.load on_22_B rfl (by first | assumption | exact Mem.of_get at2 1 _ rfl)) ?_
  refine .mv rfl ?_
  refine .call rfl rfl rfl rfl @Try.call61 rfl (markInt64S_c) ?_
  rintro _ H8 ⟨rfl, mk8⟩
  have sm8 := mk8.stm
  have nx_H8 := sm8.nx
  replace at2 := sm8.same _ _ (by omega) at2
  replace w1 := w1.stm sm8
  replace w2 := w2.stm sm8
  replace w3 := w3.stm sm8
  replace w4 := w4.stm sm8
  clear mm2
  have mm2 : MemN _ _ _ _ _ := ⟨rfl, Mem.of_get at2⟩
  refine .mv rfl (.nil (hK2 _ _ (.seq (fun K3 hK3 => .region ?_))))
  have c2 : H8.cell g2 (0 + 2) = some (.slice p.a2 c.tgt.length c.tgt.length) := Mem.of_get at2 2 _ rfl
  refine .m rfl rfl rfl (.fieldAddr fo_30_2_B rfl) ?_
  refine .m rfl rfl rfl (.load on_22_B rfl (by first | assumption | exact Mem.of_get at2 2 _ rfl)) ?_
  refine .mv rfl ?_
  refine .call rfl rfl rfl rfl @Try.call61 rfl (markInt64S_c) ?_
  rintro _ H12 ⟨rfl, mk12⟩
  have sm12 := mk12.stm
  have nx_H12 := sm12.nx
  replace at2 := sm12.same _ _ (by omega) at2
  replace w1 := w1.stm sm12
  replace w2 := w2.stm sm12
  replace w3 := w3.stm sm12
  replace w4 := w4.stm sm12
  clear mm2
  have mm2 : MemN _ _ _ _ _ := ⟨rfl, Mem.of_get at2⟩
  refine .mv rfl (.nil (hK3 _ _ (.seq (fun K4 hK4 => .region ?_))))
  have c3 : H12.cell g2 (0 + 3) = some (.slice p.a3 c.idn.length c.idn.length) := Mem.of_get at2 3 _ rfl
  refine .m rfl rfl rfl (.fieldAddr fo_30_3_B rfl) ?_
  refine .m rfl rfl rfl (.load on_22_B rfl (by first | assumption | exact Mem.of_get at2 3 _ rfl)) ?_
  refine .mv rfl ?_
  refine .call rfl rfl rfl rfl @Try.call61 rfl (markInt64S_c) ?_
  rintro _ H16 ⟨rfl, mk16⟩
  have sm16 := mk16.stm
  have nx_H16 := sm16.nx
  replace at2 := sm16.same _ _ (by omega) at2
  replace w1 := w1.stm sm16
  replace w2 := w2.stm sm16
  replace w3 := w3.stm sm16
  replace w4 := w4.stm sm16
  clear mm2
  have mm2 : MemN _ _ _ _ _ := ⟨rfl, Mem.of_get at2⟩
  refine .mv rfl (.nil (hK4 _ _ (.seq (fun K5 hK5 => .region ?_))))
  have c4 : H16.cell g2 (0 + 4) = some (.slice p.a4 c.comp.length c.comp.length) := Mem.of_get at2 4 _ rfl
  refine .m rfl rfl rfl (.fieldAddr fo_30_4_B rfl) ?_
  refine .m rfl rfl rfl (.load on_23_B rfl (by first | assumption | exact Mem.of_get at2 4 _ rfl)) ?_
  refine .mv rfl ?_
  refine .call rfl rfl rfl rfl @Try.call21 rfl (markInt64SS_c) ?_
  rintro _ H20 ⟨rfl, mk20⟩
  have sm20 := mk20.stm
  have nx_H20 := sm20.nx
  replace at2 := sm20.same _ _ (by omega) at2
  replace w1 := w1.stm sm20
  replace w2 := w2.stm sm20
  replace w3 := w3.stm sm20
  replace w4 := w4.stm sm20
  clear mm2
  have mm2 : MemN _ _ _ _ _ := ⟨rfl, Mem.of_get at2⟩
  refine .mv rfl (.nil (hK5 _ _ (.seq (fun K6 hK6 => .region (.mv rfl (.mv rfl (.nil (hK6 _ _ ?_))))))))
  refine .ret ?_
  refine hret _ _ ?_
  refine ⟨_, rfl, ?_⟩
  exact ⟨by rw [ht]; congr 1; omega, .le_left le2 (mk8.app' (mk12.app' (mk16.app' mk20 (by simp [lvSum])) (by simp [lvSum])) (by simp [lvSum]))⟩
theorem heldCategory_c {c : Cat} {p : CatP} {lo hi b : Nat} {k : Int} {H : GHeap} (w : CatW lo hi H c p := by assumption) (h : Held b H (c.leaves p) k := by assumption) (hs : c.Small := by assumption) (hk : 0 ≤ k := by omega) (hk' : k + c.total ≤ 9223372036854775000 := by omega) :
    GCalls Try.prog 17 [.agg (c.cells p).toArray, .int .i64 k] H (Ret (.int .i64 (k + c.total)) H) := by
  refine GCalls.ret rfl ?_
  have ht : c.total = c.src.length + (c.tgt.length + (c.idn.length + sumL c.comp)) := rfl
  obtain ⟨s1, s2, s3, s4, s5, s6⟩ := hs
  obtain ⟨v1, h⟩ := h.app
  obtain ⟨v2, h⟩ := h.app
  obtain ⟨v3, v4⟩ := h.app
  simp only [lvSum, Nat.add_zero] at v2 v3 v4
  refine GCalls.body (N := 30) (rs := [.tmp 4]) Try.func17 rfl rfl rfl rfl (fun Qx hret hend => ?_)
  refine .forget (fr' := [(0, some _), (1, some _)]) ⟨rfl, rfl, trivial⟩ ?_
  have hle := GHeap.Le.refl H
  refine .seq (fun K1 hK1 => .region ?_)
  refine .r rfl rfl rfl (.boxR rfl sz_30_D rfl) ?_
  rintro _ H2 ⟨g2, rfl, le2, ge2, at2⟩
  have nx_H2 := le2.1
  replace hle := hle.trans le2
  have lt_at2 := GHeap.ltg at2
  have mm2 : MemN _ _ _ _ _ := ⟨rfl, Mem.of_get at2⟩
  refine .mv rfl (.nil (hK1 _ _ (.seq (fun K2 hK2 => .region ?_))))
  replace v1 := v1.keep (.of_le le2) (Nat.zero_le _)
  replace v2 := v2.keep (.of_le le2) (Nat.zero_le _)
  replace v3 := v3.keep (.of_le le2) (Nat.zero_le _)
  replace v4 := v4.keep (.of_le le2) (Nat.zero_le _)
  have hsl := w.2.2.2.1.mono le2
  have c1 : H2.cell g2 (0 + 1) = some (.slice p.a1 c.src.length c.src.length) := Mem.of_get at2 1 _ rfl
  have c2 : H2.cell g2 (0 + 2) = some (.slice p.a2 c.tgt.length c.tgt.length) := Mem.of_get at2 2 _ rfl
  have c3 : H2.cell g2 (0 + 3) = some (.slice p.a3 c.idn.length c.idn.length) := Mem.of_get at2 3 _ rfl
  have c4 : H2.cell g2 (0 + 4) = some (.slice p.a4 c.comp.length c.comp.length) := Mem.of_get at2 4 _ rfl
  refine .m rfl rfl rfl (.fieldAddr fo_30_1_B rfl) ?_
  refine .m rfl rfl rfl (.load on_22_B rfl (by first | assumption | exact Mem.of_get at2 1 _ rfl)) ?_
  refine .mv rfl ?_
  refine .callQ rfl rfl rfl rfl @Try.call62 rfl (heldInt64S_c) ?_
  refine .mv rfl (.nil (hK2 _ _ (.seq (fun K3 hK3 => .seq (fun K4 hK4 => .region (.mv rfl (.m rfl rfl rfl (.cmp rfl rfl rfl) (.nil (hK4 _ _ ?_)))))))))
  refine .cond rfl (fun h10 => ?_) (fun h10 => ?_)
  ·
   exact absurd h10 (by simp; omega)
  try simp only [sps] at h10
  refine .skip ?_
  refine hK3 _ _ (.seq (fun K5 hK5 => .region (.m rfl rfl rfl (.fieldAddr fo_30_2_B rfl) ?_)))
  refine .m rfl rfl rfl (.load on_22_B rfl (by first | assumption | exact Mem.of_get at2 2 _ rfl)) ?_
  refine .mv rfl ?_
  refine .callQ rfl rfl rfl rfl @Try.call62 rfl (heldInt64S_c) ?_
  refine .mv rfl (.nil (hK5 _ _ (.seq (fun K6 hK6 => .seq (fun K7 hK7 => .region (.mv rfl (.m rfl rfl rfl (.cmp rfl rfl rfl) (.nil (hK7 _ _ ?_)))))))))
  refine .cond rfl (fun h16 => ?_) (fun h16 => ?_)
  ·
   exact absurd h16 (by simp; omega)
  try simp only [sps] at h16
  refine .skip ?_
  refine hK6 _ _ (.seq (fun K8 hK8 => .region (.m rfl rfl rfl (.fieldAddr fo_30_3_B rfl) ?_)))
  refine .m rfl rfl rfl (.load on_22_B rfl (by first | assumption | exact Mem.of_get at2 3 _ rfl)) ?_
  refine .mv rfl ?_
  refine .callQ rfl rfl rfl rfl @Try.call62 rfl (heldInt64S_c) ?_
  refine .mv rfl (.nil (hK8 _ _ (.seq (fun K9 hK9 => .seq (fun K10 hK10 => .region (.mv rfl (.m rfl rfl rfl (.cmp rfl rfl rfl) (.nil (hK10 _ _ ?_)))))))))
  refine .cond rfl (fun h22 => ?_) (fun h22 => ?_)
  ·
   exact absurd h22 (by simp; omega)
  try simp only [sps] at h22
  refine .skip ?_
  refine hK9 _ _ (.seq (fun K11 hK11 => .region (.m rfl rfl rfl (.fieldAddr fo_30_4_B rfl) ?_)))
  refine .m rfl rfl rfl (.load on_23_B rfl (by first | assumption | exact Mem.of_get at2 4 _ rfl)) ?_
  refine .mv rfl ?_
  refine .callQ rfl rfl rfl rfl @Try.call22 rfl (heldInt64SS_c) ?_
  refine .mv rfl (.nil (hK11 _ _ (.seq (fun K12 hK12 => .seq (fun K13 hK13 => .region (.mv rfl (.m rfl rfl rfl (.cmp rfl rfl rfl) (.nil (hK13 _ _ ?_)))))))))
  refine .cond rfl (fun h28 => ?_) (fun h28 => ?_)
  ·
   exact absurd h28 (by simp; omega)
  try simp only [sps] at h28
  refine .skip ?_
  refine hK12 _ _ (.seq (fun K14 hK14 => .region (.mv rfl (.mv rfl (.nil (hK14 _ _ ?_))))))
  refine .ret ?_
  refine hret _ _ ?_
  refine ⟨_, rfl, ?_⟩
  exact ⟨by rw [ht]; congr 1; omega, hle⟩
end Go.Proofs.Ytdjodpdmbklfhaa
namespace Go.GL
def sumL3 : List (List (List Int)) → Nat
  | [] => 0
  | xs :: r => sumL xs + sumL3 r
theorem sumL3_take_succ {x : List (List (List Int))} {k : Nat} (h : k < x.length) : sumL3 (x.take (k + 1)) = sumL3 (x.take k) + sumL (x.getD k []) := by
  induction x generalizing k with
  | nil => simp at h
  | cons y r ih =>
    cases k with
    | zero => simp [sumL3]
    | succ k =>
      have := ih (k := k) (by simpa using h)
      simp only [List.take_succ_cons, sumL3, List.getD_cons_succ]
      omega
theorem sumL3_take_le {x : List (List (List Int))} {k : Nat} : sumL3 (x.take k) ≤ sumL3 x := by
  induction x generalizing k with
  | nil => simp
  | cons y r ih =>
    cases k with
    | zero => simp [sumL3]
    | succ k => simp only [List.take_succ_cons, sumL3]; have := ih (k := k); omega
theorem sumL3_le {m : Nat} : ∀ {x : List (List (List Int))}, (∀ i, sumL (x.getD i []) ≤ m) → sumL3 x ≤ x.length * m
  | [], _ => by simp [sumL3]
  | y :: r, h => by
    have h0 := h 0
    have := sumL3_le (x := r) fun i => by simpa using h (i + 1)
    simp only [sumL3, List.length_cons, Nat.add_mul]
    simp at h0
    omega
theorem sumL3_tot {x : List (List (List Int))} (h : Sm3 x) : sumL3 x ≤ 1048576 * (1048576 * 1048576) := by
  have := sumL3_le (m := 1048576 * 1048576) (x := x) fun i => sumL_tot (h.2 i).1 (h.2 i).2
  exact Nat.le_trans this (Nat.mul_le_mul_right _ h.1)
def rows3L (r : Nat → Nat → Option Addr) (x : List (List (List Int))) (n : Nat) : List Leaf := (List.range n).flatMap fun i => rowsL (r i) (x.getD i []) (x.getD i []).length
theorem rows3L_succ (r : Nat → Nat → Option Addr) (x : List (List (List Int))) (n : Nat) : rows3L r x (n + 1) = rows3L r x n ++ rowsL (r n) (x.getD n []) (x.getD n []).length := by simp [rows3L, List.range_succ]
theorem lvSum_rowsL_all (r : Nat → Option Addr) (xss : List (List Int)) : lvSum (rowsL r xss xss.length) = sumL xss := by rw [lvSum_rowsL r xss _ (Nat.le_refl _), List.take_length]
theorem lvSum_rows3L (r : Nat → Nat → Option Addr) (x : List (List (List Int))) : ∀ n, n ≤ x.length → lvSum (rows3L r x n) = sumL3 (x.take n)
  | 0, _ => by simp [rows3L, lvSum, sumL3]
  | n + 1, h => by rw [rows3L_succ, lvSum_append, lvSum_rows3L r x n (by omega), sumL3_take_succ (by omega), lvSum_rowsL_all]
def IntsssW (lo hi : Nat) (H : GHeap) (a : Option Addr) (x : List (List (List Int))) (r : Nat → Option Addr) (s : Nat → Nat → Option Addr) : Prop :=
  SlA H a x.length (fun i => .slice (r i) (x.getD i []).length (x.getD i []).length) ∧ (∀ i, i < x.length → IntssW lo hi H (r i) (x.getD i []) (s i)) ∧ HdGe lo a x.length
theorem IntsssW.stm {lo hi : Nat} {H H' : GHeap} {a : Option Addr} {x : List (List (List Int))} {r : Nat → Option Addr} {q : Nat → Nat → Option Addr} (h : IntsssW lo hi H a x r q) (s : StM lo hi H H') : IntsssW lo hi H' a x r q :=
  ⟨h.1.stm s fun i m e => (by cases e), fun i hi => (h.2.1 i hi).stm s, h.2.2⟩
theorem IntsssW.keep {lo lo' hi : Nat} {H H' : GHeap} {a : Option Addr} {x : List (List (List Int))} {r : Nat → Option Addr} {q : Nat → Nat → Option Addr} (h : IntsssW lo hi H a x r q) (k : Keep lo' H H') (hb : lo' ≤ lo) : IntsssW lo hi H' a x r q := ⟨h.1.keep h.2.2 k hb, fun i hi => (h.2.1 i hi).keep k hb, h.2.2⟩
theorem IntsssW.of_at {b : Nat} {H0 H : GHeap} {a : Option Addr} {x : List (List (List Int))} {r : Nat → Option Addr} {q : Nat → Nat → Option Addr} (h : IntsssAt b H0 a x r q) (k : Keep b H0 H) : IntsssW b H0.next H a x r q :=
  ⟨(h.keep k (Nat.le_refl _)).intsss.1, fun i hi => by obtain ⟨g, e, cs, _, _, _, _, _, h6⟩ := h; exact .of_at (h6 i hi) k, by obtain ⟨g, e, cs, h1, h2, _⟩ := h; exact .inr ⟨g, 0, h1, h2⟩⟩
def Prof.total (f : Prof) : Nat := f.s.total + (f.t.total + (sumL f.sz + (sumL3 f.be + sumL3 f.bh)))
def ProfW (lo hi : Nat) (H : GHeap) (f : Prof) (p : ProfP) : Prop := CatW lo hi H f.s p.s ∧ CatW lo hi H f.t p.t ∧ IntssW lo hi H p.a2 f.sz p.r2 ∧ IntsssW lo hi H p.a3 f.be p.r3 p.s3 ∧ IntsssW lo hi H p.a4 f.bh p.r4 p.s4
theorem ProfW.stm {lo hi : Nat} {H H' : GHeap} {c : Prof} {p : ProfP} (h : ProfW lo hi H c p) (s : StM lo hi H H') : ProfW lo hi H' c p := ⟨h.1.stm s, h.2.1.stm s, h.2.2.1.stm s, h.2.2.2.1.stm s, h.2.2.2.2.stm s⟩
theorem ProfW.keep {lo lo' hi : Nat} {H H' : GHeap} {c : Prof} {p : ProfP} (h : ProfW lo hi H c p) (k : Keep lo' H H') (hb : lo' ≤ lo) : ProfW lo hi H' c p := ⟨h.1.keep k hb, h.2.1.keep k hb, h.2.2.1.keep k hb, h.2.2.2.1.keep k hb, h.2.2.2.2.keep k hb⟩
theorem ProfW.of_at {b : Nat} {H0 H : GHeap} {c : Prof} {p : ProfP} (h : ProfAt b H0 c p) (k : Keep b H0 H) : ProfW b H0.next H c p := ⟨.of_at h.1 k, .of_at h.2.1 k, .of_at h.2.2.1 k, .of_at h.2.2.2.1 k, .of_at h.2.2.2.2 k⟩
def Prof.leaves (f : Prof) (p : ProfP) : List Leaf := f.s.leaves p.s ++ (f.t.leaves p.t ++ (rowsL p.r2 f.sz f.sz.length ++ (rows3L p.s3 f.be f.be.length ++ rows3L p.s4 f.bh f.bh.length)))
theorem Prof.Small.tot {c : Prof} (h : c.Small) : c.total ≤ 8 * 1048576 + 4 * 1048576 * 1048576 + 2 * (1048576 * (1048576 * 1048576)) := by
  obtain ⟨h1, h2, h3, h4, h5⟩ := h
  have := h1.tot
  have := h2.tot
  have := sumL_tot h3.1 h3.2
  have := sumL3_tot h4
  have := sumL3_tot h5
  unfold Prof.total
  omega
end Go.GL
namespace Go.Proofs.Ytdjodpdmbklfhaa
open Go Go.GL Go.RowKit Go.Proofs
theorem markInt64SSS_c {a : Option Addr} {x : List (List (List Int))} {r : Nat → Option Addr} {s : Nat → Nat → Option Addr} {lo hi : Nat} {k : Int} {H : GHeap} (h : IntsssW lo hi H a x r s := by assumption) (hm : Sm3 x := by assumption) (hk : 0 ≤ k := by omega) (hk' : k + sumL3 x ≤ 9223372036854775000 := by omega) :
    GCalls Try.prog 60 [.slice a x.length x.length, .int .i64 k] H (fun v H' => v = .int .i64 (k + sumL3 x) ∧ Marked lo hi H H' (rows3L s x x.length) k) := by
  obtain ⟨hl, hm2⟩ := hm
  refine GCalls.body (N := 19) (rs := [.tmp 4]) Try.func60 rfl rfl rfl rfl (fun Qx hret hend => ?_)
  refine .forget (fr' := [(0, some _), (1, some _)]) ⟨rfl, rfl, trivial⟩ ?_
  refine .seq (fun K1 hK1 => .region (.mv rfl (.nil (hK1 _ _ (.seq (fun K2 hK2 => .seq (fun K3 hK3 => .region (.mv rfl (.nil (hK3 _ _ ?_))))))))))
  refine .block ?_
  refine .loopR (σ := Nat × Int) [(0, some _)] (fun (i, q) => [(5, some (.int .i64 (i : Int))), (1, some (.int .i64 q))]) (fun (i, q) H' => i ≤ x.length ∧ q = k + sumL3 (x.take i) ∧ Marked lo hi H H' (rows3L s x i) k) (fun (i, q) => x.length - i) ((0, k)) ⟨rfl, trivial⟩ ⟨rfl, rfl, trivial⟩ ?_ ?_
  ·
   exact ⟨by omega, by simp [sumL3], .nil _ _ _ _⟩
  rintro ⟨i, q⟩ H' hI KL1 hKL1
  refine .forget (fr' := [(5, some (.int .i64 (i : Int))), (1, some (.int .i64 q)), (0, some _)]) ⟨rfl, rfl, rfl, trivial⟩ ?_
  obtain ⟨hi', hq, hmk⟩ := hI
  have hw := h.stm hmk.stm
  have hsl := hw.1
  have hle1 := sumL3_take_le (x := x) (k := i + 1)
  refine .seq (fun K4 hK4 => .seq (fun K5 hK5 => .region (.mv rfl (.mv rfl (.m rfl rfl rfl (.len sl_26_VZ rfl) (.m rfl rfl rfl (.cmp rfl rfl rfl) (.nil (hK5 _ _ ?_))))))))
  refine .cond rfl (fun h9 => ?_) (fun h9 => ?_)
  ·
   simp only [sps] at h9
   have hts := sumL3_take_succ (x := x) (k := i) (by omega)
   refine .skip ?_
   refine hK4 _ _ (.seq (fun K6 hK6 => ?_))
   refine .block ?_
   refine .region (.mv rfl (.mv rfl ?_))
   refine .m rfl rfl rfl (.idxN sl_26_VZ hsl rfl rfl (by omega)) ?_
   refine .m rfl rfl rfl (.loadE on_23_B hsl rfl (by omega)) ?_
   refine .mv rfl ?_
   refine .call rfl rfl rfl rfl @Try.call21 rfl (markInt64SS_c (hw.2.1 i (by omega)) (by omega) (by omega) (hm2 i).1) ?_
   rintro _ H17 ⟨rfl, mk17⟩
   refine .mv rfl (.nil (hK6 _ _ (.region (.mv rfl ?_))))
   refine .m rfl rfl rfl (.add rfl rfl rfl (by omega) (by omega)) ?_
   refine .mv rfl (.nil ?_)
   refine hKL1 ((i + 1, _)) _ _ ?_ ?_ ⟨rfl, rfl, rfl, trivial⟩
   ·
    exact ⟨by omega, by rw [sumL3_take_succ (by omega)]; omega, by rw [rows3L_succ]; exact hmk.app' mk17 (by rw [lvSum_rows3L _ _ _ (by omega)]; omega)⟩
   (dsimp only; omega)
  try simp only [sps] at h9
  refine .exit ?_
  refine hK2 _ _ (.seq (fun K7 hK7 => .region (.mv rfl (.mv rfl (.nil (hK7 _ _ ?_))))))
  refine .ret ?_
  refine hret _ _ ?_
  refine ⟨_, rfl, ?_⟩
  obtain rfl : i = x.length := by omega
  exact ⟨by rw [hq, List.take_length], hmk⟩
theorem markProfunctor_c {c : Prof} {p : ProfP} {lo hi : Nat} {k : Int} {H : GHeap} (w : ProfW lo hi H c p := by assumption) (hs : c.Small := by assumption) (hk : 0 ≤ k := by omega) (hk' : k + c.total ≤ 9223372036854775000 := by omega) (hhi : hi ≤ H.next := by omega) :
    GCalls Try.prog 15 [.agg (c.cells p).toArray, .int .i64 k] H (fun v H' => v = .int .i64 (k + c.total) ∧ Marked lo hi H H' (c.leaves p) k) := by
  obtain ⟨w1, w2, w3, w4, w5⟩ := w
  have ht : c.total = c.s.total + (c.t.total + (sumL c.sz + (sumL3 c.be + sumL3 c.bh))) := rfl
  obtain ⟨s1, s2, s3, s4, s5⟩ := hs
  obtain ⟨s31, s32⟩ := s3
  refine GCalls.body (N := 26) (rs := [.tmp 4]) Try.func15 rfl rfl rfl rfl (fun Qx hret hend => ?_)
  refine .forget (fr' := [(0, some _), (1, some _)]) ⟨rfl, rfl, trivial⟩ ?_
  refine .seq (fun K1 hK1 => .region ?_)
  refine .r rfl rfl rfl (.boxR rfl sz_34_VProf rfl) ?_
  rintro _ H2 ⟨g2, rfl, le2, ge2, at2⟩
  have nx_H2 := le2.1
  have lt_at2 := GHeap.ltg at2
  have mm2 : MemN _ _ _ _ _ := ⟨rfl, Mem.of_get at2⟩
  replace w1 := w1.stm (.of_le le2)
  replace w2 := w2.stm (.of_le le2)
  replace w3 := w3.stm (.of_le le2)
  replace w4 := w4.stm (.of_le le2)
  replace w5 := w5.stm (.of_le le2)
  refine .mv rfl (.nil (hK1 _ _ (.seq (fun K2 hK2 => .region ?_))))
  have hx : Mem H2 g2 0 (c.s.cells p.s ++ (c.t.cells p.t ++ [.slice p.a2 c.sz.length c.sz.length, .slice p.a3 c.be.length c.be.length, .slice p.a4 c.bh.length c.bh.length])) := Mem.of_get at2
  have m1 : MemN H2 g2 (0 + 0) 5 (c.s.cells p.s) := ⟨rfl, hx.left⟩
  refine .m rfl rfl rfl (.fieldAddr fo_34_0_VProf rfl) ?_
  refine .m rfl rfl rfl (.loadM ag_30_D rfl (by assumption)) ?_
  refine .mv rfl ?_
  refine .call rfl rfl rfl rfl @Try.call16 rfl (markCategory_c) ?_
  rintro _ H8 ⟨rfl, mk8⟩
  have sm8 := mk8.stm
  have nx_H8 := sm8.nx
  replace at2 := sm8.same _ _ (by omega) at2
  replace w1 := w1.stm sm8
  replace w2 := w2.stm sm8
  replace w3 := w3.stm sm8
  replace w4 := w4.stm sm8
  replace w5 := w5.stm sm8
  clear mm2
  have mm2 : MemN _ _ _ _ _ := ⟨rfl, Mem.of_get at2⟩
  refine .mv rfl (.nil (hK2 _ _ (.seq (fun K3 hK3 => .region ?_))))
  have hx : Mem H8 g2 0 (c.s.cells p.s ++ (c.t.cells p.t ++ [.slice p.a2 c.sz.length c.sz.length, .slice p.a3 c.be.length c.be.length, .slice p.a4 c.bh.length c.bh.length])) := Mem.of_get at2
  have m2 : MemN H8 g2 (0 + 5) 5 (c.t.cells p.t) := ⟨rfl, (hx.right (n := 5) rfl).left⟩
  refine .m rfl rfl rfl (.fieldAddr fo_34_1_VProf rfl) ?_
  refine .m rfl rfl rfl (.loadM ag_30_D rfl (by assumption)) ?_
  refine .mv rfl ?_
  refine .call rfl rfl rfl rfl @Try.call16 rfl (markCategory_c) ?_
  rintro _ H12 ⟨rfl, mk12⟩
  have sm12 := mk12.stm
  have nx_H12 := sm12.nx
  replace at2 := sm12.same _ _ (by omega) at2
  replace w1 := w1.stm sm12
  replace w2 := w2.stm sm12
  replace w3 := w3.stm sm12
  replace w4 := w4.stm sm12
  replace w5 := w5.stm sm12
  clear mm2
  have mm2 : MemN _ _ _ _ _ := ⟨rfl, Mem.of_get at2⟩
  refine .mv rfl (.nil (hK3 _ _ (.seq (fun K4 hK4 => .region ?_))))
  have c1 : H12.cell g2 (0 + 10) = some (.slice p.a2 c.sz.length c.sz.length) := Mem.of_get at2 10 _ rfl
  refine .m rfl rfl rfl (.fieldAddr fo_34_2_VProf rfl) ?_
  refine .m rfl rfl rfl (.load on_23_B rfl (by first | assumption | exact Mem.of_get at2 10 _ rfl)) ?_
  refine .mv rfl ?_
  refine .call rfl rfl rfl rfl @Try.call21 rfl (markInt64SS_c) ?_
  rintro _ H16 ⟨rfl, mk16⟩
  have sm16 := mk16.stm
  have nx_H16 := sm16.nx
  replace at2 := sm16.same _ _ (by omega) at2
  replace w1 := w1.stm sm16
  replace w2 := w2.stm sm16
  replace w3 := w3.stm sm16
  replace w4 := w4.stm sm16
  replace w5 := w5.stm sm16
  clear mm2
  have mm2 : MemN _ _ _ _ _ := ⟨rfl, Mem.of_get at2⟩
  refine .mv rfl (.nil (hK4 _ _ (.seq (fun K5 hK5 => .region ?_))))
  have c1 : H16.cell g2 (0 + 11) = some (.slice p.a3 c.be.length c.be.length) := Mem.of_get at2 11 _ rfl
  refine .m rfl rfl rfl (.fieldAddr fo_34_3_VProf rfl) ?_
  refine .m rfl rfl rfl (.load on_26_VProf rfl (by first | assumption | exact Mem.of_get at2 11 _ rfl)) ?_
  refine .mv rfl ?_
  refine .call rfl rfl rfl rfl @Try.call60 rfl (markInt64SSS_c) ?_
  rintro _ H20 ⟨rfl, mk20⟩
  have sm20 := mk20.stm
  have nx_H20 := sm20.nx
  replace at2 := sm20.same _ _ (by omega) at2
  replace w1 := w1.stm sm20
  replace w2 := w2.stm sm20
  replace w3 := w3.stm sm20
  replace w4 := w4.stm sm20
  replace w5 := w5.stm sm20
  clear mm2
  have mm2 : MemN _ _ _ _ _ := ⟨rfl, Mem.of_get at2⟩
  refine .mv rfl (.nil (hK5 _ _ (.seq (fun K6 hK6 => .region ?_))))
  have c1 : H20.cell g2 (0 + 12) = some (.slice p.a4 c.bh.length c.bh.length) := Mem.of_get at2 12 _ rfl
  refine .m rfl rfl rfl (.fieldAddr fo_34_4_VProf rfl) ?_
  refine .m rfl rfl rfl (.load on_26_VProf rfl (by first | assumption | exact Mem.of_get at2 12 _ rfl)) ?_
  refine .mv rfl ?_
  refine .call rfl rfl rfl rfl @Try.call60 rfl (markInt64SSS_c) ?_
  rintro _ H24 ⟨rfl, mk24⟩
  have sm24 := mk24.stm
  have nx_H24 := sm24.nx
  replace at2 := sm24.same _ _ (by omega) at2
  replace w1 := w1.stm sm24
  replace w2 := w2.stm sm24
  replace w3 := w3.stm sm24
  replace w4 := w4.stm sm24
  replace w5 := w5.stm sm24
  clear mm2
  have mm2 : MemN _ _ _ _ _ := ⟨rfl, Mem.of_get at2⟩
  refine .mv rfl (.nil (hK6 _ _ (.seq (fun K7 hK7 => .region (.mv rfl (.mv rfl (.nil (hK7 _ _ ?_))))))))
  refine .ret ?_
  refine hret _ _ ?_
  refine ⟨_, rfl, ?_⟩
  refine ⟨by rw [ht]; congr 1; omega, .le_left le2 (mk8.app' (mk12.app' (mk16.app' (mk20.app' mk24 ?_) ?_) ?_) ?_)⟩
  · rw [lvSum_rows3L _ _ _ (Nat.le_refl _), List.take_length]
  · rw [lvSum_rowsL_all]
  · rw [Cat.lvSum_leaves]
  · rw [Cat.lvSum_leaves]
end Go.Proofs.Ytdjodpdmbklfhaa
namespace Go.Proofs.Ytdjodpdmbklfhaa
open Go Go.GL Go.RowKit Go.Proofs
theorem ag_28_LCollageOf : aggT Try.prog 28 = some 13 := by kernel_rfl
set_option maxHeartbeats 40000000 in
theorem lawCollageOf_c {m : Prof} {p : ProfP} {H : GHeap} (h0 : m.In H p) (w0 : m.Wide) :
    GCalls Try.prog 3 [.agg (m.cells p).toArray] H (fun v _ => v = .bool true) := by
  refine GCalls.body (N := 96) (rs := [.tmp 2]) Try.func3 rfl rfl rfl rfl (fun Qx hret hend => ?_)
  refine .forget (fr' := [(0, some _)]) ⟨rfl, trivial⟩ ?_
  have hle := GHeap.Le.refl H
  have base_h0 := h0
  refine .seq (fun K1 hK1 => .region ?_)
  refine .r rfl rfl rfl (.boxR rfl sz_28_VProf rfl) ?_
  rintro _ H1 ⟨g1, rfl, le1, ge1, at1⟩
  have nx_H1 := le1.1
  replace hle := hle.trans le1
  have lt_at1 := GHeap.ltg at1
  replace h0 := base_h0.mono hle
  have hb1 : Prof.At _ g1 0 m p := ⟨Mem.of_get at1, h0⟩
  obtain ⟨fs1, ft1, c101, c111, c121, i21, i31, i41⟩ := hb1.get
  refine .mv rfl (.nil (hK1 _ _ (.seq (fun K2 hK2 => .region (.mv rfl (.nil (hK2 _ _ (.seq (fun K3 hK3 => .region ?_)))))))))
  refine .m rfl rfl rfl (.loadM ag_28_LCollageOf rfl ⟨rfl, Mem.of_get at1⟩) ?_
  refine .mv rfl ?_
  refine .call rfl rfl rfl rfl @Try.call9 rfl (szProfunctor_c) ?_
  rintro _ _ ⟨heq, lf16, rfl, z116, z216, z316⟩
  obtain rfl := heq.symm
  refine .mv rfl (.nil (hK3 _ _ (.seq (fun K4 hK4 => .seq (fun K5 hK5 => .region (.mv rfl (.m rfl rfl rfl (.cmp rfl rfl rfl) (.nil (hK5 _ _ ?_)))))))))
  refine .cond rfl (fun h18 => ?_) (fun h18 => ?_)
  ·
   try simp only [sps] at h18
   refine .seq (fun K6 hK6 => .region (.mv rfl (.nil (hK6 _ _ ?_))))
   refine .ret ?_
   refine hret _ _ ?_
   refine ⟨_, rfl, ?_⟩
   exact rfl
  simp only [sps] at h18
  have hsR := m.col_small
  have htR := hsR.tot
  have hsm16 := z316 (by omega)
  have tb16 := hsm16.tot
  refine .skip ?_
  refine hK4 _ _ (.seq (fun K7 hK7 => .region ?_))
  refine .m rfl rfl rfl (.loadM ag_28_LCollageOf rfl ⟨rfl, Mem.of_get at1⟩) ?_
  refine .call rfl rfl rfl rfl @Try.call11 rfl (toProfunctor_c) ?_
  rintro _ H21 ⟨le21, p21, rfl, v21⟩
  have nx_H21 := le21.1
  replace hle := hle.trans le21
  replace at1 := le21.2 _ _ at1
  have bs_v21 := v21
  have lv_v21 : Keep H1.next H21 H21 := fun _ _ _ h => h
  replace h0 := base_h0.mono hle
  clear hb1 fs1 ft1 c101 c111 c121 i21 i31 i41
  have hb1 : Prof.At _ g1 0 m p := ⟨Mem.of_get at1, h0⟩
  obtain ⟨fs1, ft1, c101, c111, c121, i21, i31, i41⟩ := hb1.get
  have i21 := v21.inn
  refine .call rfl rfl rfl rfl @Try.call10 rfl (specCollageOf_c) ?_
  rintro _ H22 ⟨le22, p22, rfl, v22⟩
  have nx_H22 := le22.1
  replace hle := hle.trans le22
  replace at1 := le22.2 _ _ at1
  replace lv_v21 := Keep.le lv_v21 le22
  replace v21 := bs_v21.keep lv_v21 (Nat.le_refl _)
  have bs_v22 := v22
  have lv_v22 : Keep H21.next H22 H22 := fun _ _ _ h => h
  replace h0 := base_h0.mono hle
  clear hb1 fs1 ft1 c101 c111 c121 i21 i31 i41
  have hb1 : Prof.At _ g1 0 m p := ⟨Mem.of_get at1, h0⟩
  obtain ⟨fs1, ft1, c101, c111, c121, i21, i31, i41⟩ := hb1.get
  clear i21
  have i21 := v21.inn
  have i22 := v22.inn
  refine .mv rfl (.m rfl rfl rfl (.extract rfl rfl) (.m rfl rfl rfl (.extract rfl rfl) ?_))
  refine .r rfl rfl rfl (.allocR rfl ze_30_E rfl) ?_
  rintro _ H4 ⟨g4, rfl, le4, ge4, at4⟩
  have nx_H4 := le4.1
  replace hle := hle.trans le4
  replace at1 := le4.2 _ _ at1
  replace lv_v21 := Keep.le lv_v21 le4
  replace v21 := bs_v21.keep lv_v21 (Nat.le_refl _)
  replace lv_v22 := Keep.le lv_v22 le4
  replace v22 := bs_v22.keep lv_v22 (Nat.le_refl _)
  have lt_at4 := GHeap.ltg at4
  replace h0 := base_h0.mono hle
  clear hb1 fs1 ft1 c101 c111 c121 i21 i31 i41
  have hb1 : Prof.At _ g1 0 m p := ⟨Mem.of_get at1, h0⟩
  obtain ⟨fs1, ft1, c101, c111, c121, i21, i31, i41⟩ := hb1.get
  clear i21
  have i21 := v21.inn
  clear i22
  have i22 := v22.inn
  refine .r0 rfl rfl (.fillR rfl sz_30_D rfl rfl rfl rfl (by assumption) (by first | rfl | exact Nat.le_of_ble_eq_true rfl | simp)) ?_
  rintro _ H5007 ⟨rfl, st5007, at5007⟩
  have nx_H5007 := st5007.nx
  replace hle := hle.st st5007 (fun k hk => ⟨by omega, trivial⟩)
  replace at1 := st5007.same _ _ ⟨(by first | assumption | omega), trivial⟩ at1
  replace lv_v21 := Keep.st lv_v21 st5007 (fun k hb hk => ⟨by omega, trivial⟩)
  replace v21 := bs_v21.keep lv_v21 (Nat.le_refl _)
  replace lv_v22 := Keep.st lv_v22 st5007 (fun k hb hk => ⟨by omega, trivial⟩)
  replace v22 := bs_v22.keep lv_v22 (Nat.le_refl _)
  have lt_at5007 := GHeap.ltg at5007
  replace h0 := base_h0.mono hle
  clear hb1 fs1 ft1 c101 c111 c121 i21 i31 i41
  have hb1 : Prof.At _ g1 0 m p := ⟨Mem.of_get at1, h0⟩
  obtain ⟨fs1, ft1, c101, c111, c121, i21, i31, i41⟩ := hb1.get
  clear i21
  have i21 := v21.inn
  clear i22
  have i22 := v22.inn
  refine .mv rfl (.nil (hK7 _ _ (.seq (fun K8 hK8 => .region ?_))))
  refine .m rfl rfl rfl (.loadM ag_28_LCollageOf rfl ⟨rfl, Mem.of_get at1⟩) ?_
  refine .call rfl rfl rfl rfl @Try.call11 rfl (toProfunctor_c) ?_
  rintro _ H26 ⟨le26, p26, rfl, v26⟩
  have nx_H26 := le26.1
  replace hle := hle.trans le26
  replace at1 := le26.2 _ _ at1
  replace at5007 := le26.2 _ _ at5007
  replace lv_v21 := Keep.le lv_v21 le26
  replace v21 := bs_v21.keep lv_v21 (Nat.le_refl _)
  replace lv_v22 := Keep.le lv_v22 le26
  replace v22 := bs_v22.keep lv_v22 (Nat.le_refl _)
  have bs_v26 := v26
  have lv_v26 : Keep H5007.next H26 H26 := fun _ _ _ h => h
  replace h0 := base_h0.mono hle
  clear hb1 fs1 ft1 c101 c111 c121 i21 i31 i41
  have hb1 : Prof.At _ g1 0 m p := ⟨Mem.of_get at1, h0⟩
  obtain ⟨fs1, ft1, c101, c111, c121, i21, i31, i41⟩ := hb1.get
  clear i21
  have i21 := v21.inn
  clear i22
  have i22 := v22.inn
  have i26 := v26.inn
  refine .r rfl rfl rfl (.allocR rfl ze_34_VProf rfl) ?_
  rintro _ H6 ⟨g6, rfl, le6, ge6, at6⟩
  have nx_H6 := le6.1
  replace hle := hle.trans le6
  replace at1 := le6.2 _ _ at1
  replace at5007 := le6.2 _ _ at5007
  replace lv_v21 := Keep.le lv_v21 le6
  replace v21 := bs_v21.keep lv_v21 (Nat.le_refl _)
  replace lv_v22 := Keep.le lv_v22 le6
  replace v22 := bs_v22.keep lv_v22 (Nat.le_refl _)
  replace lv_v26 := Keep.le lv_v26 le6
  replace v26 := bs_v26.keep lv_v26 (Nat.le_refl _)
  have lt_at6 := GHeap.ltg at6
  replace h0 := base_h0.mono hle
  clear hb1 fs1 ft1 c101 c111 c121 i21 i31 i41
  have hb1 : Prof.At _ g1 0 m p := ⟨Mem.of_get at1, h0⟩
  obtain ⟨fs1, ft1, c101, c111, c121, i21, i31, i41⟩ := hb1.get
  clear i21
  have i21 := v21.inn
  clear i22
  have i22 := v22.inn
  clear i26
  have i26 := v26.inn
  refine .r0 rfl rfl (.fillR rfl sz_34_VProf rfl rfl rfl rfl (by assumption) (by first | rfl | exact Nat.le_of_ble_eq_true rfl | simp)) ?_
  rintro _ H6003 ⟨rfl, st6003, at6003⟩
  have nx_H6003 := st6003.nx
  replace hle := hle.st st6003 (fun k hk => ⟨by omega, trivial⟩)
  replace at1 := st6003.same _ _ ⟨(by first | assumption | omega), trivial⟩ at1
  replace at5007 := st6003.same _ _ ⟨(by first | assumption | omega), trivial⟩ at5007
  replace lv_v21 := Keep.st lv_v21 st6003 (fun k hb hk => ⟨by omega, trivial⟩)
  replace v21 := bs_v21.keep lv_v21 (Nat.le_refl _)
  replace lv_v22 := Keep.st lv_v22 st6003 (fun k hb hk => ⟨by omega, trivial⟩)
  replace v22 := bs_v22.keep lv_v22 (Nat.le_refl _)
  replace lv_v26 := Keep.st lv_v26 st6003 (fun k hb hk => ⟨by omega, trivial⟩)
  replace v26 := bs_v26.keep lv_v26 (Nat.le_refl _)
  have lt_at6003 := GHeap.ltg at6003
  replace h0 := base_h0.mono hle
  clear hb1 fs1 ft1 c101 c111 c121 i21 i31 i41
  have hb1 : Prof.At _ g1 0 m p := ⟨Mem.of_get at1, h0⟩
  obtain ⟨fs1, ft1, c101, c111, c121, i21, i31, i41⟩ := hb1.get
  clear i21
  have i21 := v21.inn
  clear i22
  have i22 := v22.inn
  clear i26
  have i26 := v26.inn
  refine .nil (hK8 _ _ (.seq (fun K9 hK9 => .region ?_)))
  refine .m rfl rfl rfl (.loadM ag_34_VProf rfl ⟨rfl, Mem.of_get at6003⟩) ?_
  refine .call rfl rfl rfl rfl @Try.call12 rfl (implCollageOf_c) ?_
  rintro _ H29 ⟨le29, p29, rfl, v29⟩
  have nx_H29 := le29.1
  replace hle := hle.trans le29
  replace at1 := le29.2 _ _ at1
  replace at5007 := le29.2 _ _ at5007
  replace at6003 := le29.2 _ _ at6003
  replace lv_v21 := Keep.le lv_v21 le29
  replace v21 := bs_v21.keep lv_v21 (Nat.le_refl _)
  replace lv_v22 := Keep.le lv_v22 le29
  replace v22 := bs_v22.keep lv_v22 (Nat.le_refl _)
  replace lv_v26 := Keep.le lv_v26 le29
  replace v26 := bs_v26.keep lv_v26 (Nat.le_refl _)
  have bs_v29 := v29
  have lv_v29 : Keep H6003.next H29 H29 := fun _ _ _ h => h
  replace h0 := base_h0.mono hle
  clear hb1 fs1 ft1 c101 c111 c121 i21 i31 i41
  have hb1 : Prof.At _ g1 0 m p := ⟨Mem.of_get at1, h0⟩
  obtain ⟨fs1, ft1, c101, c111, c121, i21, i31, i41⟩ := hb1.get
  clear i21
  have i21 := v21.inn
  clear i22
  have i22 := v22.inn
  clear i26
  have i26 := v26.inn
  have i29 := v29.inn
  refine .mv rfl (.m rfl rfl rfl (.extract rfl rfl) (.m rfl rfl rfl (.extract rfl rfl) ?_))
  refine .r rfl rfl rfl (.allocR rfl ze_30_E rfl) ?_
  rintro _ H7 ⟨g7, rfl, le7, ge7, at7⟩
  have nx_H7 := le7.1
  replace hle := hle.trans le7
  replace at1 := le7.2 _ _ at1
  replace at5007 := le7.2 _ _ at5007
  replace at6003 := le7.2 _ _ at6003
  replace lv_v21 := Keep.le lv_v21 le7
  replace v21 := bs_v21.keep lv_v21 (Nat.le_refl _)
  replace lv_v22 := Keep.le lv_v22 le7
  replace v22 := bs_v22.keep lv_v22 (Nat.le_refl _)
  replace lv_v26 := Keep.le lv_v26 le7
  replace v26 := bs_v26.keep lv_v26 (Nat.le_refl _)
  replace lv_v29 := Keep.le lv_v29 le7
  replace v29 := bs_v29.keep lv_v29 (Nat.le_refl _)
  have lt_at7 := GHeap.ltg at7
  replace h0 := base_h0.mono hle
  clear hb1 fs1 ft1 c101 c111 c121 i21 i31 i41
  have hb1 : Prof.At _ g1 0 m p := ⟨Mem.of_get at1, h0⟩
  obtain ⟨fs1, ft1, c101, c111, c121, i21, i31, i41⟩ := hb1.get
  clear i21
  have i21 := v21.inn
  clear i22
  have i22 := v22.inn
  clear i26
  have i26 := v26.inn
  clear i29
  have i29 := v29.inn
  refine .r0 rfl rfl (.fillR rfl sz_30_D rfl rfl rfl rfl (by assumption) (by first | rfl | exact Nat.le_of_ble_eq_true rfl | simp)) ?_
  rintro _ H7006 ⟨rfl, st7006, at7006⟩
  have nx_H7006 := st7006.nx
  replace hle := hle.st st7006 (fun k hk => ⟨by omega, trivial⟩)
  replace at1 := st7006.same _ _ ⟨(by first | assumption | omega), trivial⟩ at1
  replace at5007 := st7006.same _ _ ⟨(by first | assumption | omega), trivial⟩ at5007
  replace at6003 := st7006.same _ _ ⟨(by first | assumption | omega), trivial⟩ at6003
  replace lv_v21 := Keep.st lv_v21 st7006 (fun k hb hk => ⟨by omega, trivial⟩)
  replace v21 := bs_v21.keep lv_v21 (Nat.le_refl _)
  replace lv_v22 := Keep.st lv_v22 st7006 (fun k hb hk => ⟨by omega, trivial⟩)
  replace v22 := bs_v22.keep lv_v22 (Nat.le_refl _)
  replace lv_v26 := Keep.st lv_v26 st7006 (fun k hb hk => ⟨by omega, trivial⟩)
  replace v26 := bs_v26.keep lv_v26 (Nat.le_refl _)
  replace lv_v29 := Keep.st lv_v29 st7006 (fun k hb hk => ⟨by omega, trivial⟩)
  replace v29 := bs_v29.keep lv_v29 (Nat.le_refl _)
  have lt_at7006 := GHeap.ltg at7006
  replace h0 := base_h0.mono hle
  clear hb1 fs1 ft1 c101 c111 c121 i21 i31 i41
  have hb1 : Prof.At _ g1 0 m p := ⟨Mem.of_get at1, h0⟩
  obtain ⟨fs1, ft1, c101, c111, c121, i21, i31, i41⟩ := hb1.get
  clear i21
  have i21 := v21.inn
  clear i22
  have i22 := v22.inn
  clear i26
  have i26 := v26.inn
  clear i29
  have i29 := v29.inn
  refine .mv rfl (.nil (hK9 _ _ (.seq (fun K10 hK10 => .seq (fun K11 hK11 => .region ?_)))))
  refine .m rfl rfl rfl (.loadM ag_30_D rfl ⟨rfl, Mem.of_get at7006⟩) ?_
  refine .m rfl rfl rfl (.loadM ag_30_D rfl ⟨rfl, Mem.of_get at5007⟩) ?_
  refine .callQ rfl rfl rfl rfl @Try.call13 rfl (eqCategory_c) ?_
  refine .m rfl rfl rfl (.not rfl) (.mv rfl ?_)
  refine .split (fun h36 => ?_) (fun h36 => ?_)
  ·
   try simp only [sps] at h36
   refine .sg rfl rfl rfl rfl rfl (.sg rfl rfl rfl rfl rfl (.sg rfl rfl rfl rfl rfl (.m rfl rfl rfl (.pickT rfl rfl) (.nil (hK11 _ _ ?_)))))
   refine .condT rfl ?_
   refine .seq (fun K12 hK12 => .region (.mv rfl (.nil (hK12 _ _ ?_))))
   refine .ret ?_
   refine hret _ _ ?_
   refine ⟨_, rfl, ?_⟩
   contradiction
  try simp only [sps] at h36
  refine .mg rfl rfl rfl rfl rfl (.move rfl) (.mg rfl rfl rfl rfl rfl (.move rfl) (.mg rfl rfl rfl rfl rfl (.cmp rfl rfl rfl) (.m rfl rfl rfl (.pickF rfl rfl) (.nil (hK11 _ _ ?_)))))
  refine .cond rfl (fun h40 => ?_) (fun h40 => ?_)
  ·
   try simp only [sps] at h40
   refine .seq (fun K13 hK13 => .region (.mv rfl (.nil (hK13 _ _ ?_))))
   refine .ret ?_
   refine hret _ _ ?_
   refine ⟨_, rfl, ?_⟩
   exact absurd trivial (by assumption)
  try simp only [sps] at h40
  refine .skip ?_
  refine hK10 _ _ (.seq (fun K14 hK14 => .seq (fun K15 hK15 => ?_)))
  refine .regionD mo_B (.q 0 (.q 1 (.c 2 1 (.c 3 0 (.q 4 (.done)))))) (by kernel_rfl) ?_
  refine .m rfl rfl rfl rfl (.refl _) (.loadM ag_34_VProf rfl ⟨rfl, Mem.of_get at6003⟩) ?_
  refine .m rfl rfl rfl rfl (.refl _) (.loadM ag_28_LCollageOf rfl ⟨rfl, Mem.of_get at1⟩) ?_
  refine .call1 rfl rfl rfl rfl rfl @Try.call11 rfl (toProfunctor_c) ?_
  rintro _ H43 ⟨le43, p43, rfl, v43⟩
  have hbl := le43
  refine ⟨hbl, ?_⟩
  have nx_H43 := le43.1
  replace hle := hle.trans le43
  replace at1 := le43.2 _ _ at1
  replace at5007 := le43.2 _ _ at5007
  replace at6003 := le43.2 _ _ at6003
  replace at7006 := le43.2 _ _ at7006
  replace lv_v21 := Keep.le lv_v21 le43
  replace v21 := bs_v21.keep lv_v21 (Nat.le_refl _)
  replace lv_v22 := Keep.le lv_v22 le43
  replace v22 := bs_v22.keep lv_v22 (Nat.le_refl _)
  replace lv_v26 := Keep.le lv_v26 le43
  replace v26 := bs_v26.keep lv_v26 (Nat.le_refl _)
  replace lv_v29 := Keep.le lv_v29 le43
  replace v29 := bs_v29.keep lv_v29 (Nat.le_refl _)
  have bs_v43 := v43
  have lv_v43 : Keep H7006.next H43 H43 := fun _ _ _ h => h
  replace h0 := base_h0.mono hle
  clear hb1 fs1 ft1 c101 c111 c121 i21 i31 i41
  have hb1 : Prof.At _ g1 0 m p := ⟨Mem.of_get at1, h0⟩
  obtain ⟨fs1, ft1, c101, c111, c121, i21, i31, i41⟩ := hb1.get
  clear i21
  have i21 := v21.inn
  clear i22
  have i22 := v22.inn
  clear i26
  have i26 := v26.inn
  clear i29
  have i29 := v29.inn
  have i43 := v43.inn
  refine .callQ0 rfl rfl rfl rfl rfl @Try.call14 rfl (eqProfunctor_c) ?_
  refine .m rfl rfl rfl rfl (.refl _) (.not rfl) ?_
  refine .done ?_
  refine hK15 _ _ ?_
  refine .cond rfl (fun h45 => ?_) (fun h45 => ?_)
  ·
   try simp only [sps] at h45
   refine .seq (fun K16 hK16 => .region (.mv rfl (.nil (hK16 _ _ ?_))))
   refine .ret ?_
   refine hret _ _ ?_
   refine ⟨_, rfl, ?_⟩
   contradiction
  try simp only [sps] at h45
  refine .skip ?_
  refine hK14 _ _ (.seq (fun K17 hK17 => .region (.mv rfl (.nil (hK17 _ _ (.seq (fun K18 hK18 => .region ?_)))))))
  refine .m rfl rfl rfl (.loadM ag_34_VProf rfl ⟨rfl, Mem.of_get at6003⟩) ?_
  refine .mv rfl ?_
  have w_v26 := ProfW.of_at bs_v26 lv_v26
  refine .call rfl rfl rfl rfl @Try.call15 rfl (markProfunctor_c) ?_
  rintro _ H48 ⟨rfl, mk48⟩
  have sm48 := mk48.stm
  have nx_H48 := sm48.nx
  replace hle := StM.le_left hle sm48 (by omega)
  replace at1 := sm48.same _ _ (by omega) at1
  replace at5007 := sm48.same _ _ (by omega) at5007
  replace at6003 := sm48.same _ _ (by omega) at6003
  replace at7006 := sm48.same _ _ (by omega) at7006
  replace lv_v21 := Keep.stM lv_v21 sm48 (fun k hb hk => by omega)
  replace v21 := bs_v21.keep lv_v21 (Nat.le_refl _)
  replace lv_v22 := Keep.stM lv_v22 sm48 (fun k hb hk => by omega)
  replace v22 := bs_v22.keep lv_v22 (Nat.le_refl _)
  replace lv_v29 := Keep.stM lv_v29 sm48 (fun k hb hk => by omega)
  replace v29 := bs_v29.keep lv_v29 (Nat.le_refl _)
  replace lv_v43 := Keep.stM lv_v43 sm48 (fun k hb hk => by omega)
  replace v43 := bs_v43.keep lv_v43 (Nat.le_refl _)
  replace h0 := base_h0.mono hle
  clear hb1 fs1 ft1 c101 c111 c121 i21 i31 i41
  have hb1 : Prof.At _ g1 0 m p := ⟨Mem.of_get at1, h0⟩
  obtain ⟨fs1, ft1, c101, c111, c121, i21, i31, i41⟩ := hb1.get
  clear i21
  have i21 := v21.inn
  clear i22
  have i22 := v22.inn
  clear i29
  have i29 := v29.inn
  clear i43
  have i43 := v43.inn
  refine .mv rfl (.nil (hK18 _ _ (.seq (fun K19 hK19 => .seq (fun K20 hK20 => .region (.mv rfl (.m rfl rfl rfl (.cmp rfl rfl rfl) (.mv rfl ?_))))))))
  refine .split (fun h51 => ?_) (fun h51 => ?_)
  ·
   try simp only [sps] at h51
   refine .sg rfl rfl rfl rfl rfl (.sg rfl rfl rfl rfl rfl (.sg rfl rfl rfl rfl rfl (.sg rfl rfl rfl rfl rfl (.m rfl rfl rfl (.pickT rfl rfl) (.mv rfl (.sg rfl rfl rfl rfl rfl (.sg rfl rfl rfl rfl rfl (.sg rfl rfl rfl rfl rfl (.m rfl rfl rfl (.pickT rfl rfl) (.nil (hK20 _ _ ?_)))))))))))
   refine .condT rfl ?_
   refine .seq (fun K21 hK21 => .region (.mv rfl (.nil (hK21 _ _ ?_))))
   refine .ret ?_
   refine hret _ _ ?_
   refine ⟨_, rfl, ?_⟩
   contradiction
  try simp only [sps] at h51
  refine .mg rfl rfl rfl rfl rfl (.loadM ag_30_D rfl ⟨rfl, Mem.of_get at7006⟩) ?_
  refine .mg rfl rfl rfl rfl rfl (.loadM ag_30_D rfl ⟨rfl, Mem.of_get at5007⟩) ?_
  refine .callQg rfl rfl rfl rfl rfl rfl @Try.call13 rfl (eqCategory_c) ?_
  refine .mg rfl rfl rfl rfl rfl (.not rfl) (.m rfl rfl rfl (.pickF rfl rfl) (.mv rfl ?_))
  refine .split (fun h57 => ?_) (fun h57 => ?_)
  ·
   try simp only [sps] at h57
   refine .sg rfl rfl rfl rfl rfl (.sg rfl rfl rfl rfl rfl (.sg rfl rfl rfl rfl rfl (.m rfl rfl rfl (.pickT rfl rfl) (.nil (hK20 _ _ ?_)))))
   refine .condT rfl ?_
   refine .seq (fun K22 hK22 => .region (.mv rfl (.nil (hK22 _ _ ?_))))
   refine .ret ?_
   refine hret _ _ ?_
   refine ⟨_, rfl, ?_⟩
   contradiction
  try simp only [sps] at h57
  refine .mg rfl rfl rfl rfl rfl (.move rfl) (.mg rfl rfl rfl rfl rfl (.move rfl) (.mg rfl rfl rfl rfl rfl (.cmp rfl rfl rfl) (.m rfl rfl rfl (.pickF rfl rfl) (.nil (hK20 _ _ ?_)))))
  refine .cond rfl (fun h61 => ?_) (fun h61 => ?_)
  ·
   try simp only [sps] at h61
   refine .seq (fun K23 hK23 => .region (.mv rfl (.nil (hK23 _ _ ?_))))
   refine .ret ?_
   refine hret _ _ ?_
   refine ⟨_, rfl, ?_⟩
   exact absurd trivial (by assumption)
  try simp only [sps] at h61
  refine .skip ?_
  refine hK19 _ _ (.seq (fun K24 hK24 => .region (.mv rfl (.nil (hK24 _ _ (.seq (fun K25 hK25 => .region ?_)))))))
  refine .m rfl rfl rfl (.loadM ag_30_D rfl ⟨rfl, Mem.of_get at7006⟩) ?_
  refine .mv rfl ?_
  have w_v29 := CatW.of_r bs_v29 lv_v29
  refine .call rfl rfl rfl rfl @Try.call16 rfl (markCategory_c) ?_
  rintro _ H64 ⟨rfl, mk64⟩
  have sm64 := mk64.stm
  have nx_H64 := sm64.nx
  replace hle := StM.le_left hle sm64 (by omega)
  replace at1 := sm64.same _ _ (by omega) at1
  replace at5007 := sm64.same _ _ (by omega) at5007
  replace at6003 := sm64.same _ _ (by omega) at6003
  replace at7006 := sm64.same _ _ (by omega) at7006
  replace lv_v21 := Keep.stM lv_v21 sm64 (fun k hb hk => by omega)
  replace v21 := bs_v21.keep lv_v21 (Nat.le_refl _)
  replace lv_v22 := Keep.stM lv_v22 sm64 (fun k hb hk => by omega)
  replace v22 := bs_v22.keep lv_v22 (Nat.le_refl _)
  replace lv_v43 := Keep.stM lv_v43 sm64 (fun k hb hk => by omega)
  replace v43 := bs_v43.keep lv_v43 (Nat.le_refl _)
  replace h0 := base_h0.mono hle
  clear hb1 fs1 ft1 c101 c111 c121 i21 i31 i41
  have hb1 : Prof.At _ g1 0 m p := ⟨Mem.of_get at1, h0⟩
  obtain ⟨fs1, ft1, c101, c111, c121, i21, i31, i41⟩ := hb1.get
  clear i21
  have i21 := v21.inn
  clear i22
  have i22 := v22.inn
  clear i43
  have i43 := v43.inn
  have hd64 := mk64.held (v29.2)
  have wd64 := w_v29.stm sm64
  have bs_hd64 := hd64
  have lv_hd64 : Keep H6003.next H64 H64 := fun _ _ _ h => h
  have bs_wd64 := wd64
  have lv_wd64 : Keep H6003.next H64 H64 := fun _ _ _ h => h
  refine .mv rfl (.nil (hK25 _ _ (.seq (fun K26 hK26 => .region (.mv rfl (.nil (hK26 _ _ (.seq (fun K27 hK27 => .region ?_)))))))))
  refine .m rfl rfl rfl (.loadM ag_30_D rfl ⟨rfl, Mem.of_get at7006⟩) ?_
  refine .mv rfl ?_
  refine .callQ rfl rfl rfl rfl @Try.call17 rfl (heldCategory_c) ?_
  refine .mv rfl (.nil (hK27 _ _ (.seq (fun K28 hK28 => .seq (fun K29 hK29 => .region (.mv rfl (.m rfl rfl rfl (.cmp rfl rfl rfl) (.nil (hK29 _ _ ?_)))))))))
  refine .cond rfl (fun h69 => ?_) (fun h69 => ?_)
  ·
   try simp only [sps] at h69
   refine .seq (fun K30 hK30 => .region (.mv rfl (.nil (hK30 _ _ ?_))))
   refine .ret ?_
   refine hret _ _ ?_
   refine ⟨_, rfl, ?_⟩
   contradiction
  try simp only [sps] at h69
  refine .skip ?_
  refine hK28 _ _ (.seq (fun K31 hK31 => .seq (fun K32 hK32 => .region (.mv rfl (.mv rfl (.m rfl rfl rfl (.cmp rfl rfl rfl) (.nil (hK32 _ _ ?_))))))))
  refine .cond rfl (fun h72 => ?_) (fun h72 => ?_)
  ·
   try simp only [sps] at h72
   refine .seq (fun K33 hK33 => .region (.mv rfl (.nil (hK33 _ _ ?_))))
   refine .ret ?_
   refine hret _ _ ?_
   refine ⟨_, rfl, ?_⟩
   exact absurd trivial (by assumption)
  try simp only [sps] at h72
  refine .skip ?_
  refine hK31 _ _ (.seq (fun K34 hK34 => .region ?_))
  refine .m rfl rfl rfl (.loadM ag_28_LCollageOf rfl ⟨rfl, Mem.of_get at1⟩) ?_
  refine .call rfl rfl rfl rfl @Try.call11 rfl (toProfunctor_c) ?_
  rintro _ H75 ⟨le75, p75, rfl, v75⟩
  have nx_H75 := le75.1
  replace hle := hle.trans le75
  replace at1 := le75.2 _ _ at1
  replace at5007 := le75.2 _ _ at5007
  replace at6003 := le75.2 _ _ at6003
  replace at7006 := le75.2 _ _ at7006
  replace lv_v21 := Keep.le lv_v21 le75
  replace v21 := bs_v21.keep lv_v21 (Nat.le_refl _)
  replace lv_v22 := Keep.le lv_v22 le75
  replace v22 := bs_v22.keep lv_v22 (Nat.le_refl _)
  replace lv_v43 := Keep.le lv_v43 le75
  replace v43 := bs_v43.keep lv_v43 (Nat.le_refl _)
  replace lv_hd64 := Keep.le lv_hd64 le75
  replace hd64 := bs_hd64.keep lv_hd64 (Nat.le_refl _)
  replace lv_wd64 := Keep.le lv_wd64 le75
  replace wd64 := bs_wd64.keep lv_wd64 (Nat.le_refl _)
  have bs_v75 := v75
  have lv_v75 : Keep H64.next H75 H75 := fun _ _ _ h => h
  replace h0 := base_h0.mono hle
  clear hb1 fs1 ft1 c101 c111 c121 i21 i31 i41
  have hb1 : Prof.At _ g1 0 m p := ⟨Mem.of_get at1, h0⟩
  obtain ⟨fs1, ft1, c101, c111, c121, i21, i31, i41⟩ := hb1.get
  clear i21
  have i21 := v21.inn
  clear i22
  have i22 := v22.inn
  clear i43
  have i43 := v43.inn
  have i75 := v75.inn
  refine .call rfl rfl rfl rfl @Try.call12 rfl (implCollageOf_c) ?_
  rintro _ H76 ⟨le76, p76, rfl, v76⟩
  have nx_H76 := le76.1
  replace hle := hle.trans le76
  replace at1 := le76.2 _ _ at1
  replace at5007 := le76.2 _ _ at5007
  replace at6003 := le76.2 _ _ at6003
  replace at7006 := le76.2 _ _ at7006
  replace lv_v21 := Keep.le lv_v21 le76
  replace v21 := bs_v21.keep lv_v21 (Nat.le_refl _)
  replace lv_v22 := Keep.le lv_v22 le76
  replace v22 := bs_v22.keep lv_v22 (Nat.le_refl _)
  replace lv_v43 := Keep.le lv_v43 le76
  replace v43 := bs_v43.keep lv_v43 (Nat.le_refl _)
  replace lv_hd64 := Keep.le lv_hd64 le76
  replace hd64 := bs_hd64.keep lv_hd64 (Nat.le_refl _)
  replace lv_wd64 := Keep.le lv_wd64 le76
  replace wd64 := bs_wd64.keep lv_wd64 (Nat.le_refl _)
  replace lv_v75 := Keep.le lv_v75 le76
  replace v75 := bs_v75.keep lv_v75 (Nat.le_refl _)
  have bs_v76 := v76
  have lv_v76 : Keep H75.next H76 H76 := fun _ _ _ h => h
  replace h0 := base_h0.mono hle
  clear hb1 fs1 ft1 c101 c111 c121 i21 i31 i41
  have hb1 : Prof.At _ g1 0 m p := ⟨Mem.of_get at1, h0⟩
  obtain ⟨fs1, ft1, c101, c111, c121, i21, i31, i41⟩ := hb1.get
  clear i21
  have i21 := v21.inn
  clear i22
  have i22 := v22.inn
  clear i43
  have i43 := v43.inn
  clear i75
  have i75 := v75.inn
  have i76 := v76.inn
  refine .mv rfl (.m rfl rfl rfl (.extract rfl rfl) (.m rfl rfl rfl (.extract rfl rfl) ?_))
  refine .r rfl rfl rfl (.allocR rfl ze_30_E rfl) ?_
  rintro _ H12 ⟨g12, rfl, le12, ge12, at12⟩
  have nx_H12 := le12.1
  replace hle := hle.trans le12
  replace at1 := le12.2 _ _ at1
  replace at5007 := le12.2 _ _ at5007
  replace at6003 := le12.2 _ _ at6003
  replace at7006 := le12.2 _ _ at7006
  replace lv_v21 := Keep.le lv_v21 le12
  replace v21 := bs_v21.keep lv_v21 (Nat.le_refl _)
  replace lv_v22 := Keep.le lv_v22 le12
  replace v22 := bs_v22.keep lv_v22 (Nat.le_refl _)
  replace lv_v43 := Keep.le lv_v43 le12
  replace v43 := bs_v43.keep lv_v43 (Nat.le_refl _)
  replace lv_hd64 := Keep.le lv_hd64 le12
  replace hd64 := bs_hd64.keep lv_hd64 (Nat.le_refl _)
  replace lv_wd64 := Keep.le lv_wd64 le12
  replace wd64 := bs_wd64.keep lv_wd64 (Nat.le_refl _)
  replace lv_v75 := Keep.le lv_v75 le12
  replace v75 := bs_v75.keep lv_v75 (Nat.le_refl _)
  replace lv_v76 := Keep.le lv_v76 le12
  replace v76 := bs_v76.keep lv_v76 (Nat.le_refl _)
  have lt_at12 := GHeap.ltg at12
  replace h0 := base_h0.mono hle
  clear hb1 fs1 ft1 c101 c111 c121 i21 i31 i41
  have hb1 : Prof.At _ g1 0 m p := ⟨Mem.of_get at1, h0⟩
  obtain ⟨fs1, ft1, c101, c111, c121, i21, i31, i41⟩ := hb1.get
  clear i21
  have i21 := v21.inn
  clear i22
  have i22 := v22.inn
  clear i43
  have i43 := v43.inn
  clear i75
  have i75 := v75.inn
  clear i76
  have i76 := v76.inn
  refine .r0 rfl rfl (.fillR rfl sz_30_D rfl rfl rfl rfl (by assumption) (by first | rfl | exact Nat.le_of_ble_eq_true rfl | simp)) ?_
  rintro _ H24007 ⟨rfl, st24007, at24007⟩
  have nx_H24007 := st24007.nx
  replace hle := hle.st st24007 (fun k hk => ⟨by omega, trivial⟩)
  replace at1 := st24007.same _ _ ⟨(by first | assumption | omega), trivial⟩ at1
  replace at5007 := st24007.same _ _ ⟨(by first | assumption | omega), trivial⟩ at5007
  replace at6003 := st24007.same _ _ ⟨(by first | assumption | omega), trivial⟩ at6003
  replace at7006 := st24007.same _ _ ⟨(by first | assumption | omega), trivial⟩ at7006
  replace lv_v21 := Keep.st lv_v21 st24007 (fun k hb hk => ⟨by omega, trivial⟩)
  replace v21 := bs_v21.keep lv_v21 (Nat.le_refl _)
  replace lv_v22 := Keep.st lv_v22 st24007 (fun k hb hk => ⟨by omega, trivial⟩)
  replace v22 := bs_v22.keep lv_v22 (Nat.le_refl _)
  replace lv_v43 := Keep.st lv_v43 st24007 (fun k hb hk => ⟨by omega, trivial⟩)
  replace v43 := bs_v43.keep lv_v43 (Nat.le_refl _)
  replace lv_hd64 := Keep.st lv_hd64 st24007 (fun k hb hk => ⟨by omega, trivial⟩)
  replace hd64 := bs_hd64.keep lv_hd64 (Nat.le_refl _)
  replace lv_wd64 := Keep.st lv_wd64 st24007 (fun k hb hk => ⟨by omega, trivial⟩)
  replace wd64 := bs_wd64.keep lv_wd64 (Nat.le_refl _)
  replace lv_v75 := Keep.st lv_v75 st24007 (fun k hb hk => ⟨by omega, trivial⟩)
  replace v75 := bs_v75.keep lv_v75 (Nat.le_refl _)
  replace lv_v76 := Keep.st lv_v76 st24007 (fun k hb hk => ⟨by omega, trivial⟩)
  replace v76 := bs_v76.keep lv_v76 (Nat.le_refl _)
  have lt_at24007 := GHeap.ltg at24007
  replace h0 := base_h0.mono hle
  clear hb1 fs1 ft1 c101 c111 c121 i21 i31 i41
  have hb1 : Prof.At _ g1 0 m p := ⟨Mem.of_get at1, h0⟩
  obtain ⟨fs1, ft1, c101, c111, c121, i21, i31, i41⟩ := hb1.get
  clear i21
  have i21 := v21.inn
  clear i22
  have i22 := v22.inn
  clear i43
  have i43 := v43.inn
  clear i75
  have i75 := v75.inn
  clear i76
  have i76 := v76.inn
  refine .mv rfl (.nil (hK34 _ _ (.seq (fun K35 hK35 => .seq (fun K36 hK36 => .region ?_)))))
  refine .m rfl rfl rfl (.loadM ag_30_D rfl ⟨rfl, Mem.of_get at24007⟩) ?_
  refine .m rfl rfl rfl (.loadM ag_30_D rfl ⟨rfl, Mem.of_get at5007⟩) ?_
  refine .callQ rfl rfl rfl rfl @Try.call13 rfl (eqCategory_c) ?_
  refine .m rfl rfl rfl (.not rfl) (.mv rfl ?_)
  refine .split (fun h83 => ?_) (fun h83 => ?_)
  ·
   try simp only [sps] at h83
   refine .sg rfl rfl rfl rfl rfl (.sg rfl rfl rfl rfl rfl (.sg rfl rfl rfl rfl rfl (.m rfl rfl rfl (.pickT rfl rfl) (.nil (hK36 _ _ ?_)))))
   refine .condT rfl ?_
   refine .seq (fun K37 hK37 => .region (.mv rfl (.nil (hK37 _ _ ?_))))
   refine .ret ?_
   refine hret _ _ ?_
   refine ⟨_, rfl, ?_⟩
   contradiction
  try simp only [sps] at h83
  refine .mg rfl rfl rfl rfl rfl (.move rfl) (.mg rfl rfl rfl rfl rfl (.move rfl) (.mg rfl rfl rfl rfl rfl (.cmp rfl rfl rfl) (.m rfl rfl rfl (.pickF rfl rfl) (.nil (hK36 _ _ ?_)))))
  refine .cond rfl (fun h87 => ?_) (fun h87 => ?_)
  ·
   try simp only [sps] at h87
   refine .seq (fun K38 hK38 => .region (.mv rfl (.nil (hK38 _ _ ?_))))
   refine .ret ?_
   refine hret _ _ ?_
   refine ⟨_, rfl, ?_⟩
   exact absurd trivial (by assumption)
  try simp only [sps] at h87
  refine .skip ?_
  refine hK35 _ _ (.seq (fun K39 hK39 => .region (.mv rfl (.nil (hK39 _ _ (.seq (fun K40 hK40 => .region ?_)))))))
  refine .m rfl rfl rfl (.loadM ag_30_D rfl ⟨rfl, Mem.of_get at7006⟩) ?_
  refine .mv rfl ?_
  refine .callQ rfl rfl rfl rfl @Try.call17 rfl (heldCategory_c) ?_
  refine .mv rfl (.nil (hK40 _ _ (.seq (fun K41 hK41 => .seq (fun K42 hK42 => .region (.mv rfl (.m rfl rfl rfl (.cmp rfl rfl rfl) (.nil (hK42 _ _ ?_)))))))))
  refine .cond rfl (fun h92 => ?_) (fun h92 => ?_)
  ·
   try simp only [sps] at h92
   refine .seq (fun K43 hK43 => .region (.mv rfl (.nil (hK43 _ _ ?_))))
   refine .ret ?_
   refine hret _ _ ?_
   refine ⟨_, rfl, ?_⟩
   contradiction
  try simp only [sps] at h92
  refine .skip ?_
  refine hK41 _ _ (.seq (fun K44 hK44 => .seq (fun K45 hK45 => .region (.mv rfl (.mv rfl (.m rfl rfl rfl (.cmp rfl rfl rfl) (.nil (hK45 _ _ ?_))))))))
  refine .cond rfl (fun h95 => ?_) (fun h95 => ?_)
  ·
   try simp only [sps] at h95
   refine .seq (fun K46 hK46 => .region (.mv rfl (.nil (hK46 _ _ ?_))))
   refine .ret ?_
   refine hret _ _ ?_
   refine ⟨_, rfl, ?_⟩
   exact absurd trivial (by assumption)
  try simp only [sps] at h95
  refine .skip ?_
  refine hK44 _ _ (.seq (fun K47 hK47 => .region (.mv rfl (.nil (hK47 _ _ ?_)))))
  refine .ret ?_
  refine hret _ _ ?_
  refine ⟨_, rfl, ?_⟩
  exact rfl
end Go.Proofs.Ytdjodpdmbklfhaa
