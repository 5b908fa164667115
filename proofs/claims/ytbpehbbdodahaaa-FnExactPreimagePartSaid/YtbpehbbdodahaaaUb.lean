/- Parts drawn back along a map. No condition but those of each statement. -/
import Derived.Test.YtbpehbbdodahaaaUa
namespace Go.Proofs.Ytbpehbbdodahaaa
open Go Go.GL Go.RowKit Go.Proofs
theorem bt_34_Ub : buildT Try.prog 34 = some ([.slice none 0 0], [(0, 1)]) := by kernel_rfl
set_option maxHeartbeats 4000000 in
theorem l26Back_c {m : SMap} {p : SMapP} {a : Option Addr} {me : List (List Int)} {r : Nat → Option Addr} {H : GHeap} (hin : m.In H p := by assumption) (hme : Intss H a me r := by assumption) (hs : m.Small := by assumption) (hl : me.length = m.pa.length) (hl2 : ∀ i, (me.getD i []).length ≤ 1048576 := by assumption) :
    GCalls Try.prog 31 [.agg (m.cells p).toArray, .slice a me.length me.length] H (NewIntssR H (m.backR me)) := by
  refine GCalls.body (N := 50) (rs := [.tmp 4]) Try.func31 rfl rfl rfl rfl (fun Qx hret hend => ?_)
  refine .forget (fr' := [(0, some _), (1, some _)]) ⟨rfl, rfl, trivial⟩ ?_
  have hle := GHeap.Le.refl H
  have base_hin := hin
  have base_hme := hme
  obtain ⟨s1, s2, s3, s4⟩ := hs
  refine .seq (fun K1 hK1 => ?_)
  refine .region ?_
  refine .r rfl rfl rfl (.boxR rfl sz_41_VSMap rfl) ?_
  rintro _ H2 ⟨g2, rfl, le2, ge2, at2⟩
  have nx_H2 := le2.1
  replace hle := hle.trans le2
  have lt_at2 := GHeap.lt_of_get at2
  replace hin := base_hin.mono hle
  replace hme := base_hme.mono hle
  have hb2 : SMap.At _ g2 0 m p := ⟨Mem.of_get at2, hin⟩
  obtain ⟨fs2, ft2, c142, i22⟩ := hb2.get
  have hm2 : MemN _ _ _ _ _ := ⟨rfl, hb2.1⟩
  have hi2 := hb2.2
  have hms2 : MemN _ _ _ _ _ := ⟨rfl, fs2.1⟩
  have his2 := fs2.2
  have hmt2 : MemN _ _ _ _ _ := ⟨rfl, ft2.1⟩
  have hit2 := ft2.2
  refine .m rfl rfl rfl (.assign rfl) ?_
  refine .nil ?_
  refine hK1 _ _ ?_
  refine .seq (fun K2 hK2 => ?_)
  refine .region ?_
  refine .r rfl rfl rfl (.litR rfl sl_23_B ze_22_E rfl rfl (by omega) (by omega) rfl rfl) ?_
  rintro _ H9 ⟨g9, rfl, le9, ge9, at9⟩
  have nx_H9 := le9.1
  replace hle := hle.trans le9
  replace at2 := le9.2 _ _ at2
  have lt_at9 := GHeap.lt_of_get at9
  replace hin := base_hin.mono hle
  replace hme := base_hme.mono hle
  clear hb2 fs2 ft2 c142 i22 hm2 hi2 hms2 his2 hmt2 hit2
  have hb2 : SMap.At _ g2 0 m p := ⟨Mem.of_get at2, hin⟩
  obtain ⟨fs2, ft2, c142, i22⟩ := hb2.get
  have hm2 : MemN _ _ _ _ _ := ⟨rfl, hb2.1⟩
  have hi2 := hb2.2
  have hms2 : MemN _ _ _ _ _ := ⟨rfl, fs2.1⟩
  have his2 := fs2.2
  have hmt2 : MemN _ _ _ _ _ := ⟨rfl, ft2.1⟩
  have hit2 := ft2.2
  refine .m rfl rfl rfl (.assign rfl) ?_
  refine .nil ?_
  refine hK2 _ _ ?_
  refine .seq (fun K3 hK3 => ?_)
  refine .seq (fun K4 hK4 => ?_)
  refine .region ?_
  refine .m rfl rfl rfl (.assign rfl) ?_
  refine .nil ?_
  refine hK4 _ _ ?_
  refine .block ?_
  refine .loopR (σ := Nat × (Nat → Option Addr) × Nat × Nat) [(1, some _), (2, some _)] (fun (k, rr, gL5, nL5) => [(6, some (.int .i64 (k : Int))), (5, some (.slice (some ⟨gL5, 0, none⟩) nL5 nL5))]) (fun (k, rr, gL5, nL5) H' => St [g9] H9 H' ∧ H'.get gL5 = some (.row ((slsOf rr (m.backX me) k)) 22 true) ∧ (gL5 = g9 ∨ H9.next ≤ gL5) ∧ nL5 = (slsOf rr (m.backX me) k).length ∧ k ≤ m.pa.length ∧ OwnRows H.next H' 2 rr (m.backX me) k) (fun (k, rr, gL5, nL5) => m.pa.length - k) ((0, fun _ => none, _, _)) ⟨rfl, rfl, trivial⟩ ⟨rfl, rfl, trivial⟩ ?_ ?_
  ·
   refine ⟨.refl _ _, by first | assumption | exact at9 | simpa using at9, .inl rfl, by first | rfl | simp | omega, ?_⟩
   exact ⟨by omega, .zero _ _ _ _ _⟩
  ·
   rintro ⟨k, rr, gL5, nL5⟩ HL1 ⟨lst1, at_L5, pl_L5, ln_L5, hI⟩ KL1 hKL1
   refine .forget (fr' := [(6, some (.int .i64 (k : Int))), (5, some (.slice (some ⟨gL5, 0, none⟩) nL5 nL5)), (1, some _), (2, some _)]) ⟨rfl, rfl, rfl, rfl, trivial⟩ ?_
   have ge_L5 : H.next ≤ gL5 := by omega
   have nx_HL1 := lst1.nx
   replace hle := hle.st lst1 (fun k hk => ⟨by omega, trivial⟩)
   replace at2 := lst1.same _ _ ⟨by omega, trivial⟩ at2
   have lt_at_L5 := GHeap.lt_of_get at_L5
   replace hin := base_hin.mono hle
   replace hme := base_hme.mono hle
   clear hb2 fs2 ft2 c142 i22 hm2 hi2 hms2 his2 hmt2 hit2
   have hb2 : SMap.At _ g2 0 m p := ⟨Mem.of_get at2, hin⟩
   obtain ⟨fs2, ft2, c142, i22⟩ := hb2.get
   have hm2 : MemN _ _ _ _ _ := ⟨rfl, hb2.1⟩
   have hi2 := hb2.2
   have hms2 : MemN _ _ _ _ _ := ⟨rfl, fs2.1⟩
   have his2 := fs2.2
   have hmt2 : MemN _ _ _ _ _ := ⟨rfl, ft2.1⟩
   have hit2 := ft2.2
   have rk := St.refl [gL5] HL1
   obtain ⟨hk, hR⟩ := hI
   have hat5 := at_L5
   have hfl : (slsOf rr (m.backX me) k).length = k := length_slsOf _ _ _
   refine .seq (fun K5 hK5 => ?_)
   refine .seq (fun K6 hK6 => ?_)
   refine .region ?_
   refine .m rfl rfl rfl (.move rfl) ?_
   refine .m rfl rfl rfl (.fieldAddr fo_41_2_VSMap rfl) ?_
   refine .m rfl rfl rfl (.load on_23_B rfl (by assumption)) ?_
   refine .m rfl rfl rfl (.len sl_23_B rfl) ?_
   refine .m rfl rfl rfl (.cmp rfl rfl rfl) ?_
   refine .nil ?_
   refine hK6 _ _ ?_
   refine .cond rfl (fun h14 => ?_) (fun h14 => ?_)
   ·
    simp only [sps] at h14
    have r2 := s4 k
    have r3 := hl2 k
    have r1 := i22.2 k (by omega)
    have r4 := hme.2 k (by omega)
    refine .skip ?_
    refine hK5 _ _ ?_
    refine .seq (fun K7 hK7 => ?_)
    refine .block ?_
    refine .seq (fun K8 hK8 => ?_)
    refine .region ?_
    refine .r rfl rfl rfl (.litR rfl sl_22_A ze_2_E rfl rfl (by omega) (by omega) rfl rfl) ?_
    rintro _ H17 ⟨g17, rfl, le17, ge17, at17⟩
    have nx_H17 := le17.1
    replace hle := hle.trans le17
    replace lst1 := lst1.le le17
    replace rk := rk.le le17
    replace at2 := le17.2 _ _ at2
    replace at_L5 := le17.2 _ _ at_L5
    have lt_at17 := GHeap.lt_of_get at17
    replace hin := base_hin.mono hle
    replace hme := base_hme.mono hle
    clear hb2 fs2 ft2 c142 i22 hm2 hi2 hms2 his2 hmt2 hit2
    have hb2 : SMap.At _ g2 0 m p := ⟨Mem.of_get at2, hin⟩
    obtain ⟨fs2, ft2, c142, i22⟩ := hb2.get
    have hm2 : MemN _ _ _ _ _ := ⟨rfl, hb2.1⟩
    have hi2 := hb2.2
    have hms2 : MemN _ _ _ _ _ := ⟨rfl, fs2.1⟩
    have his2 := fs2.2
    have hmt2 : MemN _ _ _ _ _ := ⟨rfl, ft2.1⟩
    have hit2 := ft2.2
    clear r1 r4
    have r1 := i22.2 k (by omega)
    have r4 := hme.2 k (by omega)
    refine .m rfl rfl rfl (.assign rfl) ?_
    refine .nil ?_
    refine hK8 _ _ ?_
    refine .seq (fun K9 hK9 => ?_)
    refine .seq (fun K10 hK10 => ?_)
    refine .region ?_
    refine .m rfl rfl rfl (.assign rfl) ?_
    refine .nil ?_
    refine hK10 _ _ ?_
    refine .block ?_
    refine .loopR (σ := Nat × Nat × Nat) [(1, some _), (2, some _), (5, some _), (6, some _)] (fun (e, gL7, nL7) => [(8, some (.int .i64 (e : Int))), (7, some (.slice (some ⟨gL7, 0, none⟩) nL7 nL7))]) (fun (e, gL7, nL7) H' => St [g17] H17 H' ∧ H'.get gL7 = some (.row (ints (filtN e fun i => (me.getD k []).contains ((m.pa.getD k []).getD i 0))) 2 true) ∧ (gL7 = g17 ∨ H17.next ≤ gL7) ∧ nL7 = (filtN e fun i => (me.getD k []).contains ((m.pa.getD k []).getD i 0)).length ∧ e ≤ (m.pa.getD k []).length) (fun (e, gL7, nL7) => (m.pa.getD k []).length - e) ((0, _, _)) ⟨rfl, rfl, rfl, rfl, trivial⟩ ⟨rfl, rfl, trivial⟩ ?_ ?_
    ·
     refine ⟨.refl _ _, by first | assumption | exact at17 | simpa using at17, .inl rfl, by first | rfl | simp | omega, ?_⟩
     omega
    ·
     rintro ⟨e, gL7, nL7⟩ HL2 ⟨lst2, at_L7, pl_L7, ln_L7, hI⟩ KL2 hKL2
     refine .forget (fr' := [(8, some (.int .i64 (e : Int))), (7, some (.slice (some ⟨gL7, 0, none⟩) nL7 nL7)), (1, some _), (2, some _), (5, some _), (6, some _)]) ⟨rfl, rfl, rfl, rfl, rfl, rfl, trivial⟩ ?_
     have ge_L7 : H.next ≤ gL7 := by omega
     have nx_HL2 := lst2.nx
     replace hle := hle.st lst2 (fun k hk => ⟨by omega, trivial⟩)
     replace lst1 := lst1.st lst2 (fun k hk ho => by simp only [out, and_true] at ho ⊢ <;> omega)
     replace rk := rk.st lst2 (fun k hk ho => by simp only [out, and_true] at ho ⊢ <;> omega)
     replace at2 := lst2.same _ _ ⟨by omega, trivial⟩ at2
     replace at_L5 := lst2.same _ _ ⟨by omega, trivial⟩ at_L5
     have lt_at_L7 := GHeap.lt_of_get at_L7
     replace hin := base_hin.mono hle
     replace hme := base_hme.mono hle
     clear hb2 fs2 ft2 c142 i22 hm2 hi2 hms2 his2 hmt2 hit2
     have hb2 : SMap.At _ g2 0 m p := ⟨Mem.of_get at2, hin⟩
     obtain ⟨fs2, ft2, c142, i22⟩ := hb2.get
     have hm2 : MemN _ _ _ _ _ := ⟨rfl, hb2.1⟩
     have hi2 := hb2.2
     have hms2 : MemN _ _ _ _ _ := ⟨rfl, fs2.1⟩
     have his2 := fs2.2
     have hmt2 : MemN _ _ _ _ _ := ⟨rfl, ft2.1⟩
     have hit2 := ft2.2
     clear r1 r4
     have r1 := i22.2 k (by omega)
     have r4 := hme.2 k (by omega)
     have hfl2 := filtN_le e fun i => (me.getD k []).contains ((m.pa.getD k []).getD i 0)
     refine .seq (fun K11 hK11 => ?_)
     refine .seq (fun K12 hK12 => ?_)
     refine .region ?_
     refine .m rfl rfl rfl (.move rfl) ?_
     refine .m rfl rfl rfl (.fieldAddr fo_41_2_VSMap rfl) ?_
     refine .m rfl rfl rfl (.load on_23_B rfl (by assumption)) ?_
     refine .m rfl rfl rfl (.move rfl) ?_
     refine .m rfl rfl rfl (.idxN sl_23_B (Intss.sl (by assumption)) rfl rfl (by omega)) ?_
     refine .m rfl rfl rfl (.loadR on_22_B (by assumption) rfl (by omega)) ?_
     refine .m rfl rfl rfl (.len sl_22_A rfl) ?_
     refine .m rfl rfl rfl (.cmp rfl rfl rfl) ?_
     refine .nil ?_
     refine hK12 _ _ ?_
     refine .cond rfl (fun h25 => ?_) (fun h25 => ?_)
     ·
      try simp only [sps] at h25
      refine .skip ?_
      refine hK11 _ _ ?_
      refine .seq (fun K13 hK13 => ?_)
      refine .block ?_
      refine .seq (fun K14 hK14 => ?_)
      refine .regionD mixed_orders_B (.q 0 (.q 1 (.q 2 (.q 3 (.q 4 (.q 5 (.q 6 (.q 7 (.q 8 (.q 9 (.q 10 (.q 11 (.c 12 0 (.done)))))))))))))) (by kernel_rfl) ?_
      refine .m rfl rfl rfl rfl (.refl _) (.move rfl) ?_
      refine .m rfl rfl rfl rfl (.refl _) (.move rfl) ?_
      refine .m rfl rfl rfl rfl (.refl _) (.idxN sl_23_B (Intss.sl (by assumption)) rfl rfl (by omega)) ?_
      refine .m rfl rfl rfl rfl (.refl _) (.loadR on_22_B (by assumption) rfl (by omega)) ?_
      refine .m rfl rfl rfl rfl (.refl _) (.fieldAddr fo_41_2_VSMap rfl) ?_
      refine .m rfl rfl rfl rfl (.refl _) (.load on_23_B rfl (by assumption)) ?_
      refine .m rfl rfl rfl rfl (.refl _) (.move rfl) ?_
      refine .m rfl rfl rfl rfl (.refl _) (.idxN sl_23_B (Intss.sl (by assumption)) rfl rfl (by omega)) ?_
      refine .m rfl rfl rfl rfl (.refl _) (.loadR on_22_B (by assumption) rfl (by omega)) ?_
      refine .m rfl rfl rfl rfl (.refl _) (.move rfl) ?_
      refine .m rfl rfl rfl rfl (.refl _) (.idxN sl_22_A (by assumption) rfl rfl (by omega)) ?_
      refine .m rfl rfl rfl rfl (.refl _) (.loadI on_2_A (by assumption) rfl (by omega)) ?_
      refine .callQ0 rfl rfl rfl rfl rfl @Try.call60 rfl (l01Has_c) ?_
      refine .done ?_
      refine hK14 _ _ ?_
      refine .cond rfl (fun h40 => ?_) (fun h40 => ?_)
      ·
       try simp only [sps] at h40
       refine .region ?_
       refine .m rfl rfl rfl (.move rfl) ?_
       refine .m rfl rfl rfl (.move rfl) ?_
       refine .r rfl rfl rfl (.litR rfl sl_22_A ze_2_E rfl rfl (by omega) (by omega) rfl rfl) ?_
       rintro _ H43 ⟨g43, rfl, le43, ge43, at43⟩
       have nx_H43 := le43.1
       replace hle := hle.trans le43
       replace lst1 := lst1.le le43
       replace rk := rk.le le43
       replace lst2 := lst2.le le43
       replace at2 := le43.2 _ _ at2
       replace at_L5 := le43.2 _ _ at_L5
       replace at_L7 := le43.2 _ _ at_L7
       have lt_at43 := GHeap.lt_of_get at43
       replace hin := base_hin.mono hle
       replace hme := base_hme.mono hle
       clear hb2 fs2 ft2 c142 i22 hm2 hi2 hms2 his2 hmt2 hit2
       have hb2 : SMap.At _ g2 0 m p := ⟨Mem.of_get at2, hin⟩
       obtain ⟨fs2, ft2, c142, i22⟩ := hb2.get
       have hm2 : MemN _ _ _ _ _ := ⟨rfl, hb2.1⟩
       have hi2 := hb2.2
       have hms2 : MemN _ _ _ _ _ := ⟨rfl, fs2.1⟩
       have his2 := fs2.2
       have hmt2 : MemN _ _ _ _ _ := ⟨rfl, ft2.1⟩
       have hit2 := ft2.2
       clear r1 r4
       have r1 := i22.2 k (by omega)
       have r4 := hme.2 k (by omega)
       refine .r rfl rfl rfl (.appendI rfl sl_22_A ze_2_E rfl by_2_E sl_22_A rfl rfl (by assumption) (by assumption) (by first | omega | (simp; omega)) (by omega) (by omega)) ?_
       rintro _ H44 ⟨g44, rfl, st44, ge44, at44⟩
       have nx_H44 := st44.nx
       replace hle := hle.st st44 (fun k hk => ⟨by omega, trivial⟩)
       replace lst1 := lst1.st st44 (fun k hk ho => by simp only [out, and_true] at ho ⊢ <;> omega)
       replace rk := rk.st st44 (fun k hk ho => by simp only [out, and_true] at ho ⊢ <;> omega)
       replace lst2 := lst2.st st44 (fun k hk ho => by simp only [out, and_true] at ho ⊢ <;> omega)
       replace at2 := st44.same _ _ ⟨by omega, trivial⟩ at2
       replace at_L5 := st44.same _ _ ⟨by omega, trivial⟩ at_L5
       replace at43 := st44.same _ _ ⟨by omega, trivial⟩ at43
       have lt_at44 := GHeap.lt_of_get at44
       replace hin := base_hin.mono hle
       replace hme := base_hme.mono hle
       clear hb2 fs2 ft2 c142 i22 hm2 hi2 hms2 his2 hmt2 hit2
       have hb2 : SMap.At _ g2 0 m p := ⟨Mem.of_get at2, hin⟩
       obtain ⟨fs2, ft2, c142, i22⟩ := hb2.get
       have hm2 : MemN _ _ _ _ _ := ⟨rfl, hb2.1⟩
       have hi2 := hb2.2
       have hms2 : MemN _ _ _ _ _ := ⟨rfl, fs2.1⟩
       have his2 := fs2.2
       have hmt2 : MemN _ _ _ _ _ := ⟨rfl, ft2.1⟩
       have hit2 := ft2.2
       clear r1 r4
       have r1 := i22.2 k (by omega)
       have r4 := hme.2 k (by omega)
       refine .m rfl rfl rfl (.assign rfl) ?_
       refine .nil ?_
       refine hK13 _ _ ?_
       refine .region ?_
       refine .m rfl rfl rfl (.move rfl) ?_
       refine .m rfl rfl rfl (.add rfl rfl rfl (by omega) (by omega)) ?_
       refine .m rfl rfl rfl (.assign rfl) ?_
       refine .nil ?_
       refine hKL2 ((e + 1, _, _)) _ _ ?_ ?_ ⟨rfl, rfl, rfl, rfl, rfl, rfl, trivial⟩
       ·
        refine ⟨lst2, by first | assumption | (rw [filtN_T h40]; assumption) | (rw [filtN_F (by simpa using h40)]; assumption), by omega, by first | omega | (simp only [List.length_append, List.length_cons, List.length_nil]; omega) | (rw [filtN_T h40]; first | omega | (simp only [List.length_append, List.length_cons, List.length_nil]; omega)) | (rw [filtN_F (by simpa using h40)]; first | omega | (simp only [List.length_append, List.length_cons, List.length_nil]; omega)), ?_⟩
        omega
       ·
        (dsimp only; omega)
      ·
       try simp only [sps] at h40
       refine .skip ?_
       refine hK13 _ _ ?_
       refine .region ?_
       refine .m rfl rfl rfl (.move rfl) ?_
       refine .m rfl rfl rfl (.add rfl rfl rfl (by omega) (by omega)) ?_
       refine .m rfl rfl rfl (.assign rfl) ?_
       refine .nil ?_
       refine hKL2 ((e + 1, _, _)) _ _ ?_ ?_ ⟨rfl, rfl, rfl, rfl, rfl, rfl, trivial⟩
       ·
        refine ⟨lst2, by first | assumption | (rw [filtN_T h40]; assumption) | (rw [filtN_F (by simpa using h40)]; assumption), by omega, by first | omega | (simp only [List.length_append, List.length_cons, List.length_nil]; omega) | (rw [filtN_T h40]; first | omega | (simp only [List.length_append, List.length_cons, List.length_nil]; omega)) | (rw [filtN_F (by simpa using h40)]; first | omega | (simp only [List.length_append, List.length_cons, List.length_nil]; omega)), ?_⟩
        omega
       ·
        (dsimp only; omega)
     ·
      try simp only [sps] at h25
      refine .exit ?_
      refine hK9 _ _ ?_
      refine .region ?_
      obtain rfl : e = (m.pa.getD k []).length := by omega
      obtain rfl := ln_L7
      refine .m rfl rfl rfl (.move rfl) ?_
      refine .m rfl rfl rfl (.move rfl) ?_
      refine .r rfl rfl rfl (.litR rfl sl_23_B ze_22_E rfl rfl (by omega) (by omega) rfl rfl) ?_
      rintro _ H47 ⟨g47, rfl, le47, ge47, at47⟩
      have nx_H47 := le47.1
      replace hle := hle.trans le47
      replace lst1 := lst1.le le47
      replace rk := rk.le le47
      replace at2 := le47.2 _ _ at2
      replace at_L5 := le47.2 _ _ at_L5
      replace at_L7 := le47.2 _ _ at_L7
      have lt_at47 := GHeap.lt_of_get at47
      replace hin := base_hin.mono hle
      replace hme := base_hme.mono hle
      clear hb2 fs2 ft2 c142 i22 hm2 hi2 hms2 his2 hmt2 hit2
      have hb2 : SMap.At _ g2 0 m p := ⟨Mem.of_get at2, hin⟩
      obtain ⟨fs2, ft2, c142, i22⟩ := hb2.get
      have hm2 : MemN _ _ _ _ _ := ⟨rfl, hb2.1⟩
      have hi2 := hb2.2
      have hms2 : MemN _ _ _ _ _ := ⟨rfl, fs2.1⟩
      have his2 := fs2.2
      have hmt2 : MemN _ _ _ _ _ := ⟨rfl, ft2.1⟩
      have hit2 := ft2.2
      clear r1 r4
      have r1 := i22.2 k (by omega)
      have r4 := hme.2 k (by omega)
      refine .r rfl rfl rfl (.appendV rfl sl_23_B ze_22_E rfl by_22_E sl_23_B rfl rfl (by assumption) (by assumption) (by first | omega | (simp; omega)) rfl rfl (by omega) (by omega)) ?_
      rintro _ H48 ⟨g48, rfl, st48, ge48, at48⟩
      have nx_H48 := st48.nx
      replace hle := hle.st st48 (fun k hk => ⟨by omega, trivial⟩)
      replace lst1 := lst1.st st48 (fun k hk ho => by simp only [out, and_true] at ho ⊢ <;> omega)
      replace rk := rk.st st48 (fun k hk ho => by simp only [out, and_true] at ho ⊢ <;> omega)
      replace at2 := st48.same _ _ ⟨by omega, trivial⟩ at2
      replace at_L7 := st48.same _ _ ⟨by omega, trivial⟩ at_L7
      replace at47 := st48.same _ _ ⟨by omega, trivial⟩ at47
      have lt_at48 := GHeap.lt_of_get at48
      replace hin := base_hin.mono hle
      replace hme := base_hme.mono hle
      clear hb2 fs2 ft2 c142 i22 hm2 hi2 hms2 his2 hmt2 hit2
      have hb2 : SMap.At _ g2 0 m p := ⟨Mem.of_get at2, hin⟩
      obtain ⟨fs2, ft2, c142, i22⟩ := hb2.get
      have hm2 : MemN _ _ _ _ _ := ⟨rfl, hb2.1⟩
      have hi2 := hb2.2
      have hms2 : MemN _ _ _ _ _ := ⟨rfl, fs2.1⟩
      have his2 := fs2.2
      have hmt2 : MemN _ _ _ _ _ := ⟨rfl, ft2.1⟩
      have hit2 := ft2.2
      clear r1 r4
      have r1 := i22.2 k (by omega)
      have r4 := hme.2 k (by omega)
      refine .m rfl rfl rfl (.assign rfl) ?_
      refine .nil ?_
      refine hK7 _ _ ?_
      refine .region ?_
      refine .m rfl rfl rfl (.move rfl) ?_
      refine .m rfl rfl rfl (.add rfl rfl rfl (by omega) (by omega)) ?_
      refine .m rfl rfl rfl (.assign rfl) ?_
      refine .nil ?_
      refine hKL1 ((k + 1, upd rr k (some ⟨gL7, 0, none⟩), _, _)) _ _ ?_ ?_ ⟨rfl, rfl, rfl, rfl, trivial⟩
      ·
       refine ⟨lst1, by first | assumption | (rw [slsOf_succ]; assumption), by omega, by first | omega | (simp only [List.length_append, List.length_cons, List.length_nil]; omega) | (rw [slsOf_succ]; first | omega | (simp only [List.length_append, List.length_cons, List.length_nil]; omega)), ?_⟩
       exact ⟨by omega, hR.succ rk hat5 rfl (by assumption) (by omega) (by omega)⟩
      ·
       (dsimp only; omega)
   ·
    try simp only [sps] at h14
    refine .exit ?_
    refine hK3 _ _ ?_
    refine .seq (fun K15 hK15 => ?_)
    refine .region ?_
    refine .m rfl rfl rfl (.move rfl) ?_
    refine .m rfl rfl rfl (.assign rfl) ?_
    refine .nil ?_
    refine hK15 _ _ ?_
    refine .ret ?_
    -- leaf e1
    refine hret _ _ ?_
    refine ⟨_, rfl, ?_⟩
    obtain rfl : k = m.pa.length := by omega
    exact ⟨hle, _, rr, by rw [ln_L5]; simp [SMap.backR], hR.done at_L5 (by omega)⟩
theorem specPreimagePart_c {m : SMap} {p : SMapP} {c : Prt} {q : PrtP} {H : GHeap} (hin : m.In H p := by assumption) (hin1 : c.In H q := by assumption) (hs : m.Small := by assumption) (hs1 : c.Small := by assumption) :
    GCalls Try.prog 9 [.agg (m.cells p).toArray, .agg (c.cells q).toArray] H (fun v H' => H.Le H' ∧ ∃ r, v = .tuple #[.agg ((m.back c.me).cells r).toArray, .int .i64 (m.backC c.me)] ∧ PrtR H.next H' (m.back c.me) r) := by
  obtain ⟨w1, w2⟩ := id hs1
  refine GCalls.body (N := 23) (rs := [.cell 4 34, .tmp 5]) Try.func9 rfl rfl rfl rfl (fun Qx hret hend => ?_)
  refine .forget (fr' := [(0, some _), (1, some _)]) ⟨rfl, rfl, trivial⟩ ?_
  have hle := GHeap.Le.refl H
  have base_hin := hin
  have base_hin1 := hin1
  refine .seq (fun K1 hK1 => ?_)
  refine .region ?_
  refine .r rfl rfl rfl (.boxR rfl sz_41_VSMap rfl) ?_
  rintro _ H2 ⟨g2, rfl, le2, ge2, at2⟩
  have nx_H2 := le2.1
  replace hle := hle.trans le2
  have lt_at2 := GHeap.lt_of_get at2
  replace hin := base_hin.mono hle
  replace hin1 := base_hin1.mono hle
  have hb2 : SMap.At _ g2 0 m p := ⟨Mem.of_get at2, hin⟩
  obtain ⟨fs2, ft2, c142, i22⟩ := hb2.get
  have hm2 : MemN _ _ _ _ _ := ⟨rfl, hb2.1⟩
  have hi2 := hb2.2
  have hms2 : MemN _ _ _ _ _ := ⟨rfl, fs2.1⟩
  have his2 := fs2.2
  have hmt2 : MemN _ _ _ _ _ := ⟨rfl, ft2.1⟩
  have hit2 := ft2.2
  refine .r rfl rfl rfl (.boxR rfl sz_34_VPrt rfl) ?_
  rintro _ H3 ⟨g3, rfl, le3, ge3, at3⟩
  have nx_H3 := le3.1
  replace hle := hle.trans le3
  replace at2 := le3.2 _ _ at2
  have lt_at3 := GHeap.lt_of_get at3
  replace hin := base_hin.mono hle
  replace hin1 := base_hin1.mono hle
  clear hb2 fs2 ft2 c142 i22 hm2 hi2 hms2 his2 hmt2 hit2
  have hb2 : SMap.At _ g2 0 m p := ⟨Mem.of_get at2, hin⟩
  obtain ⟨fs2, ft2, c142, i22⟩ := hb2.get
  have hm2 : MemN _ _ _ _ _ := ⟨rfl, hb2.1⟩
  have hi2 := hb2.2
  have hms2 : MemN _ _ _ _ _ := ⟨rfl, fs2.1⟩
  have his2 := fs2.2
  have hmt2 : MemN _ _ _ _ _ := ⟨rfl, ft2.1⟩
  have hit2 := ft2.2
  have hb3 : Prt.At _ g3 0 c q := ⟨Mem.of_get at3, hin1⟩
  obtain ⟨c03, i03⟩ := hb3.get
  have hm3 : MemN _ _ _ _ _ := ⟨rfl, hb3.1⟩
  have hi3 := hb3.2
  refine .r rfl rfl rfl (.allocR rfl ze_34_VPrt rfl) ?_
  rintro _ H4 ⟨g4, rfl, le4, ge4, at4⟩
  have nx_H4 := le4.1
  replace hle := hle.trans le4
  replace at2 := le4.2 _ _ at2
  replace at3 := le4.2 _ _ at3
  have lt_at4 := GHeap.lt_of_get at4
  replace hin := base_hin.mono hle
  replace hin1 := base_hin1.mono hle
  clear hb2 fs2 ft2 c142 i22 hm2 hi2 hms2 his2 hmt2 hit2
  have hb2 : SMap.At _ g2 0 m p := ⟨Mem.of_get at2, hin⟩
  obtain ⟨fs2, ft2, c142, i22⟩ := hb2.get
  have hm2 : MemN _ _ _ _ _ := ⟨rfl, hb2.1⟩
  have hi2 := hb2.2
  have hms2 : MemN _ _ _ _ _ := ⟨rfl, fs2.1⟩
  have his2 := fs2.2
  have hmt2 : MemN _ _ _ _ _ := ⟨rfl, ft2.1⟩
  have hit2 := ft2.2
  clear hb3 c03 i03 hm3 hi3
  have hb3 : Prt.At _ g3 0 c q := ⟨Mem.of_get at3, hin1⟩
  obtain ⟨c03, i03⟩ := hb3.get
  have hm3 : MemN _ _ _ _ _ := ⟨rfl, hb3.1⟩
  have hi3 := hb3.2
  refine .m rfl rfl rfl (.assign rfl) ?_
  refine .nil ?_
  refine hK1 _ _ ?_
  refine .seq (fun K2 hK2 => ?_)
  refine .seq (fun K3 hK3 => ?_)
  refine .region ?_
  refine .m rfl rfl rfl (.loadM ag_41_VSMap rfl ⟨rfl, Mem.of_get at2⟩) ?_
  refine .callQ rfl rfl rfl rfl @Try.call29 rfl (l19IsMap_c) ?_
  refine .m rfl rfl rfl (.not rfl) ?_
  refine .m rfl rfl rfl (.move rfl) ?_
  refine .split (fun h9 => ?_) (fun h9 => ?_)
  ·
   try simp only [sps] at h9
   refine .sg rfl rfl rfl rfl rfl ?_
   refine .sg rfl rfl rfl rfl rfl ?_
   refine .sg rfl rfl rfl rfl rfl ?_
   refine .sg rfl rfl rfl rfl rfl ?_
   refine .sg rfl rfl rfl rfl rfl ?_
   refine .sg rfl rfl rfl rfl rfl ?_
   refine .m rfl rfl rfl (.pickT rfl rfl) ?_
   refine .nil ?_
   refine hK3 _ _ ?_
   refine .condT rfl ?_
   refine .seq (fun K4 hK4 => ?_)
   refine .region ?_
   refine .m rfl rfl rfl (.build bt_34_Ub rfl rfl rfl) ?_
   refine .r0 rfl rfl (.fillR rfl sz_34_VPrt rfl rfl rfl rfl (by assumption) (by first | rfl | exact Nat.le_of_ble_eq_true rfl | simp)) ?_
   rintro _ H2001 ⟨rfl, st2001, at2001⟩
   have nx_H2001 := st2001.nx
   replace hle := hle.st st2001 (fun k hk => ⟨by omega, trivial⟩)
   replace at2 := st2001.same _ _ ⟨by omega, trivial⟩ at2
   replace at3 := st2001.same _ _ ⟨by omega, trivial⟩ at3
   have lt_at2001 := GHeap.lt_of_get at2001
   replace hin := base_hin.mono hle
   replace hin1 := base_hin1.mono hle
   clear hb2 fs2 ft2 c142 i22 hm2 hi2 hms2 his2 hmt2 hit2
   have hb2 : SMap.At _ g2 0 m p := ⟨Mem.of_get at2, hin⟩
   obtain ⟨fs2, ft2, c142, i22⟩ := hb2.get
   have hm2 : MemN _ _ _ _ _ := ⟨rfl, hb2.1⟩
   have hi2 := hb2.2
   have hms2 : MemN _ _ _ _ _ := ⟨rfl, fs2.1⟩
   have his2 := fs2.2
   have hmt2 : MemN _ _ _ _ _ := ⟨rfl, ft2.1⟩
   have hit2 := ft2.2
   clear hb3 c03 i03 hm3 hi3
   have hb3 : Prt.At _ g3 0 c q := ⟨Mem.of_get at3, hin1⟩
   obtain ⟨c03, i03⟩ := hb3.get
   have hm3 : MemN _ _ _ _ _ := ⟨rfl, hb3.1⟩
   have hi3 := hb3.2
   have mm2001 : MemN _ _ _ _ _ := ⟨rfl, Mem.of_get at2001⟩
   refine .m rfl rfl rfl (.assign rfl) ?_
   refine .nil ?_
   refine hK4 _ _ ?_
   refine .ret ?_
   -- leaf e1
   refine hret _ _ ?_
   refine ⟨_, _, _, _, _, rfl, ag_34_VPrt, (by rfl), (Mem.of_get at2001), rfl, ?_⟩
   obtain ⟨e1, e2⟩ := SMap.back_not (m := m) (me := c.me) fun hh => h9 hh.1
   rw [e1, e2]
   exact ⟨hle, ⟨none, fun _ => none⟩, rfl, .nil _ _ _⟩
  ·
   simp only [sps] at h9
   have hT := h9.1.t
   refine .mg rfl rfl rfl rfl rfl (.fieldAddr fo_41_1_VSMap rfl) ?_
   refine .mg rfl rfl rfl rfl rfl (.loadM ag_39_VSFun rfl (by assumption)) ?_
   refine .mg rfl rfl rfl rfl rfl (.fieldAddr fo_34_0_VPrt rfl) ?_
   refine .mg rfl rfl rfl rfl rfl (.load on_23_B rfl (by assumption)) ?_
   refine .callQg rfl rfl rfl rfl rfl rfl @Try.call30 rfl (l25Part_c) ?_
   refine .mg rfl rfl rfl rfl rfl (.not rfl) ?_
   refine .m rfl rfl rfl (.pickF rfl rfl) ?_
   refine .nil ?_
   refine hK3 _ _ ?_
   refine .cond rfl (fun h16 => ?_) (fun h16 => ?_)
   ·
    try simp only [sps] at h16
    refine .seq (fun K5 hK5 => ?_)
    refine .region ?_
    refine .m rfl rfl rfl (.build bt_34_Ub rfl rfl rfl) ?_
    refine .r0 rfl rfl (.fillR rfl sz_34_VPrt rfl rfl rfl rfl (by assumption) (by first | rfl | exact Nat.le_of_ble_eq_true rfl | simp)) ?_
    rintro _ H2001x2 ⟨rfl, st2001x2, at2001x2⟩
    have nx_H2001x2 := st2001x2.nx
    replace hle := hle.st st2001x2 (fun k hk => ⟨by omega, trivial⟩)
    replace at2 := st2001x2.same _ _ ⟨by omega, trivial⟩ at2
    replace at3 := st2001x2.same _ _ ⟨by omega, trivial⟩ at3
    have lt_at2001x2 := GHeap.lt_of_get at2001x2
    replace hin := base_hin.mono hle
    replace hin1 := base_hin1.mono hle
    clear hb2 fs2 ft2 c142 i22 hm2 hi2 hms2 his2 hmt2 hit2
    have hb2 : SMap.At _ g2 0 m p := ⟨Mem.of_get at2, hin⟩
    obtain ⟨fs2, ft2, c142, i22⟩ := hb2.get
    have hm2 : MemN _ _ _ _ _ := ⟨rfl, hb2.1⟩
    have hi2 := hb2.2
    have hms2 : MemN _ _ _ _ _ := ⟨rfl, fs2.1⟩
    have his2 := fs2.2
    have hmt2 : MemN _ _ _ _ _ := ⟨rfl, ft2.1⟩
    have hit2 := ft2.2
    clear hb3 c03 i03 hm3 hi3
    have hb3 : Prt.At _ g3 0 c q := ⟨Mem.of_get at3, hin1⟩
    obtain ⟨c03, i03⟩ := hb3.get
    have hm3 : MemN _ _ _ _ _ := ⟨rfl, hb3.1⟩
    have hi3 := hb3.2
    have mm2001x2 : MemN _ _ _ _ _ := ⟨rfl, Mem.of_get at2001x2⟩
    refine .m rfl rfl rfl (.assign rfl) ?_
    refine .nil ?_
    refine hK5 _ _ ?_
    refine .ret ?_
    -- leaf e2
    refine hret _ _ ?_
    refine ⟨_, _, _, _, _, rfl, ag_34_VPrt, (by rfl), (Mem.of_get at2001x2), rfl, ?_⟩
    obtain ⟨e1, e2⟩ := SMap.back_not (m := m) (me := c.me) fun hh => h16 hh.2
    rw [e1, e2]
    exact ⟨hle, ⟨none, fun _ => none⟩, rfl, .nil _ _ _⟩
   ·
    simp only [sps] at h16
    have hl : c.me.length = m.pa.length := by
      have e1 := h16.pl
      have e2 := h9.1.fits.pl
      have e3 := h9.1.t.1.zl
      have e4 := h9.1.s.1.zl
      rw [h9.1.sh] at e4
      omega
    refine .skip ?_
    refine hK2 _ _ ?_
    refine .seq (fun K6 hK6 => ?_)
    refine .region ?_
    refine .m rfl rfl rfl (.loadM ag_41_VSMap rfl ⟨rfl, Mem.of_get at2⟩) ?_
    refine .m rfl rfl rfl (.fieldAddr fo_34_0_VPrt rfl) ?_
    refine .m rfl rfl rfl (.load on_23_B rfl (by assumption)) ?_
    refine .call rfl rfl rfl rfl @Try.call31 rfl (l26Back_c (hl := hl)) ?_
    rintro _ H21 ⟨le21, a21, r21, rfl, v21⟩
    have nx_H21 := le21.1
    replace hle := hle.trans le21
    replace at2 := le21.2 _ _ at2
    replace at3 := le21.2 _ _ at3
    replace at4 := le21.2 _ _ at4
    have bs_v21 := v21
    have lv_v21 : Keep H4.next H21 H21 := fun _ _ _ h => h
    replace hin := base_hin.mono hle
    replace hin1 := base_hin1.mono hle
    clear hb2 fs2 ft2 c142 i22 hm2 hi2 hms2 his2 hmt2 hit2
    have hb2 : SMap.At _ g2 0 m p := ⟨Mem.of_get at2, hin⟩
    obtain ⟨fs2, ft2, c142, i22⟩ := hb2.get
    have hm2 : MemN _ _ _ _ _ := ⟨rfl, hb2.1⟩
    have hi2 := hb2.2
    have hms2 : MemN _ _ _ _ _ := ⟨rfl, fs2.1⟩
    have his2 := fs2.2
    have hmt2 : MemN _ _ _ _ _ := ⟨rfl, ft2.1⟩
    have hit2 := ft2.2
    clear hb3 c03 i03 hm3 hi3
    have hb3 : Prt.At _ g3 0 c q := ⟨Mem.of_get at3, hin1⟩
    obtain ⟨c03, i03⟩ := hb3.get
    have hm3 : MemN _ _ _ _ _ := ⟨rfl, hb3.1⟩
    have hi3 := hb3.2
    have i21 := v21.intss
    refine .m rfl rfl rfl (.build bt_34_Ub rfl rfl rfl) ?_
    refine .r0 rfl rfl (.fillR rfl sz_34_VPrt rfl rfl rfl rfl (by assumption) (by first | rfl | exact Nat.le_of_ble_eq_true rfl | simp)) ?_
    rintro _ H3005 ⟨rfl, st3005, at3005⟩
    have nx_H3005 := st3005.nx
    replace hle := hle.st st3005 (fun k hk => ⟨by omega, trivial⟩)
    replace at2 := st3005.same _ _ ⟨by omega, trivial⟩ at2
    replace at3 := st3005.same _ _ ⟨by omega, trivial⟩ at3
    replace lv_v21 := Keep.st lv_v21 st3005 (fun k hb hk => ⟨by omega, trivial⟩)
    replace v21 := bs_v21.keep lv_v21 (Nat.le_refl _)
    have lt_at3005 := GHeap.lt_of_get at3005
    replace hin := base_hin.mono hle
    replace hin1 := base_hin1.mono hle
    clear hb2 fs2 ft2 c142 i22 hm2 hi2 hms2 his2 hmt2 hit2
    have hb2 : SMap.At _ g2 0 m p := ⟨Mem.of_get at2, hin⟩
    obtain ⟨fs2, ft2, c142, i22⟩ := hb2.get
    have hm2 : MemN _ _ _ _ _ := ⟨rfl, hb2.1⟩
    have hi2 := hb2.2
    have hms2 : MemN _ _ _ _ _ := ⟨rfl, fs2.1⟩
    have his2 := fs2.2
    have hmt2 : MemN _ _ _ _ _ := ⟨rfl, ft2.1⟩
    have hit2 := ft2.2
    clear hb3 c03 i03 hm3 hi3
    have hb3 : Prt.At _ g3 0 c q := ⟨Mem.of_get at3, hin1⟩
    obtain ⟨c03, i03⟩ := hb3.get
    have hm3 : MemN _ _ _ _ _ := ⟨rfl, hb3.1⟩
    have hi3 := hb3.2
    clear i21
    have i21 := v21.intss
    have mm3005 : MemN _ _ _ _ _ := ⟨rfl, Mem.of_get at3005⟩
    refine .m rfl rfl rfl (.assign rfl) ?_
    refine .nil ?_
    refine hK6 _ _ ?_
    refine .ret ?_
    -- leaf e3
    refine hret _ _ ?_
    refine ⟨_, _, _, _, _, rfl, ag_34_VPrt, (by rfl), (Mem.of_get at3005), rfl, ?_⟩
    obtain ⟨e1, e2⟩ := SMap.back_ok (m := m) (me := c.me) ⟨h9, h16⟩
    rw [e1, e2]
    exact ⟨hle, ⟨a21, r21⟩, rfl, v21.keep (.of_le (.refl _)) (by omega)⟩
end Go.Proofs.Ytbpehbbdodahaaa
