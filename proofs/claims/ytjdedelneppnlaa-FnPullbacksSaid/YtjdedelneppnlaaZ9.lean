/- Relations that are drawn. No condition but those of each statement. -/
import Derived.Test.YtjdedelneppnlaaZ8
namespace Go.Proofs.Ytjdedelneppnlaa
open Go Go.GL Go.RowKit Go.Proofs
set_option maxHeartbeats 8000000 in
theorem l02Relation_c {gS n : Nat} {H : GHeap} (hs : DSrc 120 H gS := by assumption) (hn : n ≤ 8) :
    GCalls Try.prog 72 [.pointer (some ⟨gS, 0, none⟩), .int .i64 (n : Int)] H (NewRel 120 gS n H) := by
  have hlS := hs.lt
  refine GCalls.body (N := 95) (rs := [.tmp 4]) Try.func72 rfl rfl rfl rfl (fun Qx hret hend => ?_)
  refine .fg [0, 1] rfl ?_
  have hst := St.refl [gS] H
  refine .seq (fun K1 hK1 => .region (.mv rfl (.nil (hK1 _ _ (.seq (fun K2 hK2 => .region ?_))))))
  refine .R rfl (.litA rfl sl_23_B ze_22_Hj rfl rfl rfl rfl) ?_
  rintro _ H12 ⟨g12, rfl, le12, ge12, at12⟩
  replace hst := hst.le le12
  refine .mv rfl (.nil (hK2 _ _ (.seq (fun K3 hK3 => .seq (fun K4 hK4 => .region (.mv rfl (.nil (hK4 _ _ ?_))))))))
  refine .block ?_
  refine .loopR (σ := Nat × Nat × List (List Int) × (Nat → Option Addr)) [(0, some _), (1, some _)] (fun (i, gV, T, rr) => [(6, some (.int .i64 (i : Int))), (5, some (.slice (some ⟨gV, 0, none⟩) i i))]) (fun (i, gV, T, rr) H' => i ≤ n ∧ RelSt 120 2 22 H H' gS gV n i rr T) (fun (i, gV, T, rr) => n - i) ((0, g12, [], fun _ => none)) ⟨rfl, rfl, trivial⟩ ⟨rfl, rfl, trivial⟩ ?_ ?_
  ·
   exact ⟨by omega, hst, at12, by omega, .nil _ _ _ _, rfl, fun i hi => by simp at hi, hs.le le12⟩
  rintro ⟨i, gV, T, rr⟩ HL1 hI KL1 hKL1
  refine .forget (fr' := [(6, some (.int .i64 (i : Int))), (5, some (.slice (some ⟨gV, 0, none⟩) i i)), (0, some _), (1, some _)]) ⟨rfl, rfl, rfl, rfl, trivial⟩ ?_
  obtain ⟨hi, hS⟩ := hI
  obtain ⟨hst, a5, b5, hR, hlen, hrow, hs⟩ := id hS
  have rk := St.refl [gS] HL1
  have hfl : (slsL rr T).length = T.length := length_slsL _ _
  have lt_a5 := GHeap.ltg a5
  refine .seq (fun K5 hK5 => .seq (fun K6 hK6 => .region (.mv rfl (.mv rfl (.q rfl (.cmp rfl rfl rfl) (.nil (hK6 _ _ ?_)))))))
  refine .cond rfl (fun h15 => ?_) (fun h15 => ?_)
  ·
   simp only [sps] at h15
   refine .skip ?_
   refine hK5 _ _ (.seq (fun K7 hK7 => ?_))
   refine .block ?_
   refine .seq (fun K8 hK8 => .region (.mv rfl ?_))
   refine .R rfl (.makeI rfl sl_22_A ze_2_L by_2_L rfl rfl (by omega) (by omega) (by omega) (by omega)) ?_
   rintro _ H19 ⟨g19, rfl, le19, ge19, at19⟩
   replace hst := hst.le le19
   replace hs := hs.le le19
   replace rk := rk.le le19
   replace a5 := le19.2 _ _ a5
   simp only [Int.toNat_natCast] at at19
   refine .mv rfl (.nil (hK8 _ _ (.seq (fun K9 hK9 => .region (.mv rfl (.mv rfl ?_))))))
   refine .q rfl (.idxN sl_22_A (by first | assumption | exact SlA.of_row at19 (by first | rfl | (simp; done) | (simp <;> omega))) rfl rfl (by omega)) ?_
   refine .r0 rfl rfl (.storeI rfl sz_2_Ch rfl rfl (by assumption) (by first | omega | (simp <;> omega))) ?_
   rintro _ H6003 ⟨rfl, st6003, at6003⟩
   replace hst := hst.sA st6003
   replace hs := hs.sA st6003
   replace rk := rk.sA st6003
   have ne_gV_g19 : NE gV g19 := .a
   replace a5 := st6003.s a5 ne_gV_g19.ne
   rw [Nat.zero_add] at at6003
   refine .nil (hK9 _ _ (.seq (fun K10 hK10 => .seq (fun K11 hK11 => .region (.mv rfl ?_)))))
   refine .q rfl (.add rfl rfl rfl (by omega) (by omega)) ?_
   refine .mv rfl (.nil (hK11 _ _ ?_))
   refine .block ?_
   refine .loopR (σ := Nat × List Int) [(0, some _), (1, some _), (5, some _), (6, some _), (7, some _)] (fun (j, row) => [(8, some (.int .i64 (j : Int)))]) (fun (j, row) H' => (j ≤ n ∧ row.length = n) ∧ RelSt 120 2 22 H H' gS gV n i rr T ∧ H'.get g19 = some (.row (ints row) 2 true) ∧ ∀ j, j < T.length → rr j ≠ some ⟨g19, 0, none⟩) (fun (j, row) => n - j) ((i + 1, (List.replicate n 0).set i 1)) ⟨rfl, rfl, rfl, rfl, rfl, trivial⟩ ⟨rfl, trivial⟩ ?_ ?_
   ·
    exact ⟨⟨by omega, by simp⟩, ⟨hst, a5, b5, hR.st rk (.cons (hR.lowNe hlS) (.nil _ _)), hlen, hrow, hs⟩, at6003, hR.ne (by omega)⟩
   rintro ⟨j, row⟩ HL2 hI KL2 hKL2
   refine .forget (fr' := [(8, some (.int .i64 (j : Int))), (0, some _), (1, some _), (5, some _), (6, some _), (7, some _)]) ⟨rfl, rfl, rfl, rfl, rfl, rfl, trivial⟩ ?_
   obtain ⟨⟨hj, hrl⟩, hS, a7, h7⟩ := hI
   obtain ⟨hst, a5, b5, hR, hlen, hrow, hs⟩ := id hS
   have rk := St.refl [gS, g19, gV] HL2
   have lt_a7 := GHeap.ltg a7
   refine .seq (fun K12 hK12 => .seq (fun K13 hK13 => .region (.mv rfl (.mv rfl (.q rfl (.cmp rfl rfl rfl) (.nil (hK13 _ _ ?_)))))))
   refine .cond rfl (fun h27 => ?_) (fun h27 => ?_)
   ·
    try simp only [sps] at h27
    refine .skip ?_
    refine hK12 _ _ (.seq (fun K14 hK14 => ?_))
    refine .block ?_
    refine .region (.mv rfl (.mv rfl (.mv rfl ?_)))
    refine .call rfl rfl rfl rfl @Try.call70 rfl (l01Next_c) ?_
    rintro _ H33 ⟨k33, rfl, ka33, kb33, kc33, st33, hs⟩
    replace hst := hst.sA st33
    replace rk := rk.sA st33
    have ne_gV_gS : NE gV gS := .a
    replace a5 := st33.s a5 ne_gV_gS.ne
    replace a7 := st33.s a7
    refine .q rfl (.idxN sl_22_A (by first | assumption | exact SlA.of_row a7 (by first | rfl | (simp; done) | (simp <;> omega))) rfl rfl (by omega)) ?_
    refine .r0 rfl rfl (.storeI rfl sz_2_Ch rfl rfl (by assumption) (by first | omega | (simp <;> omega))) ?_
    rintro _ H10005 ⟨rfl, st10005, at10005⟩
    replace hst := hst.sA st10005
    replace rk := rk.sA st10005
    replace hs := hs.sA st10005
    have ne_gV_g19 : NE gV g19 := .a
    replace a5 := st10005.s a5 ne_gV_g19.ne
    rw [Nat.zero_add] at at10005
    refine .nil (hK14 _ _ (.region (.mv rfl ?_)))
    refine .q rfl (.add rfl rfl rfl (by omega) (by omega)) ?_
    refine .mv rfl (.nil ?_)
    refine hKL2 ((j + 1, row.set j k33)) _ _ ?_ ?_ ⟨rfl, rfl, rfl, rfl, rfl, rfl, trivial⟩
    ·
     exact ⟨⟨by omega, by simp; omega⟩, ⟨hst, a5, b5, hR.st rk (.cons (hR.lowNe hlS) (.cons h7 (.cons (hR.neT hS.a5 rfl) (.nil _ _)))), hlen, hrow, hs⟩, by assumption, h7⟩
    (dsimp only; omega)
   try simp only [sps] at h27
   refine .exit ?_
   refine hK10 _ _ (.region (.mv rfl (.mv rfl ?_)))
   refine .R rfl (.litA rfl sl_23_B ze_22_Hj rfl rfl rfl rfl) ?_
   rintro _ H37 ⟨g37, rfl, le37, ge37, at37⟩
   replace hst := hst.le le37
   replace hs := hs.le le37
   replace rk := rk.le le37
   replace a5 := le37.2 _ _ a5
   replace a7 := le37.2 _ _ a7
   have lt_at37 := GHeap.ltg at37
   refine .R rfl (.appendV rfl sl_23_B ze_22_Hj rfl by_22_Hj sl_23_B rfl rfl (by assumption) (by assumption) (by first | omega | (simp <;> omega)) rfl rfl (by omega) (by omega)) ?_
   rintro _ H38 ⟨g38, rfl, st38, ge38, at38⟩
   replace hst := hst.sA st38
   replace hs := hs.sA st38
   replace rk := rk.sA st38
   replace a7 := st38.s a7
   refine .mv rfl (.nil (hK7 _ _ (.region (.mv rfl ?_))))
   refine .q rfl (.add rfl rfl rfl (by omega) (by omega)) ?_
   refine .mv rfl (.nil ?_)
   refine hKL1 ((i + 1, g38, T ++ [row], upd rr T.length (some ⟨g19, 0, none⟩))) _ _ ?_ ?_ ⟨rfl, rfl, rfl, rfl, trivial⟩
   ·
    exact ⟨by omega, hst, by rw [slsL_snoc, hrl]; assumption, by omega, (hR.st rk (.cons (hR.lowNe hlS) (.cons h7 (.cons (hR.neT hS.a5 rfl) (.nil _ _))))).snoc2 a7 h7 (by omega), by simp; omega, rows_snoc hrow hrl, hs⟩
   (dsimp only; omega)
  try simp only [sps] at h15
  refine .exit ?_
  refine hK3 _ _ (.seq (fun K15 hK15 => .seq (fun K16 hK16 => .region (.mv rfl (.q rfl (.cmp rfl rfl rfl) (.mv rfl ?_))))))
  refine .split (fun h41 => ?_) (fun h41 => ?_)
  ·
   try simp only [sps] at h41
   refine .qg rfl (.move rfl) ?_
   refine .callg rfl rfl rfl rfl rfl rfl @Try.call70 rfl (l01Next_c) ?_
   rintro _ H43 ⟨k43, rfl, ka43, kb43, kc43, st43, hs⟩
   replace hst := hst.sA st43
   replace rk := rk.sA st43
   have ne_gV_gS : NE gV gS := .a
   replace a5 := st43.s a5 ne_gV_gS.ne
   refine .qg rfl (.cmp rfl rfl rfl) (.q rfl (.pickT rfl rfl) (.nil (hK16 _ _ ?_)))
   refine .cond rfl (fun h45 => ?_) (fun h45 => ?_)
   ·
    simp only [sps] at h45
    have hR1 := hR.st rk (.cons (hR.lowNe hlS) (.nil _ _))
    obtain ⟨gi, hgi, hbi, hati⟩ := hR1.row ((n : Int) - 1).toNat (by omega)
    have m3 := row_ne a5 hati rfl
    have hrw := hrow ((n : Int) - 1).toNat (by omega)
    refine .regionDB mo_B (.q 0 (.q 1 (.q 2 (.q 3 (.q 4 (.q 5 (.q 6 (.c 7 1 (.q 8 (.c 9 0 (.done))))))))))) (by kernel_rfl) (GHeap.le_erase H43 gS) ?_
    have hbl := GHeap.le_erase H43 gS
    have a5B := GHeap.get_erase_of (g := gS) a5 (by omega)
    have hatiB := GHeap.get_erase_of (g := gS) hati (by omega)
    have cC := slsL_cell a5B (i := ((n : Int) - 1).toNat) (by omega)
    rw [hgi] at cC
    refine .qB rfl hbl (.move rfl) (.qB rfl hbl (.move rfl) ?_)
    refine .qB rfl hbl (.sub rfl rfl rfl (by omega) (by omega)) ?_
    refine .qB rfl hbl (.idx1 sl_23_B (SlA.of_row a5B (by first | rfl | (simp; done) | (simp <;> omega))) rfl rfl (by omega) (by omega)) ?_
    refine .qB rfl hbl (.load on_22_B rfl cC) (.qB rfl hbl (.move rfl) (.qB rfl hbl (.move rfl) ?_))
    refine .call1 rfl rfl rfl rfl rfl @Try.call70 rfl (l01Next_c) ?_
    rintro _ H53 ⟨k53, rfl, ka53, kb53, kc53, st53, hs⟩
    replace hbl := hbl.erase_st st53
    refine ⟨hbl, ?_⟩
    replace hst := hst.sA st53
    replace rk := rk.sA st53
    replace a5 := st53.s a5 ne_gV_gS.ne
    replace hati := st53.s hati
    refine .qB rfl hbl (.idx1 sl_22_A (SlA.of_row hatiB (by first | rfl | (simp; done) | (simp <;> omega))) rfl rfl (by omega) (by omega)) ?_
    have hSb := RelSt.mk hst a5 b5 (hR.st rk (.cons (hR.lowNe hlS) (.nil _ _))) hlen hrow hs
    refine .r0 rfl rfl rfl (.storeI rfl sz_2_Ch rfl rfl (by assumption) (by first | omega | (simp <;> omega))) ?_
    rintro _ H13009 ⟨rfl, st13009, at13009⟩
    obtain ⟨T1, hS2⟩ := (hSb.set1 (by omega) hgi hbi st13009 at13009 (by rw [List.length_set]; exact hrw) m3 hlS).ex
    refine .done ?_
    refine hK15 _ _ (.seq (fun K17 hK17 => .seq (fun K18 hK18 => .region (.mv rfl (.nil (hK18 _ _ ?_))))))
    refine .block ?_
    refine .loopR (σ := Nat × List (List Int)) [(1, some _), (5, some _)] (fun (x, T) => [(9, some (.int .i64 (x : Int)))]) (fun (x, T) H' => x ≤ n ∧ RelSt 120 2 22 H H' gS gV n i rr T) (fun (x, T) => n - x) ((0, T1)) ⟨rfl, rfl, trivial⟩ ⟨rfl, trivial⟩ ?_ ?_
    ·
     exact ⟨by omega, hS2⟩
    rintro ⟨x, T⟩ HL3 hI KL3 hKL3
    refine .forget (fr' := [(9, some (.int .i64 (x : Int))), (1, some _), (5, some _)]) ⟨rfl, rfl, rfl, trivial⟩ ?_
    obtain ⟨-, hS⟩ := hI
    obtain ⟨hst, a5, b5, hR, hlen, hrow, hs⟩ := id hS
    refine .seq (fun K19 hK19 => .seq (fun K20 hK20 => .region (.mv rfl (.mv rfl (.q rfl (.cmp rfl rfl rfl) (.nil (hK20 _ _ ?_)))))))
    refine .cond rfl (fun h57 => ?_) (fun h57 => ?_)
    ·
     simp only [sps] at h57
     refine .skip ?_
     refine hK19 _ _ (.seq (fun K21 hK21 => ?_))
     refine .block ?_
     refine .seq (fun K22 hK22 => .region (.mv rfl (.nil (hK22 _ _ ?_))))
     refine .block ?_
     refine .loopR (σ := Nat × List (List Int)) [(1, some _), (5, some _), (9, some _)] (fun (y, T) => [(10, some (.int .i64 (y : Int)))]) (fun (y, T) H' => y ≤ n ∧ RelSt 120 2 22 H H' gS gV n i rr T) (fun (y, T) => n - y) ((0, T)) ⟨rfl, rfl, rfl, trivial⟩ ⟨rfl, trivial⟩ ?_ ?_
     ·
      exact ⟨by omega, hS⟩
     rintro ⟨y, T⟩ HL4 hI KL4 hKL4
     refine .forget (fr' := [(10, some (.int .i64 (y : Int))), (1, some _), (5, some _), (9, some _)]) ⟨rfl, rfl, rfl, rfl, trivial⟩ ?_
     obtain ⟨-, hS⟩ := hI
     obtain ⟨-, -, -, -, hlen, -, -⟩ := id hS
     refine .seq (fun K23 hK23 => .seq (fun K24 hK24 => .region (.mv rfl (.mv rfl (.q rfl (.cmp rfl rfl rfl) (.nil (hK24 _ _ ?_)))))))
     refine .cond rfl (fun h62 => ?_) (fun h62 => ?_)
     ·
      simp only [sps] at h62
      refine .skip ?_
      refine hK23 _ _ (.seq (fun K25 hK25 => ?_))
      refine .block ?_
      refine .seq (fun K26 hK26 => .region (.mv rfl (.nil (hK26 _ _ ?_))))
      refine .block ?_
      refine .loopR (σ := Nat × List (List Int)) [(1, some _), (5, some _), (9, some _), (10, some _)] (fun (z, T) => [(11, some (.int .i64 (z : Int)))]) (fun (z, T) H' => z ≤ n ∧ RelSt 120 2 22 H H' gS gV n i rr T) (fun (z, T) => n - z) ((0, T)) ⟨rfl, rfl, rfl, rfl, trivial⟩ ⟨rfl, trivial⟩ ?_ ?_
      ·
       exact ⟨by omega, hS⟩
      rintro ⟨z, T⟩ HL5 hI KL5 hKL5
      refine .forget (fr' := [(11, some (.int .i64 (z : Int))), (1, some _), (5, some _), (9, some _), (10, some _)]) ⟨rfl, rfl, rfl, rfl, rfl, trivial⟩ ?_
      obtain ⟨-, hS⟩ := hI
      obtain ⟨-, a5, b5, hR, hlen, hrow, -⟩ := id hS
      refine .seq (fun K27 hK27 => .seq (fun K28 hK28 => .region (.mv rfl (.mv rfl (.q rfl (.cmp rfl rfl rfl) (.nil (hK28 _ _ ?_)))))))
      refine .cond rfl (fun h67 => ?_) (fun h67 => ?_)
      ·
       simp only [sps] at h67
       have iT := hR.intss a5 b5
       have u1 := iT.2 y (by omega)
       have u2 := iT.2 x (by omega)
       have w1 := hrow y (by omega)
       have w2 := hrow x (by omega)
       refine .skip ?_
       refine hK27 _ _ (.seq (fun K29 hK29 => ?_))
       refine .block ?_
       refine .seq (fun K30 hK30 => .region (.mv rfl (.mv rfl ?_)))
       refine .q rfl (.idxN sl_23_B (by first | exact (Intss.sl (by assumption)) | exact SlA.of_row a5 (by first | rfl | (simp; done) | (simp <;> omega))) rfl rfl (by omega)) ?_
       refine .q rfl (.loadR on_22_B (by assumption) rfl (by omega)) ?_
       refine .mv rfl ?_
       refine .q rfl (.idxN sl_22_A (by assumption) rfl rfl (by omega)) ?_
       refine .q rfl (.loadI on_2_A (by assumption) rfl (by omega)) ?_
       refine .q rfl (.cmp rfl rfl rfl) (.mv rfl ?_)
       refine .split (fun h78 => ?_) (fun h78 => ?_)
       ·
        try simp only [sps] at h78
        refine .qg rfl (.move rfl) (.qg rfl (.move rfl) ?_)
        refine .qg rfl (.idxN sl_23_B (by first | exact (Intss.sl (by assumption)) | exact SlA.of_row a5 (by first | rfl | (simp; done) | (simp <;> omega))) rfl rfl (by omega)) ?_
        refine .qg rfl (.loadR on_22_B (by assumption) rfl (by omega)) ?_
        refine .qg rfl (.move rfl) ?_
        refine .qg rfl (.idxN sl_22_A (by assumption) rfl rfl (by omega)) ?_
        refine .qg rfl (.loadI on_2_A (by assumption) rfl (by omega)) ?_
        refine .qg rfl (.cmp rfl rfl rfl) (.q rfl (.pickT rfl rfl) (.nil (hK30 _ _ ?_)))
        refine .cond rfl (fun h87 => ?_) (fun h87 => ?_)
        ·
         try simp only [sps] at h87
         refine .region ?_
         obtain ⟨gi, hgi, hbi, hati⟩ := hR.row y (by omega)
         have m3 := row_ne a5 hati rfl
         have cC := slsL_cell a5 (i := y) (by omega)
         rw [hgi] at cC
         refine .mv rfl (.mv rfl ?_)
         refine .q rfl (.idxN sl_23_B (by first | exact (Intss.sl (by assumption)) | exact SlA.of_row a5 (by first | rfl | (simp; done) | (simp <;> omega))) rfl rfl (by omega)) ?_
         refine .q rfl (.load on_22_B rfl cC) (.mv rfl ?_)
         refine .q rfl (.idxN sl_22_A (by first | assumption | exact SlA.of_row hati (by first | rfl | (simp; done) | (simp <;> omega))) rfl rfl (by omega)) ?_
         refine .r0 rfl rfl (.storeI rfl sz_2_Ch rfl rfl (by assumption) (by first | omega | (simp <;> omega))) ?_
         rintro _ H24006 ⟨rfl, st24006, at24006⟩
         obtain ⟨T2, hS2⟩ := (hS.set1 (by omega) hgi hbi st24006 at24006 (by rw [List.length_set]; exact w1) m3 hlS).ex
         refine .nil (hK29 _ _ (.region (.mv rfl ?_)))
         refine .q rfl (.add rfl rfl rfl (by omega) (by omega)) ?_
         refine .mv rfl (.nil ?_)
         refine hKL5 ((z + 1, T2)) _ _ ?_ ?_ ⟨rfl, rfl, rfl, rfl, rfl, trivial⟩
         ·
          exact ⟨by omega, hS2⟩
         (dsimp only; omega)
        obtain ⟨T2, hS2⟩ := hS.ex
        refine .skip ?_
        refine hK29 _ _ (.region (.mv rfl ?_))
        refine .q rfl (.add rfl rfl rfl (by omega) (by omega)) ?_
        refine .mv rfl (.nil ?_)
        refine hKL5 ((z + 1, T2)) _ _ ?_ ?_ ⟨rfl, rfl, rfl, rfl, rfl, trivial⟩
        ·
         exact ⟨by omega, hS2⟩
        (dsimp only; omega)
       obtain ⟨T2, hS2⟩ := hS.ex
       refine .z rfl (.z rfl (.z rfl (.z rfl (.z rfl (.z rfl (.z rfl (.z rfl (.q rfl (.pickF rfl rfl) (.nil (hK30 _ _ ?_))))))))))
       refine .condF rfl ?_
       refine .skip ?_
       refine hK29 _ _ (.region (.mv rfl ?_))
       refine .q rfl (.add rfl rfl rfl (by omega) (by omega)) ?_
       refine .mv rfl (.nil ?_)
       refine hKL5 ((z + 1, T2)) _ _ ?_ ?_ ⟨rfl, rfl, rfl, rfl, rfl, trivial⟩
       ·
        exact ⟨by omega, hS2⟩
       (dsimp only; omega)
      try simp only [sps] at h67
      refine .exit ?_
      refine hK25 _ _ (.region (.mv rfl ?_))
      refine .q rfl (.add rfl rfl rfl (by omega) (by omega)) ?_
      refine .mv rfl (.nil ?_)
      refine hKL4 ((y + 1, T)) _ _ ?_ ?_ ⟨rfl, rfl, rfl, rfl, trivial⟩
      ·
       exact ⟨by omega, hS⟩
      (dsimp only; omega)
     try simp only [sps] at h62
     refine .exit ?_
     refine hK21 _ _ (.region (.mv rfl ?_))
     refine .q rfl (.add rfl rfl rfl (by omega) (by omega)) ?_
     refine .mv rfl (.nil ?_)
     refine hKL3 ((x + 1, T)) _ _ ?_ ?_ ⟨rfl, rfl, rfl, trivial⟩
     ·
      exact ⟨by omega, hS⟩
     (dsimp only; omega)
    try simp only [sps] at h57
    refine .exit ?_
    refine hK17 _ _ (.seq (fun K31 hK31 => .region (.mv rfl (.mv rfl (.nil (hK31 _ _ ?_))))))
    refine .ret ?_
    refine hret _ _ ?_
    refine ⟨_, rfl, ?_⟩
    exact ⟨some ⟨gV, 0, none⟩, T, rr, by rw [hlen], hR.done a5 b5, by omega, fun k hk => by rw [hrow k hk]; omega, hst, hs⟩
   simp only [sps] at h45
   obtain ⟨T1, hS2⟩ := (RelSt.mk hst a5 b5 (hR.st rk (.cons (hR.lowNe hlS) (.nil _ _))) hlen hrow hs).ex
   refine .skip ?_
   refine hK15 _ _ (.seq (fun K32 hK32 => .seq (fun K33 hK33 => .region (.mv rfl (.nil (hK33 _ _ ?_))))))
   refine .block ?_
   refine .loopR (σ := Nat × List (List Int)) [(1, some _), (5, some _)] (fun (x, T) => [(9, some (.int .i64 (x : Int)))]) (fun (x, T) H' => x ≤ n ∧ RelSt 120 2 22 H H' gS gV n i rr T) (fun (x, T) => n - x) ((0, T1)) ⟨rfl, rfl, trivial⟩ ⟨rfl, trivial⟩ ?_ ?_
   ·
    exact ⟨by omega, hS2⟩
   rintro ⟨x, T⟩ HL3 hI KL3 hKL3
   refine .forget (fr' := [(9, some (.int .i64 (x : Int))), (1, some _), (5, some _)]) ⟨rfl, rfl, rfl, trivial⟩ ?_
   obtain ⟨-, hS⟩ := hI
   obtain ⟨hst, a5, b5, hR, hlen, hrow, hs⟩ := id hS
   refine .seq (fun K34 hK34 => .seq (fun K35 hK35 => .region (.mv rfl (.mv rfl (.q rfl (.cmp rfl rfl rfl) (.nil (hK35 _ _ ?_)))))))
   refine .cond rfl (fun h57 => ?_) (fun h57 => ?_)
   ·
    simp only [sps] at h57
    refine .skip ?_
    refine hK34 _ _ (.seq (fun K36 hK36 => ?_))
    refine .block ?_
    refine .seq (fun K37 hK37 => .region (.mv rfl (.nil (hK37 _ _ ?_))))
    refine .block ?_
    refine .loopR (σ := Nat × List (List Int)) [(1, some _), (5, some _), (9, some _)] (fun (y, T) => [(10, some (.int .i64 (y : Int)))]) (fun (y, T) H' => y ≤ n ∧ RelSt 120 2 22 H H' gS gV n i rr T) (fun (y, T) => n - y) ((0, T)) ⟨rfl, rfl, rfl, trivial⟩ ⟨rfl, trivial⟩ ?_ ?_
    ·
     exact ⟨by omega, hS⟩
    rintro ⟨y, T⟩ HL4 hI KL4 hKL4
    refine .forget (fr' := [(10, some (.int .i64 (y : Int))), (1, some _), (5, some _), (9, some _)]) ⟨rfl, rfl, rfl, rfl, trivial⟩ ?_
    obtain ⟨-, hS⟩ := hI
    obtain ⟨-, -, -, -, hlen, -, -⟩ := id hS
    refine .seq (fun K38 hK38 => .seq (fun K39 hK39 => .region (.mv rfl (.mv rfl (.q rfl (.cmp rfl rfl rfl) (.nil (hK39 _ _ ?_)))))))
    refine .cond rfl (fun h62 => ?_) (fun h62 => ?_)
    ·
     simp only [sps] at h62
     refine .skip ?_
     refine hK38 _ _ (.seq (fun K40 hK40 => ?_))
     refine .block ?_
     refine .seq (fun K41 hK41 => .region (.mv rfl (.nil (hK41 _ _ ?_))))
     refine .block ?_
     refine .loopR (σ := Nat × List (List Int)) [(1, some _), (5, some _), (9, some _), (10, some _)] (fun (z, T) => [(11, some (.int .i64 (z : Int)))]) (fun (z, T) H' => z ≤ n ∧ RelSt 120 2 22 H H' gS gV n i rr T) (fun (z, T) => n - z) ((0, T)) ⟨rfl, rfl, rfl, rfl, trivial⟩ ⟨rfl, trivial⟩ ?_ ?_
     ·
      exact ⟨by omega, hS⟩
     rintro ⟨z, T⟩ HL5 hI KL5 hKL5
     refine .forget (fr' := [(11, some (.int .i64 (z : Int))), (1, some _), (5, some _), (9, some _), (10, some _)]) ⟨rfl, rfl, rfl, rfl, rfl, trivial⟩ ?_
     obtain ⟨-, hS⟩ := hI
     obtain ⟨-, a5, b5, hR, hlen, hrow, -⟩ := id hS
     refine .seq (fun K42 hK42 => .seq (fun K43 hK43 => .region (.mv rfl (.mv rfl (.q rfl (.cmp rfl rfl rfl) (.nil (hK43 _ _ ?_)))))))
     refine .cond rfl (fun h67 => ?_) (fun h67 => ?_)
     ·
      simp only [sps] at h67
      have iT := hR.intss a5 b5
      have u1 := iT.2 y (by omega)
      have u2 := iT.2 x (by omega)
      have w1 := hrow y (by omega)
      have w2 := hrow x (by omega)
      refine .skip ?_
      refine hK42 _ _ (.seq (fun K44 hK44 => ?_))
      refine .block ?_
      refine .seq (fun K45 hK45 => .region (.mv rfl (.mv rfl ?_)))
      refine .q rfl (.idxN sl_23_B (by first | exact (Intss.sl (by assumption)) | exact SlA.of_row a5 (by first | rfl | (simp; done) | (simp <;> omega))) rfl rfl (by omega)) ?_
      refine .q rfl (.loadR on_22_B (by assumption) rfl (by omega)) ?_
      refine .mv rfl ?_
      refine .q rfl (.idxN sl_22_A (by assumption) rfl rfl (by omega)) ?_
      refine .q rfl (.loadI on_2_A (by assumption) rfl (by omega)) ?_
      refine .q rfl (.cmp rfl rfl rfl) (.mv rfl ?_)
      refine .split (fun h78 => ?_) (fun h78 => ?_)
      ·
       try simp only [sps] at h78
       refine .qg rfl (.move rfl) (.qg rfl (.move rfl) ?_)
       refine .qg rfl (.idxN sl_23_B (by first | exact (Intss.sl (by assumption)) | exact SlA.of_row a5 (by first | rfl | (simp; done) | (simp <;> omega))) rfl rfl (by omega)) ?_
       refine .qg rfl (.loadR on_22_B (by assumption) rfl (by omega)) ?_
       refine .qg rfl (.move rfl) ?_
       refine .qg rfl (.idxN sl_22_A (by assumption) rfl rfl (by omega)) ?_
       refine .qg rfl (.loadI on_2_A (by assumption) rfl (by omega)) ?_
       refine .qg rfl (.cmp rfl rfl rfl) (.q rfl (.pickT rfl rfl) (.nil (hK45 _ _ ?_)))
       refine .cond rfl (fun h87 => ?_) (fun h87 => ?_)
       ·
        try simp only [sps] at h87
        refine .region ?_
        obtain ⟨gi, hgi, hbi, hati⟩ := hR.row y (by omega)
        have m3 := row_ne a5 hati rfl
        have cC := slsL_cell a5 (i := y) (by omega)
        rw [hgi] at cC
        refine .mv rfl (.mv rfl ?_)
        refine .q rfl (.idxN sl_23_B (by first | exact (Intss.sl (by assumption)) | exact SlA.of_row a5 (by first | rfl | (simp; done) | (simp <;> omega))) rfl rfl (by omega)) ?_
        refine .q rfl (.load on_22_B rfl cC) (.mv rfl ?_)
        refine .q rfl (.idxN sl_22_A (by first | assumption | exact SlA.of_row hati (by first | rfl | (simp; done) | (simp <;> omega))) rfl rfl (by omega)) ?_
        refine .r0 rfl rfl (.storeI rfl sz_2_Ch rfl rfl (by assumption) (by first | omega | (simp <;> omega))) ?_
        rintro _ H24006x2 ⟨rfl, st24006x2, at24006x2⟩
        obtain ⟨T2, hS2⟩ := (hS.set1 (by omega) hgi hbi st24006x2 at24006x2 (by rw [List.length_set]; exact w1) m3 hlS).ex
        refine .nil (hK44 _ _ (.region (.mv rfl ?_)))
        refine .q rfl (.add rfl rfl rfl (by omega) (by omega)) ?_
        refine .mv rfl (.nil ?_)
        refine hKL5 ((z + 1, T2)) _ _ ?_ ?_ ⟨rfl, rfl, rfl, rfl, rfl, trivial⟩
        ·
         exact ⟨by omega, hS2⟩
        (dsimp only; omega)
       obtain ⟨T2, hS2⟩ := hS.ex
       refine .skip ?_
       refine hK44 _ _ (.region (.mv rfl ?_))
       refine .q rfl (.add rfl rfl rfl (by omega) (by omega)) ?_
       refine .mv rfl (.nil ?_)
       refine hKL5 ((z + 1, T2)) _ _ ?_ ?_ ⟨rfl, rfl, rfl, rfl, rfl, trivial⟩
       ·
        exact ⟨by omega, hS2⟩
       (dsimp only; omega)
      obtain ⟨T2, hS2⟩ := hS.ex
      refine .z rfl (.z rfl (.z rfl (.z rfl (.z rfl (.z rfl (.z rfl (.z rfl (.q rfl (.pickF rfl rfl) (.nil (hK45 _ _ ?_))))))))))
      refine .condF rfl ?_
      refine .skip ?_
      refine hK44 _ _ (.region (.mv rfl ?_))
      refine .q rfl (.add rfl rfl rfl (by omega) (by omega)) ?_
      refine .mv rfl (.nil ?_)
      refine hKL5 ((z + 1, T2)) _ _ ?_ ?_ ⟨rfl, rfl, rfl, rfl, rfl, trivial⟩
      ·
       exact ⟨by omega, hS2⟩
      (dsimp only; omega)
     try simp only [sps] at h67
     refine .exit ?_
     refine hK40 _ _ (.region (.mv rfl ?_))
     refine .q rfl (.add rfl rfl rfl (by omega) (by omega)) ?_
     refine .mv rfl (.nil ?_)
     refine hKL4 ((y + 1, T)) _ _ ?_ ?_ ⟨rfl, rfl, rfl, rfl, trivial⟩
     ·
      exact ⟨by omega, hS⟩
     (dsimp only; omega)
    try simp only [sps] at h62
    refine .exit ?_
    refine hK36 _ _ (.region (.mv rfl ?_))
    refine .q rfl (.add rfl rfl rfl (by omega) (by omega)) ?_
    refine .mv rfl (.nil ?_)
    refine hKL3 ((x + 1, T)) _ _ ?_ ?_ ⟨rfl, rfl, rfl, trivial⟩
    ·
     exact ⟨by omega, hS⟩
    (dsimp only; omega)
   try simp only [sps] at h57
   refine .exit ?_
   refine hK32 _ _ (.seq (fun K46 hK46 => .region (.mv rfl (.mv rfl (.nil (hK46 _ _ ?_))))))
   refine .ret ?_
   refine hret _ _ ?_
   refine ⟨_, rfl, ?_⟩
   exact ⟨some ⟨gV, 0, none⟩, T, rr, by rw [hlen], hR.done a5 b5, by omega, fun k hk => by rw [hrow k hk]; omega, hst, hs⟩
  simp only [sps] at h41
  obtain ⟨T1, hS2⟩ := hS.ex
  refine .z rfl (.z rfl (.z rfl (.q rfl (.pickF rfl rfl) (.nil (hK16 _ _ ?_)))))
  refine .condF rfl ?_
  refine .skip ?_
  refine hK15 _ _ (.seq (fun K47 hK47 => .seq (fun K48 hK48 => .region (.mv rfl (.nil (hK48 _ _ ?_))))))
  refine .block ?_
  refine .loopR (σ := Nat × List (List Int)) [(1, some _), (5, some _)] (fun (x, T) => [(9, some (.int .i64 (x : Int)))]) (fun (x, T) H' => x ≤ n ∧ RelSt 120 2 22 H H' gS gV n i rr T) (fun (x, T) => n - x) ((0, T1)) ⟨rfl, rfl, trivial⟩ ⟨rfl, trivial⟩ ?_ ?_
  ·
   exact ⟨by omega, hS2⟩
  rintro ⟨x, T⟩ HL3 hI KL3 hKL3
  refine .forget (fr' := [(9, some (.int .i64 (x : Int))), (1, some _), (5, some _)]) ⟨rfl, rfl, rfl, trivial⟩ ?_
  obtain ⟨-, hS⟩ := hI
  obtain ⟨hst, a5, b5, hR, hlen, hrow, hs⟩ := id hS
  refine .seq (fun K49 hK49 => .seq (fun K50 hK50 => .region (.mv rfl (.mv rfl (.q rfl (.cmp rfl rfl rfl) (.nil (hK50 _ _ ?_)))))))
  refine .cond rfl (fun h57 => ?_) (fun h57 => ?_)
  ·
   simp only [sps] at h57
   refine .skip ?_
   refine hK49 _ _ (.seq (fun K51 hK51 => ?_))
   refine .block ?_
   refine .seq (fun K52 hK52 => .region (.mv rfl (.nil (hK52 _ _ ?_))))
   refine .block ?_
   refine .loopR (σ := Nat × List (List Int)) [(1, some _), (5, some _), (9, some _)] (fun (y, T) => [(10, some (.int .i64 (y : Int)))]) (fun (y, T) H' => y ≤ n ∧ RelSt 120 2 22 H H' gS gV n i rr T) (fun (y, T) => n - y) ((0, T)) ⟨rfl, rfl, rfl, trivial⟩ ⟨rfl, trivial⟩ ?_ ?_
   ·
    exact ⟨by omega, hS⟩
   rintro ⟨y, T⟩ HL4 hI KL4 hKL4
   refine .forget (fr' := [(10, some (.int .i64 (y : Int))), (1, some _), (5, some _), (9, some _)]) ⟨rfl, rfl, rfl, rfl, trivial⟩ ?_
   obtain ⟨-, hS⟩ := hI
   obtain ⟨-, -, -, -, hlen, -, -⟩ := id hS
   refine .seq (fun K53 hK53 => .seq (fun K54 hK54 => .region (.mv rfl (.mv rfl (.q rfl (.cmp rfl rfl rfl) (.nil (hK54 _ _ ?_)))))))
   refine .cond rfl (fun h62 => ?_) (fun h62 => ?_)
   ·
    simp only [sps] at h62
    refine .skip ?_
    refine hK53 _ _ (.seq (fun K55 hK55 => ?_))
    refine .block ?_
    refine .seq (fun K56 hK56 => .region (.mv rfl (.nil (hK56 _ _ ?_))))
    refine .block ?_
    refine .loopR (σ := Nat × List (List Int)) [(1, some _), (5, some _), (9, some _), (10, some _)] (fun (z, T) => [(11, some (.int .i64 (z : Int)))]) (fun (z, T) H' => z ≤ n ∧ RelSt 120 2 22 H H' gS gV n i rr T) (fun (z, T) => n - z) ((0, T)) ⟨rfl, rfl, rfl, rfl, trivial⟩ ⟨rfl, trivial⟩ ?_ ?_
    ·
     exact ⟨by omega, hS⟩
    rintro ⟨z, T⟩ HL5 hI KL5 hKL5
    refine .forget (fr' := [(11, some (.int .i64 (z : Int))), (1, some _), (5, some _), (9, some _), (10, some _)]) ⟨rfl, rfl, rfl, rfl, rfl, trivial⟩ ?_
    obtain ⟨-, hS⟩ := hI
    obtain ⟨-, a5, b5, hR, hlen, hrow, -⟩ := id hS
    refine .seq (fun K57 hK57 => .seq (fun K58 hK58 => .region (.mv rfl (.mv rfl (.q rfl (.cmp rfl rfl rfl) (.nil (hK58 _ _ ?_)))))))
    refine .cond rfl (fun h67 => ?_) (fun h67 => ?_)
    ·
     simp only [sps] at h67
     have iT := hR.intss a5 b5
     have u1 := iT.2 y (by omega)
     have u2 := iT.2 x (by omega)
     have w1 := hrow y (by omega)
     have w2 := hrow x (by omega)
     refine .skip ?_
     refine hK57 _ _ (.seq (fun K59 hK59 => ?_))
     refine .block ?_
     refine .seq (fun K60 hK60 => .region (.mv rfl (.mv rfl ?_)))
     refine .q rfl (.idxN sl_23_B (by first | exact (Intss.sl (by assumption)) | exact SlA.of_row a5 (by first | rfl | (simp; done) | (simp <;> omega))) rfl rfl (by omega)) ?_
     refine .q rfl (.loadR on_22_B (by assumption) rfl (by omega)) ?_
     refine .mv rfl ?_
     refine .q rfl (.idxN sl_22_A (by assumption) rfl rfl (by omega)) ?_
     refine .q rfl (.loadI on_2_A (by assumption) rfl (by omega)) ?_
     refine .q rfl (.cmp rfl rfl rfl) (.mv rfl ?_)
     refine .split (fun h78 => ?_) (fun h78 => ?_)
     ·
      try simp only [sps] at h78
      refine .qg rfl (.move rfl) (.qg rfl (.move rfl) ?_)
      refine .qg rfl (.idxN sl_23_B (by first | exact (Intss.sl (by assumption)) | exact SlA.of_row a5 (by first | rfl | (simp; done) | (simp <;> omega))) rfl rfl (by omega)) ?_
      refine .qg rfl (.loadR on_22_B (by assumption) rfl (by omega)) ?_
      refine .qg rfl (.move rfl) ?_
      refine .qg rfl (.idxN sl_22_A (by assumption) rfl rfl (by omega)) ?_
      refine .qg rfl (.loadI on_2_A (by assumption) rfl (by omega)) ?_
      refine .qg rfl (.cmp rfl rfl rfl) (.q rfl (.pickT rfl rfl) (.nil (hK60 _ _ ?_)))
      refine .cond rfl (fun h87 => ?_) (fun h87 => ?_)
      ·
       try simp only [sps] at h87
       refine .region ?_
       obtain ⟨gi, hgi, hbi, hati⟩ := hR.row y (by omega)
       have m3 := row_ne a5 hati rfl
       have cC := slsL_cell a5 (i := y) (by omega)
       rw [hgi] at cC
       refine .mv rfl (.mv rfl ?_)
       refine .q rfl (.idxN sl_23_B (by first | exact (Intss.sl (by assumption)) | exact SlA.of_row a5 (by first | rfl | (simp; done) | (simp <;> omega))) rfl rfl (by omega)) ?_
       refine .q rfl (.load on_22_B rfl cC) (.mv rfl ?_)
       refine .q rfl (.idxN sl_22_A (by first | assumption | exact SlA.of_row hati (by first | rfl | (simp; done) | (simp <;> omega))) rfl rfl (by omega)) ?_
       refine .r0 rfl rfl (.storeI rfl sz_2_Ch rfl rfl (by assumption) (by first | omega | (simp <;> omega))) ?_
       rintro _ H24006x3 ⟨rfl, st24006x3, at24006x3⟩
       obtain ⟨T2, hS2⟩ := (hS.set1 (by omega) hgi hbi st24006x3 at24006x3 (by rw [List.length_set]; exact w1) m3 hlS).ex
       refine .nil (hK59 _ _ (.region (.mv rfl ?_)))
       refine .q rfl (.add rfl rfl rfl (by omega) (by omega)) ?_
       refine .mv rfl (.nil ?_)
       refine hKL5 ((z + 1, T2)) _ _ ?_ ?_ ⟨rfl, rfl, rfl, rfl, rfl, trivial⟩
       ·
        exact ⟨by omega, hS2⟩
       (dsimp only; omega)
      obtain ⟨T2, hS2⟩ := hS.ex
      refine .skip ?_
      refine hK59 _ _ (.region (.mv rfl ?_))
      refine .q rfl (.add rfl rfl rfl (by omega) (by omega)) ?_
      refine .mv rfl (.nil ?_)
      refine hKL5 ((z + 1, T2)) _ _ ?_ ?_ ⟨rfl, rfl, rfl, rfl, rfl, trivial⟩
      ·
       exact ⟨by omega, hS2⟩
      (dsimp only; omega)
     obtain ⟨T2, hS2⟩ := hS.ex
     refine .z rfl (.z rfl (.z rfl (.z rfl (.z rfl (.z rfl (.z rfl (.z rfl (.q rfl (.pickF rfl rfl) (.nil (hK60 _ _ ?_))))))))))
     refine .condF rfl ?_
     refine .skip ?_
     refine hK59 _ _ (.region (.mv rfl ?_))
     refine .q rfl (.add rfl rfl rfl (by omega) (by omega)) ?_
     refine .mv rfl (.nil ?_)
     refine hKL5 ((z + 1, T2)) _ _ ?_ ?_ ⟨rfl, rfl, rfl, rfl, rfl, trivial⟩
     ·
      exact ⟨by omega, hS2⟩
     (dsimp only; omega)
    try simp only [sps] at h67
    refine .exit ?_
    refine hK55 _ _ (.region (.mv rfl ?_))
    refine .q rfl (.add rfl rfl rfl (by omega) (by omega)) ?_
    refine .mv rfl (.nil ?_)
    refine hKL4 ((y + 1, T)) _ _ ?_ ?_ ⟨rfl, rfl, rfl, rfl, trivial⟩
    ·
     exact ⟨by omega, hS⟩
    (dsimp only; omega)
   try simp only [sps] at h62
   refine .exit ?_
   refine hK51 _ _ (.region (.mv rfl ?_))
   refine .q rfl (.add rfl rfl rfl (by omega) (by omega)) ?_
   refine .mv rfl (.nil ?_)
   refine hKL3 ((x + 1, T)) _ _ ?_ ?_ ⟨rfl, rfl, rfl, trivial⟩
   ·
    exact ⟨by omega, hS⟩
   (dsimp only; omega)
  try simp only [sps] at h57
  refine .exit ?_
  refine hK47 _ _ (.seq (fun K61 hK61 => .region (.mv rfl (.mv rfl (.nil (hK61 _ _ ?_))))))
  refine .ret ?_
  refine hret _ _ ?_
  refine ⟨_, rfl, ?_⟩
  exact ⟨some ⟨gV, 0, none⟩, T, rr, by rw [hlen], hR.done a5 b5, by omega, fun k hk => by rw [hrow k hk]; omega, hst, hs⟩
end Go.Proofs.Ytjdedelneppnlaa
namespace Go.Proofs.Ytjdedelneppnlaa
open Go Go.GL Go.RowKit Go.Proofs
set_option maxHeartbeats 8000000 in
theorem l03Join_c {c d : Cat} {p q : CatP} {H : GHeap} (hin : c.In H p := by assumption) (hin1 : d.In H q := by assumption) (hc : c.Rect 4) (hd : d.Rect 8) :
    GCalls Try.prog 150 [.agg (c.cells p).toArray, .agg (d.cells q).toArray] H (NewRc 2 22 128 H) := by
  have c1 := hc.obj
  have d1 := hd.obj
  obtain ⟨E, hEq, hE⟩ : ∃ E, c.sum d = E ∧ E.Rect 12 := ⟨_, rfl, hc.sum hd⟩
  have hE0 : E.obj = c.obj + d.obj := by rw [← hEq]; rfl
  obtain ⟨e1, e2, e3, e4, e5, e6, e7, e8, e9, e10⟩ := id hE
  refine GCalls.body (N := 122) (rs := [.cell 4 29]) Try.func150 rfl rfl rfl rfl (fun Qx hret hend => ?_)
  refine .fg [0, 1] rfl ?_
  have hle := GHeap.Le.refl H
  have base_hin := hin
  have base_hin1 := hin1
  refine .seq (fun K1 hK1 => .region ?_)
  refine .R rfl (.boxR rfl sz_29_D rfl) ?_
  rintro _ H2 ⟨g2, rfl, le2, ge2, at2⟩
  replace hle := hle.trans le2
  have lt_at2 := GHeap.ltg at2
  replace hin := base_hin.mono hle
  have hb2 : Cat.At _ g2 0 c p := ⟨Mem.of_get at2, hin⟩
  refine .R rfl (.boxR rfl sz_29_D rfl) ?_
  rintro _ H3 ⟨g3, rfl, le3, ge3, at3⟩
  replace hle := hle.trans le3
  replace at2 := le3.2 _ _ at2
  have lt_at3 := GHeap.ltg at3
  replace hin := base_hin.mono hle
  replace hin1 := base_hin1.mono hle
  clear hb2
  have hb2 : Cat.At _ g2 0 c p := ⟨Mem.of_get at2, hin⟩
  have hb3 : Cat.At _ g3 0 d q := ⟨Mem.of_get at3, hin1⟩
  refine .R rfl (.allocR rfl ze_29_Hj rfl) ?_
  rintro _ H4 ⟨g4, rfl, le4, ge4, at4⟩
  have nx_H4 := le4.1
  replace hle := hle.trans le4
  replace at2 := le4.2 _ _ at2
  replace at3 := le4.2 _ _ at3
  have lt_at4 := GHeap.ltg at4
  replace hin := base_hin.mono hle
  replace hin1 := base_hin1.mono hle
  clear hb2
  have hb2 : Cat.At _ g2 0 c p := ⟨Mem.of_get at2, hin⟩
  have hi2 := hb2.2
  clear hb3
  have hb3 : Cat.At _ g3 0 d q := ⟨Mem.of_get at3, hin1⟩
  have hi3 := hb3.2
  refine .nil (hK1 _ _ (.seq (fun K2 hK2 => .region ?_)))
  refine .q rfl (.loadM ag_29_D rfl ⟨rfl, Mem.of_get at2⟩) ?_
  refine .q rfl (.loadM ag_29_D rfl ⟨rfl, Mem.of_get at3⟩) ?_
  refine .call rfl rfl rfl rfl @Try.call139 rfl (l03Sum_c (hc := hc.mono (by omega : 4 ≤ 8)) (hd := hd) (hN := by omega)) ?_
  rintro _ H16 hv
  rw [hEq] at hv
  obtain ⟨le16, gF, gT, gI, gC, rr, rfl, v16⟩ := hv
  have aF := v16.a1
  have aT := v16.a2
  have aI := v16.a3
  have aC := v16.a4
  have bF := v16.b1
  have bT := v16.b2
  have bI := v16.b3
  have bC := v16.b4
  have n12 := v16.n12
  have n13 := v16.n13
  have n23 := v16.n23
  have n4 := row_ne aC aF rfl
  have n5 := row_ne aC aT rfl
  have n6 := row_ne aC aI rfl
  have rk0 := St.refl [gF] H16
  replace hle := hle.trans le16
  replace at2 := le16.2 _ _ at2
  replace at3 := le16.2 _ _ at3
  replace at4 := le16.2 _ _ at4
  have lt_aF := GHeap.ltg aF
  have lt_aT := GHeap.ltg aT
  have lt_aI := GHeap.ltg aI
  have lt_aC := GHeap.ltg aC
  replace hin := base_hin.mono hle
  replace hin1 := base_hin1.mono hle
  clear hb2 hi2
  have hb2 : Cat.At _ g2 0 c p := ⟨Mem.of_get at2, hin⟩
  clear hb3 hi3
  have hb3 : Cat.At _ g3 0 d q := ⟨Mem.of_get at3, hin1⟩
  refine .R rfl (.allocR rfl ze_29_Hj rfl) ?_
  rintro _ H5 ⟨g5, rfl, le5, ge5, at5⟩
  have nx_H5 := le5.1
  replace hle := hle.trans le5
  replace rk0 := rk0.le le5
  replace at2 := le5.2 _ _ at2
  replace at3 := le5.2 _ _ at3
  replace at4 := le5.2 _ _ at4
  replace aF := le5.2 _ _ aF
  replace aT := le5.2 _ _ aT
  replace aI := le5.2 _ _ aI
  replace aC := le5.2 _ _ aC
  replace hin := base_hin.mono hle
  replace hin1 := base_hin1.mono hle
  clear hb2
  have hb2 : Cat.At _ g2 0 c p := ⟨Mem.of_get at2, hin⟩
  clear hb3
  have hb3 : Cat.At _ g3 0 d q := ⟨Mem.of_get at3, hin1⟩
  refine .r0 rfl rfl (.fillA rfl sz_29_D rfl rfl rfl rfl) ?_
  rintro _ H1004 ⟨rfl, st1004, at1004⟩
  have nx_H1004 := st1004.nx
  replace hle := hle.st st1004 (fun k hk => ⟨by omega, trivial⟩)
  replace rk0 := rk0.sA st1004
  have ne_g2_g5 : NE g2 g5 := .a
  replace at2 := st1004.s at2 ne_g2_g5.ne
  have ne_g3_g5 : NE g3 g5 := .a
  replace at3 := st1004.s at3 ne_g3_g5.ne
  have ne_g4_g5 : NE g4 g5 := .a
  replace at4 := st1004.s at4 ne_g4_g5.ne
  replace aF := st1004.s aF
  replace aT := st1004.s aT
  have ne_gI_g5 : NE gI g5 := .a
  replace aI := st1004.s aI ne_gI_g5.ne
  have ne_gC_g5 : NE gC g5 := .a
  replace aC := st1004.s aC ne_gC_g5.ne
  replace hin := base_hin.mono hle
  replace hin1 := base_hin1.mono hle
  clear hb2
  have hb2 : Cat.At _ g2 0 c p := ⟨Mem.of_get at2, hin⟩
  clear hb3
  have hb3 : Cat.At _ g3 0 d q := ⟨Mem.of_get at3, hin1⟩
  refine .nil (hK2 _ _ (.seq (fun K3 hK3 => .region (.q rfl (.fieldAddr fo_29_1_B rfl) ?_))))
  refine .q rfl (.load on_22_B rfl (by first | assumption | exact Mem.of_get at1004 1 _ rfl)) ?_
  refine .q rfl (.len sl_22_A rfl) (.mv rfl (.nil (hK3 _ _ (.seq (fun K4 hK4 => .seq (fun K5 hK5 => .region (.mv rfl (.nil (hK5 _ _ ?_)))))))))
  refine .block ?_
  refine .loopR (σ := Nat × List Int × List Int × Nat × Nat) [(2, some _), (3, some _), (4, some _), (5, some _), (6, some _)] (fun (x, ss, ts, gLF, gLT) => [(7, some (.int .i64 (x : Int)))]) (fun (x, ss, ts, gLF, gLT) H' => St [gF, gT, g5] H1004 H' ∧ H'.get gLF = some (.row (ints ss) 2 true) ∧ PL gLF gF H1004.next ∧ H'.get gLT = some (.row (ints ts) 2 true) ∧ PL gLT gT H1004.next ∧ H'.get g5 = some (.row ([.int .i64 E.obj, .slice (some ⟨gLF, 0, none⟩) ss.length ss.length, .slice (some ⟨gLT, 0, none⟩) ts.length ts.length, .slice (some ⟨gI, 0, none⟩) E.idn.length E.idn.length, .slice (some ⟨gC, 0, none⟩) E.comp.length E.comp.length]) 29 true) ∧ gLF ≠ gLT ∧ gLF ≠ g5 ∧ gLT ≠ g5 ∧ ((x : Int) ≤ c.obj ∧ E.src.length ≤ ss.length ∧ ss.length ≤ 12 + 8 * x ∧ ts.length = ss.length) ∧ Bd 0 12 ss ∧ Bd 0 12 ts ∧ OwnL H.next H' 2 rr E.comp ∧ (∀ j, j < E.comp.length → rr j ≠ some ⟨gLF, 0, none⟩) ∧ ∀ j, j < E.comp.length → rr j ≠ some ⟨gLT, 0, none⟩) (fun (x, ss, ts, gLF, gLT) => (c.obj - x : Int).toNat) ((0, E.src, E.tgt, gF, gT)) ⟨rfl, rfl, rfl, rfl, rfl, trivial⟩ ⟨rfl, trivial⟩ ?_ ?_
  ·
   refine ⟨.refl _ _, by assumption, ⟨.inl rfl⟩, by assumption, ⟨.inl rfl⟩, by assumption, by omega, by omega, by omega, ?_⟩
   exact ⟨⟨by omega, by omega, by omega, by omega⟩, e4, e5, (v16.rows.st rk0 (.cons v16.r1 (.nil _ _))).low (by omega), v16.r1, v16.r2⟩
  rintro ⟨x, ss, ts, gLF, gLT⟩ HL1 ⟨lst1, at_LF, pl_LF, at_LT, pl_LT, at_Lg5, ap1_0, ap1_1, ap1_2, hI⟩ KL1 hKL1
  refine .forget (fr' := [(7, some (.int .i64 (x : Int))), (2, some _), (3, some _), (4, some _), (5, some _), (6, some _)]) ⟨rfl, rfl, rfl, rfl, rfl, rfl, trivial⟩ ?_
  have ge_LF : H.next ≤ gLF := pl_LF.ge (by omega) (by omega)
  have ge_LT : H.next ≤ gLT := pl_LT.ge (by omega) (by omega)
  have nx_HL1 := lst1.nx
  replace hle := hle.st lst1 (fun k hk => ⟨by omega, by omega, by omega, trivial⟩)
  have ne_g2_gF : NE g2 gF := .a
  have ne_g2_gT : NE g2 gT := .a
  replace at2 := lst1.same _ _ ⟨ne_g2_gF.ne, ne_g2_gT.ne, ne_g2_g5.ne, trivial⟩ at2
  have ne_g3_gF : NE g3 gF := .a
  have ne_g3_gT : NE g3 gT := .a
  replace at3 := lst1.same _ _ ⟨ne_g3_gF.ne, ne_g3_gT.ne, ne_g3_g5.ne, trivial⟩ at3
  have ne_g4_gF : NE g4 gF := .a
  have ne_g4_gT : NE g4 gT := .a
  replace at4 := lst1.same _ _ ⟨ne_g4_gF.ne, ne_g4_gT.ne, ne_g4_g5.ne, trivial⟩ at4
  replace aI := lst1.same _ _ ⟨(by first | assumption | omega), (by first | assumption | omega), ne_gI_g5.ne, trivial⟩ aI
  replace aC := lst1.same _ _ ⟨(by first | assumption | omega), (by first | assumption | omega), ne_gC_g5.ne, trivial⟩ aC
  have lt_at_LF := GHeap.ltg at_LF
  have lt_at_LT := GHeap.ltg at_LT
  have lt_at_Lg5 := GHeap.ltg at_Lg5
  replace hin := base_hin.mono hle
  replace hin1 := base_hin1.mono hle
  clear hb2
  have hb2 : Cat.At _ g2 0 c p := ⟨Mem.of_get at2, hin⟩
  obtain ⟨c02, -, -, -, -, -, -, -, -⟩ := hb2.get
  clear hb3
  have hb3 : Cat.At _ g3 0 d q := ⟨Mem.of_get at3, hin1⟩
  obtain ⟨⟨hx, hsm, hs8, hts⟩, hS, hT, hR, hF1, hT1⟩ := hI
  refine .seq (fun K6 hK6 => .seq (fun K7 hK7 => .region (.mv rfl (.q rfl (.fieldAddr fo_29_0_B rfl) ?_))))
  refine .q rfl (.load on_2_A rfl (by first | assumption | exact Mem.of_get at2 0 _ rfl)) ?_
  refine .q rfl (.cmp rfl rfl rfl) (.nil (hK7 _ _ ?_))
  refine .cond rfl (fun h23 => ?_) (fun h23 => ?_)
  ·
   simp only [sps] at h23
   refine .skip ?_
   refine hK6 _ _ (.seq (fun K8 hK8 => ?_))
   refine .block ?_
   refine .seq (fun K9 hK9 => .region (.mv rfl (.nil (hK9 _ _ ?_))))
   refine .block ?_
   refine .loopR (σ := Nat × List Int × List Int × Nat × Nat) [(2, some _), (3, some _), (4, some _), (5, some _), (6, some _), (7, some _)] (fun (y, s2, t2, gLF2, gLT2) => [(8, some (.int .i64 (y : Int)))]) (fun (y, s2, t2, gLF2, gLT2) H' => St [gLF, gLT, g5] HL1 H' ∧ H'.get gLF2 = some (.row (ints s2) 2 true) ∧ PL gLF2 gLF HL1.next ∧ H'.get gLT2 = some (.row (ints t2) 2 true) ∧ PL gLT2 gLT HL1.next ∧ H'.get g5 = some (.row ([.int .i64 E.obj, .slice (some ⟨gLF2, 0, none⟩) s2.length s2.length, .slice (some ⟨gLT2, 0, none⟩) t2.length t2.length, .slice (some ⟨gI, 0, none⟩) E.idn.length E.idn.length, .slice (some ⟨gC, 0, none⟩) E.comp.length E.comp.length]) 29 true) ∧ gLF2 ≠ gLT2 ∧ gLF2 ≠ g5 ∧ gLT2 ≠ g5 ∧ ((y : Int) ≤ d.obj ∧ E.src.length ≤ s2.length ∧ s2.length ≤ 12 + 8 * x + y ∧ t2.length = s2.length) ∧ Bd 0 12 s2 ∧ Bd 0 12 t2 ∧ OwnL H.next H' 2 rr E.comp ∧ (∀ j, j < E.comp.length → rr j ≠ some ⟨gLF2, 0, none⟩) ∧ ∀ j, j < E.comp.length → rr j ≠ some ⟨gLT2, 0, none⟩) (fun (y, s2, t2, gLF2, gLT2) => (d.obj - y : Int).toNat) ((0, ss, ts, gLF, gLT)) ⟨rfl, rfl, rfl, rfl, rfl, rfl, trivial⟩ ⟨rfl, trivial⟩ ?_ ?_
   ·
    refine ⟨.refl _ _, by assumption, ⟨.inl rfl⟩, by assumption, ⟨.inl rfl⟩, by assumption, by omega, by omega, by omega, ?_⟩
    exact ⟨⟨by omega, by omega, by omega, by omega⟩, hS, hT, hR, hF1, hT1⟩
   rintro ⟨y, s2, t2, gLF2, gLT2⟩ HL2 ⟨lst2, at_LF2, pl_LF2, at_LT2, pl_LT2, at_Lg5, ap2_0, ap2_1, ap2_2, hI⟩ KL2 hKL2
   refine .forget (fr' := [(8, some (.int .i64 (y : Int))), (2, some _), (3, some _), (4, some _), (5, some _), (6, some _), (7, some _)]) ⟨rfl, rfl, rfl, rfl, rfl, rfl, rfl, trivial⟩ ?_
   have ge_LF2 : H.next ≤ gLF2 := pl_LF2.ge (by omega) (by omega)
   have ge_LT2 : H.next ≤ gLT2 := pl_LT2.ge (by omega) (by omega)
   have nx_HL2 := lst2.nx
   replace hle := hle.st lst2 (fun k hk => ⟨by omega, by omega, by omega, trivial⟩)
   replace lst1 := lst1.st lst2 (fun k hk ho => by simp only [out, and_true] at ho ⊢ <;> exact ⟨by first | exact ho | exact ho.1 | exact ho.2 | exact ho.2.1 | exact ho.2.2 | exact ho.2.2.1 | exact ho.2.2.2 | exact pl_LF.ne (by first | exact ho | exact ho.1 | exact ho.2 | exact ho.2.1 | exact ho.2.2 | exact ho.2.2.1 | exact ho.2.2.2 | omega) (by omega) | omega, by first | exact ho | exact ho.1 | exact ho.2 | exact ho.2.1 | exact ho.2.2 | exact ho.2.2.1 | exact ho.2.2.2 | exact pl_LT.ne (by first | exact ho | exact ho.1 | exact ho.2 | exact ho.2.1 | exact ho.2.2 | exact ho.2.2.1 | exact ho.2.2.2 | omega) (by omega) | omega, by first | exact ho | exact ho.1 | exact ho.2 | exact ho.2.1 | exact ho.2.2 | exact ho.2.2.1 | exact ho.2.2.2 | omega⟩)
   have ne_g2_gLF : NE g2 gLF := ⟨pl_LF.ne ne_g2_gF.ne (by omega)⟩
   have ne_g2_gLT : NE g2 gLT := ⟨pl_LT.ne ne_g2_gT.ne (by omega)⟩
   replace at2 := lst2.same _ _ ⟨ne_g2_gLF.ne, ne_g2_gLT.ne, ne_g2_g5.ne, trivial⟩ at2
   have ne_g3_gLF : NE g3 gLF := ⟨pl_LF.ne ne_g3_gF.ne (by omega)⟩
   have ne_g3_gLT : NE g3 gLT := ⟨pl_LT.ne ne_g3_gT.ne (by omega)⟩
   replace at3 := lst2.same _ _ ⟨ne_g3_gLF.ne, ne_g3_gLT.ne, ne_g3_g5.ne, trivial⟩ at3
   have lt_at_LT2 := GHeap.ltg at_LT2
   have lt_at_Lg5 := GHeap.ltg at_Lg5
   replace hin := base_hin.mono hle
   replace hin1 := base_hin1.mono hle
   clear hb2 c02
   have hb2 : Cat.At _ g2 0 c p := ⟨Mem.of_get at2, hin⟩
   clear hb3
   have hb3 : Cat.At _ g3 0 d q := ⟨Mem.of_get at3, hin1⟩
   obtain ⟨c03, -, -, -, -, -, -, -, -⟩ := hb3.get
   have rk := St.refl [gLF2, gLT2, g5] HL2
   obtain ⟨⟨hy, hsm, hs8, hts⟩, hS, hT, hR, hF1, hT1⟩ := hI
   have hat5 := at_Lg5
   refine .seq (fun K10 hK10 => .seq (fun K11 hK11 => .region (.mv rfl (.q rfl (.fieldAddr fo_29_0_B rfl) ?_))))
   refine .q rfl (.load on_2_A rfl (by first | assumption | exact Mem.of_get at3 0 _ rfl)) ?_
   refine .q rfl (.cmp rfl rfl rfl) (.nil (hK11 _ _ ?_))
   refine .cond rfl (fun h29 => ?_) (fun h29 => ?_)
   ·
    simp only [sps] at h29
    refine .skip ?_
    refine hK10 _ _ (.seq (fun K12 hK12 => ?_))
    refine .block ?_
    refine .seq (fun K13 hK13 => .region (.q rfl (.fieldAddr fo_29_1_B rfl) ?_))
    refine .q rfl (.load on_22_B rfl (by first | assumption | exact Mem.of_get at_Lg5 1 _ rfl)) ?_
    refine .mv rfl ?_
    refine .R rfl (.litA rfl sl_22_A ze_2_L rfl rfl rfl rfl) ?_
    rintro _ H35 ⟨g35, rfl, le35, ge35, at35⟩
    replace hle := hle.trans le35
    replace lst2 := lst2.le le35
    replace rk := rk.le le35
    replace at2 := le35.2 _ _ at2
    replace at3 := le35.2 _ _ at3
    replace at_LF2 := le35.2 _ _ at_LF2
    replace at_LT2 := le35.2 _ _ at_LT2
    replace at_Lg5 := le35.2 _ _ at_Lg5
    have lt_at35 := GHeap.ltg at35
    replace hin := base_hin.mono hle
    replace hin1 := base_hin1.mono hle
    clear hb2
    have hb2 : Cat.At _ g2 0 c p := ⟨Mem.of_get at2, hin⟩
    clear hb3 c03
    have hb3 : Cat.At _ g3 0 d q := ⟨Mem.of_get at3, hin1⟩
    refine .R rfl (.appendI rfl sl_22_A ze_2_L rfl by_2_L sl_22_A rfl rfl (by assumption) (by assumption) (by first | omega | (simp <;> omega)) (by omega) (by omega)) ?_
    rintro _ H36 ⟨g36, rfl, st36, ge36, at36⟩
    replace hle := hle.st st36 (fun k hk => ⟨by omega, trivial⟩)
    replace lst2 := lst2.sQ st36
    replace rk := rk.sQ st36
    replace at2 := st36.same _ _ ⟨(pl_LF2.ne ne_g2_gLF.ne (by omega)), trivial⟩ at2
    replace at3 := st36.same _ _ ⟨(pl_LF2.ne ne_g3_gLF.ne (by omega)), trivial⟩ at3
    replace at_LT2 := st36.same _ _ ⟨(Ne.symm ap2_0), trivial⟩ at_LT2
    replace at_Lg5 := st36.same _ _ ⟨(Ne.symm ap2_1), trivial⟩ at_Lg5
    have lt_at36 := GHeap.ltg at36
    replace hin := base_hin.mono hle
    replace hin1 := base_hin1.mono hle
    clear hb2
    have hb2 : Cat.At _ g2 0 c p := ⟨Mem.of_get at2, hin⟩
    clear hb3
    have hb3 : Cat.At _ g3 0 d q := ⟨Mem.of_get at3, hin1⟩
    refine .q rfl (.fieldAddr fo_29_1_B rfl) ?_
    refine .r0 rfl rfl (.storeR rfl sz_22_Ch rfl rfl rfl (by assumption) (by first | exact Nat.le_of_ble_eq_true rfl | (simp; done) | (simp <;> omega))) ?_
    rintro _ H9006 ⟨rfl, st9006, at9006⟩
    have nx_H9006 := st9006.nx
    replace hle := hle.st st9006 (fun k hk => ⟨by omega, trivial⟩)
    replace lst2 := lst2.sA st9006
    replace rk := rk.sA st9006
    replace at2 := st9006.s at2 ne_g2_g5.ne
    replace at3 := st9006.s at3 ne_g3_g5.ne
    replace at_LT2 := st9006.same _ _ ⟨ap2_2, trivial⟩ at_LT2
    have ne_g36_g5 : NE g36 g5 := .a
    replace at36 := st9006.s at36 ne_g36_g5.ne
    have lt_at9006 := GHeap.ltg at9006
    replace hin := base_hin.mono hle
    replace hin1 := base_hin1.mono hle
    clear hb2
    have hb2 : Cat.At _ g2 0 c p := ⟨Mem.of_get at2, hin⟩
    obtain ⟨c02, -, -, -, -, -, -, -, -⟩ := hb2.get
    clear hb3
    have hb3 : Cat.At _ g3 0 d q := ⟨Mem.of_get at3, hin1⟩
    try simp only [Nat.zero_add, List.set_cons_succ, List.set_cons_zero] at at9006
    refine .nil (hK13 _ _ (.region (.q rfl (.fieldAddr fo_29_2_B rfl) ?_)))
    refine .q rfl (.load on_22_B rfl (by first | assumption | exact Mem.of_get at9006 2 _ rfl)) ?_
    refine .q rfl (.fieldAddr fo_29_0_B rfl) ?_
    refine .q rfl (.load on_2_A rfl (by first | assumption | exact Mem.of_get at2 0 _ rfl)) ?_
    refine .mv rfl ?_
    refine .q rfl (.add rfl rfl rfl (by omega) (by omega)) ?_
    refine .R rfl (.litA rfl sl_22_A ze_2_L rfl rfl rfl rfl) ?_
    rintro _ H44 ⟨g44, rfl, le44, ge44, at44⟩
    replace hle := hle.trans le44
    replace lst2 := lst2.le le44
    replace rk := rk.le le44
    replace at2 := le44.2 _ _ at2
    replace at3 := le44.2 _ _ at3
    replace at_LT2 := le44.2 _ _ at_LT2
    replace at36 := le44.2 _ _ at36
    replace at9006 := le44.2 _ _ at9006
    have lt_at44 := GHeap.ltg at44
    replace hin := base_hin.mono hle
    replace hin1 := base_hin1.mono hle
    clear hb2 c02
    have hb2 : Cat.At _ g2 0 c p := ⟨Mem.of_get at2, hin⟩
    clear hb3
    have hb3 : Cat.At _ g3 0 d q := ⟨Mem.of_get at3, hin1⟩
    refine .R rfl (.appendI rfl sl_22_A ze_2_L rfl by_2_L sl_22_A rfl rfl (by assumption) (by assumption) (by first | omega | (simp <;> omega)) (by omega) (by omega)) ?_
    rintro _ H45 ⟨g45, rfl, st45, ge45, at45⟩
    replace hle := hle.st st45 (fun k hk => ⟨by omega, trivial⟩)
    replace lst2 := lst2.sQ st45
    replace rk := rk.sQ st45
    replace at2 := st45.same _ _ ⟨(pl_LT2.ne ne_g2_gLT.ne (by omega)), trivial⟩ at2
    replace at3 := st45.same _ _ ⟨(pl_LT2.ne ne_g3_gLT.ne (by omega)), trivial⟩ at3
    replace at36 := st45.s at36
    replace at9006 := st45.same _ _ ⟨(Ne.symm ap2_2), trivial⟩ at9006
    replace hin := base_hin.mono hle
    replace hin1 := base_hin1.mono hle
    clear hb2
    have hb2 : Cat.At _ g2 0 c p := ⟨Mem.of_get at2, hin⟩
    clear hb3
    have hb3 : Cat.At _ g3 0 d q := ⟨Mem.of_get at3, hin1⟩
    refine .q rfl (.fieldAddr fo_29_2_B rfl) ?_
    refine .r0 rfl rfl (.storeR rfl sz_22_Ch rfl rfl rfl (by assumption) (by first | exact Nat.le_of_ble_eq_true rfl | (simp; done) | (simp <;> omega))) ?_
    rintro _ H10009 ⟨rfl, st10009, at10009⟩
    replace hle := hle.st st10009 (fun k hk => ⟨by omega, trivial⟩)
    replace lst2 := lst2.sA st10009
    replace rk := rk.sA st10009
    replace at2 := st10009.s at2 ne_g2_g5.ne
    replace at3 := st10009.s at3 ne_g3_g5.ne
    replace at36 := st10009.s at36 ne_g36_g5.ne
    replace at45 := st10009.s at45
    replace hin := base_hin.mono hle
    replace hin1 := base_hin1.mono hle
    clear hb2
    have hb2 : Cat.At _ g2 0 c p := ⟨Mem.of_get at2, hin⟩
    clear hb3
    have hb3 : Cat.At _ g3 0 d q := ⟨Mem.of_get at3, hin1⟩
    try simp only [Nat.zero_add, List.set_cons_succ, List.set_cons_zero] at at10009
    refine .nil (hK12 _ _ (.region (.mv rfl ?_)))
    refine .q rfl (.add rfl rfl rfl (by omega) (by omega)) ?_
    refine .mv rfl (.nil ?_)
    refine hKL2 ((y + 1, s2 ++ [(x : Int)], t2 ++ [c.obj + (y : Int)], g36, g45)) _ _ ?_ ?_ ⟨rfl, rfl, rfl, rfl, rfl, rfl, rfl, trivial⟩
    ·
     refine ⟨lst2, by assumption, by exact ⟨.inr (by omega)⟩, by assumption, by exact ⟨.inr (by omega)⟩, by (rw [List.length_append, List.length_append]; assumption), by omega, by omega, by omega, ?_⟩
     have hR' := hR.st rk (.cons hF1 (.cons hT1 (.cons (hR.neT hat5 rfl) (.nil _ _))))
     exact ⟨⟨by omega, by simp; omega, by simp; omega, by simp; omega⟩, hS.snoc (by omega) (by omega), hT.snoc (by omega) (by omega), hR', hR.ne (by omega), hR.ne (by omega)⟩
    (dsimp only; omega)
   try simp only [sps] at h29
   refine .exit ?_
   refine hK8 _ _ (.region (.mv rfl ?_))
   refine .q rfl (.add rfl rfl rfl (by omega) (by omega)) ?_
   refine .mv rfl (.nil ?_)
   refine hKL1 ((x + 1, s2, t2, gLF2, gLT2)) _ _ ?_ ?_ ⟨rfl, rfl, rfl, rfl, rfl, rfl, trivial⟩
   ·
    refine ⟨lst1, by assumption, by exact pl_LF2.trans pl_LF (by omega), by assumption, by exact pl_LT2.trans pl_LT (by omega), by assumption, by assumption, by assumption, by assumption, ?_⟩
    exact ⟨⟨by omega, by omega, by omega, by omega⟩, hS, hT, hR, hF1, hT1⟩
   (dsimp only; omega)
  try simp only [sps] at h23
  refine .exit ?_
  refine hK4 _ _ (.seq (fun K14 hK14 => .region ?_))
  have ltI := GHeap.ltg aI
  refine .R rfl (.litA rfl sl_23_B ze_22_Hj rfl rfl rfl rfl) ?_
  rintro _ H47 ⟨g47, rfl, le47, ge47, at47⟩
  have nx_H47 := le47.1
  replace hle := hle.trans le47
  replace at2 := le47.2 _ _ at2
  replace at3 := le47.2 _ _ at3
  replace at4 := le47.2 _ _ at4
  replace aI := le47.2 _ _ aI
  replace aC := le47.2 _ _ aC
  replace at_LF := le47.2 _ _ at_LF
  replace at_LT := le47.2 _ _ at_LT
  replace at_Lg5 := le47.2 _ _ at_Lg5
  have lt_at47 := GHeap.ltg at47
  replace hin := base_hin.mono hle
  replace hin1 := base_hin1.mono hle
  have hb2 : Cat.At _ g2 0 c p := ⟨Mem.of_get at2, hin⟩
  have hb3 : Cat.At _ g3 0 d q := ⟨Mem.of_get at3, hin1⟩
  refine .mv rfl (.nil (hK14 _ _ (.seq (fun K15 hK15 => .seq (fun K16 hK16 => .region (.mv rfl (.nil (hK16 _ _ ?_))))))))
  refine .block ?_
  refine .loopR (σ := Nat × (Nat → Option Addr) × List (List Int) × Nat × Nat) [(2, some _), (3, some _), (4, some _), (5, some _), (6, some _)] (fun (f, rq, cs, gL9, nL9) => [(10, some (.int .i64 (f : Int))), (9, some (.slice (some ⟨gL9, 0, none⟩) nL9 nL9))]) (fun (f, rq, cs, gL9, nL9) H' => St [g47] H47 H' ∧ H'.get gL9 = some (.row ((slsL rq cs)) 22 true) ∧ PL gL9 g47 H47.next ∧ nL9 = (slsL rq cs).length ∧ (f ≤ ss.length ∧ cs.length = f) ∧ Tb (-60) 120 ss.length cs ∧ OwnL H.next H' 2 rr E.comp ∧ OwnL H47.next H' 2 rq cs) (fun (f, rq, cs, gL9, nL9) => ss.length - f) ((0, fun _ => none, [], _, _)) ⟨rfl, rfl, rfl, rfl, rfl, trivial⟩ ⟨rfl, rfl, trivial⟩ ?_ ?_
  ·
   refine ⟨.refl _ _, by assumption, ⟨.inl rfl⟩, by rfl, ?_⟩
   exact ⟨⟨by omega, rfl⟩, .nil _ _ _, hR.keep (.of_le (by assumption)), .nil _ _ _ _⟩
  rintro ⟨f, rq, cs, gL9, nL9⟩ HL3 ⟨lst3, at_L9, pl_L9, ln_L9, hI⟩ KL3 hKL3
  refine .forget (fr' := [(10, some (.int .i64 (f : Int))), (9, some (.slice (some ⟨gL9, 0, none⟩) nL9 nL9)), (2, some _), (3, some _), (4, some _), (5, some _), (6, some _)]) ⟨rfl, rfl, rfl, rfl, rfl, rfl, rfl, trivial⟩ ?_
  have ge_L9 : H.next ≤ gL9 := pl_L9.ge (by omega) (by omega)
  have nx_HL3 := lst3.nx
  replace hle := hle.st lst3 (fun k hk => ⟨by omega, trivial⟩)
  have ne_g2_g47 : NE g2 g47 := .a
  replace at2 := lst3.s at2 ne_g2_g47.ne
  have ne_g3_g47 : NE g3 g47 := .a
  replace at3 := lst3.s at3 ne_g3_g47.ne
  have ne_g4_g47 : NE g4 g47 := .a
  replace at4 := lst3.s at4 ne_g4_g47.ne
  replace aI := lst3.s aI
  replace aC := lst3.s aC
  replace at_LF := lst3.s at_LF
  replace at_LT := lst3.s at_LT
  have ne_g5_g47 : NE g5 g47 := .a
  replace at_Lg5 := lst3.s at_Lg5 ne_g5_g47.ne
  have lt_at_L9 := GHeap.ltg at_L9
  replace hin := base_hin.mono hle
  replace hin1 := base_hin1.mono hle
  clear hb2
  have hb2 : Cat.At _ g2 0 c p := ⟨Mem.of_get at2, hin⟩
  clear hb3
  have hb3 : Cat.At _ g3 0 d q := ⟨Mem.of_get at3, hin1⟩
  have rk := St.refl [gL9] HL3
  obtain ⟨⟨hf, hcl⟩, hC, hR, hQ⟩ := hI
  have hat9 := at_L9
  have hfl : (slsL rq cs).length = cs.length := length_slsL _ _
  refine .seq (fun K17 hK17 => .seq (fun K18 hK18 => .region (.mv rfl (.q rfl (.fieldAddr fo_29_1_B rfl) ?_))))
  refine .q rfl (.load on_22_B rfl (by first | assumption | exact Mem.of_get at_Lg5 1 _ rfl)) ?_
  refine .q rfl (.len sl_22_A rfl) (.q rfl (.cmp rfl rfl rfl) (.nil (hK18 _ _ ?_)))
  refine .cond rfl (fun h52 => ?_) (fun h52 => ?_)
  ·
   simp only [sps] at h52
   have q1 := hS f (by omega)
   have m1 := mul_bdg (a := ss.getD f 0) (b := d.obj) (A := 12) (B := 8) (by omega) (by omega)
   refine .skip ?_
   refine hK17 _ _ (.seq (fun K19 hK19 => ?_))
   refine .block ?_
   refine .seq (fun K20 hK20 => .region ?_)
   refine .R rfl (.litA rfl sl_22_A ze_2_L rfl rfl rfl rfl) ?_
   rintro _ H55 ⟨g55, rfl, le55, ge55, at55⟩
   have nx_H55 := le55.1
   replace hle := hle.trans le55
   replace lst3 := lst3.le le55
   replace rk := rk.le le55
   replace at2 := le55.2 _ _ at2
   replace at3 := le55.2 _ _ at3
   replace aC := le55.2 _ _ aC
   replace at_LF := le55.2 _ _ at_LF
   replace at_LT := le55.2 _ _ at_LT
   replace at_Lg5 := le55.2 _ _ at_Lg5
   replace at_L9 := le55.2 _ _ at_L9
   have lt_at55 := GHeap.ltg at55
   replace hin := base_hin.mono hle
   replace hin1 := base_hin1.mono hle
   clear hb2
   have hb2 : Cat.At _ g2 0 c p := ⟨Mem.of_get at2, hin⟩
   clear hb3
   have hb3 : Cat.At _ g3 0 d q := ⟨Mem.of_get at3, hin1⟩
   replace at55 : GHeap.get H55 g55 = some (.row (ints []) 2 true) := at55
   refine .mv rfl (.nil (hK20 _ _ (.seq (fun K21 hK21 => .seq (fun K22 hK22 => .region (.mv rfl (.nil (hK22 _ _ ?_))))))))
   refine .block ?_
   refine .loopR (σ := Nat × List Int × Nat × Nat) [(2, some _), (3, some _), (4, some _), (5, some _), (6, some _), (9, some _), (10, some _)] (fun (g, row, gL11, nL11) => [(12, some (.int .i64 (g : Int))), (11, some (.slice (some ⟨gL11, 0, none⟩) nL11 nL11))]) (fun (g, row, gL11, nL11) H' => St [g55] H55 H' ∧ H'.get gL11 = some (.row (ints row) 2 true) ∧ PL gL11 g55 H55.next ∧ nL11 = row.length ∧ (g ≤ ss.length ∧ row.length = g) ∧ Bd (-60) 120 row) (fun (g, row, gL11, nL11) => ss.length - g) ((0, [], _, _)) ⟨rfl, rfl, rfl, rfl, rfl, rfl, rfl, trivial⟩ ⟨rfl, rfl, trivial⟩ ?_ ?_
   ·
    refine ⟨.refl _ _, by assumption, ⟨.inl rfl⟩, by rfl, ?_⟩
    exact ⟨⟨by omega, rfl⟩, .nil _ _⟩
   rintro ⟨g, row, gL11, nL11⟩ HL4 ⟨lst4, at_L11, pl_L11, ln_L11, hI⟩ KL4 hKL4
   refine .forget (fr' := [(12, some (.int .i64 (g : Int))), (11, some (.slice (some ⟨gL11, 0, none⟩) nL11 nL11)), (2, some _), (3, some _), (4, some _), (5, some _), (6, some _), (9, some _), (10, some _)]) ⟨rfl, rfl, rfl, rfl, rfl, rfl, rfl, rfl, rfl, trivial⟩ ?_
   have ge_L11 : H.next ≤ gL11 := pl_L11.ge (by omega) (by omega)
   have nx_HL4 := lst4.nx
   replace hle := hle.st lst4 (fun k hk => ⟨by omega, trivial⟩)
   replace lst3 := lst3.sA lst4
   replace rk := rk.sA lst4
   have ne_g2_g55 : NE g2 g55 := .a
   replace at2 := lst4.s at2 ne_g2_g55.ne
   have ne_g3_g55 : NE g3 g55 := .a
   replace at3 := lst4.s at3 ne_g3_g55.ne
   replace aC := lst4.s aC
   replace at_LF := lst4.s at_LF
   replace at_LT := lst4.s at_LT
   replace at_Lg5 := lst4.s at_Lg5
   have ne_gL9_g55 : NE gL9 g55 := .a
   replace at_L9 := lst4.s at_L9 ne_gL9_g55.ne
   replace hin := base_hin.mono hle
   replace hin1 := base_hin1.mono hle
   clear hb2
   have hb2 : Cat.At _ g2 0 c p := ⟨Mem.of_get at2, hin⟩
   obtain ⟨c02, -, -, -, -, -, -, -, -⟩ := hb2.get
   clear hb3
   have hb3 : Cat.At _ g3 0 d q := ⟨Mem.of_get at3, hin1⟩
   obtain ⟨c03, -, -, -, -, -, -, -, -⟩ := hb3.get
   obtain ⟨⟨hg, hrl⟩, hW⟩ := hI
   refine .seq (fun K23 hK23 => .seq (fun K24 hK24 => .region (.mv rfl (.q rfl (.fieldAddr fo_29_1_B rfl) ?_))))
   refine .q rfl (.load on_22_B rfl (by first | assumption | exact Mem.of_get at_Lg5 1 _ rfl)) ?_
   refine .q rfl (.len sl_22_A rfl) (.q rfl (.cmp rfl rfl rfl) (.nil (hK24 _ _ ?_)))
   refine .cond rfl (fun h60 => ?_) (fun h60 => ?_)
   ·
    simp only [sps] at h60
    have q4 := hT g (by omega)
    refine .skip ?_
    refine hK23 _ _ (.seq (fun K25 hK25 => ?_))
    refine .block ?_
    refine .seq (fun K26 hK26 => .region (.mv rfl (.nil (hK26 _ _ (.seq (fun K27 hK27 => ?_))))))
    refine .block ?_
    refine .seq (fun K28 hK28 => ?_)
    refine .regionD mo_B (.q 0 (.q 1 (.q 2 (.q 3 (.q 4 (.q 5 (.q 6 (.q 7 (.q 8 (.q 9 (.q 10 (.q 11 (.done))))))))))))) (by kernel_rfl) ?_
    refine .q rfl (.fieldAddr fo_29_2_B rfl) ?_
    refine .q rfl (.load on_22_B rfl (by first | assumption | exact Mem.of_get at_Lg5 2 _ rfl)) ?_
    refine .mv rfl rfl ?_
    refine .q rfl (.idxN sl_22_A (by first | assumption | exact SlA.of_row at_LT (by first | rfl | (simp; done) | (simp <;> omega))) rfl rfl (by omega)) ?_
    refine .q rfl (.loadI on_2_A (by first | assumption | exact Ints.of_get at_LT) rfl (by omega)) ?_
    refine .q rfl (.fieldAddr fo_29_1_B rfl) ?_
    refine .q rfl (.load on_22_B rfl (by first | assumption | exact Mem.of_get at_Lg5 1 _ rfl)) ?_
    refine .mv rfl rfl ?_
    refine .q rfl (.idxN sl_22_A (by first | assumption | exact SlA.of_row at_LF (by first | rfl | (simp; done) | (simp <;> omega))) rfl rfl (by omega)) ?_
    refine .q rfl (.loadI on_2_A (by first | assumption | exact Ints.of_get at_LF) rfl (by omega)) ?_
    refine .q rfl (.cmp rfl rfl rfl) (.mv rfl rfl ?_)
    refine .done ?_
    refine hK28 _ _ ?_
    refine .cond rfl (fun h82 => ?_) (fun h82 => ?_)
    ·
     obtain ⟨h3, hh3, n3⟩ : ∃ h3 : Int, h3 = -1 ∧ -60 ≤ h3 ∧ h3 ≤ 120 := ⟨_, rfl, by omega, by omega⟩
     refine .skip ?_
     refine hK27 _ _ (.region (.mv rfl (.mv rfl ?_)))
     refine .R rfl (.litA rfl sl_22_A ze_2_L rfl rfl rfl rfl) ?_
     rintro _ H113 ⟨g113, rfl, le113, ge113, at113⟩
     replace hle := hle.trans le113
     replace lst4 := lst4.le le113
     replace at2 := le113.2 _ _ at2
     replace at3 := le113.2 _ _ at3
     replace at_L11 := le113.2 _ _ at_L11
     have lt_at113 := GHeap.ltg at113
     replace hin := base_hin.mono hle
     replace hin1 := base_hin1.mono hle
     clear hb2 c02
     have hb2 : Cat.At _ g2 0 c p := ⟨Mem.of_get at2, hin⟩
     clear hb3 c03
     have hb3 : Cat.At _ g3 0 d q := ⟨Mem.of_get at3, hin1⟩
     refine .R rfl (.appendI rfl sl_22_A ze_2_L rfl by_2_L sl_22_A rfl rfl (by assumption) (by assumption) (by first | omega | (simp <;> omega)) (by omega) (by omega)) ?_
     rintro _ H114 ⟨g114, rfl, st114, ge114, at114⟩
     replace hle := hle.st st114 (fun k hk => ⟨by omega, trivial⟩)
     replace lst4 := lst4.sP st114
     have ne_g2_gL11 : NE g2 gL11 := ⟨pl_L11.ne ne_g2_g55.ne (by omega)⟩
     replace at2 := st114.s at2 ne_g2_gL11.ne
     have ne_g3_gL11 : NE g3 gL11 := ⟨pl_L11.ne ne_g3_g55.ne (by omega)⟩
     replace at3 := st114.s at3 ne_g3_gL11.ne
     replace hin := base_hin.mono hle
     replace hin1 := base_hin1.mono hle
     clear hb2
     have hb2 : Cat.At _ g2 0 c p := ⟨Mem.of_get at2, hin⟩
     clear hb3
     have hb3 : Cat.At _ g3 0 d q := ⟨Mem.of_get at3, hin1⟩
     refine .mv rfl (.nil (hK25 _ _ (.region (.mv rfl ?_))))
     refine .q rfl (.add rfl rfl rfl (by omega) (by omega)) ?_
     refine .mv rfl (.nil ?_)
     refine hKL4 ((g + 1, row ++ [h3], _, _)) _ _ ?_ ?_ ⟨rfl, rfl, rfl, rfl, rfl, rfl, rfl, rfl, rfl, trivial⟩
     ·
      refine ⟨lst4, by (rw [hh3]; assumption), by exact ⟨.inr (by omega)⟩, by (simp only [List.length_append, List.length_cons, List.length_nil] <;> omega), ?_⟩
      exact ⟨⟨by omega, by simp; omega⟩, hW.snoc (by omega) (by omega)⟩
     (dsimp only; omega)
    try simp only [sps] at h82
    refine .seq (fun K29 hK29 => .region (.mv rfl (.mv rfl (.q rfl (.cmp rfl rfl rfl) (.mv rfl ?_)))))
    refine .split (fun h98 => ?_) (fun h98 => ?_)
    ·
     simp only [sps] at h98
     refine .qg rfl (.move rfl) (.qg rfl (.move rfl) (.qg rfl (.cmp rfl rfl rfl) (.q rfl (.pickT rfl rfl) (.mv rfl (.nil (hK29 _ _ ?_))))))
     refine .cond rfl (fun h94 => ?_) (fun h94 => ?_)
     ·
      simp only [sps] at h94
      have n1 := e10 f (by omega) g (by omega)
      have n2 := e9 f (by omega)
      obtain ⟨h3, hh3, n3⟩ : ∃ h3 : Int, h3 = (E.comp.getD f []).getD g 0 ∧ -60 ≤ h3 ∧ h3 ≤ 120 := ⟨_, rfl, by omega, by omega⟩
      refine .region ?_
      have iE := (hR.st rk (.cons (hR.neT hat9 rfl) (.nil _ _))).intss aC (by omega)
      have u1 := iE.2 f (by omega)
      refine .q rfl (.fieldAddr fo_29_4_B rfl) ?_
      refine .q rfl (.load on_23_B rfl (by first | assumption | exact Mem.of_get at_Lg5 4 _ rfl)) ?_
      refine .mv rfl ?_
      refine .q rfl (.idxN sl_23_B (by first | exact (Intss.sl (by assumption)) | exact SlA.of_row aC (by first | rfl | (simp; done) | (simp <;> omega))) rfl rfl (by omega)) ?_
      refine .q rfl (.loadR on_22_B (by assumption) rfl (by omega)) ?_
      refine .mv rfl ?_
      refine .q rfl (.idxN sl_22_A (by assumption) rfl rfl (by omega)) ?_
      refine .q rfl (.loadI on_2_A (by assumption) rfl (by omega)) ?_
      refine .mv rfl (.nil (hK27 _ _ (.region (.mv rfl (.mv rfl ?_)))))
      refine .R rfl (.litA rfl sl_22_A ze_2_L rfl rfl rfl rfl) ?_
      rintro _ H113x2 ⟨g113x2, rfl, le113x2, ge113x2, at113x2⟩
      replace hle := hle.trans le113x2
      replace lst4 := lst4.le le113x2
      replace at2 := le113x2.2 _ _ at2
      replace at3 := le113x2.2 _ _ at3
      replace at_L11 := le113x2.2 _ _ at_L11
      have lt_at113x2 := GHeap.ltg at113x2
      replace hin := base_hin.mono hle
      replace hin1 := base_hin1.mono hle
      have hb2 : Cat.At _ g2 0 c p := ⟨Mem.of_get at2, hin⟩
      have hb3 : Cat.At _ g3 0 d q := ⟨Mem.of_get at3, hin1⟩
      refine .R rfl (.appendI rfl sl_22_A ze_2_L rfl by_2_L sl_22_A rfl rfl (by assumption) (by assumption) (by first | omega | (simp <;> omega)) (by omega) (by omega)) ?_
      rintro _ H114x2 ⟨g114x2, rfl, st114x2, ge114x2, at114x2⟩
      replace hle := hle.st st114x2 (fun k hk => ⟨by omega, trivial⟩)
      replace lst4 := lst4.sP st114x2
      have ne_g2_gL11 : NE g2 gL11 := ⟨pl_L11.ne ne_g2_g55.ne (by omega)⟩
      replace at2 := st114x2.s at2 ne_g2_gL11.ne
      have ne_g3_gL11 : NE g3 gL11 := ⟨pl_L11.ne ne_g3_g55.ne (by omega)⟩
      replace at3 := st114x2.s at3 ne_g3_gL11.ne
      replace hin := base_hin.mono hle
      replace hin1 := base_hin1.mono hle
      clear hb2
      have hb2 : Cat.At _ g2 0 c p := ⟨Mem.of_get at2, hin⟩
      clear hb3
      have hb3 : Cat.At _ g3 0 d q := ⟨Mem.of_get at3, hin1⟩
      refine .mv rfl (.nil (hK25 _ _ (.region (.mv rfl ?_))))
      refine .q rfl (.add rfl rfl rfl (by omega) (by omega)) ?_
      refine .mv rfl (.nil ?_)
      refine hKL4 ((g + 1, row ++ [h3], _, _)) _ _ ?_ ?_ ⟨rfl, rfl, rfl, rfl, rfl, rfl, rfl, rfl, rfl, trivial⟩
      ·
       refine ⟨lst4, by (rw [hh3]; assumption), by exact ⟨.inr (by omega)⟩, by (simp only [List.length_append, List.length_cons, List.length_nil] <;> omega), ?_⟩
       exact ⟨⟨by omega, by simp; omega⟩, hW.snoc (by omega) (by omega)⟩
      (dsimp only; omega)
     obtain ⟨h3, hh3, n3⟩ : ∃ h3 : Int, h3 = (E.src.length : Int) + ss.getD f 0 * d.obj + ts.getD g 0 - c.obj ∧ -60 ≤ h3 ∧ h3 ≤ 120 := ⟨_, rfl, by omega, by omega⟩
     refine .regionD mo_B (.q 0 (.q 1 (.q 2 (.q 3 (.q 4 (.q 5 (.q 6 (.q 7 (.q 8 (.q 9 (.q 10 (.q 11 (.q 12 (.q 13 (.q 14 (.q 15 (.q 16 (.q 17 (.q 18 (.q 19 (.done))))))))))))))))))))) (by kernel_rfl) ?_
     refine .mv rfl rfl (.q rfl (.fieldAddr fo_29_1_B rfl) ?_)
     refine .q rfl (.load on_22_B rfl (by first | assumption | exact Mem.of_get at_Lg5 1 _ rfl)) ?_
     refine .mv rfl rfl ?_
     refine .q rfl (.idxN sl_22_A (by first | assumption | exact SlA.of_row at_LF (by first | rfl | (simp; done) | (simp <;> omega))) rfl rfl (by omega)) ?_
     refine .q rfl (.loadI on_2_A (by first | assumption | exact Ints.of_get at_LF) rfl (by omega)) ?_
     refine .q rfl (.fieldAddr fo_29_0_B rfl) ?_
     refine .q rfl (.load on_2_A rfl (by first | assumption | exact Mem.of_get at3 0 _ rfl)) ?_
     refine .q rfl (.mul rfl rfl rfl (by omega) (by omega)) ?_
     refine .q rfl (.add rfl rfl rfl (by omega) (by omega)) ?_
     refine .q rfl (.fieldAddr fo_29_2_B rfl) ?_
     refine .q rfl (.load on_22_B rfl (by first | assumption | exact Mem.of_get at_Lg5 2 _ rfl)) ?_
     refine .mv rfl rfl ?_
     refine .q rfl (.idxN sl_22_A (by first | assumption | exact SlA.of_row at_LT (by first | rfl | (simp; done) | (simp <;> omega))) rfl rfl (by omega)) ?_
     refine .q rfl (.loadI on_2_A (by first | assumption | exact Ints.of_get at_LT) rfl (by omega)) ?_
     refine .q rfl (.add rfl rfl rfl (by omega) (by omega)) ?_
     refine .q rfl (.fieldAddr fo_29_0_B rfl) ?_
     refine .q rfl (.load on_2_A rfl (by first | assumption | exact Mem.of_get at2 0 _ rfl)) ?_
     refine .q rfl (.sub rfl rfl rfl (by omega) (by omega)) ?_
     refine .mv rfl rfl ?_
     refine .done ?_
     refine hK27 _ _ (.region (.mv rfl (.mv rfl ?_)))
     refine .R rfl (.litA rfl sl_22_A ze_2_L rfl rfl rfl rfl) ?_
     rintro _ H113x3 ⟨g113x3, rfl, le113x3, ge113x3, at113x3⟩
     replace hle := hle.trans le113x3
     replace lst4 := lst4.le le113x3
     replace at2 := le113x3.2 _ _ at2
     replace at3 := le113x3.2 _ _ at3
     replace at_L11 := le113x3.2 _ _ at_L11
     have lt_at113x3 := GHeap.ltg at113x3
     replace hin := base_hin.mono hle
     replace hin1 := base_hin1.mono hle
     have hb2 : Cat.At _ g2 0 c p := ⟨Mem.of_get at2, hin⟩
     have hb3 : Cat.At _ g3 0 d q := ⟨Mem.of_get at3, hin1⟩
     refine .R rfl (.appendI rfl sl_22_A ze_2_L rfl by_2_L sl_22_A rfl rfl (by assumption) (by assumption) (by first | omega | (simp <;> omega)) (by omega) (by omega)) ?_
     rintro _ H114x3 ⟨g114x3, rfl, st114x3, ge114x3, at114x3⟩
     replace hle := hle.st st114x3 (fun k hk => ⟨by omega, trivial⟩)
     replace lst4 := lst4.sP st114x3
     have ne_g2_gL11 : NE g2 gL11 := ⟨pl_L11.ne ne_g2_g55.ne (by omega)⟩
     replace at2 := st114x3.s at2 ne_g2_gL11.ne
     have ne_g3_gL11 : NE g3 gL11 := ⟨pl_L11.ne ne_g3_g55.ne (by omega)⟩
     replace at3 := st114x3.s at3 ne_g3_gL11.ne
     replace hin := base_hin.mono hle
     replace hin1 := base_hin1.mono hle
     clear hb2
     have hb2 : Cat.At _ g2 0 c p := ⟨Mem.of_get at2, hin⟩
     clear hb3
     have hb3 : Cat.At _ g3 0 d q := ⟨Mem.of_get at3, hin1⟩
     refine .mv rfl (.nil (hK25 _ _ (.region (.mv rfl ?_))))
     refine .q rfl (.add rfl rfl rfl (by omega) (by omega)) ?_
     refine .mv rfl (.nil ?_)
     refine hKL4 ((g + 1, row ++ [h3], _, _)) _ _ ?_ ?_ ⟨rfl, rfl, rfl, rfl, rfl, rfl, rfl, rfl, rfl, trivial⟩
     ·
      refine ⟨lst4, by (rw [hh3]; assumption), by exact ⟨.inr (by omega)⟩, by (simp only [List.length_append, List.length_cons, List.length_nil] <;> omega), ?_⟩
      exact ⟨⟨by omega, by simp; omega⟩, hW.snoc (by omega) (by omega)⟩
     (dsimp only; omega)
    obtain ⟨h3, hh3, n3⟩ : ∃ h3 : Int, h3 = (E.src.length : Int) + ss.getD f 0 * d.obj + ts.getD g 0 - c.obj ∧ -60 ≤ h3 ∧ h3 ≤ 120 := ⟨_, rfl, by omega, by omega⟩
    refine .z rfl (.z rfl (.z rfl (.q rfl (.pickF rfl rfl) (.mv rfl (.nil (hK29 _ _ ?_))))))
    refine .condF rfl ?_
    refine .regionD mo_B (.q 0 (.q 1 (.q 2 (.q 3 (.q 4 (.q 5 (.q 6 (.q 7 (.q 8 (.q 9 (.q 10 (.q 11 (.q 12 (.q 13 (.q 14 (.q 15 (.q 16 (.q 17 (.q 18 (.q 19 (.done))))))))))))))))))))) (by kernel_rfl) ?_
    refine .mv rfl rfl (.q rfl (.fieldAddr fo_29_1_B rfl) ?_)
    refine .q rfl (.load on_22_B rfl (by first | assumption | exact Mem.of_get at_Lg5 1 _ rfl)) ?_
    refine .mv rfl rfl ?_
    refine .q rfl (.idxN sl_22_A (by first | assumption | exact SlA.of_row at_LF (by first | rfl | (simp; done) | (simp <;> omega))) rfl rfl (by omega)) ?_
    refine .q rfl (.loadI on_2_A (by first | assumption | exact Ints.of_get at_LF) rfl (by omega)) ?_
    refine .q rfl (.fieldAddr fo_29_0_B rfl) ?_
    refine .q rfl (.load on_2_A rfl (by first | assumption | exact Mem.of_get at3 0 _ rfl)) ?_
    refine .q rfl (.mul rfl rfl rfl (by omega) (by omega)) ?_
    refine .q rfl (.add rfl rfl rfl (by omega) (by omega)) ?_
    refine .q rfl (.fieldAddr fo_29_2_B rfl) ?_
    refine .q rfl (.load on_22_B rfl (by first | assumption | exact Mem.of_get at_Lg5 2 _ rfl)) ?_
    refine .mv rfl rfl ?_
    refine .q rfl (.idxN sl_22_A (by first | assumption | exact SlA.of_row at_LT (by first | rfl | (simp; done) | (simp <;> omega))) rfl rfl (by omega)) ?_
    refine .q rfl (.loadI on_2_A (by first | assumption | exact Ints.of_get at_LT) rfl (by omega)) ?_
    refine .q rfl (.add rfl rfl rfl (by omega) (by omega)) ?_
    refine .q rfl (.fieldAddr fo_29_0_B rfl) ?_
    refine .q rfl (.load on_2_A rfl (by first | assumption | exact Mem.of_get at2 0 _ rfl)) ?_
    refine .q rfl (.sub rfl rfl rfl (by omega) (by omega)) ?_
    refine .mv rfl rfl ?_
    refine .done ?_
    refine hK27 _ _ (.region (.mv rfl (.mv rfl ?_)))
    refine .R rfl (.litA rfl sl_22_A ze_2_L rfl rfl rfl rfl) ?_
    rintro _ H113x4 ⟨g113x4, rfl, le113x4, ge113x4, at113x4⟩
    replace hle := hle.trans le113x4
    replace lst4 := lst4.le le113x4
    replace at2 := le113x4.2 _ _ at2
    replace at3 := le113x4.2 _ _ at3
    replace at_L11 := le113x4.2 _ _ at_L11
    have lt_at113x4 := GHeap.ltg at113x4
    replace hin := base_hin.mono hle
    replace hin1 := base_hin1.mono hle
    have hb2 : Cat.At _ g2 0 c p := ⟨Mem.of_get at2, hin⟩
    have hb3 : Cat.At _ g3 0 d q := ⟨Mem.of_get at3, hin1⟩
    refine .R rfl (.appendI rfl sl_22_A ze_2_L rfl by_2_L sl_22_A rfl rfl (by assumption) (by assumption) (by first | omega | (simp <;> omega)) (by omega) (by omega)) ?_
    rintro _ H114x4 ⟨g114x4, rfl, st114x4, ge114x4, at114x4⟩
    replace hle := hle.st st114x4 (fun k hk => ⟨by omega, trivial⟩)
    replace lst4 := lst4.sP st114x4
    have ne_g2_gL11 : NE g2 gL11 := ⟨pl_L11.ne ne_g2_g55.ne (by omega)⟩
    replace at2 := st114x4.s at2 ne_g2_gL11.ne
    have ne_g3_gL11 : NE g3 gL11 := ⟨pl_L11.ne ne_g3_g55.ne (by omega)⟩
    replace at3 := st114x4.s at3 ne_g3_gL11.ne
    replace hin := base_hin.mono hle
    replace hin1 := base_hin1.mono hle
    clear hb2
    have hb2 : Cat.At _ g2 0 c p := ⟨Mem.of_get at2, hin⟩
    clear hb3
    have hb3 : Cat.At _ g3 0 d q := ⟨Mem.of_get at3, hin1⟩
    refine .mv rfl (.nil (hK25 _ _ (.region (.mv rfl ?_))))
    refine .q rfl (.add rfl rfl rfl (by omega) (by omega)) ?_
    refine .mv rfl (.nil ?_)
    refine hKL4 ((g + 1, row ++ [h3], _, _)) _ _ ?_ ?_ ⟨rfl, rfl, rfl, rfl, rfl, rfl, rfl, rfl, rfl, trivial⟩
    ·
     refine ⟨lst4, by (rw [hh3]; assumption), by exact ⟨.inr (by omega)⟩, by (simp only [List.length_append, List.length_cons, List.length_nil] <;> omega), ?_⟩
     exact ⟨⟨by omega, by simp; omega⟩, hW.snoc (by omega) (by omega)⟩
    (dsimp only; omega)
   try simp only [sps] at h60
   refine .exit ?_
   refine hK21 _ _ (.region ?_)
   obtain rfl : g = ss.length := by omega
   obtain rfl := ln_L11
   refine .mv rfl (.mv rfl ?_)
   refine .R rfl (.litA rfl sl_23_B ze_22_Hj rfl rfl rfl rfl) ?_
   rintro _ H117 ⟨g117, rfl, le117, ge117, at117⟩
   replace hle := hle.trans le117
   replace lst3 := lst3.le le117
   replace rk := rk.le le117
   replace at2 := le117.2 _ _ at2
   replace at3 := le117.2 _ _ at3
   replace at_L9 := le117.2 _ _ at_L9
   replace at_L11 := le117.2 _ _ at_L11
   have lt_at117 := GHeap.ltg at117
   replace hin := base_hin.mono hle
   replace hin1 := base_hin1.mono hle
   have hb2 : Cat.At _ g2 0 c p := ⟨Mem.of_get at2, hin⟩
   have hb3 : Cat.At _ g3 0 d q := ⟨Mem.of_get at3, hin1⟩
   refine .R rfl (.appendV rfl sl_23_B ze_22_Hj rfl by_22_Hj sl_23_B rfl rfl (by assumption) (by assumption) (by first | omega | (simp <;> omega)) rfl rfl (by omega) (by omega)) ?_
   rintro _ H118 ⟨g118, rfl, st118, ge118, at118⟩
   replace hle := hle.st st118 (fun k hk => ⟨by omega, trivial⟩)
   replace lst3 := lst3.sP st118
   replace rk := rk.sP st118
   replace at2 := st118.same _ _ ⟨(pl_L9.ne ne_g2_g47.ne (by omega)), trivial⟩ at2
   replace at3 := st118.same _ _ ⟨(pl_L9.ne ne_g3_g47.ne (by omega)), trivial⟩ at3
   replace at_L11 := st118.same _ _ ⟨(Ne.symm (pl_L11.ne ne_gL9_g55.ne (by omega))), trivial⟩ at_L11
   replace hin := base_hin.mono hle
   replace hin1 := base_hin1.mono hle
   clear hb2
   have hb2 : Cat.At _ g2 0 c p := ⟨Mem.of_get at2, hin⟩
   clear hb3
   have hb3 : Cat.At _ g3 0 d q := ⟨Mem.of_get at3, hin1⟩
   refine .mv rfl (.nil (hK19 _ _ (.region (.mv rfl ?_))))
   refine .q rfl (.add rfl rfl rfl (by omega) (by omega)) ?_
   refine .mv rfl (.nil ?_)
   refine hKL3 ((f + 1, upd rq cs.length (some ⟨gL11, 0, none⟩), cs ++ [row], _, _)) _ _ ?_ ?_ ⟨rfl, rfl, rfl, rfl, rfl, rfl, rfl, trivial⟩
   ·
    refine ⟨lst3, by (rw [slsL_snoc]; assumption), by exact ⟨.inr (by omega)⟩, by (rw [slsL_snoc] <;> (first | omega | (simp only [List.length_append, List.length_cons, List.length_nil] <;> omega))), ?_⟩
    have hR' := hR.st rk (.cons (hR.neT hat9 rfl) (.nil _ _))
    have hQ' := hQ.st rk (.cons (hQ.neT hat9 rfl) (.nil _ _))
    exact ⟨⟨by omega, by simp; omega⟩, hC.snoc (by omega) hW, hR', hQ'.snoc2 (by assumption) (hQ.ne (pl_L11.ge (by omega) (by omega))) (pl_L11.ge (by omega) (by omega))⟩
   (dsimp only; omega)
  try simp only [sps] at h52
  refine .exit ?_
  refine hK15 _ _ (.seq (fun K30 hK30 => .region ?_))
  obtain rfl : f = ss.length := by omega
  have hat5 := at_Lg5
  refine .mv rfl (.q rfl (.fieldAddr fo_29_4_B rfl) ?_)
  refine .r0 rfl rfl (.storeR rfl sz_23_Ch rfl rfl rfl (by assumption) (by first | exact Nat.le_of_ble_eq_true rfl | (simp; done) | (simp <;> omega))) ?_
  rintro _ H26002 ⟨rfl, st26002, at26002⟩
  replace hle := hle.st st26002 (fun k hk => ⟨by omega, trivial⟩)
  replace at2 := st26002.s at2 ne_g2_g5.ne
  replace at3 := st26002.s at3 ne_g3_g5.ne
  replace at4 := st26002.s at4 ne_g4_g5.ne
  replace aI := st26002.s aI ne_gI_g5.ne
  replace at_LF := st26002.same _ _ ⟨ap1_1, trivial⟩ at_LF
  replace at_LT := st26002.same _ _ ⟨ap1_2, trivial⟩ at_LT
  replace at_L9 := st26002.same _ _ ⟨(Ne.symm (pl_L9.ne ne_g5_g47.ne (by omega))), trivial⟩ at_L9
  replace hin := base_hin.mono hle
  replace hin1 := base_hin1.mono hle
  have hb2 : Cat.At _ g2 0 c p := ⟨Mem.of_get at2, hin⟩
  have hb3 : Cat.At _ g3 0 d q := ⟨Mem.of_get at3, hin1⟩
  try simp only [Nat.zero_add, List.set_cons_succ, List.set_cons_zero] at at26002
  refine .nil (hK30 _ _ (.seq (fun K31 hK31 => .region ?_)))
  have hat4 := at4
  refine .q rfl (.loadM ag_29_D rfl ⟨rfl, Mem.of_get at26002⟩) ?_
  refine .r0 rfl rfl (.fillA rfl sz_29_D rfl rfl rfl rfl) ?_
  rintro _ H27001 ⟨rfl, st27001, at27001⟩
  replace hle := hle.st st27001 (fun k hk => ⟨by omega, trivial⟩)
  replace at2 := st27001.s at2
  replace at3 := st27001.s at3
  replace aI := st27001.s aI
  replace at_LF := st27001.same _ _ ⟨(Ne.symm (pl_LF.ne ne_g4_gF.ne (by omega))), trivial⟩ at_LF
  replace at_LT := st27001.same _ _ ⟨(Ne.symm (pl_LT.ne ne_g4_gT.ne (by omega))), trivial⟩ at_LT
  replace at_L9 := st27001.same _ _ ⟨(Ne.symm (pl_L9.ne ne_g4_g47.ne (by omega))), trivial⟩ at_L9
  replace hin := base_hin.mono hle
  replace hin1 := base_hin1.mono hle
  clear hb2
  have hb2 : Cat.At _ g2 0 c p := ⟨Mem.of_get at2, hin⟩
  clear hb3
  have hb3 : Cat.At _ g3 0 d q := ⟨Mem.of_get at3, hin1⟩
  refine .nil (hK31 _ _ ?_)
  refine .ret ?_
  refine hret _ _ ?_
  refine ⟨_, _, _, _, rfl, ag_29_D, (by rfl), (Mem.of_get at27001), ?_⟩
  have hx4 : gLF ≠ gI := pl_LF.ne' (by omega) (by omega)
  have hx5 : gLT ≠ gI := pl_LT.ne' (by omega) (by omega)
  have hQ1 := hQ.st st26002 (.cons (hQ.neT hat5 rfl) (.nil _ _))
  have hQ2 := hQ1.st st27001 (.cons (hQ1.neT hat4 rfl) (.nil _ _))
  exact ⟨⟨E.obj, ss, ts, E.idn, cs⟩, rect_mk (by omega) (by omega) hts (hS.mono (by omega) (by omega)) (hT.mono (by omega) (by omega)) e6 (Bd.mono (show Bd 0 12 E.idn from e7) (by omega) (by omega)) (by omega) (hC.mono (by omega) (by omega)), hle, gLF, gLT, gI, gL9, rq, by simp [Cat.cells, ownP, ln_L9], ⟨at_LF, at_LT, aI, at_L9, by omega, by omega, by omega, by omega, by omega, by omega, by omega, hQ2.low (by omega), hQ.lowNe (by omega), hQ.lowNe (by omega), hQ.lowNe (by omega)⟩⟩
end Go.Proofs.Ytjdedelneppnlaa
namespace Go.Proofs.Ytjdedelneppnlaa
open Go Go.GL Go.RowKit Go.Proofs
set_option maxHeartbeats 8000000 in
theorem l02Monoid_c {gS : Nat} {H : GHeap} (hs : DSrc 120 H gS := by assumption) :
    GCalls Try.prog 149 [.pointer (some ⟨gS, 0, none⟩)] H (NewTab 120 gS H) := by
  refine GCalls.body (N := 48) (rs := [.tmp 2]) Try.func149 rfl rfl rfl rfl (fun Qx hret hend => ?_)
  refine .fg [0] rfl ?_
  have hst := St.refl [gS] H
  refine .seq (fun K1 hK1 => .region (.mv rfl (.nil (hK1 _ _ (.seq (fun K2 hK2 => .seq (fun K3 hK3 => .region (.mv rfl ?_))))))))
  refine .call rfl rfl rfl rfl @Try.call70 rfl (l01Next_c) ?_
  rintro _ H4 ⟨k4, rfl, ka4, kb4, kc4, st4, hs⟩
  have nx_H4 := st4.nx
  replace hst := hst.sA st4
  refine .nil (hK3 _ _ ?_)
  refine .block ?_
  refine .seq (fun K4 hK4 => .region (.q rfl (.cmp rfl rfl rfl) (.mv rfl (.nil (hK4 _ _ ?_)))))
  refine .cond rfl (fun h5 => ?_) (fun h5 => ?_)
  ·
   try simp only [sps] at h5
   refine .seq (fun K5 hK5 => .region ?_)
   refine .R rfl (.litA rfl sl_22_A ze_2_L rfl rfl rfl rfl) ?_
   rintro _ H7 ⟨g7, rfl, le7, ge7, at7⟩
   replace hst := hst.le le7
   replace hs := hs.le le7
   have lt_at7 := GHeap.ltg at7
   refine .R rfl (.litA rfl sl_23_B ze_22_Hj rfl rfl rfl rfl) ?_
   rintro _ H8 ⟨g8, rfl, le8, ge8, at8⟩
   replace hst := hst.le le8
   replace hs := hs.le le8
   replace at7 := le8.2 _ _ at7
   refine .mv rfl (.nil (hK5 _ _ ?_))
   refine .ret ?_
   refine hret _ _ ?_
   refine ⟨_, rfl, ?_⟩
   exact ⟨_, [[0]], fun i => some ⟨List.getD [g7] i 0, 0, none⟩, rfl, (lit_own (gs := [g7]) (by simp only [LitAt]; exact ⟨⟨by omega, at7⟩, trivial⟩) (by simp <;> omega)).done (by exact at8) (by omega), by decide, by unfold Tb Bd; decide, hst, hs⟩
  try simp only [sps] at h5
  refine .seq (fun K6 hK6 => .region (.q rfl (.cmp rfl rfl rfl) (.mv rfl (.nil (hK6 _ _ ?_)))))
  refine .cond rfl (fun h9 => ?_) (fun h9 => ?_)
  ·
   try simp only [sps] at h9
   refine .seq (fun K7 hK7 => .region ?_)
   refine .R rfl (.litA rfl sl_22_A ze_2_L rfl rfl rfl rfl) ?_
   rintro _ H11 ⟨g11, rfl, le11, ge11, at11⟩
   replace hst := hst.le le11
   replace hs := hs.le le11
   have lt_at11 := GHeap.ltg at11
   refine .R rfl (.litA rfl sl_22_A ze_2_L rfl rfl rfl rfl) ?_
   rintro _ H12 ⟨g12, rfl, le12, ge12, at12⟩
   replace hst := hst.le le12
   replace hs := hs.le le12
   replace at11 := le12.2 _ _ at11
   have lt_at12 := GHeap.ltg at12
   refine .R rfl (.litA rfl sl_23_B ze_22_Hj rfl rfl rfl rfl) ?_
   rintro _ H13 ⟨g13, rfl, le13, ge13, at13⟩
   replace hst := hst.le le13
   replace hs := hs.le le13
   replace at11 := le13.2 _ _ at11
   replace at12 := le13.2 _ _ at12
   refine .mv rfl (.nil (hK7 _ _ ?_))
   refine .ret ?_
   refine hret _ _ ?_
   refine ⟨_, rfl, ?_⟩
   exact ⟨_, [[0, 1], [1, 0]], fun i => some ⟨List.getD [g11, g12] i 0, 0, none⟩, rfl, (lit_own (gs := [g11, g12]) (by simp only [LitAt]; exact ⟨⟨by omega, at11⟩, ⟨by omega, at12⟩, trivial⟩) (by simp <;> omega)).done (by exact at13) (by omega), by decide, by unfold Tb Bd; decide, hst, hs⟩
  try simp only [sps] at h9
  refine .seq (fun K8 hK8 => .region (.q rfl (.cmp rfl rfl rfl) (.mv rfl (.nil (hK8 _ _ ?_)))))
  refine .cond rfl (fun h14 => ?_) (fun h14 => ?_)
  ·
   try simp only [sps] at h14
   refine .seq (fun K9 hK9 => .region ?_)
   refine .R rfl (.litA rfl sl_22_A ze_2_L rfl rfl rfl rfl) ?_
   rintro _ H16 ⟨g16, rfl, le16, ge16, at16⟩
   replace hst := hst.le le16
   replace hs := hs.le le16
   have lt_at16 := GHeap.ltg at16
   refine .R rfl (.litA rfl sl_22_A ze_2_L rfl rfl rfl rfl) ?_
   rintro _ H17 ⟨g17, rfl, le17, ge17, at17⟩
   replace hst := hst.le le17
   replace hs := hs.le le17
   replace at16 := le17.2 _ _ at16
   have lt_at17 := GHeap.ltg at17
   refine .R rfl (.litA rfl sl_23_B ze_22_Hj rfl rfl rfl rfl) ?_
   rintro _ H18 ⟨g18, rfl, le18, ge18, at18⟩
   replace hst := hst.le le18
   replace hs := hs.le le18
   replace at16 := le18.2 _ _ at16
   replace at17 := le18.2 _ _ at17
   refine .mv rfl (.nil (hK9 _ _ ?_))
   refine .ret ?_
   refine hret _ _ ?_
   refine ⟨_, rfl, ?_⟩
   exact ⟨_, [[0, 1], [1, 1]], fun i => some ⟨List.getD [g16, g17] i 0, 0, none⟩, rfl, (lit_own (gs := [g16, g17]) (by simp only [LitAt]; exact ⟨⟨by omega, at16⟩, ⟨by omega, at17⟩, trivial⟩) (by simp <;> omega)).done (by exact at18) (by omega), by decide, by unfold Tb Bd; decide, hst, hs⟩
  try simp only [sps] at h14
  refine .seq (fun K10 hK10 => .region (.q rfl (.cmp rfl rfl rfl) (.mv rfl (.nil (hK10 _ _ ?_)))))
  refine .cond rfl (fun h19 => ?_) (fun h19 => ?_)
  ·
   try simp only [sps] at h19
   refine .seq (fun K11 hK11 => .region ?_)
   refine .R rfl (.litA rfl sl_22_A ze_2_L rfl rfl rfl rfl) ?_
   rintro _ H21 ⟨g21, rfl, le21, ge21, at21⟩
   replace hst := hst.le le21
   replace hs := hs.le le21
   have lt_at21 := GHeap.ltg at21
   refine .R rfl (.litA rfl sl_22_A ze_2_L rfl rfl rfl rfl) ?_
   rintro _ H22 ⟨g22, rfl, le22, ge22, at22⟩
   replace hst := hst.le le22
   replace hs := hs.le le22
   replace at21 := le22.2 _ _ at21
   have lt_at22 := GHeap.ltg at22
   refine .R rfl (.litA rfl sl_22_A ze_2_L rfl rfl rfl rfl) ?_
   rintro _ H23 ⟨g23, rfl, le23, ge23, at23⟩
   replace hst := hst.le le23
   replace hs := hs.le le23
   replace at21 := le23.2 _ _ at21
   replace at22 := le23.2 _ _ at22
   have lt_at23 := GHeap.ltg at23
   refine .R rfl (.litA rfl sl_23_B ze_22_Hj rfl rfl rfl rfl) ?_
   rintro _ H24 ⟨g24, rfl, le24, ge24, at24⟩
   replace hst := hst.le le24
   replace hs := hs.le le24
   replace at21 := le24.2 _ _ at21
   replace at22 := le24.2 _ _ at22
   replace at23 := le24.2 _ _ at23
   refine .mv rfl (.nil (hK11 _ _ ?_))
   refine .ret ?_
   refine hret _ _ ?_
   refine ⟨_, rfl, ?_⟩
   exact ⟨_, [[0, 1, 2], [1, 2, 0], [2, 0, 1]], fun i => some ⟨List.getD [g21, g22, g23] i 0, 0, none⟩, rfl, (lit_own (gs := [g21, g22, g23]) (by simp only [LitAt]; exact ⟨⟨by omega, at21⟩, ⟨by omega, at22⟩, ⟨by omega, at23⟩, trivial⟩) (by simp <;> omega)).done (by exact at24) (by omega), by decide, by unfold Tb Bd; decide, hst, hs⟩
  try simp only [sps] at h19
  refine .seq (fun K12 hK12 => .region (.q rfl (.cmp rfl rfl rfl) (.mv rfl (.nil (hK12 _ _ ?_)))))
  refine .cond rfl (fun h25 => ?_) (fun h25 => ?_)
  ·
   try simp only [sps] at h25
   refine .seq (fun K13 hK13 => .region ?_)
   refine .R rfl (.litA rfl sl_22_A ze_2_L rfl rfl rfl rfl) ?_
   rintro _ H27 ⟨g27, rfl, le27, ge27, at27⟩
   replace hst := hst.le le27
   replace hs := hs.le le27
   have lt_at27 := GHeap.ltg at27
   refine .R rfl (.litA rfl sl_22_A ze_2_L rfl rfl rfl rfl) ?_
   rintro _ H28 ⟨g28, rfl, le28, ge28, at28⟩
   replace hst := hst.le le28
   replace hs := hs.le le28
   replace at27 := le28.2 _ _ at27
   have lt_at28 := GHeap.ltg at28
   refine .R rfl (.litA rfl sl_22_A ze_2_L rfl rfl rfl rfl) ?_
   rintro _ H29 ⟨g29, rfl, le29, ge29, at29⟩
   replace hst := hst.le le29
   replace hs := hs.le le29
   replace at27 := le29.2 _ _ at27
   replace at28 := le29.2 _ _ at28
   have lt_at29 := GHeap.ltg at29
   refine .R rfl (.litA rfl sl_23_B ze_22_Hj rfl rfl rfl rfl) ?_
   rintro _ H30 ⟨g30, rfl, le30, ge30, at30⟩
   replace hst := hst.le le30
   replace hs := hs.le le30
   replace at27 := le30.2 _ _ at27
   replace at28 := le30.2 _ _ at28
   replace at29 := le30.2 _ _ at29
   refine .mv rfl (.nil (hK13 _ _ ?_))
   refine .ret ?_
   refine hret _ _ ?_
   refine ⟨_, rfl, ?_⟩
   exact ⟨_, [[0, 1, 2], [1, 1, 2], [2, 2, 2]], fun i => some ⟨List.getD [g27, g28, g29] i 0, 0, none⟩, rfl, (lit_own (gs := [g27, g28, g29]) (by simp only [LitAt]; exact ⟨⟨by omega, at27⟩, ⟨by omega, at28⟩, ⟨by omega, at29⟩, trivial⟩) (by simp <;> omega)).done (by exact at30) (by omega), by decide, by unfold Tb Bd; decide, hst, hs⟩
  try simp only [sps] at h25
  refine .seq (fun K14 hK14 => .region (.q rfl (.cmp rfl rfl rfl) (.mv rfl (.nil (hK14 _ _ ?_)))))
  refine .cond rfl (fun h31 => ?_) (fun h31 => ?_)
  ·
   try simp only [sps] at h31
   refine .seq (fun K15 hK15 => .region ?_)
   refine .R rfl (.litA rfl sl_22_A ze_2_L rfl rfl rfl rfl) ?_
   rintro _ H33 ⟨g33, rfl, le33, ge33, at33⟩
   replace hst := hst.le le33
   replace hs := hs.le le33
   have lt_at33 := GHeap.ltg at33
   refine .R rfl (.litA rfl sl_22_A ze_2_L rfl rfl rfl rfl) ?_
   rintro _ H34 ⟨g34, rfl, le34, ge34, at34⟩
   replace hst := hst.le le34
   replace hs := hs.le le34
   replace at33 := le34.2 _ _ at33
   have lt_at34 := GHeap.ltg at34
   refine .R rfl (.litA rfl sl_22_A ze_2_L rfl rfl rfl rfl) ?_
   rintro _ H35 ⟨g35, rfl, le35, ge35, at35⟩
   replace hst := hst.le le35
   replace hs := hs.le le35
   replace at33 := le35.2 _ _ at33
   replace at34 := le35.2 _ _ at34
   have lt_at35 := GHeap.ltg at35
   refine .R rfl (.litA rfl sl_23_B ze_22_Hj rfl rfl rfl rfl) ?_
   rintro _ H36 ⟨g36, rfl, le36, ge36, at36⟩
   replace hst := hst.le le36
   replace hs := hs.le le36
   replace at33 := le36.2 _ _ at33
   replace at34 := le36.2 _ _ at34
   replace at35 := le36.2 _ _ at35
   refine .mv rfl (.nil (hK15 _ _ ?_))
   refine .ret ?_
   refine hret _ _ ?_
   refine ⟨_, rfl, ?_⟩
   exact ⟨_, [[0, 1, 2], [1, 1, 2], [2, 1, 2]], fun i => some ⟨List.getD [g33, g34, g35] i 0, 0, none⟩, rfl, (lit_own (gs := [g33, g34, g35]) (by simp only [LitAt]; exact ⟨⟨by omega, at33⟩, ⟨by omega, at34⟩, ⟨by omega, at35⟩, trivial⟩) (by simp <;> omega)).done (by exact at36) (by omega), by decide, by unfold Tb Bd; decide, hst, hs⟩
  try simp only [sps] at h31
  refine .seq (fun K16 hK16 => .region (.q rfl (.cmp rfl rfl rfl) (.mv rfl (.nil (hK16 _ _ ?_)))))
  refine .cond rfl (fun h37 => ?_) (fun h37 => ?_)
  ·
   try simp only [sps] at h37
   refine .seq (fun K17 hK17 => .region ?_)
   refine .R rfl (.litA rfl sl_22_A ze_2_L rfl rfl rfl rfl) ?_
   rintro _ H39 ⟨g39, rfl, le39, ge39, at39⟩
   replace hst := hst.le le39
   replace hs := hs.le le39
   have lt_at39 := GHeap.ltg at39
   refine .R rfl (.litA rfl sl_22_A ze_2_L rfl rfl rfl rfl) ?_
   rintro _ H40 ⟨g40, rfl, le40, ge40, at40⟩
   replace hst := hst.le le40
   replace hs := hs.le le40
   replace at39 := le40.2 _ _ at39
   have lt_at40 := GHeap.ltg at40
   refine .R rfl (.litA rfl sl_22_A ze_2_L rfl rfl rfl rfl) ?_
   rintro _ H41 ⟨g41, rfl, le41, ge41, at41⟩
   replace hst := hst.le le41
   replace hs := hs.le le41
   replace at39 := le41.2 _ _ at39
   replace at40 := le41.2 _ _ at40
   have lt_at41 := GHeap.ltg at41
   refine .R rfl (.litA rfl sl_22_A ze_2_L rfl rfl rfl rfl) ?_
   rintro _ H42 ⟨g42, rfl, le42, ge42, at42⟩
   replace hst := hst.le le42
   replace hs := hs.le le42
   replace at39 := le42.2 _ _ at39
   replace at40 := le42.2 _ _ at40
   replace at41 := le42.2 _ _ at41
   have lt_at42 := GHeap.ltg at42
   refine .R rfl (.litA rfl sl_23_B ze_22_Hj rfl rfl rfl rfl) ?_
   rintro _ H43 ⟨g43, rfl, le43, ge43, at43⟩
   replace hst := hst.le le43
   replace hs := hs.le le43
   replace at39 := le43.2 _ _ at39
   replace at40 := le43.2 _ _ at40
   replace at41 := le43.2 _ _ at41
   replace at42 := le43.2 _ _ at42
   refine .mv rfl (.nil (hK17 _ _ ?_))
   refine .ret ?_
   refine hret _ _ ?_
   refine ⟨_, rfl, ?_⟩
   exact ⟨_, [[0, 1, 2, 3], [1, 0, 2, 3], [2, 3, 2, 3], [3, 2, 2, 3]], fun i => some ⟨List.getD [g39, g40, g41, g42] i 0, 0, none⟩, rfl, (lit_own (gs := [g39, g40, g41, g42]) (by simp only [LitAt]; exact ⟨⟨by omega, at39⟩, ⟨by omega, at40⟩, ⟨by omega, at41⟩, ⟨by omega, at42⟩, trivial⟩) (by simp <;> omega)).done (by exact at43) (by omega), by decide, by unfold Tb Bd; decide, hst, hs⟩
  try simp only [sps] at h37
  refine .skip ?_
  refine hK2 _ _ (.seq (fun K18 hK18 => .region ?_))
  refine .R rfl (.litA rfl sl_22_A ze_2_L rfl rfl rfl rfl) ?_
  rintro _ H44 ⟨g44, rfl, le44, ge44, at44⟩
  replace hst := hst.le le44
  replace hs := hs.le le44
  have lt_at44 := GHeap.ltg at44
  refine .R rfl (.litA rfl sl_22_A ze_2_L rfl rfl rfl rfl) ?_
  rintro _ H45 ⟨g45, rfl, le45, ge45, at45⟩
  replace hst := hst.le le45
  replace hs := hs.le le45
  replace at44 := le45.2 _ _ at44
  have lt_at45 := GHeap.ltg at45
  refine .R rfl (.litA rfl sl_22_A ze_2_L rfl rfl rfl rfl) ?_
  rintro _ H46 ⟨g46, rfl, le46, ge46, at46⟩
  replace hst := hst.le le46
  replace hs := hs.le le46
  replace at44 := le46.2 _ _ at44
  replace at45 := le46.2 _ _ at45
  have lt_at46 := GHeap.ltg at46
  refine .R rfl (.litA rfl sl_23_B ze_22_Hj rfl rfl rfl rfl) ?_
  rintro _ H47 ⟨g47, rfl, le47, ge47, at47⟩
  replace hst := hst.le le47
  replace hs := hs.le le47
  replace at44 := le47.2 _ _ at44
  replace at45 := le47.2 _ _ at45
  replace at46 := le47.2 _ _ at46
  refine .mv rfl (.nil (hK18 _ _ ?_))
  refine .ret ?_
  refine hret _ _ ?_
  refine ⟨_, rfl, ?_⟩
  exact ⟨_, [[0, 1, 2], [1, 2, 2], [2, 2, 2]], fun i => some ⟨List.getD [g44, g45, g46] i 0, 0, none⟩, rfl, (lit_own (gs := [g44, g45, g46]) (by simp only [LitAt]; exact ⟨⟨by omega, at44⟩, ⟨by omega, at45⟩, ⟨by omega, at46⟩, trivial⟩) (by simp <;> omega)).done (by exact at47) (by omega), by decide, by unfold Tb Bd; decide, hst, hs⟩
theorem l02Split_c {H : GHeap} :
    GCalls Try.prog 131 [] H (NewRc 2 22 64 H) := by
  refine GCalls.body (N := 11) (rs := [.cell 0 29]) Try.func131 rfl rfl rfl rfl (fun Qx hret hend => ?_)
  have hle := GHeap.Le.refl H
  refine .seq (fun K1 hK1 => .region ?_)
  refine .R rfl (.allocR rfl ze_29_Hj rfl) ?_
  rintro _ H0 ⟨g0, rfl, le0, ge0, at0⟩
  replace hle := hle.trans le0
  have lt_at0 := GHeap.ltg at0
  refine .nil (hK1 _ _ (.seq (fun K2 hK2 => .region ?_)))
  refine .R rfl (.litA rfl sl_22_A ze_2_L rfl rfl rfl rfl) ?_
  rintro _ H1 ⟨g1, rfl, le1, ge1, at1⟩
  replace hle := hle.trans le1
  replace at0 := le1.2 _ _ at0
  have lt_at1 := GHeap.ltg at1
  refine .R rfl (.litA rfl sl_22_A ze_2_L rfl rfl rfl rfl) ?_
  rintro _ H2 ⟨g2, rfl, le2, ge2, at2⟩
  replace hle := hle.trans le2
  replace at0 := le2.2 _ _ at0
  replace at1 := le2.2 _ _ at1
  have lt_at2 := GHeap.ltg at2
  refine .R rfl (.litA rfl sl_22_A ze_2_L rfl rfl rfl rfl) ?_
  rintro _ H3 ⟨g3, rfl, le3, ge3, at3⟩
  replace hle := hle.trans le3
  replace at0 := le3.2 _ _ at0
  replace at1 := le3.2 _ _ at1
  replace at2 := le3.2 _ _ at2
  have lt_at3 := GHeap.ltg at3
  refine .R rfl (.litA rfl sl_22_A ze_2_L rfl rfl rfl rfl) ?_
  rintro _ H4 ⟨g4, rfl, le4, ge4, at4⟩
  replace hle := hle.trans le4
  replace at0 := le4.2 _ _ at0
  replace at1 := le4.2 _ _ at1
  replace at2 := le4.2 _ _ at2
  replace at3 := le4.2 _ _ at3
  have lt_at4 := GHeap.ltg at4
  refine .R rfl (.litA rfl sl_22_A ze_2_L rfl rfl rfl rfl) ?_
  rintro _ H5 ⟨g5, rfl, le5, ge5, at5⟩
  replace hle := hle.trans le5
  replace at0 := le5.2 _ _ at0
  replace at1 := le5.2 _ _ at1
  replace at2 := le5.2 _ _ at2
  replace at3 := le5.2 _ _ at3
  replace at4 := le5.2 _ _ at4
  have lt_at5 := GHeap.ltg at5
  refine .R rfl (.litA rfl sl_22_A ze_2_L rfl rfl rfl rfl) ?_
  rintro _ H6 ⟨g6, rfl, le6, ge6, at6⟩
  replace hle := hle.trans le6
  replace at0 := le6.2 _ _ at0
  replace at1 := le6.2 _ _ at1
  replace at2 := le6.2 _ _ at2
  replace at3 := le6.2 _ _ at3
  replace at4 := le6.2 _ _ at4
  replace at5 := le6.2 _ _ at5
  have lt_at6 := GHeap.ltg at6
  refine .R rfl (.litA rfl sl_22_A ze_2_L rfl rfl rfl rfl) ?_
  rintro _ H7 ⟨g7, rfl, le7, ge7, at7⟩
  replace hle := hle.trans le7
  replace at0 := le7.2 _ _ at0
  replace at1 := le7.2 _ _ at1
  replace at2 := le7.2 _ _ at2
  replace at3 := le7.2 _ _ at3
  replace at4 := le7.2 _ _ at4
  replace at5 := le7.2 _ _ at5
  replace at6 := le7.2 _ _ at6
  have lt_at7 := GHeap.ltg at7
  refine .R rfl (.litA rfl sl_22_A ze_2_L rfl rfl rfl rfl) ?_
  rintro _ H8 ⟨g8, rfl, le8, ge8, at8⟩
  replace hle := hle.trans le8
  replace at0 := le8.2 _ _ at0
  replace at1 := le8.2 _ _ at1
  replace at2 := le8.2 _ _ at2
  replace at3 := le8.2 _ _ at3
  replace at4 := le8.2 _ _ at4
  replace at5 := le8.2 _ _ at5
  replace at6 := le8.2 _ _ at6
  replace at7 := le8.2 _ _ at7
  have lt_at8 := GHeap.ltg at8
  refine .R rfl (.litA rfl sl_23_B ze_22_Hj rfl rfl rfl rfl) ?_
  rintro _ H9 ⟨g9, rfl, le9, ge9, at9⟩
  replace hle := hle.trans le9
  replace at0 := le9.2 _ _ at0
  replace at1 := le9.2 _ _ at1
  replace at2 := le9.2 _ _ at2
  replace at3 := le9.2 _ _ at3
  replace at4 := le9.2 _ _ at4
  replace at5 := le9.2 _ _ at5
  replace at6 := le9.2 _ _ at6
  replace at7 := le9.2 _ _ at7
  replace at8 := le9.2 _ _ at8
  refine .q rfl (.build bt_29_Hj rfl rfl rfl) ?_
  refine .r0 rfl rfl (.fillA rfl sz_29_D rfl rfl rfl rfl) ?_
  rintro _ H1010 ⟨rfl, st1010, at1010⟩
  replace hle := hle.st st1010 (fun k hk => ⟨by omega, trivial⟩)
  replace at1 := st1010.s at1
  replace at2 := st1010.s at2
  replace at3 := st1010.s at3
  replace at4 := st1010.s at4
  replace at5 := st1010.s at5
  replace at6 := st1010.s at6
  replace at7 := st1010.s at7
  replace at8 := st1010.s at8
  replace at9 := st1010.s at9
  refine .nil (hK2 _ _ ?_)
  refine .ret ?_
  refine hret _ _ ?_
  refine ⟨_, _, _, _, rfl, ag_29_D, (by rfl), (Mem.of_get at1010), ?_⟩
  exact ⟨⟨2, [0, 1, 0, 0, 1], [0, 1, 0, 1, 0], [0, 1], [[0, -1, 2, 3, -1], [-1, 1, -1, -1, 4], [2, -1, 2, 3, -1], [-1, 3, -1, -1, 2], [4, -1, 4, 1, -1]]⟩, rect_mk (by omega) (by decide) rfl (by unfold Bd; decide) (by unfold Bd; decide) rfl (by unfold Bd; decide) rfl (by unfold Tb Bd; decide), hle, g1, g2, g3, g9, _, rfl, ⟨at1, at2, at3, by exact at9, by omega, by omega, by omega, by omega, by omega, by omega, by omega, lit_own (gs := [g4, g5, g6, g7, g8]) (by simp only [LitAt]; exact ⟨⟨by omega, at4⟩, ⟨by omega, at5⟩, ⟨by omega, at6⟩, ⟨by omega, at7⟩, ⟨by omega, at8⟩, trivial⟩) (by simp; omega), row_nes (by simp; omega), row_nes (by simp; omega), row_nes (by simp; omega)⟩⟩
set_option maxHeartbeats 8000000 in
theorem l03Monoid_c {a : Option Addr} {r : Nat → Option Addr} {T : List (List Int)} {H : GHeap} (hin : Intss H a T r := by assumption) (hn : 1 ≤ T.length ∧ T.length ≤ 4) (ht : Tb 0 3 T.length T) :
    GCalls Try.prog 148 [.slice a T.length T.length] H (NewRc 2 22 4 H) := by
  have n5 : ∀ i, (T.getD i []).length ≤ 1048576 := fun i => by
    by_cases hi : i < T.length
    · have := (ht i hi).1; omega
    · rw [List.getD_eq_getElem?_getD, List.getElem?_eq_none (by omega)]; simp
  refine GCalls.body (N := 14) (rs := [.cell 2 29]) Try.func148 rfl rfl rfl rfl (fun Qx hret hend => ?_)
  refine .fg [0] rfl ?_
  have hle := GHeap.Le.refl H
  have base_hin := hin
  refine .seq (fun K1 hK1 => .region ?_)
  refine .R rfl (.allocR rfl ze_29_Hj rfl) ?_
  rintro _ H2 ⟨g2, rfl, le2, ge2, at2⟩
  have nx_H2 := le2.1
  replace hle := hle.trans le2
  have lt_at2 := GHeap.ltg at2
  replace hin := base_hin.mono hle
  refine .nil (hK1 _ _ (.seq (fun K2 hK2 => .region (.mv rfl (.q rfl (.len sl_23_B rfl) (.mv rfl (.nil (hK2 _ _ (.seq (fun K3 hK3 => ?_))))))))))
  refine .regionD mo_B (.q 0 (.q 2 (.q 5 (.or (.c 1 1 (.or (.c 3 1 (.or (.c 4 1 (.c 6 1 (.q 7 (.c 8 0 (.done))))) (.c 6 1 (.c 4 1 (.q 7 (.c 8 0 (.done))))))) (.or (.c 4 1 (.or (.c 3 1 (.c 6 1 (.q 7 (.c 8 0 (.done))))) (.c 6 1 (.c 3 1 (.q 7 (.c 8 0 (.done))))))) (.c 6 1 (.or (.c 3 1 (.c 4 1 (.q 7 (.c 8 0 (.done))))) (.c 4 1 (.c 3 1 (.q 7 (.c 8 0 (.done)))))))))) (.or (.c 3 1 (.or (.c 1 1 (.or (.c 4 1 (.c 6 1 (.q 7 (.c 8 0 (.done))))) (.c 6 1 (.c 4 1 (.q 7 (.c 8 0 (.done))))))) (.or (.c 4 1 (.or (.c 1 1 (.c 6 1 (.q 7 (.c 8 0 (.done))))) (.c 6 1 (.c 1 1 (.q 7 (.c 8 0 (.done))))))) (.c 6 1 (.or (.c 1 1 (.c 4 1 (.q 7 (.c 8 0 (.done))))) (.c 4 1 (.c 1 1 (.q 7 (.c 8 0 (.done)))))))))) (.or (.c 4 1 (.or (.c 1 1 (.or (.c 3 1 (.c 6 1 (.q 7 (.c 8 0 (.done))))) (.c 6 1 (.c 3 1 (.q 7 (.c 8 0 (.done))))))) (.or (.c 3 1 (.or (.c 1 1 (.c 6 1 (.q 7 (.c 8 0 (.done))))) (.c 6 1 (.c 1 1 (.q 7 (.c 8 0 (.done))))))) (.c 6 1 (.or (.c 1 1 (.c 3 1 (.q 7 (.c 8 0 (.done))))) (.c 3 1 (.c 1 1 (.q 7 (.c 8 0 (.done)))))))))) (.c 6 1 (.or (.c 1 1 (.or (.c 3 1 (.c 4 1 (.q 7 (.c 8 0 (.done))))) (.c 4 1 (.c 3 1 (.q 7 (.c 8 0 (.done))))))) (.or (.c 3 1 (.or (.c 1 1 (.c 4 1 (.q 7 (.c 8 0 (.done))))) (.c 4 1 (.c 1 1 (.q 7 (.c 8 0 (.done))))))) (.c 4 1 (.or (.c 1 1 (.c 3 1 (.q 7 (.c 8 0 (.done))))) (.c 3 1 (.c 1 1 (.q 7 (.c 8 0 (.done)))))))))))))))) (by kernel_rfl) ?_
  refine .cut [(0, some _), (2, some _), (3, some _), (4, some _), (5, some _)] ⟨rfl, rfl, rfl, rfl, rfl, trivial⟩ (fun rest fr' H' => ∃ (w1 : Nat) (w2 : Nat) (w3 : Nat) (w4 : Nat) (rr : Nat → Option Addr), Sub rest fr' ∧ St [g2] H2 H' ∧ H'.get g2 = some (.row (Cat.cells ⟨1, List.replicate T.length 0, List.replicate T.length 0, [0], T⟩ (ownP w1 w2 w3 w4 rr)) 29 true) ∧ OwnCat 2 22 H2.next H' ⟨1, List.replicate T.length 0, List.replicate T.length 0, [0], T⟩ w1 w2 w3 w4 rr) ?_ ?_
  ·
   have hf0 := St.refl [g2] H2
   refine .qB rfl (.refl _) (.move rfl) (.qB rfl (.refl _) (.move rfl) (.qB rfl (.refl _) (.move rfl) ?_))
   refine .orI ?_ ?_
   ·
    refine .c1 rfl rfl rfl rfl (.makeIN rfl sl_22_A ze_2_L by_2_L rfl rfl (by omega) (by omega) (by omega)) ?_
    rintro _ H7 ⟨g7, rfl, le7, ge7, at7⟩
    have hbl := le7
    refine ⟨hbl, ?_⟩
    have nx_H7 := le7.1
    replace hle := hle.trans le7
    replace hf0 := hf0.le le7
    replace at2 := le7.2 _ _ at2
    have lt_at7 := GHeap.ltg at7
    replace hin := base_hin.mono hle
    refine .orI ?_ ?_
    ·
     refine .c1 rfl rfl rfl rfl (.makeIN rfl sl_22_A ze_2_L by_2_L rfl rfl (by omega) (by omega) (by omega)) ?_
     rintro _ H9 ⟨g9, rfl, le9, ge9, at9⟩
     replace hbl := hbl.trans le9
     refine ⟨hbl, ?_⟩
     have nx_H9 := le9.1
     replace hle := hle.trans le9
     replace hf0 := hf0.le le9
     replace at2 := le9.2 _ _ at2
     replace at7 := le9.2 _ _ at7
     have lt_at9 := GHeap.ltg at9
     replace hin := base_hin.mono hle
     refine .orI ?_ ?_
     ·
      refine .c1 rfl rfl rfl rfl (.litA rfl sl_22_A ze_2_L rfl rfl rfl rfl) ?_
      rintro _ H10 ⟨g10, rfl, le10, ge10, at10⟩
      replace hbl := hbl.trans le10
      refine ⟨hbl, ?_⟩
      have nx_H10 := le10.1
      replace hle := hle.trans le10
      replace hf0 := hf0.le le10
      replace at2 := le10.2 _ _ at2
      replace at7 := le10.2 _ _ at7
      replace at9 := le10.2 _ _ at9
      have lt_at10 := GHeap.ltg at10
      replace hin := base_hin.mono hle
      refine .call1 rfl rfl rfl rfl rfl @Try.call151 rfl (l01Own2O_c (hl2 := n5)) ?_
      rintro _ H12 ⟨le12, g12, rr12, rfl, at12, ge12, v12⟩
      have rk := St.refl [g2] H12
      replace hbl := hbl.trans le12
      refine ⟨hbl, ?_⟩
      replace hf0 := hf0.le le12
      replace at2 := le12.2 _ _ at2
      replace at7 := le12.2 _ _ at7
      replace at9 := le12.2 _ _ at9
      replace at10 := le12.2 _ _ at10
      refine .qB rfl hbl (.build bt_29_Hj rfl rfl rfl) ?_
      refine .r0 rfl rfl rfl (.fillA rfl sz_29_D rfl rfl rfl rfl) ?_
      rintro _ H2008 ⟨rfl, st2008, at2008⟩
      replace hf0 := hf0.sA st2008
      replace rk := rk.sA st2008
      have ne_g7_g2 : NE g7 g2 := .a
      replace at7 := st2008.s at7 ne_g7_g2.ne
      have ne_g9_g2 : NE g9 g2 := .a
      replace at9 := st2008.s at9 ne_g9_g2.ne
      replace at10 := st2008.s at10
      replace at12 := st2008.s at12
      refine .done ?_
      exact ⟨_, _, _, _, _, ⟨rfl, rfl, rfl, rfl, rfl, trivial⟩, hf0, by simp only [Cat.cells, ownP, List.length_replicate]; assumption, ⟨by assumption, by assumption, by assumption, by assumption, by omega, by omega, by omega, by omega, by omega, by omega, by omega, (v12.st rk (.cons (v12.lowNe (by omega)) (.nil _ _))).low (by omega), by first | exact v12.lowNe (by omega) | exact v12.ne (by omega), by first | exact v12.lowNe (by omega) | exact v12.ne (by omega), by first | exact v12.lowNe (by omega) | exact v12.ne (by omega)⟩⟩
     refine .call1 rfl rfl rfl rfl rfl @Try.call151 rfl (l01Own2O_c (hl2 := n5)) ?_
     rintro _ H12x2 ⟨le12x2, g12x2, rr12x2, rfl, at12x2, ge12x2, v12⟩
     have rk := St.refl [g2] H12x2
     replace hbl := hbl.trans le12x2
     refine ⟨hbl, ?_⟩
     replace hf0 := hf0.le le12x2
     replace at2 := le12x2.2 _ _ at2
     replace at7 := le12x2.2 _ _ at7
     replace at9 := le12x2.2 _ _ at9
     have lt_at12x2 := GHeap.ltg at12x2
     refine .c1 rfl rfl rfl rfl (.litA rfl sl_22_A ze_2_L rfl rfl rfl rfl) ?_
     rintro _ H10x2 ⟨g10x2, rfl, le10x2, ge10x2, at10x2⟩
     replace hbl := hbl.trans le10x2
     refine ⟨hbl, ?_⟩
     replace hf0 := hf0.le le10x2
     replace rk := rk.le le10x2
     replace at2 := le10x2.2 _ _ at2
     replace at7 := le10x2.2 _ _ at7
     replace at9 := le10x2.2 _ _ at9
     replace at12x2 := le10x2.2 _ _ at12x2
     refine .qB rfl hbl (.build bt_29_Hj rfl rfl rfl) ?_
     refine .r0 rfl rfl rfl (.fillA rfl sz_29_D rfl rfl rfl rfl) ?_
     rintro _ H2008x2 ⟨rfl, st2008x2, at2008x2⟩
     replace hf0 := hf0.sA st2008x2
     replace rk := rk.sA st2008x2
     have ne_g7_g2 : NE g7 g2 := .a
     replace at7 := st2008x2.s at7 ne_g7_g2.ne
     have ne_g9_g2 : NE g9 g2 := .a
     replace at9 := st2008x2.s at9 ne_g9_g2.ne
     replace at12x2 := st2008x2.s at12x2
     replace at10x2 := st2008x2.s at10x2
     refine .done ?_
     exact ⟨_, _, _, _, _, ⟨rfl, rfl, rfl, rfl, rfl, trivial⟩, hf0, by simp only [Cat.cells, ownP, List.length_replicate]; assumption, ⟨by assumption, by assumption, by assumption, by assumption, by omega, by omega, by omega, by omega, by omega, by omega, by omega, (v12.st rk (.cons (v12.lowNe (by omega)) (.nil _ _))).low (by omega), by first | exact v12.lowNe (by omega) | exact v12.ne (by omega), by first | exact v12.lowNe (by omega) | exact v12.ne (by omega), by first | exact v12.lowNe (by omega) | exact v12.ne (by omega)⟩⟩
    refine .orI ?_ ?_
    ·
     refine .c1 rfl rfl rfl rfl (.litA rfl sl_22_A ze_2_L rfl rfl rfl rfl) ?_
     rintro _ H10x3 ⟨g10x3, rfl, le10x3, ge10x3, at10x3⟩
     replace hbl := hbl.trans le10x3
     refine ⟨hbl, ?_⟩
     have nx_H10x3 := le10x3.1
     replace hle := hle.trans le10x3
     replace hf0 := hf0.le le10x3
     replace at2 := le10x3.2 _ _ at2
     replace at7 := le10x3.2 _ _ at7
     have lt_at10x3 := GHeap.ltg at10x3
     replace hin := base_hin.mono hle
     refine .orI ?_ ?_
     ·
      refine .c1 rfl rfl rfl rfl (.makeIN rfl sl_22_A ze_2_L by_2_L rfl rfl (by omega) (by omega) (by omega)) ?_
      rintro _ H9x2 ⟨g9x2, rfl, le9x2, ge9x2, at9x2⟩
      replace hbl := hbl.trans le9x2
      refine ⟨hbl, ?_⟩
      have nx_H9x2 := le9x2.1
      replace hle := hle.trans le9x2
      replace hf0 := hf0.le le9x2
      replace at2 := le9x2.2 _ _ at2
      replace at7 := le9x2.2 _ _ at7
      replace at10x3 := le9x2.2 _ _ at10x3
      have lt_at9x2 := GHeap.ltg at9x2
      replace hin := base_hin.mono hle
      refine .call1 rfl rfl rfl rfl rfl @Try.call151 rfl (l01Own2O_c (hl2 := n5)) ?_
      rintro _ H12x3 ⟨le12x3, g12x3, rr12x3, rfl, at12x3, ge12x3, v12⟩
      have rk := St.refl [g2] H12x3
      replace hbl := hbl.trans le12x3
      refine ⟨hbl, ?_⟩
      replace hf0 := hf0.le le12x3
      replace at2 := le12x3.2 _ _ at2
      replace at7 := le12x3.2 _ _ at7
      replace at10x3 := le12x3.2 _ _ at10x3
      replace at9x2 := le12x3.2 _ _ at9x2
      refine .qB rfl hbl (.build bt_29_Hj rfl rfl rfl) ?_
      refine .r0 rfl rfl rfl (.fillA rfl sz_29_D rfl rfl rfl rfl) ?_
      rintro _ H2008x3 ⟨rfl, st2008x3, at2008x3⟩
      replace hf0 := hf0.sA st2008x3
      replace rk := rk.sA st2008x3
      have ne_g7_g2 : NE g7 g2 := .a
      replace at7 := st2008x3.s at7 ne_g7_g2.ne
      have ne_g10x3_g2 : NE g10x3 g2 := .a
      replace at10x3 := st2008x3.s at10x3 ne_g10x3_g2.ne
      replace at9x2 := st2008x3.s at9x2
      replace at12x3 := st2008x3.s at12x3
      refine .done ?_
      exact ⟨_, _, _, _, _, ⟨rfl, rfl, rfl, rfl, rfl, trivial⟩, hf0, by simp only [Cat.cells, ownP, List.length_replicate]; assumption, ⟨by assumption, by assumption, by assumption, by assumption, by omega, by omega, by omega, by omega, by omega, by omega, by omega, (v12.st rk (.cons (v12.lowNe (by omega)) (.nil _ _))).low (by omega), by first | exact v12.lowNe (by omega) | exact v12.ne (by omega), by first | exact v12.lowNe (by omega) | exact v12.ne (by omega), by first | exact v12.lowNe (by omega) | exact v12.ne (by omega)⟩⟩
     refine .call1 rfl rfl rfl rfl rfl @Try.call151 rfl (l01Own2O_c (hl2 := n5)) ?_
     rintro _ H12x4 ⟨le12x4, g12x4, rr12x4, rfl, at12x4, ge12x4, v12⟩
     have rk := St.refl [g2] H12x4
     replace hbl := hbl.trans le12x4
     refine ⟨hbl, ?_⟩
     replace hf0 := hf0.le le12x4
     replace at2 := le12x4.2 _ _ at2
     replace at7 := le12x4.2 _ _ at7
     replace at10x3 := le12x4.2 _ _ at10x3
     have lt_at12x4 := GHeap.ltg at12x4
     refine .c1 rfl rfl rfl rfl (.makeIN rfl sl_22_A ze_2_L by_2_L rfl rfl (by omega) (by omega) (by omega)) ?_
     rintro _ H9x3 ⟨g9x3, rfl, le9x3, ge9x3, at9x3⟩
     replace hbl := hbl.trans le9x3
     refine ⟨hbl, ?_⟩
     replace hf0 := hf0.le le9x3
     replace rk := rk.le le9x3
     replace at2 := le9x3.2 _ _ at2
     replace at7 := le9x3.2 _ _ at7
     replace at10x3 := le9x3.2 _ _ at10x3
     replace at12x4 := le9x3.2 _ _ at12x4
     refine .qB rfl hbl (.build bt_29_Hj rfl rfl rfl) ?_
     refine .r0 rfl rfl rfl (.fillA rfl sz_29_D rfl rfl rfl rfl) ?_
     rintro _ H2008x4 ⟨rfl, st2008x4, at2008x4⟩
     replace hf0 := hf0.sA st2008x4
     replace rk := rk.sA st2008x4
     have ne_g7_g2 : NE g7 g2 := .a
     replace at7 := st2008x4.s at7 ne_g7_g2.ne
     have ne_g10x3_g2 : NE g10x3 g2 := .a
     replace at10x3 := st2008x4.s at10x3 ne_g10x3_g2.ne
     replace at12x4 := st2008x4.s at12x4
     replace at9x3 := st2008x4.s at9x3
     refine .done ?_
     exact ⟨_, _, _, _, _, ⟨rfl, rfl, rfl, rfl, rfl, trivial⟩, hf0, by simp only [Cat.cells, ownP, List.length_replicate]; assumption, ⟨by assumption, by assumption, by assumption, by assumption, by omega, by omega, by omega, by omega, by omega, by omega, by omega, (v12.st rk (.cons (v12.lowNe (by omega)) (.nil _ _))).low (by omega), by first | exact v12.lowNe (by omega) | exact v12.ne (by omega), by first | exact v12.lowNe (by omega) | exact v12.ne (by omega), by first | exact v12.lowNe (by omega) | exact v12.ne (by omega)⟩⟩
    refine .call1 rfl rfl rfl rfl rfl @Try.call151 rfl (l01Own2O_c (hl2 := n5)) ?_
    rintro _ H12x5 ⟨le12x5, g12x5, rr12x5, rfl, at12x5, ge12x5, v12⟩
    have rk := St.refl [g2] H12x5
    replace hbl := hbl.trans le12x5
    refine ⟨hbl, ?_⟩
    replace hf0 := hf0.le le12x5
    replace at2 := le12x5.2 _ _ at2
    replace at7 := le12x5.2 _ _ at7
    have lt_at12x5 := GHeap.ltg at12x5
    refine .orI ?_ ?_
    ·
     refine .c1 rfl rfl rfl rfl (.makeIN rfl sl_22_A ze_2_L by_2_L rfl rfl (by omega) (by omega) (by omega)) ?_
     rintro _ H9x4 ⟨g9x4, rfl, le9x4, ge9x4, at9x4⟩
     replace hbl := hbl.trans le9x4
     refine ⟨hbl, ?_⟩
     replace hf0 := hf0.le le9x4
     replace rk := rk.le le9x4
     replace at2 := le9x4.2 _ _ at2
     replace at7 := le9x4.2 _ _ at7
     replace at12x5 := le9x4.2 _ _ at12x5
     have lt_at9x4 := GHeap.ltg at9x4
     refine .c1 rfl rfl rfl rfl (.litA rfl sl_22_A ze_2_L rfl rfl rfl rfl) ?_
     rintro _ H10x4 ⟨g10x4, rfl, le10x4, ge10x4, at10x4⟩
     replace hbl := hbl.trans le10x4
     refine ⟨hbl, ?_⟩
     replace hf0 := hf0.le le10x4
     replace rk := rk.le le10x4
     replace at2 := le10x4.2 _ _ at2
     replace at7 := le10x4.2 _ _ at7
     replace at12x5 := le10x4.2 _ _ at12x5
     replace at9x4 := le10x4.2 _ _ at9x4
     refine .qB rfl hbl (.build bt_29_Hj rfl rfl rfl) ?_
     refine .r0 rfl rfl rfl (.fillA rfl sz_29_D rfl rfl rfl rfl) ?_
     rintro _ H2008x5 ⟨rfl, st2008x5, at2008x5⟩
     replace hf0 := hf0.sA st2008x5
     replace rk := rk.sA st2008x5
     have ne_g7_g2 : NE g7 g2 := .a
     replace at7 := st2008x5.s at7 ne_g7_g2.ne
     have ne_g12x5_g2 : NE g12x5 g2 := .a
     replace at12x5 := st2008x5.s at12x5 ne_g12x5_g2.ne
     replace at9x4 := st2008x5.s at9x4
     replace at10x4 := st2008x5.s at10x4
     refine .done ?_
     exact ⟨_, _, _, _, _, ⟨rfl, rfl, rfl, rfl, rfl, trivial⟩, hf0, by simp only [Cat.cells, ownP, List.length_replicate]; assumption, ⟨by assumption, by assumption, by assumption, by assumption, by omega, by omega, by omega, by omega, by omega, by omega, by omega, (v12.st rk (.cons (v12.lowNe (by omega)) (.nil _ _))).low (by omega), by first | exact v12.lowNe (by omega) | exact v12.ne (by omega), by first | exact v12.lowNe (by omega) | exact v12.ne (by omega), by first | exact v12.lowNe (by omega) | exact v12.ne (by omega)⟩⟩
    refine .c1 rfl rfl rfl rfl (.litA rfl sl_22_A ze_2_L rfl rfl rfl rfl) ?_
    rintro _ H10x5 ⟨g10x5, rfl, le10x5, ge10x5, at10x5⟩
    replace hbl := hbl.trans le10x5
    refine ⟨hbl, ?_⟩
    replace hf0 := hf0.le le10x5
    replace rk := rk.le le10x5
    replace at2 := le10x5.2 _ _ at2
    replace at7 := le10x5.2 _ _ at7
    replace at12x5 := le10x5.2 _ _ at12x5
    have lt_at10x5 := GHeap.ltg at10x5
    refine .c1 rfl rfl rfl rfl (.makeIN rfl sl_22_A ze_2_L by_2_L rfl rfl (by omega) (by omega) (by omega)) ?_
    rintro _ H9x5 ⟨g9x5, rfl, le9x5, ge9x5, at9x5⟩
    replace hbl := hbl.trans le9x5
    refine ⟨hbl, ?_⟩
    replace hf0 := hf0.le le9x5
    replace rk := rk.le le9x5
    replace at2 := le9x5.2 _ _ at2
    replace at7 := le9x5.2 _ _ at7
    replace at12x5 := le9x5.2 _ _ at12x5
    replace at10x5 := le9x5.2 _ _ at10x5
    refine .qB rfl hbl (.build bt_29_Hj rfl rfl rfl) ?_
    refine .r0 rfl rfl rfl (.fillA rfl sz_29_D rfl rfl rfl rfl) ?_
    rintro _ H2008x6 ⟨rfl, st2008x6, at2008x6⟩
    replace hf0 := hf0.sA st2008x6
    replace rk := rk.sA st2008x6
    have ne_g7_g2 : NE g7 g2 := .a
    replace at7 := st2008x6.s at7 ne_g7_g2.ne
    have ne_g12x5_g2 : NE g12x5 g2 := .a
    replace at12x5 := st2008x6.s at12x5 ne_g12x5_g2.ne
    replace at10x5 := st2008x6.s at10x5
    replace at9x5 := st2008x6.s at9x5
    refine .done ?_
    exact ⟨_, _, _, _, _, ⟨rfl, rfl, rfl, rfl, rfl, trivial⟩, hf0, by simp only [Cat.cells, ownP, List.length_replicate]; assumption, ⟨by assumption, by assumption, by assumption, by assumption, by omega, by omega, by omega, by omega, by omega, by omega, by omega, (v12.st rk (.cons (v12.lowNe (by omega)) (.nil _ _))).low (by omega), by first | exact v12.lowNe (by omega) | exact v12.ne (by omega), by first | exact v12.lowNe (by omega) | exact v12.ne (by omega), by first | exact v12.lowNe (by omega) | exact v12.ne (by omega)⟩⟩
   refine .orI ?_ ?_
   ·
    refine .c1 rfl rfl rfl rfl (.makeIN rfl sl_22_A ze_2_L by_2_L rfl rfl (by omega) (by omega) (by omega)) ?_
    rintro _ H9x6 ⟨g9x6, rfl, le9x6, ge9x6, at9x6⟩
    have hbl := le9x6
    refine ⟨hbl, ?_⟩
    have nx_H9x6 := le9x6.1
    replace hle := hle.trans le9x6
    replace hf0 := hf0.le le9x6
    replace at2 := le9x6.2 _ _ at2
    have lt_at9x6 := GHeap.ltg at9x6
    replace hin := base_hin.mono hle
    refine .orI ?_ ?_
    ·
     refine .c1 rfl rfl rfl rfl (.makeIN rfl sl_22_A ze_2_L by_2_L rfl rfl (by omega) (by omega) (by omega)) ?_
     rintro _ H7x2 ⟨g7x2, rfl, le7x2, ge7x2, at7x2⟩
     replace hbl := hbl.trans le7x2
     refine ⟨hbl, ?_⟩
     have nx_H7x2 := le7x2.1
     replace hle := hle.trans le7x2
     replace hf0 := hf0.le le7x2
     replace at2 := le7x2.2 _ _ at2
     replace at9x6 := le7x2.2 _ _ at9x6
     have lt_at7x2 := GHeap.ltg at7x2
     replace hin := base_hin.mono hle
     refine .orI ?_ ?_
     ·
      refine .c1 rfl rfl rfl rfl (.litA rfl sl_22_A ze_2_L rfl rfl rfl rfl) ?_
      rintro _ H10x6 ⟨g10x6, rfl, le10x6, ge10x6, at10x6⟩
      replace hbl := hbl.trans le10x6
      refine ⟨hbl, ?_⟩
      have nx_H10x6 := le10x6.1
      replace hle := hle.trans le10x6
      replace hf0 := hf0.le le10x6
      replace at2 := le10x6.2 _ _ at2
      replace at9x6 := le10x6.2 _ _ at9x6
      replace at7x2 := le10x6.2 _ _ at7x2
      have lt_at10x6 := GHeap.ltg at10x6
      replace hin := base_hin.mono hle
      refine .call1 rfl rfl rfl rfl rfl @Try.call151 rfl (l01Own2O_c (hl2 := n5)) ?_
      rintro _ H12x6 ⟨le12x6, g12x6, rr12x6, rfl, at12x6, ge12x6, v12⟩
      have rk := St.refl [g2] H12x6
      replace hbl := hbl.trans le12x6
      refine ⟨hbl, ?_⟩
      replace hf0 := hf0.le le12x6
      replace at2 := le12x6.2 _ _ at2
      replace at9x6 := le12x6.2 _ _ at9x6
      replace at7x2 := le12x6.2 _ _ at7x2
      replace at10x6 := le12x6.2 _ _ at10x6
      refine .qB rfl hbl (.build bt_29_Hj rfl rfl rfl) ?_
      refine .r0 rfl rfl rfl (.fillA rfl sz_29_D rfl rfl rfl rfl) ?_
      rintro _ H2008x7 ⟨rfl, st2008x7, at2008x7⟩
      replace hf0 := hf0.sA st2008x7
      replace rk := rk.sA st2008x7
      have ne_g9x6_g2 : NE g9x6 g2 := .a
      replace at9x6 := st2008x7.s at9x6 ne_g9x6_g2.ne
      have ne_g7x2_g2 : NE g7x2 g2 := .a
      replace at7x2 := st2008x7.s at7x2 ne_g7x2_g2.ne
      replace at10x6 := st2008x7.s at10x6
      replace at12x6 := st2008x7.s at12x6
      refine .done ?_
      exact ⟨_, _, _, _, _, ⟨rfl, rfl, rfl, rfl, rfl, trivial⟩, hf0, by simp only [Cat.cells, ownP, List.length_replicate]; assumption, ⟨by assumption, by assumption, by assumption, by assumption, by omega, by omega, by omega, by omega, by omega, by omega, by omega, (v12.st rk (.cons (v12.lowNe (by omega)) (.nil _ _))).low (by omega), by first | exact v12.lowNe (by omega) | exact v12.ne (by omega), by first | exact v12.lowNe (by omega) | exact v12.ne (by omega), by first | exact v12.lowNe (by omega) | exact v12.ne (by omega)⟩⟩
     refine .call1 rfl rfl rfl rfl rfl @Try.call151 rfl (l01Own2O_c (hl2 := n5)) ?_
     rintro _ H12x7 ⟨le12x7, g12x7, rr12x7, rfl, at12x7, ge12x7, v12⟩
     have rk := St.refl [g2] H12x7
     replace hbl := hbl.trans le12x7
     refine ⟨hbl, ?_⟩
     replace hf0 := hf0.le le12x7
     replace at2 := le12x7.2 _ _ at2
     replace at9x6 := le12x7.2 _ _ at9x6
     replace at7x2 := le12x7.2 _ _ at7x2
     have lt_at12x7 := GHeap.ltg at12x7
     refine .c1 rfl rfl rfl rfl (.litA rfl sl_22_A ze_2_L rfl rfl rfl rfl) ?_
     rintro _ H10x7 ⟨g10x7, rfl, le10x7, ge10x7, at10x7⟩
     replace hbl := hbl.trans le10x7
     refine ⟨hbl, ?_⟩
     replace hf0 := hf0.le le10x7
     replace rk := rk.le le10x7
     replace at2 := le10x7.2 _ _ at2
     replace at9x6 := le10x7.2 _ _ at9x6
     replace at7x2 := le10x7.2 _ _ at7x2
     replace at12x7 := le10x7.2 _ _ at12x7
     refine .qB rfl hbl (.build bt_29_Hj rfl rfl rfl) ?_
     refine .r0 rfl rfl rfl (.fillA rfl sz_29_D rfl rfl rfl rfl) ?_
     rintro _ H2008x8 ⟨rfl, st2008x8, at2008x8⟩
     replace hf0 := hf0.sA st2008x8
     replace rk := rk.sA st2008x8
     have ne_g9x6_g2 : NE g9x6 g2 := .a
     replace at9x6 := st2008x8.s at9x6 ne_g9x6_g2.ne
     have ne_g7x2_g2 : NE g7x2 g2 := .a
     replace at7x2 := st2008x8.s at7x2 ne_g7x2_g2.ne
     replace at12x7 := st2008x8.s at12x7
     replace at10x7 := st2008x8.s at10x7
     refine .done ?_
     exact ⟨_, _, _, _, _, ⟨rfl, rfl, rfl, rfl, rfl, trivial⟩, hf0, by simp only [Cat.cells, ownP, List.length_replicate]; assumption, ⟨by assumption, by assumption, by assumption, by assumption, by omega, by omega, by omega, by omega, by omega, by omega, by omega, (v12.st rk (.cons (v12.lowNe (by omega)) (.nil _ _))).low (by omega), by first | exact v12.lowNe (by omega) | exact v12.ne (by omega), by first | exact v12.lowNe (by omega) | exact v12.ne (by omega), by first | exact v12.lowNe (by omega) | exact v12.ne (by omega)⟩⟩
    refine .orI ?_ ?_
    ·
     refine .c1 rfl rfl rfl rfl (.litA rfl sl_22_A ze_2_L rfl rfl rfl rfl) ?_
     rintro _ H10x8 ⟨g10x8, rfl, le10x8, ge10x8, at10x8⟩
     replace hbl := hbl.trans le10x8
     refine ⟨hbl, ?_⟩
     have nx_H10x8 := le10x8.1
     replace hle := hle.trans le10x8
     replace hf0 := hf0.le le10x8
     replace at2 := le10x8.2 _ _ at2
     replace at9x6 := le10x8.2 _ _ at9x6
     have lt_at10x8 := GHeap.ltg at10x8
     replace hin := base_hin.mono hle
     refine .orI ?_ ?_
     ·
      refine .c1 rfl rfl rfl rfl (.makeIN rfl sl_22_A ze_2_L by_2_L rfl rfl (by omega) (by omega) (by omega)) ?_
      rintro _ H7x3 ⟨g7x3, rfl, le7x3, ge7x3, at7x3⟩
      replace hbl := hbl.trans le7x3
      refine ⟨hbl, ?_⟩
      have nx_H7x3 := le7x3.1
      replace hle := hle.trans le7x3
      replace hf0 := hf0.le le7x3
      replace at2 := le7x3.2 _ _ at2
      replace at9x6 := le7x3.2 _ _ at9x6
      replace at10x8 := le7x3.2 _ _ at10x8
      have lt_at7x3 := GHeap.ltg at7x3
      replace hin := base_hin.mono hle
      refine .call1 rfl rfl rfl rfl rfl @Try.call151 rfl (l01Own2O_c (hl2 := n5)) ?_
      rintro _ H12x8 ⟨le12x8, g12x8, rr12x8, rfl, at12x8, ge12x8, v12⟩
      have rk := St.refl [g2] H12x8
      replace hbl := hbl.trans le12x8
      refine ⟨hbl, ?_⟩
      replace hf0 := hf0.le le12x8
      replace at2 := le12x8.2 _ _ at2
      replace at9x6 := le12x8.2 _ _ at9x6
      replace at10x8 := le12x8.2 _ _ at10x8
      replace at7x3 := le12x8.2 _ _ at7x3
      refine .qB rfl hbl (.build bt_29_Hj rfl rfl rfl) ?_
      refine .r0 rfl rfl rfl (.fillA rfl sz_29_D rfl rfl rfl rfl) ?_
      rintro _ H2008x9 ⟨rfl, st2008x9, at2008x9⟩
      replace hf0 := hf0.sA st2008x9
      replace rk := rk.sA st2008x9
      have ne_g9x6_g2 : NE g9x6 g2 := .a
      replace at9x6 := st2008x9.s at9x6 ne_g9x6_g2.ne
      have ne_g10x8_g2 : NE g10x8 g2 := .a
      replace at10x8 := st2008x9.s at10x8 ne_g10x8_g2.ne
      replace at7x3 := st2008x9.s at7x3
      replace at12x8 := st2008x9.s at12x8
      refine .done ?_
      exact ⟨_, _, _, _, _, ⟨rfl, rfl, rfl, rfl, rfl, trivial⟩, hf0, by simp only [Cat.cells, ownP, List.length_replicate]; assumption, ⟨by assumption, by assumption, by assumption, by assumption, by omega, by omega, by omega, by omega, by omega, by omega, by omega, (v12.st rk (.cons (v12.lowNe (by omega)) (.nil _ _))).low (by omega), by first | exact v12.lowNe (by omega) | exact v12.ne (by omega), by first | exact v12.lowNe (by omega) | exact v12.ne (by omega), by first | exact v12.lowNe (by omega) | exact v12.ne (by omega)⟩⟩
     refine .call1 rfl rfl rfl rfl rfl @Try.call151 rfl (l01Own2O_c (hl2 := n5)) ?_
     rintro _ H12x9 ⟨le12x9, g12x9, rr12x9, rfl, at12x9, ge12x9, v12⟩
     have rk := St.refl [g2] H12x9
     replace hbl := hbl.trans le12x9
     refine ⟨hbl, ?_⟩
     replace hf0 := hf0.le le12x9
     replace at2 := le12x9.2 _ _ at2
     replace at9x6 := le12x9.2 _ _ at9x6
     replace at10x8 := le12x9.2 _ _ at10x8
     have lt_at12x9 := GHeap.ltg at12x9
     refine .c1 rfl rfl rfl rfl (.makeIN rfl sl_22_A ze_2_L by_2_L rfl rfl (by omega) (by omega) (by omega)) ?_
     rintro _ H7x4 ⟨g7x4, rfl, le7x4, ge7x4, at7x4⟩
     replace hbl := hbl.trans le7x4
     refine ⟨hbl, ?_⟩
     replace hf0 := hf0.le le7x4
     replace rk := rk.le le7x4
     replace at2 := le7x4.2 _ _ at2
     replace at9x6 := le7x4.2 _ _ at9x6
     replace at10x8 := le7x4.2 _ _ at10x8
     replace at12x9 := le7x4.2 _ _ at12x9
     refine .qB rfl hbl (.build bt_29_Hj rfl rfl rfl) ?_
     refine .r0 rfl rfl rfl (.fillA rfl sz_29_D rfl rfl rfl rfl) ?_
     rintro _ H2008x10 ⟨rfl, st2008x10, at2008x10⟩
     replace hf0 := hf0.sA st2008x10
     replace rk := rk.sA st2008x10
     have ne_g9x6_g2 : NE g9x6 g2 := .a
     replace at9x6 := st2008x10.s at9x6 ne_g9x6_g2.ne
     have ne_g10x8_g2 : NE g10x8 g2 := .a
     replace at10x8 := st2008x10.s at10x8 ne_g10x8_g2.ne
     replace at12x9 := st2008x10.s at12x9
     replace at7x4 := st2008x10.s at7x4
     refine .done ?_
     exact ⟨_, _, _, _, _, ⟨rfl, rfl, rfl, rfl, rfl, trivial⟩, hf0, by simp only [Cat.cells, ownP, List.length_replicate]; assumption, ⟨by assumption, by assumption, by assumption, by assumption, by omega, by omega, by omega, by omega, by omega, by omega, by omega, (v12.st rk (.cons (v12.lowNe (by omega)) (.nil _ _))).low (by omega), by first | exact v12.lowNe (by omega) | exact v12.ne (by omega), by first | exact v12.lowNe (by omega) | exact v12.ne (by omega), by first | exact v12.lowNe (by omega) | exact v12.ne (by omega)⟩⟩
    refine .call1 rfl rfl rfl rfl rfl @Try.call151 rfl (l01Own2O_c (hl2 := n5)) ?_
    rintro _ H12x10 ⟨le12x10, g12x10, rr12x10, rfl, at12x10, ge12x10, v12⟩
    have rk := St.refl [g2] H12x10
    replace hbl := hbl.trans le12x10
    refine ⟨hbl, ?_⟩
    replace hf0 := hf0.le le12x10
    replace at2 := le12x10.2 _ _ at2
    replace at9x6 := le12x10.2 _ _ at9x6
    have lt_at12x10 := GHeap.ltg at12x10
    refine .orI ?_ ?_
    ·
     refine .c1 rfl rfl rfl rfl (.makeIN rfl sl_22_A ze_2_L by_2_L rfl rfl (by omega) (by omega) (by omega)) ?_
     rintro _ H7x5 ⟨g7x5, rfl, le7x5, ge7x5, at7x5⟩
     replace hbl := hbl.trans le7x5
     refine ⟨hbl, ?_⟩
     replace hf0 := hf0.le le7x5
     replace rk := rk.le le7x5
     replace at2 := le7x5.2 _ _ at2
     replace at9x6 := le7x5.2 _ _ at9x6
     replace at12x10 := le7x5.2 _ _ at12x10
     have lt_at7x5 := GHeap.ltg at7x5
     refine .c1 rfl rfl rfl rfl (.litA rfl sl_22_A ze_2_L rfl rfl rfl rfl) ?_
     rintro _ H10x9 ⟨g10x9, rfl, le10x9, ge10x9, at10x9⟩
     replace hbl := hbl.trans le10x9
     refine ⟨hbl, ?_⟩
     replace hf0 := hf0.le le10x9
     replace rk := rk.le le10x9
     replace at2 := le10x9.2 _ _ at2
     replace at9x6 := le10x9.2 _ _ at9x6
     replace at12x10 := le10x9.2 _ _ at12x10
     replace at7x5 := le10x9.2 _ _ at7x5
     refine .qB rfl hbl (.build bt_29_Hj rfl rfl rfl) ?_
     refine .r0 rfl rfl rfl (.fillA rfl sz_29_D rfl rfl rfl rfl) ?_
     rintro _ H2008x11 ⟨rfl, st2008x11, at2008x11⟩
     replace hf0 := hf0.sA st2008x11
     replace rk := rk.sA st2008x11
     have ne_g9x6_g2 : NE g9x6 g2 := .a
     replace at9x6 := st2008x11.s at9x6 ne_g9x6_g2.ne
     have ne_g12x10_g2 : NE g12x10 g2 := .a
     replace at12x10 := st2008x11.s at12x10 ne_g12x10_g2.ne
     replace at7x5 := st2008x11.s at7x5
     replace at10x9 := st2008x11.s at10x9
     refine .done ?_
     exact ⟨_, _, _, _, _, ⟨rfl, rfl, rfl, rfl, rfl, trivial⟩, hf0, by simp only [Cat.cells, ownP, List.length_replicate]; assumption, ⟨by assumption, by assumption, by assumption, by assumption, by omega, by omega, by omega, by omega, by omega, by omega, by omega, (v12.st rk (.cons (v12.lowNe (by omega)) (.nil _ _))).low (by omega), by first | exact v12.lowNe (by omega) | exact v12.ne (by omega), by first | exact v12.lowNe (by omega) | exact v12.ne (by omega), by first | exact v12.lowNe (by omega) | exact v12.ne (by omega)⟩⟩
    refine .c1 rfl rfl rfl rfl (.litA rfl sl_22_A ze_2_L rfl rfl rfl rfl) ?_
    rintro _ H10x10 ⟨g10x10, rfl, le10x10, ge10x10, at10x10⟩
    replace hbl := hbl.trans le10x10
    refine ⟨hbl, ?_⟩
    replace hf0 := hf0.le le10x10
    replace rk := rk.le le10x10
    replace at2 := le10x10.2 _ _ at2
    replace at9x6 := le10x10.2 _ _ at9x6
    replace at12x10 := le10x10.2 _ _ at12x10
    have lt_at10x10 := GHeap.ltg at10x10
    refine .c1 rfl rfl rfl rfl (.makeIN rfl sl_22_A ze_2_L by_2_L rfl rfl (by omega) (by omega) (by omega)) ?_
    rintro _ H7x6 ⟨g7x6, rfl, le7x6, ge7x6, at7x6⟩
    replace hbl := hbl.trans le7x6
    refine ⟨hbl, ?_⟩
    replace hf0 := hf0.le le7x6
    replace rk := rk.le le7x6
    replace at2 := le7x6.2 _ _ at2
    replace at9x6 := le7x6.2 _ _ at9x6
    replace at12x10 := le7x6.2 _ _ at12x10
    replace at10x10 := le7x6.2 _ _ at10x10
    refine .qB rfl hbl (.build bt_29_Hj rfl rfl rfl) ?_
    refine .r0 rfl rfl rfl (.fillA rfl sz_29_D rfl rfl rfl rfl) ?_
    rintro _ H2008x12 ⟨rfl, st2008x12, at2008x12⟩
    replace hf0 := hf0.sA st2008x12
    replace rk := rk.sA st2008x12
    have ne_g9x6_g2 : NE g9x6 g2 := .a
    replace at9x6 := st2008x12.s at9x6 ne_g9x6_g2.ne
    have ne_g12x10_g2 : NE g12x10 g2 := .a
    replace at12x10 := st2008x12.s at12x10 ne_g12x10_g2.ne
    replace at10x10 := st2008x12.s at10x10
    replace at7x6 := st2008x12.s at7x6
    refine .done ?_
    exact ⟨_, _, _, _, _, ⟨rfl, rfl, rfl, rfl, rfl, trivial⟩, hf0, by simp only [Cat.cells, ownP, List.length_replicate]; assumption, ⟨by assumption, by assumption, by assumption, by assumption, by omega, by omega, by omega, by omega, by omega, by omega, by omega, (v12.st rk (.cons (v12.lowNe (by omega)) (.nil _ _))).low (by omega), by first | exact v12.lowNe (by omega) | exact v12.ne (by omega), by first | exact v12.lowNe (by omega) | exact v12.ne (by omega), by first | exact v12.lowNe (by omega) | exact v12.ne (by omega)⟩⟩
   refine .orI ?_ ?_
   ·
    refine .c1 rfl rfl rfl rfl (.litA rfl sl_22_A ze_2_L rfl rfl rfl rfl) ?_
    rintro _ H10x11 ⟨g10x11, rfl, le10x11, ge10x11, at10x11⟩
    have hbl := le10x11
    refine ⟨hbl, ?_⟩
    have nx_H10x11 := le10x11.1
    replace hle := hle.trans le10x11
    replace hf0 := hf0.le le10x11
    replace at2 := le10x11.2 _ _ at2
    have lt_at10x11 := GHeap.ltg at10x11
    replace hin := base_hin.mono hle
    refine .orI ?_ ?_
    ·
     refine .c1 rfl rfl rfl rfl (.makeIN rfl sl_22_A ze_2_L by_2_L rfl rfl (by omega) (by omega) (by omega)) ?_
     rintro _ H7x7 ⟨g7x7, rfl, le7x7, ge7x7, at7x7⟩
     replace hbl := hbl.trans le7x7
     refine ⟨hbl, ?_⟩
     have nx_H7x7 := le7x7.1
     replace hle := hle.trans le7x7
     replace hf0 := hf0.le le7x7
     replace at2 := le7x7.2 _ _ at2
     replace at10x11 := le7x7.2 _ _ at10x11
     have lt_at7x7 := GHeap.ltg at7x7
     replace hin := base_hin.mono hle
     refine .orI ?_ ?_
     ·
      refine .c1 rfl rfl rfl rfl (.makeIN rfl sl_22_A ze_2_L by_2_L rfl rfl (by omega) (by omega) (by omega)) ?_
      rintro _ H9x7 ⟨g9x7, rfl, le9x7, ge9x7, at9x7⟩
      replace hbl := hbl.trans le9x7
      refine ⟨hbl, ?_⟩
      have nx_H9x7 := le9x7.1
      replace hle := hle.trans le9x7
      replace hf0 := hf0.le le9x7
      replace at2 := le9x7.2 _ _ at2
      replace at10x11 := le9x7.2 _ _ at10x11
      replace at7x7 := le9x7.2 _ _ at7x7
      have lt_at9x7 := GHeap.ltg at9x7
      replace hin := base_hin.mono hle
      refine .call1 rfl rfl rfl rfl rfl @Try.call151 rfl (l01Own2O_c (hl2 := n5)) ?_
      rintro _ H12x11 ⟨le12x11, g12x11, rr12x11, rfl, at12x11, ge12x11, v12⟩
      have rk := St.refl [g2] H12x11
      replace hbl := hbl.trans le12x11
      refine ⟨hbl, ?_⟩
      replace hf0 := hf0.le le12x11
      replace at2 := le12x11.2 _ _ at2
      replace at10x11 := le12x11.2 _ _ at10x11
      replace at7x7 := le12x11.2 _ _ at7x7
      replace at9x7 := le12x11.2 _ _ at9x7
      refine .qB rfl hbl (.build bt_29_Hj rfl rfl rfl) ?_
      refine .r0 rfl rfl rfl (.fillA rfl sz_29_D rfl rfl rfl rfl) ?_
      rintro _ H2008x13 ⟨rfl, st2008x13, at2008x13⟩
      replace hf0 := hf0.sA st2008x13
      replace rk := rk.sA st2008x13
      have ne_g10x11_g2 : NE g10x11 g2 := .a
      replace at10x11 := st2008x13.s at10x11 ne_g10x11_g2.ne
      have ne_g7x7_g2 : NE g7x7 g2 := .a
      replace at7x7 := st2008x13.s at7x7 ne_g7x7_g2.ne
      replace at9x7 := st2008x13.s at9x7
      replace at12x11 := st2008x13.s at12x11
      refine .done ?_
      exact ⟨_, _, _, _, _, ⟨rfl, rfl, rfl, rfl, rfl, trivial⟩, hf0, by simp only [Cat.cells, ownP, List.length_replicate]; assumption, ⟨by assumption, by assumption, by assumption, by assumption, by omega, by omega, by omega, by omega, by omega, by omega, by omega, (v12.st rk (.cons (v12.lowNe (by omega)) (.nil _ _))).low (by omega), by first | exact v12.lowNe (by omega) | exact v12.ne (by omega), by first | exact v12.lowNe (by omega) | exact v12.ne (by omega), by first | exact v12.lowNe (by omega) | exact v12.ne (by omega)⟩⟩
     refine .call1 rfl rfl rfl rfl rfl @Try.call151 rfl (l01Own2O_c (hl2 := n5)) ?_
     rintro _ H12x12 ⟨le12x12, g12x12, rr12x12, rfl, at12x12, ge12x12, v12⟩
     have rk := St.refl [g2] H12x12
     replace hbl := hbl.trans le12x12
     refine ⟨hbl, ?_⟩
     replace hf0 := hf0.le le12x12
     replace at2 := le12x12.2 _ _ at2
     replace at10x11 := le12x12.2 _ _ at10x11
     replace at7x7 := le12x12.2 _ _ at7x7
     have lt_at12x12 := GHeap.ltg at12x12
     refine .c1 rfl rfl rfl rfl (.makeIN rfl sl_22_A ze_2_L by_2_L rfl rfl (by omega) (by omega) (by omega)) ?_
     rintro _ H9x8 ⟨g9x8, rfl, le9x8, ge9x8, at9x8⟩
     replace hbl := hbl.trans le9x8
     refine ⟨hbl, ?_⟩
     replace hf0 := hf0.le le9x8
     replace rk := rk.le le9x8
     replace at2 := le9x8.2 _ _ at2
     replace at10x11 := le9x8.2 _ _ at10x11
     replace at7x7 := le9x8.2 _ _ at7x7
     replace at12x12 := le9x8.2 _ _ at12x12
     refine .qB rfl hbl (.build bt_29_Hj rfl rfl rfl) ?_
     refine .r0 rfl rfl rfl (.fillA rfl sz_29_D rfl rfl rfl rfl) ?_
     rintro _ H2008x14 ⟨rfl, st2008x14, at2008x14⟩
     replace hf0 := hf0.sA st2008x14
     replace rk := rk.sA st2008x14
     have ne_g10x11_g2 : NE g10x11 g2 := .a
     replace at10x11 := st2008x14.s at10x11 ne_g10x11_g2.ne
     have ne_g7x7_g2 : NE g7x7 g2 := .a
     replace at7x7 := st2008x14.s at7x7 ne_g7x7_g2.ne
     replace at12x12 := st2008x14.s at12x12
     replace at9x8 := st2008x14.s at9x8
     refine .done ?_
     exact ⟨_, _, _, _, _, ⟨rfl, rfl, rfl, rfl, rfl, trivial⟩, hf0, by simp only [Cat.cells, ownP, List.length_replicate]; assumption, ⟨by assumption, by assumption, by assumption, by assumption, by omega, by omega, by omega, by omega, by omega, by omega, by omega, (v12.st rk (.cons (v12.lowNe (by omega)) (.nil _ _))).low (by omega), by first | exact v12.lowNe (by omega) | exact v12.ne (by omega), by first | exact v12.lowNe (by omega) | exact v12.ne (by omega), by first | exact v12.lowNe (by omega) | exact v12.ne (by omega)⟩⟩
    refine .orI ?_ ?_
    ·
     refine .c1 rfl rfl rfl rfl (.makeIN rfl sl_22_A ze_2_L by_2_L rfl rfl (by omega) (by omega) (by omega)) ?_
     rintro _ H9x9 ⟨g9x9, rfl, le9x9, ge9x9, at9x9⟩
     replace hbl := hbl.trans le9x9
     refine ⟨hbl, ?_⟩
     have nx_H9x9 := le9x9.1
     replace hle := hle.trans le9x9
     replace hf0 := hf0.le le9x9
     replace at2 := le9x9.2 _ _ at2
     replace at10x11 := le9x9.2 _ _ at10x11
     have lt_at9x9 := GHeap.ltg at9x9
     replace hin := base_hin.mono hle
     refine .orI ?_ ?_
     ·
      refine .c1 rfl rfl rfl rfl (.makeIN rfl sl_22_A ze_2_L by_2_L rfl rfl (by omega) (by omega) (by omega)) ?_
      rintro _ H7x8 ⟨g7x8, rfl, le7x8, ge7x8, at7x8⟩
      replace hbl := hbl.trans le7x8
      refine ⟨hbl, ?_⟩
      have nx_H7x8 := le7x8.1
      replace hle := hle.trans le7x8
      replace hf0 := hf0.le le7x8
      replace at2 := le7x8.2 _ _ at2
      replace at10x11 := le7x8.2 _ _ at10x11
      replace at9x9 := le7x8.2 _ _ at9x9
      have lt_at7x8 := GHeap.ltg at7x8
      replace hin := base_hin.mono hle
      refine .call1 rfl rfl rfl rfl rfl @Try.call151 rfl (l01Own2O_c (hl2 := n5)) ?_
      rintro _ H12x13 ⟨le12x13, g12x13, rr12x13, rfl, at12x13, ge12x13, v12⟩
      have rk := St.refl [g2] H12x13
      replace hbl := hbl.trans le12x13
      refine ⟨hbl, ?_⟩
      replace hf0 := hf0.le le12x13
      replace at2 := le12x13.2 _ _ at2
      replace at10x11 := le12x13.2 _ _ at10x11
      replace at9x9 := le12x13.2 _ _ at9x9
      replace at7x8 := le12x13.2 _ _ at7x8
      refine .qB rfl hbl (.build bt_29_Hj rfl rfl rfl) ?_
      refine .r0 rfl rfl rfl (.fillA rfl sz_29_D rfl rfl rfl rfl) ?_
      rintro _ H2008x15 ⟨rfl, st2008x15, at2008x15⟩
      replace hf0 := hf0.sA st2008x15
      replace rk := rk.sA st2008x15
      have ne_g10x11_g2 : NE g10x11 g2 := .a
      replace at10x11 := st2008x15.s at10x11 ne_g10x11_g2.ne
      have ne_g9x9_g2 : NE g9x9 g2 := .a
      replace at9x9 := st2008x15.s at9x9 ne_g9x9_g2.ne
      replace at7x8 := st2008x15.s at7x8
      replace at12x13 := st2008x15.s at12x13
      refine .done ?_
      exact ⟨_, _, _, _, _, ⟨rfl, rfl, rfl, rfl, rfl, trivial⟩, hf0, by simp only [Cat.cells, ownP, List.length_replicate]; assumption, ⟨by assumption, by assumption, by assumption, by assumption, by omega, by omega, by omega, by omega, by omega, by omega, by omega, (v12.st rk (.cons (v12.lowNe (by omega)) (.nil _ _))).low (by omega), by first | exact v12.lowNe (by omega) | exact v12.ne (by omega), by first | exact v12.lowNe (by omega) | exact v12.ne (by omega), by first | exact v12.lowNe (by omega) | exact v12.ne (by omega)⟩⟩
     refine .call1 rfl rfl rfl rfl rfl @Try.call151 rfl (l01Own2O_c (hl2 := n5)) ?_
     rintro _ H12x14 ⟨le12x14, g12x14, rr12x14, rfl, at12x14, ge12x14, v12⟩
     have rk := St.refl [g2] H12x14
     replace hbl := hbl.trans le12x14
     refine ⟨hbl, ?_⟩
     replace hf0 := hf0.le le12x14
     replace at2 := le12x14.2 _ _ at2
     replace at10x11 := le12x14.2 _ _ at10x11
     replace at9x9 := le12x14.2 _ _ at9x9
     have lt_at12x14 := GHeap.ltg at12x14
     refine .c1 rfl rfl rfl rfl (.makeIN rfl sl_22_A ze_2_L by_2_L rfl rfl (by omega) (by omega) (by omega)) ?_
     rintro _ H7x9 ⟨g7x9, rfl, le7x9, ge7x9, at7x9⟩
     replace hbl := hbl.trans le7x9
     refine ⟨hbl, ?_⟩
     replace hf0 := hf0.le le7x9
     replace rk := rk.le le7x9
     replace at2 := le7x9.2 _ _ at2
     replace at10x11 := le7x9.2 _ _ at10x11
     replace at9x9 := le7x9.2 _ _ at9x9
     replace at12x14 := le7x9.2 _ _ at12x14
     refine .qB rfl hbl (.build bt_29_Hj rfl rfl rfl) ?_
     refine .r0 rfl rfl rfl (.fillA rfl sz_29_D rfl rfl rfl rfl) ?_
     rintro _ H2008x16 ⟨rfl, st2008x16, at2008x16⟩
     replace hf0 := hf0.sA st2008x16
     replace rk := rk.sA st2008x16
     have ne_g10x11_g2 : NE g10x11 g2 := .a
     replace at10x11 := st2008x16.s at10x11 ne_g10x11_g2.ne
     have ne_g9x9_g2 : NE g9x9 g2 := .a
     replace at9x9 := st2008x16.s at9x9 ne_g9x9_g2.ne
     replace at12x14 := st2008x16.s at12x14
     replace at7x9 := st2008x16.s at7x9
     refine .done ?_
     exact ⟨_, _, _, _, _, ⟨rfl, rfl, rfl, rfl, rfl, trivial⟩, hf0, by simp only [Cat.cells, ownP, List.length_replicate]; assumption, ⟨by assumption, by assumption, by assumption, by assumption, by omega, by omega, by omega, by omega, by omega, by omega, by omega, (v12.st rk (.cons (v12.lowNe (by omega)) (.nil _ _))).low (by omega), by first | exact v12.lowNe (by omega) | exact v12.ne (by omega), by first | exact v12.lowNe (by omega) | exact v12.ne (by omega), by first | exact v12.lowNe (by omega) | exact v12.ne (by omega)⟩⟩
    refine .call1 rfl rfl rfl rfl rfl @Try.call151 rfl (l01Own2O_c (hl2 := n5)) ?_
    rintro _ H12x15 ⟨le12x15, g12x15, rr12x15, rfl, at12x15, ge12x15, v12⟩
    have rk := St.refl [g2] H12x15
    replace hbl := hbl.trans le12x15
    refine ⟨hbl, ?_⟩
    replace hf0 := hf0.le le12x15
    replace at2 := le12x15.2 _ _ at2
    replace at10x11 := le12x15.2 _ _ at10x11
    have lt_at12x15 := GHeap.ltg at12x15
    refine .orI ?_ ?_
    ·
     refine .c1 rfl rfl rfl rfl (.makeIN rfl sl_22_A ze_2_L by_2_L rfl rfl (by omega) (by omega) (by omega)) ?_
     rintro _ H7x10 ⟨g7x10, rfl, le7x10, ge7x10, at7x10⟩
     replace hbl := hbl.trans le7x10
     refine ⟨hbl, ?_⟩
     replace hf0 := hf0.le le7x10
     replace rk := rk.le le7x10
     replace at2 := le7x10.2 _ _ at2
     replace at10x11 := le7x10.2 _ _ at10x11
     replace at12x15 := le7x10.2 _ _ at12x15
     have lt_at7x10 := GHeap.ltg at7x10
     refine .c1 rfl rfl rfl rfl (.makeIN rfl sl_22_A ze_2_L by_2_L rfl rfl (by omega) (by omega) (by omega)) ?_
     rintro _ H9x10 ⟨g9x10, rfl, le9x10, ge9x10, at9x10⟩
     replace hbl := hbl.trans le9x10
     refine ⟨hbl, ?_⟩
     replace hf0 := hf0.le le9x10
     replace rk := rk.le le9x10
     replace at2 := le9x10.2 _ _ at2
     replace at10x11 := le9x10.2 _ _ at10x11
     replace at12x15 := le9x10.2 _ _ at12x15
     replace at7x10 := le9x10.2 _ _ at7x10
     refine .qB rfl hbl (.build bt_29_Hj rfl rfl rfl) ?_
     refine .r0 rfl rfl rfl (.fillA rfl sz_29_D rfl rfl rfl rfl) ?_
     rintro _ H2008x17 ⟨rfl, st2008x17, at2008x17⟩
     replace hf0 := hf0.sA st2008x17
     replace rk := rk.sA st2008x17
     have ne_g10x11_g2 : NE g10x11 g2 := .a
     replace at10x11 := st2008x17.s at10x11 ne_g10x11_g2.ne
     have ne_g12x15_g2 : NE g12x15 g2 := .a
     replace at12x15 := st2008x17.s at12x15 ne_g12x15_g2.ne
     replace at7x10 := st2008x17.s at7x10
     replace at9x10 := st2008x17.s at9x10
     refine .done ?_
     exact ⟨_, _, _, _, _, ⟨rfl, rfl, rfl, rfl, rfl, trivial⟩, hf0, by simp only [Cat.cells, ownP, List.length_replicate]; assumption, ⟨by assumption, by assumption, by assumption, by assumption, by omega, by omega, by omega, by omega, by omega, by omega, by omega, (v12.st rk (.cons (v12.lowNe (by omega)) (.nil _ _))).low (by omega), by first | exact v12.lowNe (by omega) | exact v12.ne (by omega), by first | exact v12.lowNe (by omega) | exact v12.ne (by omega), by first | exact v12.lowNe (by omega) | exact v12.ne (by omega)⟩⟩
    refine .c1 rfl rfl rfl rfl (.makeIN rfl sl_22_A ze_2_L by_2_L rfl rfl (by omega) (by omega) (by omega)) ?_
    rintro _ H9x11 ⟨g9x11, rfl, le9x11, ge9x11, at9x11⟩
    replace hbl := hbl.trans le9x11
    refine ⟨hbl, ?_⟩
    replace hf0 := hf0.le le9x11
    replace rk := rk.le le9x11
    replace at2 := le9x11.2 _ _ at2
    replace at10x11 := le9x11.2 _ _ at10x11
    replace at12x15 := le9x11.2 _ _ at12x15
    have lt_at9x11 := GHeap.ltg at9x11
    refine .c1 rfl rfl rfl rfl (.makeIN rfl sl_22_A ze_2_L by_2_L rfl rfl (by omega) (by omega) (by omega)) ?_
    rintro _ H7x11 ⟨g7x11, rfl, le7x11, ge7x11, at7x11⟩
    replace hbl := hbl.trans le7x11
    refine ⟨hbl, ?_⟩
    replace hf0 := hf0.le le7x11
    replace rk := rk.le le7x11
    replace at2 := le7x11.2 _ _ at2
    replace at10x11 := le7x11.2 _ _ at10x11
    replace at12x15 := le7x11.2 _ _ at12x15
    replace at9x11 := le7x11.2 _ _ at9x11
    refine .qB rfl hbl (.build bt_29_Hj rfl rfl rfl) ?_
    refine .r0 rfl rfl rfl (.fillA rfl sz_29_D rfl rfl rfl rfl) ?_
    rintro _ H2008x18 ⟨rfl, st2008x18, at2008x18⟩
    replace hf0 := hf0.sA st2008x18
    replace rk := rk.sA st2008x18
    have ne_g10x11_g2 : NE g10x11 g2 := .a
    replace at10x11 := st2008x18.s at10x11 ne_g10x11_g2.ne
    have ne_g12x15_g2 : NE g12x15 g2 := .a
    replace at12x15 := st2008x18.s at12x15 ne_g12x15_g2.ne
    replace at9x11 := st2008x18.s at9x11
    replace at7x11 := st2008x18.s at7x11
    refine .done ?_
    exact ⟨_, _, _, _, _, ⟨rfl, rfl, rfl, rfl, rfl, trivial⟩, hf0, by simp only [Cat.cells, ownP, List.length_replicate]; assumption, ⟨by assumption, by assumption, by assumption, by assumption, by omega, by omega, by omega, by omega, by omega, by omega, by omega, (v12.st rk (.cons (v12.lowNe (by omega)) (.nil _ _))).low (by omega), by first | exact v12.lowNe (by omega) | exact v12.ne (by omega), by first | exact v12.lowNe (by omega) | exact v12.ne (by omega), by first | exact v12.lowNe (by omega) | exact v12.ne (by omega)⟩⟩
   refine .call1 rfl rfl rfl rfl rfl @Try.call151 rfl (l01Own2O_c (hl2 := n5)) ?_
   rintro _ H12x16 ⟨le12x16, g12x16, rr12x16, rfl, at12x16, ge12x16, v12⟩
   have rk := St.refl [g2] H12x16
   have hbl := le12x16
   refine ⟨hbl, ?_⟩
   replace hf0 := hf0.le le12x16
   replace at2 := le12x16.2 _ _ at2
   have lt_at12x16 := GHeap.ltg at12x16
   refine .orI ?_ ?_
   ·
    refine .c1 rfl rfl rfl rfl (.makeIN rfl sl_22_A ze_2_L by_2_L rfl rfl (by omega) (by omega) (by omega)) ?_
    rintro _ H7x12 ⟨g7x12, rfl, le7x12, ge7x12, at7x12⟩
    replace hbl := hbl.trans le7x12
    refine ⟨hbl, ?_⟩
    replace hf0 := hf0.le le7x12
    replace rk := rk.le le7x12
    replace at2 := le7x12.2 _ _ at2
    replace at12x16 := le7x12.2 _ _ at12x16
    have lt_at7x12 := GHeap.ltg at7x12
    refine .orI ?_ ?_
    ·
     refine .c1 rfl rfl rfl rfl (.makeIN rfl sl_22_A ze_2_L by_2_L rfl rfl (by omega) (by omega) (by omega)) ?_
     rintro _ H9x12 ⟨g9x12, rfl, le9x12, ge9x12, at9x12⟩
     replace hbl := hbl.trans le9x12
     refine ⟨hbl, ?_⟩
     replace hf0 := hf0.le le9x12
     replace rk := rk.le le9x12
     replace at2 := le9x12.2 _ _ at2
     replace at12x16 := le9x12.2 _ _ at12x16
     replace at7x12 := le9x12.2 _ _ at7x12
     have lt_at9x12 := GHeap.ltg at9x12
     refine .c1 rfl rfl rfl rfl (.litA rfl sl_22_A ze_2_L rfl rfl rfl rfl) ?_
     rintro _ H10x12 ⟨g10x12, rfl, le10x12, ge10x12, at10x12⟩
     replace hbl := hbl.trans le10x12
     refine ⟨hbl, ?_⟩
     replace hf0 := hf0.le le10x12
     replace rk := rk.le le10x12
     replace at2 := le10x12.2 _ _ at2
     replace at12x16 := le10x12.2 _ _ at12x16
     replace at7x12 := le10x12.2 _ _ at7x12
     replace at9x12 := le10x12.2 _ _ at9x12
     refine .qB rfl hbl (.build bt_29_Hj rfl rfl rfl) ?_
     refine .r0 rfl rfl rfl (.fillA rfl sz_29_D rfl rfl rfl rfl) ?_
     rintro _ H2008x19 ⟨rfl, st2008x19, at2008x19⟩
     replace hf0 := hf0.sA st2008x19
     replace rk := rk.sA st2008x19
     have ne_g12x16_g2 : NE g12x16 g2 := .a
     replace at12x16 := st2008x19.s at12x16 ne_g12x16_g2.ne
     have ne_g7x12_g2 : NE g7x12 g2 := .a
     replace at7x12 := st2008x19.s at7x12 ne_g7x12_g2.ne
     replace at9x12 := st2008x19.s at9x12
     replace at10x12 := st2008x19.s at10x12
     refine .done ?_
     exact ⟨_, _, _, _, _, ⟨rfl, rfl, rfl, rfl, rfl, trivial⟩, hf0, by simp only [Cat.cells, ownP, List.length_replicate]; assumption, ⟨by assumption, by assumption, by assumption, by assumption, by omega, by omega, by omega, by omega, by omega, by omega, by omega, (v12.st rk (.cons (v12.lowNe (by omega)) (.nil _ _))).low (by omega), by first | exact v12.lowNe (by omega) | exact v12.ne (by omega), by first | exact v12.lowNe (by omega) | exact v12.ne (by omega), by first | exact v12.lowNe (by omega) | exact v12.ne (by omega)⟩⟩
    refine .c1 rfl rfl rfl rfl (.litA rfl sl_22_A ze_2_L rfl rfl rfl rfl) ?_
    rintro _ H10x13 ⟨g10x13, rfl, le10x13, ge10x13, at10x13⟩
    replace hbl := hbl.trans le10x13
    refine ⟨hbl, ?_⟩
    replace hf0 := hf0.le le10x13
    replace rk := rk.le le10x13
    replace at2 := le10x13.2 _ _ at2
    replace at12x16 := le10x13.2 _ _ at12x16
    replace at7x12 := le10x13.2 _ _ at7x12
    have lt_at10x13 := GHeap.ltg at10x13
    refine .c1 rfl rfl rfl rfl (.makeIN rfl sl_22_A ze_2_L by_2_L rfl rfl (by omega) (by omega) (by omega)) ?_
    rintro _ H9x13 ⟨g9x13, rfl, le9x13, ge9x13, at9x13⟩
    replace hbl := hbl.trans le9x13
    refine ⟨hbl, ?_⟩
    replace hf0 := hf0.le le9x13
    replace rk := rk.le le9x13
    replace at2 := le9x13.2 _ _ at2
    replace at12x16 := le9x13.2 _ _ at12x16
    replace at7x12 := le9x13.2 _ _ at7x12
    replace at10x13 := le9x13.2 _ _ at10x13
    refine .qB rfl hbl (.build bt_29_Hj rfl rfl rfl) ?_
    refine .r0 rfl rfl rfl (.fillA rfl sz_29_D rfl rfl rfl rfl) ?_
    rintro _ H2008x20 ⟨rfl, st2008x20, at2008x20⟩
    replace hf0 := hf0.sA st2008x20
    replace rk := rk.sA st2008x20
    have ne_g12x16_g2 : NE g12x16 g2 := .a
    replace at12x16 := st2008x20.s at12x16 ne_g12x16_g2.ne
    have ne_g7x12_g2 : NE g7x12 g2 := .a
    replace at7x12 := st2008x20.s at7x12 ne_g7x12_g2.ne
    replace at10x13 := st2008x20.s at10x13
    replace at9x13 := st2008x20.s at9x13
    refine .done ?_
    exact ⟨_, _, _, _, _, ⟨rfl, rfl, rfl, rfl, rfl, trivial⟩, hf0, by simp only [Cat.cells, ownP, List.length_replicate]; assumption, ⟨by assumption, by assumption, by assumption, by assumption, by omega, by omega, by omega, by omega, by omega, by omega, by omega, (v12.st rk (.cons (v12.lowNe (by omega)) (.nil _ _))).low (by omega), by first | exact v12.lowNe (by omega) | exact v12.ne (by omega), by first | exact v12.lowNe (by omega) | exact v12.ne (by omega), by first | exact v12.lowNe (by omega) | exact v12.ne (by omega)⟩⟩
   refine .orI ?_ ?_
   ·
    refine .c1 rfl rfl rfl rfl (.makeIN rfl sl_22_A ze_2_L by_2_L rfl rfl (by omega) (by omega) (by omega)) ?_
    rintro _ H9x14 ⟨g9x14, rfl, le9x14, ge9x14, at9x14⟩
    replace hbl := hbl.trans le9x14
    refine ⟨hbl, ?_⟩
    replace hf0 := hf0.le le9x14
    replace rk := rk.le le9x14
    replace at2 := le9x14.2 _ _ at2
    replace at12x16 := le9x14.2 _ _ at12x16
    have lt_at9x14 := GHeap.ltg at9x14
    refine .orI ?_ ?_
    ·
     refine .c1 rfl rfl rfl rfl (.makeIN rfl sl_22_A ze_2_L by_2_L rfl rfl (by omega) (by omega) (by omega)) ?_
     rintro _ H7x13 ⟨g7x13, rfl, le7x13, ge7x13, at7x13⟩
     replace hbl := hbl.trans le7x13
     refine ⟨hbl, ?_⟩
     replace hf0 := hf0.le le7x13
     replace rk := rk.le le7x13
     replace at2 := le7x13.2 _ _ at2
     replace at12x16 := le7x13.2 _ _ at12x16
     replace at9x14 := le7x13.2 _ _ at9x14
     have lt_at7x13 := GHeap.ltg at7x13
     refine .c1 rfl rfl rfl rfl (.litA rfl sl_22_A ze_2_L rfl rfl rfl rfl) ?_
     rintro _ H10x14 ⟨g10x14, rfl, le10x14, ge10x14, at10x14⟩
     replace hbl := hbl.trans le10x14
     refine ⟨hbl, ?_⟩
     replace hf0 := hf0.le le10x14
     replace rk := rk.le le10x14
     replace at2 := le10x14.2 _ _ at2
     replace at12x16 := le10x14.2 _ _ at12x16
     replace at9x14 := le10x14.2 _ _ at9x14
     replace at7x13 := le10x14.2 _ _ at7x13
     refine .qB rfl hbl (.build bt_29_Hj rfl rfl rfl) ?_
     refine .r0 rfl rfl rfl (.fillA rfl sz_29_D rfl rfl rfl rfl) ?_
     rintro _ H2008x21 ⟨rfl, st2008x21, at2008x21⟩
     replace hf0 := hf0.sA st2008x21
     replace rk := rk.sA st2008x21
     have ne_g12x16_g2 : NE g12x16 g2 := .a
     replace at12x16 := st2008x21.s at12x16 ne_g12x16_g2.ne
     have ne_g9x14_g2 : NE g9x14 g2 := .a
     replace at9x14 := st2008x21.s at9x14 ne_g9x14_g2.ne
     replace at7x13 := st2008x21.s at7x13
     replace at10x14 := st2008x21.s at10x14
     refine .done ?_
     exact ⟨_, _, _, _, _, ⟨rfl, rfl, rfl, rfl, rfl, trivial⟩, hf0, by simp only [Cat.cells, ownP, List.length_replicate]; assumption, ⟨by assumption, by assumption, by assumption, by assumption, by omega, by omega, by omega, by omega, by omega, by omega, by omega, (v12.st rk (.cons (v12.lowNe (by omega)) (.nil _ _))).low (by omega), by first | exact v12.lowNe (by omega) | exact v12.ne (by omega), by first | exact v12.lowNe (by omega) | exact v12.ne (by omega), by first | exact v12.lowNe (by omega) | exact v12.ne (by omega)⟩⟩
    refine .c1 rfl rfl rfl rfl (.litA rfl sl_22_A ze_2_L rfl rfl rfl rfl) ?_
    rintro _ H10x15 ⟨g10x15, rfl, le10x15, ge10x15, at10x15⟩
    replace hbl := hbl.trans le10x15
    refine ⟨hbl, ?_⟩
    replace hf0 := hf0.le le10x15
    replace rk := rk.le le10x15
    replace at2 := le10x15.2 _ _ at2
    replace at12x16 := le10x15.2 _ _ at12x16
    replace at9x14 := le10x15.2 _ _ at9x14
    have lt_at10x15 := GHeap.ltg at10x15
    refine .c1 rfl rfl rfl rfl (.makeIN rfl sl_22_A ze_2_L by_2_L rfl rfl (by omega) (by omega) (by omega)) ?_
    rintro _ H7x14 ⟨g7x14, rfl, le7x14, ge7x14, at7x14⟩
    replace hbl := hbl.trans le7x14
    refine ⟨hbl, ?_⟩
    replace hf0 := hf0.le le7x14
    replace rk := rk.le le7x14
    replace at2 := le7x14.2 _ _ at2
    replace at12x16 := le7x14.2 _ _ at12x16
    replace at9x14 := le7x14.2 _ _ at9x14
    replace at10x15 := le7x14.2 _ _ at10x15
    refine .qB rfl hbl (.build bt_29_Hj rfl rfl rfl) ?_
    refine .r0 rfl rfl rfl (.fillA rfl sz_29_D rfl rfl rfl rfl) ?_
    rintro _ H2008x22 ⟨rfl, st2008x22, at2008x22⟩
    replace hf0 := hf0.sA st2008x22
    replace rk := rk.sA st2008x22
    have ne_g12x16_g2 : NE g12x16 g2 := .a
    replace at12x16 := st2008x22.s at12x16 ne_g12x16_g2.ne
    have ne_g9x14_g2 : NE g9x14 g2 := .a
    replace at9x14 := st2008x22.s at9x14 ne_g9x14_g2.ne
    replace at10x15 := st2008x22.s at10x15
    replace at7x14 := st2008x22.s at7x14
    refine .done ?_
    exact ⟨_, _, _, _, _, ⟨rfl, rfl, rfl, rfl, rfl, trivial⟩, hf0, by simp only [Cat.cells, ownP, List.length_replicate]; assumption, ⟨by assumption, by assumption, by assumption, by assumption, by omega, by omega, by omega, by omega, by omega, by omega, by omega, (v12.st rk (.cons (v12.lowNe (by omega)) (.nil _ _))).low (by omega), by first | exact v12.lowNe (by omega) | exact v12.ne (by omega), by first | exact v12.lowNe (by omega) | exact v12.ne (by omega), by first | exact v12.lowNe (by omega) | exact v12.ne (by omega)⟩⟩
   refine .c1 rfl rfl rfl rfl (.litA rfl sl_22_A ze_2_L rfl rfl rfl rfl) ?_
   rintro _ H10x16 ⟨g10x16, rfl, le10x16, ge10x16, at10x16⟩
   replace hbl := hbl.trans le10x16
   refine ⟨hbl, ?_⟩
   replace hf0 := hf0.le le10x16
   replace rk := rk.le le10x16
   replace at2 := le10x16.2 _ _ at2
   replace at12x16 := le10x16.2 _ _ at12x16
   have lt_at10x16 := GHeap.ltg at10x16
   refine .orI ?_ ?_
   ·
    refine .c1 rfl rfl rfl rfl (.makeIN rfl sl_22_A ze_2_L by_2_L rfl rfl (by omega) (by omega) (by omega)) ?_
    rintro _ H7x15 ⟨g7x15, rfl, le7x15, ge7x15, at7x15⟩
    replace hbl := hbl.trans le7x15
    refine ⟨hbl, ?_⟩
    replace hf0 := hf0.le le7x15
    replace rk := rk.le le7x15
    replace at2 := le7x15.2 _ _ at2
    replace at12x16 := le7x15.2 _ _ at12x16
    replace at10x16 := le7x15.2 _ _ at10x16
    have lt_at7x15 := GHeap.ltg at7x15
    refine .c1 rfl rfl rfl rfl (.makeIN rfl sl_22_A ze_2_L by_2_L rfl rfl (by omega) (by omega) (by omega)) ?_
    rintro _ H9x15 ⟨g9x15, rfl, le9x15, ge9x15, at9x15⟩
    replace hbl := hbl.trans le9x15
    refine ⟨hbl, ?_⟩
    replace hf0 := hf0.le le9x15
    replace rk := rk.le le9x15
    replace at2 := le9x15.2 _ _ at2
    replace at12x16 := le9x15.2 _ _ at12x16
    replace at10x16 := le9x15.2 _ _ at10x16
    replace at7x15 := le9x15.2 _ _ at7x15
    refine .qB rfl hbl (.build bt_29_Hj rfl rfl rfl) ?_
    refine .r0 rfl rfl rfl (.fillA rfl sz_29_D rfl rfl rfl rfl) ?_
    rintro _ H2008x23 ⟨rfl, st2008x23, at2008x23⟩
    replace hf0 := hf0.sA st2008x23
    replace rk := rk.sA st2008x23
    have ne_g12x16_g2 : NE g12x16 g2 := .a
    replace at12x16 := st2008x23.s at12x16 ne_g12x16_g2.ne
    have ne_g10x16_g2 : NE g10x16 g2 := .a
    replace at10x16 := st2008x23.s at10x16 ne_g10x16_g2.ne
    replace at7x15 := st2008x23.s at7x15
    replace at9x15 := st2008x23.s at9x15
    refine .done ?_
    exact ⟨_, _, _, _, _, ⟨rfl, rfl, rfl, rfl, rfl, trivial⟩, hf0, by simp only [Cat.cells, ownP, List.length_replicate]; assumption, ⟨by assumption, by assumption, by assumption, by assumption, by omega, by omega, by omega, by omega, by omega, by omega, by omega, (v12.st rk (.cons (v12.lowNe (by omega)) (.nil _ _))).low (by omega), by first | exact v12.lowNe (by omega) | exact v12.ne (by omega), by first | exact v12.lowNe (by omega) | exact v12.ne (by omega), by first | exact v12.lowNe (by omega) | exact v12.ne (by omega)⟩⟩
   refine .c1 rfl rfl rfl rfl (.makeIN rfl sl_22_A ze_2_L by_2_L rfl rfl (by omega) (by omega) (by omega)) ?_
   rintro _ H9x16 ⟨g9x16, rfl, le9x16, ge9x16, at9x16⟩
   replace hbl := hbl.trans le9x16
   refine ⟨hbl, ?_⟩
   replace hf0 := hf0.le le9x16
   replace rk := rk.le le9x16
   replace at2 := le9x16.2 _ _ at2
   replace at12x16 := le9x16.2 _ _ at12x16
   replace at10x16 := le9x16.2 _ _ at10x16
   have lt_at9x16 := GHeap.ltg at9x16
   refine .c1 rfl rfl rfl rfl (.makeIN rfl sl_22_A ze_2_L by_2_L rfl rfl (by omega) (by omega) (by omega)) ?_
   rintro _ H7x16 ⟨g7x16, rfl, le7x16, ge7x16, at7x16⟩
   replace hbl := hbl.trans le7x16
   refine ⟨hbl, ?_⟩
   replace hf0 := hf0.le le7x16
   replace rk := rk.le le7x16
   replace at2 := le7x16.2 _ _ at2
   replace at12x16 := le7x16.2 _ _ at12x16
   replace at10x16 := le7x16.2 _ _ at10x16
   replace at9x16 := le7x16.2 _ _ at9x16
   refine .qB rfl hbl (.build bt_29_Hj rfl rfl rfl) ?_
   refine .r0 rfl rfl rfl (.fillA rfl sz_29_D rfl rfl rfl rfl) ?_
   rintro _ H2008x24 ⟨rfl, st2008x24, at2008x24⟩
   replace hf0 := hf0.sA st2008x24
   replace rk := rk.sA st2008x24
   have ne_g12x16_g2 : NE g12x16 g2 := .a
   replace at12x16 := st2008x24.s at12x16 ne_g12x16_g2.ne
   have ne_g10x16_g2 : NE g10x16 g2 := .a
   replace at10x16 := st2008x24.s at10x16 ne_g10x16_g2.ne
   replace at9x16 := st2008x24.s at9x16
   replace at7x16 := st2008x24.s at7x16
   refine .done ?_
   exact ⟨_, _, _, _, _, ⟨rfl, rfl, rfl, rfl, rfl, trivial⟩, hf0, by simp only [Cat.cells, ownP, List.length_replicate]; assumption, ⟨by assumption, by assumption, by assumption, by assumption, by omega, by omega, by omega, by omega, by omega, by omega, by omega, (v12.st rk (.cons (v12.lowNe (by omega)) (.nil _ _))).low (by omega), by first | exact v12.lowNe (by omega) | exact v12.ne (by omega), by first | exact v12.lowNe (by omega) | exact v12.ne (by omega), by first | exact v12.lowNe (by omega) | exact v12.ne (by omega)⟩⟩
  rintro fr902 H902 ⟨w1, w2, w3, w4, rr, hsub902, st902, at902, o902⟩
  replace hle := hle.st st902 (fun k hk => ⟨by omega, trivial⟩)
  refine hK3 _ _ ?_
  refine .forget hsub902 ?_
  refine .ret ?_
  refine hret _ _ ?_
  refine ⟨_, _, _, _, rfl, ag_29_D, (by rfl), (Mem.of_get at902), ?_⟩
  exact ⟨⟨1, List.replicate T.length 0, List.replicate T.length 0, [0], T⟩, rect_mk (by omega) (by simp; omega) (by simp) (.rep _ (by omega) (by omega)) (.rep _ (by omega) (by omega)) rfl (by unfold Bd; decide) (by simp) (by rw [List.length_replicate]; exact ht.mono (by omega) (by omega)), hle, w1, w2, w3, w4, rr, rfl, o902.low (by omega)⟩
end Go.Proofs.Ytjdedelneppnlaa
