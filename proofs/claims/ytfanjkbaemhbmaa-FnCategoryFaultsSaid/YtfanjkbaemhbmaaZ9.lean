/- Preorders that are drawn. No condition but those of each statement. -/
import Derived.Test.YtfanjkbaemhbmaaZ8
namespace Go.Proofs.Ytfanjkbaemhbmaa
open Go Go.GL Go.RowKit Go.Proofs
set_option maxHeartbeats 8000000 in
theorem l02RelationG_c {gS n : Nat} {H : GHeap} (hs : DSrc 86 H gS := by assumption) (hn : n ≤ 8) :
    GCalls Try.prog 32 [.pointer (some ⟨gS, 0, none⟩), .int .i64 (n : Int)] H (NewRelG 86 gS n H) := by
  have hlS := hs.lt
  refine GCalls.body (N := 95) (rs := [.tmp 4]) Try.func32 rfl rfl rfl rfl (fun Qx d0 hend => ?_)
  refine .fg [0, 1] rfl ?_
  have d := St.refl [gS] H
  refine .seq (fun K1 k0 => .region (.mv rfl (.nil (k0 _ _ (.seq (fun K2 l0 => .region ?_))))))
  refine .R rfl (.litA rfl sl_25_B ze_24_Hj rfl rfl rfl rfl) ?_
  rintro _ H12 ⟨k2, rfl, d7, ge12, e0⟩
  have nx_H12 := d7.1
  replace d := d.le d7
  have lt_at12 := GHeap.ltg e0
  refine .mv rfl (.nil (l0 _ _ (.seq (fun K3 k4 => .seq (fun K4 k5 => .region (.mv rfl (.nil (k5 _ _ ?_))))))))
  refine .block ?_
  refine .loopR (σ := Nat × Nat × List (List Int) × (Nat → Option Addr)) [(0, some _), (1, some _)] (fun (i, gV, T, rr) => [(6, some (.int .i64 (i : Int))), (5, some (.slice (some ⟨gV, 0, none⟩) i i))]) (fun (i, gV, T, rr) H' => i ≤ n ∧ RelSt 86 2 24 H H' gS gV n i rr T ∧ Rfl T) (fun (i, gV, T, rr) => n - i) ((0, k2, [], fun _ => none)) ⟨rfl, rfl, trivial⟩ ⟨rfl, rfl, trivial⟩ ?_ ?_
  ·
   exact ⟨by omega, ⟨d, e0, by omega, .nil _ _ _ _, rfl, fun i hi => by simp at hi, hs.le d7⟩, .nil⟩
  rintro ⟨i, gV, T, rr⟩ HL1 hI KL1 g2
  refine .forget (fr' := [(6, some (.int .i64 (i : Int))), (5, some (.slice (some ⟨gV, 0, none⟩) i i)), (0, some _), (1, some _)]) ⟨rfl, rfl, rfl, rfl, trivial⟩ ?_
  obtain ⟨hi, hS, hRf⟩ := hI
  obtain ⟨d, a5, b5, hR, hlen, hrow, hs⟩ := id hS
  have rk := St.refl [gS] HL1
  have hfl : (slsL rr T).length = T.length := length_slsL _ _
  have h := GHeap.ltg a5
  refine .seq (fun K5 k8 => .seq (fun K6 k1 => .region (.mv rfl (.mv rfl (.q rfl (.cmp rfl rfl rfl) (.nil (k1 _ _ ?_)))))))
  refine .cond rfl (fun f1 => ?_) (fun f1 => ?_)
  ·
   simp only [sps] at f1
   refine .skip ?_
   refine k8 _ _ (.seq (fun K7 k3 => ?_))
   refine .block ?_
   refine .seq (fun K8 k6 => .region (.mv rfl ?_))
   refine .R rfl (.makeI rfl sl_24_A ze_2_N by_2_N rfl rfl (by omega) (by omega) (by omega) (by omega)) ?_
   rintro _ H19 ⟨d9, rfl, b6, ge19, d4⟩
   have nx_H19 := b6.1
   replace d := d.le b6
   replace hs := hs.le b6
   replace rk := rk.le b6
   replace a5 := b6.2 _ _ a5
   have lt_at19 := GHeap.ltg d4
   simp only [Int.toNat_natCast] at d4
   refine .mv rfl (.nil (k6 _ _ (.seq (fun K9 l2 => .region (.mv rfl (.mv rfl ?_))))))
   refine .q rfl (.idxN sl_24_A (by first | assumption | exact SlA.of_row d4 (by first | rfl | (simp; done) | (simp <;> omega))) rfl rfl (by omega)) ?_
   refine .r0 rfl rfl (.storeI rfl sz_2_Ch rfl rfl (by assumption) (by first | omega | (simp <;> omega))) ?_
   rintro _ H6003 ⟨rfl, v, a6⟩
   have nx_H6003 := v.nx
   replace d := d.sA v
   replace hs := hs.sA v
   replace rk := rk.sA v
   have r : NE gV d9 := .a
   replace a5 := v.s a5 r.ne
   have lt_at6003 := GHeap.ltg a6
   rw [Nat.zero_add] at a6
   refine .nil (l2 _ _ (.seq (fun K10 g3 => .seq (fun K11 i8 => .region (.mv rfl ?_)))))
   refine .q rfl (.add rfl rfl rfl (by omega) (by omega)) ?_
   refine .mv rfl (.nil (i8 _ _ ?_))
   refine .block ?_
   refine .loopR (σ := Nat × List Int) [(0, some _), (1, some _), (5, some _), (6, some _), (7, some _)] (fun (j, row) => [(8, some (.int .i64 (j : Int)))]) (fun (j, row) H' => ((i < j ∧ j ≤ n ∧ row.length = n) ∧ row.getD i 0 = 1) ∧ RelSt 86 2 24 H H' gS gV n i rr T ∧ H'.get d9 = some (.row (ints row) 2 true) ∧ ∀ j, j < T.length → rr j ≠ some ⟨d9, 0, none⟩) (fun (j, row) => n - j) ((i + 1, (List.replicate n 0).set i 1)) ⟨rfl, rfl, rfl, rfl, rfl, trivial⟩ ⟨rfl, trivial⟩ ?_ ?_
   ·
    exact ⟨⟨⟨by omega, by omega, by simp⟩, by rw [getD_set1 (by simp; omega), if_pos rfl]⟩, ⟨d, a5, b5, hR.st rk (.cons (hR.lowNe hlS) (.nil _ _)), hlen, hrow, hs⟩, a6, hR.ne (by omega)⟩
   rintro ⟨j, row⟩ HL2 hI KL2 i6
   refine .forget (fr' := [(8, some (.int .i64 (j : Int))), (0, some _), (1, some _), (5, some _), (6, some _), (7, some _)]) ⟨rfl, rfl, rfl, rfl, rfl, rfl, trivial⟩ ?_
   obtain ⟨⟨⟨hij, hj, hrl⟩, h1⟩, hS, a7, h7⟩ := hI
   obtain ⟨d, a5, b5, hR, hlen, hrow, hs⟩ := id hS
   have rk := St.refl [gS, d9, gV] HL2
   have hfl : (slsL rr T).length = T.length := length_slsL _ _
   have h := GHeap.ltg a5
   have lt_a7 := GHeap.ltg a7
   refine .seq (fun K12 f3 => .seq (fun K13 i7 => .region (.mv rfl (.mv rfl (.q rfl (.cmp rfl rfl rfl) (.nil (i7 _ _ ?_)))))))
   refine .cond rfl (fun g0 => ?_) (fun g0 => ?_)
   ·
    try simp only [sps] at g0
    refine .skip ?_
    refine f3 _ _ (.seq (fun K14 h6 => ?_))
    refine .block ?_
    refine .region (.mv rfl (.mv rfl (.mv rfl ?_)))
    refine .call rfl rfl rfl rfl @Try.call30 rfl (l01Next_c) ?_
    rintro _ H33 ⟨l1, rfl, ka33, kb33, kc33, c3, hs⟩
    have nx_H33 := c3.nx
    replace d := d.sA c3
    replace rk := rk.sA c3
    have l : NE gV gS := .a
    replace a5 := c3.s a5 l.ne
    replace a7 := c3.s a7
    refine .q rfl (.idxN sl_24_A (by first | assumption | exact SlA.of_row a7 (by first | rfl | (simp; done) | (simp <;> omega))) rfl rfl (by omega)) ?_
    refine .r0 rfl rfl (.storeI rfl sz_2_Ch rfl rfl (by assumption) (by first | omega | (simp <;> omega))) ?_
    rintro _ H10005 ⟨rfl, m, b0⟩
    have nx_H10005 := m.nx
    replace d := d.sA m
    replace rk := rk.sA m
    replace hs := hs.sA m
    have r : NE gV d9 := .a
    replace a5 := m.s a5 r.ne
    have lt_at10005 := GHeap.ltg b0
    rw [Nat.zero_add] at b0
    refine .nil (h6 _ _ (.region (.mv rfl ?_)))
    refine .q rfl (.add rfl rfl rfl (by omega) (by omega)) ?_
    refine .mv rfl (.nil ?_)
    refine i6 ((j + 1, row.set j l1)) _ _ ?_ ?_ ⟨rfl, rfl, rfl, rfl, rfl, rfl, trivial⟩
    ·
     exact ⟨⟨⟨by omega, by omega, by simp; omega⟩, by rw [getD_set1 (by omega), if_neg (by omega)]; exact h1⟩, ⟨d, a5, b5, hR.st rk (.cons (hR.lowNe hlS) (.cons h7 (.cons (hR.neT hS.a5 rfl) (.nil _ _)))), hlen, hrow, hs⟩, by assumption, h7⟩
    (dsimp only; omega)
   try simp only [sps] at g0
   refine .exit ?_
   refine g3 _ _ (.region (.mv rfl (.mv rfl ?_)))
   refine .R rfl (.litA rfl sl_25_B ze_24_Hj rfl rfl rfl rfl) ?_
   rintro _ H37 ⟨g37, rfl, b2, ge37, d8⟩
   have nx_H37 := b2.1
   replace d := d.le b2
   replace hs := hs.le b2
   replace rk := rk.le b2
   replace a5 := b2.2 _ _ a5
   replace a7 := b2.2 _ _ a7
   have lt_at37 := GHeap.ltg d8
   refine .R rfl (.appendV rfl sl_25_B ze_24_Hj rfl by_24_Hj sl_25_B rfl rfl (by assumption) (by assumption) (by first | omega | (simp <;> omega)) rfl rfl (by omega) (by omega)) ?_
   rintro _ H38 ⟨k7, rfl, b1, ge38, j6⟩
   have nx_H38 := b1.nx
   replace d := d.sA b1
   replace hs := hs.sA b1
   replace rk := rk.sA b1
   replace a7 := b1.s a7
   replace d8 := b1.s d8
   have lt_at38 := GHeap.ltg j6
   refine .mv rfl (.nil (k3 _ _ (.region (.mv rfl ?_))))
   refine .q rfl (.add rfl rfl rfl (by omega) (by omega)) ?_
   refine .mv rfl (.nil ?_)
   refine g2 ((i + 1, k7, T ++ [row], upd rr T.length (some ⟨d9, 0, none⟩))) _ _ ?_ ?_ ⟨rfl, rfl, rfl, rfl, trivial⟩
   ·
    exact ⟨by omega, ⟨d, by rw [slsL_snoc, hrl]; assumption, by omega, (hR.st rk (.cons (hR.lowNe hlS) (.cons h7 (.cons (hR.neT hS.a5 rfl) (.nil _ _))))).snoc2 a7 h7 (by omega), by simp; omega, rows_snoc hrow hrl, hs⟩, hRf.snoc (by rw [hlen]; exact h1)⟩
   (dsimp only; omega)
  try simp only [sps] at f1
  refine .exit ?_
  refine k4 _ _ (.seq (fun K15 d2 => .seq (fun K16 e3 => .region (.mv rfl (.q rfl (.cmp rfl rfl rfl) (.mv rfl ?_))))))
  refine .split (fun j3 => ?_) (fun j3 => ?_)
  ·
   try simp only [sps] at j3
   refine .qg rfl (.move rfl) ?_
   refine .callg rfl rfl rfl rfl rfl rfl @Try.call30 rfl (l01Next_c) ?_
   rintro _ j9 ⟨k43, rfl, ka43, kb43, kc43, c7, hs⟩
   have nx_H43 := c7.nx
   replace d := d.sA c7
   replace rk := rk.sA c7
   have l : NE gV gS := .a
   replace a5 := c7.s a5 l.ne
   refine .qg rfl (.cmp rfl rfl rfl) (.q rfl (.pickT rfl rfl) (.nil (e3 _ _ ?_)))
   refine .cond rfl (fun e6 => ?_) (fun e6 => ?_)
   ·
    simp only [sps] at e6
    have k9 := hR.st rk (.cons (hR.lowNe hlS) (.nil _ _))
    obtain ⟨gi, hgi, hbi, hati⟩ := k9.row ((n : Int) - 1).toNat (by omega)
    have m3 := row_ne a5 hati rfl
    have hrw := hrow ((n : Int) - 1).toNat (by omega)
    refine .regionDB mo_B (.q 0 (.q 1 (.q 2 (.q 3 (.q 4 (.q 5 (.q 6 (.c 7 1 (.q 8 (.c 9 0 (.done))))))))))) (by kernel_rfl) (GHeap.le_erase j9 gS) ?_
    have b9 := GHeap.le_erase j9 gS
    have j8 := GHeap.get_erase_of (g := gS) a5 (by omega)
    have hatiB := GHeap.get_erase_of (g := gS) hati (by omega)
    have cC := slsL_cell j8 (i := ((n : Int) - 1).toNat) (by omega)
    rw [hgi] at cC
    refine .qB rfl b9 (.move rfl) (.qB rfl b9 (.move rfl) ?_)
    refine .qB rfl b9 (.sub rfl rfl rfl (by omega) (by omega)) ?_
    refine .qB rfl b9 (.idx1 sl_25_B (SlA.of_row j8 (by first | rfl | (simp; done) | (simp <;> omega))) rfl rfl (by omega) (by omega)) ?_
    refine .qB rfl b9 (.load on_24_B rfl cC) ?_
    have a1 := GHeap.ltg hati
    refine .qB rfl b9 (.move rfl) (.qB rfl b9 (.move rfl) ?_)
    refine .call1 rfl rfl rfl rfl rfl @Try.call30 rfl (l01Next_c) ?_
    rintro _ H53 ⟨k53, rfl, ka53, kb53, kc53, b3, hs⟩
    replace b9 := b9.erase_st b3
    refine ⟨b9, ?_⟩
    have nx_H53 := b3.nx
    replace d := d.sA b3
    replace rk := rk.sA b3
    replace a5 := b3.s a5 l.ne
    replace hati := b3.s hati
    refine .qB rfl b9 (.idx1 sl_24_A (SlA.of_row hatiB (by first | rfl | (simp; done) | (simp <;> omega))) rfl rfl (by omega) (by omega)) ?_
    have hSb := RelSt.mk d a5 b5 (hR.st rk (.cons (hR.lowNe hlS) (.nil _ _))) hlen hrow hs
    refine .r0 rfl rfl rfl (.storeI rfl sz_2_Ch rfl rfl (by assumption) (by first | omega | (simp <;> omega))) ?_
    rintro _ d5 ⟨rfl, o, a8⟩
    have nx_H13009 := o.nx
    replace d := d.sA o
    replace hs := hs.sA o
    have b : NE gV gi := .a
    replace a5 := o.s a5 b.ne
    have lt_at13009 := GHeap.ltg a8
    have b4 := hSb.set1 (by omega) hgi hbi o a8 (by rw [List.length_set]; exact hrw) m3 hlS
    obtain ⟨T1, t, c4⟩ : ∃ T1, RelSt 86 2 24 H d5 gS gV n i rr T1 ∧ Rfl T1 := ⟨_, b4, hRf.set (by omega) (by omega)⟩
    refine .done ?_
    refine d2 _ _ (.seq (fun K17 f7 => .seq (fun K18 i4 => .region (.mv rfl (.nil (i4 _ _ ?_))))))
    refine .block ?_
    refine .loopR (σ := Nat × List (List Int)) [(1, some _), (5, some _)] (fun (x, T) => [(9, some (.int .i64 (x : Int)))]) (fun (x, T) H' => x ≤ n ∧ RelSt 86 2 24 H H' gS gV n i rr T ∧ Rfl T ∧ TrU n x T) (fun (x, T) => n - x) ((0, T1)) ⟨rfl, rfl, trivial⟩ ⟨rfl, trivial⟩ ?_ ?_
    ·
     exact ⟨by omega, t, c4, fun k hk => by omega⟩
    rintro ⟨x, T⟩ HL3 hI KL3 c2
    refine .forget (fr' := [(9, some (.int .i64 (x : Int))), (1, some _), (5, some _)]) ⟨rfl, rfl, rfl, trivial⟩ ?_
    obtain ⟨hx, hS, hRf, hTr⟩ := hI
    obtain ⟨d, a5, b5, hR, hlen, hrow, hs⟩ := id hS
    have c8 := hlen
    have h := GHeap.ltg a5
    refine .seq (fun K19 e9 => .seq (fun K20 g7 => .region (.mv rfl (.mv rfl (.q rfl (.cmp rfl rfl rfl) (.nil (g7 _ _ ?_)))))))
    refine .cond rfl (fun c6 => ?_) (fun c6 => ?_)
    ·
     simp only [sps] at c6
     refine .skip ?_
     refine e9 _ _ (.seq (fun K21 g6 => ?_))
     refine .block ?_
     refine .seq (fun K22 f2 => .region (.mv rfl (.nil (f2 _ _ ?_))))
     refine .block ?_
     refine .loopR (σ := Nat × List (List Int)) [(1, some _), (5, some _), (9, some _)] (fun (y, T4) => [(10, some (.int .i64 (y : Int)))]) (fun (y, T4) H' => y ≤ n ∧ RelSt 86 2 24 H H' gS gV n i rr T4 ∧ War n x y 0 T T4) (fun (y, T4) => n - y) ((0, T)) ⟨rfl, rfl, rfl, trivial⟩ ⟨rfl, trivial⟩ ?_ ?_
     ·
      exact ⟨by omega, hS, .start⟩
     rintro ⟨y, T4⟩ HL4 hI KL4 c0
     refine .forget (fr' := [(10, some (.int .i64 (y : Int))), (1, some _), (5, some _), (9, some _)]) ⟨rfl, rfl, rfl, rfl, trivial⟩ ?_
     obtain ⟨hy, hS, hW⟩ := hI
     obtain ⟨d, a5, b5, hR, hlen, hrow, hs⟩ := id hS
     have h := GHeap.ltg a5
     refine .seq (fun K23 g9 => .seq (fun K24 e7 => .region (.mv rfl (.mv rfl (.q rfl (.cmp rfl rfl rfl) (.nil (e7 _ _ ?_)))))))
     refine .cond rfl (fun b8 => ?_) (fun b8 => ?_)
     ·
      simp only [sps] at b8
      refine .skip ?_
      refine g9 _ _ (.seq (fun K25 i2 => ?_))
      refine .block ?_
      refine .seq (fun K26 i9 => .region (.mv rfl (.nil (i9 _ _ ?_))))
      refine .block ?_
      refine .loopR (σ := Nat × List (List Int)) [(1, some _), (5, some _), (9, some _), (10, some _)] (fun (z, T5) => [(11, some (.int .i64 (z : Int)))]) (fun (z, T5) H' => z ≤ n ∧ RelSt 86 2 24 H H' gS gV n i rr T5 ∧ War n x y z T T5) (fun (z, T5) => n - z) ((0, T4)) ⟨rfl, rfl, rfl, rfl, trivial⟩ ⟨rfl, trivial⟩ ?_ ?_
      ·
       exact ⟨by omega, hS, hW⟩
      rintro ⟨z, T5⟩ HL5 hI KL5 u
      refine .forget (fr' := [(11, some (.int .i64 (z : Int))), (1, some _), (5, some _), (9, some _), (10, some _)]) ⟨rfl, rfl, rfl, rfl, rfl, trivial⟩ ?_
      obtain ⟨hz, hS, hW⟩ := hI
      obtain ⟨d, a5, b5, hR, hlen, hrow, hs⟩ := id hS
      have h := GHeap.ltg a5
      refine .seq (fun K27 i5 => .seq (fun K28 j4 => .region (.mv rfl (.mv rfl (.q rfl (.cmp rfl rfl rfl) (.nil (j4 _ _ ?_)))))))
      refine .cond rfl (fun c5 => ?_) (fun c5 => ?_)
      ·
       simp only [sps] at c5
       have iT := hR.intss a5 b5
       have u1 := iT.2 y (by omega)
       have u2 := iT.2 x (by omega)
       have w1 := hrow y (by omega)
       have w2 := hrow x (by omega)
       refine .skip ?_
       refine i5 _ _ (.seq (fun K29 d3 => ?_))
       refine .block ?_
       refine .seq (fun K30 e4 => .region (.mv rfl (.mv rfl ?_)))
       refine .q rfl (.idxN sl_25_B (by first | exact (Intss.sl (by assumption)) | exact SlA.of_row a5 (by first | rfl | (simp; done) | (simp <;> omega))) rfl rfl (by omega)) ?_
       refine .q rfl (.loadR on_24_B (by assumption) rfl (by omega)) ?_
       refine .mv rfl ?_
       refine .q rfl (.idxN sl_24_A (by assumption) rfl rfl (by omega)) ?_
       refine .q rfl (.loadI on_2_A (by assumption) rfl (by omega)) ?_
       refine .q rfl (.cmp rfl rfl rfl) (.mv rfl ?_)
       refine .split (fun a4 => ?_) (fun a4 => ?_)
       ·
        simp only [sps] at a4
        refine .qg rfl (.move rfl) (.qg rfl (.move rfl) ?_)
        refine .qg rfl (.idxN sl_25_B (by first | exact (Intss.sl (by assumption)) | exact SlA.of_row a5 (by first | rfl | (simp; done) | (simp <;> omega))) rfl rfl (by omega)) ?_
        refine .qg rfl (.loadR on_24_B (by assumption) rfl (by omega)) ?_
        refine .qg rfl (.move rfl) ?_
        refine .qg rfl (.idxN sl_24_A (by assumption) rfl rfl (by omega)) ?_
        refine .qg rfl (.loadI on_2_A (by assumption) rfl (by omega)) ?_
        refine .qg rfl (.cmp rfl rfl rfl) (.q rfl (.pickT rfl rfl) (.nil (e4 _ _ ?_)))
        refine .cond rfl (fun a2 => ?_) (fun a2 => ?_)
        ·
         simp only [sps] at a2
         refine .region ?_
         obtain ⟨gi, hgi, hbi, hati⟩ := hR.row y (by omega)
         have m3 := row_ne a5 hati rfl
         have cC := slsL_cell a5 (i := y) (by omega)
         rw [hgi] at cC
         refine .mv rfl (.mv rfl ?_)
         refine .q rfl (.idxN sl_25_B (by first | exact (Intss.sl (by assumption)) | exact SlA.of_row a5 (by first | rfl | (simp; done) | (simp <;> omega))) rfl rfl (by omega)) ?_
         refine .q rfl (.load on_24_B rfl cC) ?_
         have a1 := GHeap.ltg hati
         refine .mv rfl ?_
         refine .q rfl (.idxN sl_24_A (by first | assumption | exact SlA.of_row hati (by first | rfl | (simp; done) | (simp <;> omega))) rfl rfl (by omega)) ?_
         refine .r0 rfl rfl (.storeI rfl sz_2_Ch rfl rfl (by assumption) (by first | omega | (simp <;> omega))) ?_
         rintro _ c9 ⟨rfl, p, a9⟩
         have nx_H24006 := p.nx
         replace d := d.sA p
         replace hs := hs.sA p
         have b : NE gV gi := .a
         replace a5 := p.s a5 b.ne
         have lt_at24006 := GHeap.ltg a9
         have b4 := hS.set1 (by omega) hgi hbi p a9 (by rw [List.length_set]; exact w1) m3 hlS
         rw [Nat.zero_add] at b4
         obtain ⟨T2, t, a3⟩ : ∃ T2, RelSt 86 2 24 H c9 gS gV n i rr T2 ∧ War n x y (z + 1) T T2 := ⟨_, b4, hW.put (by omega) (by omega) (by omega) (by omega) (by omega) a4 a2⟩
         refine .nil (d3 _ _ (.region (.mv rfl ?_)))
         refine .q rfl (.add rfl rfl rfl (by omega) (by omega)) ?_
         refine .mv rfl (.nil ?_)
         refine u ((z + 1, T2)) _ _ ?_ ?_ ⟨rfl, rfl, rfl, rfl, rfl, trivial⟩
         ·
          exact ⟨by omega, t, a3⟩
         (dsimp only; omega)
        simp only [sps] at a2
        obtain ⟨T2, t, a3⟩ : ∃ T2, RelSt 86 2 24 H HL5 gS gV n i rr T2 ∧ War n x y (z + 1) T T2 := ⟨T5, hS, hW.skip (by omega) (by omega) (by omega) fun hh => a2 hh.2⟩
        refine .skip ?_
        refine d3 _ _ (.region (.mv rfl ?_))
        refine .q rfl (.add rfl rfl rfl (by omega) (by omega)) ?_
        refine .mv rfl (.nil ?_)
        refine u ((z + 1, T2)) _ _ ?_ ?_ ⟨rfl, rfl, rfl, rfl, rfl, trivial⟩
        ·
         exact ⟨by omega, t, a3⟩
        (dsimp only; omega)
       simp only [sps] at a4
       obtain ⟨T2, t, a3⟩ : ∃ T2, RelSt 86 2 24 H HL5 gS gV n i rr T2 ∧ War n x y (z + 1) T T2 := ⟨T5, hS, hW.skip (by omega) (by omega) (by omega) fun hh => a4 hh.1⟩
       refine .z rfl (.z rfl (.z rfl (.z rfl (.z rfl (.z rfl (.z rfl (.z rfl (.q rfl (.pickF rfl rfl) (.nil (e4 _ _ ?_))))))))))
       refine .condF rfl ?_
       refine .skip ?_
       refine d3 _ _ (.region (.mv rfl ?_))
       refine .q rfl (.add rfl rfl rfl (by omega) (by omega)) ?_
       refine .mv rfl (.nil ?_)
       refine u ((z + 1, T2)) _ _ ?_ ?_ ⟨rfl, rfl, rfl, rfl, rfl, trivial⟩
       ·
        exact ⟨by omega, t, a3⟩
       (dsimp only; omega)
      try simp only [sps] at c5
      refine .exit ?_
      refine i2 _ _ (.region (.mv rfl ?_))
      refine .q rfl (.add rfl rfl rfl (by omega) (by omega)) ?_
      refine .mv rfl (.nil ?_)
      refine c0 ((y + 1, T5)) _ _ ?_ ?_ ⟨rfl, rfl, rfl, rfl, trivial⟩
      ·
       exact ⟨by omega, hS, by
       obtain rfl : z = n := by omega
       exact hW.next⟩
      (dsimp only; omega)
     try simp only [sps] at b8
     refine .exit ?_
     refine g6 _ _ (.region (.mv rfl ?_))
     refine .q rfl (.add rfl rfl rfl (by omega) (by omega)) ?_
     refine .mv rfl (.nil ?_)
     refine c2 ((x + 1, T4)) _ _ ?_ ?_ ⟨rfl, rfl, rfl, trivial⟩
     ·
      exact ⟨by omega, hS, hW.rfl' hRf (by omega) (by omega), by
      obtain rfl : y = n := by omega
      exact hW.done (by omega) hTr⟩
     (dsimp only; omega)
    try simp only [sps] at c6
    refine .exit ?_
    refine f7 _ _ (.seq (fun K31 j1 => .region (.mv rfl (.mv rfl (.nil (j1 _ _ ?_))))))
    refine .ret ?_
    refine d0 _ _ ?_
    refine ⟨_, rfl, ?_⟩
    obtain rfl : x = n := by omega
    exact ⟨some ⟨gV, 0, none⟩, T, rr, by rw [hlen], hR.done a5 b5, by omega, fun k hk => by rw [hrow k hk]; omega, .of hTr hRf (by omega), d, hs⟩
   simp only [sps] at e6
   have b4 := RelSt.mk d a5 b5 (hR.st rk (.cons (hR.lowNe hlS) (.nil _ _))) hlen hrow hs
   obtain ⟨T1, l3, c4⟩ : ∃ T1, T1 = T ∧ Rfl T1 := ⟨T, rfl, hRf⟩
   have t := b4
   rw [← l3] at t
   refine .skip ?_
   refine d2 _ _ (.seq (fun K32 e8 => .seq (fun K33 h4 => .region (.mv rfl (.nil (h4 _ _ ?_))))))
   refine .block ?_
   refine .loopR (σ := Nat × List (List Int)) [(1, some _), (5, some _)] (fun (x, T) => [(9, some (.int .i64 (x : Int)))]) (fun (x, T) H' => x ≤ n ∧ RelSt 86 2 24 H H' gS gV n i rr T ∧ Rfl T ∧ TrU n x T) (fun (x, T) => n - x) ((0, T1)) ⟨rfl, rfl, trivial⟩ ⟨rfl, trivial⟩ ?_ ?_
   ·
    exact ⟨by omega, t, c4, fun k hk => by omega⟩
   rintro ⟨x, T⟩ HL3 hI KL3 c2
   refine .forget (fr' := [(9, some (.int .i64 (x : Int))), (1, some _), (5, some _)]) ⟨rfl, rfl, rfl, trivial⟩ ?_
   obtain ⟨hx, hS, hRf, hTr⟩ := hI
   obtain ⟨d, a5, b5, hR, hlen, hrow, hs⟩ := id hS
   have c8 := hlen
   have h := GHeap.ltg a5
   refine .seq (fun K34 f0 => .seq (fun K35 g1 => .region (.mv rfl (.mv rfl (.q rfl (.cmp rfl rfl rfl) (.nil (g1 _ _ ?_)))))))
   refine .cond rfl (fun c6 => ?_) (fun c6 => ?_)
   ·
    simp only [sps] at c6
    refine .skip ?_
    refine f0 _ _ (.seq (fun K36 h3 => ?_))
    refine .block ?_
    refine .seq (fun K37 j7 => .region (.mv rfl (.nil (j7 _ _ ?_))))
    refine .block ?_
    refine .loopR (σ := Nat × List (List Int)) [(1, some _), (5, some _), (9, some _)] (fun (y, T4) => [(10, some (.int .i64 (y : Int)))]) (fun (y, T4) H' => y ≤ n ∧ RelSt 86 2 24 H H' gS gV n i rr T4 ∧ War n x y 0 T T4) (fun (y, T4) => n - y) ((0, T)) ⟨rfl, rfl, rfl, trivial⟩ ⟨rfl, trivial⟩ ?_ ?_
    ·
     exact ⟨by omega, hS, .start⟩
    rintro ⟨y, T4⟩ HL4 hI KL4 c0
    refine .forget (fr' := [(10, some (.int .i64 (y : Int))), (1, some _), (5, some _), (9, some _)]) ⟨rfl, rfl, rfl, rfl, trivial⟩ ?_
    obtain ⟨hy, hS, hW⟩ := hI
    obtain ⟨d, a5, b5, hR, hlen, hrow, hs⟩ := id hS
    have h := GHeap.ltg a5
    refine .seq (fun K38 h0 => .seq (fun K39 j5 => .region (.mv rfl (.mv rfl (.q rfl (.cmp rfl rfl rfl) (.nil (j5 _ _ ?_)))))))
    refine .cond rfl (fun b8 => ?_) (fun b8 => ?_)
    ·
     simp only [sps] at b8
     refine .skip ?_
     refine h0 _ _ (.seq (fun K40 f8 => ?_))
     refine .block ?_
     refine .seq (fun K41 f9 => .region (.mv rfl (.nil (f9 _ _ ?_))))
     refine .block ?_
     refine .loopR (σ := Nat × List (List Int)) [(1, some _), (5, some _), (9, some _), (10, some _)] (fun (z, T5) => [(11, some (.int .i64 (z : Int)))]) (fun (z, T5) H' => z ≤ n ∧ RelSt 86 2 24 H H' gS gV n i rr T5 ∧ War n x y z T T5) (fun (z, T5) => n - z) ((0, T4)) ⟨rfl, rfl, rfl, rfl, trivial⟩ ⟨rfl, trivial⟩ ?_ ?_
     ·
      exact ⟨by omega, hS, hW⟩
     rintro ⟨z, T5⟩ HL5 hI KL5 u
     refine .forget (fr' := [(11, some (.int .i64 (z : Int))), (1, some _), (5, some _), (9, some _), (10, some _)]) ⟨rfl, rfl, rfl, rfl, rfl, trivial⟩ ?_
     obtain ⟨hz, hS, hW⟩ := hI
     obtain ⟨d, a5, b5, hR, hlen, hrow, hs⟩ := id hS
     have h := GHeap.ltg a5
     refine .seq (fun K42 f4 => .seq (fun K43 h5 => .region (.mv rfl (.mv rfl (.q rfl (.cmp rfl rfl rfl) (.nil (h5 _ _ ?_)))))))
     refine .cond rfl (fun c5 => ?_) (fun c5 => ?_)
     ·
      simp only [sps] at c5
      have iT := hR.intss a5 b5
      have u1 := iT.2 y (by omega)
      have u2 := iT.2 x (by omega)
      have w1 := hrow y (by omega)
      have w2 := hrow x (by omega)
      refine .skip ?_
      refine f4 _ _ (.seq (fun K44 d1 => ?_))
      refine .block ?_
      refine .seq (fun K45 e2 => .region (.mv rfl (.mv rfl ?_)))
      refine .q rfl (.idxN sl_25_B (by first | exact (Intss.sl (by assumption)) | exact SlA.of_row a5 (by first | rfl | (simp; done) | (simp <;> omega))) rfl rfl (by omega)) ?_
      refine .q rfl (.loadR on_24_B (by assumption) rfl (by omega)) ?_
      refine .mv rfl ?_
      refine .q rfl (.idxN sl_24_A (by assumption) rfl rfl (by omega)) ?_
      refine .q rfl (.loadI on_2_A (by assumption) rfl (by omega)) ?_
      refine .q rfl (.cmp rfl rfl rfl) (.mv rfl ?_)
      refine .split (fun a4 => ?_) (fun a4 => ?_)
      ·
       simp only [sps] at a4
       refine .qg rfl (.move rfl) (.qg rfl (.move rfl) ?_)
       refine .qg rfl (.idxN sl_25_B (by first | exact (Intss.sl (by assumption)) | exact SlA.of_row a5 (by first | rfl | (simp; done) | (simp <;> omega))) rfl rfl (by omega)) ?_
       refine .qg rfl (.loadR on_24_B (by assumption) rfl (by omega)) ?_
       refine .qg rfl (.move rfl) ?_
       refine .qg rfl (.idxN sl_24_A (by assumption) rfl rfl (by omega)) ?_
       refine .qg rfl (.loadI on_2_A (by assumption) rfl (by omega)) ?_
       refine .qg rfl (.cmp rfl rfl rfl) (.q rfl (.pickT rfl rfl) (.nil (e2 _ _ ?_)))
       refine .cond rfl (fun a2 => ?_) (fun a2 => ?_)
       ·
        simp only [sps] at a2
        refine .region ?_
        obtain ⟨gi, hgi, hbi, hati⟩ := hR.row y (by omega)
        have m3 := row_ne a5 hati rfl
        have cC := slsL_cell a5 (i := y) (by omega)
        rw [hgi] at cC
        refine .mv rfl (.mv rfl ?_)
        refine .q rfl (.idxN sl_25_B (by first | exact (Intss.sl (by assumption)) | exact SlA.of_row a5 (by first | rfl | (simp; done) | (simp <;> omega))) rfl rfl (by omega)) ?_
        refine .q rfl (.load on_24_B rfl cC) ?_
        have a1 := GHeap.ltg hati
        refine .mv rfl ?_
        refine .q rfl (.idxN sl_24_A (by first | assumption | exact SlA.of_row hati (by first | rfl | (simp; done) | (simp <;> omega))) rfl rfl (by omega)) ?_
        refine .r0 rfl rfl (.storeI rfl sz_2_Ch rfl rfl (by assumption) (by first | omega | (simp <;> omega))) ?_
        rintro _ c1 ⟨rfl, f, w⟩
        have nx_H24006x2 := f.nx
        replace d := d.sA f
        replace hs := hs.sA f
        have b : NE gV gi := .a
        replace a5 := f.s a5 b.ne
        have lt_at24006x2 := GHeap.ltg w
        have b4 := hS.set1 (by omega) hgi hbi f w (by rw [List.length_set]; exact w1) m3 hlS
        rw [Nat.zero_add] at b4
        obtain ⟨T2, t, a3⟩ : ∃ T2, RelSt 86 2 24 H c1 gS gV n i rr T2 ∧ War n x y (z + 1) T T2 := ⟨_, b4, hW.put (by omega) (by omega) (by omega) (by omega) (by omega) a4 a2⟩
        refine .nil (d1 _ _ (.region (.mv rfl ?_)))
        refine .q rfl (.add rfl rfl rfl (by omega) (by omega)) ?_
        refine .mv rfl (.nil ?_)
        refine u ((z + 1, T2)) _ _ ?_ ?_ ⟨rfl, rfl, rfl, rfl, rfl, trivial⟩
        ·
         exact ⟨by omega, t, a3⟩
        (dsimp only; omega)
       simp only [sps] at a2
       obtain ⟨T2, t, a3⟩ : ∃ T2, RelSt 86 2 24 H HL5 gS gV n i rr T2 ∧ War n x y (z + 1) T T2 := ⟨T5, hS, hW.skip (by omega) (by omega) (by omega) fun hh => a2 hh.2⟩
       refine .skip ?_
       refine d1 _ _ (.region (.mv rfl ?_))
       refine .q rfl (.add rfl rfl rfl (by omega) (by omega)) ?_
       refine .mv rfl (.nil ?_)
       refine u ((z + 1, T2)) _ _ ?_ ?_ ⟨rfl, rfl, rfl, rfl, rfl, trivial⟩
       ·
        exact ⟨by omega, t, a3⟩
       (dsimp only; omega)
      simp only [sps] at a4
      obtain ⟨T2, t, a3⟩ : ∃ T2, RelSt 86 2 24 H HL5 gS gV n i rr T2 ∧ War n x y (z + 1) T T2 := ⟨T5, hS, hW.skip (by omega) (by omega) (by omega) fun hh => a4 hh.1⟩
      refine .z rfl (.z rfl (.z rfl (.z rfl (.z rfl (.z rfl (.z rfl (.z rfl (.q rfl (.pickF rfl rfl) (.nil (e2 _ _ ?_))))))))))
      refine .condF rfl ?_
      refine .skip ?_
      refine d1 _ _ (.region (.mv rfl ?_))
      refine .q rfl (.add rfl rfl rfl (by omega) (by omega)) ?_
      refine .mv rfl (.nil ?_)
      refine u ((z + 1, T2)) _ _ ?_ ?_ ⟨rfl, rfl, rfl, rfl, rfl, trivial⟩
      ·
       exact ⟨by omega, t, a3⟩
      (dsimp only; omega)
     try simp only [sps] at c5
     refine .exit ?_
     refine f8 _ _ (.region (.mv rfl ?_))
     refine .q rfl (.add rfl rfl rfl (by omega) (by omega)) ?_
     refine .mv rfl (.nil ?_)
     refine c0 ((y + 1, T5)) _ _ ?_ ?_ ⟨rfl, rfl, rfl, rfl, trivial⟩
     ·
      exact ⟨by omega, hS, by
      obtain rfl : z = n := by omega
      exact hW.next⟩
     (dsimp only; omega)
    try simp only [sps] at b8
    refine .exit ?_
    refine h3 _ _ (.region (.mv rfl ?_))
    refine .q rfl (.add rfl rfl rfl (by omega) (by omega)) ?_
    refine .mv rfl (.nil ?_)
    refine c2 ((x + 1, T4)) _ _ ?_ ?_ ⟨rfl, rfl, rfl, trivial⟩
    ·
     exact ⟨by omega, hS, hW.rfl' hRf (by omega) (by omega), by
     obtain rfl : y = n := by omega
     exact hW.done (by omega) hTr⟩
    (dsimp only; omega)
   try simp only [sps] at c6
   refine .exit ?_
   refine e8 _ _ (.seq (fun K46 i3 => .region (.mv rfl (.mv rfl (.nil (i3 _ _ ?_))))))
   refine .ret ?_
   refine d0 _ _ ?_
   refine ⟨_, rfl, ?_⟩
   obtain rfl : x = n := by omega
   exact ⟨some ⟨gV, 0, none⟩, T, rr, by rw [hlen], hR.done a5 b5, by omega, fun k hk => by rw [hrow k hk]; omega, .of hTr hRf (by omega), d, hs⟩
  simp only [sps] at j3
  obtain ⟨T1, t, c4⟩ : ∃ T1, RelSt 86 2 24 H HL1 gS gV n i rr T1 ∧ Rfl T1 := ⟨T, hS, hRf⟩
  refine .z rfl (.z rfl (.z rfl (.q rfl (.pickF rfl rfl) (.nil (e3 _ _ ?_)))))
  refine .condF rfl ?_
  refine .skip ?_
  refine d2 _ _ (.seq (fun K47 j2 => .seq (fun K48 e5 => .region (.mv rfl (.nil (e5 _ _ ?_))))))
  refine .block ?_
  refine .loopR (σ := Nat × List (List Int)) [(1, some _), (5, some _)] (fun (x, T) => [(9, some (.int .i64 (x : Int)))]) (fun (x, T) H' => x ≤ n ∧ RelSt 86 2 24 H H' gS gV n i rr T ∧ Rfl T ∧ TrU n x T) (fun (x, T) => n - x) ((0, T1)) ⟨rfl, rfl, trivial⟩ ⟨rfl, trivial⟩ ?_ ?_
  ·
   exact ⟨by omega, t, c4, fun k hk => by omega⟩
  rintro ⟨x, T⟩ HL3 hI KL3 c2
  refine .forget (fr' := [(9, some (.int .i64 (x : Int))), (1, some _), (5, some _)]) ⟨rfl, rfl, rfl, trivial⟩ ?_
  obtain ⟨hx, hS, hRf, hTr⟩ := hI
  obtain ⟨d, a5, b5, hR, hlen, hrow, hs⟩ := id hS
  have c8 := hlen
  have h := GHeap.ltg a5
  refine .seq (fun K49 h2 => .seq (fun K50 i1 => .region (.mv rfl (.mv rfl (.q rfl (.cmp rfl rfl rfl) (.nil (i1 _ _ ?_)))))))
  refine .cond rfl (fun c6 => ?_) (fun c6 => ?_)
  ·
   simp only [sps] at c6
   refine .skip ?_
   refine h2 _ _ (.seq (fun K51 g5 => ?_))
   refine .block ?_
   refine .seq (fun K52 i0 => .region (.mv rfl (.nil (i0 _ _ ?_))))
   refine .block ?_
   refine .loopR (σ := Nat × List (List Int)) [(1, some _), (5, some _), (9, some _)] (fun (y, T4) => [(10, some (.int .i64 (y : Int)))]) (fun (y, T4) H' => y ≤ n ∧ RelSt 86 2 24 H H' gS gV n i rr T4 ∧ War n x y 0 T T4) (fun (y, T4) => n - y) ((0, T)) ⟨rfl, rfl, rfl, trivial⟩ ⟨rfl, trivial⟩ ?_ ?_
   ·
    exact ⟨by omega, hS, .start⟩
   rintro ⟨y, T4⟩ HL4 hI KL4 c0
   refine .forget (fr' := [(10, some (.int .i64 (y : Int))), (1, some _), (5, some _), (9, some _)]) ⟨rfl, rfl, rfl, rfl, trivial⟩ ?_
   obtain ⟨hy, hS, hW⟩ := hI
   obtain ⟨d, a5, b5, hR, hlen, hrow, hs⟩ := id hS
   have h := GHeap.ltg a5
   refine .seq (fun K53 h8 => .seq (fun K54 h9 => .region (.mv rfl (.mv rfl (.q rfl (.cmp rfl rfl rfl) (.nil (h9 _ _ ?_)))))))
   refine .cond rfl (fun b8 => ?_) (fun b8 => ?_)
   ·
    simp only [sps] at b8
    refine .skip ?_
    refine h8 _ _ (.seq (fun K55 j0 => ?_))
    refine .block ?_
    refine .seq (fun K56 f5 => .region (.mv rfl (.nil (f5 _ _ ?_))))
    refine .block ?_
    refine .loopR (σ := Nat × List (List Int)) [(1, some _), (5, some _), (9, some _), (10, some _)] (fun (z, T5) => [(11, some (.int .i64 (z : Int)))]) (fun (z, T5) H' => z ≤ n ∧ RelSt 86 2 24 H H' gS gV n i rr T5 ∧ War n x y z T T5) (fun (z, T5) => n - z) ((0, T4)) ⟨rfl, rfl, rfl, rfl, trivial⟩ ⟨rfl, trivial⟩ ?_ ?_
    ·
     exact ⟨by omega, hS, hW⟩
    rintro ⟨z, T5⟩ HL5 hI KL5 u
    refine .forget (fr' := [(11, some (.int .i64 (z : Int))), (1, some _), (5, some _), (9, some _), (10, some _)]) ⟨rfl, rfl, rfl, rfl, rfl, trivial⟩ ?_
    obtain ⟨hz, hS, hW⟩ := hI
    obtain ⟨d, a5, b5, hR, hlen, hrow, hs⟩ := id hS
    have h := GHeap.ltg a5
    refine .seq (fun K57 f6 => .seq (fun K58 g8 => .region (.mv rfl (.mv rfl (.q rfl (.cmp rfl rfl rfl) (.nil (g8 _ _ ?_)))))))
    refine .cond rfl (fun c5 => ?_) (fun c5 => ?_)
    ·
     simp only [sps] at c5
     have iT := hR.intss a5 b5
     have u1 := iT.2 y (by omega)
     have u2 := iT.2 x (by omega)
     have w1 := hrow y (by omega)
     have w2 := hrow x (by omega)
     refine .skip ?_
     refine f6 _ _ (.seq (fun K59 d6 => ?_))
     refine .block ?_
     refine .seq (fun K60 e1 => .region (.mv rfl (.mv rfl ?_)))
     refine .q rfl (.idxN sl_25_B (by first | exact (Intss.sl (by assumption)) | exact SlA.of_row a5 (by first | rfl | (simp; done) | (simp <;> omega))) rfl rfl (by omega)) ?_
     refine .q rfl (.loadR on_24_B (by assumption) rfl (by omega)) ?_
     refine .mv rfl ?_
     refine .q rfl (.idxN sl_24_A (by assumption) rfl rfl (by omega)) ?_
     refine .q rfl (.loadI on_2_A (by assumption) rfl (by omega)) ?_
     refine .q rfl (.cmp rfl rfl rfl) (.mv rfl ?_)
     refine .split (fun a4 => ?_) (fun a4 => ?_)
     ·
      simp only [sps] at a4
      refine .qg rfl (.move rfl) (.qg rfl (.move rfl) ?_)
      refine .qg rfl (.idxN sl_25_B (by first | exact (Intss.sl (by assumption)) | exact SlA.of_row a5 (by first | rfl | (simp; done) | (simp <;> omega))) rfl rfl (by omega)) ?_
      refine .qg rfl (.loadR on_24_B (by assumption) rfl (by omega)) ?_
      refine .qg rfl (.move rfl) ?_
      refine .qg rfl (.idxN sl_24_A (by assumption) rfl rfl (by omega)) ?_
      refine .qg rfl (.loadI on_2_A (by assumption) rfl (by omega)) ?_
      refine .qg rfl (.cmp rfl rfl rfl) (.q rfl (.pickT rfl rfl) (.nil (e1 _ _ ?_)))
      refine .cond rfl (fun a2 => ?_) (fun a2 => ?_)
      ·
       simp only [sps] at a2
       refine .region ?_
       obtain ⟨gi, hgi, hbi, hati⟩ := hR.row y (by omega)
       have m3 := row_ne a5 hati rfl
       have cC := slsL_cell a5 (i := y) (by omega)
       rw [hgi] at cC
       refine .mv rfl (.mv rfl ?_)
       refine .q rfl (.idxN sl_25_B (by first | exact (Intss.sl (by assumption)) | exact SlA.of_row a5 (by first | rfl | (simp; done) | (simp <;> omega))) rfl rfl (by omega)) ?_
       refine .q rfl (.load on_24_B rfl cC) ?_
       have a1 := GHeap.ltg hati
       refine .mv rfl ?_
       refine .q rfl (.idxN sl_24_A (by first | assumption | exact SlA.of_row hati (by first | rfl | (simp; done) | (simp <;> omega))) rfl rfl (by omega)) ?_
       refine .r0 rfl rfl (.storeI rfl sz_2_Ch rfl rfl (by assumption) (by first | omega | (simp <;> omega))) ?_
       rintro _ b7 ⟨rfl, e, a0⟩
       have nx_H24006x3 := e.nx
       replace d := d.sA e
       replace hs := hs.sA e
       have b : NE gV gi := .a
       replace a5 := e.s a5 b.ne
       have lt_at24006x3 := GHeap.ltg a0
       have b4 := hS.set1 (by omega) hgi hbi e a0 (by rw [List.length_set]; exact w1) m3 hlS
       rw [Nat.zero_add] at b4
       obtain ⟨T2, t, a3⟩ : ∃ T2, RelSt 86 2 24 H b7 gS gV n i rr T2 ∧ War n x y (z + 1) T T2 := ⟨_, b4, hW.put (by omega) (by omega) (by omega) (by omega) (by omega) a4 a2⟩
       refine .nil (d6 _ _ (.region (.mv rfl ?_)))
       refine .q rfl (.add rfl rfl rfl (by omega) (by omega)) ?_
       refine .mv rfl (.nil ?_)
       refine u ((z + 1, T2)) _ _ ?_ ?_ ⟨rfl, rfl, rfl, rfl, rfl, trivial⟩
       ·
        exact ⟨by omega, t, a3⟩
       (dsimp only; omega)
      simp only [sps] at a2
      obtain ⟨T2, t, a3⟩ : ∃ T2, RelSt 86 2 24 H HL5 gS gV n i rr T2 ∧ War n x y (z + 1) T T2 := ⟨T5, hS, hW.skip (by omega) (by omega) (by omega) fun hh => a2 hh.2⟩
      refine .skip ?_
      refine d6 _ _ (.region (.mv rfl ?_))
      refine .q rfl (.add rfl rfl rfl (by omega) (by omega)) ?_
      refine .mv rfl (.nil ?_)
      refine u ((z + 1, T2)) _ _ ?_ ?_ ⟨rfl, rfl, rfl, rfl, rfl, trivial⟩
      ·
       exact ⟨by omega, t, a3⟩
      (dsimp only; omega)
     simp only [sps] at a4
     obtain ⟨T2, t, a3⟩ : ∃ T2, RelSt 86 2 24 H HL5 gS gV n i rr T2 ∧ War n x y (z + 1) T T2 := ⟨T5, hS, hW.skip (by omega) (by omega) (by omega) fun hh => a4 hh.1⟩
     refine .z rfl (.z rfl (.z rfl (.z rfl (.z rfl (.z rfl (.z rfl (.z rfl (.q rfl (.pickF rfl rfl) (.nil (e1 _ _ ?_))))))))))
     refine .condF rfl ?_
     refine .skip ?_
     refine d6 _ _ (.region (.mv rfl ?_))
     refine .q rfl (.add rfl rfl rfl (by omega) (by omega)) ?_
     refine .mv rfl (.nil ?_)
     refine u ((z + 1, T2)) _ _ ?_ ?_ ⟨rfl, rfl, rfl, rfl, rfl, trivial⟩
     ·
      exact ⟨by omega, t, a3⟩
     (dsimp only; omega)
    try simp only [sps] at c5
    refine .exit ?_
    refine j0 _ _ (.region (.mv rfl ?_))
    refine .q rfl (.add rfl rfl rfl (by omega) (by omega)) ?_
    refine .mv rfl (.nil ?_)
    refine c0 ((y + 1, T5)) _ _ ?_ ?_ ⟨rfl, rfl, rfl, rfl, trivial⟩
    ·
     exact ⟨by omega, hS, by
     obtain rfl : z = n := by omega
     exact hW.next⟩
    (dsimp only; omega)
   try simp only [sps] at b8
   refine .exit ?_
   refine g5 _ _ (.region (.mv rfl ?_))
   refine .q rfl (.add rfl rfl rfl (by omega) (by omega)) ?_
   refine .mv rfl (.nil ?_)
   refine c2 ((x + 1, T4)) _ _ ?_ ?_ ⟨rfl, rfl, rfl, trivial⟩
   ·
    exact ⟨by omega, hS, hW.rfl' hRf (by omega) (by omega), by
    obtain rfl : y = n := by omega
    exact hW.done (by omega) hTr⟩
   (dsimp only; omega)
  try simp only [sps] at c6
  refine .exit ?_
  refine j2 _ _ (.seq (fun K61 g4 => .region (.mv rfl (.mv rfl (.nil (g4 _ _ ?_))))))
  refine .ret ?_
  refine d0 _ _ ?_
  refine ⟨_, rfl, ?_⟩
  obtain rfl : x = n := by omega
  exact ⟨some ⟨gV, 0, none⟩, T, rr, by rw [hlen], hR.done a5 b5, by omega, fun k hk => by rw [hrow k hk]; omega, .of hTr hRf (by omega), d, hs⟩
end Go.Proofs.Ytfanjkbaemhbmaa
namespace Go.Proofs.Ytfanjkbaemhbmaa
open Go Go.GL Go.RowKit Go.Proofs
set_option maxHeartbeats 8000000 in
theorem l03JoinG_c {c d : Cat} {p q : CatP} {H : GHeap} (hin : c.In H p := by assumption) (hin1 : d.In H q := by assumption) (gc : c.Good 4) (gd : d.Good 8) (oc : c.obj = 1) (od : d.obj = 1) :
    GCalls Try.prog 126 [.agg (c.cells p).toArray, .agg (d.cells q).toArray] H (NewGd 2 24 128 2 H) := by
  have hc := gc.r
  have hd := gd.r
  have c1 := hc.obj
  have d1 := hd.obj
  obtain ⟨E, hEq, hE⟩ : ∃ E, c.sum d = E ∧ E.Rect 12 := ⟨_, rfl, hc.sum hd⟩
  have hE0 : E.obj = c.obj + d.obj := by rw [← hEq]; rfl
  obtain ⟨e1, e2, e3, e4, e5, e6, e7, e8, e9, z7⟩ := id hE
  refine GCalls.body (N := 122) (rs := [.cell 4 27]) Try.func126 rfl rfl rfl rfl (fun Qx v5 hend => ?_)
  refine .fg [0, 1] rfl ?_
  have a0 := GHeap.Le.refl H
  have m := hin
  have h := hin1
  refine .seq (fun K1 z3 => .region ?_)
  refine .R rfl (.boxR rfl sz_27_D rfl) ?_
  rintro _ H2 ⟨g2, rfl, y7, ge2, a6⟩
  have nx_H2 := y7.1
  replace a0 := a0.trans y7
  have lt_at2 := GHeap.ltg a6
  replace hin := m.mono a0
  replace hin1 := h.mono a0
  have t : Cat.At _ g2 0 c p := ⟨Mem.of_get a6, hin⟩
  obtain ⟨f1, f0, d9, f2, f5, d7, d8, f3, f4⟩ := t.get
  have e0 : MemN _ _ _ _ _ := ⟨rfl, t.1⟩
  have d6 := t.2
  refine .R rfl (.boxR rfl sz_27_D rfl) ?_
  rintro _ H3 ⟨g3, rfl, y2, ge3, a8⟩
  have nx_H3 := y2.1
  replace a0 := a0.trans y2
  replace a6 := y2.2 _ _ a6
  have lt_at3 := GHeap.ltg a8
  replace hin := m.mono a0
  replace hin1 := h.mono a0
  clear t f1 f0 d9 f2 f5 d7 d8 f3 f4 e0 d6
  have t : Cat.At _ g2 0 c p := ⟨Mem.of_get a6, hin⟩
  obtain ⟨f1, f0, d9, f2, f5, d7, d8, f3, f4⟩ := t.get
  have e0 : MemN _ _ _ _ _ := ⟨rfl, t.1⟩
  have d6 := t.2
  have u : Cat.At _ g3 0 d q := ⟨Mem.of_get a8, hin1⟩
  obtain ⟨g6, g9, f7, f8, h0, g8, f6, f9, g1⟩ := u.get
  have g0 : MemN _ _ _ _ _ := ⟨rfl, u.1⟩
  have g7 := u.2
  refine .R rfl (.allocR rfl ze_27_Hj rfl) ?_
  rintro _ H4 ⟨g4, rfl, u7, ge4, h5⟩
  have nx_H4 := u7.1
  replace a0 := a0.trans u7
  replace a6 := u7.2 _ _ a6
  replace a8 := u7.2 _ _ a8
  have lt_at4 := GHeap.ltg h5
  replace hin := m.mono a0
  replace hin1 := h.mono a0
  clear t f1 f0 d9 f2 f5 d7 d8 f3 f4 e0 d6
  have t : Cat.At _ g2 0 c p := ⟨Mem.of_get a6, hin⟩
  obtain ⟨f1, f0, d9, f2, f5, d7, d8, f3, f4⟩ := t.get
  have e0 : MemN _ _ _ _ _ := ⟨rfl, t.1⟩
  have d6 := t.2
  clear u g6 g9 f7 f8 h0 g8 f6 f9 g1 g0 g7
  have u : Cat.At _ g3 0 d q := ⟨Mem.of_get a8, hin1⟩
  obtain ⟨g6, g9, f7, f8, h0, g8, f6, f9, g1⟩ := u.get
  have g0 : MemN _ _ _ _ _ := ⟨rfl, u.1⟩
  have g7 := u.2
  refine .nil (z3 _ _ (.seq (fun K2 aL => .region ?_)))
  refine .q rfl (.loadM ag_27_Hj rfl ⟨rfl, Mem.of_get a6⟩) ?_
  refine .q rfl (.loadM ag_27_Hj rfl ⟨rfl, Mem.of_get a8⟩) ?_
  refine .call rfl rfl rfl rfl @Try.call103 rfl (l03Sum_c (hc := hc.mono (by omega : 4 ≤ 8)) (hd := hd) (hN := by omega)) ?_
  rintro _ aG hv
  rw [hEq] at hv
  obtain ⟨r6, gF, gT, gI, gC, rr, rfl, q0⟩ := hv
  have aF := q0.a1
  have aT := q0.a2
  have aI := q0.a3
  have aC := q0.a4
  have bF := q0.b1
  have bT := q0.b2
  have bI := q0.b3
  have bC := q0.b4
  have n12 := q0.n12
  have n13 := q0.n13
  have n23 := q0.n23
  have n4 := row_ne aC aF rfl
  have n5 := row_ne aC aT rfl
  have n6 := row_ne aC aI rfl
  have t9 := St.refl [gF] aG
  have nx_H16 := r6.1
  replace a0 := a0.trans r6
  replace a6 := r6.2 _ _ a6
  replace a8 := r6.2 _ _ a8
  replace h5 := r6.2 _ _ h5
  have lt_aF := GHeap.ltg aF
  have lt_aT := GHeap.ltg aT
  have lt_aI := GHeap.ltg aI
  have lt_aC := GHeap.ltg aC
  replace hin := m.mono a0
  replace hin1 := h.mono a0
  clear t f1 f0 d9 f2 f5 d7 d8 f3 f4 e0 d6
  have t : Cat.At _ g2 0 c p := ⟨Mem.of_get a6, hin⟩
  obtain ⟨f1, f0, d9, f2, f5, d7, d8, f3, f4⟩ := t.get
  have e0 : MemN _ _ _ _ _ := ⟨rfl, t.1⟩
  have d6 := t.2
  clear u g6 g9 f7 f8 h0 g8 f6 f9 g1 g0 g7
  have u : Cat.At _ g3 0 d q := ⟨Mem.of_get a8, hin1⟩
  obtain ⟨g6, g9, f7, f8, h0, g8, f6, f9, g1⟩ := u.get
  have g0 : MemN _ _ _ _ _ := ⟨rfl, u.1⟩
  have g7 := u.2
  refine .R rfl (.allocR rfl ze_27_Hj rfl) ?_
  rintro _ H5 ⟨g5, rfl, r8, ge5, aA⟩
  have nx_H5 := r8.1
  replace a0 := a0.trans r8
  replace t9 := t9.le r8
  replace a6 := r8.2 _ _ a6
  replace a8 := r8.2 _ _ a8
  replace h5 := r8.2 _ _ h5
  replace aF := r8.2 _ _ aF
  replace aT := r8.2 _ _ aT
  replace aI := r8.2 _ _ aI
  replace aC := r8.2 _ _ aC
  have lt_at5 := GHeap.ltg aA
  replace hin := m.mono a0
  replace hin1 := h.mono a0
  clear t f1 f0 d9 f2 f5 d7 d8 f3 f4 e0 d6
  have t : Cat.At _ g2 0 c p := ⟨Mem.of_get a6, hin⟩
  obtain ⟨f1, f0, d9, f2, f5, d7, d8, f3, f4⟩ := t.get
  have e0 : MemN _ _ _ _ _ := ⟨rfl, t.1⟩
  have d6 := t.2
  clear u g6 g9 f7 f8 h0 g8 f6 f9 g1 g0 g7
  have u : Cat.At _ g3 0 d q := ⟨Mem.of_get a8, hin1⟩
  obtain ⟨g6, g9, f7, f8, h0, g8, f6, f9, g1⟩ := u.get
  have g0 : MemN _ _ _ _ _ := ⟨rfl, u.1⟩
  have g7 := u.2
  refine .r0 rfl rfl (.fillA rfl sz_27_D rfl rfl rfl rfl) ?_
  rintro _ r4 ⟨rfl, i5, a5⟩
  have nx_H1004 := i5.nx
  replace a0 := a0.st i5 (fun k hk => ⟨by omega, trivial⟩)
  replace t9 := t9.sA i5
  have j5 : NE g2 g5 := .a
  replace a6 := i5.s a6 j5.ne
  have i8 : NE g3 g5 := .a
  replace a8 := i5.s a8 i8.ne
  have h7 : NE g4 g5 := .a
  replace h5 := i5.s h5 h7.ne
  replace aF := i5.s aF
  replace aT := i5.s aT
  have j1 : NE gI g5 := .a
  replace aI := i5.s aI j1.ne
  have i6 : NE gC g5 := .a
  replace aC := i5.s aC i6.ne
  have lt_at1004 := GHeap.ltg a5
  replace hin := m.mono a0
  replace hin1 := h.mono a0
  clear t f1 f0 d9 f2 f5 d7 d8 f3 f4 e0 d6
  have t : Cat.At _ g2 0 c p := ⟨Mem.of_get a6, hin⟩
  obtain ⟨f1, f0, d9, f2, f5, d7, d8, f3, f4⟩ := t.get
  have e0 : MemN _ _ _ _ _ := ⟨rfl, t.1⟩
  have d6 := t.2
  clear u g6 g9 f7 f8 h0 g8 f6 f9 g1 g0 g7
  have u : Cat.At _ g3 0 d q := ⟨Mem.of_get a8, hin1⟩
  obtain ⟨g6, g9, f7, f8, h0, g8, f6, f9, g1⟩ := u.get
  have g0 : MemN _ _ _ _ _ := ⟨rfl, u.1⟩
  have g7 := u.2
  have l : MemN _ _ _ _ _ := ⟨rfl, Mem.of_get a5⟩
  refine .nil (aL _ _ (.seq (fun K3 z9 => .region (.q rfl (.fieldAddr fo_27_1_B rfl) ?_))))
  refine .q rfl (.load on_24_B rfl (by first | assumption | exact Mem.of_get a5 1 _ rfl)) ?_
  refine .q rfl (.len sl_24_A rfl) (.mv rfl (.nil (z9 _ _ (.seq (fun K4 aB => .seq (fun K5 aH => .region (.mv rfl (.nil (aH _ _ ?_)))))))))
  refine .block ?_
  refine .loopR (σ := Nat × List Int × List Int × Nat × Nat) [(2, some _), (3, some _), (4, some _), (5, some _), (6, some _)] (fun (x, ss, ts, gLF, gLT) => [(7, some (.int .i64 (x : Int)))]) (fun (x, ss, ts, gLF, gLT) H' => St [gF, gT, g5] r4 H' ∧ H'.get gLF = some (.row (ints ss) 2 true) ∧ PL gLF gF r4.next ∧ H'.get gLT = some (.row (ints ts) 2 true) ∧ PL gLT gT r4.next ∧ H'.get g5 = some (.row ([.int .i64 E.obj, .slice (some ⟨gLF, 0, none⟩) ss.length ss.length, .slice (some ⟨gLT, 0, none⟩) ts.length ts.length, .slice (some ⟨gI, 0, none⟩) E.idn.length E.idn.length, .slice (some ⟨gC, 0, none⟩) E.comp.length E.comp.length]) 27 true) ∧ gLF ≠ gLT ∧ gLF ≠ g5 ∧ gLT ≠ g5 ∧ ((x : Int) ≤ c.obj ∧ E.src.length ≤ ss.length ∧ ss.length ≤ 12 + 8 * x ∧ ts.length = ss.length) ∧ (ss = (if x = 0 then E.src else E.src ++ [0]) ∧ ts = (if x = 0 then E.tgt else E.tgt ++ [1])) ∧ Bd 0 12 ss ∧ Bd 0 12 ts ∧ OwnL H.next H' 2 rr E.comp ∧ (∀ j, j < E.comp.length → rr j ≠ some ⟨gLF, 0, none⟩) ∧ ∀ j, j < E.comp.length → rr j ≠ some ⟨gLT, 0, none⟩) (fun (x, ss, ts, gLF, gLT) => (c.obj - x : Int).toNat) ((0, E.src, E.tgt, gF, gT)) ⟨rfl, rfl, rfl, rfl, rfl, trivial⟩ ⟨rfl, trivial⟩ ?_ ?_
  ·
   refine ⟨.refl _ _, by first | assumption | exact aF | simpa using aF, ⟨.inl rfl⟩, by first | assumption | exact aT | simpa using aT, ⟨.inl rfl⟩, by first | assumption | exact a5 | simpa using a5, by omega, by omega, by omega, ?_⟩
   exact ⟨⟨by omega, by omega, by omega, by omega⟩, ⟨rfl, rfl⟩, e4, e5, (q0.rows.st t9 (.cons q0.r1 (.nil _ _))).low (by omega), q0.r1, q0.r2⟩
  rintro ⟨x, ss, ts, gLF, gLT⟩ HL1 ⟨h6, w, k0, v, k1, i, ap1_0, u2, u0, hI⟩ KL1 w2
  refine .forget (fr' := [(7, some (.int .i64 (x : Int))), (2, some _), (3, some _), (4, some _), (5, some _), (6, some _)]) ⟨rfl, rfl, rfl, rfl, rfl, rfl, trivial⟩ ?_
  have ge_LF : H.next ≤ gLF := k0.ge (by omega) (by omega)
  have ge_LT : H.next ≤ gLT := k1.ge (by omega) (by omega)
  have nx_HL1 := h6.nx
  replace a0 := a0.st h6 (fun k hk => ⟨by omega, by omega, by omega, trivial⟩)
  have p0 : NE g2 gF := .a
  have p3 : NE g2 gT := .a
  replace a6 := h6.same _ _ ⟨p0.ne, p3.ne, j5.ne, trivial⟩ a6
  have p2 : NE g3 gF := .a
  have p5 : NE g3 gT := .a
  replace a8 := h6.same _ _ ⟨p2.ne, p5.ne, i8.ne, trivial⟩ a8
  have l7 : NE g4 gF := .a
  have l9 : NE g4 gT := .a
  replace h5 := h6.same _ _ ⟨l7.ne, l9.ne, h7.ne, trivial⟩ h5
  have p6 : NE gI gF := .a
  have p8 : NE gI gT := .a
  replace aI := h6.same _ _ ⟨p6.ne, p8.ne, j1.ne, trivial⟩ aI
  have p4 : NE gC gF := .a
  have p1 : NE gC gT := .a
  replace aC := h6.same _ _ ⟨p4.ne, p1.ne, i6.ne, trivial⟩ aC
  have lt_at_LF := GHeap.ltg w
  have lt_at_LT := GHeap.ltg v
  have q7 := GHeap.ltg i
  replace hin := m.mono a0
  replace hin1 := h.mono a0
  clear t f1 f0 d9 f2 f5 d7 d8 f3 f4 e0 d6
  have t : Cat.At _ g2 0 c p := ⟨Mem.of_get a6, hin⟩
  obtain ⟨f1, f0, d9, f2, f5, d7, d8, f3, f4⟩ := t.get
  have e0 : MemN _ _ _ _ _ := ⟨rfl, t.1⟩
  have d6 := t.2
  clear u g6 g9 f7 f8 h0 g8 f6 f9 g1 g0 g7
  have u : Cat.At _ g3 0 d q := ⟨Mem.of_get a8, hin1⟩
  obtain ⟨g6, g9, f7, f8, h0, g8, f6, f9, g1⟩ := u.get
  have g0 : MemN _ _ _ _ _ := ⟨rfl, u.1⟩
  have g7 := u.2
  clear l
  have l : MemN _ _ _ _ _ := ⟨rfl, Mem.of_get a5⟩
  obtain ⟨⟨hx, hsm, aE, hts⟩, ⟨z1, y6⟩, hS, hT, hR, u9, u8⟩ := hI
  refine .seq (fun K6 z4 => .seq (fun K7 z8 => .region (.mv rfl (.q rfl (.fieldAddr fo_27_0_B rfl) ?_))))
  refine .q rfl (.load on_2_A rfl (by first | assumption | exact Mem.of_get a6 0 _ rfl)) ?_
  refine .q rfl (.cmp rfl rfl rfl) (.nil (z8 _ _ ?_))
  refine .cond rfl (fun y1 => ?_) (fun y1 => ?_)
  ·
   simp only [sps] at y1
   refine .skip ?_
   refine z4 _ _ (.seq (fun K8 aD => ?_))
   refine .block ?_
   refine .seq (fun K9 aM => .region (.mv rfl (.nil (aM _ _ ?_))))
   refine .block ?_
   refine .loopR (σ := Nat × List Int × List Int × Nat × Nat) [(2, some _), (3, some _), (4, some _), (5, some _), (6, some _), (7, some _)] (fun (y, s2, t2, l6, l5) => [(8, some (.int .i64 (y : Int)))]) (fun (y, s2, t2, l6, l5) H' => St [gLF, gLT, g5] HL1 H' ∧ H'.get l6 = some (.row (ints s2) 2 true) ∧ PL l6 gLF HL1.next ∧ H'.get l5 = some (.row (ints t2) 2 true) ∧ PL l5 gLT HL1.next ∧ H'.get g5 = some (.row ([.int .i64 E.obj, .slice (some ⟨l6, 0, none⟩) s2.length s2.length, .slice (some ⟨l5, 0, none⟩) t2.length t2.length, .slice (some ⟨gI, 0, none⟩) E.idn.length E.idn.length, .slice (some ⟨gC, 0, none⟩) E.comp.length E.comp.length]) 27 true) ∧ l6 ≠ l5 ∧ l6 ≠ g5 ∧ l5 ≠ g5 ∧ ((y : Int) ≤ d.obj ∧ E.src.length ≤ s2.length ∧ s2.length ≤ 12 + 8 * x + y ∧ t2.length = s2.length) ∧ (s2 = (if y = 0 then E.src else E.src ++ [0]) ∧ t2 = (if y = 0 then E.tgt else E.tgt ++ [1])) ∧ Bd 0 12 s2 ∧ Bd 0 12 t2 ∧ OwnL H.next H' 2 rr E.comp ∧ (∀ j, j < E.comp.length → rr j ≠ some ⟨l6, 0, none⟩) ∧ ∀ j, j < E.comp.length → rr j ≠ some ⟨l5, 0, none⟩) (fun (y, s2, t2, l6, l5) => (d.obj - y : Int).toNat) ((0, ss, ts, gLF, gLT)) ⟨rfl, rfl, rfl, rfl, rfl, rfl, trivial⟩ ⟨rfl, trivial⟩ ?_ ?_
   ·
    refine ⟨.refl _ _, by first | assumption | exact w | simpa using w, ⟨.inl rfl⟩, by first | assumption | exact v | simpa using v, ⟨.inl rfl⟩, by first | assumption | exact i | simpa using i, by omega, by omega, by omega, ?_⟩
    exact ⟨⟨by omega, by omega, by omega, by omega⟩, ⟨by rw [z1, if_pos (by omega), if_pos rfl], by rw [y6, if_pos (by omega), if_pos rfl]⟩, hS, hT, hR, u9, u8⟩
   rintro ⟨y, s2, t2, l6, l5⟩ HL2 ⟨i4, p9, k4, j6, k2, i, u3, u5, s7, hI⟩ KL2 x6
   refine .forget (fr' := [(8, some (.int .i64 (y : Int))), (2, some _), (3, some _), (4, some _), (5, some _), (6, some _), (7, some _)]) ⟨rfl, rfl, rfl, rfl, rfl, rfl, rfl, trivial⟩ ?_
   have ge_LF2 : H.next ≤ l6 := k4.ge (by omega) (by omega)
   have ge_LT2 : H.next ≤ l5 := k2.ge (by omega) (by omega)
   have nx_HL2 := i4.nx
   replace a0 := a0.st i4 (fun k hk => ⟨by omega, by omega, by omega, trivial⟩)
   replace h6 := h6.st i4 (fun k hk ho => by simp only [out, and_true] at ho ⊢ <;> exact ⟨by first | exact ho | exact ho.1 | exact ho.2 | exact ho.2.1 | exact ho.2.2 | exact ho.2.2.1 | exact ho.2.2.2 | exact k0.ne (by first | exact ho | exact ho.1 | exact ho.2 | exact ho.2.1 | exact ho.2.2 | exact ho.2.2.1 | exact ho.2.2.2 | omega) (by omega) | omega, by first | exact ho | exact ho.1 | exact ho.2 | exact ho.2.1 | exact ho.2.2 | exact ho.2.2.1 | exact ho.2.2.2 | exact k1.ne (by first | exact ho | exact ho.1 | exact ho.2 | exact ho.2.1 | exact ho.2.2 | exact ho.2.2.1 | exact ho.2.2.2 | omega) (by omega) | omega, by first | exact ho | exact ho.1 | exact ho.2 | exact ho.2.1 | exact ho.2.2 | exact ho.2.2.1 | exact ho.2.2.2 | omega⟩)
   have o4 : NE g2 gLF := ⟨k0.ne p0.ne (by omega)⟩
   have m4 : NE g2 gLT := ⟨k1.ne p3.ne (by omega)⟩
   replace a6 := i4.same _ _ ⟨o4.ne, m4.ne, j5.ne, trivial⟩ a6
   have n8 : NE g3 gLF := ⟨k0.ne p2.ne (by omega)⟩
   have m9 : NE g3 gLT := ⟨k1.ne p5.ne (by omega)⟩
   replace a8 := i4.same _ _ ⟨n8.ne, m9.ne, i8.ne, trivial⟩ a8
   have j9 : NE g4 gLF := ⟨k0.ne l7.ne (by omega)⟩
   have j8 : NE g4 gLT := ⟨k1.ne l9.ne (by omega)⟩
   replace h5 := i4.same _ _ ⟨j9.ne, j8.ne, h7.ne, trivial⟩ h5
   have o1 : NE gI gLF := ⟨k0.ne p6.ne (by omega)⟩
   have m8 : NE gI gLT := ⟨k1.ne p8.ne (by omega)⟩
   replace aI := i4.same _ _ ⟨o1.ne, m8.ne, j1.ne, trivial⟩ aI
   have o3 : NE gC gLF := ⟨k0.ne p4.ne (by omega)⟩
   have n7 : NE gC gLT := ⟨k1.ne p1.ne (by omega)⟩
   replace aC := i4.same _ _ ⟨o3.ne, n7.ne, i6.ne, trivial⟩ aC
   have lt_at_LF2 := GHeap.ltg p9
   have lt_at_LT2 := GHeap.ltg j6
   have q7 := GHeap.ltg i
   replace hin := m.mono a0
   replace hin1 := h.mono a0
   clear t f1 f0 d9 f2 f5 d7 d8 f3 f4 e0 d6
   have t : Cat.At _ g2 0 c p := ⟨Mem.of_get a6, hin⟩
   obtain ⟨f1, f0, d9, f2, f5, d7, d8, f3, f4⟩ := t.get
   have e0 : MemN _ _ _ _ _ := ⟨rfl, t.1⟩
   have d6 := t.2
   clear u g6 g9 f7 f8 h0 g8 f6 f9 g1 g0 g7
   have u : Cat.At _ g3 0 d q := ⟨Mem.of_get a8, hin1⟩
   obtain ⟨g6, g9, f7, f8, h0, g8, f6, f9, g1⟩ := u.get
   have g0 : MemN _ _ _ _ _ := ⟨rfl, u.1⟩
   have g7 := u.2
   clear l
   have l : MemN _ _ _ _ _ := ⟨rfl, Mem.of_get a5⟩
   have rk := St.refl [l6, l5, g5] HL2
   obtain ⟨⟨hy, hsm, aE, hts⟩, ⟨y9, z2⟩, hS, hT, hR, u9, u8⟩ := hI
   have t4 := i
   refine .seq (fun K10 w3 => .seq (fun K11 x8 => .region (.mv rfl (.q rfl (.fieldAddr fo_27_0_B rfl) ?_))))
   refine .q rfl (.load on_2_A rfl (by first | assumption | exact Mem.of_get a8 0 _ rfl)) ?_
   refine .q rfl (.cmp rfl rfl rfl) (.nil (x8 _ _ ?_))
   refine .cond rfl (fun v0 => ?_) (fun v0 => ?_)
   ·
    simp only [sps] at v0
    refine .skip ?_
    refine w3 _ _ (.seq (fun K12 v7 => ?_))
    refine .block ?_
    refine .seq (fun K13 x7 => .region (.q rfl (.fieldAddr fo_27_1_B rfl) ?_))
    refine .q rfl (.load on_24_B rfl (by first | assumption | exact Mem.of_get i 1 _ rfl)) ?_
    refine .mv rfl ?_
    refine .R rfl (.litA rfl sl_24_A ze_2_N rfl rfl rfl rfl) ?_
    rintro _ H35 ⟨z5, rfl, l3, ge35, m2⟩
    have nx_H35 := l3.1
    replace a0 := a0.trans l3
    replace h6 := h6.le l3
    replace i4 := i4.le l3
    replace rk := rk.le l3
    replace a6 := l3.2 _ _ a6
    replace a8 := l3.2 _ _ a8
    replace h5 := l3.2 _ _ h5
    replace aI := l3.2 _ _ aI
    replace aC := l3.2 _ _ aC
    replace p9 := l3.2 _ _ p9
    replace j6 := l3.2 _ _ j6
    replace i := l3.2 _ _ i
    have lt_at35 := GHeap.ltg m2
    replace hin := m.mono a0
    replace hin1 := h.mono a0
    clear t f1 f0 d9 f2 f5 d7 d8 f3 f4 e0 d6
    have t : Cat.At _ g2 0 c p := ⟨Mem.of_get a6, hin⟩
    obtain ⟨f1, f0, d9, f2, f5, d7, d8, f3, f4⟩ := t.get
    have e0 : MemN _ _ _ _ _ := ⟨rfl, t.1⟩
    have d6 := t.2
    clear u g6 g9 f7 f8 h0 g8 f6 f9 g1 g0 g7
    have u : Cat.At _ g3 0 d q := ⟨Mem.of_get a8, hin1⟩
    obtain ⟨g6, g9, f7, f8, h0, g8, f6, f9, g1⟩ := u.get
    have g0 : MemN _ _ _ _ _ := ⟨rfl, u.1⟩
    have g7 := u.2
    clear l
    have l : MemN _ _ _ _ _ := ⟨rfl, Mem.of_get a5⟩
    refine .R rfl (.appendI rfl sl_24_A ze_2_N rfl by_2_N sl_24_A rfl rfl (by assumption) (by assumption) (by first | omega | (simp <;> omega)) (by omega) (by omega)) ?_
    rintro _ H36 ⟨y8, rfl, k9, ge36, o6⟩
    have nx_H36 := k9.nx
    replace a0 := a0.st k9 (fun k hk => ⟨by omega, trivial⟩)
    replace h6 := h6.sQ k9
    replace i4 := i4.sQ k9
    replace rk := rk.sQ k9
    replace a6 := k9.same _ _ ⟨(k4.ne o4.ne (by omega)), trivial⟩ a6
    replace a8 := k9.same _ _ ⟨(k4.ne n8.ne (by omega)), trivial⟩ a8
    replace h5 := k9.same _ _ ⟨(k4.ne j9.ne (by omega)), trivial⟩ h5
    replace aI := k9.same _ _ ⟨(k4.ne o1.ne (by omega)), trivial⟩ aI
    replace aC := k9.same _ _ ⟨(k4.ne o3.ne (by omega)), trivial⟩ aC
    replace j6 := k9.same _ _ ⟨(Ne.symm u3), trivial⟩ j6
    replace i := k9.same _ _ ⟨(Ne.symm u5), trivial⟩ i
    replace m2 := k9.s m2
    have lt_at36 := GHeap.ltg o6
    replace hin := m.mono a0
    replace hin1 := h.mono a0
    clear t f1 f0 d9 f2 f5 d7 d8 f3 f4 e0 d6
    have t : Cat.At _ g2 0 c p := ⟨Mem.of_get a6, hin⟩
    obtain ⟨f1, f0, d9, f2, f5, d7, d8, f3, f4⟩ := t.get
    have e0 : MemN _ _ _ _ _ := ⟨rfl, t.1⟩
    have d6 := t.2
    clear u g6 g9 f7 f8 h0 g8 f6 f9 g1 g0 g7
    have u : Cat.At _ g3 0 d q := ⟨Mem.of_get a8, hin1⟩
    obtain ⟨g6, g9, f7, f8, h0, g8, f6, f9, g1⟩ := u.get
    have g0 : MemN _ _ _ _ _ := ⟨rfl, u.1⟩
    have g7 := u.2
    clear l
    have l : MemN _ _ _ _ _ := ⟨rfl, Mem.of_get a5⟩
    refine .q rfl (.fieldAddr fo_27_1_B rfl) ?_
    refine .r0 rfl rfl (.storeR rfl sz_24_Ch rfl rfl rfl (by assumption) (by first | exact Nat.le_of_ble_eq_true rfl | (simp; done) | (simp <;> omega))) ?_
    rintro _ H9006 ⟨rfl, h4, k3⟩
    have nx_H9006 := h4.nx
    replace a0 := a0.st h4 (fun k hk => ⟨by omega, trivial⟩)
    replace h6 := h6.sA h4
    replace i4 := i4.sA h4
    replace rk := rk.sA h4
    replace a6 := h4.s a6 j5.ne
    replace a8 := h4.s a8 i8.ne
    replace h5 := h4.s h5 h7.ne
    replace aI := h4.s aI j1.ne
    replace aC := h4.s aC i6.ne
    replace j6 := h4.same _ _ ⟨s7, trivial⟩ j6
    have m7 : NE z5 g5 := .a
    replace m2 := h4.s m2 m7.ne
    have m6 : NE y8 g5 := .a
    replace o6 := h4.s o6 m6.ne
    have lt_at9006 := GHeap.ltg k3
    replace hin := m.mono a0
    replace hin1 := h.mono a0
    clear t f1 f0 d9 f2 f5 d7 d8 f3 f4 e0 d6
    have t : Cat.At _ g2 0 c p := ⟨Mem.of_get a6, hin⟩
    obtain ⟨f1, f0, d9, f2, f5, d7, d8, f3, f4⟩ := t.get
    have e0 : MemN _ _ _ _ _ := ⟨rfl, t.1⟩
    have d6 := t.2
    clear u g6 g9 f7 f8 h0 g8 f6 f9 g1 g0 g7
    have u : Cat.At _ g3 0 d q := ⟨Mem.of_get a8, hin1⟩
    obtain ⟨g6, g9, f7, f8, h0, g8, f6, f9, g1⟩ := u.get
    have g0 : MemN _ _ _ _ _ := ⟨rfl, u.1⟩
    have g7 := u.2
    clear l
    have l : MemN _ _ _ _ _ := ⟨rfl, Mem.of_get a5⟩
    try simp only [Nat.zero_add, List.set_cons_succ, List.set_cons_zero] at k3
    refine .nil (x7 _ _ (.region (.q rfl (.fieldAddr fo_27_2_B rfl) ?_)))
    refine .q rfl (.load on_24_B rfl (by first | assumption | exact Mem.of_get k3 2 _ rfl)) ?_
    refine .q rfl (.fieldAddr fo_27_0_B rfl) ?_
    refine .q rfl (.load on_2_A rfl (by first | assumption | exact Mem.of_get a6 0 _ rfl)) ?_
    refine .mv rfl ?_
    refine .q rfl (.add rfl rfl rfl (by omega) (by omega)) ?_
    refine .R rfl (.litA rfl sl_24_A ze_2_N rfl rfl rfl rfl) ?_
    rintro _ H44 ⟨g44, rfl, k7, ge44, r3⟩
    have nx_H44 := k7.1
    replace a0 := a0.trans k7
    replace h6 := h6.le k7
    replace i4 := i4.le k7
    replace rk := rk.le k7
    replace a6 := k7.2 _ _ a6
    replace a8 := k7.2 _ _ a8
    replace h5 := k7.2 _ _ h5
    replace aI := k7.2 _ _ aI
    replace aC := k7.2 _ _ aC
    replace j6 := k7.2 _ _ j6
    replace m2 := k7.2 _ _ m2
    replace o6 := k7.2 _ _ o6
    replace k3 := k7.2 _ _ k3
    have lt_at44 := GHeap.ltg r3
    replace hin := m.mono a0
    replace hin1 := h.mono a0
    clear t f1 f0 d9 f2 f5 d7 d8 f3 f4 e0 d6
    have t : Cat.At _ g2 0 c p := ⟨Mem.of_get a6, hin⟩
    obtain ⟨f1, f0, d9, f2, f5, d7, d8, f3, f4⟩ := t.get
    have e0 : MemN _ _ _ _ _ := ⟨rfl, t.1⟩
    have d6 := t.2
    clear u g6 g9 f7 f8 h0 g8 f6 f9 g1 g0 g7
    have u : Cat.At _ g3 0 d q := ⟨Mem.of_get a8, hin1⟩
    obtain ⟨g6, g9, f7, f8, h0, g8, f6, f9, g1⟩ := u.get
    have g0 : MemN _ _ _ _ _ := ⟨rfl, u.1⟩
    have g7 := u.2
    clear l
    have l : MemN _ _ _ _ _ := ⟨rfl, Mem.of_get a5⟩
    refine .R rfl (.appendI rfl sl_24_A ze_2_N rfl by_2_N sl_24_A rfl rfl (by assumption) (by assumption) (by first | omega | (simp <;> omega)) (by omega) (by omega)) ?_
    rintro _ H45 ⟨z6, rfl, k6, ge45, t0⟩
    have nx_H45 := k6.nx
    replace a0 := a0.st k6 (fun k hk => ⟨by omega, trivial⟩)
    replace h6 := h6.sQ k6
    replace i4 := i4.sQ k6
    replace rk := rk.sQ k6
    replace a6 := k6.same _ _ ⟨(k2.ne m4.ne (by omega)), trivial⟩ a6
    replace a8 := k6.same _ _ ⟨(k2.ne m9.ne (by omega)), trivial⟩ a8
    replace h5 := k6.same _ _ ⟨(k2.ne j8.ne (by omega)), trivial⟩ h5
    replace aI := k6.same _ _ ⟨(k2.ne m8.ne (by omega)), trivial⟩ aI
    replace aC := k6.same _ _ ⟨(k2.ne n7.ne (by omega)), trivial⟩ aC
    replace m2 := k6.s m2
    replace o6 := k6.s o6
    replace k3 := k6.same _ _ ⟨(Ne.symm s7), trivial⟩ k3
    replace r3 := k6.s r3
    have lt_at45 := GHeap.ltg t0
    replace hin := m.mono a0
    replace hin1 := h.mono a0
    clear t f1 f0 d9 f2 f5 d7 d8 f3 f4 e0 d6
    have t : Cat.At _ g2 0 c p := ⟨Mem.of_get a6, hin⟩
    obtain ⟨f1, f0, d9, f2, f5, d7, d8, f3, f4⟩ := t.get
    have e0 : MemN _ _ _ _ _ := ⟨rfl, t.1⟩
    have d6 := t.2
    clear u g6 g9 f7 f8 h0 g8 f6 f9 g1 g0 g7
    have u : Cat.At _ g3 0 d q := ⟨Mem.of_get a8, hin1⟩
    obtain ⟨g6, g9, f7, f8, h0, g8, f6, f9, g1⟩ := u.get
    have g0 : MemN _ _ _ _ _ := ⟨rfl, u.1⟩
    have g7 := u.2
    clear l
    have l : MemN _ _ _ _ _ := ⟨rfl, Mem.of_get a5⟩
    refine .q rfl (.fieldAddr fo_27_2_B rfl) ?_
    refine .r0 rfl rfl (.storeR rfl sz_24_Ch rfl rfl rfl (by assumption) (by first | exact Nat.le_of_ble_eq_true rfl | (simp; done) | (simp <;> omega))) ?_
    rintro _ H10009 ⟨rfl, c2, q6⟩
    have nx_H10009 := c2.nx
    replace a0 := a0.st c2 (fun k hk => ⟨by omega, trivial⟩)
    replace h6 := h6.sA c2
    replace i4 := i4.sA c2
    replace rk := rk.sA c2
    replace a6 := c2.s a6 j5.ne
    replace a8 := c2.s a8 i8.ne
    replace h5 := c2.s h5 h7.ne
    replace aI := c2.s aI j1.ne
    replace aC := c2.s aC i6.ne
    replace m2 := c2.s m2 m7.ne
    replace o6 := c2.s o6 m6.ne
    replace r3 := c2.s r3
    replace t0 := c2.s t0
    have lt_at10009 := GHeap.ltg q6
    replace hin := m.mono a0
    replace hin1 := h.mono a0
    clear t f1 f0 d9 f2 f5 d7 d8 f3 f4 e0 d6
    have t : Cat.At _ g2 0 c p := ⟨Mem.of_get a6, hin⟩
    obtain ⟨f1, f0, d9, f2, f5, d7, d8, f3, f4⟩ := t.get
    have e0 : MemN _ _ _ _ _ := ⟨rfl, t.1⟩
    have d6 := t.2
    clear u g6 g9 f7 f8 h0 g8 f6 f9 g1 g0 g7
    have u : Cat.At _ g3 0 d q := ⟨Mem.of_get a8, hin1⟩
    obtain ⟨g6, g9, f7, f8, h0, g8, f6, f9, g1⟩ := u.get
    have g0 : MemN _ _ _ _ _ := ⟨rfl, u.1⟩
    have g7 := u.2
    clear l
    have l : MemN _ _ _ _ _ := ⟨rfl, Mem.of_get a5⟩
    try simp only [Nat.zero_add, List.set_cons_succ, List.set_cons_zero] at q6
    refine .nil (v7 _ _ (.region (.mv rfl ?_)))
    refine .q rfl (.add rfl rfl rfl (by omega) (by omega)) ?_
    refine .mv rfl (.nil ?_)
    refine x6 ((y + 1, s2 ++ [(x : Int)], t2 ++ [c.obj + (y : Int)], y8, z6)) _ _ ?_ ?_ ⟨rfl, rfl, rfl, rfl, rfl, rfl, rfl, trivial⟩
    ·
     refine ⟨i4, by first | assumption | (rw [List.length_append, List.length_append]; assumption), by first | assumption | exact ⟨.inr (by omega)⟩ | exact ⟨.inl rfl⟩, by first | assumption | (rw [List.length_append, List.length_append]; assumption), by first | assumption | exact ⟨.inr (by omega)⟩ | exact ⟨.inl rfl⟩, by first | assumption | (rw [List.length_append, List.length_append]; assumption), by first | assumption | omega, by first | assumption | omega, by first | assumption | omega, ?_⟩
     have hR' := hR.st rk (.cons u9 (.cons u8 (.cons (hR.neT t4 rfl) (.nil _ _))))
     have aK : x = 0 := by omega
     have w4 : y = 0 := by omega
     exact ⟨⟨by omega, by simp; omega, by simp; omega, by simp; omega⟩, ⟨by rw [y9, if_pos w4, if_neg (by omega), aK]; rfl, by rw [z2, if_pos w4, if_neg (by omega), w4, oc]; rfl⟩, hS.snoc (by omega) (by omega), hT.snoc (by omega) (by omega), hR', hR.ne (by omega), hR.ne (by omega)⟩
    (dsimp only; omega)
   try simp only [sps] at v0
   refine .exit ?_
   refine aD _ _ (.region (.mv rfl ?_))
   refine .q rfl (.add rfl rfl rfl (by omega) (by omega)) ?_
   refine .mv rfl (.nil ?_)
   refine w2 ((x + 1, s2, t2, l6, l5)) _ _ ?_ ?_ ⟨rfl, rfl, rfl, rfl, rfl, rfl, trivial⟩
   ·
    refine ⟨h6, by assumption, by first | assumption | exact k4.trans k0 (by omega) | exact ⟨.inr (by omega)⟩ | exact ⟨.inl rfl⟩, by assumption, by first | assumption | exact k2.trans k1 (by omega) | exact ⟨.inr (by omega)⟩ | exact ⟨.inl rfl⟩, by assumption, by first | assumption | omega, by first | assumption | omega, by first | assumption | omega, ?_⟩
    exact ⟨⟨by omega, by omega, by omega, by omega⟩, ⟨by rw [y9, if_neg (by omega), if_neg (by omega)], by rw [z2, if_neg (by omega), if_neg (by omega)]⟩, hS, hT, hR, u9, u8⟩
   (dsimp only; omega)
  try simp only [sps] at y1
  refine .exit ?_
  refine aB _ _ (.seq (fun K14 x0 => .region ?_))
  have ltF := GHeap.ltg w
  have ltT := GHeap.ltg v
  have ltI := GHeap.ltg aI
  refine .R rfl (.litA rfl sl_25_B ze_24_Hj rfl rfl rfl rfl) ?_
  rintro _ v2 ⟨r9, rfl, m3, ge47, s9⟩
  have nx_H47 := m3.1
  replace a0 := a0.trans m3
  replace h6 := h6.le m3
  replace a6 := m3.2 _ _ a6
  replace a8 := m3.2 _ _ a8
  replace h5 := m3.2 _ _ h5
  replace aI := m3.2 _ _ aI
  replace aC := m3.2 _ _ aC
  replace w := m3.2 _ _ w
  replace v := m3.2 _ _ v
  replace i := m3.2 _ _ i
  have lt_at47 := GHeap.ltg s9
  replace hin := m.mono a0
  replace hin1 := h.mono a0
  clear t f1 f0 d9 f2 f5 d7 d8 f3 f4 e0 d6
  have t : Cat.At _ g2 0 c p := ⟨Mem.of_get a6, hin⟩
  obtain ⟨f1, f0, d9, f2, f5, d7, d8, f3, f4⟩ := t.get
  have e0 : MemN _ _ _ _ _ := ⟨rfl, t.1⟩
  have d6 := t.2
  clear u g6 g9 f7 f8 h0 g8 f6 f9 g1 g0 g7
  have u : Cat.At _ g3 0 d q := ⟨Mem.of_get a8, hin1⟩
  obtain ⟨g6, g9, f7, f8, h0, g8, f6, f9, g1⟩ := u.get
  have g0 : MemN _ _ _ _ _ := ⟨rfl, u.1⟩
  have g7 := u.2
  clear l
  have l : MemN _ _ _ _ _ := ⟨rfl, Mem.of_get a5⟩
  refine .mv rfl (.nil (x0 _ _ (.seq (fun K15 w1 => .seq (fun K16 w9 => .region (.mv rfl (.nil (w9 _ _ ?_))))))))
  refine .block ?_
  refine .loopR (σ := Nat × (Nat → Option Addr) × List (List Int) × Nat × Nat) [(2, some _), (3, some _), (4, some _), (5, some _), (6, some _)] (fun (f, rq, cs, m5, s8) => [(10, some (.int .i64 (f : Int))), (9, some (.slice (some ⟨m5, 0, none⟩) s8 s8))]) (fun (f, rq, cs, m5, s8) H' => St [r9] v2 H' ∧ H'.get m5 = some (.row ((slsL rq cs)) 24 true) ∧ PL m5 r9 v2.next ∧ s8 = (slsL rq cs).length ∧ (f ≤ ss.length ∧ cs.length = f) ∧ Tb (-60) 120 ss.length cs ∧ TabP (JnV E ss ts) cs ∧ OwnL H.next H' 2 rr E.comp ∧ OwnL v2.next H' 2 rq cs) (fun (f, rq, cs, m5, s8) => ss.length - f) ((0, fun _ => none, [], _, _)) ⟨rfl, rfl, rfl, rfl, rfl, trivial⟩ ⟨rfl, rfl, trivial⟩ ?_ ?_
  ·
   refine ⟨.refl _ _, by first | assumption | exact s9 | simpa using s9, ⟨.inl rfl⟩, by first | rfl | assumption | simp | omega, ?_⟩
   exact ⟨⟨by omega, rfl⟩, .nil _ _ _, .nil _, hR.keep (.of_le (by assumption)), .nil _ _ _ _⟩
  rintro ⟨f, rq, cs, m5, s8⟩ HL3 ⟨c4, a9, j7, t7, hI⟩ KL3 x4
  refine .forget (fr' := [(10, some (.int .i64 (f : Int))), (9, some (.slice (some ⟨m5, 0, none⟩) s8 s8)), (2, some _), (3, some _), (4, some _), (5, some _), (6, some _)]) ⟨rfl, rfl, rfl, rfl, rfl, rfl, rfl, trivial⟩ ?_
  have ge_L9 : H.next ≤ m5 := j7.ge (by omega) (by omega)
  have nx_HL3 := c4.nx
  replace a0 := a0.st c4 (fun k hk => ⟨by omega, trivial⟩)
  have n9 : NE g2 r9 := .a
  replace a6 := c4.s a6 n9.ne
  have o0 : NE g3 r9 := .a
  replace a8 := c4.s a8 o0.ne
  have l0 : NE g4 r9 := .a
  replace h5 := c4.s h5 l0.ne
  have o2 : NE gI r9 := .a
  replace aI := c4.s aI o2.ne
  have n0 : NE gC r9 := .a
  replace aC := c4.s aC n0.ne
  have m0 : NE gLF r9 := .a
  replace w := c4.s w m0.ne
  have l8 : NE gLT r9 := .a
  replace v := c4.s v l8.ne
  have l4 : NE g5 r9 := .a
  replace i := c4.s i l4.ne
  have lt_at_L9 := GHeap.ltg a9
  replace hin := m.mono a0
  replace hin1 := h.mono a0
  clear t f1 f0 d9 f2 f5 d7 d8 f3 f4 e0 d6
  have t : Cat.At _ g2 0 c p := ⟨Mem.of_get a6, hin⟩
  obtain ⟨f1, f0, d9, f2, f5, d7, d8, f3, f4⟩ := t.get
  have e0 : MemN _ _ _ _ _ := ⟨rfl, t.1⟩
  have d6 := t.2
  clear u g6 g9 f7 f8 h0 g8 f6 f9 g1 g0 g7
  have u : Cat.At _ g3 0 d q := ⟨Mem.of_get a8, hin1⟩
  obtain ⟨g6, g9, f7, f8, h0, g8, f6, f9, g1⟩ := u.get
  have g0 : MemN _ _ _ _ _ := ⟨rfl, u.1⟩
  have g7 := u.2
  clear l
  have l : MemN _ _ _ _ _ := ⟨rfl, Mem.of_get a5⟩
  have rk := St.refl [m5] HL3
  obtain ⟨⟨hf, hcl⟩, hC, hCT, hR, hQ⟩ := hI
  have t3 := a9
  have hfl : (slsL rq cs).length = cs.length := length_slsL _ _
  refine .seq (fun K17 v9 => .seq (fun K18 x5 => .region (.mv rfl (.q rfl (.fieldAddr fo_27_1_B rfl) ?_))))
  refine .q rfl (.load on_24_B rfl (by first | assumption | exact Mem.of_get i 1 _ rfl)) ?_
  refine .q rfl (.len sl_24_A rfl) (.q rfl (.cmp rfl rfl rfl) (.nil (x5 _ _ ?_)))
  refine .cond rfl (fun v3 => ?_) (fun v3 => ?_)
  ·
   simp only [sps] at v3
   have q1 := hS f (by omega)
   have q2 := hT f (by omega)
   have m1 := mul_bdg (a := ss.getD f 0) (b := d.obj) (A := 12) (B := 8) (by omega) (by omega)
   refine .skip ?_
   refine v9 _ _ (.seq (fun K19 v4 => ?_))
   refine .block ?_
   refine .seq (fun K20 w6 => .region ?_)
   refine .R rfl (.litA rfl sl_24_A ze_2_N rfl rfl rfl rfl) ?_
   rintro _ y4 ⟨q8, rfl, l1, ge55, r5⟩
   have nx_H55 := l1.1
   replace a0 := a0.trans l1
   replace c4 := c4.le l1
   replace rk := rk.le l1
   replace a6 := l1.2 _ _ a6
   replace a8 := l1.2 _ _ a8
   replace h5 := l1.2 _ _ h5
   replace aI := l1.2 _ _ aI
   replace aC := l1.2 _ _ aC
   replace w := l1.2 _ _ w
   replace v := l1.2 _ _ v
   replace i := l1.2 _ _ i
   replace a9 := l1.2 _ _ a9
   have lt_at55 := GHeap.ltg r5
   replace hin := m.mono a0
   replace hin1 := h.mono a0
   clear t f1 f0 d9 f2 f5 d7 d8 f3 f4 e0 d6
   have t : Cat.At _ g2 0 c p := ⟨Mem.of_get a6, hin⟩
   obtain ⟨f1, f0, d9, f2, f5, d7, d8, f3, f4⟩ := t.get
   have e0 : MemN _ _ _ _ _ := ⟨rfl, t.1⟩
   have d6 := t.2
   clear u g6 g9 f7 f8 h0 g8 f6 f9 g1 g0 g7
   have u : Cat.At _ g3 0 d q := ⟨Mem.of_get a8, hin1⟩
   obtain ⟨g6, g9, f7, f8, h0, g8, f6, f9, g1⟩ := u.get
   have g0 : MemN _ _ _ _ _ := ⟨rfl, u.1⟩
   have g7 := u.2
   clear l
   have l : MemN _ _ _ _ _ := ⟨rfl, Mem.of_get a5⟩
   replace r5 : GHeap.get y4 q8 = some (.row (ints []) 2 true) := r5
   refine .mv rfl (.nil (w6 _ _ (.seq (fun K21 w5 => .seq (fun K22 v6 => .region (.mv rfl (.nil (v6 _ _ ?_))))))))
   refine .block ?_
   refine .loopR (σ := Nat × List Int × Nat × Nat) [(2, some _), (3, some _), (4, some _), (5, some _), (6, some _), (9, some _), (10, some _)] (fun (g, row, a7, p7) => [(12, some (.int .i64 (g : Int))), (11, some (.slice (some ⟨a7, 0, none⟩) p7 p7))]) (fun (g, row, a7, p7) H' => St [q8] y4 H' ∧ H'.get a7 = some (.row (ints row) 2 true) ∧ PL a7 q8 y4.next ∧ p7 = row.length ∧ (g ≤ ss.length ∧ row.length = g) ∧ Bd (-60) 120 row ∧ RowP (JnV E ss ts f) row) (fun (g, row, a7, p7) => ss.length - g) ((0, [], _, _)) ⟨rfl, rfl, rfl, rfl, rfl, rfl, rfl, trivial⟩ ⟨rfl, rfl, trivial⟩ ?_ ?_
   ·
    refine ⟨.refl _ _, by first | assumption | exact r5 | simpa using r5, ⟨.inl rfl⟩, by first | rfl | assumption | simp | omega, ?_⟩
    exact ⟨⟨by omega, rfl⟩, .nil _ _, .nil _⟩
   rintro ⟨g, row, a7, p7⟩ HL4 ⟨c6, h1, o, t1, hI⟩ KL4 s3
   refine .forget (fr' := [(12, some (.int .i64 (g : Int))), (11, some (.slice (some ⟨a7, 0, none⟩) p7 p7)), (2, some _), (3, some _), (4, some _), (5, some _), (6, some _), (9, some _), (10, some _)]) ⟨rfl, rfl, rfl, rfl, rfl, rfl, rfl, rfl, rfl, trivial⟩ ?_
   have ge_L11 : H.next ≤ a7 := o.ge (by omega) (by omega)
   have nx_HL4 := c6.nx
   replace a0 := a0.st c6 (fun k hk => ⟨by omega, trivial⟩)
   replace c4 := c4.sA c6
   replace rk := rk.sA c6
   have i7 : NE g2 q8 := .a
   replace a6 := c6.s a6 i7.ne
   have i9 : NE g3 q8 := .a
   replace a8 := c6.s a8 i9.ne
   have j4 : NE g4 q8 := .a
   replace h5 := c6.s h5 j4.ne
   have j0 : NE gI q8 := .a
   replace aI := c6.s aI j0.ne
   have j2 : NE gC q8 := .a
   replace aC := c6.s aC j2.ne
   have h8 : NE gLF q8 := .a
   replace w := c6.s w h8.ne
   have i0 : NE gLT q8 := .a
   replace v := c6.s v i0.ne
   have j3 : NE g5 q8 := .a
   replace i := c6.s i j3.ne
   have h2 : NE m5 q8 := .a
   replace a9 := c6.s a9 h2.ne
   have lt_at_L11 := GHeap.ltg h1
   replace hin := m.mono a0
   replace hin1 := h.mono a0
   clear t f1 f0 d9 f2 f5 d7 d8 f3 f4 e0 d6
   have t : Cat.At _ g2 0 c p := ⟨Mem.of_get a6, hin⟩
   obtain ⟨f1, f0, d9, f2, f5, d7, d8, f3, f4⟩ := t.get
   have e0 : MemN _ _ _ _ _ := ⟨rfl, t.1⟩
   have d6 := t.2
   clear u g6 g9 f7 f8 h0 g8 f6 f9 g1 g0 g7
   have u : Cat.At _ g3 0 d q := ⟨Mem.of_get a8, hin1⟩
   obtain ⟨g6, g9, f7, f8, h0, g8, f6, f9, g1⟩ := u.get
   have g0 : MemN _ _ _ _ _ := ⟨rfl, u.1⟩
   have g7 := u.2
   clear l
   have l : MemN _ _ _ _ _ := ⟨rfl, Mem.of_get a5⟩
   obtain ⟨⟨hg, hrl⟩, hW, hWR⟩ := hI
   refine .seq (fun K23 w7 => .seq (fun K24 v1 => .region (.mv rfl (.q rfl (.fieldAddr fo_27_1_B rfl) ?_))))
   refine .q rfl (.load on_24_B rfl (by first | assumption | exact Mem.of_get i 1 _ rfl)) ?_
   refine .q rfl (.len sl_24_A rfl) (.q rfl (.cmp rfl rfl rfl) (.nil (v1 _ _ ?_)))
   refine .cond rfl (fun w0 => ?_) (fun w0 => ?_)
   ·
    simp only [sps] at w0
    have q3 := hS g (by omega)
    have q4 := hT g (by omega)
    refine .skip ?_
    refine w7 _ _ (.seq (fun K25 s5 => ?_))
    refine .block ?_
    refine .seq (fun K26 x9 => .region (.mv rfl (.nil (x9 _ _ (.seq (fun K27 s6 => ?_))))))
    refine .block ?_
    refine .seq (fun K28 y3 => ?_)
    refine .regionD mo_B (.q 0 (.q 1 (.q 2 (.q 3 (.q 4 (.q 5 (.q 6 (.q 7 (.q 8 (.q 9 (.q 10 (.q 11 (.done))))))))))))) (by kernel_rfl) ?_
    refine .q rfl (.fieldAddr fo_27_2_B rfl) ?_
    refine .q rfl (.load on_24_B rfl (by first | assumption | exact Mem.of_get i 2 _ rfl)) ?_
    refine .mv rfl rfl ?_
    refine .q rfl (.idxN sl_24_A (by first | assumption | exact SlA.of_row v (by first | rfl | (simp; done) | (simp <;> omega))) rfl rfl (by omega)) ?_
    refine .q rfl (.loadI on_2_A (by first | assumption | exact Ints.of_get v) rfl (by omega)) ?_
    refine .q rfl (.fieldAddr fo_27_1_B rfl) ?_
    refine .q rfl (.load on_24_B rfl (by first | assumption | exact Mem.of_get i 1 _ rfl)) ?_
    refine .mv rfl rfl ?_
    refine .q rfl (.idxN sl_24_A (by first | assumption | exact SlA.of_row w (by first | rfl | (simp; done) | (simp <;> omega))) rfl rfl (by omega)) ?_
    refine .q rfl (.loadI on_2_A (by first | assumption | exact Ints.of_get w) rfl (by omega)) ?_
    refine .q rfl (.cmp rfl rfl rfl) (.mv rfl rfl ?_)
    refine .done ?_
    refine y3 _ _ ?_
    refine .cond rfl (fun t5 => ?_) (fun t5 => ?_)
    ·
     simp only [sps] at t5
     obtain ⟨h3, q5, n3⟩ : ∃ h3 : Int, h3 = -1 ∧ -60 ≤ h3 ∧ h3 ≤ 120 := ⟨_, rfl, by omega, by omega⟩
     have t6 : JnV E ss ts f g h3 := ⟨fun _ => q5, fun e => absurd e t5⟩
     refine .skip ?_
     refine s6 _ _ (.region (.mv rfl (.mv rfl ?_)))
     refine .R rfl (.litA rfl sl_24_A ze_2_N rfl rfl rfl rfl) ?_
     rintro _ H113 ⟨g113, rfl, h9, ge113, q9⟩
     have nx_H113 := h9.1
     replace a0 := a0.trans h9
     replace c4 := c4.le h9
     replace rk := rk.le h9
     replace c6 := c6.le h9
     replace a6 := h9.2 _ _ a6
     replace a8 := h9.2 _ _ a8
     replace h5 := h9.2 _ _ h5
     replace aI := h9.2 _ _ aI
     replace aC := h9.2 _ _ aC
     replace w := h9.2 _ _ w
     replace v := h9.2 _ _ v
     replace i := h9.2 _ _ i
     replace a9 := h9.2 _ _ a9
     replace h1 := h9.2 _ _ h1
     have lt_at113 := GHeap.ltg q9
     replace hin := m.mono a0
     replace hin1 := h.mono a0
     clear t f1 f0 d9 f2 f5 d7 d8 f3 f4 e0 d6
     have t : Cat.At _ g2 0 c p := ⟨Mem.of_get a6, hin⟩
     obtain ⟨f1, f0, d9, f2, f5, d7, d8, f3, f4⟩ := t.get
     have e0 : MemN _ _ _ _ _ := ⟨rfl, t.1⟩
     have d6 := t.2
     clear u g6 g9 f7 f8 h0 g8 f6 f9 g1 g0 g7
     have u : Cat.At _ g3 0 d q := ⟨Mem.of_get a8, hin1⟩
     obtain ⟨g6, g9, f7, f8, h0, g8, f6, f9, g1⟩ := u.get
     have g0 : MemN _ _ _ _ _ := ⟨rfl, u.1⟩
     have g7 := u.2
     clear l
     have l : MemN _ _ _ _ _ := ⟨rfl, Mem.of_get a5⟩
     refine .R rfl (.appendI rfl sl_24_A ze_2_N rfl by_2_N sl_24_A rfl rfl (by assumption) (by assumption) (by first | omega | (simp <;> omega)) (by omega) (by omega)) ?_
     rintro _ H114 ⟨g114, rfl, i1, ge114, t8⟩
     have nx_H114 := i1.nx
     replace a0 := a0.st i1 (fun k hk => ⟨by omega, trivial⟩)
     replace c4 := c4.sP i1
     replace rk := rk.sP i1
     replace c6 := c6.sP i1
     have c8 : NE g2 a7 := ⟨o.ne i7.ne (by omega)⟩
     replace a6 := i1.s a6 c8.ne
     have c7 : NE g3 a7 := ⟨o.ne i9.ne (by omega)⟩
     replace a8 := i1.s a8 c7.ne
     have d0 : NE g4 a7 := ⟨o.ne j4.ne (by omega)⟩
     replace h5 := i1.s h5 d0.ne
     have c9 : NE gI a7 := ⟨o.ne j0.ne (by omega)⟩
     replace aI := i1.s aI c9.ne
     have d3 : NE gC a7 := ⟨o.ne j2.ne (by omega)⟩
     replace aC := i1.s aC d3.ne
     have c5 : NE gLF a7 := ⟨o.ne h8.ne (by omega)⟩
     replace w := i1.s w c5.ne
     have c3 : NE gLT a7 := ⟨o.ne i0.ne (by omega)⟩
     replace v := i1.s v c3.ne
     have d2 : NE g5 a7 := ⟨o.ne j3.ne (by omega)⟩
     replace i := i1.s i d2.ne
     have b0 : NE m5 a7 := ⟨o.ne h2.ne (by omega)⟩
     replace a9 := i1.s a9 b0.ne
     replace q9 := i1.s q9
     have lt_at114 := GHeap.ltg t8
     replace hin := m.mono a0
     replace hin1 := h.mono a0
     clear t f1 f0 d9 f2 f5 d7 d8 f3 f4 e0 d6
     have t : Cat.At _ g2 0 c p := ⟨Mem.of_get a6, hin⟩
     obtain ⟨f1, f0, d9, f2, f5, d7, d8, f3, f4⟩ := t.get
     have e0 : MemN _ _ _ _ _ := ⟨rfl, t.1⟩
     have d6 := t.2
     clear u g6 g9 f7 f8 h0 g8 f6 f9 g1 g0 g7
     have u : Cat.At _ g3 0 d q := ⟨Mem.of_get a8, hin1⟩
     obtain ⟨g6, g9, f7, f8, h0, g8, f6, f9, g1⟩ := u.get
     have g0 : MemN _ _ _ _ _ := ⟨rfl, u.1⟩
     have g7 := u.2
     clear l
     have l : MemN _ _ _ _ _ := ⟨rfl, Mem.of_get a5⟩
     refine .mv rfl (.nil (s5 _ _ (.region (.mv rfl ?_))))
     refine .q rfl (.add rfl rfl rfl (by omega) (by omega)) ?_
     refine .mv rfl (.nil ?_)
     refine s3 ((g + 1, row ++ [h3], _, _)) _ _ ?_ ?_ ⟨rfl, rfl, rfl, rfl, rfl, rfl, rfl, rfl, rfl, trivial⟩
     ·
      refine ⟨c6, by first | assumption | (rw [q5]; assumption), by first | assumption | exact ⟨.inr (by omega)⟩ | exact ⟨.inl rfl⟩, by first | omega | (simp only [List.length_append, List.length_cons, List.length_nil] <;> omega) | (rw [q5] <;> (first | omega | (simp only [List.length_append, List.length_cons, List.length_nil] <;> omega))), ?_⟩
      exact ⟨⟨by omega, by simp; omega⟩, hW.snoc (by omega) (by omega), hWR.snoc (by rw [hrl]; exact t6)⟩
     (dsimp only; omega)
    simp only [sps] at t5
    refine .seq (fun K29 u4 => .region (.mv rfl (.mv rfl (.q rfl (.cmp rfl rfl rfl) (.mv rfl ?_)))))
    refine .split (fun w8 => ?_) (fun w8 => ?_)
    ·
     simp only [sps] at w8
     refine .qg rfl (.move rfl) (.qg rfl (.move rfl) (.qg rfl (.cmp rfl rfl rfl) (.q rfl (.pickT rfl rfl) (.mv rfl (.nil (u4 _ _ ?_))))))
     refine .cond rfl (fun v8 => ?_) (fun v8 => ?_)
     ·
      simp only [sps] at v8
      have n1 := z7 f (by omega) g (by omega)
      have n2 := e9 f (by omega)
      obtain ⟨h3, q5, n3⟩ : ∃ h3 : Int, h3 = (E.comp.getD f []).getD g 0 ∧ -60 ≤ h3 ∧ h3 ≤ 120 := ⟨_, rfl, by omega, by omega⟩
      have t6 : JnV E ss ts f g h3 := ⟨fun n => by first | exact absurd t5 n | (exfalso; omega), fun _ => by rw [q5, if_pos ⟨by omega, by omega⟩]⟩
      refine .region ?_
      have iE := (hR.st rk (.cons (hR.neT t3 rfl) (.nil _ _))).intss aC (by omega)
      have u1 := iE.2 f (by omega)
      refine .q rfl (.fieldAddr fo_27_4_B rfl) ?_
      refine .q rfl (.load on_25_B rfl (by first | assumption | exact Mem.of_get i 4 _ rfl)) ?_
      refine .mv rfl ?_
      refine .q rfl (.idxN sl_25_B (by first | exact (Intss.sl (by assumption)) | exact SlA.of_row aC (by first | rfl | (simp; done) | (simp <;> omega))) rfl rfl (by omega)) ?_
      refine .q rfl (.loadR on_24_B (by assumption) rfl (by omega)) ?_
      refine .mv rfl ?_
      refine .q rfl (.idxN sl_24_A (by assumption) rfl rfl (by omega)) ?_
      refine .q rfl (.loadI on_2_A (by assumption) rfl (by omega)) ?_
      refine .mv rfl (.nil (s6 _ _ (.region (.mv rfl (.mv rfl ?_)))))
      refine .R rfl (.litA rfl sl_24_A ze_2_N rfl rfl rfl rfl) ?_
      rintro _ H113x2 ⟨g113x2, rfl, b9, ge113x2, o7⟩
      have nx_H113x2 := b9.1
      replace a0 := a0.trans b9
      replace c4 := c4.le b9
      replace rk := rk.le b9
      replace c6 := c6.le b9
      replace a6 := b9.2 _ _ a6
      replace a8 := b9.2 _ _ a8
      replace h5 := b9.2 _ _ h5
      replace aI := b9.2 _ _ aI
      replace aC := b9.2 _ _ aC
      replace w := b9.2 _ _ w
      replace v := b9.2 _ _ v
      replace i := b9.2 _ _ i
      replace a9 := b9.2 _ _ a9
      replace h1 := b9.2 _ _ h1
      have lt_at113x2 := GHeap.ltg o7
      replace hin := m.mono a0
      replace hin1 := h.mono a0
      clear t f1 f0 d9 f2 f5 d7 d8 f3 f4 e0 d6
      have t : Cat.At _ g2 0 c p := ⟨Mem.of_get a6, hin⟩
      obtain ⟨f1, f0, d9, f2, f5, d7, d8, f3, f4⟩ := t.get
      have e0 : MemN _ _ _ _ _ := ⟨rfl, t.1⟩
      have d6 := t.2
      clear u g6 g9 f7 f8 h0 g8 f6 f9 g1 g0 g7
      have u : Cat.At _ g3 0 d q := ⟨Mem.of_get a8, hin1⟩
      obtain ⟨g6, g9, f7, f8, h0, g8, f6, f9, g1⟩ := u.get
      have g0 : MemN _ _ _ _ _ := ⟨rfl, u.1⟩
      have g7 := u.2
      clear l
      have l : MemN _ _ _ _ _ := ⟨rfl, Mem.of_get a5⟩
      refine .R rfl (.appendI rfl sl_24_A ze_2_N rfl by_2_N sl_24_A rfl rfl (by assumption) (by assumption) (by first | omega | (simp <;> omega)) (by omega) (by omega)) ?_
      rintro _ H114x2 ⟨g114x2, rfl, b5, ge114x2, s0⟩
      have nx_H114x2 := b5.nx
      replace a0 := a0.st b5 (fun k hk => ⟨by omega, trivial⟩)
      replace c4 := c4.sP b5
      replace rk := rk.sP b5
      replace c6 := c6.sP b5
      have c8 : NE g2 a7 := ⟨o.ne i7.ne (by omega)⟩
      replace a6 := b5.s a6 c8.ne
      have c7 : NE g3 a7 := ⟨o.ne i9.ne (by omega)⟩
      replace a8 := b5.s a8 c7.ne
      have d0 : NE g4 a7 := ⟨o.ne j4.ne (by omega)⟩
      replace h5 := b5.s h5 d0.ne
      have c9 : NE gI a7 := ⟨o.ne j0.ne (by omega)⟩
      replace aI := b5.s aI c9.ne
      have d3 : NE gC a7 := ⟨o.ne j2.ne (by omega)⟩
      replace aC := b5.s aC d3.ne
      have c5 : NE gLF a7 := ⟨o.ne h8.ne (by omega)⟩
      replace w := b5.s w c5.ne
      have c3 : NE gLT a7 := ⟨o.ne i0.ne (by omega)⟩
      replace v := b5.s v c3.ne
      have d2 : NE g5 a7 := ⟨o.ne j3.ne (by omega)⟩
      replace i := b5.s i d2.ne
      have b0 : NE m5 a7 := ⟨o.ne h2.ne (by omega)⟩
      replace a9 := b5.s a9 b0.ne
      replace o7 := b5.s o7
      have lt_at114x2 := GHeap.ltg s0
      replace hin := m.mono a0
      replace hin1 := h.mono a0
      clear t f1 f0 d9 f2 f5 d7 d8 f3 f4 e0 d6
      have t : Cat.At _ g2 0 c p := ⟨Mem.of_get a6, hin⟩
      obtain ⟨f1, f0, d9, f2, f5, d7, d8, f3, f4⟩ := t.get
      have e0 : MemN _ _ _ _ _ := ⟨rfl, t.1⟩
      have d6 := t.2
      clear u g6 g9 f7 f8 h0 g8 f6 f9 g1 g0 g7
      have u : Cat.At _ g3 0 d q := ⟨Mem.of_get a8, hin1⟩
      obtain ⟨g6, g9, f7, f8, h0, g8, f6, f9, g1⟩ := u.get
      have g0 : MemN _ _ _ _ _ := ⟨rfl, u.1⟩
      have g7 := u.2
      clear l
      have l : MemN _ _ _ _ _ := ⟨rfl, Mem.of_get a5⟩
      refine .mv rfl (.nil (s5 _ _ (.region (.mv rfl ?_))))
      refine .q rfl (.add rfl rfl rfl (by omega) (by omega)) ?_
      refine .mv rfl (.nil ?_)
      refine s3 ((g + 1, row ++ [h3], _, _)) _ _ ?_ ?_ ⟨rfl, rfl, rfl, rfl, rfl, rfl, rfl, rfl, rfl, trivial⟩
      ·
       refine ⟨c6, by first | assumption | (rw [q5]; assumption), by first | assumption | exact ⟨.inr (by omega)⟩ | exact ⟨.inl rfl⟩, by first | omega | (simp only [List.length_append, List.length_cons, List.length_nil] <;> omega) | (rw [q5] <;> (first | omega | (simp only [List.length_append, List.length_cons, List.length_nil] <;> omega))), ?_⟩
       exact ⟨⟨by omega, by simp; omega⟩, hW.snoc (by omega) (by omega), hWR.snoc (by rw [hrl]; exact t6)⟩
      (dsimp only; omega)
     simp only [sps] at v8
     obtain ⟨h3, q5, n3⟩ : ∃ h3 : Int, h3 = (E.src.length : Int) + ss.getD f 0 * d.obj + ts.getD g 0 - c.obj ∧ -60 ≤ h3 ∧ h3 ≤ 120 := ⟨_, rfl, by omega, by omega⟩
     have t6 : JnV E ss ts f g h3 := ⟨fun n => by first | exact absurd t5 n | (exfalso; omega), fun _ => by rw [q5, if_neg (by omega), od, oc, Int.mul_one]⟩
     refine .regionD mo_B (.q 0 (.q 1 (.q 2 (.q 3 (.q 4 (.q 5 (.q 6 (.q 7 (.q 8 (.q 9 (.q 10 (.q 11 (.q 12 (.q 13 (.q 14 (.q 15 (.q 16 (.q 17 (.q 18 (.q 19 (.done))))))))))))))))))))) (by kernel_rfl) ?_
     refine .mv rfl rfl (.q rfl (.fieldAddr fo_27_1_B rfl) ?_)
     refine .q rfl (.load on_24_B rfl (by first | assumption | exact Mem.of_get i 1 _ rfl)) ?_
     refine .mv rfl rfl ?_
     refine .q rfl (.idxN sl_24_A (by first | assumption | exact SlA.of_row w (by first | rfl | (simp; done) | (simp <;> omega))) rfl rfl (by omega)) ?_
     refine .q rfl (.loadI on_2_A (by first | assumption | exact Ints.of_get w) rfl (by omega)) ?_
     refine .q rfl (.fieldAddr fo_27_0_B rfl) ?_
     refine .q rfl (.load on_2_A rfl (by first | assumption | exact Mem.of_get a8 0 _ rfl)) ?_
     refine .q rfl (.mul rfl rfl rfl (by omega) (by omega)) ?_
     refine .q rfl (.add rfl rfl rfl (by omega) (by omega)) ?_
     refine .q rfl (.fieldAddr fo_27_2_B rfl) ?_
     refine .q rfl (.load on_24_B rfl (by first | assumption | exact Mem.of_get i 2 _ rfl)) ?_
     refine .mv rfl rfl ?_
     refine .q rfl (.idxN sl_24_A (by first | assumption | exact SlA.of_row v (by first | rfl | (simp; done) | (simp <;> omega))) rfl rfl (by omega)) ?_
     refine .q rfl (.loadI on_2_A (by first | assumption | exact Ints.of_get v) rfl (by omega)) ?_
     refine .q rfl (.add rfl rfl rfl (by omega) (by omega)) ?_
     refine .q rfl (.fieldAddr fo_27_0_B rfl) ?_
     refine .q rfl (.load on_2_A rfl (by first | assumption | exact Mem.of_get a6 0 _ rfl)) ?_
     refine .q rfl (.sub rfl rfl rfl (by omega) (by omega)) ?_
     refine .mv rfl rfl ?_
     refine .done ?_
     refine s6 _ _ (.region (.mv rfl (.mv rfl ?_)))
     refine .R rfl (.litA rfl sl_24_A ze_2_N rfl rfl rfl rfl) ?_
     rintro _ H113x3 ⟨g113x3, rfl, b7, ge113x3, o9⟩
     have nx_H113x3 := b7.1
     replace a0 := a0.trans b7
     replace c4 := c4.le b7
     replace rk := rk.le b7
     replace c6 := c6.le b7
     replace a6 := b7.2 _ _ a6
     replace a8 := b7.2 _ _ a8
     replace h5 := b7.2 _ _ h5
     replace aI := b7.2 _ _ aI
     replace aC := b7.2 _ _ aC
     replace w := b7.2 _ _ w
     replace v := b7.2 _ _ v
     replace i := b7.2 _ _ i
     replace a9 := b7.2 _ _ a9
     replace h1 := b7.2 _ _ h1
     have lt_at113x3 := GHeap.ltg o9
     replace hin := m.mono a0
     replace hin1 := h.mono a0
     clear t f1 f0 d9 f2 f5 d7 d8 f3 f4 e0 d6
     have t : Cat.At _ g2 0 c p := ⟨Mem.of_get a6, hin⟩
     obtain ⟨f1, f0, d9, f2, f5, d7, d8, f3, f4⟩ := t.get
     have e0 : MemN _ _ _ _ _ := ⟨rfl, t.1⟩
     have d6 := t.2
     clear u g6 g9 f7 f8 h0 g8 f6 f9 g1 g0 g7
     have u : Cat.At _ g3 0 d q := ⟨Mem.of_get a8, hin1⟩
     obtain ⟨g6, g9, f7, f8, h0, g8, f6, f9, g1⟩ := u.get
     have g0 : MemN _ _ _ _ _ := ⟨rfl, u.1⟩
     have g7 := u.2
     clear l
     have l : MemN _ _ _ _ _ := ⟨rfl, Mem.of_get a5⟩
     refine .R rfl (.appendI rfl sl_24_A ze_2_N rfl by_2_N sl_24_A rfl rfl (by assumption) (by assumption) (by first | omega | (simp <;> omega)) (by omega) (by omega)) ?_
     rintro _ H114x3 ⟨g114x3, rfl, b6, ge114x3, s4⟩
     have nx_H114x3 := b6.nx
     replace a0 := a0.st b6 (fun k hk => ⟨by omega, trivial⟩)
     replace c4 := c4.sP b6
     replace rk := rk.sP b6
     replace c6 := c6.sP b6
     have c8 : NE g2 a7 := ⟨o.ne i7.ne (by omega)⟩
     replace a6 := b6.s a6 c8.ne
     have c7 : NE g3 a7 := ⟨o.ne i9.ne (by omega)⟩
     replace a8 := b6.s a8 c7.ne
     have d0 : NE g4 a7 := ⟨o.ne j4.ne (by omega)⟩
     replace h5 := b6.s h5 d0.ne
     have c9 : NE gI a7 := ⟨o.ne j0.ne (by omega)⟩
     replace aI := b6.s aI c9.ne
     have d3 : NE gC a7 := ⟨o.ne j2.ne (by omega)⟩
     replace aC := b6.s aC d3.ne
     have c5 : NE gLF a7 := ⟨o.ne h8.ne (by omega)⟩
     replace w := b6.s w c5.ne
     have c3 : NE gLT a7 := ⟨o.ne i0.ne (by omega)⟩
     replace v := b6.s v c3.ne
     have d2 : NE g5 a7 := ⟨o.ne j3.ne (by omega)⟩
     replace i := b6.s i d2.ne
     have b0 : NE m5 a7 := ⟨o.ne h2.ne (by omega)⟩
     replace a9 := b6.s a9 b0.ne
     replace o9 := b6.s o9
     have lt_at114x3 := GHeap.ltg s4
     replace hin := m.mono a0
     replace hin1 := h.mono a0
     clear t f1 f0 d9 f2 f5 d7 d8 f3 f4 e0 d6
     have t : Cat.At _ g2 0 c p := ⟨Mem.of_get a6, hin⟩
     obtain ⟨f1, f0, d9, f2, f5, d7, d8, f3, f4⟩ := t.get
     have e0 : MemN _ _ _ _ _ := ⟨rfl, t.1⟩
     have d6 := t.2
     clear u g6 g9 f7 f8 h0 g8 f6 f9 g1 g0 g7
     have u : Cat.At _ g3 0 d q := ⟨Mem.of_get a8, hin1⟩
     obtain ⟨g6, g9, f7, f8, h0, g8, f6, f9, g1⟩ := u.get
     have g0 : MemN _ _ _ _ _ := ⟨rfl, u.1⟩
     have g7 := u.2
     clear l
     have l : MemN _ _ _ _ _ := ⟨rfl, Mem.of_get a5⟩
     refine .mv rfl (.nil (s5 _ _ (.region (.mv rfl ?_))))
     refine .q rfl (.add rfl rfl rfl (by omega) (by omega)) ?_
     refine .mv rfl (.nil ?_)
     refine s3 ((g + 1, row ++ [h3], _, _)) _ _ ?_ ?_ ⟨rfl, rfl, rfl, rfl, rfl, rfl, rfl, rfl, rfl, trivial⟩
     ·
      refine ⟨c6, by first | assumption | (rw [q5]; assumption), by first | assumption | exact ⟨.inr (by omega)⟩ | exact ⟨.inl rfl⟩, by first | omega | (simp only [List.length_append, List.length_cons, List.length_nil] <;> omega) | (rw [q5] <;> (first | omega | (simp only [List.length_append, List.length_cons, List.length_nil] <;> omega))), ?_⟩
      exact ⟨⟨by omega, by simp; omega⟩, hW.snoc (by omega) (by omega), hWR.snoc (by rw [hrl]; exact t6)⟩
     (dsimp only; omega)
    simp only [sps] at w8
    obtain ⟨h3, q5, n3⟩ : ∃ h3 : Int, h3 = (E.src.length : Int) + ss.getD f 0 * d.obj + ts.getD g 0 - c.obj ∧ -60 ≤ h3 ∧ h3 ≤ 120 := ⟨_, rfl, by omega, by omega⟩
    have t6 : JnV E ss ts f g h3 := ⟨fun n => by first | exact absurd t5 n | (exfalso; omega), fun _ => by rw [q5, if_neg (by omega), od, oc, Int.mul_one]⟩
    refine .z rfl (.z rfl (.z rfl (.q rfl (.pickF rfl rfl) (.mv rfl (.nil (u4 _ _ ?_))))))
    refine .condF rfl ?_
    refine .regionD mo_B (.q 0 (.q 1 (.q 2 (.q 3 (.q 4 (.q 5 (.q 6 (.q 7 (.q 8 (.q 9 (.q 10 (.q 11 (.q 12 (.q 13 (.q 14 (.q 15 (.q 16 (.q 17 (.q 18 (.q 19 (.done))))))))))))))))))))) (by kernel_rfl) ?_
    refine .mv rfl rfl (.q rfl (.fieldAddr fo_27_1_B rfl) ?_)
    refine .q rfl (.load on_24_B rfl (by first | assumption | exact Mem.of_get i 1 _ rfl)) ?_
    refine .mv rfl rfl ?_
    refine .q rfl (.idxN sl_24_A (by first | assumption | exact SlA.of_row w (by first | rfl | (simp; done) | (simp <;> omega))) rfl rfl (by omega)) ?_
    refine .q rfl (.loadI on_2_A (by first | assumption | exact Ints.of_get w) rfl (by omega)) ?_
    refine .q rfl (.fieldAddr fo_27_0_B rfl) ?_
    refine .q rfl (.load on_2_A rfl (by first | assumption | exact Mem.of_get a8 0 _ rfl)) ?_
    refine .q rfl (.mul rfl rfl rfl (by omega) (by omega)) ?_
    refine .q rfl (.add rfl rfl rfl (by omega) (by omega)) ?_
    refine .q rfl (.fieldAddr fo_27_2_B rfl) ?_
    refine .q rfl (.load on_24_B rfl (by first | assumption | exact Mem.of_get i 2 _ rfl)) ?_
    refine .mv rfl rfl ?_
    refine .q rfl (.idxN sl_24_A (by first | assumption | exact SlA.of_row v (by first | rfl | (simp; done) | (simp <;> omega))) rfl rfl (by omega)) ?_
    refine .q rfl (.loadI on_2_A (by first | assumption | exact Ints.of_get v) rfl (by omega)) ?_
    refine .q rfl (.add rfl rfl rfl (by omega) (by omega)) ?_
    refine .q rfl (.fieldAddr fo_27_0_B rfl) ?_
    refine .q rfl (.load on_2_A rfl (by first | assumption | exact Mem.of_get a6 0 _ rfl)) ?_
    refine .q rfl (.sub rfl rfl rfl (by omega) (by omega)) ?_
    refine .mv rfl rfl ?_
    refine .done ?_
    refine s6 _ _ (.region (.mv rfl (.mv rfl ?_)))
    refine .R rfl (.litA rfl sl_24_A ze_2_N rfl rfl rfl rfl) ?_
    rintro _ H113x4 ⟨g113x4, rfl, b8, ge113x4, o5⟩
    have nx_H113x4 := b8.1
    replace a0 := a0.trans b8
    replace c4 := c4.le b8
    replace rk := rk.le b8
    replace c6 := c6.le b8
    replace a6 := b8.2 _ _ a6
    replace a8 := b8.2 _ _ a8
    replace h5 := b8.2 _ _ h5
    replace aI := b8.2 _ _ aI
    replace aC := b8.2 _ _ aC
    replace w := b8.2 _ _ w
    replace v := b8.2 _ _ v
    replace i := b8.2 _ _ i
    replace a9 := b8.2 _ _ a9
    replace h1 := b8.2 _ _ h1
    have lt_at113x4 := GHeap.ltg o5
    replace hin := m.mono a0
    replace hin1 := h.mono a0
    clear t f1 f0 d9 f2 f5 d7 d8 f3 f4 e0 d6
    have t : Cat.At _ g2 0 c p := ⟨Mem.of_get a6, hin⟩
    obtain ⟨f1, f0, d9, f2, f5, d7, d8, f3, f4⟩ := t.get
    have e0 : MemN _ _ _ _ _ := ⟨rfl, t.1⟩
    have d6 := t.2
    clear u g6 g9 f7 f8 h0 g8 f6 f9 g1 g0 g7
    have u : Cat.At _ g3 0 d q := ⟨Mem.of_get a8, hin1⟩
    obtain ⟨g6, g9, f7, f8, h0, g8, f6, f9, g1⟩ := u.get
    have g0 : MemN _ _ _ _ _ := ⟨rfl, u.1⟩
    have g7 := u.2
    clear l
    have l : MemN _ _ _ _ _ := ⟨rfl, Mem.of_get a5⟩
    refine .R rfl (.appendI rfl sl_24_A ze_2_N rfl by_2_N sl_24_A rfl rfl (by assumption) (by assumption) (by first | omega | (simp <;> omega)) (by omega) (by omega)) ?_
    rintro _ H114x4 ⟨g114x4, rfl, c0, ge114x4, s1⟩
    have nx_H114x4 := c0.nx
    replace a0 := a0.st c0 (fun k hk => ⟨by omega, trivial⟩)
    replace c4 := c4.sP c0
    replace rk := rk.sP c0
    replace c6 := c6.sP c0
    have c8 : NE g2 a7 := ⟨o.ne i7.ne (by omega)⟩
    replace a6 := c0.s a6 c8.ne
    have c7 : NE g3 a7 := ⟨o.ne i9.ne (by omega)⟩
    replace a8 := c0.s a8 c7.ne
    have d0 : NE g4 a7 := ⟨o.ne j4.ne (by omega)⟩
    replace h5 := c0.s h5 d0.ne
    have c9 : NE gI a7 := ⟨o.ne j0.ne (by omega)⟩
    replace aI := c0.s aI c9.ne
    have d3 : NE gC a7 := ⟨o.ne j2.ne (by omega)⟩
    replace aC := c0.s aC d3.ne
    have c5 : NE gLF a7 := ⟨o.ne h8.ne (by omega)⟩
    replace w := c0.s w c5.ne
    have c3 : NE gLT a7 := ⟨o.ne i0.ne (by omega)⟩
    replace v := c0.s v c3.ne
    have d2 : NE g5 a7 := ⟨o.ne j3.ne (by omega)⟩
    replace i := c0.s i d2.ne
    have b0 : NE m5 a7 := ⟨o.ne h2.ne (by omega)⟩
    replace a9 := c0.s a9 b0.ne
    replace o5 := c0.s o5
    have lt_at114x4 := GHeap.ltg s1
    replace hin := m.mono a0
    replace hin1 := h.mono a0
    clear t f1 f0 d9 f2 f5 d7 d8 f3 f4 e0 d6
    have t : Cat.At _ g2 0 c p := ⟨Mem.of_get a6, hin⟩
    obtain ⟨f1, f0, d9, f2, f5, d7, d8, f3, f4⟩ := t.get
    have e0 : MemN _ _ _ _ _ := ⟨rfl, t.1⟩
    have d6 := t.2
    clear u g6 g9 f7 f8 h0 g8 f6 f9 g1 g0 g7
    have u : Cat.At _ g3 0 d q := ⟨Mem.of_get a8, hin1⟩
    obtain ⟨g6, g9, f7, f8, h0, g8, f6, f9, g1⟩ := u.get
    have g0 : MemN _ _ _ _ _ := ⟨rfl, u.1⟩
    have g7 := u.2
    clear l
    have l : MemN _ _ _ _ _ := ⟨rfl, Mem.of_get a5⟩
    refine .mv rfl (.nil (s5 _ _ (.region (.mv rfl ?_))))
    refine .q rfl (.add rfl rfl rfl (by omega) (by omega)) ?_
    refine .mv rfl (.nil ?_)
    refine s3 ((g + 1, row ++ [h3], _, _)) _ _ ?_ ?_ ⟨rfl, rfl, rfl, rfl, rfl, rfl, rfl, rfl, rfl, trivial⟩
    ·
     refine ⟨c6, by first | assumption | (rw [q5]; assumption), by first | assumption | exact ⟨.inr (by omega)⟩ | exact ⟨.inl rfl⟩, by first | omega | (simp only [List.length_append, List.length_cons, List.length_nil] <;> omega) | (rw [q5] <;> (first | omega | (simp only [List.length_append, List.length_cons, List.length_nil] <;> omega))), ?_⟩
     exact ⟨⟨by omega, by simp; omega⟩, hW.snoc (by omega) (by omega), hWR.snoc (by rw [hrl]; exact t6)⟩
    (dsimp only; omega)
   try simp only [sps] at w0
   refine .exit ?_
   refine w5 _ _ (.region ?_)
   obtain rfl : g = ss.length := by omega
   obtain rfl := t1
   refine .mv rfl (.mv rfl ?_)
   refine .R rfl (.litA rfl sl_25_B ze_24_Hj rfl rfl rfl rfl) ?_
   rintro _ H117 ⟨g117, rfl, i3, ge117, r7⟩
   have nx_H117 := i3.1
   replace a0 := a0.trans i3
   replace c4 := c4.le i3
   replace rk := rk.le i3
   replace a6 := i3.2 _ _ a6
   replace a8 := i3.2 _ _ a8
   replace h5 := i3.2 _ _ h5
   replace aI := i3.2 _ _ aI
   replace aC := i3.2 _ _ aC
   replace w := i3.2 _ _ w
   replace v := i3.2 _ _ v
   replace i := i3.2 _ _ i
   replace a9 := i3.2 _ _ a9
   replace h1 := i3.2 _ _ h1
   have lt_at117 := GHeap.ltg r7
   replace hin := m.mono a0
   replace hin1 := h.mono a0
   clear t f1 f0 d9 f2 f5 d7 d8 f3 f4 e0 d6
   have t : Cat.At _ g2 0 c p := ⟨Mem.of_get a6, hin⟩
   obtain ⟨f1, f0, d9, f2, f5, d7, d8, f3, f4⟩ := t.get
   have e0 : MemN _ _ _ _ _ := ⟨rfl, t.1⟩
   have d6 := t.2
   clear u g6 g9 f7 f8 h0 g8 f6 f9 g1 g0 g7
   have u : Cat.At _ g3 0 d q := ⟨Mem.of_get a8, hin1⟩
   obtain ⟨g6, g9, f7, f8, h0, g8, f6, f9, g1⟩ := u.get
   have g0 : MemN _ _ _ _ _ := ⟨rfl, u.1⟩
   have g7 := u.2
   clear l
   have l : MemN _ _ _ _ _ := ⟨rfl, Mem.of_get a5⟩
   refine .R rfl (.appendV rfl sl_25_B ze_24_Hj rfl by_24_Hj sl_25_B rfl rfl (by assumption) (by assumption) (by first | omega | (simp <;> omega)) rfl rfl (by omega) (by omega)) ?_
   rintro _ H118 ⟨g118, rfl, i2, ge118, u6⟩
   have nx_H118 := i2.nx
   replace a0 := a0.st i2 (fun k hk => ⟨by omega, trivial⟩)
   replace c4 := c4.sP i2
   replace rk := rk.sP i2
   replace a6 := i2.same _ _ ⟨(j7.ne n9.ne (by omega)), trivial⟩ a6
   replace a8 := i2.same _ _ ⟨(j7.ne o0.ne (by omega)), trivial⟩ a8
   have k8 : NE g4 m5 := ⟨j7.ne l0.ne (by omega)⟩
   replace h5 := i2.s h5 k8.ne
   replace aI := i2.same _ _ ⟨(j7.ne o2.ne (by omega)), trivial⟩ aI
   replace aC := i2.same _ _ ⟨(j7.ne n0.ne (by omega)), trivial⟩ aC
   replace w := i2.same _ _ ⟨(j7.ne m0.ne (by omega)), trivial⟩ w
   replace v := i2.same _ _ ⟨(j7.ne l8.ne (by omega)), trivial⟩ v
   have l2 : NE g5 m5 := ⟨j7.ne l4.ne (by omega)⟩
   replace i := i2.s i l2.ne
   have b0 : NE m5 a7 := ⟨o.ne h2.ne (by omega)⟩
   replace h1 := i2.s h1 (Ne.symm b0.ne)
   replace r7 := i2.s r7
   have lt_at118 := GHeap.ltg u6
   replace hin := m.mono a0
   replace hin1 := h.mono a0
   clear t f1 f0 d9 f2 f5 d7 d8 f3 f4 e0 d6
   have t : Cat.At _ g2 0 c p := ⟨Mem.of_get a6, hin⟩
   obtain ⟨f1, f0, d9, f2, f5, d7, d8, f3, f4⟩ := t.get
   have e0 : MemN _ _ _ _ _ := ⟨rfl, t.1⟩
   have d6 := t.2
   clear u g6 g9 f7 f8 h0 g8 f6 f9 g1 g0 g7
   have u : Cat.At _ g3 0 d q := ⟨Mem.of_get a8, hin1⟩
   obtain ⟨g6, g9, f7, f8, h0, g8, f6, f9, g1⟩ := u.get
   have g0 : MemN _ _ _ _ _ := ⟨rfl, u.1⟩
   have g7 := u.2
   clear l
   have l : MemN _ _ _ _ _ := ⟨rfl, Mem.of_get a5⟩
   refine .mv rfl (.nil (v4 _ _ (.region (.mv rfl ?_))))
   refine .q rfl (.add rfl rfl rfl (by omega) (by omega)) ?_
   refine .mv rfl (.nil ?_)
   refine x4 ((f + 1, upd rq cs.length (some ⟨a7, 0, none⟩), cs ++ [row], _, _)) _ _ ?_ ?_ ⟨rfl, rfl, rfl, rfl, rfl, rfl, rfl, trivial⟩
   ·
    refine ⟨c4, by first | assumption | (rw [slsL_snoc]; assumption), by first | assumption | exact ⟨.inr (by omega)⟩ | exact ⟨.inl rfl⟩, by first | omega | (simp only [List.length_append, List.length_cons, List.length_nil] <;> omega) | (rw [slsL_snoc] <;> (first | omega | (simp only [List.length_append, List.length_cons, List.length_nil] <;> omega))), ?_⟩
    have hR' := hR.st rk (.cons (hR.neT t3 rfl) (.nil _ _))
    have hQ' := hQ.st rk (.cons (hQ.neT t3 rfl) (.nil _ _))
    exact ⟨⟨by omega, by simp; omega⟩, hC.snoc (by omega) hW, hCT.snoc (by rw [hcl]; exact hWR), hR', hQ'.snoc2 (by assumption) (hQ.ne (o.ge (by omega) (by omega))) (o.ge (by omega) (by omega))⟩
   (dsimp only; omega)
  try simp only [sps] at v3
  refine .exit ?_
  refine w1 _ _ (.seq (fun K30 x3 => .region ?_))
  obtain rfl : f = ss.length := by omega
  have t4 := i
  refine .mv rfl (.q rfl (.fieldAddr fo_27_4_B rfl) ?_)
  refine .r0 rfl rfl (.storeR rfl sz_25_Ch rfl rfl rfl (by assumption) (by first | exact Nat.le_of_ble_eq_true rfl | (simp; done) | (simp <;> omega))) ?_
  rintro _ H26002 ⟨rfl, d4, k5⟩
  have nx_H26002 := d4.nx
  replace a0 := a0.st d4 (fun k hk => ⟨by omega, trivial⟩)
  replace a6 := d4.s a6 j5.ne
  replace a8 := d4.s a8 i8.ne
  replace h5 := d4.s h5 h7.ne
  replace aI := d4.s aI j1.ne
  replace aC := d4.s aC i6.ne
  replace w := d4.same _ _ ⟨u2, trivial⟩ w
  replace v := d4.same _ _ ⟨u0, trivial⟩ v
  have l2 : NE g5 m5 := ⟨j7.ne l4.ne (by omega)⟩
  replace a9 := d4.s a9 (Ne.symm l2.ne)
  have lt_at26002 := GHeap.ltg k5
  replace hin := m.mono a0
  replace hin1 := h.mono a0
  clear t f1 f0 d9 f2 f5 d7 d8 f3 f4 e0 d6
  have t : Cat.At _ g2 0 c p := ⟨Mem.of_get a6, hin⟩
  obtain ⟨f1, f0, d9, f2, f5, d7, d8, f3, f4⟩ := t.get
  have e0 : MemN _ _ _ _ _ := ⟨rfl, t.1⟩
  have d6 := t.2
  clear u g6 g9 f7 f8 h0 g8 f6 f9 g1 g0 g7
  have u : Cat.At _ g3 0 d q := ⟨Mem.of_get a8, hin1⟩
  obtain ⟨g6, g9, f7, f8, h0, g8, f6, f9, g1⟩ := u.get
  have g0 : MemN _ _ _ _ _ := ⟨rfl, u.1⟩
  have g7 := u.2
  clear l
  have l : MemN _ _ _ _ _ := ⟨rfl, Mem.of_get a5⟩
  try simp only [Nat.zero_add, List.set_cons_succ, List.set_cons_zero] at k5
  refine .nil (x3 _ _ (.seq (fun K31 y0 => .region ?_)))
  have x2 := h5
  refine .q rfl (.loadM ag_27_Hj rfl ⟨rfl, Mem.of_get k5⟩) ?_
  refine .r0 rfl rfl (.fillA rfl sz_27_D rfl rfl rfl rfl) ?_
  rintro _ H27001 ⟨rfl, d5, o8⟩
  have nx_H27001 := d5.nx
  replace a0 := a0.st d5 (fun k hk => ⟨by omega, trivial⟩)
  replace a6 := d5.s a6
  replace a8 := d5.s a8
  replace aI := d5.s aI
  replace aC := d5.s aC
  have j9 : NE g4 gLF := ⟨k0.ne l7.ne (by omega)⟩
  replace w := d5.s w (Ne.symm j9.ne)
  have j8 : NE g4 gLT := ⟨k1.ne l9.ne (by omega)⟩
  replace v := d5.s v (Ne.symm j8.ne)
  have k8 : NE g4 m5 := ⟨j7.ne l0.ne (by omega)⟩
  replace a9 := d5.s a9 (Ne.symm k8.ne)
  replace k5 := d5.s k5 (Ne.symm h7.ne)
  have lt_at27001 := GHeap.ltg o8
  replace hin := m.mono a0
  replace hin1 := h.mono a0
  clear t f1 f0 d9 f2 f5 d7 d8 f3 f4 e0 d6
  have t : Cat.At _ g2 0 c p := ⟨Mem.of_get a6, hin⟩
  obtain ⟨f1, f0, d9, f2, f5, d7, d8, f3, f4⟩ := t.get
  have e0 : MemN _ _ _ _ _ := ⟨rfl, t.1⟩
  have d6 := t.2
  clear u g6 g9 f7 f8 h0 g8 f6 f9 g1 g0 g7
  have u : Cat.At _ g3 0 d q := ⟨Mem.of_get a8, hin1⟩
  obtain ⟨g6, g9, f7, f8, h0, g8, f6, f9, g1⟩ := u.get
  have g0 : MemN _ _ _ _ _ := ⟨rfl, u.1⟩
  have g7 := u.2
  clear l
  have l : MemN _ _ _ _ _ := ⟨rfl, Mem.of_get a5⟩
  have mm27001 : MemN _ _ _ _ _ := ⟨rfl, Mem.of_get o8⟩
  refine .nil (y0 _ _ ?_)
  refine .ret ?_
  refine v5 _ _ ?_
  refine ⟨_, _, _, _, rfl, ag_27_Hj, (by rfl), (Mem.of_get o8), ?_⟩
  have hx4 : gLF ≠ gI := k0.ne' (by omega) (by omega)
  have hx5 : gLT ≠ gI := k1.ne' (by omega) (by omega)
  have z0 := hQ.st d4 (.cons (hQ.neT t4 rfl) (.nil _ _))
  have aJ := z0.st d5 (.cons (z0.neT x2 rfl) (.nil _ _))
  have x1 : ss = E.src ++ [0] := by rw [z1, if_neg (by omega)]
  have y5 : ts = E.tgt ++ [1] := by rw [y6, if_neg (by omega)]
  have hln : ss.length = E.src.length + 1 := by rw [x1]; simp
  have hsh : (Cat.mk E.obj ss ts E.idn cs).Shp := by
    have hj := join_shp gc.s gd.s oc od (cs := cs) (by rw [hEq]; omega) (fun f hf => by rw [hEq, (hC f hf).1]; omega) (by rw [hEq, ← x1, ← y5]; exact hCT)
    rw [hEq, ← x1, ← y5] at hj
    rw [show E.obj = 2 by omega]
    exact hj
  exact ⟨⟨E.obj, ss, ts, E.idn, cs⟩, ⟨⟨rect_mk (by omega) (by omega) hts (hS.mono (by omega) (by omega)) (hT.mono (by omega) (by omega)) e6 (Bd.mono (show Bd 0 12 E.idn from e7) (by omega) (by omega)) (by omega) (hC.mono (by omega) (by omega)), hsh⟩, by show E.obj = 2; omega⟩, a0, gLF, gLT, gI, m5, rq, by simp [Cat.cells, ownP, t7], ⟨w, v, aI, a9, by omega, by omega, by omega, by omega, by omega, by omega, by omega, aJ.low (by omega), hQ.lowNe (by omega), hQ.lowNe (by omega), hQ.lowNe (by omega)⟩⟩
end Go.Proofs.Ytfanjkbaemhbmaa
namespace Go.Proofs.Ytfanjkbaemhbmaa
open Go Go.GL Go.RowKit Go.Proofs
set_option maxHeartbeats 8000000 in
theorem l02MonoidG_c {gS : Nat} {H : GHeap} (hs : DSrc 86 H gS := by assumption) :
    GCalls Try.prog 123 [.pointer (some ⟨gS, 0, none⟩)] H (NewTabG 86 gS H) := by
  refine GCalls.body (N := 48) (rs := [.tmp 2]) Try.func123 rfl rfl rfl rfl (fun Qx d hend => ?_)
  refine .fg [0] rfl ?_
  have a := St.refl [gS] H
  refine .seq (fun K1 h3 => .region (.mv rfl (.nil (h3 _ _ (.seq (fun K2 i2 => .seq (fun K3 h7 => .region (.mv rfl ?_))))))))
  refine .call rfl rfl rfl rfl @Try.call30 rfl (l01Next_c) ?_
  rintro _ H4 ⟨k4, rfl, ka4, kb4, kc4, f8, hs⟩
  have nx_H4 := f8.nx
  replace a := a.sA f8
  refine .nil (h7 _ _ ?_)
  refine .block ?_
  refine .seq (fun K4 h8 => .region (.q rfl (.cmp rfl rfl rfl) (.mv rfl (.nil (h8 _ _ ?_)))))
  refine .cond rfl (fun h5 => ?_) (fun h5 => ?_)
  ·
   try simp only [sps] at h5
   refine .seq (fun K5 i1 => .region ?_)
   refine .R rfl (.litA rfl sl_24_A ze_2_N rfl rfl rfl rfl) ?_
   rintro _ H7 ⟨g7, rfl, e4, ge7, d3⟩
   have nx_H7 := e4.1
   replace a := a.le e4
   replace hs := hs.le e4
   have lt_at7 := GHeap.ltg d3
   refine .R rfl (.litA rfl sl_25_B ze_24_Hj rfl rfl rfl rfl) ?_
   rintro _ H8 ⟨g8, rfl, d2, ge8, g4⟩
   have nx_H8 := d2.1
   replace a := a.le d2
   replace hs := hs.le d2
   replace d3 := d2.2 _ _ d3
   have lt_at8 := GHeap.ltg g4
   refine .mv rfl (.nil (i1 _ _ ?_))
   refine .ret ?_
   refine d _ _ ?_
   refine ⟨_, rfl, ?_⟩
   exact ⟨_, [[0]], fun i => some ⟨List.getD [g7] i 0, 0, none⟩, rfl, (lit_own (gs := [g7]) (by simp only [LitAt]; exact ⟨⟨by omega, d3⟩, trivial⟩) (by simp <;> omega)).done (by exact g4) (by omega), by decide, by unfold Tb Bd; decide, a, hs⟩
  try simp only [sps] at h5
  refine .seq (fun K6 h4 => .region (.q rfl (.cmp rfl rfl rfl) (.mv rfl (.nil (h4 _ _ ?_)))))
  refine .cond rfl (fun h9 => ?_) (fun h9 => ?_)
  ·
   try simp only [sps] at h9
   refine .seq (fun K7 h6 => .region ?_)
   refine .R rfl (.litA rfl sl_24_A ze_2_N rfl rfl rfl rfl) ?_
   rintro _ H11 ⟨f7, rfl, b9, ge11, m⟩
   have nx_H11 := b9.1
   replace a := a.le b9
   replace hs := hs.le b9
   have lt_at11 := GHeap.ltg m
   refine .R rfl (.litA rfl sl_24_A ze_2_N rfl rfl rfl rfl) ?_
   rintro _ H12 ⟨f4, rfl, b1, ge12, a6⟩
   have nx_H12 := b1.1
   replace a := a.le b1
   replace hs := hs.le b1
   replace m := b1.2 _ _ m
   have lt_at12 := GHeap.ltg a6
   refine .R rfl (.litA rfl sl_25_B ze_24_Hj rfl rfl rfl rfl) ?_
   rintro _ H13 ⟨g13, rfl, x, ge13, c7⟩
   have nx_H13 := x.1
   replace a := a.le x
   replace hs := hs.le x
   replace m := x.2 _ _ m
   replace a6 := x.2 _ _ a6
   have lt_at13 := GHeap.ltg c7
   refine .mv rfl (.nil (h6 _ _ ?_))
   refine .ret ?_
   refine d _ _ ?_
   refine ⟨_, rfl, ?_⟩
   exact ⟨_, [[0, 1], [1, 0]], fun i => some ⟨List.getD [f7, f4] i 0, 0, none⟩, rfl, (lit_own (gs := [f7, f4]) (by simp only [LitAt]; exact ⟨⟨by omega, m⟩, ⟨by omega, a6⟩, trivial⟩) (by simp <;> omega)).done (by exact c7) (by omega), by decide, by unfold Tb Bd; decide, a, hs⟩
  try simp only [sps] at h9
  refine .seq (fun K8 i0 => .region (.q rfl (.cmp rfl rfl rfl) (.mv rfl (.nil (i0 _ _ ?_)))))
  refine .cond rfl (fun d4 => ?_) (fun d4 => ?_)
  ·
   try simp only [sps] at d4
   refine .seq (fun K9 i3 => .region ?_)
   refine .R rfl (.litA rfl sl_24_A ze_2_N rfl rfl rfl rfl) ?_
   rintro _ H16 ⟨e9, rfl, c1, ge16, p⟩
   have nx_H16 := c1.1
   replace a := a.le c1
   replace hs := hs.le c1
   have lt_at16 := GHeap.ltg p
   refine .R rfl (.litA rfl sl_24_A ze_2_N rfl rfl rfl rfl) ?_
   rintro _ H17 ⟨g5, rfl, b3, ge17, a9⟩
   have nx_H17 := b3.1
   replace a := a.le b3
   replace hs := hs.le b3
   replace p := b3.2 _ _ p
   have lt_at17 := GHeap.ltg a9
   refine .R rfl (.litA rfl sl_25_B ze_24_Hj rfl rfl rfl rfl) ?_
   rintro _ H18 ⟨g18, rfl, y, ge18, c8⟩
   have nx_H18 := y.1
   replace a := a.le y
   replace hs := hs.le y
   replace p := y.2 _ _ p
   replace a9 := y.2 _ _ a9
   have lt_at18 := GHeap.ltg c8
   refine .mv rfl (.nil (i3 _ _ ?_))
   refine .ret ?_
   refine d _ _ ?_
   refine ⟨_, rfl, ?_⟩
   exact ⟨_, [[0, 1], [1, 1]], fun i => some ⟨List.getD [e9, g5] i 0, 0, none⟩, rfl, (lit_own (gs := [e9, g5]) (by simp only [LitAt]; exact ⟨⟨by omega, p⟩, ⟨by omega, a9⟩, trivial⟩) (by simp <;> omega)).done (by exact c8) (by omega), by decide, by unfold Tb Bd; decide, a, hs⟩
  try simp only [sps] at d4
  refine .seq (fun K10 e0 => .region (.q rfl (.cmp rfl rfl rfl) (.mv rfl (.nil (e0 _ _ ?_)))))
  refine .cond rfl (fun d7 => ?_) (fun d7 => ?_)
  ·
   try simp only [sps] at d7
   refine .seq (fun K11 e7 => .region ?_)
   refine .R rfl (.litA rfl sl_24_A ze_2_N rfl rfl rfl rfl) ?_
   rintro _ H21 ⟨h2, rfl, c2, ge21, h⟩
   have nx_H21 := c2.1
   replace a := a.le c2
   replace hs := hs.le c2
   have lt_at21 := GHeap.ltg h
   refine .R rfl (.litA rfl sl_24_A ze_2_N rfl rfl rfl rfl) ?_
   rintro _ H22 ⟨h1, rfl, b5, ge22, r⟩
   have nx_H22 := b5.1
   replace a := a.le b5
   replace hs := hs.le b5
   replace h := b5.2 _ _ h
   have lt_at22 := GHeap.ltg r
   refine .R rfl (.litA rfl sl_24_A ze_2_N rfl rfl rfl rfl) ?_
   rintro _ H23 ⟨f1, rfl, a1, ge23, a8⟩
   have nx_H23 := a1.1
   replace a := a.le a1
   replace hs := hs.le a1
   replace h := a1.2 _ _ h
   replace r := a1.2 _ _ r
   have lt_at23 := GHeap.ltg a8
   refine .R rfl (.litA rfl sl_25_B ze_24_Hj rfl rfl rfl rfl) ?_
   rintro _ H24 ⟨g24, rfl, u, ge24, c5⟩
   have nx_H24 := u.1
   replace a := a.le u
   replace hs := hs.le u
   replace h := u.2 _ _ h
   replace r := u.2 _ _ r
   replace a8 := u.2 _ _ a8
   have lt_at24 := GHeap.ltg c5
   refine .mv rfl (.nil (e7 _ _ ?_))
   refine .ret ?_
   refine d _ _ ?_
   refine ⟨_, rfl, ?_⟩
   exact ⟨_, [[0, 1, 2], [1, 2, 0], [2, 0, 1]], fun i => some ⟨List.getD [h2, h1, f1] i 0, 0, none⟩, rfl, (lit_own (gs := [h2, h1, f1]) (by simp only [LitAt]; exact ⟨⟨by omega, h⟩, ⟨by omega, r⟩, ⟨by omega, a8⟩, trivial⟩) (by simp <;> omega)).done (by exact c5) (by omega), by decide, by unfold Tb Bd; decide, a, hs⟩
  try simp only [sps] at d7
  refine .seq (fun K12 d6 => .region (.q rfl (.cmp rfl rfl rfl) (.mv rfl (.nil (d6 _ _ ?_)))))
  refine .cond rfl (fun e8 => ?_) (fun e8 => ?_)
  ·
   try simp only [sps] at e8
   refine .seq (fun K13 e6 => .region ?_)
   refine .R rfl (.litA rfl sl_24_A ze_2_N rfl rfl rfl rfl) ?_
   rintro _ H27 ⟨g1, rfl, b8, ge27, f⟩
   have nx_H27 := b8.1
   replace a := a.le b8
   replace hs := hs.le b8
   have lt_at27 := GHeap.ltg f
   refine .R rfl (.litA rfl sl_24_A ze_2_N rfl rfl rfl rfl) ?_
   rintro _ H28 ⟨g0, rfl, a7, ge28, o⟩
   have nx_H28 := a7.1
   replace a := a.le a7
   replace hs := hs.le a7
   replace f := a7.2 _ _ f
   have lt_at28 := GHeap.ltg o
   refine .R rfl (.litA rfl sl_24_A ze_2_N rfl rfl rfl rfl) ?_
   rintro _ H29 ⟨g6, rfl, a0, ge29, b0⟩
   have nx_H29 := a0.1
   replace a := a.le a0
   replace hs := hs.le a0
   replace f := a0.2 _ _ f
   replace o := a0.2 _ _ o
   have lt_at29 := GHeap.ltg b0
   refine .R rfl (.litA rfl sl_25_B ze_24_Hj rfl rfl rfl rfl) ?_
   rintro _ H30 ⟨g30, rfl, l, ge30, d0⟩
   have nx_H30 := l.1
   replace a := a.le l
   replace hs := hs.le l
   replace f := l.2 _ _ f
   replace o := l.2 _ _ o
   replace b0 := l.2 _ _ b0
   have lt_at30 := GHeap.ltg d0
   refine .mv rfl (.nil (e6 _ _ ?_))
   refine .ret ?_
   refine d _ _ ?_
   refine ⟨_, rfl, ?_⟩
   exact ⟨_, [[0, 1, 2], [1, 1, 2], [2, 2, 2]], fun i => some ⟨List.getD [g1, g0, g6] i 0, 0, none⟩, rfl, (lit_own (gs := [g1, g0, g6]) (by simp only [LitAt]; exact ⟨⟨by omega, f⟩, ⟨by omega, o⟩, ⟨by omega, b0⟩, trivial⟩) (by simp <;> omega)).done (by exact d0) (by omega), by decide, by unfold Tb Bd; decide, a, hs⟩
  try simp only [sps] at e8
  refine .seq (fun K14 e3 => .region (.q rfl (.cmp rfl rfl rfl) (.mv rfl (.nil (e3 _ _ ?_)))))
  refine .cond rfl (fun e1 => ?_) (fun e1 => ?_)
  ·
   try simp only [sps] at e1
   refine .seq (fun K15 d9 => .region ?_)
   refine .R rfl (.litA rfl sl_24_A ze_2_N rfl rfl rfl rfl) ?_
   rintro _ H33 ⟨g3, rfl, c3, ge33, e⟩
   have nx_H33 := c3.1
   replace a := a.le c3
   replace hs := hs.le c3
   have lt_at33 := GHeap.ltg e
   refine .R rfl (.litA rfl sl_24_A ze_2_N rfl rfl rfl rfl) ?_
   rintro _ H34 ⟨f5, rfl, a4, ge34, s⟩
   have nx_H34 := a4.1
   replace a := a.le a4
   replace hs := hs.le a4
   replace e := a4.2 _ _ e
   have lt_at34 := GHeap.ltg s
   refine .R rfl (.litA rfl sl_24_A ze_2_N rfl rfl rfl rfl) ?_
   rintro _ H35 ⟨f2, rfl, a3, ge35, b6⟩
   have nx_H35 := a3.1
   replace a := a.le a3
   replace hs := hs.le a3
   replace e := a3.2 _ _ e
   replace s := a3.2 _ _ s
   have lt_at35 := GHeap.ltg b6
   refine .R rfl (.litA rfl sl_25_B ze_24_Hj rfl rfl rfl rfl) ?_
   rintro _ H36 ⟨g36, rfl, t, ge36, c9⟩
   have nx_H36 := t.1
   replace a := a.le t
   replace hs := hs.le t
   replace e := t.2 _ _ e
   replace s := t.2 _ _ s
   replace b6 := t.2 _ _ b6
   have lt_at36 := GHeap.ltg c9
   refine .mv rfl (.nil (d9 _ _ ?_))
   refine .ret ?_
   refine d _ _ ?_
   refine ⟨_, rfl, ?_⟩
   exact ⟨_, [[0, 1, 2], [1, 1, 2], [2, 1, 2]], fun i => some ⟨List.getD [g3, f5, f2] i 0, 0, none⟩, rfl, (lit_own (gs := [g3, f5, f2]) (by simp only [LitAt]; exact ⟨⟨by omega, e⟩, ⟨by omega, s⟩, ⟨by omega, b6⟩, trivial⟩) (by simp <;> omega)).done (by exact c9) (by omega), by decide, by unfold Tb Bd; decide, a, hs⟩
  try simp only [sps] at e1
  refine .seq (fun K16 e2 => .region (.q rfl (.cmp rfl rfl rfl) (.mv rfl (.nil (e2 _ _ ?_)))))
  refine .cond rfl (fun d5 => ?_) (fun d5 => ?_)
  ·
   try simp only [sps] at d5
   refine .seq (fun K17 d8 => .region ?_)
   refine .R rfl (.litA rfl sl_24_A ze_2_N rfl rfl rfl rfl) ?_
   rintro _ H39 ⟨f9, rfl, c4, ge39, b⟩
   have nx_H39 := c4.1
   replace a := a.le c4
   replace hs := hs.le c4
   have lt_at39 := GHeap.ltg b
   refine .R rfl (.litA rfl sl_24_A ze_2_N rfl rfl rfl rfl) ?_
   rintro _ H40 ⟨h0, rfl, b7, ge40, g⟩
   have nx_H40 := b7.1
   replace a := a.le b7
   replace hs := hs.le b7
   replace b := b7.2 _ _ b
   have lt_at40 := GHeap.ltg g
   refine .R rfl (.litA rfl sl_24_A ze_2_N rfl rfl rfl rfl) ?_
   rintro _ H41 ⟨g9, rfl, z, ge41, w⟩
   have nx_H41 := z.1
   replace a := a.le z
   replace hs := hs.le z
   replace b := z.2 _ _ b
   replace g := z.2 _ _ g
   have lt_at41 := GHeap.ltg w
   refine .R rfl (.litA rfl sl_24_A ze_2_N rfl rfl rfl rfl) ?_
   rintro _ H42 ⟨g2, rfl, n, ge42, b4⟩
   have nx_H42 := n.1
   replace a := a.le n
   replace hs := hs.le n
   replace b := n.2 _ _ b
   replace g := n.2 _ _ g
   replace w := n.2 _ _ w
   have lt_at42 := GHeap.ltg b4
   refine .R rfl (.litA rfl sl_25_B ze_24_Hj rfl rfl rfl rfl) ?_
   rintro _ H43 ⟨g43, rfl, j, ge43, d1⟩
   have nx_H43 := j.1
   replace a := a.le j
   replace hs := hs.le j
   replace b := j.2 _ _ b
   replace g := j.2 _ _ g
   replace w := j.2 _ _ w
   replace b4 := j.2 _ _ b4
   have lt_at43 := GHeap.ltg d1
   refine .mv rfl (.nil (d8 _ _ ?_))
   refine .ret ?_
   refine d _ _ ?_
   refine ⟨_, rfl, ?_⟩
   exact ⟨_, [[0, 1, 2, 3], [1, 0, 2, 3], [2, 3, 2, 3], [3, 2, 2, 3]], fun i => some ⟨List.getD [f9, h0, g9, g2] i 0, 0, none⟩, rfl, (lit_own (gs := [f9, h0, g9, g2]) (by simp only [LitAt]; exact ⟨⟨by omega, b⟩, ⟨by omega, g⟩, ⟨by omega, w⟩, ⟨by omega, b4⟩, trivial⟩) (by simp <;> omega)).done (by exact d1) (by omega), by decide, by unfold Tb Bd; decide, a, hs⟩
  try simp only [sps] at d5
  refine .skip ?_
  refine i2 _ _ (.seq (fun K18 e5 => .region ?_))
  refine .R rfl (.litA rfl sl_24_A ze_2_N rfl rfl rfl rfl) ?_
  rintro _ H44 ⟨f3, rfl, c0, ge44, c⟩
  have nx_H44 := c0.1
  replace a := a.le c0
  replace hs := hs.le c0
  have lt_at44 := GHeap.ltg c
  refine .R rfl (.litA rfl sl_24_A ze_2_N rfl rfl rfl rfl) ?_
  rintro _ H45 ⟨f6, rfl, a5, ge45, k⟩
  have nx_H45 := a5.1
  replace a := a.le a5
  replace hs := hs.le a5
  replace c := a5.2 _ _ c
  have lt_at45 := GHeap.ltg k
  refine .R rfl (.litA rfl sl_24_A ze_2_N rfl rfl rfl rfl) ?_
  rintro _ H46 ⟨f0, rfl, a2, ge46, b2⟩
  have nx_H46 := a2.1
  replace a := a.le a2
  replace hs := hs.le a2
  replace c := a2.2 _ _ c
  replace k := a2.2 _ _ k
  have lt_at46 := GHeap.ltg b2
  refine .R rfl (.litA rfl sl_25_B ze_24_Hj rfl rfl rfl rfl) ?_
  rintro _ H47 ⟨g47, rfl, v, ge47, c6⟩
  have nx_H47 := v.1
  replace a := a.le v
  replace hs := hs.le v
  replace c := v.2 _ _ c
  replace k := v.2 _ _ k
  replace b2 := v.2 _ _ b2
  have lt_at47 := GHeap.ltg c6
  refine .mv rfl (.nil (e5 _ _ ?_))
  refine .ret ?_
  refine d _ _ ?_
  refine ⟨_, rfl, ?_⟩
  exact ⟨_, [[0, 1, 2], [1, 2, 2], [2, 2, 2]], fun i => some ⟨List.getD [f3, f6, f0] i 0, 0, none⟩, rfl, (lit_own (gs := [f3, f6, f0]) (by simp only [LitAt]; exact ⟨⟨by omega, c⟩, ⟨by omega, k⟩, ⟨by omega, b2⟩, trivial⟩) (by simp <;> omega)).done (by exact c6) (by omega), by decide, by unfold Tb Bd; decide, a, hs⟩
theorem l02SplitG_c {H : GHeap} :
    GCalls Try.prog 124 [] H (NewGd 2 24 64 2 H) := by
  refine GCalls.body (N := 11) (rs := [.cell 0 27]) Try.func124 rfl rfl rfl rfl (fun Qx z hend => ?_)
  have b := GHeap.Le.refl H
  refine .seq (fun K1 a1 => .region ?_)
  refine .R rfl (.allocR rfl ze_27_Hj rfl) ?_
  rintro _ H0 ⟨g0, rfl, a0, ge0, d⟩
  have nx_H0 := a0.1
  replace b := b.trans a0
  have lt_at0 := GHeap.ltg d
  refine .nil (a1 _ _ (.seq (fun K2 a2 => .region ?_)))
  refine .R rfl (.litA rfl sl_24_A ze_2_N rfl rfl rfl rfl) ?_
  rintro _ H1 ⟨g1, rfl, y, ge1, c⟩
  have nx_H1 := y.1
  replace b := b.trans y
  replace d := y.2 _ _ d
  have lt_at1 := GHeap.ltg c
  refine .R rfl (.litA rfl sl_24_A ze_2_N rfl rfl rfl rfl) ?_
  rintro _ H2 ⟨g2, rfl, w, ge2, e⟩
  have nx_H2 := w.1
  replace b := b.trans w
  replace d := w.2 _ _ d
  replace c := w.2 _ _ c
  have lt_at2 := GHeap.ltg e
  refine .R rfl (.litA rfl sl_24_A ze_2_N rfl rfl rfl rfl) ?_
  rintro _ H3 ⟨g3, rfl, v, ge3, f⟩
  have nx_H3 := v.1
  replace b := b.trans v
  replace d := v.2 _ _ d
  replace c := v.2 _ _ c
  replace e := v.2 _ _ e
  have lt_at3 := GHeap.ltg f
  refine .R rfl (.litA rfl sl_24_A ze_2_N rfl rfl rfl rfl) ?_
  rintro _ H4 ⟨g4, rfl, u, ge4, h⟩
  have nx_H4 := u.1
  replace b := b.trans u
  replace d := u.2 _ _ d
  replace c := u.2 _ _ c
  replace e := u.2 _ _ e
  replace f := u.2 _ _ f
  have lt_at4 := GHeap.ltg h
  refine .R rfl (.litA rfl sl_24_A ze_2_N rfl rfl rfl rfl) ?_
  rintro _ H5 ⟨g5, rfl, r, ge5, i⟩
  have nx_H5 := r.1
  replace b := b.trans r
  replace d := r.2 _ _ d
  replace c := r.2 _ _ c
  replace e := r.2 _ _ e
  replace f := r.2 _ _ f
  replace h := r.2 _ _ h
  have lt_at5 := GHeap.ltg i
  refine .R rfl (.litA rfl sl_24_A ze_2_N rfl rfl rfl rfl) ?_
  rintro _ H6 ⟨g6, rfl, p, ge6, l⟩
  have nx_H6 := p.1
  replace b := b.trans p
  replace d := p.2 _ _ d
  replace c := p.2 _ _ c
  replace e := p.2 _ _ e
  replace f := p.2 _ _ f
  replace h := p.2 _ _ h
  replace i := p.2 _ _ i
  have lt_at6 := GHeap.ltg l
  refine .R rfl (.litA rfl sl_24_A ze_2_N rfl rfl rfl rfl) ?_
  rintro _ H7 ⟨g7, rfl, n, ge7, o⟩
  have nx_H7 := n.1
  replace b := b.trans n
  replace d := n.2 _ _ d
  replace c := n.2 _ _ c
  replace e := n.2 _ _ e
  replace f := n.2 _ _ f
  replace h := n.2 _ _ h
  replace i := n.2 _ _ i
  replace l := n.2 _ _ l
  have lt_at7 := GHeap.ltg o
  refine .R rfl (.litA rfl sl_24_A ze_2_N rfl rfl rfl rfl) ?_
  rintro _ H8 ⟨g8, rfl, m, ge8, t⟩
  have nx_H8 := m.1
  replace b := b.trans m
  replace d := m.2 _ _ d
  replace c := m.2 _ _ c
  replace e := m.2 _ _ e
  replace f := m.2 _ _ f
  replace h := m.2 _ _ h
  replace i := m.2 _ _ i
  replace l := m.2 _ _ l
  replace o := m.2 _ _ o
  have lt_at8 := GHeap.ltg t
  refine .R rfl (.litA rfl sl_25_B ze_24_Hj rfl rfl rfl rfl) ?_
  rintro _ H9 ⟨g9, rfl, j, ge9, x⟩
  have nx_H9 := j.1
  replace b := b.trans j
  replace d := j.2 _ _ d
  replace c := j.2 _ _ c
  replace e := j.2 _ _ e
  replace f := j.2 _ _ f
  replace h := j.2 _ _ h
  replace i := j.2 _ _ i
  replace l := j.2 _ _ l
  replace o := j.2 _ _ o
  replace t := j.2 _ _ t
  have lt_at9 := GHeap.ltg x
  refine .q rfl (.build bt_27_Hj rfl rfl rfl) ?_
  refine .r0 rfl rfl (.fillA rfl sz_27_D rfl rfl rfl rfl) ?_
  rintro _ H1010 ⟨rfl, a, g⟩
  have nx_H1010 := a.nx
  replace b := b.st a (fun k hk => ⟨by omega, trivial⟩)
  replace c := a.s c
  replace e := a.s e
  replace f := a.s f
  replace h := a.s h
  replace i := a.s i
  replace l := a.s l
  replace o := a.s o
  replace t := a.s t
  replace x := a.s x
  have lt_at1010 := GHeap.ltg g
  have mm1010 : MemN _ _ _ _ _ := ⟨rfl, Mem.of_get g⟩
  refine .nil (a2 _ _ ?_)
  refine .ret ?_
  refine z _ _ ?_
  refine ⟨_, _, _, _, rfl, ag_27_Hj, (by rfl), (Mem.of_get g), ?_⟩
  exact ⟨⟨2, [0, 1, 0, 0, 1], [0, 1, 0, 1, 0], [0, 1], [[0, -1, 2, 3, -1], [-1, 1, -1, -1, 4], [2, -1, 2, 3, -1], [-1, 3, -1, -1, 2], [4, -1, 4, 1, -1]]⟩, ⟨⟨rect_mk (by omega) (by decide) rfl (by unfold Bd; decide) (by unfold Bd; decide) rfl (by unfold Bd; decide) rfl (by unfold Tb Bd; decide), .mk' rfl (by unfold Bd; decide) (by unfold Bd; decide) rfl (by unfold IdsL; decide) rfl (by decide) (by unfold CellsT CellsR; decide)⟩, rfl⟩, b, g1, g2, g3, g9, _, rfl, ⟨c, e, f, by exact x, by omega, by omega, by omega, by omega, by omega, by omega, by omega, lit_own (gs := [g4, g5, g6, g7, g8]) (by simp only [LitAt]; exact ⟨⟨by omega, h⟩, ⟨by omega, i⟩, ⟨by omega, l⟩, ⟨by omega, o⟩, ⟨by omega, t⟩, trivial⟩) (by simp; omega), row_nes (by simp; omega), row_nes (by simp; omega), row_nes (by simp; omega)⟩⟩
set_option maxHeartbeats 8000000 in
theorem l03MonoidG_c {a : Option Addr} {r : Nat → Option Addr} {T : List (List Int)} {H : GHeap} (hin : Intss H a T r := by assumption) (hn : 1 ≤ T.length ∧ T.length ≤ 4) (ht : Tb 0 ((T.length : Int) - 1) T.length T) :
    GCalls Try.prog 122 [.slice a T.length T.length] H (NewGd 2 24 4 1 H) := by
  have n5 : ∀ i, (T.getD i []).length ≤ 1048576 := fun i => by
    by_cases hi : i < T.length
    · have := (ht i hi).1; omega
    · rw [List.getD_eq_getElem?_getD, List.getElem?_eq_none (by omega)]; simp
  refine GCalls.body (N := 14) (rs := [.cell 2 27]) Try.func122 rfl rfl rfl rfl (fun Qx v7 hend => ?_)
  refine .fg [0] rfl ?_
  have d := GHeap.Le.refl H
  have b := hin
  refine .seq (fun K1 w0 => .region ?_)
  refine .R rfl (.allocR rfl ze_27_Hj rfl) ?_
  rintro _ H2 ⟨g2, rfl, v9, ge2, m⟩
  have nx_H2 := v9.1
  replace d := d.trans v9
  have lt_at2 := GHeap.ltg m
  replace hin := b.mono d
  refine .nil (w0 _ _ (.seq (fun K2 w7 => .region (.mv rfl (.q rfl (.len sl_25_B rfl) (.mv rfl (.nil (w7 _ _ (.seq (fun K3 w5 => ?_))))))))))
  refine .regionD mo_B (.q 0 (.q 2 (.q 5 (.or (.c 1 1 (.or (.c 3 1 (.or (.c 4 1 (.c 6 1 (.q 7 (.c 8 0 (.done))))) (.c 6 1 (.c 4 1 (.q 7 (.c 8 0 (.done))))))) (.or (.c 4 1 (.or (.c 3 1 (.c 6 1 (.q 7 (.c 8 0 (.done))))) (.c 6 1 (.c 3 1 (.q 7 (.c 8 0 (.done))))))) (.c 6 1 (.or (.c 3 1 (.c 4 1 (.q 7 (.c 8 0 (.done))))) (.c 4 1 (.c 3 1 (.q 7 (.c 8 0 (.done)))))))))) (.or (.c 3 1 (.or (.c 1 1 (.or (.c 4 1 (.c 6 1 (.q 7 (.c 8 0 (.done))))) (.c 6 1 (.c 4 1 (.q 7 (.c 8 0 (.done))))))) (.or (.c 4 1 (.or (.c 1 1 (.c 6 1 (.q 7 (.c 8 0 (.done))))) (.c 6 1 (.c 1 1 (.q 7 (.c 8 0 (.done))))))) (.c 6 1 (.or (.c 1 1 (.c 4 1 (.q 7 (.c 8 0 (.done))))) (.c 4 1 (.c 1 1 (.q 7 (.c 8 0 (.done)))))))))) (.or (.c 4 1 (.or (.c 1 1 (.or (.c 3 1 (.c 6 1 (.q 7 (.c 8 0 (.done))))) (.c 6 1 (.c 3 1 (.q 7 (.c 8 0 (.done))))))) (.or (.c 3 1 (.or (.c 1 1 (.c 6 1 (.q 7 (.c 8 0 (.done))))) (.c 6 1 (.c 1 1 (.q 7 (.c 8 0 (.done))))))) (.c 6 1 (.or (.c 1 1 (.c 3 1 (.q 7 (.c 8 0 (.done))))) (.c 3 1 (.c 1 1 (.q 7 (.c 8 0 (.done)))))))))) (.c 6 1 (.or (.c 1 1 (.or (.c 3 1 (.c 4 1 (.q 7 (.c 8 0 (.done))))) (.c 4 1 (.c 3 1 (.q 7 (.c 8 0 (.done))))))) (.or (.c 3 1 (.or (.c 1 1 (.c 4 1 (.q 7 (.c 8 0 (.done))))) (.c 4 1 (.c 1 1 (.q 7 (.c 8 0 (.done))))))) (.c 4 1 (.or (.c 1 1 (.c 3 1 (.q 7 (.c 8 0 (.done))))) (.c 3 1 (.c 1 1 (.q 7 (.c 8 0 (.done)))))))))))))))) (by kernel_rfl) ?_
  refine .cut [(0, some _), (2, some _), (3, some _), (4, some _), (5, some _)] ⟨rfl, rfl, rfl, rfl, rfl, trivial⟩ (fun rest fr' H' => ∃ (w1 : Nat) (w2 : Nat) (w3 : Nat) (w4 : Nat) (rr : Nat → Option Addr), Sub rest fr' ∧ St [g2] H2 H' ∧ H'.get g2 = some (.row (Cat.cells ⟨1, List.replicate T.length 0, List.replicate T.length 0, [0], T⟩ (ownP w1 w2 w3 w4 rr)) 27 true) ∧ OwnCat 2 24 H2.next H' ⟨1, List.replicate T.length 0, List.replicate T.length 0, [0], T⟩ w1 w2 w3 w4 rr) ?_ ?_
  ·
   have j := St.refl [g2] H2
   refine .qB rfl (.refl _) (.move rfl) (.qB rfl (.refl _) (.move rfl) (.qB rfl (.refl _) (.move rfl) ?_))
   refine .orI ?_ ?_
   ·
    refine .c1 rfl rfl rfl rfl (.makeIN rfl sl_24_A ze_2_N by_2_N rfl rfl (by omega) (by omega) (by omega)) ?_
    rintro _ H7 ⟨g7, rfl, v2, ge7, d3⟩
    have g := v2
    refine ⟨g, ?_⟩
    have nx_H7 := v2.1
    replace d := d.trans v2
    replace j := j.le v2
    replace m := v2.2 _ _ m
    have lt_at7 := GHeap.ltg d3
    replace hin := b.mono d
    refine .orI ?_ ?_
    ·
     refine .c1 rfl rfl rfl rfl (.makeIN rfl sl_24_A ze_2_N by_2_N rfl rfl (by omega) (by omega) (by omega)) ?_
     rintro _ H9 ⟨g9, rfl, u4, ge9, r6⟩
     replace g := g.trans u4
     refine ⟨g, ?_⟩
     have nx_H9 := u4.1
     replace d := d.trans u4
     replace j := j.le u4
     replace m := u4.2 _ _ m
     replace d3 := u4.2 _ _ d3
     have lt_at9 := GHeap.ltg r6
     replace hin := b.mono d
     refine .orI ?_ ?_
     ·
      refine .c1 rfl rfl rfl rfl (.litA rfl sl_24_A ze_2_N rfl rfl rfl rfl) ?_
      rintro _ H10 ⟨g10, rfl, q7, ge10, s5⟩
      replace g := g.trans q7
      refine ⟨g, ?_⟩
      have nx_H10 := q7.1
      replace d := d.trans q7
      replace j := j.le q7
      replace m := q7.2 _ _ m
      replace d3 := q7.2 _ _ d3
      replace r6 := q7.2 _ _ r6
      have lt_at10 := GHeap.ltg s5
      replace hin := b.mono d
      refine .call1 rfl rfl rfl rfl rfl @Try.call109 rfl (l01Own2O_c (hl2 := n5)) ?_
      rintro _ w6 ⟨p5, g12, rr12, rfl, t6, ge12, h⟩
      have rk := St.refl [g2] w6
      replace g := g.trans p5
      refine ⟨g, ?_⟩
      have nx_H12 := p5.1
      replace d := d.trans p5
      replace j := j.le p5
      replace m := p5.2 _ _ m
      replace d3 := p5.2 _ _ d3
      replace r6 := p5.2 _ _ r6
      replace s5 := p5.2 _ _ s5
      have lt_at12 := GHeap.ltg t6
      replace hin := b.mono d
      refine .qB rfl g (.build bt_27_Hj rfl rfl rfl) ?_
      refine .r0 rfl rfl rfl (.fillA rfl sz_27_D rfl rfl rfl rfl) ?_
      rintro _ H2008 ⟨rfl, g3, s0⟩
      have nx_H2008 := g3.nx
      replace d := d.st g3 (fun k hk => ⟨by omega, trivial⟩)
      replace j := j.sA g3
      replace rk := rk.sA g3
      have t : NE g7 g2 := .a
      replace d3 := g3.s d3 t.ne
      have l0 : NE g9 g2 := .a
      replace r6 := g3.s r6 l0.ne
      replace s5 := g3.s s5
      replace t6 := g3.s t6
      have lt_at2008 := GHeap.ltg s0
      replace hin := b.mono d
      have mm2008 : MemN _ _ _ _ _ := ⟨rfl, Mem.of_get s0⟩
      refine .done ?_
      exact ⟨_, _, _, _, _, ⟨rfl, rfl, rfl, rfl, rfl, trivial⟩, j, by simp only [Cat.cells, ownP, List.length_replicate]; assumption, ⟨by assumption, by assumption, by assumption, by assumption, by omega, by omega, by omega, by omega, by omega, by omega, by omega, (h.st rk (.cons (h.lowNe (by omega)) (.nil _ _))).low (by omega), by first | exact h.lowNe (by omega) | exact h.ne (by omega), by first | exact h.lowNe (by omega) | exact h.ne (by omega), by first | exact h.lowNe (by omega) | exact h.ne (by omega)⟩⟩
     refine .call1 rfl rfl rfl rfl rfl @Try.call109 rfl (l01Own2O_c (hl2 := n5)) ?_
     rintro _ v1 ⟨i3, g12x2, rr12x2, rfl, l1, ge12x2, h⟩
     have rk := St.refl [g2] v1
     replace g := g.trans i3
     refine ⟨g, ?_⟩
     have nx_H12x2 := i3.1
     replace d := d.trans i3
     replace j := j.le i3
     replace m := i3.2 _ _ m
     replace d3 := i3.2 _ _ d3
     replace r6 := i3.2 _ _ r6
     have lt_at12x2 := GHeap.ltg l1
     replace hin := b.mono d
     refine .c1 rfl rfl rfl rfl (.litA rfl sl_24_A ze_2_N rfl rfl rfl rfl) ?_
     rintro _ H10x2 ⟨g10x2, rfl, f0, ge10x2, q3⟩
     replace g := g.trans f0
     refine ⟨g, ?_⟩
     have nx_H10x2 := f0.1
     replace d := d.trans f0
     replace j := j.le f0
     replace rk := rk.le f0
     replace m := f0.2 _ _ m
     replace d3 := f0.2 _ _ d3
     replace r6 := f0.2 _ _ r6
     replace l1 := f0.2 _ _ l1
     have lt_at10x2 := GHeap.ltg q3
     replace hin := b.mono d
     refine .qB rfl g (.build bt_27_Hj rfl rfl rfl) ?_
     refine .r0 rfl rfl rfl (.fillA rfl sz_27_D rfl rfl rfl rfl) ?_
     rintro _ H2008x2 ⟨rfl, c2, p3⟩
     have nx_H2008x2 := c2.nx
     replace d := d.st c2 (fun k hk => ⟨by omega, trivial⟩)
     replace j := j.sA c2
     replace rk := rk.sA c2
     have t : NE g7 g2 := .a
     replace d3 := c2.s d3 t.ne
     have l0 : NE g9 g2 := .a
     replace r6 := c2.s r6 l0.ne
     replace l1 := c2.s l1
     replace q3 := c2.s q3
     have lt_at2008x2 := GHeap.ltg p3
     replace hin := b.mono d
     have mm2008x2 : MemN _ _ _ _ _ := ⟨rfl, Mem.of_get p3⟩
     refine .done ?_
     exact ⟨_, _, _, _, _, ⟨rfl, rfl, rfl, rfl, rfl, trivial⟩, j, by simp only [Cat.cells, ownP, List.length_replicate]; assumption, ⟨by assumption, by assumption, by assumption, by assumption, by omega, by omega, by omega, by omega, by omega, by omega, by omega, (h.st rk (.cons (h.lowNe (by omega)) (.nil _ _))).low (by omega), by first | exact h.lowNe (by omega) | exact h.ne (by omega), by first | exact h.lowNe (by omega) | exact h.ne (by omega), by first | exact h.lowNe (by omega) | exact h.ne (by omega)⟩⟩
    refine .orI ?_ ?_
    ·
     refine .c1 rfl rfl rfl rfl (.litA rfl sl_24_A ze_2_N rfl rfl rfl rfl) ?_
     rintro _ H10x3 ⟨t0, rfl, j8, ge10x3, b3⟩
     replace g := g.trans j8
     refine ⟨g, ?_⟩
     have nx_H10x3 := j8.1
     replace d := d.trans j8
     replace j := j.le j8
     replace m := j8.2 _ _ m
     replace d3 := j8.2 _ _ d3
     have lt_at10x3 := GHeap.ltg b3
     replace hin := b.mono d
     refine .orI ?_ ?_
     ·
      refine .c1 rfl rfl rfl rfl (.makeIN rfl sl_24_A ze_2_N by_2_N rfl rfl (by omega) (by omega) (by omega)) ?_
      rintro _ H9x2 ⟨g9x2, rfl, l5, ge9x2, p1⟩
      replace g := g.trans l5
      refine ⟨g, ?_⟩
      have nx_H9x2 := l5.1
      replace d := d.trans l5
      replace j := j.le l5
      replace m := l5.2 _ _ m
      replace d3 := l5.2 _ _ d3
      replace b3 := l5.2 _ _ b3
      have lt_at9x2 := GHeap.ltg p1
      replace hin := b.mono d
      refine .call1 rfl rfl rfl rfl rfl @Try.call109 rfl (l01Own2O_c (hl2 := n5)) ?_
      rintro _ u5 ⟨h1, g12x3, rr12x3, rfl, q0, ge12x3, h⟩
      have rk := St.refl [g2] u5
      replace g := g.trans h1
      refine ⟨g, ?_⟩
      have nx_H12x3 := h1.1
      replace d := d.trans h1
      replace j := j.le h1
      replace m := h1.2 _ _ m
      replace d3 := h1.2 _ _ d3
      replace b3 := h1.2 _ _ b3
      replace p1 := h1.2 _ _ p1
      have lt_at12x3 := GHeap.ltg q0
      replace hin := b.mono d
      refine .qB rfl g (.build bt_27_Hj rfl rfl rfl) ?_
      refine .r0 rfl rfl rfl (.fillA rfl sz_27_D rfl rfl rfl rfl) ?_
      rintro _ H2008x3 ⟨rfl, b8, o7⟩
      have nx_H2008x3 := b8.nx
      replace d := d.st b8 (fun k hk => ⟨by omega, trivial⟩)
      replace j := j.sA b8
      replace rk := rk.sA b8
      have t : NE g7 g2 := .a
      replace d3 := b8.s d3 t.ne
      have f6 : NE t0 g2 := .a
      replace b3 := b8.s b3 f6.ne
      replace p1 := b8.s p1
      replace q0 := b8.s q0
      have lt_at2008x3 := GHeap.ltg o7
      replace hin := b.mono d
      have mm2008x3 : MemN _ _ _ _ _ := ⟨rfl, Mem.of_get o7⟩
      refine .done ?_
      exact ⟨_, _, _, _, _, ⟨rfl, rfl, rfl, rfl, rfl, trivial⟩, j, by simp only [Cat.cells, ownP, List.length_replicate]; assumption, ⟨by assumption, by assumption, by assumption, by assumption, by omega, by omega, by omega, by omega, by omega, by omega, by omega, (h.st rk (.cons (h.lowNe (by omega)) (.nil _ _))).low (by omega), by first | exact h.lowNe (by omega) | exact h.ne (by omega), by first | exact h.lowNe (by omega) | exact h.ne (by omega), by first | exact h.lowNe (by omega) | exact h.ne (by omega)⟩⟩
     refine .call1 rfl rfl rfl rfl rfl @Try.call109 rfl (l01Own2O_c (hl2 := n5)) ?_
     rintro _ u8 ⟨h7, g12x4, rr12x4, rfl, k8, ge12x4, h⟩
     have rk := St.refl [g2] u8
     replace g := g.trans h7
     refine ⟨g, ?_⟩
     have nx_H12x4 := h7.1
     replace d := d.trans h7
     replace j := j.le h7
     replace m := h7.2 _ _ m
     replace d3 := h7.2 _ _ d3
     replace b3 := h7.2 _ _ b3
     have lt_at12x4 := GHeap.ltg k8
     replace hin := b.mono d
     refine .c1 rfl rfl rfl rfl (.makeIN rfl sl_24_A ze_2_N by_2_N rfl rfl (by omega) (by omega) (by omega)) ?_
     rintro _ H9x3 ⟨g9x3, rfl, j4, ge9x3, s3⟩
     replace g := g.trans j4
     refine ⟨g, ?_⟩
     have nx_H9x3 := j4.1
     replace d := d.trans j4
     replace j := j.le j4
     replace rk := rk.le j4
     replace m := j4.2 _ _ m
     replace d3 := j4.2 _ _ d3
     replace b3 := j4.2 _ _ b3
     replace k8 := j4.2 _ _ k8
     have lt_at9x3 := GHeap.ltg s3
     replace hin := b.mono d
     refine .qB rfl g (.build bt_27_Hj rfl rfl rfl) ?_
     refine .r0 rfl rfl rfl (.fillA rfl sz_27_D rfl rfl rfl rfl) ?_
     rintro _ H2008x4 ⟨rfl, c4, o5⟩
     have nx_H2008x4 := c4.nx
     replace d := d.st c4 (fun k hk => ⟨by omega, trivial⟩)
     replace j := j.sA c4
     replace rk := rk.sA c4
     have t : NE g7 g2 := .a
     replace d3 := c4.s d3 t.ne
     have f6 : NE t0 g2 := .a
     replace b3 := c4.s b3 f6.ne
     replace k8 := c4.s k8
     replace s3 := c4.s s3
     have lt_at2008x4 := GHeap.ltg o5
     replace hin := b.mono d
     have mm2008x4 : MemN _ _ _ _ _ := ⟨rfl, Mem.of_get o5⟩
     refine .done ?_
     exact ⟨_, _, _, _, _, ⟨rfl, rfl, rfl, rfl, rfl, trivial⟩, j, by simp only [Cat.cells, ownP, List.length_replicate]; assumption, ⟨by assumption, by assumption, by assumption, by assumption, by omega, by omega, by omega, by omega, by omega, by omega, by omega, (h.st rk (.cons (h.lowNe (by omega)) (.nil _ _))).low (by omega), by first | exact h.lowNe (by omega) | exact h.ne (by omega), by first | exact h.lowNe (by omega) | exact h.ne (by omega), by first | exact h.lowNe (by omega) | exact h.ne (by omega)⟩⟩
    refine .call1 rfl rfl rfl rfl rfl @Try.call109 rfl (l01Own2O_c (hl2 := n5)) ?_
    rintro _ u7 ⟨j7, t3, rr12x5, rfl, b6, ge12x5, h⟩
    have rk := St.refl [g2] u7
    replace g := g.trans j7
    refine ⟨g, ?_⟩
    have nx_H12x5 := j7.1
    replace d := d.trans j7
    replace j := j.le j7
    replace m := j7.2 _ _ m
    replace d3 := j7.2 _ _ d3
    have lt_at12x5 := GHeap.ltg b6
    replace hin := b.mono d
    refine .orI ?_ ?_
    ·
     refine .c1 rfl rfl rfl rfl (.makeIN rfl sl_24_A ze_2_N by_2_N rfl rfl (by omega) (by omega) (by omega)) ?_
     rintro _ H9x4 ⟨g9x4, rfl, k2, ge9x4, p0⟩
     replace g := g.trans k2
     refine ⟨g, ?_⟩
     have nx_H9x4 := k2.1
     replace d := d.trans k2
     replace j := j.le k2
     replace rk := rk.le k2
     replace m := k2.2 _ _ m
     replace d3 := k2.2 _ _ d3
     replace b6 := k2.2 _ _ b6
     have lt_at9x4 := GHeap.ltg p0
     replace hin := b.mono d
     refine .c1 rfl rfl rfl rfl (.litA rfl sl_24_A ze_2_N rfl rfl rfl rfl) ?_
     rintro _ H10x4 ⟨g10x4, rfl, e1, ge10x4, q6⟩
     replace g := g.trans e1
     refine ⟨g, ?_⟩
     have nx_H10x4 := e1.1
     replace d := d.trans e1
     replace j := j.le e1
     replace rk := rk.le e1
     replace m := e1.2 _ _ m
     replace d3 := e1.2 _ _ d3
     replace b6 := e1.2 _ _ b6
     replace p0 := e1.2 _ _ p0
     have lt_at10x4 := GHeap.ltg q6
     replace hin := b.mono d
     refine .qB rfl g (.build bt_27_Hj rfl rfl rfl) ?_
     refine .r0 rfl rfl rfl (.fillA rfl sz_27_D rfl rfl rfl rfl) ?_
     rintro _ H2008x5 ⟨rfl, b7, p2⟩
     have nx_H2008x5 := b7.nx
     replace d := d.st b7 (fun k hk => ⟨by omega, trivial⟩)
     replace j := j.sA b7
     replace rk := rk.sA b7
     have t : NE g7 g2 := .a
     replace d3 := b7.s d3 t.ne
     have g0 : NE t3 g2 := .a
     replace b6 := b7.s b6 g0.ne
     replace p0 := b7.s p0
     replace q6 := b7.s q6
     have lt_at2008x5 := GHeap.ltg p2
     replace hin := b.mono d
     have mm2008x5 : MemN _ _ _ _ _ := ⟨rfl, Mem.of_get p2⟩
     refine .done ?_
     exact ⟨_, _, _, _, _, ⟨rfl, rfl, rfl, rfl, rfl, trivial⟩, j, by simp only [Cat.cells, ownP, List.length_replicate]; assumption, ⟨by assumption, by assumption, by assumption, by assumption, by omega, by omega, by omega, by omega, by omega, by omega, by omega, (h.st rk (.cons (h.lowNe (by omega)) (.nil _ _))).low (by omega), by first | exact h.lowNe (by omega) | exact h.ne (by omega), by first | exact h.lowNe (by omega) | exact h.ne (by omega), by first | exact h.lowNe (by omega) | exact h.ne (by omega)⟩⟩
    refine .c1 rfl rfl rfl rfl (.litA rfl sl_24_A ze_2_N rfl rfl rfl rfl) ?_
    rintro _ H10x5 ⟨g10x5, rfl, f4, ge10x5, k9⟩
    replace g := g.trans f4
    refine ⟨g, ?_⟩
    have nx_H10x5 := f4.1
    replace d := d.trans f4
    replace j := j.le f4
    replace rk := rk.le f4
    replace m := f4.2 _ _ m
    replace d3 := f4.2 _ _ d3
    replace b6 := f4.2 _ _ b6
    have lt_at10x5 := GHeap.ltg k9
    replace hin := b.mono d
    refine .c1 rfl rfl rfl rfl (.makeIN rfl sl_24_A ze_2_N by_2_N rfl rfl (by omega) (by omega) (by omega)) ?_
    rintro _ H9x5 ⟨g9x5, rfl, i9, ge9x5, r8⟩
    replace g := g.trans i9
    refine ⟨g, ?_⟩
    have nx_H9x5 := i9.1
    replace d := d.trans i9
    replace j := j.le i9
    replace rk := rk.le i9
    replace m := i9.2 _ _ m
    replace d3 := i9.2 _ _ d3
    replace b6 := i9.2 _ _ b6
    replace k9 := i9.2 _ _ k9
    have lt_at9x5 := GHeap.ltg r8
    replace hin := b.mono d
    refine .qB rfl g (.build bt_27_Hj rfl rfl rfl) ?_
    refine .r0 rfl rfl rfl (.fillA rfl sz_27_D rfl rfl rfl rfl) ?_
    rintro _ H2008x6 ⟨rfl, c5, p9⟩
    have nx_H2008x6 := c5.nx
    replace d := d.st c5 (fun k hk => ⟨by omega, trivial⟩)
    replace j := j.sA c5
    replace rk := rk.sA c5
    have t : NE g7 g2 := .a
    replace d3 := c5.s d3 t.ne
    have g0 : NE t3 g2 := .a
    replace b6 := c5.s b6 g0.ne
    replace k9 := c5.s k9
    replace r8 := c5.s r8
    have lt_at2008x6 := GHeap.ltg p9
    replace hin := b.mono d
    have mm2008x6 : MemN _ _ _ _ _ := ⟨rfl, Mem.of_get p9⟩
    refine .done ?_
    exact ⟨_, _, _, _, _, ⟨rfl, rfl, rfl, rfl, rfl, trivial⟩, j, by simp only [Cat.cells, ownP, List.length_replicate]; assumption, ⟨by assumption, by assumption, by assumption, by assumption, by omega, by omega, by omega, by omega, by omega, by omega, by omega, (h.st rk (.cons (h.lowNe (by omega)) (.nil _ _))).low (by omega), by first | exact h.lowNe (by omega) | exact h.ne (by omega), by first | exact h.lowNe (by omega) | exact h.ne (by omega), by first | exact h.lowNe (by omega) | exact h.ne (by omega)⟩⟩
   refine .orI ?_ ?_
   ·
    refine .c1 rfl rfl rfl rfl (.makeIN rfl sl_24_A ze_2_N by_2_N rfl rfl (by omega) (by omega) (by omega)) ?_
    rintro _ H9x6 ⟨r5, rfl, o8, ge9x6, l⟩
    have g := o8
    refine ⟨g, ?_⟩
    have nx_H9x6 := o8.1
    replace d := d.trans o8
    replace j := j.le o8
    replace m := o8.2 _ _ m
    have lt_at9x6 := GHeap.ltg l
    replace hin := b.mono d
    refine .orI ?_ ?_
    ·
     refine .c1 rfl rfl rfl rfl (.makeIN rfl sl_24_A ze_2_N by_2_N rfl rfl (by omega) (by omega) (by omega)) ?_
     rintro _ H7x2 ⟨v4, rfl, m3, ge7x2, d6⟩
     replace g := g.trans m3
     refine ⟨g, ?_⟩
     have nx_H7x2 := m3.1
     replace d := d.trans m3
     replace j := j.le m3
     replace m := m3.2 _ _ m
     replace l := m3.2 _ _ l
     have lt_at7x2 := GHeap.ltg d6
     replace hin := b.mono d
     refine .orI ?_ ?_
     ·
      refine .c1 rfl rfl rfl rfl (.litA rfl sl_24_A ze_2_N rfl rfl rfl rfl) ?_
      rintro _ H10x6 ⟨g10x6, rfl, h8, ge10x6, l4⟩
      replace g := g.trans h8
      refine ⟨g, ?_⟩
      have nx_H10x6 := h8.1
      replace d := d.trans h8
      replace j := j.le h8
      replace m := h8.2 _ _ m
      replace l := h8.2 _ _ l
      replace d6 := h8.2 _ _ d6
      have lt_at10x6 := GHeap.ltg l4
      replace hin := b.mono d
      refine .call1 rfl rfl rfl rfl rfl @Try.call109 rfl (l01Own2O_c (hl2 := n5)) ?_
      rintro _ u9 ⟨g6, g12x6, rr12x6, rfl, r3, ge12x6, h⟩
      have rk := St.refl [g2] u9
      replace g := g.trans g6
      refine ⟨g, ?_⟩
      have nx_H12x6 := g6.1
      replace d := d.trans g6
      replace j := j.le g6
      replace m := g6.2 _ _ m
      replace l := g6.2 _ _ l
      replace d6 := g6.2 _ _ d6
      replace l4 := g6.2 _ _ l4
      have lt_at12x6 := GHeap.ltg r3
      replace hin := b.mono d
      refine .qB rfl g (.build bt_27_Hj rfl rfl rfl) ?_
      refine .r0 rfl rfl rfl (.fillA rfl sz_27_D rfl rfl rfl rfl) ?_
      rintro _ H2008x7 ⟨rfl, b9, o6⟩
      have nx_H2008x7 := b9.nx
      replace d := d.st b9 (fun k hk => ⟨by omega, trivial⟩)
      replace j := j.sA b9
      replace rk := rk.sA b9
      have p : NE r5 g2 := .a
      replace l := b9.s l p.ne
      have h9 : NE v4 g2 := .a
      replace d6 := b9.s d6 h9.ne
      replace l4 := b9.s l4
      replace r3 := b9.s r3
      have lt_at2008x7 := GHeap.ltg o6
      replace hin := b.mono d
      have mm2008x7 : MemN _ _ _ _ _ := ⟨rfl, Mem.of_get o6⟩
      refine .done ?_
      exact ⟨_, _, _, _, _, ⟨rfl, rfl, rfl, rfl, rfl, trivial⟩, j, by simp only [Cat.cells, ownP, List.length_replicate]; assumption, ⟨by assumption, by assumption, by assumption, by assumption, by omega, by omega, by omega, by omega, by omega, by omega, by omega, (h.st rk (.cons (h.lowNe (by omega)) (.nil _ _))).low (by omega), by first | exact h.lowNe (by omega) | exact h.ne (by omega), by first | exact h.lowNe (by omega) | exact h.ne (by omega), by first | exact h.lowNe (by omega) | exact h.ne (by omega)⟩⟩
     refine .call1 rfl rfl rfl rfl rfl @Try.call109 rfl (l01Own2O_c (hl2 := n5)) ?_
     rintro _ v5 ⟨h6, g12x7, rr12x7, rfl, m0, ge12x7, h⟩
     have rk := St.refl [g2] v5
     replace g := g.trans h6
     refine ⟨g, ?_⟩
     have nx_H12x7 := h6.1
     replace d := d.trans h6
     replace j := j.le h6
     replace m := h6.2 _ _ m
     replace l := h6.2 _ _ l
     replace d6 := h6.2 _ _ d6
     have lt_at12x7 := GHeap.ltg m0
     replace hin := b.mono d
     refine .c1 rfl rfl rfl rfl (.litA rfl sl_24_A ze_2_N rfl rfl rfl rfl) ?_
     rintro _ H10x7 ⟨g10x7, rfl, e8, ge10x7, r4⟩
     replace g := g.trans e8
     refine ⟨g, ?_⟩
     have nx_H10x7 := e8.1
     replace d := d.trans e8
     replace j := j.le e8
     replace rk := rk.le e8
     replace m := e8.2 _ _ m
     replace l := e8.2 _ _ l
     replace d6 := e8.2 _ _ d6
     replace m0 := e8.2 _ _ m0
     have lt_at10x7 := GHeap.ltg r4
     replace hin := b.mono d
     refine .qB rfl g (.build bt_27_Hj rfl rfl rfl) ?_
     refine .r0 rfl rfl rfl (.fillA rfl sz_27_D rfl rfl rfl rfl) ?_
     rintro _ H2008x8 ⟨rfl, c0, p4⟩
     have nx_H2008x8 := c0.nx
     replace d := d.st c0 (fun k hk => ⟨by omega, trivial⟩)
     replace j := j.sA c0
     replace rk := rk.sA c0
     have p : NE r5 g2 := .a
     replace l := c0.s l p.ne
     have h9 : NE v4 g2 := .a
     replace d6 := c0.s d6 h9.ne
     replace m0 := c0.s m0
     replace r4 := c0.s r4
     have lt_at2008x8 := GHeap.ltg p4
     replace hin := b.mono d
     have mm2008x8 : MemN _ _ _ _ _ := ⟨rfl, Mem.of_get p4⟩
     refine .done ?_
     exact ⟨_, _, _, _, _, ⟨rfl, rfl, rfl, rfl, rfl, trivial⟩, j, by simp only [Cat.cells, ownP, List.length_replicate]; assumption, ⟨by assumption, by assumption, by assumption, by assumption, by omega, by omega, by omega, by omega, by omega, by omega, by omega, (h.st rk (.cons (h.lowNe (by omega)) (.nil _ _))).low (by omega), by first | exact h.lowNe (by omega) | exact h.ne (by omega), by first | exact h.lowNe (by omega) | exact h.ne (by omega), by first | exact h.lowNe (by omega) | exact h.ne (by omega)⟩⟩
    refine .orI ?_ ?_
    ·
     refine .c1 rfl rfl rfl rfl (.litA rfl sl_24_A ze_2_N rfl rfl rfl rfl) ?_
     rintro _ H10x8 ⟨s9, rfl, k1, ge10x8, b5⟩
     replace g := g.trans k1
     refine ⟨g, ?_⟩
     have nx_H10x8 := k1.1
     replace d := d.trans k1
     replace j := j.le k1
     replace m := k1.2 _ _ m
     replace l := k1.2 _ _ l
     have lt_at10x8 := GHeap.ltg b5
     replace hin := b.mono d
     refine .orI ?_ ?_
     ·
      refine .c1 rfl rfl rfl rfl (.makeIN rfl sl_24_A ze_2_N by_2_N rfl rfl (by omega) (by omega) (by omega)) ?_
      rintro _ H7x3 ⟨g7x3, rfl, k6, ge7x3, o9⟩
      replace g := g.trans k6
      refine ⟨g, ?_⟩
      have nx_H7x3 := k6.1
      replace d := d.trans k6
      replace j := j.le k6
      replace m := k6.2 _ _ m
      replace l := k6.2 _ _ l
      replace b5 := k6.2 _ _ b5
      have lt_at7x3 := GHeap.ltg o9
      replace hin := b.mono d
      refine .call1 rfl rfl rfl rfl rfl @Try.call109 rfl (l01Own2O_c (hl2 := n5)) ?_
      rintro _ v6 ⟨f5, g12x8, rr12x8, rfl, q5, ge12x8, h⟩
      have rk := St.refl [g2] v6
      replace g := g.trans f5
      refine ⟨g, ?_⟩
      have nx_H12x8 := f5.1
      replace d := d.trans f5
      replace j := j.le f5
      replace m := f5.2 _ _ m
      replace l := f5.2 _ _ l
      replace b5 := f5.2 _ _ b5
      replace o9 := f5.2 _ _ o9
      have lt_at12x8 := GHeap.ltg q5
      replace hin := b.mono d
      refine .qB rfl g (.build bt_27_Hj rfl rfl rfl) ?_
      refine .r0 rfl rfl rfl (.fillA rfl sz_27_D rfl rfl rfl rfl) ?_
      rintro _ H2008x9 ⟨rfl, c3, p8⟩
      have nx_H2008x9 := c3.nx
      replace d := d.st c3 (fun k hk => ⟨by omega, trivial⟩)
      replace j := j.sA c3
      replace rk := rk.sA c3
      have p : NE r5 g2 := .a
      replace l := c3.s l p.ne
      have g4 : NE s9 g2 := .a
      replace b5 := c3.s b5 g4.ne
      replace o9 := c3.s o9
      replace q5 := c3.s q5
      have lt_at2008x9 := GHeap.ltg p8
      replace hin := b.mono d
      have mm2008x9 : MemN _ _ _ _ _ := ⟨rfl, Mem.of_get p8⟩
      refine .done ?_
      exact ⟨_, _, _, _, _, ⟨rfl, rfl, rfl, rfl, rfl, trivial⟩, j, by simp only [Cat.cells, ownP, List.length_replicate]; assumption, ⟨by assumption, by assumption, by assumption, by assumption, by omega, by omega, by omega, by omega, by omega, by omega, by omega, (h.st rk (.cons (h.lowNe (by omega)) (.nil _ _))).low (by omega), by first | exact h.lowNe (by omega) | exact h.ne (by omega), by first | exact h.lowNe (by omega) | exact h.ne (by omega), by first | exact h.lowNe (by omega) | exact h.ne (by omega)⟩⟩
     refine .call1 rfl rfl rfl rfl rfl @Try.call109 rfl (l01Own2O_c (hl2 := n5)) ?_
     rintro _ v0 ⟨i1, g12x9, rr12x9, rfl, l7, ge12x9, h⟩
     have rk := St.refl [g2] v0
     replace g := g.trans i1
     refine ⟨g, ?_⟩
     have nx_H12x9 := i1.1
     replace d := d.trans i1
     replace j := j.le i1
     replace m := i1.2 _ _ m
     replace l := i1.2 _ _ l
     replace b5 := i1.2 _ _ b5
     have lt_at12x9 := GHeap.ltg l7
     replace hin := b.mono d
     refine .c1 rfl rfl rfl rfl (.makeIN rfl sl_24_A ze_2_N by_2_N rfl rfl (by omega) (by omega) (by omega)) ?_
     rintro _ H7x4 ⟨g7x4, rfl, j2, ge7x4, s2⟩
     replace g := g.trans j2
     refine ⟨g, ?_⟩
     have nx_H7x4 := j2.1
     replace d := d.trans j2
     replace j := j.le j2
     replace rk := rk.le j2
     replace m := j2.2 _ _ m
     replace l := j2.2 _ _ l
     replace b5 := j2.2 _ _ b5
     replace l7 := j2.2 _ _ l7
     have lt_at7x4 := GHeap.ltg s2
     replace hin := b.mono d
     refine .qB rfl g (.build bt_27_Hj rfl rfl rfl) ?_
     refine .r0 rfl rfl rfl (.fillA rfl sz_27_D rfl rfl rfl rfl) ?_
     rintro _ H2008x10 ⟨rfl, y, m1⟩
     have nx_H2008x10 := y.nx
     replace d := d.st y (fun k hk => ⟨by omega, trivial⟩)
     replace j := j.sA y
     replace rk := rk.sA y
     have p : NE r5 g2 := .a
     replace l := y.s l p.ne
     have g4 : NE s9 g2 := .a
     replace b5 := y.s b5 g4.ne
     replace l7 := y.s l7
     replace s2 := y.s s2
     have lt_at2008x10 := GHeap.ltg m1
     replace hin := b.mono d
     have mm2008x10 : MemN _ _ _ _ _ := ⟨rfl, Mem.of_get m1⟩
     refine .done ?_
     exact ⟨_, _, _, _, _, ⟨rfl, rfl, rfl, rfl, rfl, trivial⟩, j, by simp only [Cat.cells, ownP, List.length_replicate]; assumption, ⟨by assumption, by assumption, by assumption, by assumption, by omega, by omega, by omega, by omega, by omega, by omega, by omega, (h.st rk (.cons (h.lowNe (by omega)) (.nil _ _))).low (by omega), by first | exact h.lowNe (by omega) | exact h.ne (by omega), by first | exact h.lowNe (by omega) | exact h.ne (by omega), by first | exact h.lowNe (by omega) | exact h.ne (by omega)⟩⟩
    refine .call1 rfl rfl rfl rfl rfl @Try.call109 rfl (l01Own2O_c (hl2 := n5)) ?_
    rintro _ u2 ⟨h3, s6, rr12x10, rfl, v, ge12x10, h⟩
    have rk := St.refl [g2] u2
    replace g := g.trans h3
    refine ⟨g, ?_⟩
    have nx_H12x10 := h3.1
    replace d := d.trans h3
    replace j := j.le h3
    replace m := h3.2 _ _ m
    replace l := h3.2 _ _ l
    have lt_at12x10 := GHeap.ltg v
    replace hin := b.mono d
    refine .orI ?_ ?_
    ·
     refine .c1 rfl rfl rfl rfl (.makeIN rfl sl_24_A ze_2_N by_2_N rfl rfl (by omega) (by omega) (by omega)) ?_
     rintro _ H7x5 ⟨g7x5, rfl, k3, ge7x5, p7⟩
     replace g := g.trans k3
     refine ⟨g, ?_⟩
     have nx_H7x5 := k3.1
     replace d := d.trans k3
     replace j := j.le k3
     replace rk := rk.le k3
     replace m := k3.2 _ _ m
     replace l := k3.2 _ _ l
     replace v := k3.2 _ _ v
     have lt_at7x5 := GHeap.ltg p7
     replace hin := b.mono d
     refine .c1 rfl rfl rfl rfl (.litA rfl sl_24_A ze_2_N rfl rfl rfl rfl) ?_
     rintro _ H10x9 ⟨g10x9, rfl, d7, ge10x9, q9⟩
     replace g := g.trans d7
     refine ⟨g, ?_⟩
     have nx_H10x9 := d7.1
     replace d := d.trans d7
     replace j := j.le d7
     replace rk := rk.le d7
     replace m := d7.2 _ _ m
     replace l := d7.2 _ _ l
     replace v := d7.2 _ _ v
     replace p7 := d7.2 _ _ p7
     have lt_at10x9 := GHeap.ltg q9
     replace hin := b.mono d
     refine .qB rfl g (.build bt_27_Hj rfl rfl rfl) ?_
     refine .r0 rfl rfl rfl (.fillA rfl sz_27_D rfl rfl rfl rfl) ?_
     rintro _ H2008x11 ⟨rfl, x, n3⟩
     have nx_H2008x11 := x.nx
     replace d := d.st x (fun k hk => ⟨by omega, trivial⟩)
     replace j := j.sA x
     replace rk := rk.sA x
     have p : NE r5 g2 := .a
     replace l := x.s l p.ne
     have e2 : NE s6 g2 := .a
     replace v := x.s v e2.ne
     replace p7 := x.s p7
     replace q9 := x.s q9
     have lt_at2008x11 := GHeap.ltg n3
     replace hin := b.mono d
     have mm2008x11 : MemN _ _ _ _ _ := ⟨rfl, Mem.of_get n3⟩
     refine .done ?_
     exact ⟨_, _, _, _, _, ⟨rfl, rfl, rfl, rfl, rfl, trivial⟩, j, by simp only [Cat.cells, ownP, List.length_replicate]; assumption, ⟨by assumption, by assumption, by assumption, by assumption, by omega, by omega, by omega, by omega, by omega, by omega, by omega, (h.st rk (.cons (h.lowNe (by omega)) (.nil _ _))).low (by omega), by first | exact h.lowNe (by omega) | exact h.ne (by omega), by first | exact h.lowNe (by omega) | exact h.ne (by omega), by first | exact h.lowNe (by omega) | exact h.ne (by omega)⟩⟩
    refine .c1 rfl rfl rfl rfl (.litA rfl sl_24_A ze_2_N rfl rfl rfl rfl) ?_
    rintro _ H10x10 ⟨g10x10, rfl, d1, ge10x10, j0⟩
    replace g := g.trans d1
    refine ⟨g, ?_⟩
    have nx_H10x10 := d1.1
    replace d := d.trans d1
    replace j := j.le d1
    replace rk := rk.le d1
    replace m := d1.2 _ _ m
    replace l := d1.2 _ _ l
    replace v := d1.2 _ _ v
    have lt_at10x10 := GHeap.ltg j0
    replace hin := b.mono d
    refine .c1 rfl rfl rfl rfl (.makeIN rfl sl_24_A ze_2_N by_2_N rfl rfl (by omega) (by omega) (by omega)) ?_
    rintro _ H7x6 ⟨g7x6, rfl, j6, ge7x6, s1⟩
    replace g := g.trans j6
    refine ⟨g, ?_⟩
    have nx_H7x6 := j6.1
    replace d := d.trans j6
    replace j := j.le j6
    replace rk := rk.le j6
    replace m := j6.2 _ _ m
    replace l := j6.2 _ _ l
    replace v := j6.2 _ _ v
    replace j0 := j6.2 _ _ j0
    have lt_at7x6 := GHeap.ltg s1
    replace hin := b.mono d
    refine .qB rfl g (.build bt_27_Hj rfl rfl rfl) ?_
    refine .r0 rfl rfl rfl (.fillA rfl sz_27_D rfl rfl rfl rfl) ?_
    rintro _ H2008x12 ⟨rfl, a7, n4⟩
    have nx_H2008x12 := a7.nx
    replace d := d.st a7 (fun k hk => ⟨by omega, trivial⟩)
    replace j := j.sA a7
    replace rk := rk.sA a7
    have p : NE r5 g2 := .a
    replace l := a7.s l p.ne
    have e2 : NE s6 g2 := .a
    replace v := a7.s v e2.ne
    replace j0 := a7.s j0
    replace s1 := a7.s s1
    have lt_at2008x12 := GHeap.ltg n4
    replace hin := b.mono d
    have mm2008x12 : MemN _ _ _ _ _ := ⟨rfl, Mem.of_get n4⟩
    refine .done ?_
    exact ⟨_, _, _, _, _, ⟨rfl, rfl, rfl, rfl, rfl, trivial⟩, j, by simp only [Cat.cells, ownP, List.length_replicate]; assumption, ⟨by assumption, by assumption, by assumption, by assumption, by omega, by omega, by omega, by omega, by omega, by omega, by omega, (h.st rk (.cons (h.lowNe (by omega)) (.nil _ _))).low (by omega), by first | exact h.lowNe (by omega) | exact h.ne (by omega), by first | exact h.lowNe (by omega) | exact h.ne (by omega), by first | exact h.lowNe (by omega) | exact h.ne (by omega)⟩⟩
   refine .orI ?_ ?_
   ·
    refine .c1 rfl rfl rfl rfl (.litA rfl sl_24_A ze_2_N rfl rfl rfl rfl) ?_
    rintro _ H10x11 ⟨j9, rfl, i5, ge10x11, f⟩
    have g := i5
    refine ⟨g, ?_⟩
    have nx_H10x11 := i5.1
    replace d := d.trans i5
    replace j := j.le i5
    replace m := i5.2 _ _ m
    have lt_at10x11 := GHeap.ltg f
    replace hin := b.mono d
    refine .orI ?_ ?_
    ·
     refine .c1 rfl rfl rfl rfl (.makeIN rfl sl_24_A ze_2_N by_2_N rfl rfl (by omega) (by omega) (by omega)) ?_
     rintro _ H7x7 ⟨v3, rfl, n9, ge7x7, d4⟩
     replace g := g.trans n9
     refine ⟨g, ?_⟩
     have nx_H7x7 := n9.1
     replace d := d.trans n9
     replace j := j.le n9
     replace m := n9.2 _ _ m
     replace f := n9.2 _ _ f
     have lt_at7x7 := GHeap.ltg d4
     replace hin := b.mono d
     refine .orI ?_ ?_
     ·
      refine .c1 rfl rfl rfl rfl (.makeIN rfl sl_24_A ze_2_N by_2_N rfl rfl (by omega) (by omega) (by omega)) ?_
      rintro _ H9x7 ⟨g9x7, rfl, l9, ge9x7, o4⟩
      replace g := g.trans l9
      refine ⟨g, ?_⟩
      have nx_H9x7 := l9.1
      replace d := d.trans l9
      replace j := j.le l9
      replace m := l9.2 _ _ m
      replace f := l9.2 _ _ f
      replace d4 := l9.2 _ _ d4
      have lt_at9x7 := GHeap.ltg o4
      replace hin := b.mono d
      refine .call1 rfl rfl rfl rfl rfl @Try.call109 rfl (l01Own2O_c (hl2 := n5)) ?_
      rintro _ u0 ⟨c9, g12x11, rr12x11, rfl, o1, ge12x11, h⟩
      have rk := St.refl [g2] u0
      replace g := g.trans c9
      refine ⟨g, ?_⟩
      have nx_H12x11 := c9.1
      replace d := d.trans c9
      replace j := j.le c9
      replace m := c9.2 _ _ m
      replace f := c9.2 _ _ f
      replace d4 := c9.2 _ _ d4
      replace o4 := c9.2 _ _ o4
      have lt_at12x11 := GHeap.ltg o1
      replace hin := b.mono d
      refine .qB rfl g (.build bt_27_Hj rfl rfl rfl) ?_
      refine .r0 rfl rfl rfl (.fillA rfl sz_27_D rfl rfl rfl rfl) ?_
      rintro _ H2008x13 ⟨rfl, a3, n2⟩
      have nx_H2008x13 := a3.nx
      replace d := d.st a3 (fun k hk => ⟨by omega, trivial⟩)
      replace j := j.sA a3
      replace rk := rk.sA a3
      have n : NE j9 g2 := .a
      replace f := a3.s f n.ne
      have h5 : NE v3 g2 := .a
      replace d4 := a3.s d4 h5.ne
      replace o4 := a3.s o4
      replace o1 := a3.s o1
      have lt_at2008x13 := GHeap.ltg n2
      replace hin := b.mono d
      have mm2008x13 : MemN _ _ _ _ _ := ⟨rfl, Mem.of_get n2⟩
      refine .done ?_
      exact ⟨_, _, _, _, _, ⟨rfl, rfl, rfl, rfl, rfl, trivial⟩, j, by simp only [Cat.cells, ownP, List.length_replicate]; assumption, ⟨by assumption, by assumption, by assumption, by assumption, by omega, by omega, by omega, by omega, by omega, by omega, by omega, (h.st rk (.cons (h.lowNe (by omega)) (.nil _ _))).low (by omega), by first | exact h.lowNe (by omega) | exact h.ne (by omega), by first | exact h.lowNe (by omega) | exact h.ne (by omega), by first | exact h.lowNe (by omega) | exact h.ne (by omega)⟩⟩
     refine .call1 rfl rfl rfl rfl rfl @Try.call109 rfl (l01Own2O_c (hl2 := n5)) ?_
     rintro _ t8 ⟨e9, g12x12, rr12x12, rfl, i8, ge12x12, h⟩
     have rk := St.refl [g2] t8
     replace g := g.trans e9
     refine ⟨g, ?_⟩
     have nx_H12x12 := e9.1
     replace d := d.trans e9
     replace j := j.le e9
     replace m := e9.2 _ _ m
     replace f := e9.2 _ _ f
     replace d4 := e9.2 _ _ d4
     have lt_at12x12 := GHeap.ltg i8
     replace hin := b.mono d
     refine .c1 rfl rfl rfl rfl (.makeIN rfl sl_24_A ze_2_N by_2_N rfl rfl (by omega) (by omega) (by omega)) ?_
     rintro _ H9x8 ⟨g9x8, rfl, j5, ge9x8, s7⟩
     replace g := g.trans j5
     refine ⟨g, ?_⟩
     have nx_H9x8 := j5.1
     replace d := d.trans j5
     replace j := j.le j5
     replace rk := rk.le j5
     replace m := j5.2 _ _ m
     replace f := j5.2 _ _ f
     replace d4 := j5.2 _ _ d4
     replace i8 := j5.2 _ _ i8
     have lt_at9x8 := GHeap.ltg s7
     replace hin := b.mono d
     refine .qB rfl g (.build bt_27_Hj rfl rfl rfl) ?_
     refine .r0 rfl rfl rfl (.fillA rfl sz_27_D rfl rfl rfl rfl) ?_
     rintro _ H2008x14 ⟨rfl, a4, m6⟩
     have nx_H2008x14 := a4.nx
     replace d := d.st a4 (fun k hk => ⟨by omega, trivial⟩)
     replace j := j.sA a4
     replace rk := rk.sA a4
     have n : NE j9 g2 := .a
     replace f := a4.s f n.ne
     have h5 : NE v3 g2 := .a
     replace d4 := a4.s d4 h5.ne
     replace i8 := a4.s i8
     replace s7 := a4.s s7
     have lt_at2008x14 := GHeap.ltg m6
     replace hin := b.mono d
     have mm2008x14 : MemN _ _ _ _ _ := ⟨rfl, Mem.of_get m6⟩
     refine .done ?_
     exact ⟨_, _, _, _, _, ⟨rfl, rfl, rfl, rfl, rfl, trivial⟩, j, by simp only [Cat.cells, ownP, List.length_replicate]; assumption, ⟨by assumption, by assumption, by assumption, by assumption, by omega, by omega, by omega, by omega, by omega, by omega, by omega, (h.st rk (.cons (h.lowNe (by omega)) (.nil _ _))).low (by omega), by first | exact h.lowNe (by omega) | exact h.ne (by omega), by first | exact h.lowNe (by omega) | exact h.ne (by omega), by first | exact h.lowNe (by omega) | exact h.ne (by omega)⟩⟩
    refine .orI ?_ ?_
    ·
     refine .c1 rfl rfl rfl rfl (.makeIN rfl sl_24_A ze_2_N by_2_N rfl rfl (by omega) (by omega) (by omega)) ?_
     rintro _ H9x9 ⟨u6, rfl, n8, ge9x9, d5⟩
     replace g := g.trans n8
     refine ⟨g, ?_⟩
     have nx_H9x9 := n8.1
     replace d := d.trans n8
     replace j := j.le n8
     replace m := n8.2 _ _ m
     replace f := n8.2 _ _ f
     have lt_at9x9 := GHeap.ltg d5
     replace hin := b.mono d
     refine .orI ?_ ?_
     ·
      refine .c1 rfl rfl rfl rfl (.makeIN rfl sl_24_A ze_2_N by_2_N rfl rfl (by omega) (by omega) (by omega)) ?_
      rintro _ H7x8 ⟨g7x8, rfl, l6, ge7x8, p6⟩
      replace g := g.trans l6
      refine ⟨g, ?_⟩
      have nx_H7x8 := l6.1
      replace d := d.trans l6
      replace j := j.le l6
      replace m := l6.2 _ _ m
      replace f := l6.2 _ _ f
      replace d5 := l6.2 _ _ d5
      have lt_at7x8 := GHeap.ltg p6
      replace hin := b.mono d
      refine .call1 rfl rfl rfl rfl rfl @Try.call109 rfl (l01Own2O_c (hl2 := n5)) ?_
      rintro _ u1 ⟨d0, g12x13, rr12x13, rfl, o2, ge12x13, h⟩
      have rk := St.refl [g2] u1
      replace g := g.trans d0
      refine ⟨g, ?_⟩
      have nx_H12x13 := d0.1
      replace d := d.trans d0
      replace j := j.le d0
      replace m := d0.2 _ _ m
      replace f := d0.2 _ _ f
      replace d5 := d0.2 _ _ d5
      replace p6 := d0.2 _ _ p6
      have lt_at12x13 := GHeap.ltg o2
      replace hin := b.mono d
      refine .qB rfl g (.build bt_27_Hj rfl rfl rfl) ?_
      refine .r0 rfl rfl rfl (.fillA rfl sz_27_D rfl rfl rfl rfl) ?_
      rintro _ H2008x15 ⟨rfl, z, m9⟩
      have nx_H2008x15 := z.nx
      replace d := d.st z (fun k hk => ⟨by omega, trivial⟩)
      replace j := j.sA z
      replace rk := rk.sA z
      have n : NE j9 g2 := .a
      replace f := z.s f n.ne
      have h4 : NE u6 g2 := .a
      replace d5 := z.s d5 h4.ne
      replace p6 := z.s p6
      replace o2 := z.s o2
      have lt_at2008x15 := GHeap.ltg m9
      replace hin := b.mono d
      have mm2008x15 : MemN _ _ _ _ _ := ⟨rfl, Mem.of_get m9⟩
      refine .done ?_
      exact ⟨_, _, _, _, _, ⟨rfl, rfl, rfl, rfl, rfl, trivial⟩, j, by simp only [Cat.cells, ownP, List.length_replicate]; assumption, ⟨by assumption, by assumption, by assumption, by assumption, by omega, by omega, by omega, by omega, by omega, by omega, by omega, (h.st rk (.cons (h.lowNe (by omega)) (.nil _ _))).low (by omega), by first | exact h.lowNe (by omega) | exact h.ne (by omega), by first | exact h.lowNe (by omega) | exact h.ne (by omega), by first | exact h.lowNe (by omega) | exact h.ne (by omega)⟩⟩
     refine .call1 rfl rfl rfl rfl rfl @Try.call109 rfl (l01Own2O_c (hl2 := n5)) ?_
     rintro _ t9 ⟨e5, g12x14, rr12x14, rfl, i4, ge12x14, h⟩
     have rk := St.refl [g2] t9
     replace g := g.trans e5
     refine ⟨g, ?_⟩
     have nx_H12x14 := e5.1
     replace d := d.trans e5
     replace j := j.le e5
     replace m := e5.2 _ _ m
     replace f := e5.2 _ _ f
     replace d5 := e5.2 _ _ d5
     have lt_at12x14 := GHeap.ltg i4
     replace hin := b.mono d
     refine .c1 rfl rfl rfl rfl (.makeIN rfl sl_24_A ze_2_N by_2_N rfl rfl (by omega) (by omega) (by omega)) ?_
     rintro _ H7x9 ⟨g7x9, rfl, i7, ge7x9, s4⟩
     replace g := g.trans i7
     refine ⟨g, ?_⟩
     have nx_H7x9 := i7.1
     replace d := d.trans i7
     replace j := j.le i7
     replace rk := rk.le i7
     replace m := i7.2 _ _ m
     replace f := i7.2 _ _ f
     replace d5 := i7.2 _ _ d5
     replace i4 := i7.2 _ _ i4
     have lt_at7x9 := GHeap.ltg s4
     replace hin := b.mono d
     refine .qB rfl g (.build bt_27_Hj rfl rfl rfl) ?_
     refine .r0 rfl rfl rfl (.fillA rfl sz_27_D rfl rfl rfl rfl) ?_
     rintro _ H2008x16 ⟨rfl, a6, m7⟩
     have nx_H2008x16 := a6.nx
     replace d := d.st a6 (fun k hk => ⟨by omega, trivial⟩)
     replace j := j.sA a6
     replace rk := rk.sA a6
     have n : NE j9 g2 := .a
     replace f := a6.s f n.ne
     have h4 : NE u6 g2 := .a
     replace d5 := a6.s d5 h4.ne
     replace i4 := a6.s i4
     replace s4 := a6.s s4
     have lt_at2008x16 := GHeap.ltg m7
     replace hin := b.mono d
     have mm2008x16 : MemN _ _ _ _ _ := ⟨rfl, Mem.of_get m7⟩
     refine .done ?_
     exact ⟨_, _, _, _, _, ⟨rfl, rfl, rfl, rfl, rfl, trivial⟩, j, by simp only [Cat.cells, ownP, List.length_replicate]; assumption, ⟨by assumption, by assumption, by assumption, by assumption, by omega, by omega, by omega, by omega, by omega, by omega, by omega, (h.st rk (.cons (h.lowNe (by omega)) (.nil _ _))).low (by omega), by first | exact h.lowNe (by omega) | exact h.ne (by omega), by first | exact h.lowNe (by omega) | exact h.ne (by omega), by first | exact h.lowNe (by omega) | exact h.ne (by omega)⟩⟩
    refine .call1 rfl rfl rfl rfl rfl @Try.call109 rfl (l01Own2O_c (hl2 := n5)) ?_
    rintro _ t7 ⟨h2, r7, rr12x15, rfl, u, ge12x15, h⟩
    have rk := St.refl [g2] t7
    replace g := g.trans h2
    refine ⟨g, ?_⟩
    have nx_H12x15 := h2.1
    replace d := d.trans h2
    replace j := j.le h2
    replace m := h2.2 _ _ m
    replace f := h2.2 _ _ f
    have lt_at12x15 := GHeap.ltg u
    replace hin := b.mono d
    refine .orI ?_ ?_
    ·
     refine .c1 rfl rfl rfl rfl (.makeIN rfl sl_24_A ze_2_N by_2_N rfl rfl (by omega) (by omega) (by omega)) ?_
     rintro _ H7x10 ⟨g7x10, rfl, g1, ge7x10, k7⟩
     replace g := g.trans g1
     refine ⟨g, ?_⟩
     have nx_H7x10 := g1.1
     replace d := d.trans g1
     replace j := j.le g1
     replace rk := rk.le g1
     replace m := g1.2 _ _ m
     replace f := g1.2 _ _ f
     replace u := g1.2 _ _ u
     have lt_at7x10 := GHeap.ltg k7
     replace hin := b.mono d
     refine .c1 rfl rfl rfl rfl (.makeIN rfl sl_24_A ze_2_N by_2_N rfl rfl (by omega) (by omega) (by omega)) ?_
     rintro _ H9x10 ⟨g9x10, rfl, d9, ge9x10, q8⟩
     replace g := g.trans d9
     refine ⟨g, ?_⟩
     have nx_H9x10 := d9.1
     replace d := d.trans d9
     replace j := j.le d9
     replace rk := rk.le d9
     replace m := d9.2 _ _ m
     replace f := d9.2 _ _ f
     replace u := d9.2 _ _ u
     replace k7 := d9.2 _ _ k7
     have lt_at9x10 := GHeap.ltg q8
     replace hin := b.mono d
     refine .qB rfl g (.build bt_27_Hj rfl rfl rfl) ?_
     refine .r0 rfl rfl rfl (.fillA rfl sz_27_D rfl rfl rfl rfl) ?_
     rintro _ H2008x17 ⟨rfl, a0, n0⟩
     have nx_H2008x17 := a0.nx
     replace d := d.st a0 (fun k hk => ⟨by omega, trivial⟩)
     replace j := j.sA a0
     replace rk := rk.sA a0
     have n : NE j9 g2 := .a
     replace f := a0.s f n.ne
     have d8 : NE r7 g2 := .a
     replace u := a0.s u d8.ne
     replace k7 := a0.s k7
     replace q8 := a0.s q8
     have lt_at2008x17 := GHeap.ltg n0
     replace hin := b.mono d
     have mm2008x17 : MemN _ _ _ _ _ := ⟨rfl, Mem.of_get n0⟩
     refine .done ?_
     exact ⟨_, _, _, _, _, ⟨rfl, rfl, rfl, rfl, rfl, trivial⟩, j, by simp only [Cat.cells, ownP, List.length_replicate]; assumption, ⟨by assumption, by assumption, by assumption, by assumption, by omega, by omega, by omega, by omega, by omega, by omega, by omega, (h.st rk (.cons (h.lowNe (by omega)) (.nil _ _))).low (by omega), by first | exact h.lowNe (by omega) | exact h.ne (by omega), by first | exact h.lowNe (by omega) | exact h.ne (by omega), by first | exact h.lowNe (by omega) | exact h.ne (by omega)⟩⟩
    refine .c1 rfl rfl rfl rfl (.makeIN rfl sl_24_A ze_2_N by_2_N rfl rfl (by omega) (by omega) (by omega)) ?_
    rintro _ H9x11 ⟨g9x11, rfl, g8, ge9x11, k5⟩
    replace g := g.trans g8
    refine ⟨g, ?_⟩
    have nx_H9x11 := g8.1
    replace d := d.trans g8
    replace j := j.le g8
    replace rk := rk.le g8
    replace m := g8.2 _ _ m
    replace f := g8.2 _ _ f
    replace u := g8.2 _ _ u
    have lt_at9x11 := GHeap.ltg k5
    replace hin := b.mono d
    refine .c1 rfl rfl rfl rfl (.makeIN rfl sl_24_A ze_2_N by_2_N rfl rfl (by omega) (by omega) (by omega)) ?_
    rintro _ H7x11 ⟨g7x11, rfl, f1, ge7x11, r1⟩
    replace g := g.trans f1
    refine ⟨g, ?_⟩
    have nx_H7x11 := f1.1
    replace d := d.trans f1
    replace j := j.le f1
    replace rk := rk.le f1
    replace m := f1.2 _ _ m
    replace f := f1.2 _ _ f
    replace u := f1.2 _ _ u
    replace k5 := f1.2 _ _ k5
    have lt_at7x11 := GHeap.ltg r1
    replace hin := b.mono d
    refine .qB rfl g (.build bt_27_Hj rfl rfl rfl) ?_
    refine .r0 rfl rfl rfl (.fillA rfl sz_27_D rfl rfl rfl rfl) ?_
    rintro _ H2008x18 ⟨rfl, a9, n6⟩
    have nx_H2008x18 := a9.nx
    replace d := d.st a9 (fun k hk => ⟨by omega, trivial⟩)
    replace j := j.sA a9
    replace rk := rk.sA a9
    have n : NE j9 g2 := .a
    replace f := a9.s f n.ne
    have d8 : NE r7 g2 := .a
    replace u := a9.s u d8.ne
    replace k5 := a9.s k5
    replace r1 := a9.s r1
    have lt_at2008x18 := GHeap.ltg n6
    replace hin := b.mono d
    have mm2008x18 : MemN _ _ _ _ _ := ⟨rfl, Mem.of_get n6⟩
    refine .done ?_
    exact ⟨_, _, _, _, _, ⟨rfl, rfl, rfl, rfl, rfl, trivial⟩, j, by simp only [Cat.cells, ownP, List.length_replicate]; assumption, ⟨by assumption, by assumption, by assumption, by assumption, by omega, by omega, by omega, by omega, by omega, by omega, by omega, (h.st rk (.cons (h.lowNe (by omega)) (.nil _ _))).low (by omega), by first | exact h.lowNe (by omega) | exact h.ne (by omega), by first | exact h.lowNe (by omega) | exact h.ne (by omega), by first | exact h.lowNe (by omega) | exact h.ne (by omega)⟩⟩
   refine .call1 rfl rfl rfl rfl rfl @Try.call109 rfl (l01Own2O_c (hl2 := n5)) ?_
   rintro _ u3 ⟨j3, k0, rr12x16, rfl, e, ge12x16, h⟩
   have rk := St.refl [g2] u3
   have g := j3
   refine ⟨g, ?_⟩
   have nx_H12x16 := j3.1
   replace d := d.trans j3
   replace j := j.le j3
   replace m := j3.2 _ _ m
   have lt_at12x16 := GHeap.ltg e
   replace hin := b.mono d
   refine .orI ?_ ?_
   ·
    refine .c1 rfl rfl rfl rfl (.makeIN rfl sl_24_A ze_2_N by_2_N rfl rfl (by omega) (by omega) (by omega)) ?_
    rintro _ H7x12 ⟨t1, rfl, i2, ge7x12, b2⟩
    replace g := g.trans i2
    refine ⟨g, ?_⟩
    have nx_H7x12 := i2.1
    replace d := d.trans i2
    replace j := j.le i2
    replace rk := rk.le i2
    replace m := i2.2 _ _ m
    replace e := i2.2 _ _ e
    have lt_at7x12 := GHeap.ltg b2
    replace hin := b.mono d
    refine .orI ?_ ?_
    ·
     refine .c1 rfl rfl rfl rfl (.makeIN rfl sl_24_A ze_2_N by_2_N rfl rfl (by omega) (by omega) (by omega)) ?_
     rintro _ H9x12 ⟨g9x12, rfl, h0, ge9x12, k4⟩
     replace g := g.trans h0
     refine ⟨g, ?_⟩
     have nx_H9x12 := h0.1
     replace d := d.trans h0
     replace j := j.le h0
     replace rk := rk.le h0
     replace m := h0.2 _ _ m
     replace e := h0.2 _ _ e
     replace b2 := h0.2 _ _ b2
     have lt_at9x12 := GHeap.ltg k4
     replace hin := b.mono d
     refine .c1 rfl rfl rfl rfl (.litA rfl sl_24_A ze_2_N rfl rfl rfl rfl) ?_
     rintro _ H10x12 ⟨g10x12, rfl, c6, ge10x12, o3⟩
     replace g := g.trans c6
     refine ⟨g, ?_⟩
     have nx_H10x12 := c6.1
     replace d := d.trans c6
     replace j := j.le c6
     replace rk := rk.le c6
     replace m := c6.2 _ _ m
     replace e := c6.2 _ _ e
     replace b2 := c6.2 _ _ b2
     replace k4 := c6.2 _ _ k4
     have lt_at10x12 := GHeap.ltg o3
     replace hin := b.mono d
     refine .qB rfl g (.build bt_27_Hj rfl rfl rfl) ?_
     refine .r0 rfl rfl rfl (.fillA rfl sz_27_D rfl rfl rfl rfl) ?_
     rintro _ H2008x19 ⟨rfl, b1, m2⟩
     have nx_H2008x19 := b1.nx
     replace d := d.st b1 (fun k hk => ⟨by omega, trivial⟩)
     replace j := j.sA b1
     replace rk := rk.sA b1
     have o : NE k0 g2 := .a
     replace e := b1.s e o.ne
     have f9 : NE t1 g2 := .a
     replace b2 := b1.s b2 f9.ne
     replace k4 := b1.s k4
     replace o3 := b1.s o3
     have lt_at2008x19 := GHeap.ltg m2
     replace hin := b.mono d
     have mm2008x19 : MemN _ _ _ _ _ := ⟨rfl, Mem.of_get m2⟩
     refine .done ?_
     exact ⟨_, _, _, _, _, ⟨rfl, rfl, rfl, rfl, rfl, trivial⟩, j, by simp only [Cat.cells, ownP, List.length_replicate]; assumption, ⟨by assumption, by assumption, by assumption, by assumption, by omega, by omega, by omega, by omega, by omega, by omega, by omega, (h.st rk (.cons (h.lowNe (by omega)) (.nil _ _))).low (by omega), by first | exact h.lowNe (by omega) | exact h.ne (by omega), by first | exact h.lowNe (by omega) | exact h.ne (by omega), by first | exact h.lowNe (by omega) | exact h.ne (by omega)⟩⟩
    refine .c1 rfl rfl rfl rfl (.litA rfl sl_24_A ze_2_N rfl rfl rfl rfl) ?_
    rintro _ H10x13 ⟨g10x13, rfl, c8, ge10x13, i6⟩
    replace g := g.trans c8
    refine ⟨g, ?_⟩
    have nx_H10x13 := c8.1
    replace d := d.trans c8
    replace j := j.le c8
    replace rk := rk.le c8
    replace m := c8.2 _ _ m
    replace e := c8.2 _ _ e
    replace b2 := c8.2 _ _ b2
    have lt_at10x13 := GHeap.ltg i6
    replace hin := b.mono d
    refine .c1 rfl rfl rfl rfl (.makeIN rfl sl_24_A ze_2_N by_2_N rfl rfl (by omega) (by omega) (by omega)) ?_
    rintro _ H9x13 ⟨g9x13, rfl, e3, ge9x13, q4⟩
    replace g := g.trans e3
    refine ⟨g, ?_⟩
    have nx_H9x13 := e3.1
    replace d := d.trans e3
    replace j := j.le e3
    replace rk := rk.le e3
    replace m := e3.2 _ _ m
    replace e := e3.2 _ _ e
    replace b2 := e3.2 _ _ b2
    replace i6 := e3.2 _ _ i6
    have lt_at9x13 := GHeap.ltg q4
    replace hin := b.mono d
    refine .qB rfl g (.build bt_27_Hj rfl rfl rfl) ?_
    refine .r0 rfl rfl rfl (.fillA rfl sz_27_D rfl rfl rfl rfl) ?_
    rintro _ H2008x20 ⟨rfl, a1, m4⟩
    have nx_H2008x20 := a1.nx
    replace d := d.st a1 (fun k hk => ⟨by omega, trivial⟩)
    replace j := j.sA a1
    replace rk := rk.sA a1
    have o : NE k0 g2 := .a
    replace e := a1.s e o.ne
    have f9 : NE t1 g2 := .a
    replace b2 := a1.s b2 f9.ne
    replace i6 := a1.s i6
    replace q4 := a1.s q4
    have lt_at2008x20 := GHeap.ltg m4
    replace hin := b.mono d
    have mm2008x20 : MemN _ _ _ _ _ := ⟨rfl, Mem.of_get m4⟩
    refine .done ?_
    exact ⟨_, _, _, _, _, ⟨rfl, rfl, rfl, rfl, rfl, trivial⟩, j, by simp only [Cat.cells, ownP, List.length_replicate]; assumption, ⟨by assumption, by assumption, by assumption, by assumption, by omega, by omega, by omega, by omega, by omega, by omega, by omega, (h.st rk (.cons (h.lowNe (by omega)) (.nil _ _))).low (by omega), by first | exact h.lowNe (by omega) | exact h.ne (by omega), by first | exact h.lowNe (by omega) | exact h.ne (by omega), by first | exact h.lowNe (by omega) | exact h.ne (by omega)⟩⟩
   refine .orI ?_ ?_
   ·
    refine .c1 rfl rfl rfl rfl (.makeIN rfl sl_24_A ze_2_N by_2_N rfl rfl (by omega) (by omega) (by omega)) ?_
    rintro _ H9x14 ⟨t2, rfl, i0, ge9x14, b4⟩
    replace g := g.trans i0
    refine ⟨g, ?_⟩
    have nx_H9x14 := i0.1
    replace d := d.trans i0
    replace j := j.le i0
    replace rk := rk.le i0
    replace m := i0.2 _ _ m
    replace e := i0.2 _ _ e
    have lt_at9x14 := GHeap.ltg b4
    replace hin := b.mono d
    refine .orI ?_ ?_
    ·
     refine .c1 rfl rfl rfl rfl (.makeIN rfl sl_24_A ze_2_N by_2_N rfl rfl (by omega) (by omega) (by omega)) ?_
     rintro _ H7x13 ⟨g7x13, rfl, f3, ge7x13, l3⟩
     replace g := g.trans f3
     refine ⟨g, ?_⟩
     have nx_H7x13 := f3.1
     replace d := d.trans f3
     replace j := j.le f3
     replace rk := rk.le f3
     replace m := f3.2 _ _ m
     replace e := f3.2 _ _ e
     replace b4 := f3.2 _ _ b4
     have lt_at7x13 := GHeap.ltg l3
     replace hin := b.mono d
     refine .c1 rfl rfl rfl rfl (.litA rfl sl_24_A ze_2_N rfl rfl rfl rfl) ?_
     rintro _ H10x14 ⟨g10x14, rfl, c7, ge10x14, o0⟩
     replace g := g.trans c7
     refine ⟨g, ?_⟩
     have nx_H10x14 := c7.1
     replace d := d.trans c7
     replace j := j.le c7
     replace rk := rk.le c7
     replace m := c7.2 _ _ m
     replace e := c7.2 _ _ e
     replace b4 := c7.2 _ _ b4
     replace l3 := c7.2 _ _ l3
     have lt_at10x14 := GHeap.ltg o0
     replace hin := b.mono d
     refine .qB rfl g (.build bt_27_Hj rfl rfl rfl) ?_
     refine .r0 rfl rfl rfl (.fillA rfl sz_27_D rfl rfl rfl rfl) ?_
     rintro _ H2008x21 ⟨rfl, a2, n1⟩
     have nx_H2008x21 := a2.nx
     replace d := d.st a2 (fun k hk => ⟨by omega, trivial⟩)
     replace j := j.sA a2
     replace rk := rk.sA a2
     have o : NE k0 g2 := .a
     replace e := a2.s e o.ne
     have f8 : NE t2 g2 := .a
     replace b4 := a2.s b4 f8.ne
     replace l3 := a2.s l3
     replace o0 := a2.s o0
     have lt_at2008x21 := GHeap.ltg n1
     replace hin := b.mono d
     have mm2008x21 : MemN _ _ _ _ _ := ⟨rfl, Mem.of_get n1⟩
     refine .done ?_
     exact ⟨_, _, _, _, _, ⟨rfl, rfl, rfl, rfl, rfl, trivial⟩, j, by simp only [Cat.cells, ownP, List.length_replicate]; assumption, ⟨by assumption, by assumption, by assumption, by assumption, by omega, by omega, by omega, by omega, by omega, by omega, by omega, (h.st rk (.cons (h.lowNe (by omega)) (.nil _ _))).low (by omega), by first | exact h.lowNe (by omega) | exact h.ne (by omega), by first | exact h.lowNe (by omega) | exact h.ne (by omega), by first | exact h.lowNe (by omega) | exact h.ne (by omega)⟩⟩
    refine .c1 rfl rfl rfl rfl (.litA rfl sl_24_A ze_2_N rfl rfl rfl rfl) ?_
    rintro _ H10x15 ⟨g10x15, rfl, d2, ge10x15, j1⟩
    replace g := g.trans d2
    refine ⟨g, ?_⟩
    have nx_H10x15 := d2.1
    replace d := d.trans d2
    replace j := j.le d2
    replace rk := rk.le d2
    replace m := d2.2 _ _ m
    replace e := d2.2 _ _ e
    replace b4 := d2.2 _ _ b4
    have lt_at10x15 := GHeap.ltg j1
    replace hin := b.mono d
    refine .c1 rfl rfl rfl rfl (.makeIN rfl sl_24_A ze_2_N by_2_N rfl rfl (by omega) (by omega) (by omega)) ?_
    rintro _ H7x14 ⟨g7x14, rfl, e4, ge7x14, r2⟩
    replace g := g.trans e4
    refine ⟨g, ?_⟩
    have nx_H7x14 := e4.1
    replace d := d.trans e4
    replace j := j.le e4
    replace rk := rk.le e4
    replace m := e4.2 _ _ m
    replace e := e4.2 _ _ e
    replace b4 := e4.2 _ _ b4
    replace j1 := e4.2 _ _ j1
    have lt_at7x14 := GHeap.ltg r2
    replace hin := b.mono d
    refine .qB rfl g (.build bt_27_Hj rfl rfl rfl) ?_
    refine .r0 rfl rfl rfl (.fillA rfl sz_27_D rfl rfl rfl rfl) ?_
    rintro _ H2008x22 ⟨rfl, a5, m5⟩
    have nx_H2008x22 := a5.nx
    replace d := d.st a5 (fun k hk => ⟨by omega, trivial⟩)
    replace j := j.sA a5
    replace rk := rk.sA a5
    have o : NE k0 g2 := .a
    replace e := a5.s e o.ne
    have f8 : NE t2 g2 := .a
    replace b4 := a5.s b4 f8.ne
    replace j1 := a5.s j1
    replace r2 := a5.s r2
    have lt_at2008x22 := GHeap.ltg m5
    replace hin := b.mono d
    have mm2008x22 : MemN _ _ _ _ _ := ⟨rfl, Mem.of_get m5⟩
    refine .done ?_
    exact ⟨_, _, _, _, _, ⟨rfl, rfl, rfl, rfl, rfl, trivial⟩, j, by simp only [Cat.cells, ownP, List.length_replicate]; assumption, ⟨by assumption, by assumption, by assumption, by assumption, by omega, by omega, by omega, by omega, by omega, by omega, by omega, (h.st rk (.cons (h.lowNe (by omega)) (.nil _ _))).low (by omega), by first | exact h.lowNe (by omega) | exact h.ne (by omega), by first | exact h.lowNe (by omega) | exact h.ne (by omega), by first | exact h.lowNe (by omega) | exact h.ne (by omega)⟩⟩
   refine .c1 rfl rfl rfl rfl (.litA rfl sl_24_A ze_2_N rfl rfl rfl rfl) ?_
   rintro _ H10x16 ⟨r9, rfl, e7, ge10x16, w⟩
   replace g := g.trans e7
   refine ⟨g, ?_⟩
   have nx_H10x16 := e7.1
   replace d := d.trans e7
   replace j := j.le e7
   replace rk := rk.le e7
   replace m := e7.2 _ _ m
   replace e := e7.2 _ _ e
   have lt_at10x16 := GHeap.ltg w
   replace hin := b.mono d
   refine .orI ?_ ?_
   ·
    refine .c1 rfl rfl rfl rfl (.makeIN rfl sl_24_A ze_2_N by_2_N rfl rfl (by omega) (by omega) (by omega)) ?_
    rintro _ H7x15 ⟨g7x15, rfl, g5, ge7x15, l2⟩
    replace g := g.trans g5
    refine ⟨g, ?_⟩
    have nx_H7x15 := g5.1
    replace d := d.trans g5
    replace j := j.le g5
    replace rk := rk.le g5
    replace m := g5.2 _ _ m
    replace e := g5.2 _ _ e
    replace w := g5.2 _ _ w
    have lt_at7x15 := GHeap.ltg l2
    replace hin := b.mono d
    refine .c1 rfl rfl rfl rfl (.makeIN rfl sl_24_A ze_2_N by_2_N rfl rfl (by omega) (by omega) (by omega)) ?_
    rintro _ H9x15 ⟨g9x15, rfl, e0, ge9x15, q2⟩
    replace g := g.trans e0
    refine ⟨g, ?_⟩
    have nx_H9x15 := e0.1
    replace d := d.trans e0
    replace j := j.le e0
    replace rk := rk.le e0
    replace m := e0.2 _ _ m
    replace e := e0.2 _ _ e
    replace w := e0.2 _ _ w
    replace l2 := e0.2 _ _ l2
    have lt_at9x15 := GHeap.ltg q2
    replace hin := b.mono d
    refine .qB rfl g (.build bt_27_Hj rfl rfl rfl) ?_
    refine .r0 rfl rfl rfl (.fillA rfl sz_27_D rfl rfl rfl rfl) ?_
    rintro _ H2008x23 ⟨rfl, a8, m8⟩
    have nx_H2008x23 := a8.nx
    replace d := d.st a8 (fun k hk => ⟨by omega, trivial⟩)
    replace j := j.sA a8
    replace rk := rk.sA a8
    have o : NE k0 g2 := .a
    replace e := a8.s e o.ne
    have e6 : NE r9 g2 := .a
    replace w := a8.s w e6.ne
    replace l2 := a8.s l2
    replace q2 := a8.s q2
    have lt_at2008x23 := GHeap.ltg m8
    replace hin := b.mono d
    have mm2008x23 : MemN _ _ _ _ _ := ⟨rfl, Mem.of_get m8⟩
    refine .done ?_
    exact ⟨_, _, _, _, _, ⟨rfl, rfl, rfl, rfl, rfl, trivial⟩, j, by simp only [Cat.cells, ownP, List.length_replicate]; assumption, ⟨by assumption, by assumption, by assumption, by assumption, by omega, by omega, by omega, by omega, by omega, by omega, by omega, (h.st rk (.cons (h.lowNe (by omega)) (.nil _ _))).low (by omega), by first | exact h.lowNe (by omega) | exact h.ne (by omega), by first | exact h.lowNe (by omega) | exact h.ne (by omega), by first | exact h.lowNe (by omega) | exact h.ne (by omega)⟩⟩
   refine .c1 rfl rfl rfl rfl (.makeIN rfl sl_24_A ze_2_N by_2_N rfl rfl (by omega) (by omega) (by omega)) ?_
   rintro _ H9x16 ⟨g9x16, rfl, f7, ge9x16, l8⟩
   replace g := g.trans f7
   refine ⟨g, ?_⟩
   have nx_H9x16 := f7.1
   replace d := d.trans f7
   replace j := j.le f7
   replace rk := rk.le f7
   replace m := f7.2 _ _ m
   replace e := f7.2 _ _ e
   replace w := f7.2 _ _ w
   have lt_at9x16 := GHeap.ltg l8
   replace hin := b.mono d
   refine .c1 rfl rfl rfl rfl (.makeIN rfl sl_24_A ze_2_N by_2_N rfl rfl (by omega) (by omega) (by omega)) ?_
   rintro _ H7x16 ⟨g7x16, rfl, f2, ge7x16, q1⟩
   replace g := g.trans f2
   refine ⟨g, ?_⟩
   have nx_H7x16 := f2.1
   replace d := d.trans f2
   replace j := j.le f2
   replace rk := rk.le f2
   replace m := f2.2 _ _ m
   replace e := f2.2 _ _ e
   replace w := f2.2 _ _ w
   replace l8 := f2.2 _ _ l8
   have lt_at7x16 := GHeap.ltg q1
   replace hin := b.mono d
   refine .qB rfl g (.build bt_27_Hj rfl rfl rfl) ?_
   refine .r0 rfl rfl rfl (.fillA rfl sz_27_D rfl rfl rfl rfl) ?_
   rintro _ H2008x24 ⟨rfl, b0, n7⟩
   have nx_H2008x24 := b0.nx
   replace d := d.st b0 (fun k hk => ⟨by omega, trivial⟩)
   replace j := j.sA b0
   replace rk := rk.sA b0
   have o : NE k0 g2 := .a
   replace e := b0.s e o.ne
   have e6 : NE r9 g2 := .a
   replace w := b0.s w e6.ne
   replace l8 := b0.s l8
   replace q1 := b0.s q1
   have lt_at2008x24 := GHeap.ltg n7
   replace hin := b.mono d
   have mm2008x24 : MemN _ _ _ _ _ := ⟨rfl, Mem.of_get n7⟩
   refine .done ?_
   exact ⟨_, _, _, _, _, ⟨rfl, rfl, rfl, rfl, rfl, trivial⟩, j, by simp only [Cat.cells, ownP, List.length_replicate]; assumption, ⟨by assumption, by assumption, by assumption, by assumption, by omega, by omega, by omega, by omega, by omega, by omega, by omega, (h.st rk (.cons (h.lowNe (by omega)) (.nil _ _))).low (by omega), by first | exact h.lowNe (by omega) | exact h.ne (by omega), by first | exact h.lowNe (by omega) | exact h.ne (by omega), by first | exact h.lowNe (by omega) | exact h.ne (by omega)⟩⟩
  rintro fr902 H902 ⟨w1, w2, w3, w4, rr, s8, t4, t5, v8⟩
  have nx_H902 := t4.nx
  replace d := d.st t4 (fun k hk => ⟨by omega, trivial⟩)
  have lt_at902 := GHeap.ltg t5
  replace hin := b.mono d
  refine w5 _ _ ?_
  refine .forget s8 ?_
  refine .ret ?_
  refine v7 _ _ ?_
  refine ⟨_, _, _, _, rfl, ag_27_Hj, (by rfl), (Mem.of_get t5), ?_⟩
  exact ⟨⟨1, List.replicate T.length 0, List.replicate T.length 0, [0], T⟩, ⟨⟨rect_mk (by omega) (by simp; omega) (by simp) (.rep _ (by omega) (by omega)) (.rep _ (by omega) (by omega)) rfl (by unfold Bd; decide) (by simp) (by rw [List.length_replicate]; exact ht.mono (by omega) (by omega)), monoid_shp hn.1 ht⟩, rfl⟩, d, w1, w2, w3, w4, rr, rfl, v8.low (by omega)⟩
end Go.Proofs.Ytfanjkbaemhbmaa
