/- Preorders that are drawn. No condition but those of each statement. -/
import Derived.Test.YtfanjkbaemhbmaaZ9
namespace Go.Proofs.Ytfanjkbaemhbmaa
open Go Go.GL Go.RowKit Go.Proofs
set_option maxHeartbeats 8000000 in
theorem l02RelationG_c {gS n : Nat} {H : GHeap} (hs : DSrc 86 H gS := by assumption) (hn : n ≤ 8) :
    GCalls Try.prog 32 [.pointer (some ⟨gS, 0, none⟩), .int .i64 (n : Int)] H (NewRelG 86 gS n H) := by
  have hlS := hs.lt
  refine GCalls.body (N := 95) (rs := [.tmp 4]) Try.func32 rfl rfl rfl rfl (fun Qx d7 hend => ?_)
  refine .fg [0, 1] rfl ?_
  have d := St.refl [gS] H
  refine .seq (fun K1 k1 => .region (.mv rfl (.nil (k1 _ _ (.seq (fun K2 k7 => .region ?_))))))
  refine .R rfl (.litA rfl sl_25_B ze_24_Hj rfl rfl rfl rfl) ?_
  rintro _ _ ⟨l2, rfl, d1, _, e3⟩
  have _ := d1.1
  replace d := d.le d1
  have _ := GHeap.ltg e3
  refine .mv rfl (.nil (k7 _ _ (.seq (fun K3 k9 => .seq (fun K4 k5 => .region (.mv rfl (.nil (k5 _ _ (.block ?_)))))))))
  refine .loopF (σ := Nat × Nat × List (List Int) × (Nat → Option Addr)) [0, 1] (fun (i, gV, T, rr) => [(6, some (.int .i64 (i : Int))), (5, some (.slice (some ⟨gV, 0, none⟩) i i))]) (fun (i, gV, T, rr) H' => i ≤ n ∧ RelSt 86 2 24 H H' gS gV n i rr T ∧ Rfl T) (fun (i, gV, T, rr) => n - i) ((0, l2, [], fun _ => none)) rfl (.p rfl) ?_ ?_
  ·
   exact ⟨by omega, ⟨d, e3, by omega, .nil _ _ _ _, rfl, fun i hi => by simp at hi, hs.le d1⟩, .nil⟩
  rintro ⟨i, gV, T, rr⟩ HL1 hI _ h8
  dsimp only [cA, nA]
  obtain ⟨hi, hS, hRf⟩ := hI
  obtain ⟨d, a5, b5, hR, hlen, hrow, hs⟩ := id hS
  have rk := St.refl [gS] HL1
  have hfl : (slsL rr T).length = T.length := length_slsL _ _
  have h := GHeap.ltg a5
  refine .seq (fun K5 k6 => .seq (fun K6 k4 => .region (.mv rfl (.mv rfl (.q rfl (.cmp rfl rfl rfl) (.nil (k4 _ _ ?_)))))))
  refine .cond rfl ?_ ?_ <;> intro j9
  ·
   simp only [sps] at j9
   refine .skip (k6 _ _ (.seq (fun K7 l0 => .block (.seq (fun K8 k3 => .region (.mv rfl ?_))))))
   refine .R rfl (.makeI rfl sl_24_A ze_2_L by_2_L rfl rfl (by omega) (by omega) (by omega) (by omega)) ?_
   rintro _ _ ⟨e0, rfl, c4, _, d0⟩
   have _ := c4.1
   replace d := d.le c4
   replace hs := hs.le c4
   replace rk := rk.le c4
   replace a5 := c4.2 _ _ a5
   have _ := GHeap.ltg d0
   simp only [Int.toNat_natCast] at d0
   refine .mv rfl (.nil (k3 _ _ (.seq (fun K9 l4 => .region (.mv rfl (.mv rfl ?_))))))
   refine .q rfl (.idxN sl_24_A (by first | assumption | exact SlA.of_row d0 (by first | rfl | (simp; done) | (simp <;> omega))) rfl rfl (by omega)) ?_
   refine .r0 rfl rfl (.storeI rfl sz_2_N rfl rfl (by assumption) (by first | omega | (simp <;> omega))) ?_
   rintro _ _ ⟨rfl, v, a6⟩
   have _ := v.nx
   replace d := d.sA v
   replace hs := hs.sA v
   replace rk := rk.sA v
   have t : NE gV e0 := .a
   replace a5 := v.s a5 t.ne
   have _ := GHeap.ltg a6
   rw [Nat.zero_add] at a6
   refine .nil (l4 _ _ (.seq (fun K10 e9 => .seq (fun K11 g0 => .region (.mv rfl (.q rfl (.aD rfl rfl rfl) (.mv rfl (.nil (g0 _ _ (.block ?_))))))))))
   refine .loopF (σ := Nat × List Int) [0, 1, 5, 6, 7] (fun (j, row) => [(8, some (.int .i64 (j : Int)))]) (fun (j, row) H' => ((i < j ∧ j ≤ n ∧ row.length = n) ∧ row.getD i 0 = 1) ∧ RelSt 86 2 24 H H' gS gV n i rr T ∧ H'.get e0 = some (.row (ints row) 2 true) ∧ ∀ j, j < T.length → rr j ≠ some ⟨e0, 0, none⟩) (fun (j, row) => n - j) ((i + 1, (List.replicate n 0).set i 1)) rfl (.p rfl) ?_ ?_
   ·
    exact ⟨⟨⟨by omega, by omega, by simp⟩, by rw [getD_set1 (by simp; omega), if_pos rfl]⟩, ⟨d, a5, b5, hR.st rk (.cons (hR.lowNe hlS) (.nil _ _)), hlen, hrow, hs⟩, a6, hR.ne (by omega)⟩
   rintro ⟨j, row⟩ HL2 hI _ j3
   dsimp only [cA, nA]
   obtain ⟨⟨⟨_, _, hrl⟩, h1⟩, hS, a7, h7⟩ := hI
   obtain ⟨d, a5, b5, hR, hlen, hrow, hs⟩ := id hS
   have rk := St.refl [gS, e0, gV] HL2
   have hfl : (slsL rr T).length = T.length := length_slsL _ _
   have h := GHeap.ltg a5
   have _ := GHeap.ltg a7
   refine .seq (fun K12 g9 => .seq (fun K13 j5 => .region (.mv rfl (.mv rfl (.q rfl (.cmp rfl rfl rfl) (.nil (j5 _ _ ?_)))))))
   refine .cond rfl ?_ ?_ <;> intro j6
   ·
    try simp only [sps] at j6
    refine .skip (g9 _ _ (.seq (fun K14 i2 => .block (.region (.mv rfl (.mv rfl (.mv rfl ?_)))))))
    refine .call rfl rfl rfl rfl @Try.call30 rfl (l01Next_c) ?_
    rintro _ _ ⟨l1, rfl, _, _, _, c0, hs⟩
    have _ := c0.nx
    replace d := d.sA c0
    replace rk := rk.sA c0
    have r : NE gV gS := .a
    replace a5 := c0.s a5 r.ne
    replace a7 := c0.s a7
    refine .q rfl (.idxN sl_24_A (by first | assumption | exact SlA.of_row a7 (by first | rfl | (simp; done) | (simp <;> omega))) rfl rfl (by omega)) ?_
    refine .r0 rfl rfl (.storeI rfl sz_2_N rfl rfl (by assumption) (by first | omega | (simp <;> omega))) ?_
    rintro _ _ ⟨rfl, o, b1⟩
    have _ := o.nx
    replace d := d.sA o
    replace rk := rk.sA o
    replace hs := hs.sA o
    have t : NE gV e0 := .a
    replace a5 := o.s a5 t.ne
    have _ := GHeap.ltg b1
    rw [Nat.zero_add] at b1
    refine .nil (i2 _ _ (.region (.mv rfl (.q rfl (.aD rfl rfl rfl) (.mv rfl (.nil ?_))))))
    refine j3 ((j + 1, row.set j l1)) _ _ ?_ ?_ (.p rfl)
    ·
     exact ⟨⟨⟨by omega, by omega, by simp; omega⟩, by rw [getD_set1 (by omega), if_neg (by omega)]; exact h1⟩, ⟨d, a5, b5, hR.st rk (.cons (hR.lowNe hlS) (.cons h7 (.cons (hR.neT hS.a5 rfl) (.nil _ _)))), hlen, hrow, hs⟩, by assumption, h7⟩
    (dsimp only; omega)
   try simp only [sps] at j6
   refine .exit (e9 _ _ (.region (.mv rfl (.mv rfl ?_))))
   refine .R rfl (.litA rfl sl_25_B ze_24_Hj rfl rfl rfl rfl) ?_
   rintro _ _ ⟨_, rfl, b4, _, d3⟩
   have _ := b4.1
   replace d := d.le b4
   replace hs := hs.le b4
   replace rk := rk.le b4
   replace a5 := b4.2 _ _ a5
   replace a7 := b4.2 _ _ a7
   have _ := GHeap.ltg d3
   refine .R rfl (.appendV rfl sl_25_B ze_24_Hj rfl by_24_Hj sl_25_B rfl rfl (by assumption) (by assumption) (by first | omega | (simp <;> omega)) rfl rfl (by omega) (by omega)) ?_
   rintro _ _ ⟨k2, rfl, b2, _, g6⟩
   have _ := b2.nx
   replace d := d.sA b2
   replace hs := hs.sA b2
   replace rk := rk.sA b2
   replace a7 := b2.s a7
   replace d3 := b2.s d3
   have _ := GHeap.ltg g6
   refine .mv rfl (.nil (l0 _ _ (.region (.mv rfl (.q rfl (.aD rfl rfl rfl) (.mv rfl (.nil ?_)))))))
   refine h8 ((i + 1, k2, T ++ [row], upd rr T.length (some ⟨e0, 0, none⟩))) _ _ ?_ ?_ (.p rfl)
   ·
    exact ⟨by omega, ⟨d, by rw [slsL_snoc, hrl]; assumption, by omega, (hR.st rk (.cons (hR.lowNe hlS) (.cons h7 (.cons (hR.neT hS.a5 rfl) (.nil _ _))))).snoc2 a7 h7 (by omega), by simp; omega, rows_snoc hrow hrl, hs⟩, hRf.snoc (by rw [hlen]; exact h1)⟩
   (dsimp only; omega)
  try simp only [sps] at j9
  refine .exit (k9 _ _ (.seq (fun K15 d9 => .seq (fun K16 e2 => .region (.mv rfl (.q rfl (.cmp rfl rfl rfl) (.mv rfl ?_)))))))
  refine .split (fun e6 => ?_) (fun e6 => ?_)
  ·
   try simp only [sps] at e6
   refine .qg rfl (.move rfl) ?_
   refine .callg rfl rfl rfl rfl rfl rfl @Try.call30 rfl (l01Next_c) ?_
   rintro _ j8 ⟨_, rfl, _, _, _, c5, hs⟩
   have _ := c5.nx
   replace d := d.sA c5
   replace rk := rk.sA c5
   have r : NE gV gS := .a
   replace a5 := c5.s a5 r.ne
   refine .qg rfl (.cmp rfl rfl rfl) (.q rfl (.pickT rfl rfl) (.nil (e2 _ _ ?_)))
   refine .cond rfl ?_ ?_ <;> intro k0
   ·
    simp only [sps] at k0
    have k8 := hR.st rk (.cons (hR.lowNe hlS) (.nil _ _))
    obtain ⟨gi, hgi, hbi, hati⟩ := k8.row ((n : Int) - 1).toNat (by omega)
    have m3 := row_ne a5 hati rfl
    have hrw := hrow ((n : Int) - 1).toNat (by omega)
    refine .regionDB mo_B (.qs [0, 1, 2, 3, 4, 5, 6] (.c 7 1 (.q 8 (.c 9 0 (.done))))) (by kernel_rfl) (GHeap.le_erase j8 gS) ?_
    have c1 := GHeap.le_erase j8 gS
    have j7 := GHeap.get_erase_of (g := gS) a5 (by omega)
    have hatiB := GHeap.get_erase_of (g := gS) hati (by omega)
    have cC := slsL_cell j7 (i := ((n : Int) - 1).toNat) (by omega)
    rw [hgi] at cC
    refine .qB rfl c1 (.move rfl) (.qB rfl c1 (.move rfl) ?_)
    refine .qB rfl c1 (.sub rfl rfl rfl (by omega) (by omega)) ?_
    refine .qB rfl c1 (.idx1 sl_25_B (SlA.of_row j7 (by first | rfl | (simp; done) | (simp <;> omega))) rfl rfl (by omega) (by omega)) ?_
    refine .qB rfl c1 (.load on_24_B rfl cC) ?_
    have a2 := GHeap.ltg hati
    refine .qB rfl c1 (.move rfl) (.qB rfl c1 (.move rfl) ?_)
    refine .call1 rfl rfl rfl rfl rfl @Try.call30 rfl (l01Next_c) ?_
    rintro _ _ ⟨_, rfl, _, _, _, b3, hs⟩
    replace c1 := c1.erase_st b3
    refine ⟨c1, ?_⟩
    have _ := b3.nx
    replace d := d.sA b3
    replace rk := rk.sA b3
    replace a5 := b3.s a5 r.ne
    replace hati := b3.s hati
    refine .qB rfl c1 (.idx1 sl_24_A (SlA.of_row hatiB (by first | rfl | (simp; done) | (simp <;> omega))) rfl rfl (by omega) (by omega)) ?_
    have hSb := RelSt.mk d a5 b5 (hR.st rk (.cons (hR.lowNe hlS) (.nil _ _))) hlen hrow hs
    refine .r0 rfl rfl rfl (.storeI rfl sz_2_N rfl rfl (by assumption) (by first | omega | (simp <;> omega))) ?_
    rintro _ d4 ⟨rfl, m, a8⟩
    have _ := m.nx
    replace d := d.sA m
    replace hs := hs.sA m
    have b : NE gV gi := .a
    replace a5 := m.s a5 b.ne
    have _ := GHeap.ltg a8
    have b6 := hSb.set1 (by omega) hgi hbi m a8 (by rw [List.length_set]; exact hrw) m3 hlS
    obtain ⟨T1, u, b9⟩ : ∃ T1, RelSt 86 2 24 H d4 gS gV n i rr T1 ∧ Rfl T1 := ⟨_, b6, hRf.set (by omega) (by omega)⟩
    refine .done (d9 _ _ (.seq (fun K17 f9 => .seq (fun K18 g7 => .region (.mv rfl (.nil (g7 _ _ (.block ?_))))))))
    refine .loopF (σ := Nat × List (List Int)) [1, 5] (fun (x, T) => [(9, some (.int .i64 (x : Int)))]) (fun (x, T) H' => x ≤ n ∧ RelSt 86 2 24 H H' gS gV n i rr T ∧ Rfl T ∧ TrU n x T) (fun (x, T) => n - x) ((0, T1)) rfl (.p rfl) ?_ ?_
    ·
     exact ⟨by omega, u, b9, fun k hk => by omega⟩
    rintro ⟨x, T⟩ HL3 hI KL3 c2
    dsimp only [cA, nA]
    obtain ⟨hx, hS, hRf, hTr⟩ := hI
    obtain ⟨d, a5, b5, hR, hlen, hrow, hs⟩ := id hS
    have c8 := hlen
    have h := GHeap.ltg a5
    refine .seq (fun K19 i7 => .seq (fun K20 h5 => .region (.mv rfl (.mv rfl (.q rfl (.cmp rfl rfl rfl) (.nil (h5 _ _ ?_)))))))
    refine .cond rfl ?_ ?_ <;> intro c9
    ·
     simp only [sps] at c9
     refine .skip (i7 _ _ (.seq (fun K21 j4 => .block (.seq (fun K22 i5 => .region (.mv rfl (.nil (i5 _ _ (.block ?_)))))))))
     refine .loopF (σ := Nat × List (List Int)) [1, 5, 9] (fun (y, T4) => [(10, some (.int .i64 (y : Int)))]) (fun (y, T4) H' => y ≤ n ∧ RelSt 86 2 24 H H' gS gV n i rr T4 ∧ War n x y 0 T T4) (fun (y, T4) => n - y) ((0, T)) rfl (.p rfl) ?_ ?_
     ·
      exact ⟨by omega, hS, .start⟩
     rintro ⟨y, T4⟩ HL4 hI KL4 b7
     dsimp only [cA, nA]
     obtain ⟨hy, hS, hW⟩ := hI
     obtain ⟨d, a5, b5, hR, hlen, hrow, hs⟩ := id hS
     have h := GHeap.ltg a5
     refine .seq (fun K23 i0 => .seq (fun K24 g8 => .region (.mv rfl (.mv rfl (.q rfl (.cmp rfl rfl rfl) (.nil (g8 _ _ ?_)))))))
     refine .cond rfl ?_ ?_ <;> intro c6
     ·
      simp only [sps] at c6
      refine .skip (i0 _ _ (.seq (fun K25 g2 => .block (.seq (fun K26 h3 => .region (.mv rfl (.nil (h3 _ _ (.block ?_)))))))))
      refine .loopF (σ := Nat × List (List Int)) [1, 5, 9, 10] (fun (z, T5) => [(11, some (.int .i64 (z : Int)))]) (fun (z, T5) H' => z ≤ n ∧ RelSt 86 2 24 H H' gS gV n i rr T5 ∧ War n x y z T T5) (fun (z, T5) => n - z) ((0, T4)) rfl (.p rfl) ?_ ?_
      ·
       exact ⟨by omega, hS, hW⟩
      rintro ⟨z, T5⟩ HL5 hI KL5 w
      dsimp only [cA, nA]
      obtain ⟨hz, hS, hW⟩ := hI
      obtain ⟨d, a5, b5, hR, hlen, hrow, hs⟩ := id hS
      have h := GHeap.ltg a5
      refine .seq (fun K27 f4 => .seq (fun K28 f7 => .region (.mv rfl (.mv rfl (.q rfl (.cmp rfl rfl rfl) (.nil (f7 _ _ ?_)))))))
      refine .cond rfl ?_ ?_ <;> intro c7
      ·
       simp only [sps] at c7
       have iT := hR.intss a5 b5
       have u1 := iT.2 y (by omega)
       have u2 := iT.2 x (by omega)
       have w1 := hrow y (by omega)
       have w2 := hrow x (by omega)
       refine .skip (f4 _ _ (.seq (fun K29 d5 => .block (.seq (fun K30 e1 => .region (.mv rfl (.mv rfl ?_)))))))
       refine .q rfl (.idxN sl_25_B (by first | exact (Intss.sl (by assumption)) | exact SlA.of_row a5 (by first | rfl | (simp; done) | (simp <;> omega))) rfl rfl (by omega)) ?_
       refine .q rfl (.loadR on_24_B (by assumption) rfl (by omega)) ?_
       refine .mv rfl (.q rfl (.iN sl_24_A rfl rfl) (.q rfl (.lI on_2_A rfl) (.q rfl (.cmp rfl rfl rfl) (.mv rfl ?_))))
       refine .split (fun a3 => ?_) (fun a3 => ?_)
       ·
        simp only [sps] at a3
        refine .qg rfl (.move rfl) (.qg rfl (.move rfl) ?_)
        refine .qg rfl (.idxN sl_25_B (by first | exact (Intss.sl (by assumption)) | exact SlA.of_row a5 (by first | rfl | (simp; done) | (simp <;> omega))) rfl rfl (by omega)) ?_
        refine .qg rfl (.loadR on_24_B (by assumption) rfl (by omega)) ?_
        refine .qg rfl (.move rfl) (.qg rfl (.iN sl_24_A rfl rfl) (.qg rfl (.lI on_2_A rfl) (.qg rfl (.cmp rfl rfl rfl) (.q rfl (.pickT rfl rfl) (.nil (e1 _ _ ?_))))))
        refine .cond rfl ?_ ?_ <;> intro b0
        ·
         simp only [sps] at b0
         refine .region ?_
         obtain ⟨gi, hgi, hbi, hati⟩ := hR.row y (by omega)
         have m3 := row_ne a5 hati rfl
         have cC := slsL_cell a5 (i := y) (by omega)
         rw [hgi] at cC
         refine .mv rfl (.mv rfl ?_)
         refine .q rfl (.idxN sl_25_B (by first | exact (Intss.sl (by assumption)) | exact SlA.of_row a5 (by first | rfl | (simp; done) | (simp <;> omega))) rfl rfl (by omega)) ?_
         refine .q rfl (.load on_24_B rfl cC) ?_
         have a2 := GHeap.ltg hati
         refine .mv rfl ?_
         refine .q rfl (.idxN sl_24_A (by first | assumption | exact SlA.of_row hati (by first | rfl | (simp; done) | (simp <;> omega))) rfl rfl (by omega)) ?_
         refine .r0 rfl rfl (.storeI rfl sz_2_N rfl rfl (by assumption) (by first | omega | (simp <;> omega))) ?_
         rintro _ d6 ⟨rfl, l, a9⟩
         have _ := l.nx
         replace d := d.sA l
         replace hs := hs.sA l
         have b : NE gV gi := .a
         replace a5 := l.s a5 b.ne
         have _ := GHeap.ltg a9
         have b6 := hS.set1 (by omega) hgi hbi l a9 (by rw [List.length_set]; exact w1) m3 hlS
         rw [Nat.zero_add] at b6
         obtain ⟨T2, u, a4⟩ : ∃ T2, RelSt 86 2 24 H d6 gS gV n i rr T2 ∧ War n x y (z + 1) T T2 := ⟨_, b6, hW.put (by omega) (by omega) (by omega) (by omega) (by omega) a3 b0⟩
         refine .nil (d5 _ _ (.region (.mv rfl (.q rfl (.aD rfl rfl rfl) (.mv rfl (.nil ?_))))))
         refine w ((z + 1, T2)) _ _ ?_ ?_ (.p rfl)
         ·
          exact ⟨by omega, u, a4⟩
         (dsimp only; omega)
        simp only [sps] at b0
        obtain ⟨T2, u, a4⟩ : ∃ T2, RelSt 86 2 24 H HL5 gS gV n i rr T2 ∧ War n x y (z + 1) T T2 := ⟨T5, hS, hW.skip (by omega) (by omega) (by omega) fun hh => b0 hh.2⟩
        refine .skip (d5 _ _ (.region (.mv rfl (.q rfl (.aD rfl rfl rfl) (.mv rfl (.nil ?_))))))
        refine w ((z + 1, T2)) _ _ ?_ ?_ (.p rfl)
        ·
         exact ⟨by omega, u, a4⟩
        (dsimp only; omega)
       simp only [sps] at a3
       obtain ⟨T2, u, a4⟩ : ∃ T2, RelSt 86 2 24 H HL5 gS gV n i rr T2 ∧ War n x y (z + 1) T T2 := ⟨T5, hS, hW.skip (by omega) (by omega) (by omega) fun hh => a3 hh.1⟩
       refine .z rfl (.z rfl (.z rfl (.z rfl (.z rfl (.z rfl (.z rfl (.z rfl (.q rfl (.pickF rfl rfl) (.nil (e1 _ _ ?_))))))))))
       refine .condF rfl ?_
       refine .skip (d5 _ _ (.region (.mv rfl (.q rfl (.aD rfl rfl rfl) (.mv rfl (.nil ?_))))))
       refine w ((z + 1, T2)) _ _ ?_ ?_ (.p rfl)
       ·
        exact ⟨by omega, u, a4⟩
       (dsimp only; omega)
      try simp only [sps] at c7
      refine .exit (g2 _ _ (.region (.mv rfl (.q rfl (.aD rfl rfl rfl) (.mv rfl (.nil ?_))))))
      refine b7 ((y + 1, T5)) _ _ ?_ ?_ (.p rfl)
      ·
       exact ⟨by omega, hS, by
       obtain rfl : z = n := by omega
       exact hW.next⟩
      (dsimp only; omega)
     try simp only [sps] at c6
     refine .exit (j4 _ _ (.region (.mv rfl (.q rfl (.aD rfl rfl rfl) (.mv rfl (.nil ?_))))))
     refine c2 ((x + 1, T4)) _ _ ?_ ?_ (.p rfl)
     ·
      exact ⟨by omega, hS, hW.rfl' hRf (by omega) (by omega), by
      obtain rfl : y = n := by omega
      exact hW.done (by omega) hTr⟩
     (dsimp only; omega)
    try simp only [sps] at c9
    refine .exit (f9 _ _ (.seq (fun K31 i6 => .region (.mv rfl (.mv rfl (.nil (i6 _ _ (.ret (d7 _ _ (⟨_, rfl, ?_⟩))))))))))
    obtain rfl : x = n := by omega
    exact ⟨some ⟨gV, 0, none⟩, T, rr, by rw [hlen], hR.done a5 b5, by omega, fun k hk => by rw [hrow k hk]; omega, .of hTr hRf (by omega), d, hs⟩
   simp only [sps] at k0
   have b6 := RelSt.mk d a5 b5 (hR.st rk (.cons (hR.lowNe hlS) (.nil _ _))) hlen hrow hs
   obtain ⟨T1, l3, b9⟩ : ∃ T1, T1 = T ∧ Rfl T1 := ⟨T, rfl, hRf⟩
   have u := b6
   rw [← l3] at u
   refine .skip (d9 _ _ (.seq (fun K32 f5 => .seq (fun K33 f1 => .region (.mv rfl (.nil (f1 _ _ (.block ?_))))))))
   refine .loopF (σ := Nat × List (List Int)) [1, 5] (fun (x, T) => [(9, some (.int .i64 (x : Int)))]) (fun (x, T) H' => x ≤ n ∧ RelSt 86 2 24 H H' gS gV n i rr T ∧ Rfl T ∧ TrU n x T) (fun (x, T) => n - x) ((0, T1)) rfl (.p rfl) ?_ ?_
   ·
    exact ⟨by omega, u, b9, fun k hk => by omega⟩
   rintro ⟨x, T⟩ HL3 hI KL3 c2
   dsimp only [cA, nA]
   obtain ⟨hx, hS, hRf, hTr⟩ := hI
   obtain ⟨d, a5, b5, hR, hlen, hrow, hs⟩ := id hS
   have c8 := hlen
   have h := GHeap.ltg a5
   refine .seq (fun K34 i1 => .seq (fun K35 f0 => .region (.mv rfl (.mv rfl (.q rfl (.cmp rfl rfl rfl) (.nil (f0 _ _ ?_)))))))
   refine .cond rfl ?_ ?_ <;> intro c9
   ·
    simp only [sps] at c9
    refine .skip (i1 _ _ (.seq (fun K36 i3 => .block (.seq (fun K37 i9 => .region (.mv rfl (.nil (i9 _ _ (.block ?_)))))))))
    refine .loopF (σ := Nat × List (List Int)) [1, 5, 9] (fun (y, T4) => [(10, some (.int .i64 (y : Int)))]) (fun (y, T4) H' => y ≤ n ∧ RelSt 86 2 24 H H' gS gV n i rr T4 ∧ War n x y 0 T T4) (fun (y, T4) => n - y) ((0, T)) rfl (.p rfl) ?_ ?_
    ·
     exact ⟨by omega, hS, .start⟩
    rintro ⟨y, T4⟩ HL4 hI KL4 b7
    dsimp only [cA, nA]
    obtain ⟨hy, hS, hW⟩ := hI
    obtain ⟨d, a5, b5, hR, hlen, hrow, hs⟩ := id hS
    have h := GHeap.ltg a5
    refine .seq (fun K38 e7 => .seq (fun K39 h9 => .region (.mv rfl (.mv rfl (.q rfl (.cmp rfl rfl rfl) (.nil (h9 _ _ ?_)))))))
    refine .cond rfl ?_ ?_ <;> intro c6
    ·
     simp only [sps] at c6
     refine .skip (e7 _ _ (.seq (fun K40 g3 => .block (.seq (fun K41 f8 => .region (.mv rfl (.nil (f8 _ _ (.block ?_)))))))))
     refine .loopF (σ := Nat × List (List Int)) [1, 5, 9, 10] (fun (z, T5) => [(11, some (.int .i64 (z : Int)))]) (fun (z, T5) H' => z ≤ n ∧ RelSt 86 2 24 H H' gS gV n i rr T5 ∧ War n x y z T T5) (fun (z, T5) => n - z) ((0, T4)) rfl (.p rfl) ?_ ?_
     ·
      exact ⟨by omega, hS, hW⟩
     rintro ⟨z, T5⟩ HL5 hI KL5 w
     dsimp only [cA, nA]
     obtain ⟨hz, hS, hW⟩ := hI
     obtain ⟨d, a5, b5, hR, hlen, hrow, hs⟩ := id hS
     have h := GHeap.ltg a5
     refine .seq (fun K42 f6 => .seq (fun K43 h6 => .region (.mv rfl (.mv rfl (.q rfl (.cmp rfl rfl rfl) (.nil (h6 _ _ ?_)))))))
     refine .cond rfl ?_ ?_ <;> intro c7
     ·
      simp only [sps] at c7
      have iT := hR.intss a5 b5
      have u1 := iT.2 y (by omega)
      have u2 := iT.2 x (by omega)
      have w1 := hrow y (by omega)
      have w2 := hrow x (by omega)
      refine .skip (f6 _ _ (.seq (fun K44 d8 => .block (.seq (fun K45 e4 => .region (.mv rfl (.mv rfl ?_)))))))
      refine .q rfl (.idxN sl_25_B (by first | exact (Intss.sl (by assumption)) | exact SlA.of_row a5 (by first | rfl | (simp; done) | (simp <;> omega))) rfl rfl (by omega)) ?_
      refine .q rfl (.loadR on_24_B (by assumption) rfl (by omega)) ?_
      refine .mv rfl (.q rfl (.iN sl_24_A rfl rfl) (.q rfl (.lI on_2_A rfl) (.q rfl (.cmp rfl rfl rfl) (.mv rfl ?_))))
      refine .split (fun a3 => ?_) (fun a3 => ?_)
      ·
       simp only [sps] at a3
       refine .qg rfl (.move rfl) (.qg rfl (.move rfl) ?_)
       refine .qg rfl (.idxN sl_25_B (by first | exact (Intss.sl (by assumption)) | exact SlA.of_row a5 (by first | rfl | (simp; done) | (simp <;> omega))) rfl rfl (by omega)) ?_
       refine .qg rfl (.loadR on_24_B (by assumption) rfl (by omega)) ?_
       refine .qg rfl (.move rfl) (.qg rfl (.iN sl_24_A rfl rfl) (.qg rfl (.lI on_2_A rfl) (.qg rfl (.cmp rfl rfl rfl) (.q rfl (.pickT rfl rfl) (.nil (e4 _ _ ?_))))))
       refine .cond rfl ?_ ?_ <;> intro b0
       ·
        simp only [sps] at b0
        refine .region ?_
        obtain ⟨gi, hgi, hbi, hati⟩ := hR.row y (by omega)
        have m3 := row_ne a5 hati rfl
        have cC := slsL_cell a5 (i := y) (by omega)
        rw [hgi] at cC
        refine .mv rfl (.mv rfl ?_)
        refine .q rfl (.idxN sl_25_B (by first | exact (Intss.sl (by assumption)) | exact SlA.of_row a5 (by first | rfl | (simp; done) | (simp <;> omega))) rfl rfl (by omega)) ?_
        refine .q rfl (.load on_24_B rfl cC) ?_
        have a2 := GHeap.ltg hati
        refine .mv rfl ?_
        refine .q rfl (.idxN sl_24_A (by first | assumption | exact SlA.of_row hati (by first | rfl | (simp; done) | (simp <;> omega))) rfl rfl (by omega)) ?_
        refine .r0 rfl rfl (.storeI rfl sz_2_N rfl rfl (by assumption) (by first | omega | (simp <;> omega))) ?_
        rintro _ c3 ⟨rfl, e, a1⟩
        have _ := e.nx
        replace d := d.sA e
        replace hs := hs.sA e
        have b : NE gV gi := .a
        replace a5 := e.s a5 b.ne
        have _ := GHeap.ltg a1
        have b6 := hS.set1 (by omega) hgi hbi e a1 (by rw [List.length_set]; exact w1) m3 hlS
        rw [Nat.zero_add] at b6
        obtain ⟨T2, u, a4⟩ : ∃ T2, RelSt 86 2 24 H c3 gS gV n i rr T2 ∧ War n x y (z + 1) T T2 := ⟨_, b6, hW.put (by omega) (by omega) (by omega) (by omega) (by omega) a3 b0⟩
        refine .nil (d8 _ _ (.region (.mv rfl (.q rfl (.aD rfl rfl rfl) (.mv rfl (.nil ?_))))))
        refine w ((z + 1, T2)) _ _ ?_ ?_ (.p rfl)
        ·
         exact ⟨by omega, u, a4⟩
        (dsimp only; omega)
       simp only [sps] at b0
       obtain ⟨T2, u, a4⟩ : ∃ T2, RelSt 86 2 24 H HL5 gS gV n i rr T2 ∧ War n x y (z + 1) T T2 := ⟨T5, hS, hW.skip (by omega) (by omega) (by omega) fun hh => b0 hh.2⟩
       refine .skip (d8 _ _ (.region (.mv rfl (.q rfl (.aD rfl rfl rfl) (.mv rfl (.nil ?_))))))
       refine w ((z + 1, T2)) _ _ ?_ ?_ (.p rfl)
       ·
        exact ⟨by omega, u, a4⟩
       (dsimp only; omega)
      simp only [sps] at a3
      obtain ⟨T2, u, a4⟩ : ∃ T2, RelSt 86 2 24 H HL5 gS gV n i rr T2 ∧ War n x y (z + 1) T T2 := ⟨T5, hS, hW.skip (by omega) (by omega) (by omega) fun hh => a3 hh.1⟩
      refine .z rfl (.z rfl (.z rfl (.z rfl (.z rfl (.z rfl (.z rfl (.z rfl (.q rfl (.pickF rfl rfl) (.nil (e4 _ _ ?_))))))))))
      refine .condF rfl ?_
      refine .skip (d8 _ _ (.region (.mv rfl (.q rfl (.aD rfl rfl rfl) (.mv rfl (.nil ?_))))))
      refine w ((z + 1, T2)) _ _ ?_ ?_ (.p rfl)
      ·
       exact ⟨by omega, u, a4⟩
      (dsimp only; omega)
     try simp only [sps] at c7
     refine .exit (g3 _ _ (.region (.mv rfl (.q rfl (.aD rfl rfl rfl) (.mv rfl (.nil ?_))))))
     refine b7 ((y + 1, T5)) _ _ ?_ ?_ (.p rfl)
     ·
      exact ⟨by omega, hS, by
      obtain rfl : z = n := by omega
      exact hW.next⟩
     (dsimp only; omega)
    try simp only [sps] at c6
    refine .exit (i3 _ _ (.region (.mv rfl (.q rfl (.aD rfl rfl rfl) (.mv rfl (.nil ?_))))))
    refine c2 ((x + 1, T4)) _ _ ?_ ?_ (.p rfl)
    ·
     exact ⟨by omega, hS, hW.rfl' hRf (by omega) (by omega), by
     obtain rfl : y = n := by omega
     exact hW.done (by omega) hTr⟩
    (dsimp only; omega)
   try simp only [sps] at c9
   refine .exit (f5 _ _ (.seq (fun K46 e8 => .region (.mv rfl (.mv rfl (.nil (e8 _ _ (.ret (d7 _ _ (⟨_, rfl, ?_⟩))))))))))
   obtain rfl : x = n := by omega
   exact ⟨some ⟨gV, 0, none⟩, T, rr, by rw [hlen], hR.done a5 b5, by omega, fun k hk => by rw [hrow k hk]; omega, .of hTr hRf (by omega), d, hs⟩
  simp only [sps] at e6
  obtain ⟨T1, u, b9⟩ : ∃ T1, RelSt 86 2 24 H HL1 gS gV n i rr T1 ∧ Rfl T1 := ⟨T, hS, hRf⟩
  refine .z rfl (.z rfl (.z rfl (.q rfl (.pickF rfl rfl) (.nil (e2 _ _ ?_)))))
  refine .condF rfl ?_
  refine .skip (d9 _ _ (.seq (fun K47 f3 => .seq (fun K48 g5 => .region (.mv rfl (.nil (g5 _ _ (.block ?_))))))))
  refine .loopF (σ := Nat × List (List Int)) [1, 5] (fun (x, T) => [(9, some (.int .i64 (x : Int)))]) (fun (x, T) H' => x ≤ n ∧ RelSt 86 2 24 H H' gS gV n i rr T ∧ Rfl T ∧ TrU n x T) (fun (x, T) => n - x) ((0, T1)) rfl (.p rfl) ?_ ?_
  ·
   exact ⟨by omega, u, b9, fun k hk => by omega⟩
  rintro ⟨x, T⟩ HL3 hI KL3 c2
  dsimp only [cA, nA]
  obtain ⟨hx, hS, hRf, hTr⟩ := hI
  obtain ⟨d, a5, b5, hR, hlen, hrow, hs⟩ := id hS
  have c8 := hlen
  have h := GHeap.ltg a5
  refine .seq (fun K49 g1 => .seq (fun K50 g4 => .region (.mv rfl (.mv rfl (.q rfl (.cmp rfl rfl rfl) (.nil (g4 _ _ ?_)))))))
  refine .cond rfl ?_ ?_ <;> intro c9
  ·
   simp only [sps] at c9
   refine .skip (g1 _ _ (.seq (fun K51 i4 => .block (.seq (fun K52 j1 => .region (.mv rfl (.nil (j1 _ _ (.block ?_)))))))))
   refine .loopF (σ := Nat × List (List Int)) [1, 5, 9] (fun (y, T4) => [(10, some (.int .i64 (y : Int)))]) (fun (y, T4) H' => y ≤ n ∧ RelSt 86 2 24 H H' gS gV n i rr T4 ∧ War n x y 0 T T4) (fun (y, T4) => n - y) ((0, T)) rfl (.p rfl) ?_ ?_
   ·
    exact ⟨by omega, hS, .start⟩
   rintro ⟨y, T4⟩ HL4 hI KL4 b7
   dsimp only [cA, nA]
   obtain ⟨hy, hS, hW⟩ := hI
   obtain ⟨d, a5, b5, hR, hlen, hrow, hs⟩ := id hS
   have h := GHeap.ltg a5
   refine .seq (fun K53 h4 => .seq (fun K54 h0 => .region (.mv rfl (.mv rfl (.q rfl (.cmp rfl rfl rfl) (.nil (h0 _ _ ?_)))))))
   refine .cond rfl ?_ ?_ <;> intro c6
   ·
    simp only [sps] at c6
    refine .skip (h4 _ _ (.seq (fun K55 h2 => .block (.seq (fun K56 j0 => .region (.mv rfl (.nil (j0 _ _ (.block ?_)))))))))
    refine .loopF (σ := Nat × List (List Int)) [1, 5, 9, 10] (fun (z, T5) => [(11, some (.int .i64 (z : Int)))]) (fun (z, T5) H' => z ≤ n ∧ RelSt 86 2 24 H H' gS gV n i rr T5 ∧ War n x y z T T5) (fun (z, T5) => n - z) ((0, T4)) rfl (.p rfl) ?_ ?_
    ·
     exact ⟨by omega, hS, hW⟩
    rintro ⟨z, T5⟩ HL5 hI KL5 w
    dsimp only [cA, nA]
    obtain ⟨hz, hS, hW⟩ := hI
    obtain ⟨d, a5, b5, hR, hlen, hrow, hs⟩ := id hS
    have h := GHeap.ltg a5
    refine .seq (fun K57 i8 => .seq (fun K58 f2 => .region (.mv rfl (.mv rfl (.q rfl (.cmp rfl rfl rfl) (.nil (f2 _ _ ?_)))))))
    refine .cond rfl ?_ ?_ <;> intro c7
    ·
     simp only [sps] at c7
     have iT := hR.intss a5 b5
     have u1 := iT.2 y (by omega)
     have u2 := iT.2 x (by omega)
     have w1 := hrow y (by omega)
     have w2 := hrow x (by omega)
     refine .skip (i8 _ _ (.seq (fun K59 d2 => .block (.seq (fun K60 e5 => .region (.mv rfl (.mv rfl ?_)))))))
     refine .q rfl (.idxN sl_25_B (by first | exact (Intss.sl (by assumption)) | exact SlA.of_row a5 (by first | rfl | (simp; done) | (simp <;> omega))) rfl rfl (by omega)) ?_
     refine .q rfl (.loadR on_24_B (by assumption) rfl (by omega)) ?_
     refine .mv rfl (.q rfl (.iN sl_24_A rfl rfl) (.q rfl (.lI on_2_A rfl) (.q rfl (.cmp rfl rfl rfl) (.mv rfl ?_))))
     refine .split (fun a3 => ?_) (fun a3 => ?_)
     ·
      simp only [sps] at a3
      refine .qg rfl (.move rfl) (.qg rfl (.move rfl) ?_)
      refine .qg rfl (.idxN sl_25_B (by first | exact (Intss.sl (by assumption)) | exact SlA.of_row a5 (by first | rfl | (simp; done) | (simp <;> omega))) rfl rfl (by omega)) ?_
      refine .qg rfl (.loadR on_24_B (by assumption) rfl (by omega)) ?_
      refine .qg rfl (.move rfl) (.qg rfl (.iN sl_24_A rfl rfl) (.qg rfl (.lI on_2_A rfl) (.qg rfl (.cmp rfl rfl rfl) (.q rfl (.pickT rfl rfl) (.nil (e5 _ _ ?_))))))
      refine .cond rfl ?_ ?_ <;> intro b0
      ·
       simp only [sps] at b0
       refine .region ?_
       obtain ⟨gi, hgi, hbi, hati⟩ := hR.row y (by omega)
       have m3 := row_ne a5 hati rfl
       have cC := slsL_cell a5 (i := y) (by omega)
       rw [hgi] at cC
       refine .mv rfl (.mv rfl ?_)
       refine .q rfl (.idxN sl_25_B (by first | exact (Intss.sl (by assumption)) | exact SlA.of_row a5 (by first | rfl | (simp; done) | (simp <;> omega))) rfl rfl (by omega)) ?_
       refine .q rfl (.load on_24_B rfl cC) ?_
       have a2 := GHeap.ltg hati
       refine .mv rfl ?_
       refine .q rfl (.idxN sl_24_A (by first | assumption | exact SlA.of_row hati (by first | rfl | (simp; done) | (simp <;> omega))) rfl rfl (by omega)) ?_
       refine .r0 rfl rfl (.storeI rfl sz_2_N rfl rfl (by assumption) (by first | omega | (simp <;> omega))) ?_
       rintro _ b8 ⟨rfl, f, a0⟩
       have _ := f.nx
       replace d := d.sA f
       replace hs := hs.sA f
       have b : NE gV gi := .a
       replace a5 := f.s a5 b.ne
       have _ := GHeap.ltg a0
       have b6 := hS.set1 (by omega) hgi hbi f a0 (by rw [List.length_set]; exact w1) m3 hlS
       rw [Nat.zero_add] at b6
       obtain ⟨T2, u, a4⟩ : ∃ T2, RelSt 86 2 24 H b8 gS gV n i rr T2 ∧ War n x y (z + 1) T T2 := ⟨_, b6, hW.put (by omega) (by omega) (by omega) (by omega) (by omega) a3 b0⟩
       refine .nil (d2 _ _ (.region (.mv rfl (.q rfl (.aD rfl rfl rfl) (.mv rfl (.nil ?_))))))
       refine w ((z + 1, T2)) _ _ ?_ ?_ (.p rfl)
       ·
        exact ⟨by omega, u, a4⟩
       (dsimp only; omega)
      simp only [sps] at b0
      obtain ⟨T2, u, a4⟩ : ∃ T2, RelSt 86 2 24 H HL5 gS gV n i rr T2 ∧ War n x y (z + 1) T T2 := ⟨T5, hS, hW.skip (by omega) (by omega) (by omega) fun hh => b0 hh.2⟩
      refine .skip (d2 _ _ (.region (.mv rfl (.q rfl (.aD rfl rfl rfl) (.mv rfl (.nil ?_))))))
      refine w ((z + 1, T2)) _ _ ?_ ?_ (.p rfl)
      ·
       exact ⟨by omega, u, a4⟩
      (dsimp only; omega)
     simp only [sps] at a3
     obtain ⟨T2, u, a4⟩ : ∃ T2, RelSt 86 2 24 H HL5 gS gV n i rr T2 ∧ War n x y (z + 1) T T2 := ⟨T5, hS, hW.skip (by omega) (by omega) (by omega) fun hh => a3 hh.1⟩
     refine .z rfl (.z rfl (.z rfl (.z rfl (.z rfl (.z rfl (.z rfl (.z rfl (.q rfl (.pickF rfl rfl) (.nil (e5 _ _ ?_))))))))))
     refine .condF rfl ?_
     refine .skip (d2 _ _ (.region (.mv rfl (.q rfl (.aD rfl rfl rfl) (.mv rfl (.nil ?_))))))
     refine w ((z + 1, T2)) _ _ ?_ ?_ (.p rfl)
     ·
      exact ⟨by omega, u, a4⟩
     (dsimp only; omega)
    try simp only [sps] at c7
    refine .exit (h2 _ _ (.region (.mv rfl (.q rfl (.aD rfl rfl rfl) (.mv rfl (.nil ?_))))))
    refine b7 ((y + 1, T5)) _ _ ?_ ?_ (.p rfl)
    ·
     exact ⟨by omega, hS, by
     obtain rfl : z = n := by omega
     exact hW.next⟩
    (dsimp only; omega)
   try simp only [sps] at c6
   refine .exit (i4 _ _ (.region (.mv rfl (.q rfl (.aD rfl rfl rfl) (.mv rfl (.nil ?_))))))
   refine c2 ((x + 1, T4)) _ _ ?_ ?_ (.p rfl)
   ·
    exact ⟨by omega, hS, hW.rfl' hRf (by omega) (by omega), by
    obtain rfl : y = n := by omega
    exact hW.done (by omega) hTr⟩
   (dsimp only; omega)
  try simp only [sps] at c9
  refine .exit (f3 _ _ (.seq (fun K61 j2 => .region (.mv rfl (.mv rfl (.nil (j2 _ _ (.ret (d7 _ _ (⟨_, rfl, ?_⟩))))))))))
  obtain rfl : x = n := by omega
  exact ⟨some ⟨gV, 0, none⟩, T, rr, by rw [hlen], hR.done a5 b5, by omega, fun k hk => by rw [hrow k hk]; omega, .of hTr hRf (by omega), d, hs⟩
end Go.Proofs.Ytfanjkbaemhbmaa
namespace Go.Proofs.Ytfanjkbaemhbmaa
open Go Go.GL Go.RowKit Go.Proofs
set_option maxHeartbeats 8000000 in
theorem l03JoinG_c {c d : Cat} {p q : CatP} {H : GHeap} (hin : c.In H p := by assumption) (hin1 : d.In H q := by assumption) (gc : c.Good 4) (gd : d.Good 8) (oc : c.obj = 1) (od : d.obj = 1) :
    GCalls Try.prog 126 [.agg (c.cells p).toArray, .agg (d.cells q).toArray] H (NewGd 2 24 128 2 H) := by
  have hc := gc.r
  have hd := gd.r
  have _ := hd.obj
  obtain ⟨E, hEq, hE⟩ : ∃ E, c.sum d = E ∧ E.Rect 12 := ⟨_, rfl, hc.sum hd⟩
  have _ : E.obj = c.obj + d.obj := by rw [← hEq]; rfl
  obtain ⟨-, _, _, e4, e5, e6, e7, _, e9, u5⟩ := id hE
  refine GCalls.body (N := 122) (rs := [.cell 4 27]) Try.func126 rfl rfl rfl rfl (fun Qx q0 hend => ?_)
  refine .fg [0, 1] rfl ?_
  have l := GHeap.Le.refl H
  have i := hin
  have h := hin1
  refine .seq (fun K1 t3 => .region ?_)
  refine .R rfl (.boxR rfl sz_27_D rfl) ?_
  rintro _ _ ⟨g2, rfl, t6, _, o⟩
  replace l := l.trans t6
  have _ := GHeap.ltg o
  replace hin := i.mono l
  have a6 : Cat.At _ g2 0 c p := ⟨Mem.of_get o, hin⟩
  refine .R rfl (.boxR rfl sz_27_D rfl) ?_
  rintro _ _ ⟨g3, rfl, s0, _, t⟩
  replace l := l.trans s0
  replace o := s0.2 _ _ o
  have _ := GHeap.ltg t
  replace hin := i.mono l
  replace hin1 := h.mono l
  clear a6
  have a6 : Cat.At _ g2 0 c p := ⟨Mem.of_get o, hin⟩
  have a7 : Cat.At _ g3 0 d q := ⟨Mem.of_get t, hin1⟩
  refine .R rfl (.allocR rfl ze_27_I rfl) ?_
  rintro _ _ ⟨g4, rfl, m9, _, i4⟩
  have _ := m9.1
  replace l := l.trans m9
  replace o := m9.2 _ _ o
  replace t := m9.2 _ _ t
  have _ := GHeap.ltg i4
  replace hin := i.mono l
  replace hin1 := h.mono l
  clear a6
  have a6 : Cat.At _ g2 0 c p := ⟨Mem.of_get o, hin⟩
  have t0 := a6.2
  clear a7
  have a7 : Cat.At _ g3 0 d q := ⟨Mem.of_get t, hin1⟩
  have t4 := a7.2
  refine .nil (t3 _ _ (.seq (fun K2 u0 => .region ?_)))
  refine .q rfl (.loadM ag_27_D rfl ⟨rfl, Mem.of_get o⟩) ?_
  refine .q rfl (.loadM ag_27_D rfl ⟨rfl, Mem.of_get t⟩) ?_
  refine .call rfl rfl rfl rfl @Try.call103 rfl (l03Sum_c (hc := hc.mono (by omega : 4 ≤ 8)) (hd := hd) (hN := by omega)) ?_
  rintro _ u9 hv
  rw [hEq] at hv
  obtain ⟨j9, gF, gT, gI, gC, rr, rfl, i7⟩ := hv
  have aF := i7.a1
  have aT := i7.a2
  have aI := i7.a3
  have aC := i7.a4
  have _ := i7.b1
  have _ := i7.b2
  have _ := i7.b3
  have _ := i7.b4
  have n12 := i7.n12
  have n13 := i7.n13
  have n23 := i7.n23
  have _ := row_ne aC aF rfl
  have _ := row_ne aC aT rfl
  have _ := row_ne aC aI rfl
  have m3 := St.refl [gF] u9
  replace l := l.trans j9
  replace o := j9.2 _ _ o
  replace t := j9.2 _ _ t
  replace i4 := j9.2 _ _ i4
  have _ := GHeap.ltg aF
  have _ := GHeap.ltg aT
  have _ := GHeap.ltg aI
  have _ := GHeap.ltg aC
  replace hin := i.mono l
  replace hin1 := h.mono l
  clear a6 t0
  have a6 : Cat.At _ g2 0 c p := ⟨Mem.of_get o, hin⟩
  clear a7 t4
  have a7 : Cat.At _ g3 0 d q := ⟨Mem.of_get t, hin1⟩
  refine .R rfl (.allocR rfl ze_27_I rfl) ?_
  rintro _ _ ⟨g5, rfl, j6, _, _⟩
  have _ := j6.1
  replace l := l.trans j6
  replace m3 := m3.le j6
  replace o := j6.2 _ _ o
  replace t := j6.2 _ _ t
  replace i4 := j6.2 _ _ i4
  replace aF := j6.2 _ _ aF
  replace aT := j6.2 _ _ aT
  replace aI := j6.2 _ _ aI
  replace aC := j6.2 _ _ aC
  replace hin := i.mono l
  replace hin1 := h.mono l
  clear a6
  have a6 : Cat.At _ g2 0 c p := ⟨Mem.of_get o, hin⟩
  clear a7
  have a7 : Cat.At _ g3 0 d q := ⟨Mem.of_get t, hin1⟩
  refine .r0 rfl rfl (.fillA rfl sz_27_D rfl rfl rfl rfl) ?_
  rintro _ j4 ⟨rfl, b6, k8⟩
  have _ := b6.nx
  replace l := l.st b6 (fun k hk => ⟨by omega, trivial⟩)
  replace m3 := m3.sA b6
  have c1 : NE g2 g5 := .a
  replace o := b6.s o c1.ne
  have c0 : NE g3 g5 := .a
  replace t := b6.s t c0.ne
  have f0 : NE g4 g5 := .a
  replace i4 := b6.s i4 f0.ne
  replace aF := b6.s aF
  replace aT := b6.s aT
  have d8 : NE gI g5 := .a
  replace aI := b6.s aI d8.ne
  have i3 : NE gC g5 := .a
  replace aC := b6.s aC i3.ne
  replace hin := i.mono l
  replace hin1 := h.mono l
  clear a6
  have a6 : Cat.At _ g2 0 c p := ⟨Mem.of_get o, hin⟩
  clear a7
  have a7 : Cat.At _ g3 0 d q := ⟨Mem.of_get t, hin1⟩
  refine .nil (u0 _ _ (.seq (fun K3 u3 => .region (.q rfl (.fieldAddr fo_27_1_B rfl) ?_))))
  refine .q rfl (.load on_24_B rfl (by first | assumption | exact Mem.of_get k8 1 _ rfl)) ?_
  refine .q rfl (.len sl_24_A rfl) (.mv rfl (.nil (u3 _ _ (.seq (fun K4 t9 => .seq (fun K5 u8 => .region (.mv rfl (.nil (u8 _ _ (.block ?_))))))))))
  refine .loopF (σ := Nat × List Int × List Int × Nat × Nat) [2, 3, 4, 5, 6] (fun (x, ss, ts, gLF, gLT) => [(7, some (.int .i64 (x : Int)))]) (fun (x, ss, ts, gLF, gLT) H' => St [gF, gT, g5] j4 H' ∧ H'.get gLF = some (.row (ints ss) 2 true) ∧ PL gLF gF j4.next ∧ H'.get gLT = some (.row (ints ts) 2 true) ∧ PL gLT gT j4.next ∧ H'.get g5 = some (.row ([.int .i64 E.obj, .slice (some ⟨gLF, 0, none⟩) ss.length ss.length, .slice (some ⟨gLT, 0, none⟩) ts.length ts.length, .slice (some ⟨gI, 0, none⟩) E.idn.length E.idn.length, .slice (some ⟨gC, 0, none⟩) E.comp.length E.comp.length]) 27 true) ∧ gLF ≠ gLT ∧ gLF ≠ g5 ∧ gLT ≠ g5 ∧ ((x : Int) ≤ c.obj ∧ E.src.length ≤ ss.length ∧ ss.length ≤ 12 + 8 * x ∧ ts.length = ss.length) ∧ (ss = (if x = 0 then E.src else E.src ++ [0]) ∧ ts = (if x = 0 then E.tgt else E.tgt ++ [1])) ∧ Bd 0 12 ss ∧ Bd 0 12 ts ∧ OwnL H.next H' 2 rr E.comp ∧ (∀ j, j < E.comp.length → rr j ≠ some ⟨gLF, 0, none⟩) ∧ ∀ j, j < E.comp.length → rr j ≠ some ⟨gLT, 0, none⟩) (fun (x, ss, ts, gLF, gLT) => (c.obj - x : Int).toNat) ((0, E.src, E.tgt, gF, gT)) rfl (.p rfl) ?_ ?_
  ·
   refine ⟨.refl _ _, by assumption, ⟨.inl rfl⟩, by assumption, ⟨.inl rfl⟩, by assumption, by omega, by omega, by omega, ?_⟩
   exact ⟨⟨by omega, by omega, by omega, by omega⟩, ⟨rfl, rfl⟩, e4, e5, (i7.rows.st m3 (.cons i7.r1 (.nil _ _))).low (by omega), i7.r1, i7.r2⟩
  rintro ⟨x, ss, ts, gLF, gLT⟩ HL1 ⟨f3, a0, e1, a5, d9, m, _, m4, m7, hI⟩ _ p7
  dsimp only [cA, nA]
  have _ : H.next ≤ gLF := e1.ge (by omega) (by omega)
  have _ : H.next ≤ gLT := d9.ge (by omega) (by omega)
  have _ := f3.nx
  replace l := l.st f3 (fun k hk => ⟨by omega, by omega, by omega, trivial⟩)
  have i1 : NE g2 gF := .a
  have i2 : NE g2 gT := .a
  replace o := f3.same _ _ ⟨i1.ne, i2.ne, c1.ne, trivial⟩ o
  have h9 : NE g3 gF := .a
  have h7 : NE g3 gT := .a
  replace t := f3.same _ _ ⟨h9.ne, h7.ne, c0.ne, trivial⟩ t
  have h8 : NE g4 gF := .a
  have h2 : NE g4 gT := .a
  replace i4 := f3.same _ _ ⟨h8.ne, h2.ne, f0.ne, trivial⟩ i4
  replace aI := f3.same _ _ ⟨(by first | assumption | omega), (by first | assumption | omega), d8.ne, trivial⟩ aI
  replace aC := f3.same _ _ ⟨(by first | assumption | omega), (by first | assumption | omega), i3.ne, trivial⟩ aC
  have _ := GHeap.ltg a0
  have _ := GHeap.ltg a5
  have j0 := GHeap.ltg m
  replace hin := i.mono l
  replace hin1 := h.mono l
  clear a6
  have a6 : Cat.At _ g2 0 c p := ⟨Mem.of_get o, hin⟩
  obtain ⟨l7, -, -, -, -, -, -, -, -⟩ := a6.get
  clear a7
  have a7 : Cat.At _ g3 0 d q := ⟨Mem.of_get t, hin1⟩
  obtain ⟨⟨_, hsm, u2, hts⟩, ⟨r9, s4⟩, hS, hT, hR, n7, n0⟩ := hI
  refine .seq (fun K6 t8 => .seq (fun K7 u4 => .region (.mv rfl (.q rfl (.fieldAddr fo_27_0_B rfl) ?_))))
  refine .q rfl (.load on_2_A rfl (by first | assumption | exact Mem.of_get o 0 _ rfl)) ?_
  refine .q rfl (.cmp rfl rfl rfl) (.nil (u4 _ _ ?_))
  refine .cond rfl ?_ ?_ <;> intro s1
  ·
   simp only [sps] at s1
   refine .skip (t8 _ _ (.seq (fun K8 t5 => .block (.seq (fun K9 u7 => .region (.mv rfl (.nil (u7 _ _ (.block ?_)))))))))
   refine .loopF (σ := Nat × List Int × List Int × Nat × Nat) [2, 3, 4, 5, 6, 7] (fun (y, s2, t2, d4, d3) => [(8, some (.int .i64 (y : Int)))]) (fun (y, s2, t2, d4, d3) H' => St [gLF, gLT, g5] HL1 H' ∧ H'.get d4 = some (.row (ints s2) 2 true) ∧ PL d4 gLF HL1.next ∧ H'.get d3 = some (.row (ints t2) 2 true) ∧ PL d3 gLT HL1.next ∧ H'.get g5 = some (.row ([.int .i64 E.obj, .slice (some ⟨d4, 0, none⟩) s2.length s2.length, .slice (some ⟨d3, 0, none⟩) t2.length t2.length, .slice (some ⟨gI, 0, none⟩) E.idn.length E.idn.length, .slice (some ⟨gC, 0, none⟩) E.comp.length E.comp.length]) 27 true) ∧ d4 ≠ d3 ∧ d4 ≠ g5 ∧ d3 ≠ g5 ∧ ((y : Int) ≤ d.obj ∧ E.src.length ≤ s2.length ∧ s2.length ≤ 12 + 8 * x + y ∧ t2.length = s2.length) ∧ (s2 = (if y = 0 then E.src else E.src ++ [0]) ∧ t2 = (if y = 0 then E.tgt else E.tgt ++ [1])) ∧ Bd 0 12 s2 ∧ Bd 0 12 t2 ∧ OwnL H.next H' 2 rr E.comp ∧ (∀ j, j < E.comp.length → rr j ≠ some ⟨d4, 0, none⟩) ∧ ∀ j, j < E.comp.length → rr j ≠ some ⟨d3, 0, none⟩) (fun (y, s2, t2, d4, d3) => (d.obj - y : Int).toNat) ((0, ss, ts, gLF, gLT)) rfl (.p rfl) ?_ ?_
   ·
    refine ⟨.refl _ _, by assumption, ⟨.inl rfl⟩, by assumption, ⟨.inl rfl⟩, by assumption, by omega, by omega, by omega, ?_⟩
    exact ⟨⟨by omega, by omega, by omega, by omega⟩, ⟨by rw [r9, if_pos (by omega), if_pos rfl], by rw [s4, if_pos (by omega), if_pos rfl]⟩, hS, hT, hR, n7, n0⟩
   rintro ⟨y, s2, t2, d4, d3⟩ HL2 ⟨c5, j3, g9, c2, h0, m, m8, m0, k6, hI⟩ _ r3
   dsimp only [cA, nA]
   have _ : H.next ≤ d4 := g9.ge (by omega) (by omega)
   have _ : H.next ≤ d3 := h0.ge (by omega) (by omega)
   have _ := c5.nx
   replace l := l.st c5 (fun k hk => ⟨by omega, by omega, by omega, trivial⟩)
   replace f3 := f3.st c5 (fun k hk ho => by simp only [out, and_true] at ho ⊢ <;> exact ⟨by first | exact ho | exact ho.1 | exact ho.2 | exact ho.2.1 | exact ho.2.2 | exact ho.2.2.1 | exact ho.2.2.2 | exact e1.ne (by first | exact ho | exact ho.1 | exact ho.2 | exact ho.2.1 | exact ho.2.2 | exact ho.2.2.1 | exact ho.2.2.2 | omega) (by omega) | omega, by first | exact ho | exact ho.1 | exact ho.2 | exact ho.2.1 | exact ho.2.2 | exact ho.2.2.1 | exact ho.2.2.2 | exact d9.ne (by first | exact ho | exact ho.1 | exact ho.2 | exact ho.2.1 | exact ho.2.2 | exact ho.2.2.1 | exact ho.2.2.2 | omega) (by omega) | omega, by first | exact ho | exact ho.1 | exact ho.2 | exact ho.2.1 | exact ho.2.2 | exact ho.2.2.1 | exact ho.2.2.2 | omega⟩)
   have g8 : NE g2 gLF := ⟨e1.ne i1.ne (by omega)⟩
   have g6 : NE g2 gLT := ⟨d9.ne i2.ne (by omega)⟩
   replace o := c5.same _ _ ⟨g8.ne, g6.ne, c1.ne, trivial⟩ o
   have f6 : NE g3 gLF := ⟨e1.ne h9.ne (by omega)⟩
   have f5 : NE g3 gLT := ⟨d9.ne h7.ne (by omega)⟩
   replace t := c5.same _ _ ⟨f6.ne, f5.ne, c0.ne, trivial⟩ t
   have _ := GHeap.ltg c2
   have j0 := GHeap.ltg m
   replace hin := i.mono l
   replace hin1 := h.mono l
   clear a6 l7
   have a6 : Cat.At _ g2 0 c p := ⟨Mem.of_get o, hin⟩
   clear a7
   have a7 : Cat.At _ g3 0 d q := ⟨Mem.of_get t, hin1⟩
   obtain ⟨o5, -, -, -, -, -, -, -, -⟩ := a7.get
   have rk := St.refl [d4, d3, g5] HL2
   obtain ⟨⟨_, hsm, u2, hts⟩, ⟨s5, r8⟩, hS, hT, hR, n7, n0⟩ := hI
   have l2 := m
   refine .seq (fun K10 n9 => .seq (fun K11 o4 => .region (.mv rfl (.q rfl (.fieldAddr fo_27_0_B rfl) ?_))))
   refine .q rfl (.load on_2_A rfl (by first | assumption | exact Mem.of_get t 0 _ rfl)) ?_
   refine .q rfl (.cmp rfl rfl rfl) (.nil (o4 _ _ ?_))
   refine .cond rfl ?_ ?_ <;> intro s3
   ·
    simp only [sps] at s3
    refine .skip (n9 _ _ (.seq (fun K12 p3 => .block (.seq (fun K13 r5 => .region (.q rfl (.fieldAddr fo_27_1_B rfl) ?_))))))
    refine .q rfl (.load on_24_B rfl (by first | assumption | exact Mem.of_get m 1 _ rfl)) ?_
    refine .mv rfl ?_
    refine .R rfl (.litA rfl sl_24_A ze_2_L rfl rfl rfl rfl) ?_
    rintro _ _ ⟨_, rfl, h4, _, p8⟩
    replace l := l.trans h4
    replace c5 := c5.le h4
    replace rk := rk.le h4
    replace o := h4.2 _ _ o
    replace t := h4.2 _ _ t
    replace j3 := h4.2 _ _ j3
    replace c2 := h4.2 _ _ c2
    replace m := h4.2 _ _ m
    have _ := GHeap.ltg p8
    replace hin := i.mono l
    replace hin1 := h.mono l
    clear a6
    have a6 : Cat.At _ g2 0 c p := ⟨Mem.of_get o, hin⟩
    clear a7 o5
    have a7 : Cat.At _ g3 0 d q := ⟨Mem.of_get t, hin1⟩
    refine .R rfl (.apI rfl sl_24_A ze_2_L rfl by_2_L sl_24_A rfl rfl) ?_
    rintro _ _ ⟨s7, rfl, i6, _, h1⟩
    replace l := l.st i6 (fun k hk => ⟨by omega, trivial⟩)
    replace c5 := c5.sQ i6
    replace rk := rk.sQ i6
    replace o := i6.same _ _ ⟨(g9.ne g8.ne (by omega)), trivial⟩ o
    replace t := i6.same _ _ ⟨(g9.ne f6.ne (by omega)), trivial⟩ t
    replace c2 := i6.same _ _ ⟨(Ne.symm m8), trivial⟩ c2
    replace m := i6.same _ _ ⟨(Ne.symm m0), trivial⟩ m
    have _ := GHeap.ltg h1
    replace hin := i.mono l
    replace hin1 := h.mono l
    clear a6
    have a6 : Cat.At _ g2 0 c p := ⟨Mem.of_get o, hin⟩
    clear a7
    have a7 : Cat.At _ g3 0 d q := ⟨Mem.of_get t, hin1⟩
    refine .q rfl (.fieldAddr fo_27_1_B rfl) ?_
    refine .r0 rfl rfl (.storeR rfl sz_24_Ch rfl rfl rfl (by assumption) (by first | exact Nat.le_of_ble_eq_true rfl | (simp; done) | (simp <;> omega))) ?_
    rintro _ _ ⟨rfl, c6, c8⟩
    have _ := c6.nx
    replace l := l.st c6 (fun k hk => ⟨by omega, trivial⟩)
    replace c5 := c5.sA c6
    replace rk := rk.sA c6
    replace o := c6.s o c1.ne
    replace t := c6.s t c0.ne
    replace c2 := c6.same _ _ ⟨k6, trivial⟩ c2
    have g7 : NE s7 g5 := .a
    replace h1 := c6.s h1 g7.ne
    have _ := GHeap.ltg c8
    replace hin := i.mono l
    replace hin1 := h.mono l
    clear a6
    have a6 : Cat.At _ g2 0 c p := ⟨Mem.of_get o, hin⟩
    obtain ⟨l7, -, -, -, -, -, -, -, -⟩ := a6.get
    clear a7
    have a7 : Cat.At _ g3 0 d q := ⟨Mem.of_get t, hin1⟩
    try simp only [Nat.zero_add, List.set_cons_succ, List.set_cons_zero] at c8
    refine .nil (r5 _ _ (.region (.q rfl (.fieldAddr fo_27_2_B rfl) ?_)))
    refine .q rfl (.load on_24_B rfl (by first | assumption | exact Mem.of_get c8 2 _ rfl)) ?_
    refine .q rfl (.fieldAddr fo_27_0_B rfl) ?_
    refine .q rfl (.load on_2_A rfl (by first | assumption | exact Mem.of_get o 0 _ rfl)) ?_
    refine .mv rfl (.q rfl (.aD rfl rfl rfl) ?_)
    refine .R rfl (.litA rfl sl_24_A ze_2_L rfl rfl rfl rfl) ?_
    rintro _ _ ⟨_, rfl, h6, _, o6⟩
    replace l := l.trans h6
    replace c5 := c5.le h6
    replace rk := rk.le h6
    replace o := h6.2 _ _ o
    replace t := h6.2 _ _ t
    replace c2 := h6.2 _ _ c2
    replace h1 := h6.2 _ _ h1
    replace c8 := h6.2 _ _ c8
    have _ := GHeap.ltg o6
    replace hin := i.mono l
    replace hin1 := h.mono l
    clear a6 l7
    have a6 : Cat.At _ g2 0 c p := ⟨Mem.of_get o, hin⟩
    clear a7
    have a7 : Cat.At _ g3 0 d q := ⟨Mem.of_get t, hin1⟩
    refine .R rfl (.apI rfl sl_24_A ze_2_L rfl by_2_L sl_24_A rfl rfl) ?_
    rintro _ _ ⟨t1, rfl, i5, _, l9⟩
    replace l := l.st i5 (fun k hk => ⟨by omega, trivial⟩)
    replace c5 := c5.sQ i5
    replace rk := rk.sQ i5
    replace o := i5.same _ _ ⟨(h0.ne g6.ne (by omega)), trivial⟩ o
    replace t := i5.same _ _ ⟨(h0.ne f5.ne (by omega)), trivial⟩ t
    replace h1 := i5.s h1
    replace c8 := i5.same _ _ ⟨(Ne.symm k6), trivial⟩ c8
    replace hin := i.mono l
    replace hin1 := h.mono l
    clear a6
    have a6 : Cat.At _ g2 0 c p := ⟨Mem.of_get o, hin⟩
    clear a7
    have a7 : Cat.At _ g3 0 d q := ⟨Mem.of_get t, hin1⟩
    refine .q rfl (.fieldAddr fo_27_2_B rfl) ?_
    refine .r0 rfl rfl (.storeR rfl sz_24_Ch rfl rfl rfl (by assumption) (by first | exact Nat.le_of_ble_eq_true rfl | (simp; done) | (simp <;> omega))) ?_
    rintro _ _ ⟨rfl, c3, k2⟩
    replace l := l.st c3 (fun k hk => ⟨by omega, trivial⟩)
    replace c5 := c5.sA c3
    replace rk := rk.sA c3
    replace o := c3.s o c1.ne
    replace t := c3.s t c0.ne
    replace h1 := c3.s h1 g7.ne
    replace l9 := c3.s l9
    replace hin := i.mono l
    replace hin1 := h.mono l
    clear a6
    have a6 : Cat.At _ g2 0 c p := ⟨Mem.of_get o, hin⟩
    clear a7
    have a7 : Cat.At _ g3 0 d q := ⟨Mem.of_get t, hin1⟩
    try simp only [Nat.zero_add, List.set_cons_succ, List.set_cons_zero] at k2
    refine .nil (p3 _ _ (.region (.mv rfl (.q rfl (.aD rfl rfl rfl) (.mv rfl (.nil ?_))))))
    refine r3 ((y + 1, s2 ++ [(x : Int)], t2 ++ [c.obj + (y : Int)], s7, t1)) _ _ ?_ ?_ (.p rfl)
    ·
     refine ⟨c5, by assumption, by exact ⟨.inr (by omega)⟩, by assumption, by exact ⟨.inr (by omega)⟩, by (rw [List.length_append, List.length_append]; assumption), by omega, by omega, by omega, ?_⟩
     have hR' := hR.st rk (.cons n7 (.cons n0 (.cons (hR.neT l2 rfl) (.nil _ _))))
     have u6 : x = 0 := by omega
     have q6 : y = 0 := by omega
     exact ⟨⟨by omega, by simp; omega, by simp; omega, by simp; omega⟩, ⟨by rw [s5, if_pos q6, if_neg (by omega), u6]; rfl, by rw [r8, if_pos q6, if_neg (by omega), q6, oc]; rfl⟩, hS.snoc (by omega) (by omega), hT.snoc (by omega) (by omega), hR', hR.ne (by omega), hR.ne (by omega)⟩
    (dsimp only; omega)
   try simp only [sps] at s3
   refine .exit (t5 _ _ (.region (.mv rfl (.q rfl (.aD rfl rfl rfl) (.mv rfl (.nil ?_))))))
   refine p7 ((x + 1, s2, t2, d4, d3)) _ _ ?_ ?_ (.p rfl)
   ·
    refine ⟨f3, by assumption, by exact g9.trans e1 (by omega), by assumption, by exact h0.trans d9 (by omega), by assumption, by assumption, by assumption, by assumption, ?_⟩
    exact ⟨⟨by omega, by omega, by omega, by omega⟩, ⟨by rw [s5, if_neg (by omega), if_neg (by omega)], by rw [r8, if_neg (by omega), if_neg (by omega)]⟩, hS, hT, hR, n7, n0⟩
   (dsimp only; omega)
  try simp only [sps] at s1
  refine .exit (t9 _ _ (.seq (fun K14 q2 => .region ?_)))
  have _ := GHeap.ltg aI
  refine .R rfl (.litA rfl sl_25_B ze_24_Hj rfl rfl rfl rfl) ?_
  rintro _ o9 ⟨l5, rfl, f4, _, p1⟩
  have _ := f4.1
  replace l := l.trans f4
  replace o := f4.2 _ _ o
  replace t := f4.2 _ _ t
  replace i4 := f4.2 _ _ i4
  replace aI := f4.2 _ _ aI
  replace aC := f4.2 _ _ aC
  replace a0 := f4.2 _ _ a0
  replace a5 := f4.2 _ _ a5
  replace m := f4.2 _ _ m
  have _ := GHeap.ltg p1
  replace hin := i.mono l
  replace hin1 := h.mono l
  have a6 : Cat.At _ g2 0 c p := ⟨Mem.of_get o, hin⟩
  have a7 : Cat.At _ g3 0 d q := ⟨Mem.of_get t, hin1⟩
  refine .mv rfl (.nil (q2 _ _ (.seq (fun K15 q9 => .seq (fun K16 o1 => .region (.mv rfl (.nil (o1 _ _ (.block ?_)))))))))
  refine .loopF (σ := Nat × (Nat → Option Addr) × List (List Int) × Nat × Nat) [2, 3, 4, 5, 6] (fun (f, rq, cs, j5, l6) => [(10, some (.int .i64 (f : Int))), (9, some (.slice (some ⟨j5, 0, none⟩) l6 l6))]) (fun (f, rq, cs, j5, l6) H' => St [l5] o9 H' ∧ H'.get j5 = some (.row ((slsL rq cs)) 24 true) ∧ PL j5 l5 o9.next ∧ l6 = (slsL rq cs).length ∧ (f ≤ ss.length ∧ cs.length = f) ∧ Tb (-60) 120 ss.length cs ∧ TabP (JnV E ss ts) cs ∧ OwnL H.next H' 2 rr E.comp ∧ OwnL o9.next H' 2 rq cs) (fun (f, rq, cs, j5, l6) => ss.length - f) ((0, fun _ => none, [], _, _)) rfl (.p rfl) ?_ ?_
  ·
   refine ⟨.refl _ _, by assumption, ⟨.inl rfl⟩, by rfl, ?_⟩
   exact ⟨⟨by omega, rfl⟩, .nil _ _ _, .nil _, hR.keep (.of_le (by assumption)), .nil _ _ _ _⟩
  rintro ⟨f, rq, cs, j5, l6⟩ HL3 ⟨c4, b7, i0, m6, hI⟩ _ q3
  dsimp only [cA, nA]
  have _ : H.next ≤ j5 := i0.ge (by omega) (by omega)
  have _ := c4.nx
  replace l := l.st c4 (fun k hk => ⟨by omega, trivial⟩)
  have f8 : NE g2 l5 := .a
  replace o := c4.s o f8.ne
  have f7 : NE g3 l5 := .a
  replace t := c4.s t f7.ne
  have f9 : NE g4 l5 := .a
  replace i4 := c4.s i4 f9.ne
  replace aI := c4.s aI
  replace aC := c4.s aC
  replace a0 := c4.s a0
  replace a5 := c4.s a5
  have g1 : NE g5 l5 := .a
  replace m := c4.s m g1.ne
  have _ := GHeap.ltg b7
  replace hin := i.mono l
  replace hin1 := h.mono l
  clear a6
  have a6 : Cat.At _ g2 0 c p := ⟨Mem.of_get o, hin⟩
  clear a7
  have a7 : Cat.At _ g3 0 d q := ⟨Mem.of_get t, hin1⟩
  have rk := St.refl [j5] HL3
  obtain ⟨⟨hf, hcl⟩, hC, hCT, hR, hQ⟩ := hI
  have k9 := b7
  have _ : (slsL rq cs).length = cs.length := length_slsL _ _
  refine .seq (fun K17 o3 => .seq (fun K18 p0 => .region (.mv rfl (.q rfl (.fieldAddr fo_27_1_B rfl) ?_))))
  refine .q rfl (.load on_24_B rfl (by first | assumption | exact Mem.of_get m 1 _ rfl)) ?_
  refine .q rfl (.len sl_24_A rfl) (.q rfl (.cmp rfl rfl rfl) (.nil (p0 _ _ ?_)))
  refine .cond rfl ?_ ?_ <;> intro r6
  ·
   simp only [sps] at r6
   have _ := hS f (by omega)
   have _ := mul_bdg (a := ss.getD f 0) (b := d.obj) (A := 12) (B := 8) (by omega) (by omega)
   refine .skip (o3 _ _ (.seq (fun K19 q8 => .block (.seq (fun K20 p5 => .region ?_)))))
   refine .R rfl (.litA rfl sl_24_A ze_2_L rfl rfl rfl rfl) ?_
   rintro _ o8 ⟨l3, rfl, e0, _, l0⟩
   have _ := e0.1
   replace l := l.trans e0
   replace c4 := c4.le e0
   replace rk := rk.le e0
   replace o := e0.2 _ _ o
   replace t := e0.2 _ _ t
   replace aC := e0.2 _ _ aC
   replace a0 := e0.2 _ _ a0
   replace a5 := e0.2 _ _ a5
   replace m := e0.2 _ _ m
   replace b7 := e0.2 _ _ b7
   have _ := GHeap.ltg l0
   replace hin := i.mono l
   replace hin1 := h.mono l
   clear a6
   have a6 : Cat.At _ g2 0 c p := ⟨Mem.of_get o, hin⟩
   clear a7
   have a7 : Cat.At _ g3 0 d q := ⟨Mem.of_get t, hin1⟩
   replace l0 : GHeap.get o8 l3 = some (.row (ints []) 2 true) := l0
   refine .mv rfl (.nil (p5 _ _ (.seq (fun K21 r4 => .seq (fun K22 q5 => .region (.mv rfl (.nil (q5 _ _ (.block ?_)))))))))
   refine .loopF (σ := Nat × List Int × Nat × Nat) [2, 3, 4, 5, 6, 9, 10] (fun (g, row, c7, j1) => [(12, some (.int .i64 (g : Int))), (11, some (.slice (some ⟨c7, 0, none⟩) j1 j1))]) (fun (g, row, c7, j1) H' => St [l3] o8 H' ∧ H'.get c7 = some (.row (ints row) 2 true) ∧ PL c7 l3 o8.next ∧ j1 = row.length ∧ (g ≤ ss.length ∧ row.length = g) ∧ Bd (-60) 120 row ∧ RowP (JnV E ss ts f) row) (fun (g, row, c7, j1) => ss.length - g) ((0, [], _, _)) rfl (.p rfl) ?_ ?_
   ·
    refine ⟨.refl _ _, by assumption, ⟨.inl rfl⟩, by rfl, ?_⟩
    exact ⟨⟨by omega, rfl⟩, .nil _ _, .nil _⟩
   rintro ⟨g, row, c7, j1⟩ _ ⟨u, a8, a9, k7, hI⟩ _ k3
   dsimp only [cA, nA]
   have _ : H.next ≤ c7 := a9.ge (by omega) (by omega)
   have _ := u.nx
   replace l := l.st u (fun k hk => ⟨by omega, trivial⟩)
   replace c4 := c4.sA u
   replace rk := rk.sA u
   have b9 : NE g2 l3 := .a
   replace o := u.s o b9.ne
   have b8 : NE g3 l3 := .a
   replace t := u.s t b8.ne
   replace aC := u.s aC
   replace a0 := u.s a0
   replace a5 := u.s a5
   replace m := u.s m
   have f2 : NE j5 l3 := .a
   replace b7 := u.s b7 f2.ne
   replace hin := i.mono l
   replace hin1 := h.mono l
   clear a6
   have a6 : Cat.At _ g2 0 c p := ⟨Mem.of_get o, hin⟩
   obtain ⟨l7, -, -, -, -, -, -, -, -⟩ := a6.get
   clear a7
   have a7 : Cat.At _ g3 0 d q := ⟨Mem.of_get t, hin1⟩
   obtain ⟨o5, -, -, -, -, -, -, -, -⟩ := a7.get
   obtain ⟨⟨_, hrl⟩, hW, hWR⟩ := hI
   refine .seq (fun K23 p9 => .seq (fun K24 p2 => .region (.mv rfl (.q rfl (.fieldAddr fo_27_1_B rfl) ?_))))
   refine .q rfl (.load on_24_B rfl (by first | assumption | exact Mem.of_get m 1 _ rfl)) ?_
   refine .q rfl (.len sl_24_A rfl) (.q rfl (.cmp rfl rfl rfl) (.nil (p2 _ _ ?_)))
   refine .cond rfl ?_ ?_ <;> intro r7
   ·
    simp only [sps] at r7
    have _ := hT g (by omega)
    refine .skip (p9 _ _ (.seq (fun K25 k0 => .block (.seq (fun K26 p4 => .region (.mv rfl (.nil (p4 _ _ (.seq (fun K27 j7 => .block (.seq (fun K28 o2 => ?_))))))))))))
    refine .regionD mo_B (.qs [0, 1, 2, 3, 4, 5, 6, 7, 8, 9, 10, 11] (.done)) (by kernel_rfl) ?_
    refine .q rfl (.fieldAddr fo_27_2_B rfl) ?_
    refine .q rfl (.load on_24_B rfl (by first | assumption | exact Mem.of_get m 2 _ rfl)) ?_
    refine .mv rfl rfl ?_
    refine .q rfl (.idxN sl_24_A (by first | assumption | exact SlA.of_row a5 (by first | rfl | (simp; done) | (simp <;> omega))) rfl rfl (by omega)) ?_
    refine .q rfl (.loadI on_2_A (by first | assumption | exact Ints.of_get a5) rfl (by omega)) ?_
    refine .q rfl (.fieldAddr fo_27_1_B rfl) ?_
    refine .q rfl (.load on_24_B rfl (by first | assumption | exact Mem.of_get m 1 _ rfl)) ?_
    refine .mv rfl rfl ?_
    refine .q rfl (.idxN sl_24_A (by first | assumption | exact SlA.of_row a0 (by first | rfl | (simp; done) | (simp <;> omega))) rfl rfl (by omega)) ?_
    refine .q rfl (.loadI on_2_A (by first | assumption | exact Ints.of_get a0) rfl (by omega)) ?_
    refine .q rfl (.cmp rfl rfl rfl) (.mv rfl rfl (.done (o2 _ _ ?_)))
    refine .cond rfl ?_ ?_ <;> intro l4
    ·
     simp only [sps] at l4
     obtain ⟨h3, j2, n3⟩ : ∃ h3 : Int, h3 = -1 ∧ -60 ≤ h3 ∧ h3 ≤ 120 := ⟨_, rfl, by omega, by omega⟩
     have l1 : JnV E ss ts f g h3 := ⟨fun _ => j2, fun e => absurd e l4⟩
     refine .skip (j7 _ _ (.region (.mv rfl (.mv rfl ?_))))
     refine .R rfl (.litA rfl sl_24_A ze_2_L rfl rfl rfl rfl) ?_
     rintro _ _ ⟨_, rfl, h5, _, l8⟩
     replace l := l.trans h5
     replace u := u.le h5
     replace o := h5.2 _ _ o
     replace t := h5.2 _ _ t
     replace a8 := h5.2 _ _ a8
     have _ := GHeap.ltg l8
     replace hin := i.mono l
     replace hin1 := h.mono l
     clear a6 l7
     have a6 : Cat.At _ g2 0 c p := ⟨Mem.of_get o, hin⟩
     clear a7 o5
     have a7 : Cat.At _ g3 0 d q := ⟨Mem.of_get t, hin1⟩
     refine .R rfl (.apI rfl sl_24_A ze_2_L rfl by_2_L sl_24_A rfl rfl) ?_
     rintro _ _ ⟨_, rfl, i9, _, _⟩
     replace l := l.st i9 (fun k hk => ⟨by omega, trivial⟩)
     replace u := u.sP i9
     have v : NE g2 c7 := ⟨a9.ne b9.ne (by omega)⟩
     replace o := i9.s o v.ne
     have w : NE g3 c7 := ⟨a9.ne b8.ne (by omega)⟩
     replace t := i9.s t w.ne
     replace hin := i.mono l
     replace hin1 := h.mono l
     clear a6
     have a6 : Cat.At _ g2 0 c p := ⟨Mem.of_get o, hin⟩
     clear a7
     have a7 : Cat.At _ g3 0 d q := ⟨Mem.of_get t, hin1⟩
     refine .mv rfl (.nil (k0 _ _ (.region (.mv rfl (.q rfl (.aD rfl rfl rfl) (.mv rfl (.nil ?_)))))))
     refine k3 ((g + 1, row ++ [h3], _, _)) _ _ ?_ ?_ (.p rfl)
     ·
      refine ⟨u, by (rw [j2]; assumption), by exact ⟨.inr (by omega)⟩, by (simp only [List.length_append, List.length_cons, List.length_nil] <;> omega), ?_⟩
      exact ⟨⟨by omega, by simp; omega⟩, hW.snoc (by omega) (by omega), hWR.snoc (by rw [hrl]; exact l1)⟩
     (dsimp only; omega)
    simp only [sps] at l4
    refine .seq (fun K29 m2 => .region (.mv rfl (.mv rfl (.q rfl (.cmp rfl rfl rfl) (.mv rfl ?_)))))
    refine .split (fun p6 => ?_) (fun p6 => ?_)
    ·
     simp only [sps] at p6
     refine .qg rfl (.move rfl) (.qg rfl (.move rfl) (.qg rfl (.cmp rfl rfl rfl) (.q rfl (.pickT rfl rfl) (.mv rfl (.nil (m2 _ _ ?_))))))
     refine .cond rfl ?_ ?_ <;> intro s6
     ·
      simp only [sps] at s6
      have _ := u5 f (by omega) g (by omega)
      have _ := e9 f (by omega)
      obtain ⟨h3, j2, n3⟩ : ∃ h3 : Int, h3 = (E.comp.getD f []).getD g 0 ∧ -60 ≤ h3 ∧ h3 ≤ 120 := ⟨_, rfl, by omega, by omega⟩
      have l1 : JnV E ss ts f g h3 := ⟨fun n => by first | exact absurd l4 n | (exfalso; omega), fun _ => by rw [j2, if_pos ⟨by omega, by omega⟩]⟩
      refine .region ?_
      have iE := (hR.st rk (.cons (hR.neT k9 rfl) (.nil _ _))).intss aC (by omega)
      have _ := iE.2 f (by omega)
      refine .q rfl (.fieldAddr fo_27_4_B rfl) ?_
      refine .q rfl (.load on_25_B rfl (by first | assumption | exact Mem.of_get m 4 _ rfl)) ?_
      refine .mv rfl ?_
      refine .q rfl (.idxN sl_25_B (by first | exact (Intss.sl (by assumption)) | exact SlA.of_row aC (by first | rfl | (simp; done) | (simp <;> omega))) rfl rfl (by omega)) ?_
      refine .q rfl (.loadR on_24_B (by assumption) rfl (by omega)) ?_
      refine .mv rfl (.q rfl (.iN sl_24_A rfl rfl) (.q rfl (.lI on_2_A rfl) (.mv rfl (.nil (j7 _ _ (.region (.mv rfl (.mv rfl ?_))))))))
      refine .R rfl (.litA rfl sl_24_A ze_2_L rfl rfl rfl rfl) ?_
      rintro _ _ ⟨_, rfl, d2, _, j8⟩
      replace l := l.trans d2
      replace u := u.le d2
      replace o := d2.2 _ _ o
      replace t := d2.2 _ _ t
      replace a8 := d2.2 _ _ a8
      have _ := GHeap.ltg j8
      replace hin := i.mono l
      replace hin1 := h.mono l
      have a6 : Cat.At _ g2 0 c p := ⟨Mem.of_get o, hin⟩
      have a7 : Cat.At _ g3 0 d q := ⟨Mem.of_get t, hin1⟩
      refine .R rfl (.apI rfl sl_24_A ze_2_L rfl by_2_L sl_24_A rfl rfl) ?_
      rintro _ _ ⟨_, rfl, d5, _, _⟩
      replace l := l.st d5 (fun k hk => ⟨by omega, trivial⟩)
      replace u := u.sP d5
      have v : NE g2 c7 := ⟨a9.ne b9.ne (by omega)⟩
      replace o := d5.s o v.ne
      have w : NE g3 c7 := ⟨a9.ne b8.ne (by omega)⟩
      replace t := d5.s t w.ne
      replace hin := i.mono l
      replace hin1 := h.mono l
      clear a6
      have a6 : Cat.At _ g2 0 c p := ⟨Mem.of_get o, hin⟩
      clear a7
      have a7 : Cat.At _ g3 0 d q := ⟨Mem.of_get t, hin1⟩
      refine .mv rfl (.nil (k0 _ _ (.region (.mv rfl (.q rfl (.aD rfl rfl rfl) (.mv rfl (.nil ?_)))))))
      refine k3 ((g + 1, row ++ [h3], _, _)) _ _ ?_ ?_ (.p rfl)
      ·
       refine ⟨u, by (rw [j2]; assumption), by exact ⟨.inr (by omega)⟩, by (simp only [List.length_append, List.length_cons, List.length_nil] <;> omega), ?_⟩
       exact ⟨⟨by omega, by simp; omega⟩, hW.snoc (by omega) (by omega), hWR.snoc (by rw [hrl]; exact l1)⟩
      (dsimp only; omega)
     simp only [sps] at s6
     obtain ⟨h3, j2, n3⟩ : ∃ h3 : Int, h3 = (E.src.length : Int) + ss.getD f 0 * d.obj + ts.getD g 0 - c.obj ∧ -60 ≤ h3 ∧ h3 ≤ 120 := ⟨_, rfl, by omega, by omega⟩
     have l1 : JnV E ss ts f g h3 := ⟨fun n => by first | exact absurd l4 n | (exfalso; omega), fun _ => by rw [j2, if_neg (by omega), od, oc, Int.mul_one]⟩
     refine .regionD mo_B (.qs [0, 1, 2, 3, 4, 5, 6, 7, 8, 9, 10, 11, 12, 13, 14, 15, 16, 17, 18, 19] (.done)) (by kernel_rfl) ?_
     refine .mv rfl rfl (.q rfl (.fieldAddr fo_27_1_B rfl) ?_)
     refine .q rfl (.load on_24_B rfl (by first | assumption | exact Mem.of_get m 1 _ rfl)) ?_
     refine .mv rfl rfl ?_
     refine .q rfl (.idxN sl_24_A (by first | assumption | exact SlA.of_row a0 (by first | rfl | (simp; done) | (simp <;> omega))) rfl rfl (by omega)) ?_
     refine .q rfl (.loadI on_2_A (by first | assumption | exact Ints.of_get a0) rfl (by omega)) ?_
     refine .q rfl (.fieldAddr fo_27_0_B rfl) ?_
     refine .q rfl (.load on_2_A rfl (by first | assumption | exact Mem.of_get t 0 _ rfl)) ?_
     refine .q rfl (.mul rfl rfl rfl (by omega) (by omega)) ?_
     refine .q rfl (.aD rfl rfl rfl) (.q rfl (.fieldAddr fo_27_2_B rfl) ?_)
     refine .q rfl (.load on_24_B rfl (by first | assumption | exact Mem.of_get m 2 _ rfl)) ?_
     refine .mv rfl rfl ?_
     refine .q rfl (.idxN sl_24_A (by first | assumption | exact SlA.of_row a5 (by first | rfl | (simp; done) | (simp <;> omega))) rfl rfl (by omega)) ?_
     refine .q rfl (.loadI on_2_A (by first | assumption | exact Ints.of_get a5) rfl (by omega)) ?_
     refine .q rfl (.aD rfl rfl rfl) (.q rfl (.fieldAddr fo_27_0_B rfl) ?_)
     refine .q rfl (.load on_2_A rfl (by first | assumption | exact Mem.of_get o 0 _ rfl)) ?_
     refine .q rfl (.sub rfl rfl rfl (by omega) (by omega)) ?_
     refine .mv rfl rfl (.done (j7 _ _ (.region (.mv rfl (.mv rfl ?_)))))
     refine .R rfl (.litA rfl sl_24_A ze_2_L rfl rfl rfl rfl) ?_
     rintro _ _ ⟨_, rfl, c9, _, k1⟩
     replace l := l.trans c9
     replace u := u.le c9
     replace o := c9.2 _ _ o
     replace t := c9.2 _ _ t
     replace a8 := c9.2 _ _ a8
     have _ := GHeap.ltg k1
     replace hin := i.mono l
     replace hin1 := h.mono l
     have a6 : Cat.At _ g2 0 c p := ⟨Mem.of_get o, hin⟩
     have a7 : Cat.At _ g3 0 d q := ⟨Mem.of_get t, hin1⟩
     refine .R rfl (.apI rfl sl_24_A ze_2_L rfl by_2_L sl_24_A rfl rfl) ?_
     rintro _ _ ⟨_, rfl, d6, _, _⟩
     replace l := l.st d6 (fun k hk => ⟨by omega, trivial⟩)
     replace u := u.sP d6
     have v : NE g2 c7 := ⟨a9.ne b9.ne (by omega)⟩
     replace o := d6.s o v.ne
     have w : NE g3 c7 := ⟨a9.ne b8.ne (by omega)⟩
     replace t := d6.s t w.ne
     replace hin := i.mono l
     replace hin1 := h.mono l
     clear a6
     have a6 : Cat.At _ g2 0 c p := ⟨Mem.of_get o, hin⟩
     clear a7
     have a7 : Cat.At _ g3 0 d q := ⟨Mem.of_get t, hin1⟩
     refine .mv rfl (.nil (k0 _ _ (.region (.mv rfl (.q rfl (.aD rfl rfl rfl) (.mv rfl (.nil ?_)))))))
     refine k3 ((g + 1, row ++ [h3], _, _)) _ _ ?_ ?_ (.p rfl)
     ·
      refine ⟨u, by (rw [j2]; assumption), by exact ⟨.inr (by omega)⟩, by (simp only [List.length_append, List.length_cons, List.length_nil] <;> omega), ?_⟩
      exact ⟨⟨by omega, by simp; omega⟩, hW.snoc (by omega) (by omega), hWR.snoc (by rw [hrl]; exact l1)⟩
     (dsimp only; omega)
    simp only [sps] at p6
    obtain ⟨h3, j2, n3⟩ : ∃ h3 : Int, h3 = (E.src.length : Int) + ss.getD f 0 * d.obj + ts.getD g 0 - c.obj ∧ -60 ≤ h3 ∧ h3 ≤ 120 := ⟨_, rfl, by omega, by omega⟩
    have l1 : JnV E ss ts f g h3 := ⟨fun n => by first | exact absurd l4 n | (exfalso; omega), fun _ => by rw [j2, if_neg (by omega), od, oc, Int.mul_one]⟩
    refine .z rfl (.z rfl (.z rfl (.q rfl (.pickF rfl rfl) (.mv rfl (.nil (m2 _ _ ?_))))))
    refine .condF rfl ?_
    refine .regionD mo_B (.qs [0, 1, 2, 3, 4, 5, 6, 7, 8, 9, 10, 11, 12, 13, 14, 15, 16, 17, 18, 19] (.done)) (by kernel_rfl) ?_
    refine .mv rfl rfl (.q rfl (.fieldAddr fo_27_1_B rfl) ?_)
    refine .q rfl (.load on_24_B rfl (by first | assumption | exact Mem.of_get m 1 _ rfl)) ?_
    refine .mv rfl rfl ?_
    refine .q rfl (.idxN sl_24_A (by first | assumption | exact SlA.of_row a0 (by first | rfl | (simp; done) | (simp <;> omega))) rfl rfl (by omega)) ?_
    refine .q rfl (.loadI on_2_A (by first | assumption | exact Ints.of_get a0) rfl (by omega)) ?_
    refine .q rfl (.fieldAddr fo_27_0_B rfl) ?_
    refine .q rfl (.load on_2_A rfl (by first | assumption | exact Mem.of_get t 0 _ rfl)) ?_
    refine .q rfl (.mul rfl rfl rfl (by omega) (by omega)) ?_
    refine .q rfl (.aD rfl rfl rfl) (.q rfl (.fieldAddr fo_27_2_B rfl) ?_)
    refine .q rfl (.load on_24_B rfl (by first | assumption | exact Mem.of_get m 2 _ rfl)) ?_
    refine .mv rfl rfl ?_
    refine .q rfl (.idxN sl_24_A (by first | assumption | exact SlA.of_row a5 (by first | rfl | (simp; done) | (simp <;> omega))) rfl rfl (by omega)) ?_
    refine .q rfl (.loadI on_2_A (by first | assumption | exact Ints.of_get a5) rfl (by omega)) ?_
    refine .q rfl (.aD rfl rfl rfl) (.q rfl (.fieldAddr fo_27_0_B rfl) ?_)
    refine .q rfl (.load on_2_A rfl (by first | assumption | exact Mem.of_get o 0 _ rfl)) ?_
    refine .q rfl (.sub rfl rfl rfl (by omega) (by omega)) ?_
    refine .mv rfl rfl (.done (j7 _ _ (.region (.mv rfl (.mv rfl ?_)))))
    refine .R rfl (.litA rfl sl_24_A ze_2_L rfl rfl rfl rfl) ?_
    rintro _ _ ⟨_, rfl, d0, _, k4⟩
    replace l := l.trans d0
    replace u := u.le d0
    replace o := d0.2 _ _ o
    replace t := d0.2 _ _ t
    replace a8 := d0.2 _ _ a8
    have _ := GHeap.ltg k4
    replace hin := i.mono l
    replace hin1 := h.mono l
    have a6 : Cat.At _ g2 0 c p := ⟨Mem.of_get o, hin⟩
    have a7 : Cat.At _ g3 0 d q := ⟨Mem.of_get t, hin1⟩
    refine .R rfl (.apI rfl sl_24_A ze_2_L rfl by_2_L sl_24_A rfl rfl) ?_
    rintro _ _ ⟨_, rfl, d7, _, _⟩
    replace l := l.st d7 (fun k hk => ⟨by omega, trivial⟩)
    replace u := u.sP d7
    have v : NE g2 c7 := ⟨a9.ne b9.ne (by omega)⟩
    replace o := d7.s o v.ne
    have w : NE g3 c7 := ⟨a9.ne b8.ne (by omega)⟩
    replace t := d7.s t w.ne
    replace hin := i.mono l
    replace hin1 := h.mono l
    clear a6
    have a6 : Cat.At _ g2 0 c p := ⟨Mem.of_get o, hin⟩
    clear a7
    have a7 : Cat.At _ g3 0 d q := ⟨Mem.of_get t, hin1⟩
    refine .mv rfl (.nil (k0 _ _ (.region (.mv rfl (.q rfl (.aD rfl rfl rfl) (.mv rfl (.nil ?_)))))))
    refine k3 ((g + 1, row ++ [h3], _, _)) _ _ ?_ ?_ (.p rfl)
    ·
     refine ⟨u, by (rw [j2]; assumption), by exact ⟨.inr (by omega)⟩, by (simp only [List.length_append, List.length_cons, List.length_nil] <;> omega), ?_⟩
     exact ⟨⟨by omega, by simp; omega⟩, hW.snoc (by omega) (by omega), hWR.snoc (by rw [hrl]; exact l1)⟩
    (dsimp only; omega)
   try simp only [sps] at r7
   refine .exit (r4 _ _ (.region ?_))
   obtain rfl : g = ss.length := by omega
   obtain rfl := k7
   refine .mv rfl (.mv rfl ?_)
   refine .R rfl (.litA rfl sl_25_B ze_24_Hj rfl rfl rfl rfl) ?_
   rintro _ _ ⟨_, rfl, f1, _, m5⟩
   replace l := l.trans f1
   replace c4 := c4.le f1
   replace rk := rk.le f1
   replace o := f1.2 _ _ o
   replace t := f1.2 _ _ t
   replace b7 := f1.2 _ _ b7
   replace a8 := f1.2 _ _ a8
   have _ := GHeap.ltg m5
   replace hin := i.mono l
   replace hin1 := h.mono l
   have a6 : Cat.At _ g2 0 c p := ⟨Mem.of_get o, hin⟩
   have a7 : Cat.At _ g3 0 d q := ⟨Mem.of_get t, hin1⟩
   refine .R rfl (.appendV rfl sl_25_B ze_24_Hj rfl by_24_Hj sl_25_B rfl rfl (by assumption) (by assumption) (by first | omega | (simp <;> omega)) rfl rfl (by omega) (by omega)) ?_
   rintro _ _ ⟨_, rfl, g0, _, _⟩
   replace l := l.st g0 (fun k hk => ⟨by omega, trivial⟩)
   replace c4 := c4.sP g0
   replace rk := rk.sP g0
   replace o := g0.same _ _ ⟨(i0.ne f8.ne (by omega)), trivial⟩ o
   replace t := g0.same _ _ ⟨(i0.ne f7.ne (by omega)), trivial⟩ t
   replace a8 := g0.same _ _ ⟨(Ne.symm (a9.ne f2.ne (by omega))), trivial⟩ a8
   replace hin := i.mono l
   replace hin1 := h.mono l
   clear a6
   have a6 : Cat.At _ g2 0 c p := ⟨Mem.of_get o, hin⟩
   clear a7
   have a7 : Cat.At _ g3 0 d q := ⟨Mem.of_get t, hin1⟩
   refine .mv rfl (.nil (q8 _ _ (.region (.mv rfl (.q rfl (.aD rfl rfl rfl) (.mv rfl (.nil ?_)))))))
   refine q3 ((f + 1, upd rq cs.length (some ⟨c7, 0, none⟩), cs ++ [row], _, _)) _ _ ?_ ?_ (.p rfl)
   ·
    refine ⟨c4, by (rw [slsL_snoc]; assumption), by exact ⟨.inr (by omega)⟩, by (rw [slsL_snoc] <;> (first | omega | (simp only [List.length_append, List.length_cons, List.length_nil] <;> omega))), ?_⟩
    have hR' := hR.st rk (.cons (hR.neT k9 rfl) (.nil _ _))
    have hQ' := hQ.st rk (.cons (hQ.neT k9 rfl) (.nil _ _))
    exact ⟨⟨by omega, by simp; omega⟩, hC.snoc (by omega) hW, hCT.snoc (by rw [hcl]; exact hWR), hR', hQ'.snoc2 (by assumption) (hQ.ne (a9.ge (by omega) (by omega))) (a9.ge (by omega) (by omega))⟩
   (dsimp only; omega)
  try simp only [sps] at r6
  refine .exit (q9 _ _ (.seq (fun K30 o0 => .region ?_)))
  obtain rfl : f = ss.length := by omega
  have l2 := m
  refine .mv rfl (.q rfl (.fieldAddr fo_27_4_B rfl) ?_)
  refine .r0 rfl rfl (.storeR rfl sz_25_Ch rfl rfl rfl (by assumption) (by first | exact Nat.le_of_ble_eq_true rfl | (simp; done) | (simp <;> omega))) ?_
  rintro _ _ ⟨rfl, b0, i8⟩
  replace l := l.st b0 (fun k hk => ⟨by omega, trivial⟩)
  replace o := b0.s o c1.ne
  replace t := b0.s t c0.ne
  replace i4 := b0.s i4 f0.ne
  replace aI := b0.s aI d8.ne
  replace a0 := b0.same _ _ ⟨m4, trivial⟩ a0
  replace a5 := b0.same _ _ ⟨m7, trivial⟩ a5
  replace b7 := b0.same _ _ ⟨(Ne.symm (i0.ne g1.ne (by omega))), trivial⟩ b7
  replace hin := i.mono l
  replace hin1 := h.mono l
  have a6 : Cat.At _ g2 0 c p := ⟨Mem.of_get o, hin⟩
  have a7 : Cat.At _ g3 0 d q := ⟨Mem.of_get t, hin1⟩
  try simp only [Nat.zero_add, List.set_cons_succ, List.set_cons_zero] at i8
  refine .nil (o0 _ _ (.seq (fun K31 q7 => .region ?_)))
  have n8 := i4
  refine .q rfl (.loadM ag_27_D rfl ⟨rfl, Mem.of_get i8⟩) ?_
  refine .r0 rfl rfl (.fillA rfl sz_27_D rfl rfl rfl rfl) ?_
  rintro _ _ ⟨rfl, b5, k5⟩
  replace l := l.st b5 (fun k hk => ⟨by omega, trivial⟩)
  replace o := b5.s o
  replace t := b5.s t
  replace aI := b5.s aI
  replace a0 := b5.same _ _ ⟨(Ne.symm (e1.ne h8.ne (by omega))), trivial⟩ a0
  replace a5 := b5.same _ _ ⟨(Ne.symm (d9.ne h2.ne (by omega))), trivial⟩ a5
  replace b7 := b5.same _ _ ⟨(Ne.symm (i0.ne f9.ne (by omega))), trivial⟩ b7
  replace hin := i.mono l
  replace hin1 := h.mono l
  clear a6
  have a6 : Cat.At _ g2 0 c p := ⟨Mem.of_get o, hin⟩
  clear a7
  have a7 : Cat.At _ g3 0 d q := ⟨Mem.of_get t, hin1⟩
  refine .nil (q7 _ _ (.ret (q0 _ _ (⟨_, _, _, _, rfl, ag_27_D, (by rfl), (Mem.of_get k5), ?_⟩))))
  have _ : gLF ≠ gI := e1.ne' (by omega) (by omega)
  have _ : gLT ≠ gI := d9.ne' (by omega) (by omega)
  have s8 := hQ.st b0 (.cons (hQ.neT l2 rfl) (.nil _ _))
  have t7 := s8.st b5 (.cons (s8.neT n8 rfl) (.nil _ _))
  have o7 : ss = E.src ++ [0] := by rw [r9, if_neg (by omega)]
  have s9 : ts = E.tgt ++ [1] := by rw [s4, if_neg (by omega)]
  have _ : ss.length = E.src.length + 1 := by rw [o7]; simp
  have hsh : (Cat.mk E.obj ss ts E.idn cs).Shp := by
    have hj := join_shp gc.s gd.s oc od (cs := cs) (by rw [hEq]; omega) (fun f hf => by rw [hEq, (hC f hf).1]; omega) (by rw [hEq, ← o7, ← s9]; exact hCT)
    rw [hEq, ← o7, ← s9] at hj
    rw [show E.obj = 2 by omega]
    exact hj
  exact ⟨⟨E.obj, ss, ts, E.idn, cs⟩, ⟨⟨rect_mk (by omega) (by omega) hts (hS.mono (by omega) (by omega)) (hT.mono (by omega) (by omega)) e6 (Bd.mono (show Bd 0 12 E.idn from e7) (by omega) (by omega)) (by omega) (hC.mono (by omega) (by omega)), hsh⟩, by show E.obj = 2; omega⟩, l, gLF, gLT, gI, j5, rq, by simp [Cat.cells, ownP, m6], ⟨a0, a5, aI, b7, by omega, by omega, by omega, by omega, by omega, by omega, by omega, t7.low (by omega), hQ.lowNe (by omega), hQ.lowNe (by omega), hQ.lowNe (by omega)⟩⟩
end Go.Proofs.Ytfanjkbaemhbmaa
namespace Go.Proofs.Ytfanjkbaemhbmaa
open Go Go.GL Go.RowKit Go.Proofs
set_option maxHeartbeats 8000000 in
theorem l02MonoidG_c {gS : Nat} {H : GHeap} (hs : DSrc 86 H gS := by assumption) :
    GCalls Try.prog 123 [.pointer (some ⟨gS, 0, none⟩)] H (NewTabG 86 gS H) := by
  refine GCalls.body (N := 48) (rs := [.tmp 2]) Try.func123 rfl rfl rfl rfl (fun Qx h hend => ?_)
  refine .fg [0] rfl ?_
  have a := St.refl [gS] H
  refine .seq (fun K1 g5 => .region (.mv rfl (.nil (g5 _ _ (.seq (fun K2 h1 => .seq (fun K3 h2 => .region (.mv rfl ?_))))))))
  refine .call rfl rfl rfl rfl @Try.call30 rfl (l01Next_c) ?_
  rintro _ _ ⟨_, rfl, _, _, _, g0, hs⟩
  have _ := g0.nx
  replace a := a.sA g0
  refine .nil (h2 _ _ (.block (.seq (fun K4 h0 => .region (.q rfl (.cmp rfl rfl rfl) (.mv rfl (.nil (h0 _ _ ?_))))))))
  refine .cond rfl ?_ ?_ <;> intro h5
  ·
   refine .seq (fun K5 h7 => .region ?_)
   refine .R rfl (.litA rfl sl_24_A ze_2_L rfl rfl rfl rfl) ?_
   rintro _ _ ⟨g7, rfl, f9, _, c5⟩
   replace a := a.le f9
   replace hs := hs.le f9
   have _ := GHeap.ltg c5
   refine .R rfl (.litA rfl sl_25_B ze_24_Hj rfl rfl rfl rfl) ?_
   rintro _ _ ⟨_, rfl, c7, _, h4⟩
   replace a := a.le c7
   replace hs := hs.le c7
   replace c5 := c7.2 _ _ c5
   refine .mv rfl (.nil (h7 _ _ (.ret (h _ _ (⟨_, rfl, ?_⟩)))))
   exact ⟨_, [[0]], fun i => some ⟨List.getD [g7] i 0, 0, none⟩, rfl, (lit_own (gs := [g7]) (by simp only [LitAt]; exact ⟨⟨by omega, c5⟩, trivial⟩) (by simp <;> omega)).done (by exact h4) (by omega), by decide, by unfold Tb Bd; decide, a, hs⟩
  refine .seq (fun K6 g9 => .region (.q rfl (.cmp rfl rfl rfl) (.mv rfl (.nil (g9 _ _ ?_)))))
  refine .cond rfl ?_ ?_ <;> intro h9
  ·
   refine .seq (fun K7 h3 => .region ?_)
   refine .R rfl (.litA rfl sl_24_A ze_2_L rfl rfl rfl rfl) ?_
   rintro _ _ ⟨e7, rfl, c3, _, p⟩
   replace a := a.le c3
   replace hs := hs.le c3
   have _ := GHeap.ltg p
   refine .R rfl (.litA rfl sl_24_A ze_2_L rfl rfl rfl rfl) ?_
   rintro _ _ ⟨g1, rfl, b1, _, a2⟩
   replace a := a.le b1
   replace hs := hs.le b1
   replace p := b1.2 _ _ p
   have _ := GHeap.ltg a2
   refine .R rfl (.litA rfl sl_25_B ze_24_Hj rfl rfl rfl rfl) ?_
   rintro _ _ ⟨_, rfl, x, _, c8⟩
   replace a := a.le x
   replace hs := hs.le x
   replace p := x.2 _ _ p
   replace a2 := x.2 _ _ a2
   refine .mv rfl (.nil (h3 _ _ (.ret (h _ _ (⟨_, rfl, ?_⟩)))))
   exact ⟨_, [[0, 1], [1, 0]], fun i => some ⟨List.getD [e7, g1] i 0, 0, none⟩, rfl, (lit_own (gs := [e7, g1]) (by simp only [LitAt]; exact ⟨⟨by omega, p⟩, ⟨by omega, a2⟩, trivial⟩) (by simp <;> omega)).done (by exact c8) (by omega), by decide, by unfold Tb Bd; decide, a, hs⟩
  refine .seq (fun K8 g6 => .region (.q rfl (.cmp rfl rfl rfl) (.mv rfl (.nil (g6 _ _ ?_)))))
  refine .cond rfl ?_ ?_ <;> intro h14
  ·
   refine .seq (fun K9 h6 => .region ?_)
   refine .R rfl (.litA rfl sl_24_A ze_2_L rfl rfl rfl rfl) ?_
   rintro _ _ ⟨f0, rfl, c0, _, m⟩
   replace a := a.le c0
   replace hs := hs.le c0
   have _ := GHeap.ltg m
   refine .R rfl (.litA rfl sl_24_A ze_2_L rfl rfl rfl rfl) ?_
   rintro _ _ ⟨e5, rfl, b2, _, a9⟩
   replace a := a.le b2
   replace hs := hs.le b2
   replace m := b2.2 _ _ m
   have _ := GHeap.ltg a9
   refine .R rfl (.litA rfl sl_25_B ze_24_Hj rfl rfl rfl rfl) ?_
   rintro _ _ ⟨_, rfl, a6, _, d8⟩
   replace a := a.le a6
   replace hs := hs.le a6
   replace m := a6.2 _ _ m
   replace a9 := a6.2 _ _ a9
   refine .mv rfl (.nil (h6 _ _ (.ret (h _ _ (⟨_, rfl, ?_⟩)))))
   exact ⟨_, [[0, 1], [1, 1]], fun i => some ⟨List.getD [f0, e5] i 0, 0, none⟩, rfl, (lit_own (gs := [f0, e5]) (by simp only [LitAt]; exact ⟨⟨by omega, m⟩, ⟨by omega, a9⟩, trivial⟩) (by simp <;> omega)).done (by exact d8) (by omega), by decide, by unfold Tb Bd; decide, a, hs⟩
  refine .seq (fun K10 c6 => .region (.q rfl (.cmp rfl rfl rfl) (.mv rfl (.nil (c6 _ _ ?_)))))
  refine .cond rfl ?_ ?_ <;> intro h19
  ·
   refine .seq (fun K11 d2 => .region ?_)
   refine .R rfl (.litA rfl sl_24_A ze_2_L rfl rfl rfl rfl) ?_
   rintro _ _ ⟨e6, rfl, c1, _, e⟩
   replace a := a.le c1
   replace hs := hs.le c1
   have _ := GHeap.ltg e
   refine .R rfl (.litA rfl sl_24_A ze_2_L rfl rfl rfl rfl) ?_
   rintro _ _ ⟨g2, rfl, b5, _, j⟩
   replace a := a.le b5
   replace hs := hs.le b5
   replace e := b5.2 _ _ e
   have _ := GHeap.ltg j
   refine .R rfl (.litA rfl sl_24_A ze_2_L rfl rfl rfl rfl) ?_
   rintro _ _ ⟨f7, rfl, a5, _, a0⟩
   replace a := a.le a5
   replace hs := hs.le a5
   replace e := a5.2 _ _ e
   replace j := a5.2 _ _ j
   have _ := GHeap.ltg a0
   refine .R rfl (.litA rfl sl_25_B ze_24_Hj rfl rfl rfl rfl) ?_
   rintro _ _ ⟨_, rfl, w, _, d9⟩
   replace a := a.le w
   replace hs := hs.le w
   replace e := w.2 _ _ e
   replace j := w.2 _ _ j
   replace a0 := w.2 _ _ a0
   refine .mv rfl (.nil (d2 _ _ (.ret (h _ _ (⟨_, rfl, ?_⟩)))))
   exact ⟨_, [[0, 1, 2], [1, 2, 0], [2, 0, 1]], fun i => some ⟨List.getD [e6, g2, f7] i 0, 0, none⟩, rfl, (lit_own (gs := [e6, g2, f7]) (by simp only [LitAt]; exact ⟨⟨by omega, e⟩, ⟨by omega, j⟩, ⟨by omega, a0⟩, trivial⟩) (by simp <;> omega)).done (by exact d9) (by omega), by decide, by unfold Tb Bd; decide, a, hs⟩
  refine .seq (fun K12 d7 => .region (.q rfl (.cmp rfl rfl rfl) (.mv rfl (.nil (d7 _ _ ?_)))))
  refine .cond rfl ?_ ?_ <;> intro h25
  ·
   refine .seq (fun K13 e2 => .region ?_)
   refine .R rfl (.litA rfl sl_24_A ze_2_L rfl rfl rfl rfl) ?_
   rintro _ _ ⟨f1, rfl, c2, _, g⟩
   replace a := a.le c2
   replace hs := hs.le c2
   have _ := GHeap.ltg g
   refine .R rfl (.litA rfl sl_24_A ze_2_L rfl rfl rfl rfl) ?_
   rintro _ _ ⟨e8, rfl, b4, _, n⟩
   replace a := a.le b4
   replace hs := hs.le b4
   replace g := b4.2 _ _ g
   have _ := GHeap.ltg n
   refine .R rfl (.litA rfl sl_24_A ze_2_L rfl rfl rfl rfl) ?_
   rintro _ _ ⟨f8, rfl, a7, _, a1⟩
   replace a := a.le a7
   replace hs := hs.le a7
   replace g := a7.2 _ _ g
   replace n := a7.2 _ _ n
   have _ := GHeap.ltg a1
   refine .R rfl (.litA rfl sl_25_B ze_24_Hj rfl rfl rfl rfl) ?_
   rintro _ _ ⟨_, rfl, u, _, d3⟩
   replace a := a.le u
   replace hs := hs.le u
   replace g := u.2 _ _ g
   replace n := u.2 _ _ n
   replace a1 := u.2 _ _ a1
   refine .mv rfl (.nil (e2 _ _ (.ret (h _ _ (⟨_, rfl, ?_⟩)))))
   exact ⟨_, [[0, 1, 2], [1, 1, 2], [2, 2, 2]], fun i => some ⟨List.getD [f1, e8, f8] i 0, 0, none⟩, rfl, (lit_own (gs := [f1, e8, f8]) (by simp only [LitAt]; exact ⟨⟨by omega, g⟩, ⟨by omega, n⟩, ⟨by omega, a1⟩, trivial⟩) (by simp <;> omega)).done (by exact d3) (by omega), by decide, by unfold Tb Bd; decide, a, hs⟩
  refine .seq (fun K14 e0 => .region (.q rfl (.cmp rfl rfl rfl) (.mv rfl (.nil (e0 _ _ ?_)))))
  refine .cond rfl ?_ ?_ <;> intro h31
  ·
   refine .seq (fun K15 e1 => .region ?_)
   refine .R rfl (.litA rfl sl_24_A ze_2_L rfl rfl rfl rfl) ?_
   rintro _ _ ⟨f4, rfl, c4, _, f⟩
   replace a := a.le c4
   replace hs := hs.le c4
   have _ := GHeap.ltg f
   refine .R rfl (.litA rfl sl_24_A ze_2_L rfl rfl rfl rfl) ?_
   rintro _ _ ⟨e3, rfl, b6, _, r⟩
   replace a := a.le b6
   replace hs := hs.le b6
   replace f := b6.2 _ _ f
   have _ := GHeap.ltg r
   refine .R rfl (.litA rfl sl_24_A ze_2_L rfl rfl rfl rfl) ?_
   rintro _ _ ⟨g3, rfl, y, _, a8⟩
   replace a := a.le y
   replace hs := hs.le y
   replace f := y.2 _ _ f
   replace r := y.2 _ _ r
   have _ := GHeap.ltg a8
   refine .R rfl (.litA rfl sl_25_B ze_24_Hj rfl rfl rfl rfl) ?_
   rintro _ _ ⟨_, rfl, t, _, d6⟩
   replace a := a.le t
   replace hs := hs.le t
   replace f := t.2 _ _ f
   replace r := t.2 _ _ r
   replace a8 := t.2 _ _ a8
   refine .mv rfl (.nil (e1 _ _ (.ret (h _ _ (⟨_, rfl, ?_⟩)))))
   exact ⟨_, [[0, 1, 2], [1, 1, 2], [2, 1, 2]], fun i => some ⟨List.getD [f4, e3, g3] i 0, 0, none⟩, rfl, (lit_own (gs := [f4, e3, g3]) (by simp only [LitAt]; exact ⟨⟨by omega, f⟩, ⟨by omega, r⟩, ⟨by omega, a8⟩, trivial⟩) (by simp <;> omega)).done (by exact d6) (by omega), by decide, by unfold Tb Bd; decide, a, hs⟩
  refine .seq (fun K16 d0 => .region (.q rfl (.cmp rfl rfl rfl) (.mv rfl (.nil (d0 _ _ ?_)))))
  refine .cond rfl ?_ ?_ <;> intro h37
  ·
   refine .seq (fun K17 d1 => .region ?_)
   refine .R rfl (.litA rfl sl_24_A ze_2_L rfl rfl rfl rfl) ?_
   rintro _ _ ⟨f3, rfl, b8, _, b⟩
   replace a := a.le b8
   replace hs := hs.le b8
   have _ := GHeap.ltg b
   refine .R rfl (.litA rfl sl_24_A ze_2_L rfl rfl rfl rfl) ?_
   rintro _ _ ⟨f5, rfl, b7, _, d⟩
   replace a := a.le b7
   replace hs := hs.le b7
   replace b := b7.2 _ _ b
   have _ := GHeap.ltg d
   refine .R rfl (.litA rfl sl_24_A ze_2_L rfl rfl rfl rfl) ?_
   rintro _ _ ⟨f6, rfl, z, _, l⟩
   replace a := a.le z
   replace hs := hs.le z
   replace b := z.2 _ _ b
   replace d := z.2 _ _ d
   have _ := GHeap.ltg l
   refine .R rfl (.litA rfl sl_24_A ze_2_L rfl rfl rfl rfl) ?_
   rintro _ _ ⟨e9, rfl, s, _, a3⟩
   replace a := a.le s
   replace hs := hs.le s
   replace b := s.2 _ _ b
   replace d := s.2 _ _ d
   replace l := s.2 _ _ l
   have _ := GHeap.ltg a3
   refine .R rfl (.litA rfl sl_25_B ze_24_Hj rfl rfl rfl rfl) ?_
   rintro _ _ ⟨_, rfl, k, _, c9⟩
   replace a := a.le k
   replace hs := hs.le k
   replace b := k.2 _ _ b
   replace d := k.2 _ _ d
   replace l := k.2 _ _ l
   replace a3 := k.2 _ _ a3
   refine .mv rfl (.nil (d1 _ _ (.ret (h _ _ (⟨_, rfl, ?_⟩)))))
   exact ⟨_, [[0, 1, 2, 3], [1, 0, 2, 3], [2, 3, 2, 3], [3, 2, 2, 3]], fun i => some ⟨List.getD [f3, f5, f6, e9] i 0, 0, none⟩, rfl, (lit_own (gs := [f3, f5, f6, e9]) (by simp only [LitAt]; exact ⟨⟨by omega, b⟩, ⟨by omega, d⟩, ⟨by omega, l⟩, ⟨by omega, a3⟩, trivial⟩) (by simp <;> omega)).done (by exact c9) (by omega), by decide, by unfold Tb Bd; decide, a, hs⟩
  refine .skip (h1 _ _ (.seq (fun K18 d4 => .region ?_)))
  refine .R rfl (.litA rfl sl_24_A ze_2_L rfl rfl rfl rfl) ?_
  rintro _ _ ⟨g4, rfl, b9, _, c⟩
  replace a := a.le b9
  replace hs := hs.le b9
  have _ := GHeap.ltg c
  refine .R rfl (.litA rfl sl_24_A ze_2_L rfl rfl rfl rfl) ?_
  rintro _ _ ⟨e4, rfl, b3, _, o⟩
  replace a := a.le b3
  replace hs := hs.le b3
  replace c := b3.2 _ _ c
  have _ := GHeap.ltg o
  refine .R rfl (.litA rfl sl_24_A ze_2_L rfl rfl rfl rfl) ?_
  rintro _ _ ⟨f2, rfl, a4, _, b0⟩
  replace a := a.le a4
  replace hs := hs.le a4
  replace c := a4.2 _ _ c
  replace o := a4.2 _ _ o
  have _ := GHeap.ltg b0
  refine .R rfl (.litA rfl sl_25_B ze_24_Hj rfl rfl rfl rfl) ?_
  rintro _ _ ⟨_, rfl, v, _, d5⟩
  replace a := a.le v
  replace hs := hs.le v
  replace c := v.2 _ _ c
  replace o := v.2 _ _ o
  replace b0 := v.2 _ _ b0
  refine .mv rfl (.nil (d4 _ _ (.ret (h _ _ (⟨_, rfl, ?_⟩)))))
  exact ⟨_, [[0, 1, 2], [1, 2, 2], [2, 2, 2]], fun i => some ⟨List.getD [g4, e4, f2] i 0, 0, none⟩, rfl, (lit_own (gs := [g4, e4, f2]) (by simp only [LitAt]; exact ⟨⟨by omega, c⟩, ⟨by omega, o⟩, ⟨by omega, b0⟩, trivial⟩) (by simp <;> omega)).done (by exact d5) (by omega), by decide, by unfold Tb Bd; decide, a, hs⟩
theorem l02SplitG_c {H : GHeap} :
    GCalls Try.prog 124 [] H (NewGd 2 24 64 2 H) := by
  refine GCalls.body (N := 11) (rs := [.cell 0 27]) Try.func124 rfl rfl rfl rfl (fun Qx x hend => ?_)
  have b := GHeap.Le.refl H
  refine .seq (fun K1 a1 => .region ?_)
  refine .R rfl (.allocR rfl ze_27_I rfl) ?_
  rintro _ _ ⟨_, rfl, a0, _, d⟩
  replace b := b.trans a0
  have _ := GHeap.ltg d
  refine .nil (a1 _ _ (.seq (fun K2 a2 => .region ?_)))
  refine .R rfl (.litA rfl sl_24_A ze_2_L rfl rfl rfl rfl) ?_
  rintro _ _ ⟨g1, rfl, z, _, c⟩
  replace b := b.trans z
  replace d := z.2 _ _ d
  have _ := GHeap.ltg c
  refine .R rfl (.litA rfl sl_24_A ze_2_L rfl rfl rfl rfl) ?_
  rintro _ _ ⟨g2, rfl, y, _, e⟩
  replace b := b.trans y
  replace d := y.2 _ _ d
  replace c := y.2 _ _ c
  have _ := GHeap.ltg e
  refine .R rfl (.litA rfl sl_24_A ze_2_L rfl rfl rfl rfl) ?_
  rintro _ _ ⟨g3, rfl, v, _, f⟩
  replace b := b.trans v
  replace d := v.2 _ _ d
  replace c := v.2 _ _ c
  replace e := v.2 _ _ e
  have _ := GHeap.ltg f
  refine .R rfl (.litA rfl sl_24_A ze_2_L rfl rfl rfl rfl) ?_
  rintro _ _ ⟨g4, rfl, u, _, g⟩
  replace b := b.trans u
  replace d := u.2 _ _ d
  replace c := u.2 _ _ c
  replace e := u.2 _ _ e
  replace f := u.2 _ _ f
  have _ := GHeap.ltg g
  refine .R rfl (.litA rfl sl_24_A ze_2_L rfl rfl rfl rfl) ?_
  rintro _ _ ⟨g5, rfl, t, _, h⟩
  replace b := b.trans t
  replace d := t.2 _ _ d
  replace c := t.2 _ _ c
  replace e := t.2 _ _ e
  replace f := t.2 _ _ f
  replace g := t.2 _ _ g
  have _ := GHeap.ltg h
  refine .R rfl (.litA rfl sl_24_A ze_2_L rfl rfl rfl rfl) ?_
  rintro _ _ ⟨g6, rfl, o, _, i⟩
  replace b := b.trans o
  replace d := o.2 _ _ d
  replace c := o.2 _ _ c
  replace e := o.2 _ _ e
  replace f := o.2 _ _ f
  replace g := o.2 _ _ g
  replace h := o.2 _ _ h
  have _ := GHeap.ltg i
  refine .R rfl (.litA rfl sl_24_A ze_2_L rfl rfl rfl rfl) ?_
  rintro _ _ ⟨g7, rfl, m, _, n⟩
  replace b := b.trans m
  replace d := m.2 _ _ d
  replace c := m.2 _ _ c
  replace e := m.2 _ _ e
  replace f := m.2 _ _ f
  replace g := m.2 _ _ g
  replace h := m.2 _ _ h
  replace i := m.2 _ _ i
  have _ := GHeap.ltg n
  refine .R rfl (.litA rfl sl_24_A ze_2_L rfl rfl rfl rfl) ?_
  rintro _ _ ⟨g8, rfl, l, _, r⟩
  replace b := b.trans l
  replace d := l.2 _ _ d
  replace c := l.2 _ _ c
  replace e := l.2 _ _ e
  replace f := l.2 _ _ f
  replace g := l.2 _ _ g
  replace h := l.2 _ _ h
  replace i := l.2 _ _ i
  replace n := l.2 _ _ n
  have _ := GHeap.ltg r
  refine .R rfl (.litA rfl sl_25_B ze_24_Hj rfl rfl rfl rfl) ?_
  rintro _ _ ⟨g9, rfl, j, _, w⟩
  replace b := b.trans j
  replace d := j.2 _ _ d
  replace c := j.2 _ _ c
  replace e := j.2 _ _ e
  replace f := j.2 _ _ f
  replace g := j.2 _ _ g
  replace h := j.2 _ _ h
  replace i := j.2 _ _ i
  replace n := j.2 _ _ n
  replace r := j.2 _ _ r
  refine .q rfl (.build bt_27_Hj rfl rfl rfl) ?_
  refine .r0 rfl rfl (.fillA rfl sz_27_D rfl rfl rfl rfl) ?_
  rintro _ _ ⟨rfl, a, p⟩
  replace b := b.st a (fun k hk => ⟨by omega, trivial⟩)
  replace c := a.s c
  replace e := a.s e
  replace f := a.s f
  replace g := a.s g
  replace h := a.s h
  replace i := a.s i
  replace n := a.s n
  replace r := a.s r
  replace w := a.s w
  refine .nil (a2 _ _ (.ret (x _ _ (⟨_, _, _, _, rfl, ag_27_D, (by rfl), (Mem.of_get p), ?_⟩))))
  exact ⟨⟨2, [0, 1, 0, 0, 1], [0, 1, 0, 1, 0], [0, 1], [[0, -1, 2, 3, -1], [-1, 1, -1, -1, 4], [2, -1, 2, 3, -1], [-1, 3, -1, -1, 2], [4, -1, 4, 1, -1]]⟩, ⟨⟨rect_mk (by omega) (by decide) rfl (by unfold Bd; decide) (by unfold Bd; decide) rfl (by unfold Bd; decide) rfl (by unfold Tb Bd; decide), .mk' rfl (by unfold Bd; decide) (by unfold Bd; decide) rfl (by unfold IdsL; decide) rfl (by decide) (by unfold CellsT CellsR; decide)⟩, rfl⟩, b, g1, g2, g3, g9, _, rfl, ⟨c, e, f, by exact w, by omega, by omega, by omega, by omega, by omega, by omega, by omega, lit_own (gs := [g4, g5, g6, g7, g8]) (by simp only [LitAt]; exact ⟨⟨by omega, g⟩, ⟨by omega, h⟩, ⟨by omega, i⟩, ⟨by omega, n⟩, ⟨by omega, r⟩, trivial⟩) (by simp; omega), row_nes (by simp; omega), row_nes (by simp; omega), row_nes (by simp; omega)⟩⟩
set_option maxHeartbeats 8000000 in
theorem l03MonoidG_c {a : Option Addr} {r : Nat → Option Addr} {T : List (List Int)} {H : GHeap} (hin : Intss H a T r := by assumption) (hn : 1 ≤ T.length ∧ T.length ≤ 4) (ht : Tb 0 ((T.length : Int) - 1) T.length T) :
    GCalls Try.prog 122 [.slice a T.length T.length] H (NewGd 2 24 4 1 H) := by
  have n5 : ∀ i, (T.getD i []).length ≤ 1048576 := fun i => by
    by_cases hi : i < T.length
    · have := (ht i hi).1; omega
    · rw [List.getD_eq_getElem?_getD, List.getElem?_eq_none (by omega)]; simp
  refine GCalls.body (N := 14) (rs := [.cell 2 27]) Try.func122 rfl rfl rfl rfl (fun Qx t4 hend => ?_)
  refine .fg [0] rfl ?_
  have a2 := GHeap.Le.refl H
  have n := hin
  refine .seq (fun K1 t7 => .region ?_)
  refine .R rfl (.allocR rfl ze_27_I rfl) ?_
  rintro _ H2 ⟨g2, rfl, t6, _, j⟩
  have _ := t6.1
  replace a2 := a2.trans t6
  have _ := GHeap.ltg j
  replace hin := n.mono a2
  refine .nil (t7 _ _ (.seq (fun K2 t9 => .region (.mv rfl (.q rfl (.len sl_25_B rfl) (.mv rfl (.nil (t9 _ _ (.seq (fun K3 u0 => ?_))))))))))
  refine .regionD mo_B (.q 0 (.q 2 (.q 5 (.or (.c 1 1 (.or (.c 3 1 (.or (.c 4 1 (.c 6 1 (.q 7 (.c 8 0 (.done))))) (.c 6 1 (.c 4 1 (.q 7 (.c 8 0 (.done))))))) (.or (.c 4 1 (.or (.c 3 1 (.c 6 1 (.q 7 (.c 8 0 (.done))))) (.c 6 1 (.c 3 1 (.q 7 (.c 8 0 (.done))))))) (.c 6 1 (.or (.c 3 1 (.c 4 1 (.q 7 (.c 8 0 (.done))))) (.c 4 1 (.c 3 1 (.q 7 (.c 8 0 (.done)))))))))) (.or (.c 3 1 (.or (.c 1 1 (.or (.c 4 1 (.c 6 1 (.q 7 (.c 8 0 (.done))))) (.c 6 1 (.c 4 1 (.q 7 (.c 8 0 (.done))))))) (.or (.c 4 1 (.or (.c 1 1 (.c 6 1 (.q 7 (.c 8 0 (.done))))) (.c 6 1 (.c 1 1 (.q 7 (.c 8 0 (.done))))))) (.c 6 1 (.or (.c 1 1 (.c 4 1 (.q 7 (.c 8 0 (.done))))) (.c 4 1 (.c 1 1 (.q 7 (.c 8 0 (.done)))))))))) (.or (.c 4 1 (.or (.c 1 1 (.or (.c 3 1 (.c 6 1 (.q 7 (.c 8 0 (.done))))) (.c 6 1 (.c 3 1 (.q 7 (.c 8 0 (.done))))))) (.or (.c 3 1 (.or (.c 1 1 (.c 6 1 (.q 7 (.c 8 0 (.done))))) (.c 6 1 (.c 1 1 (.q 7 (.c 8 0 (.done))))))) (.c 6 1 (.or (.c 1 1 (.c 3 1 (.q 7 (.c 8 0 (.done))))) (.c 3 1 (.c 1 1 (.q 7 (.c 8 0 (.done)))))))))) (.c 6 1 (.or (.c 1 1 (.or (.c 3 1 (.c 4 1 (.q 7 (.c 8 0 (.done))))) (.c 4 1 (.c 3 1 (.q 7 (.c 8 0 (.done))))))) (.or (.c 3 1 (.or (.c 1 1 (.c 4 1 (.q 7 (.c 8 0 (.done))))) (.c 4 1 (.c 1 1 (.q 7 (.c 8 0 (.done))))))) (.c 4 1 (.or (.c 1 1 (.c 3 1 (.q 7 (.c 8 0 (.done))))) (.c 3 1 (.c 1 1 (.q 7 (.c 8 0 (.done)))))))))))))))) (by kernel_rfl) ?_
  refine .cut [(0, some _), (2, some _), (3, some _), (4, some _), (5, some _)] (.p rfl) (fun rest fr' H' => ∃ (w1 : Nat) (w2 : Nat) (w3 : Nat) (w4 : Nat) (rr : Nat → Option Addr), Sub rest fr' ∧ St [g2] H2 H' ∧ H'.get g2 = some (.row (Cat.cells ⟨1, List.replicate T.length 0, List.replicate T.length 0, [0], T⟩ (ownP w1 w2 w3 w4 rr)) 27 true) ∧ OwnCat 2 24 H2.next H' ⟨1, List.replicate T.length 0, List.replicate T.length 0, [0], T⟩ w1 w2 w3 w4 rr) ?_ ?_
  ·
   have g := St.refl [g2] H2
   refine .qB rfl (.refl _) (.move rfl) (.qB rfl (.refl _) (.move rfl) (.qB rfl (.refl _) (.move rfl) ?_))
   refine .orI ?_ ?_
   ·
    refine .c1 rfl rfl rfl rfl (.makeIN rfl sl_24_A ze_2_L by_2_L rfl rfl (by omega) (by omega) (by omega)) ?_
    rintro _ _ ⟨g7, rfl, s8, _, b8⟩
    have e := s8
    refine ⟨e, ?_⟩
    have _ := s8.1
    replace a2 := a2.trans s8
    replace g := g.le s8
    replace j := s8.2 _ _ j
    have _ := GHeap.ltg b8
    replace hin := n.mono a2
    refine .orI ?_ ?_
    ·
     refine .c1 rfl rfl rfl rfl (.makeIN rfl sl_24_A ze_2_L by_2_L rfl rfl (by omega) (by omega) (by omega)) ?_
     rintro _ _ ⟨g9, rfl, r8, _, o0⟩
     replace e := e.trans r8
     refine ⟨e, ?_⟩
     have _ := r8.1
     replace a2 := a2.trans r8
     replace g := g.le r8
     replace j := r8.2 _ _ j
     replace b8 := r8.2 _ _ b8
     have _ := GHeap.ltg o0
     replace hin := n.mono a2
     refine .orI ?_ ?_
     ·
      refine .c1 rfl rfl rfl rfl (.litA rfl sl_24_A ze_2_L rfl rfl rfl rfl) ?_
      rintro _ _ ⟨_, rfl, n2, _, o3⟩
      replace e := e.trans n2
      refine ⟨e, ?_⟩
      have _ := n2.1
      replace a2 := a2.trans n2
      replace g := g.le n2
      replace j := n2.2 _ _ j
      replace b8 := n2.2 _ _ b8
      replace o0 := n2.2 _ _ o0
      have _ := GHeap.ltg o3
      replace hin := n.mono a2
      refine .call1 rfl rfl rfl rfl rfl @Try.call109 rfl (l01Own2O_c (hl2 := n5)) ?_
      rintro _ t8 ⟨n8, _, _, rfl, s7, _, f⟩
      have rk := St.refl [g2] t8
      replace e := e.trans n8
      refine ⟨e, ?_⟩
      replace g := g.le n8
      replace j := n8.2 _ _ j
      replace b8 := n8.2 _ _ b8
      replace o0 := n8.2 _ _ o0
      replace o3 := n8.2 _ _ o3
      refine .qB rfl e (.build bt_27_Hj rfl rfl rfl) ?_
      refine .r0 rfl rfl rfl (.fillA rfl sz_27_D rfl rfl rfl rfl) ?_
      rintro _ _ ⟨rfl, h9, _⟩
      replace g := g.sA h9
      replace rk := rk.sA h9
      have t : NE g7 g2 := .a
      replace b8 := h9.s b8 t.ne
      have j3 : NE g9 g2 := .a
      replace o0 := h9.s o0 j3.ne
      replace o3 := h9.s o3
      replace s7 := h9.s s7
      refine .done ?_
      exact ⟨_, _, _, _, _, (.p rfl), g, by simp only [Cat.cells, ownP, List.length_replicate]; assumption, ⟨by assumption, by assumption, by assumption, by assumption, by omega, by omega, by omega, by omega, by omega, by omega, by omega, (f.st rk (.cons (f.lowNe (by omega)) (.nil _ _))).low (by omega), by first | exact f.lowNe (by omega) | exact f.ne (by omega), by first | exact f.lowNe (by omega) | exact f.ne (by omega), by first | exact f.lowNe (by omega) | exact f.ne (by omega)⟩⟩
     refine .call1 rfl rfl rfl rfl rfl @Try.call109 rfl (l01Own2O_c (hl2 := n5)) ?_
     rintro _ s1 ⟨j5, _, _, rfl, j9, _, f⟩
     have rk := St.refl [g2] s1
     replace e := e.trans j5
     refine ⟨e, ?_⟩
     replace g := g.le j5
     replace j := j5.2 _ _ j
     replace b8 := j5.2 _ _ b8
     replace o0 := j5.2 _ _ o0
     have _ := GHeap.ltg j9
     refine .c1 rfl rfl rfl rfl (.litA rfl sl_24_A ze_2_L rfl rfl rfl rfl) ?_
     rintro _ _ ⟨_, rfl, f6, _, o4⟩
     replace e := e.trans f6
     refine ⟨e, ?_⟩
     replace g := g.le f6
     replace rk := rk.le f6
     replace j := f6.2 _ _ j
     replace b8 := f6.2 _ _ b8
     replace o0 := f6.2 _ _ o0
     replace j9 := f6.2 _ _ j9
     refine .qB rfl e (.build bt_27_Hj rfl rfl rfl) ?_
     refine .r0 rfl rfl rfl (.fillA rfl sz_27_D rfl rfl rfl rfl) ?_
     rintro _ _ ⟨rfl, c4, _⟩
     replace g := g.sA c4
     replace rk := rk.sA c4
     have t : NE g7 g2 := .a
     replace b8 := c4.s b8 t.ne
     have j3 : NE g9 g2 := .a
     replace o0 := c4.s o0 j3.ne
     replace j9 := c4.s j9
     replace o4 := c4.s o4
     refine .done ?_
     exact ⟨_, _, _, _, _, (.p rfl), g, by simp only [Cat.cells, ownP, List.length_replicate]; assumption, ⟨by assumption, by assumption, by assumption, by assumption, by omega, by omega, by omega, by omega, by omega, by omega, by omega, (f.st rk (.cons (f.lowNe (by omega)) (.nil _ _))).low (by omega), by first | exact f.lowNe (by omega) | exact f.ne (by omega), by first | exact f.lowNe (by omega) | exact f.ne (by omega), by first | exact f.lowNe (by omega) | exact f.ne (by omega)⟩⟩
    refine .orI ?_ ?_
    ·
     refine .c1 rfl rfl rfl rfl (.litA rfl sl_24_A ze_2_L rfl rfl rfl rfl) ?_
     rintro _ _ ⟨q5, rfl, i1, _, a0⟩
     replace e := e.trans i1
     refine ⟨e, ?_⟩
     have _ := i1.1
     replace a2 := a2.trans i1
     replace g := g.le i1
     replace j := i1.2 _ _ j
     replace b8 := i1.2 _ _ b8
     have _ := GHeap.ltg a0
     replace hin := n.mono a2
     refine .orI ?_ ?_
     ·
      refine .c1 rfl rfl rfl rfl (.makeIN rfl sl_24_A ze_2_L by_2_L rfl rfl (by omega) (by omega) (by omega)) ?_
      rintro _ _ ⟨_, rfl, l7, _, m6⟩
      replace e := e.trans l7
      refine ⟨e, ?_⟩
      have _ := l7.1
      replace a2 := a2.trans l7
      replace g := g.le l7
      replace j := l7.2 _ _ j
      replace b8 := l7.2 _ _ b8
      replace a0 := l7.2 _ _ a0
      have _ := GHeap.ltg m6
      replace hin := n.mono a2
      refine .call1 rfl rfl rfl rfl rfl @Try.call109 rfl (l01Own2O_c (hl2 := n5)) ?_
      rintro _ t3 ⟨i4, _, _, rfl, o8, _, f⟩
      have rk := St.refl [g2] t3
      replace e := e.trans i4
      refine ⟨e, ?_⟩
      replace g := g.le i4
      replace j := i4.2 _ _ j
      replace b8 := i4.2 _ _ b8
      replace a0 := i4.2 _ _ a0
      replace m6 := i4.2 _ _ m6
      refine .qB rfl e (.build bt_27_Hj rfl rfl rfl) ?_
      refine .r0 rfl rfl rfl (.fillA rfl sz_27_D rfl rfl rfl rfl) ?_
      rintro _ _ ⟨rfl, c6, _⟩
      replace g := g.sA c6
      replace rk := rk.sA c6
      have t : NE g7 g2 := .a
      replace b8 := c6.s b8 t.ne
      have d6 : NE q5 g2 := .a
      replace a0 := c6.s a0 d6.ne
      replace m6 := c6.s m6
      replace o8 := c6.s o8
      refine .done ?_
      exact ⟨_, _, _, _, _, (.p rfl), g, by simp only [Cat.cells, ownP, List.length_replicate]; assumption, ⟨by assumption, by assumption, by assumption, by assumption, by omega, by omega, by omega, by omega, by omega, by omega, by omega, (f.st rk (.cons (f.lowNe (by omega)) (.nil _ _))).low (by omega), by first | exact f.lowNe (by omega) | exact f.ne (by omega), by first | exact f.lowNe (by omega) | exact f.ne (by omega), by first | exact f.lowNe (by omega) | exact f.ne (by omega)⟩⟩
     refine .call1 rfl rfl rfl rfl rfl @Try.call109 rfl (l01Own2O_c (hl2 := n5)) ?_
     rintro _ t2 ⟨k1, _, _, rfl, l4, _, f⟩
     have rk := St.refl [g2] t2
     replace e := e.trans k1
     refine ⟨e, ?_⟩
     replace g := g.le k1
     replace j := k1.2 _ _ j
     replace b8 := k1.2 _ _ b8
     replace a0 := k1.2 _ _ a0
     have _ := GHeap.ltg l4
     refine .c1 rfl rfl rfl rfl (.makeIN rfl sl_24_A ze_2_L by_2_L rfl rfl (by omega) (by omega) (by omega)) ?_
     rintro _ _ ⟨_, rfl, k8, _, q9⟩
     replace e := e.trans k8
     refine ⟨e, ?_⟩
     replace g := g.le k8
     replace rk := rk.le k8
     replace j := k8.2 _ _ j
     replace b8 := k8.2 _ _ b8
     replace a0 := k8.2 _ _ a0
     replace l4 := k8.2 _ _ l4
     refine .qB rfl e (.build bt_27_Hj rfl rfl rfl) ?_
     refine .r0 rfl rfl rfl (.fillA rfl sz_27_D rfl rfl rfl rfl) ?_
     rintro _ _ ⟨rfl, c5, _⟩
     replace g := g.sA c5
     replace rk := rk.sA c5
     have t : NE g7 g2 := .a
     replace b8 := c5.s b8 t.ne
     have d6 : NE q5 g2 := .a
     replace a0 := c5.s a0 d6.ne
     replace l4 := c5.s l4
     replace q9 := c5.s q9
     refine .done ?_
     exact ⟨_, _, _, _, _, (.p rfl), g, by simp only [Cat.cells, ownP, List.length_replicate]; assumption, ⟨by assumption, by assumption, by assumption, by assumption, by omega, by omega, by omega, by omega, by omega, by omega, by omega, (f.st rk (.cons (f.lowNe (by omega)) (.nil _ _))).low (by omega), by first | exact f.lowNe (by omega) | exact f.ne (by omega), by first | exact f.lowNe (by omega) | exact f.ne (by omega), by first | exact f.lowNe (by omega) | exact f.ne (by omega)⟩⟩
    refine .call1 rfl rfl rfl rfl rfl @Try.call109 rfl (l01Own2O_c (hl2 := n5)) ?_
    rintro _ r9 ⟨m3, q2, _, rfl, a1, _, f⟩
    have rk := St.refl [g2] r9
    replace e := e.trans m3
    refine ⟨e, ?_⟩
    replace g := g.le m3
    replace j := m3.2 _ _ j
    replace b8 := m3.2 _ _ b8
    have _ := GHeap.ltg a1
    refine .orI ?_ ?_
    ·
     refine .c1 rfl rfl rfl rfl (.makeIN rfl sl_24_A ze_2_L by_2_L rfl rfl (by omega) (by omega) (by omega)) ?_
     rintro _ _ ⟨_, rfl, m0, _, n0⟩
     replace e := e.trans m0
     refine ⟨e, ?_⟩
     replace g := g.le m0
     replace rk := rk.le m0
     replace j := m0.2 _ _ j
     replace b8 := m0.2 _ _ b8
     replace a1 := m0.2 _ _ a1
     have _ := GHeap.ltg n0
     refine .c1 rfl rfl rfl rfl (.litA rfl sl_24_A ze_2_L rfl rfl rfl rfl) ?_
     rintro _ _ ⟨_, rfl, f1, _, p6⟩
     replace e := e.trans f1
     refine ⟨e, ?_⟩
     replace g := g.le f1
     replace rk := rk.le f1
     replace j := f1.2 _ _ j
     replace b8 := f1.2 _ _ b8
     replace a1 := f1.2 _ _ a1
     replace n0 := f1.2 _ _ n0
     refine .qB rfl e (.build bt_27_Hj rfl rfl rfl) ?_
     refine .r0 rfl rfl rfl (.fillA rfl sz_27_D rfl rfl rfl rfl) ?_
     rintro _ _ ⟨rfl, c9, _⟩
     replace g := g.sA c9
     replace rk := rk.sA c9
     have t : NE g7 g2 := .a
     replace b8 := c9.s b8 t.ne
     have e0 : NE q2 g2 := .a
     replace a1 := c9.s a1 e0.ne
     replace n0 := c9.s n0
     replace p6 := c9.s p6
     refine .done ?_
     exact ⟨_, _, _, _, _, (.p rfl), g, by simp only [Cat.cells, ownP, List.length_replicate]; assumption, ⟨by assumption, by assumption, by assumption, by assumption, by omega, by omega, by omega, by omega, by omega, by omega, by omega, (f.st rk (.cons (f.lowNe (by omega)) (.nil _ _))).low (by omega), by first | exact f.lowNe (by omega) | exact f.ne (by omega), by first | exact f.lowNe (by omega) | exact f.ne (by omega), by first | exact f.lowNe (by omega) | exact f.ne (by omega)⟩⟩
    refine .c1 rfl rfl rfl rfl (.litA rfl sl_24_A ze_2_L rfl rfl rfl rfl) ?_
    rintro _ _ ⟨_, rfl, h3, _, l3⟩
    replace e := e.trans h3
    refine ⟨e, ?_⟩
    replace g := g.le h3
    replace rk := rk.le h3
    replace j := h3.2 _ _ j
    replace b8 := h3.2 _ _ b8
    replace a1 := h3.2 _ _ a1
    have _ := GHeap.ltg l3
    refine .c1 rfl rfl rfl rfl (.makeIN rfl sl_24_A ze_2_L by_2_L rfl rfl (by omega) (by omega) (by omega)) ?_
    rintro _ _ ⟨_, rfl, l5, _, p9⟩
    replace e := e.trans l5
    refine ⟨e, ?_⟩
    replace g := g.le l5
    replace rk := rk.le l5
    replace j := l5.2 _ _ j
    replace b8 := l5.2 _ _ b8
    replace a1 := l5.2 _ _ a1
    replace l3 := l5.2 _ _ l3
    refine .qB rfl e (.build bt_27_Hj rfl rfl rfl) ?_
    refine .r0 rfl rfl rfl (.fillA rfl sz_27_D rfl rfl rfl rfl) ?_
    rintro _ _ ⟨rfl, c2, _⟩
    replace g := g.sA c2
    replace rk := rk.sA c2
    have t : NE g7 g2 := .a
    replace b8 := c2.s b8 t.ne
    have e0 : NE q2 g2 := .a
    replace a1 := c2.s a1 e0.ne
    replace l3 := c2.s l3
    replace p9 := c2.s p9
    refine .done ?_
    exact ⟨_, _, _, _, _, (.p rfl), g, by simp only [Cat.cells, ownP, List.length_replicate]; assumption, ⟨by assumption, by assumption, by assumption, by assumption, by omega, by omega, by omega, by omega, by omega, by omega, by omega, (f.st rk (.cons (f.lowNe (by omega)) (.nil _ _))).low (by omega), by first | exact f.lowNe (by omega) | exact f.ne (by omega), by first | exact f.lowNe (by omega) | exact f.ne (by omega), by first | exact f.lowNe (by omega) | exact f.ne (by omega)⟩⟩
   refine .orI ?_ ?_
   ·
    refine .c1 rfl rfl rfl rfl (.makeIN rfl sl_24_A ze_2_L by_2_L rfl rfl (by omega) (by omega) (by omega)) ?_
    rintro _ _ ⟨n9, rfl, m7, _, h⟩
    have e := m7
    refine ⟨e, ?_⟩
    have _ := m7.1
    replace a2 := a2.trans m7
    replace g := g.le m7
    replace j := m7.2 _ _ j
    have _ := GHeap.ltg h
    replace hin := n.mono a2
    refine .orI ?_ ?_
    ·
     refine .c1 rfl rfl rfl rfl (.makeIN rfl sl_24_A ze_2_L by_2_L rfl rfl (by omega) (by omega) (by omega)) ?_
     rintro _ _ ⟨s9, rfl, l9, _, c3⟩
     replace e := e.trans l9
     refine ⟨e, ?_⟩
     have _ := l9.1
     replace a2 := a2.trans l9
     replace g := g.le l9
     replace j := l9.2 _ _ j
     replace h := l9.2 _ _ h
     have _ := GHeap.ltg c3
     replace hin := n.mono a2
     refine .orI ?_ ?_
     ·
      refine .c1 rfl rfl rfl rfl (.litA rfl sl_24_A ze_2_L rfl rfl rfl rfl) ?_
      rintro _ _ ⟨_, rfl, f7, _, k4⟩
      replace e := e.trans f7
      refine ⟨e, ?_⟩
      have _ := f7.1
      replace a2 := a2.trans f7
      replace g := g.le f7
      replace j := f7.2 _ _ j
      replace h := f7.2 _ _ h
      replace c3 := f7.2 _ _ c3
      have _ := GHeap.ltg k4
      replace hin := n.mono a2
      refine .call1 rfl rfl rfl rfl rfl @Try.call109 rfl (l01Own2O_c (hl2 := n5)) ?_
      rintro _ s3 ⟨i3, _, _, rfl, o2, _, f⟩
      have rk := St.refl [g2] s3
      replace e := e.trans i3
      refine ⟨e, ?_⟩
      replace g := g.le i3
      replace j := i3.2 _ _ j
      replace h := i3.2 _ _ h
      replace c3 := i3.2 _ _ c3
      replace k4 := i3.2 _ _ k4
      refine .qB rfl e (.build bt_27_Hj rfl rfl rfl) ?_
      refine .r0 rfl rfl rfl (.fillA rfl sz_27_D rfl rfl rfl rfl) ?_
      rintro _ _ ⟨rfl, c8, _⟩
      replace g := g.sA c8
      replace rk := rk.sA c8
      have o : NE n9 g2 := .a
      replace h := c8.s h o.ne
      have f3 : NE s9 g2 := .a
      replace c3 := c8.s c3 f3.ne
      replace k4 := c8.s k4
      replace o2 := c8.s o2
      refine .done ?_
      exact ⟨_, _, _, _, _, (.p rfl), g, by simp only [Cat.cells, ownP, List.length_replicate]; assumption, ⟨by assumption, by assumption, by assumption, by assumption, by omega, by omega, by omega, by omega, by omega, by omega, by omega, (f.st rk (.cons (f.lowNe (by omega)) (.nil _ _))).low (by omega), by first | exact f.lowNe (by omega) | exact f.ne (by omega), by first | exact f.lowNe (by omega) | exact f.ne (by omega), by first | exact f.lowNe (by omega) | exact f.ne (by omega)⟩⟩
     refine .call1 rfl rfl rfl rfl rfl @Try.call109 rfl (l01Own2O_c (hl2 := n5)) ?_
     rintro _ s2 ⟨l1, _, _, rfl, k3, _, f⟩
     have rk := St.refl [g2] s2
     replace e := e.trans l1
     refine ⟨e, ?_⟩
     replace g := g.le l1
     replace j := l1.2 _ _ j
     replace h := l1.2 _ _ h
     replace c3 := l1.2 _ _ c3
     have _ := GHeap.ltg k3
     refine .c1 rfl rfl rfl rfl (.litA rfl sl_24_A ze_2_L rfl rfl rfl rfl) ?_
     rintro _ _ ⟨_, rfl, e7, _, o1⟩
     replace e := e.trans e7
     refine ⟨e, ?_⟩
     replace g := g.le e7
     replace rk := rk.le e7
     replace j := e7.2 _ _ j
     replace h := e7.2 _ _ h
     replace c3 := e7.2 _ _ c3
     replace k3 := e7.2 _ _ k3
     refine .qB rfl e (.build bt_27_Hj rfl rfl rfl) ?_
     refine .r0 rfl rfl rfl (.fillA rfl sz_27_D rfl rfl rfl rfl) ?_
     rintro _ _ ⟨rfl, c0, _⟩
     replace g := g.sA c0
     replace rk := rk.sA c0
     have o : NE n9 g2 := .a
     replace h := c0.s h o.ne
     have f3 : NE s9 g2 := .a
     replace c3 := c0.s c3 f3.ne
     replace k3 := c0.s k3
     replace o1 := c0.s o1
     refine .done ?_
     exact ⟨_, _, _, _, _, (.p rfl), g, by simp only [Cat.cells, ownP, List.length_replicate]; assumption, ⟨by assumption, by assumption, by assumption, by assumption, by omega, by omega, by omega, by omega, by omega, by omega, by omega, (f.st rk (.cons (f.lowNe (by omega)) (.nil _ _))).low (by omega), by first | exact f.lowNe (by omega) | exact f.ne (by omega), by first | exact f.lowNe (by omega) | exact f.ne (by omega), by first | exact f.lowNe (by omega) | exact f.ne (by omega)⟩⟩
    refine .orI ?_ ?_
    ·
     refine .c1 rfl rfl rfl rfl (.litA rfl sl_24_A ze_2_L rfl rfl rfl rfl) ?_
     rintro _ _ ⟨q7, rfl, i6, _, z⟩
     replace e := e.trans i6
     refine ⟨e, ?_⟩
     have _ := i6.1
     replace a2 := a2.trans i6
     replace g := g.le i6
     replace j := i6.2 _ _ j
     replace h := i6.2 _ _ h
     have _ := GHeap.ltg z
     replace hin := n.mono a2
     refine .orI ?_ ?_
     ·
      refine .c1 rfl rfl rfl rfl (.makeIN rfl sl_24_A ze_2_L by_2_L rfl rfl (by omega) (by omega) (by omega)) ?_
      rintro _ _ ⟨_, rfl, k5, _, m9⟩
      replace e := e.trans k5
      refine ⟨e, ?_⟩
      have _ := k5.1
      replace a2 := a2.trans k5
      replace g := g.le k5
      replace j := k5.2 _ _ j
      replace h := k5.2 _ _ h
      replace z := k5.2 _ _ z
      have _ := GHeap.ltg m9
      replace hin := n.mono a2
      refine .call1 rfl rfl rfl rfl rfl @Try.call109 rfl (l01Own2O_c (hl2 := n5)) ?_
      rintro _ t0 ⟨h4, _, _, rfl, p0, _, f⟩
      have rk := St.refl [g2] t0
      replace e := e.trans h4
      refine ⟨e, ?_⟩
      replace g := g.le h4
      replace j := h4.2 _ _ j
      replace h := h4.2 _ _ h
      replace z := h4.2 _ _ z
      replace m9 := h4.2 _ _ m9
      refine .qB rfl e (.build bt_27_Hj rfl rfl rfl) ?_
      refine .r0 rfl rfl rfl (.fillA rfl sz_27_D rfl rfl rfl rfl) ?_
      rintro _ _ ⟨rfl, b9, _⟩
      replace g := g.sA b9
      replace rk := rk.sA b9
      have o : NE n9 g2 := .a
      replace h := b9.s h o.ne
      have d7 : NE q7 g2 := .a
      replace z := b9.s z d7.ne
      replace m9 := b9.s m9
      replace p0 := b9.s p0
      refine .done ?_
      exact ⟨_, _, _, _, _, (.p rfl), g, by simp only [Cat.cells, ownP, List.length_replicate]; assumption, ⟨by assumption, by assumption, by assumption, by assumption, by omega, by omega, by omega, by omega, by omega, by omega, by omega, (f.st rk (.cons (f.lowNe (by omega)) (.nil _ _))).low (by omega), by first | exact f.lowNe (by omega) | exact f.ne (by omega), by first | exact f.lowNe (by omega) | exact f.ne (by omega), by first | exact f.lowNe (by omega) | exact f.ne (by omega)⟩⟩
     refine .call1 rfl rfl rfl rfl rfl @Try.call109 rfl (l01Own2O_c (hl2 := n5)) ?_
     rintro _ t1 ⟨j0, _, _, rfl, j4, _, f⟩
     have rk := St.refl [g2] t1
     replace e := e.trans j0
     refine ⟨e, ?_⟩
     replace g := g.le j0
     replace j := j0.2 _ _ j
     replace h := j0.2 _ _ h
     replace z := j0.2 _ _ z
     have _ := GHeap.ltg j4
     refine .c1 rfl rfl rfl rfl (.makeIN rfl sl_24_A ze_2_L by_2_L rfl rfl (by omega) (by omega) (by omega)) ?_
     rintro _ _ ⟨_, rfl, k2, _, q8⟩
     replace e := e.trans k2
     refine ⟨e, ?_⟩
     replace g := g.le k2
     replace rk := rk.le k2
     replace j := k2.2 _ _ j
     replace h := k2.2 _ _ h
     replace z := k2.2 _ _ z
     replace j4 := k2.2 _ _ j4
     refine .qB rfl e (.build bt_27_Hj rfl rfl rfl) ?_
     refine .r0 rfl rfl rfl (.fillA rfl sz_27_D rfl rfl rfl rfl) ?_
     rintro _ _ ⟨rfl, a7, _⟩
     replace g := g.sA a7
     replace rk := rk.sA a7
     have o : NE n9 g2 := .a
     replace h := a7.s h o.ne
     have d7 : NE q7 g2 := .a
     replace z := a7.s z d7.ne
     replace j4 := a7.s j4
     replace q8 := a7.s q8
     refine .done ?_
     exact ⟨_, _, _, _, _, (.p rfl), g, by simp only [Cat.cells, ownP, List.length_replicate]; assumption, ⟨by assumption, by assumption, by assumption, by assumption, by omega, by omega, by omega, by omega, by omega, by omega, by omega, (f.st rk (.cons (f.lowNe (by omega)) (.nil _ _))).low (by omega), by first | exact f.lowNe (by omega) | exact f.ne (by omega), by first | exact f.lowNe (by omega) | exact f.ne (by omega), by first | exact f.lowNe (by omega) | exact f.ne (by omega)⟩⟩
    refine .call1 rfl rfl rfl rfl rfl @Try.call109 rfl (l01Own2O_c (hl2 := n5)) ?_
    rintro _ r5 ⟨i7, p5, _, rfl, w, _, f⟩
    have rk := St.refl [g2] r5
    replace e := e.trans i7
    refine ⟨e, ?_⟩
    replace g := g.le i7
    replace j := i7.2 _ _ j
    replace h := i7.2 _ _ h
    have _ := GHeap.ltg w
    refine .orI ?_ ?_
    ·
     refine .c1 rfl rfl rfl rfl (.makeIN rfl sl_24_A ze_2_L by_2_L rfl rfl (by omega) (by omega) (by omega)) ?_
     rintro _ _ ⟨_, rfl, m2, _, m5⟩
     replace e := e.trans m2
     refine ⟨e, ?_⟩
     replace g := g.le m2
     replace rk := rk.le m2
     replace j := m2.2 _ _ j
     replace h := m2.2 _ _ h
     replace w := m2.2 _ _ w
     have _ := GHeap.ltg m5
     refine .c1 rfl rfl rfl rfl (.litA rfl sl_24_A ze_2_L rfl rfl rfl rfl) ?_
     rintro _ _ ⟨_, rfl, f8, _, p4⟩
     replace e := e.trans f8
     refine ⟨e, ?_⟩
     replace g := g.le f8
     replace rk := rk.le f8
     replace j := f8.2 _ _ j
     replace h := f8.2 _ _ h
     replace w := f8.2 _ _ w
     replace m5 := f8.2 _ _ m5
     refine .qB rfl e (.build bt_27_Hj rfl rfl rfl) ?_
     refine .r0 rfl rfl rfl (.fillA rfl sz_27_D rfl rfl rfl rfl) ?_
     rintro _ _ ⟨rfl, a9, _⟩
     replace g := g.sA a9
     replace rk := rk.sA a9
     have o : NE n9 g2 := .a
     replace h := a9.s h o.ne
     have d5 : NE p5 g2 := .a
     replace w := a9.s w d5.ne
     replace m5 := a9.s m5
     replace p4 := a9.s p4
     refine .done ?_
     exact ⟨_, _, _, _, _, (.p rfl), g, by simp only [Cat.cells, ownP, List.length_replicate]; assumption, ⟨by assumption, by assumption, by assumption, by assumption, by omega, by omega, by omega, by omega, by omega, by omega, by omega, (f.st rk (.cons (f.lowNe (by omega)) (.nil _ _))).low (by omega), by first | exact f.lowNe (by omega) | exact f.ne (by omega), by first | exact f.lowNe (by omega) | exact f.ne (by omega), by first | exact f.lowNe (by omega) | exact f.ne (by omega)⟩⟩
    refine .c1 rfl rfl rfl rfl (.litA rfl sl_24_A ze_2_L rfl rfl rfl rfl) ?_
    rintro _ _ ⟨_, rfl, e3, _, g0⟩
    replace e := e.trans e3
    refine ⟨e, ?_⟩
    replace g := g.le e3
    replace rk := rk.le e3
    replace j := e3.2 _ _ j
    replace h := e3.2 _ _ h
    replace w := e3.2 _ _ w
    have _ := GHeap.ltg g0
    refine .c1 rfl rfl rfl rfl (.makeIN rfl sl_24_A ze_2_L by_2_L rfl rfl (by omega) (by omega) (by omega)) ?_
    rintro _ _ ⟨_, rfl, i9, _, q3⟩
    replace e := e.trans i9
    refine ⟨e, ?_⟩
    replace g := g.le i9
    replace rk := rk.le i9
    replace j := i9.2 _ _ j
    replace h := i9.2 _ _ h
    replace w := i9.2 _ _ w
    replace g0 := i9.2 _ _ g0
    refine .qB rfl e (.build bt_27_Hj rfl rfl rfl) ?_
    refine .r0 rfl rfl rfl (.fillA rfl sz_27_D rfl rfl rfl rfl) ?_
    rintro _ _ ⟨rfl, b1, _⟩
    replace g := g.sA b1
    replace rk := rk.sA b1
    have o : NE n9 g2 := .a
    replace h := b1.s h o.ne
    have d5 : NE p5 g2 := .a
    replace w := b1.s w d5.ne
    replace g0 := b1.s g0
    replace q3 := b1.s q3
    refine .done ?_
    exact ⟨_, _, _, _, _, (.p rfl), g, by simp only [Cat.cells, ownP, List.length_replicate]; assumption, ⟨by assumption, by assumption, by assumption, by assumption, by omega, by omega, by omega, by omega, by omega, by omega, by omega, (f.st rk (.cons (f.lowNe (by omega)) (.nil _ _))).low (by omega), by first | exact f.lowNe (by omega) | exact f.ne (by omega), by first | exact f.lowNe (by omega) | exact f.ne (by omega), by first | exact f.lowNe (by omega) | exact f.ne (by omega)⟩⟩
   refine .orI ?_ ?_
   ·
    refine .c1 rfl rfl rfl rfl (.litA rfl sl_24_A ze_2_L rfl rfl rfl rfl) ?_
    rintro _ _ ⟨i5, rfl, h1, _, b⟩
    have e := h1
    refine ⟨e, ?_⟩
    have _ := h1.1
    replace a2 := a2.trans h1
    replace g := g.le h1
    replace j := h1.2 _ _ j
    have _ := GHeap.ltg b
    replace hin := n.mono a2
    refine .orI ?_ ?_
    ·
     refine .c1 rfl rfl rfl rfl (.makeIN rfl sl_24_A ze_2_L by_2_L rfl rfl (by omega) (by omega) (by omega)) ?_
     rintro _ _ ⟨s5, rfl, m1, _, d0⟩
     replace e := e.trans m1
     refine ⟨e, ?_⟩
     have _ := m1.1
     replace a2 := a2.trans m1
     replace g := g.le m1
     replace j := m1.2 _ _ j
     replace b := m1.2 _ _ b
     have _ := GHeap.ltg d0
     replace hin := n.mono a2
     refine .orI ?_ ?_
     ·
      refine .c1 rfl rfl rfl rfl (.makeIN rfl sl_24_A ze_2_L by_2_L rfl rfl (by omega) (by omega) (by omega)) ?_
      rintro _ _ ⟨_, rfl, j1, _, m8⟩
      replace e := e.trans j1
      refine ⟨e, ?_⟩
      have _ := j1.1
      replace a2 := a2.trans j1
      replace g := g.le j1
      replace j := j1.2 _ _ j
      replace b := j1.2 _ _ b
      replace d0 := j1.2 _ _ d0
      have _ := GHeap.ltg m8
      replace hin := n.mono a2
      refine .call1 rfl rfl rfl rfl rfl @Try.call109 rfl (l01Own2O_c (hl2 := n5)) ?_
      rintro _ r7 ⟨e5, _, _, rfl, n4, _, f⟩
      have rk := St.refl [g2] r7
      replace e := e.trans e5
      refine ⟨e, ?_⟩
      replace g := g.le e5
      replace j := e5.2 _ _ j
      replace b := e5.2 _ _ b
      replace d0 := e5.2 _ _ d0
      replace m8 := e5.2 _ _ m8
      refine .qB rfl e (.build bt_27_Hj rfl rfl rfl) ?_
      refine .r0 rfl rfl rfl (.fillA rfl sz_27_D rfl rfl rfl rfl) ?_
      rintro _ _ ⟨rfl, b6, _⟩
      replace g := g.sA b6
      replace rk := rk.sA b6
      have l : NE i5 g2 := .a
      replace b := b6.s b l.ne
      have e9 : NE s5 g2 := .a
      replace d0 := b6.s d0 e9.ne
      replace m8 := b6.s m8
      replace n4 := b6.s n4
      refine .done ?_
      exact ⟨_, _, _, _, _, (.p rfl), g, by simp only [Cat.cells, ownP, List.length_replicate]; assumption, ⟨by assumption, by assumption, by assumption, by assumption, by omega, by omega, by omega, by omega, by omega, by omega, by omega, (f.st rk (.cons (f.lowNe (by omega)) (.nil _ _))).low (by omega), by first | exact f.lowNe (by omega) | exact f.ne (by omega), by first | exact f.lowNe (by omega) | exact f.ne (by omega), by first | exact f.lowNe (by omega) | exact f.ne (by omega)⟩⟩
     refine .call1 rfl rfl rfl rfl rfl @Try.call109 rfl (l01Own2O_c (hl2 := n5)) ?_
     rintro _ r6 ⟨g4, _, _, rfl, g1, _, f⟩
     have rk := St.refl [g2] r6
     replace e := e.trans g4
     refine ⟨e, ?_⟩
     replace g := g.le g4
     replace j := g4.2 _ _ j
     replace b := g4.2 _ _ b
     replace d0 := g4.2 _ _ d0
     have _ := GHeap.ltg g1
     refine .c1 rfl rfl rfl rfl (.makeIN rfl sl_24_A ze_2_L by_2_L rfl rfl (by omega) (by omega) (by omega)) ?_
     rintro _ _ ⟨_, rfl, j6, _, q4⟩
     replace e := e.trans j6
     refine ⟨e, ?_⟩
     replace g := g.le j6
     replace rk := rk.le j6
     replace j := j6.2 _ _ j
     replace b := j6.2 _ _ b
     replace d0 := j6.2 _ _ d0
     replace g1 := j6.2 _ _ g1
     refine .qB rfl e (.build bt_27_Hj rfl rfl rfl) ?_
     refine .r0 rfl rfl rfl (.fillA rfl sz_27_D rfl rfl rfl rfl) ?_
     rintro _ _ ⟨rfl, a4, _⟩
     replace g := g.sA a4
     replace rk := rk.sA a4
     have l : NE i5 g2 := .a
     replace b := a4.s b l.ne
     have e9 : NE s5 g2 := .a
     replace d0 := a4.s d0 e9.ne
     replace g1 := a4.s g1
     replace q4 := a4.s q4
     refine .done ?_
     exact ⟨_, _, _, _, _, (.p rfl), g, by simp only [Cat.cells, ownP, List.length_replicate]; assumption, ⟨by assumption, by assumption, by assumption, by assumption, by omega, by omega, by omega, by omega, by omega, by omega, by omega, (f.st rk (.cons (f.lowNe (by omega)) (.nil _ _))).low (by omega), by first | exact f.lowNe (by omega) | exact f.ne (by omega), by first | exact f.lowNe (by omega) | exact f.ne (by omega), by first | exact f.lowNe (by omega) | exact f.ne (by omega)⟩⟩
    refine .orI ?_ ?_
    ·
     refine .c1 rfl rfl rfl rfl (.makeIN rfl sl_24_A ze_2_L by_2_L rfl rfl (by omega) (by omega) (by omega)) ?_
     rintro _ _ ⟨s4, rfl, l8, _, c7⟩
     replace e := e.trans l8
     refine ⟨e, ?_⟩
     have _ := l8.1
     replace a2 := a2.trans l8
     replace g := g.le l8
     replace j := l8.2 _ _ j
     replace b := l8.2 _ _ b
     have _ := GHeap.ltg c7
     replace hin := n.mono a2
     refine .orI ?_ ?_
     ·
      refine .c1 rfl rfl rfl rfl (.makeIN rfl sl_24_A ze_2_L by_2_L rfl rfl (by omega) (by omega) (by omega)) ?_
      rintro _ _ ⟨_, rfl, j7, _, n1⟩
      replace e := e.trans j7
      refine ⟨e, ?_⟩
      have _ := j7.1
      replace a2 := a2.trans j7
      replace g := g.le j7
      replace j := j7.2 _ _ j
      replace b := j7.2 _ _ b
      replace c7 := j7.2 _ _ c7
      have _ := GHeap.ltg n1
      replace hin := n.mono a2
      refine .call1 rfl rfl rfl rfl rfl @Try.call109 rfl (l01Own2O_c (hl2 := n5)) ?_
      rintro _ r4 ⟨e1, _, _, rfl, n7, _, f⟩
      have rk := St.refl [g2] r4
      replace e := e.trans e1
      refine ⟨e, ?_⟩
      replace g := g.le e1
      replace j := e1.2 _ _ j
      replace b := e1.2 _ _ b
      replace c7 := e1.2 _ _ c7
      replace n1 := e1.2 _ _ n1
      refine .qB rfl e (.build bt_27_Hj rfl rfl rfl) ?_
      refine .r0 rfl rfl rfl (.fillA rfl sz_27_D rfl rfl rfl rfl) ?_
      rintro _ _ ⟨rfl, a5, _⟩
      replace g := g.sA a5
      replace rk := rk.sA a5
      have l : NE i5 g2 := .a
      replace b := a5.s b l.ne
      have f4 : NE s4 g2 := .a
      replace c7 := a5.s c7 f4.ne
      replace n1 := a5.s n1
      replace n7 := a5.s n7
      refine .done ?_
      exact ⟨_, _, _, _, _, (.p rfl), g, by simp only [Cat.cells, ownP, List.length_replicate]; assumption, ⟨by assumption, by assumption, by assumption, by assumption, by omega, by omega, by omega, by omega, by omega, by omega, by omega, (f.st rk (.cons (f.lowNe (by omega)) (.nil _ _))).low (by omega), by first | exact f.lowNe (by omega) | exact f.ne (by omega), by first | exact f.lowNe (by omega) | exact f.ne (by omega), by first | exact f.lowNe (by omega) | exact f.ne (by omega)⟩⟩
     refine .call1 rfl rfl rfl rfl rfl @Try.call109 rfl (l01Own2O_c (hl2 := n5)) ?_
     rintro _ r3 ⟨g6, _, _, rfl, h0, _, f⟩
     have rk := St.refl [g2] r3
     replace e := e.trans g6
     refine ⟨e, ?_⟩
     replace g := g.le g6
     replace j := g6.2 _ _ j
     replace b := g6.2 _ _ b
     replace c7 := g6.2 _ _ c7
     have _ := GHeap.ltg h0
     refine .c1 rfl rfl rfl rfl (.makeIN rfl sl_24_A ze_2_L by_2_L rfl rfl (by omega) (by omega) (by omega)) ?_
     rintro _ _ ⟨_, rfl, l6, _, q0⟩
     replace e := e.trans l6
     refine ⟨e, ?_⟩
     replace g := g.le l6
     replace rk := rk.le l6
     replace j := l6.2 _ _ j
     replace b := l6.2 _ _ b
     replace c7 := l6.2 _ _ c7
     replace h0 := l6.2 _ _ h0
     refine .qB rfl e (.build bt_27_Hj rfl rfl rfl) ?_
     refine .r0 rfl rfl rfl (.fillA rfl sz_27_D rfl rfl rfl rfl) ?_
     rintro _ _ ⟨rfl, b3, _⟩
     replace g := g.sA b3
     replace rk := rk.sA b3
     have l : NE i5 g2 := .a
     replace b := b3.s b l.ne
     have f4 : NE s4 g2 := .a
     replace c7 := b3.s c7 f4.ne
     replace h0 := b3.s h0
     replace q0 := b3.s q0
     refine .done ?_
     exact ⟨_, _, _, _, _, (.p rfl), g, by simp only [Cat.cells, ownP, List.length_replicate]; assumption, ⟨by assumption, by assumption, by assumption, by assumption, by omega, by omega, by omega, by omega, by omega, by omega, by omega, (f.st rk (.cons (f.lowNe (by omega)) (.nil _ _))).low (by omega), by first | exact f.lowNe (by omega) | exact f.ne (by omega), by first | exact f.lowNe (by omega) | exact f.ne (by omega), by first | exact f.lowNe (by omega) | exact f.ne (by omega)⟩⟩
    refine .call1 rfl rfl rfl rfl rfl @Try.call109 rfl (l01Own2O_c (hl2 := n5)) ?_
    rintro _ r1 ⟨i8, o9, _, rfl, u, _, f⟩
    have rk := St.refl [g2] r1
    replace e := e.trans i8
    refine ⟨e, ?_⟩
    replace g := g.le i8
    replace j := i8.2 _ _ j
    replace b := i8.2 _ _ b
    have _ := GHeap.ltg u
    refine .orI ?_ ?_
    ·
     refine .c1 rfl rfl rfl rfl (.makeIN rfl sl_24_A ze_2_L by_2_L rfl rfl (by omega) (by omega) (by omega)) ?_
     rintro _ _ ⟨_, rfl, h2, _, l0⟩
     replace e := e.trans h2
     refine ⟨e, ?_⟩
     replace g := g.le h2
     replace rk := rk.le h2
     replace j := h2.2 _ _ j
     replace b := h2.2 _ _ b
     replace u := h2.2 _ _ u
     have _ := GHeap.ltg l0
     refine .c1 rfl rfl rfl rfl (.makeIN rfl sl_24_A ze_2_L by_2_L rfl rfl (by omega) (by omega) (by omega)) ?_
     rintro _ _ ⟨_, rfl, f9, _, p1⟩
     replace e := e.trans f9
     refine ⟨e, ?_⟩
     replace g := g.le f9
     replace rk := rk.le f9
     replace j := f9.2 _ _ j
     replace b := f9.2 _ _ b
     replace u := f9.2 _ _ u
     replace l0 := f9.2 _ _ l0
     refine .qB rfl e (.build bt_27_Hj rfl rfl rfl) ?_
     refine .r0 rfl rfl rfl (.fillA rfl sz_27_D rfl rfl rfl rfl) ?_
     rintro _ _ ⟨rfl, a8, _⟩
     replace g := g.sA a8
     replace rk := rk.sA a8
     have l : NE i5 g2 := .a
     replace b := a8.s b l.ne
     have d1 : NE o9 g2 := .a
     replace u := a8.s u d1.ne
     replace l0 := a8.s l0
     replace p1 := a8.s p1
     refine .done ?_
     exact ⟨_, _, _, _, _, (.p rfl), g, by simp only [Cat.cells, ownP, List.length_replicate]; assumption, ⟨by assumption, by assumption, by assumption, by assumption, by omega, by omega, by omega, by omega, by omega, by omega, by omega, (f.st rk (.cons (f.lowNe (by omega)) (.nil _ _))).low (by omega), by first | exact f.lowNe (by omega) | exact f.ne (by omega), by first | exact f.lowNe (by omega) | exact f.ne (by omega), by first | exact f.lowNe (by omega) | exact f.ne (by omega)⟩⟩
    refine .c1 rfl rfl rfl rfl (.makeIN rfl sl_24_A ze_2_L by_2_L rfl rfl (by omega) (by omega) (by omega)) ?_
    rintro _ _ ⟨_, rfl, h6, _, k6⟩
    replace e := e.trans h6
    refine ⟨e, ?_⟩
    replace g := g.le h6
    replace rk := rk.le h6
    replace j := h6.2 _ _ j
    replace b := h6.2 _ _ b
    replace u := h6.2 _ _ u
    have _ := GHeap.ltg k6
    refine .c1 rfl rfl rfl rfl (.makeIN rfl sl_24_A ze_2_L by_2_L rfl rfl (by omega) (by omega) (by omega)) ?_
    rintro _ _ ⟨_, rfl, e6, _, p2⟩
    replace e := e.trans e6
    refine ⟨e, ?_⟩
    replace g := g.le e6
    replace rk := rk.le e6
    replace j := e6.2 _ _ j
    replace b := e6.2 _ _ b
    replace u := e6.2 _ _ u
    replace k6 := e6.2 _ _ k6
    refine .qB rfl e (.build bt_27_Hj rfl rfl rfl) ?_
    refine .r0 rfl rfl rfl (.fillA rfl sz_27_D rfl rfl rfl rfl) ?_
    rintro _ _ ⟨rfl, b0, _⟩
    replace g := g.sA b0
    replace rk := rk.sA b0
    have l : NE i5 g2 := .a
    replace b := b0.s b l.ne
    have d1 : NE o9 g2 := .a
    replace u := b0.s u d1.ne
    replace k6 := b0.s k6
    replace p2 := b0.s p2
    refine .done ?_
    exact ⟨_, _, _, _, _, (.p rfl), g, by simp only [Cat.cells, ownP, List.length_replicate]; assumption, ⟨by assumption, by assumption, by assumption, by assumption, by omega, by omega, by omega, by omega, by omega, by omega, by omega, (f.st rk (.cons (f.lowNe (by omega)) (.nil _ _))).low (by omega), by first | exact f.lowNe (by omega) | exact f.ne (by omega), by first | exact f.lowNe (by omega) | exact f.ne (by omega), by first | exact f.lowNe (by omega) | exact f.ne (by omega)⟩⟩
   refine .call1 rfl rfl rfl rfl rfl @Try.call109 rfl (l01Own2O_c (hl2 := n5)) ?_
   rintro _ r2 ⟨m4, h7, _, rfl, d, _, f⟩
   have rk := St.refl [g2] r2
   have e := m4
   refine ⟨e, ?_⟩
   replace g := g.le m4
   replace j := m4.2 _ _ j
   have _ := GHeap.ltg d
   refine .orI ?_ ?_
   ·
    refine .c1 rfl rfl rfl rfl (.makeIN rfl sl_24_A ze_2_L by_2_L rfl rfl (by omega) (by omega) (by omega)) ?_
    rintro _ _ ⟨q1, rfl, l2, _, x⟩
    replace e := e.trans l2
    refine ⟨e, ?_⟩
    replace g := g.le l2
    replace rk := rk.le l2
    replace j := l2.2 _ _ j
    replace d := l2.2 _ _ d
    have _ := GHeap.ltg x
    refine .orI ?_ ?_
    ·
     refine .c1 rfl rfl rfl rfl (.makeIN rfl sl_24_A ze_2_L by_2_L rfl rfl (by omega) (by omega) (by omega)) ?_
     rintro _ _ ⟨_, rfl, h5, _, k9⟩
     replace e := e.trans h5
     refine ⟨e, ?_⟩
     replace g := g.le h5
     replace rk := rk.le h5
     replace j := h5.2 _ _ j
     replace d := h5.2 _ _ d
     replace x := h5.2 _ _ x
     have _ := GHeap.ltg k9
     refine .c1 rfl rfl rfl rfl (.litA rfl sl_24_A ze_2_L rfl rfl rfl rfl) ?_
     rintro _ _ ⟨_, rfl, d3, _, n6⟩
     replace e := e.trans d3
     refine ⟨e, ?_⟩
     replace g := g.le d3
     replace rk := rk.le d3
     replace j := d3.2 _ _ j
     replace d := d3.2 _ _ d
     replace x := d3.2 _ _ x
     replace k9 := d3.2 _ _ k9
     refine .qB rfl e (.build bt_27_Hj rfl rfl rfl) ?_
     refine .r0 rfl rfl rfl (.fillA rfl sz_27_D rfl rfl rfl rfl) ?_
     rintro _ _ ⟨rfl, b2, _⟩
     replace g := g.sA b2
     replace rk := rk.sA b2
     have m : NE h7 g2 := .a
     replace d := b2.s d m.ne
     have d9 : NE q1 g2 := .a
     replace x := b2.s x d9.ne
     replace k9 := b2.s k9
     replace n6 := b2.s n6
     refine .done ?_
     exact ⟨_, _, _, _, _, (.p rfl), g, by simp only [Cat.cells, ownP, List.length_replicate]; assumption, ⟨by assumption, by assumption, by assumption, by assumption, by omega, by omega, by omega, by omega, by omega, by omega, by omega, (f.st rk (.cons (f.lowNe (by omega)) (.nil _ _))).low (by omega), by first | exact f.lowNe (by omega) | exact f.ne (by omega), by first | exact f.lowNe (by omega) | exact f.ne (by omega), by first | exact f.lowNe (by omega) | exact f.ne (by omega)⟩⟩
    refine .c1 rfl rfl rfl rfl (.litA rfl sl_24_A ze_2_L rfl rfl rfl rfl) ?_
    rintro _ _ ⟨_, rfl, e4, _, g3⟩
    replace e := e.trans e4
    refine ⟨e, ?_⟩
    replace g := g.le e4
    replace rk := rk.le e4
    replace j := e4.2 _ _ j
    replace d := e4.2 _ _ d
    replace x := e4.2 _ _ x
    have _ := GHeap.ltg g3
    refine .c1 rfl rfl rfl rfl (.makeIN rfl sl_24_A ze_2_L by_2_L rfl rfl (by omega) (by omega) (by omega)) ?_
    rintro _ _ ⟨_, rfl, e8, _, p7⟩
    replace e := e.trans e8
    refine ⟨e, ?_⟩
    replace g := g.le e8
    replace rk := rk.le e8
    replace j := e8.2 _ _ j
    replace d := e8.2 _ _ d
    replace x := e8.2 _ _ x
    replace g3 := e8.2 _ _ g3
    refine .qB rfl e (.build bt_27_Hj rfl rfl rfl) ?_
    refine .r0 rfl rfl rfl (.fillA rfl sz_27_D rfl rfl rfl rfl) ?_
    rintro _ _ ⟨rfl, b7, _⟩
    replace g := g.sA b7
    replace rk := rk.sA b7
    have m : NE h7 g2 := .a
    replace d := b7.s d m.ne
    have d9 : NE q1 g2 := .a
    replace x := b7.s x d9.ne
    replace g3 := b7.s g3
    replace p7 := b7.s p7
    refine .done ?_
    exact ⟨_, _, _, _, _, (.p rfl), g, by simp only [Cat.cells, ownP, List.length_replicate]; assumption, ⟨by assumption, by assumption, by assumption, by assumption, by omega, by omega, by omega, by omega, by omega, by omega, by omega, (f.st rk (.cons (f.lowNe (by omega)) (.nil _ _))).low (by omega), by first | exact f.lowNe (by omega) | exact f.ne (by omega), by first | exact f.lowNe (by omega) | exact f.ne (by omega), by first | exact f.lowNe (by omega) | exact f.ne (by omega)⟩⟩
   refine .orI ?_ ?_
   ·
    refine .c1 rfl rfl rfl rfl (.makeIN rfl sl_24_A ze_2_L by_2_L rfl rfl (by omega) (by omega) (by omega)) ?_
    rintro _ _ ⟨q6, rfl, k7, _, y⟩
    replace e := e.trans k7
    refine ⟨e, ?_⟩
    replace g := g.le k7
    replace rk := rk.le k7
    replace j := k7.2 _ _ j
    replace d := k7.2 _ _ d
    have _ := GHeap.ltg y
    refine .orI ?_ ?_
    ·
     refine .c1 rfl rfl rfl rfl (.makeIN rfl sl_24_A ze_2_L by_2_L rfl rfl (by omega) (by omega) (by omega)) ?_
     rintro _ _ ⟨_, rfl, i0, _, j2⟩
     replace e := e.trans i0
     refine ⟨e, ?_⟩
     replace g := g.le i0
     replace rk := rk.le i0
     replace j := i0.2 _ _ j
     replace d := i0.2 _ _ d
     replace y := i0.2 _ _ y
     have _ := GHeap.ltg j2
     refine .c1 rfl rfl rfl rfl (.litA rfl sl_24_A ze_2_L rfl rfl rfl rfl) ?_
     rintro _ _ ⟨_, rfl, d4, _, n3⟩
     replace e := e.trans d4
     refine ⟨e, ?_⟩
     replace g := g.le d4
     replace rk := rk.le d4
     replace j := d4.2 _ _ j
     replace d := d4.2 _ _ d
     replace y := d4.2 _ _ y
     replace j2 := d4.2 _ _ j2
     refine .qB rfl e (.build bt_27_Hj rfl rfl rfl) ?_
     refine .r0 rfl rfl rfl (.fillA rfl sz_27_D rfl rfl rfl rfl) ?_
     rintro _ _ ⟨rfl, b5, _⟩
     replace g := g.sA b5
     replace rk := rk.sA b5
     have m : NE h7 g2 := .a
     replace d := b5.s d m.ne
     have d8 : NE q6 g2 := .a
     replace y := b5.s y d8.ne
     replace j2 := b5.s j2
     replace n3 := b5.s n3
     refine .done ?_
     exact ⟨_, _, _, _, _, (.p rfl), g, by simp only [Cat.cells, ownP, List.length_replicate]; assumption, ⟨by assumption, by assumption, by assumption, by assumption, by omega, by omega, by omega, by omega, by omega, by omega, by omega, (f.st rk (.cons (f.lowNe (by omega)) (.nil _ _))).low (by omega), by first | exact f.lowNe (by omega) | exact f.ne (by omega), by first | exact f.lowNe (by omega) | exact f.ne (by omega), by first | exact f.lowNe (by omega) | exact f.ne (by omega)⟩⟩
    refine .c1 rfl rfl rfl rfl (.litA rfl sl_24_A ze_2_L rfl rfl rfl rfl) ?_
    rintro _ _ ⟨_, rfl, e2, _, g5⟩
    replace e := e.trans e2
    refine ⟨e, ?_⟩
    replace g := g.le e2
    replace rk := rk.le e2
    replace j := e2.2 _ _ j
    replace d := e2.2 _ _ d
    replace y := e2.2 _ _ y
    have _ := GHeap.ltg g5
    refine .c1 rfl rfl rfl rfl (.makeIN rfl sl_24_A ze_2_L by_2_L rfl rfl (by omega) (by omega) (by omega)) ?_
    rintro _ _ ⟨_, rfl, f2, _, p3⟩
    replace e := e.trans f2
    refine ⟨e, ?_⟩
    replace g := g.le f2
    replace rk := rk.le f2
    replace j := f2.2 _ _ j
    replace d := f2.2 _ _ d
    replace y := f2.2 _ _ y
    replace g5 := f2.2 _ _ g5
    refine .qB rfl e (.build bt_27_Hj rfl rfl rfl) ?_
    refine .r0 rfl rfl rfl (.fillA rfl sz_27_D rfl rfl rfl rfl) ?_
    rintro _ _ ⟨rfl, b4, _⟩
    replace g := g.sA b4
    replace rk := rk.sA b4
    have m : NE h7 g2 := .a
    replace d := b4.s d m.ne
    have d8 : NE q6 g2 := .a
    replace y := b4.s y d8.ne
    replace g5 := b4.s g5
    replace p3 := b4.s p3
    refine .done ?_
    exact ⟨_, _, _, _, _, (.p rfl), g, by simp only [Cat.cells, ownP, List.length_replicate]; assumption, ⟨by assumption, by assumption, by assumption, by assumption, by omega, by omega, by omega, by omega, by omega, by omega, by omega, (f.st rk (.cons (f.lowNe (by omega)) (.nil _ _))).low (by omega), by first | exact f.lowNe (by omega) | exact f.ne (by omega), by first | exact f.lowNe (by omega) | exact f.ne (by omega), by first | exact f.lowNe (by omega) | exact f.ne (by omega)⟩⟩
   refine .c1 rfl rfl rfl rfl (.litA rfl sl_24_A ze_2_L rfl rfl rfl rfl) ?_
   rintro _ _ ⟨o7, rfl, g8, _, v⟩
   replace e := e.trans g8
   refine ⟨e, ?_⟩
   replace g := g.le g8
   replace rk := rk.le g8
   replace j := g8.2 _ _ j
   replace d := g8.2 _ _ d
   have _ := GHeap.ltg v
   refine .orI ?_ ?_
   ·
    refine .c1 rfl rfl rfl rfl (.makeIN rfl sl_24_A ze_2_L by_2_L rfl rfl (by omega) (by omega) (by omega)) ?_
    rintro _ _ ⟨_, rfl, h8, _, k0⟩
    replace e := e.trans h8
    refine ⟨e, ?_⟩
    replace g := g.le h8
    replace rk := rk.le h8
    replace j := h8.2 _ _ j
    replace d := h8.2 _ _ d
    replace v := h8.2 _ _ v
    have _ := GHeap.ltg k0
    refine .c1 rfl rfl rfl rfl (.makeIN rfl sl_24_A ze_2_L by_2_L rfl rfl (by omega) (by omega) (by omega)) ?_
    rintro _ _ ⟨_, rfl, f0, _, o6⟩
    replace e := e.trans f0
    refine ⟨e, ?_⟩
    replace g := g.le f0
    replace rk := rk.le f0
    replace j := f0.2 _ _ j
    replace d := f0.2 _ _ d
    replace v := f0.2 _ _ v
    replace k0 := f0.2 _ _ k0
    refine .qB rfl e (.build bt_27_Hj rfl rfl rfl) ?_
    refine .r0 rfl rfl rfl (.fillA rfl sz_27_D rfl rfl rfl rfl) ?_
    rintro _ _ ⟨rfl, a6, _⟩
    replace g := g.sA a6
    replace rk := rk.sA a6
    have m : NE h7 g2 := .a
    replace d := a6.s d m.ne
    have d2 : NE o7 g2 := .a
    replace v := a6.s v d2.ne
    replace k0 := a6.s k0
    replace o6 := a6.s o6
    refine .done ?_
    exact ⟨_, _, _, _, _, (.p rfl), g, by simp only [Cat.cells, ownP, List.length_replicate]; assumption, ⟨by assumption, by assumption, by assumption, by assumption, by omega, by omega, by omega, by omega, by omega, by omega, by omega, (f.st rk (.cons (f.lowNe (by omega)) (.nil _ _))).low (by omega), by first | exact f.lowNe (by omega) | exact f.ne (by omega), by first | exact f.lowNe (by omega) | exact f.ne (by omega), by first | exact f.lowNe (by omega) | exact f.ne (by omega)⟩⟩
   refine .c1 rfl rfl rfl rfl (.makeIN rfl sl_24_A ze_2_L by_2_L rfl rfl (by omega) (by omega) (by omega)) ?_
   rintro _ _ ⟨_, rfl, i2, _, j8⟩
   replace e := e.trans i2
   refine ⟨e, ?_⟩
   replace g := g.le i2
   replace rk := rk.le i2
   replace j := i2.2 _ _ j
   replace d := i2.2 _ _ d
   replace v := i2.2 _ _ v
   have _ := GHeap.ltg j8
   refine .c1 rfl rfl rfl rfl (.makeIN rfl sl_24_A ze_2_L by_2_L rfl rfl (by omega) (by omega) (by omega)) ?_
   rintro _ _ ⟨_, rfl, f5, _, o5⟩
   replace e := e.trans f5
   refine ⟨e, ?_⟩
   replace g := g.le f5
   replace rk := rk.le f5
   replace j := f5.2 _ _ j
   replace d := f5.2 _ _ d
   replace v := f5.2 _ _ v
   replace j8 := f5.2 _ _ j8
   refine .qB rfl e (.build bt_27_Hj rfl rfl rfl) ?_
   refine .r0 rfl rfl rfl (.fillA rfl sz_27_D rfl rfl rfl rfl) ?_
   rintro _ _ ⟨rfl, a3, _⟩
   replace g := g.sA a3
   replace rk := rk.sA a3
   have m : NE h7 g2 := .a
   replace d := a3.s d m.ne
   have d2 : NE o7 g2 := .a
   replace v := a3.s v d2.ne
   replace j8 := a3.s j8
   replace o5 := a3.s o5
   refine .done ?_
   exact ⟨_, _, _, _, _, (.p rfl), g, by simp only [Cat.cells, ownP, List.length_replicate]; assumption, ⟨by assumption, by assumption, by assumption, by assumption, by omega, by omega, by omega, by omega, by omega, by omega, by omega, (f.st rk (.cons (f.lowNe (by omega)) (.nil _ _))).low (by omega), by first | exact f.lowNe (by omega) | exact f.ne (by omega), by first | exact f.lowNe (by omega) | exact f.ne (by omega), by first | exact f.lowNe (by omega) | exact f.ne (by omega)⟩⟩
  rintro _ _ ⟨w1, w2, w3, w4, rr, p8, s0, s6, t5⟩
  replace a2 := a2.st s0 (fun k hk => ⟨by omega, trivial⟩)
  refine u0 _ _ ?_
  refine .forget p8 ?_
  refine .ret (t4 _ _ (⟨_, _, _, _, rfl, ag_27_D, (by rfl), (Mem.of_get s6), ?_⟩))
  exact ⟨⟨1, List.replicate T.length 0, List.replicate T.length 0, [0], T⟩, ⟨⟨rect_mk (by omega) (by simp; omega) (by simp) (.rep _ (by omega) (by omega)) (.rep _ (by omega) (by omega)) rfl (by unfold Bd; decide) (by simp) (by rw [List.length_replicate]; exact ht.mono (by omega) (by omega)), monoid_shp hn.1 ht⟩, rfl⟩, a2, w1, w2, w3, w4, rr, rfl, t5.low (by omega)⟩
end Go.Proofs.Ytfanjkbaemhbmaa
