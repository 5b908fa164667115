/- Categories of the families. No condition but those of each statement. -/
import Derived.Test.YtfanjkbaemhbmaaZ12
namespace Go.Proofs.Ytfanjkbaemhbmaa
open Go Go.GL Go.RowKit Go.Proofs
set_option maxHeartbeats 8000000 in
theorem l02Family_c {gS : Nat} {H : GHeap} (hs : DSrc 86 H gS := by assumption) :
    GCalls Try.prog 102 [.pointer (some ⟨gS, 0, none⟩)] H (DrawnCat 86 128 gS H) := by
  have hlS := hs.lt
  refine GCalls.body (N := 141) (rs := [.cell 2 27]) Try.func102 rfl rfl rfl rfl (fun Qx u hend => ?_)
  refine .fg [0] rfl ?_
  have b := St.refl [gS] H
  refine .seq (fun K1 cC => .region ?_)
  refine .R rfl (.allocR rfl ze_27_Hj rfl) ?_
  rintro _ H2 ⟨g2, rfl, aL, ge2, c⟩
  replace b := b.le aL
  have lt_at2 := GHeap.ltg c
  refine .nil (cC _ _ (.seq (fun K2 cS => .seq (fun K3 dH => .region (.mv rfl ?_)))))
  refine .call rfl rfl rfl rfl @Try.call30 rfl (l01Next_c (hs.le aL)) ?_
  rintro _ cJ ⟨k14, rfl, ka14, kb14, kc14, k4, hs⟩
  have nx_H14 := k4.nx
  replace b := b.sA k4
  have d : NE g2 gS := .a
  replace c := k4.s c d.ne
  refine .nil (dH _ _ ?_)
  refine .block ?_
  refine .seq (fun K4 cV => .region (.q rfl (.cmp rfl rfl rfl) (.mv rfl (.nil (cV _ _ ?_)))))
  refine .cond rfl (fun q9 => ?_) (fun q9 => ?_)
  ·
   try simp only [sps] at q9
   refine .seq (fun K5 bE => .region (.mv rfl (.mv rfl ?_)))
   refine .call rfl rfl rfl rfl @Try.call30 rfl (l01Next_c) ?_
   rintro _ H19 ⟨aY, rfl, ka19, kb19, kc19, j7, hs⟩
   have nx_H19 := j7.nx
   replace b := b.sA j7
   replace c := j7.s c d.ne
   obtain ⟨n, rfl⟩ : ∃ n : Nat, aY = (n : Int) := ⟨aY.toNat, by omega⟩
   have hn5 : n < 5 := by omega
   refine .call rfl rfl rfl rfl @Try.call32 rfl (l02Relation_c (n := n) (hn := by omega)) ?_
   rintro _ cI ⟨a20, T20, r20, rfl, bB, nT20, t1, j1, hs⟩
   have nx_H20 := j1.nx
   replace b := b.sA j1
   replace c := j1.s c d.ne
   refine .call rfl rfl rfl rfl @Try.call31 rfl (l03Poset_c (hin := bB.intss) (hn := by omega) (hr := t1)) ?_
   rintro _ aU ⟨bR, w4, j6, ga21, gb21, gc21, gd21, rr21, rfl, dE⟩
   have w8 := dE.catR
   replace b := b.le j6
   replace hs := hs.le j6
   replace c := j6.2 _ _ c
   have j8 := w8
   have b7 : Keep cI.next aU aU := fun _ _ _ h => h
   refine .r0 rfl rfl (.fillA rfl sz_27_D rfl rfl rfl rfl) ?_
   rintro _ H3005 ⟨rfl, c1, m3⟩
   replace b := b.sA c1
   replace hs := hs.sA c1
   replace b7 := Keep.st b7 c1 (fun k hb hk => ⟨(by omega), trivial⟩)
   replace w8 := j8.keep b7 (Nat.le_refl _)
   refine .nil (bE _ _ ?_)
   refine .ret ?_
   refine u _ _ ?_
   refine ⟨_, _, _, _, rfl, ag_27_D, (by rfl), (Mem.of_get m3), ?_⟩
   exact ⟨bR, _, rfl, w4.mono (by omega), w8.keep (.of_le (.refl _)) (by omega), b, hs⟩
  try simp only [sps] at q9
  refine .seq (fun K6 bH => .region (.q rfl (.cmp rfl rfl rfl) (.mv rfl (.nil (bH _ _ ?_)))))
  refine .cond rfl (fun aA => ?_) (fun aA => ?_)
  ·
   try simp only [sps] at aA
   refine .seq (fun K7 cE => .region ?_)
   refine .R rfl (.litA rfl sl_24_A ze_2_Pa rfl rfl rfl rfl) ?_
   rintro _ H24 ⟨cN, rfl, j0, ge24, d6⟩
   replace b := b.le j0
   replace hs := hs.le j0
   replace c := j0.2 _ _ c
   have lt_at24 := GHeap.ltg d6
   refine .R rfl (.litA rfl sl_24_A ze_2_Pa rfl rfl rfl rfl) ?_
   rintro _ H25 ⟨bW, rfl, f4, ge25, h5⟩
   replace b := b.le f4
   replace hs := hs.le f4
   replace c := f4.2 _ _ c
   replace d6 := f4.2 _ _ d6
   have lt_at25 := GHeap.ltg h5
   refine .R rfl (.litA rfl sl_25_B ze_24_Hj rfl rfl rfl rfl) ?_
   rintro _ cP ⟨g26, rfl, e5, ge26, p5⟩
   replace b := b.le e5
   replace hs := hs.le e5
   replace c := e5.2 _ _ c
   replace d6 := e5.2 _ _ d6
   replace h5 := e5.2 _ _ h5
   have lt_at26 := GHeap.ltg p5
   refine .call rfl rfl rfl rfl @Try.call31 rfl ((by have hh := l03Poset_c (rel := [[1, 1], [0, 1]]) (hin := ((lit_own (gs := [cN, bW]) (by simp only [LitAt]; exact ⟨⟨Nat.zero_le _, d6⟩, ⟨Nat.zero_le _, h5⟩, trivial⟩) (by simp <;> omega)).done (by exact p5) (Nat.zero_le _)).intss) (hn := by decide) (hr := by decide); exact hh)) ?_
   rintro _ aM ⟨bO, x3, j5, ga27, gb27, gc27, gd27, rr27, rfl, bG⟩
   have s7 := bG.catR
   replace b := b.le j5
   replace hs := hs.le j5
   replace c := j5.2 _ _ c
   have l6 := s7
   have c3 : Keep cP.next aM aM := fun _ _ _ h => h
   refine .r0 rfl rfl (.fillA rfl sz_27_D rfl rfl rfl rfl) ?_
   rintro _ H5004 ⟨rfl, c2, l3⟩
   replace b := b.sA c2
   replace hs := hs.sA c2
   replace c3 := Keep.st c3 c2 (fun k hb hk => ⟨(by omega), trivial⟩)
   replace s7 := l6.keep c3 (Nat.le_refl _)
   refine .nil (cE _ _ ?_)
   refine .ret ?_
   refine u _ _ ?_
   refine ⟨_, _, _, _, rfl, ag_27_D, (by rfl), (Mem.of_get l3), ?_⟩
   exact ⟨bO, _, rfl, x3.mono (by decide), s7.keep (.of_le (.refl _)) (by omega), b, hs⟩
  try simp only [sps] at aA
  refine .seq (fun K8 bU => .region (.q rfl (.cmp rfl rfl rfl) (.mv rfl (.nil (bU _ _ ?_)))))
  refine .cond rfl (fun v4 => ?_) (fun v4 => ?_)
  ·
   try simp only [sps] at v4
   refine .seq (fun K9 bN => .region ?_)
   refine .R rfl (.litA rfl sl_24_A ze_2_Pa rfl rfl rfl rfl) ?_
   rintro _ H30 ⟨bQ, rfl, l9, ge30, b3⟩
   replace b := b.le l9
   replace hs := hs.le l9
   replace c := l9.2 _ _ c
   have lt_at30 := GHeap.ltg b3
   refine .R rfl (.litA rfl sl_24_A ze_2_Pa rfl rfl rfl rfl) ?_
   rintro _ H31 ⟨dC, rfl, h2, ge31, d8⟩
   replace b := b.le h2
   replace hs := hs.le h2
   replace c := h2.2 _ _ c
   replace b3 := h2.2 _ _ b3
   have lt_at31 := GHeap.ltg d8
   refine .R rfl (.litA rfl sl_24_A ze_2_Pa rfl rfl rfl rfl) ?_
   rintro _ H32 ⟨bS, rfl, f3, ge32, g8⟩
   replace b := b.le f3
   replace hs := hs.le f3
   replace c := f3.2 _ _ c
   replace b3 := f3.2 _ _ b3
   replace d8 := f3.2 _ _ d8
   have lt_at32 := GHeap.ltg g8
   refine .R rfl (.litA rfl sl_25_B ze_24_Hj rfl rfl rfl rfl) ?_
   rintro _ bY ⟨g33, rfl, d7, ge33, p6⟩
   replace b := b.le d7
   replace hs := hs.le d7
   replace c := d7.2 _ _ c
   replace b3 := d7.2 _ _ b3
   replace d8 := d7.2 _ _ d8
   replace g8 := d7.2 _ _ g8
   have lt_at33 := GHeap.ltg p6
   refine .call rfl rfl rfl rfl @Try.call31 rfl ((by have hh := l03Poset_c (rel := [[1, 1, 1], [0, 1, 0], [0, 0, 1]]) (hin := ((lit_own (gs := [bQ, dC, bS]) (by simp only [LitAt]; exact ⟨⟨Nat.zero_le _, b3⟩, ⟨Nat.zero_le _, d8⟩, ⟨Nat.zero_le _, g8⟩, trivial⟩) (by simp <;> omega)).done (by exact p6) (Nat.zero_le _)).intss) (hn := by decide) (hr := by decide); exact hh)) ?_
   rintro _ aP ⟨bV, z0, l5, ga34, gb34, gc34, gd34, rr34, rfl, bK⟩
   have q6 := bK.catR
   replace b := b.le l5
   replace hs := hs.le l5
   replace c := l5.2 _ _ c
   have k3 := q6
   have c0 : Keep bY.next aP aP := fun _ _ _ h => h
   refine .r0 rfl rfl (.fillA rfl sz_27_D rfl rfl rfl rfl) ?_
   rintro _ H7005 ⟨rfl, b8, m5⟩
   replace b := b.sA b8
   replace hs := hs.sA b8
   replace c0 := Keep.st c0 b8 (fun k hb hk => ⟨(by omega), trivial⟩)
   replace q6 := k3.keep c0 (Nat.le_refl _)
   refine .nil (bN _ _ ?_)
   refine .ret ?_
   refine u _ _ ?_
   refine ⟨_, _, _, _, rfl, ag_27_D, (by rfl), (Mem.of_get m5), ?_⟩
   exact ⟨bV, _, rfl, z0.mono (by decide), q6.keep (.of_le (.refl _)) (by omega), b, hs⟩
  try simp only [sps] at v4
  refine .seq (fun K10 v3 => .region (.q rfl (.cmp rfl rfl rfl) (.mv rfl (.nil (v3 _ _ ?_)))))
  refine .cond rfl (fun y9 => ?_) (fun y9 => ?_)
  ·
   try simp only [sps] at y9
   refine .seq (fun K11 r4 => .region ?_)
   refine .R rfl (.litA rfl sl_24_A ze_2_Pa rfl rfl rfl rfl) ?_
   rintro _ H37 ⟨g37, rfl, m9, ge37, g6⟩
   replace b := b.le m9
   replace hs := hs.le m9
   replace c := m9.2 _ _ c
   have lt_at37 := GHeap.ltg g6
   refine .R rfl (.litA rfl sl_24_A ze_2_Pa rfl rfl rfl rfl) ?_
   rintro _ cD ⟨g38, rfl, h9, ge38, n9⟩
   replace b := b.le h9
   replace hs := hs.le h9
   replace c := h9.2 _ _ c
   replace g6 := h9.2 _ _ g6
   have lt_at38 := GHeap.ltg n9
   refine .call rfl rfl rfl rfl @Try.call121 rfl ((by have hh := l03Paths_c (n := 2) (xs := [0, 0]) (ys := [1, 1]) (ha := Ints.of_get g6) (hb := Ints.of_get n9) (hl := rfl) (hx := by decide) (hn := by decide) (hy := by unfold Bd; decide) (hup := by decide); exact hh)) ?_
   rintro _ aZ ⟨cH, y3, l0, ga39, gb39, gc39, gd39, rr39, rfl, cL⟩
   have q3 := cL.catR
   replace b := b.le l0
   replace hs := hs.le l0
   replace c := l0.2 _ _ c
   have j9 := q3
   have c4 : Keep cD.next aZ aZ := fun _ _ _ h => h
   refine .r0 rfl rfl (.fillA rfl sz_27_D rfl rfl rfl rfl) ?_
   rintro _ H9003 ⟨rfl, c7, l2⟩
   replace b := b.sA c7
   replace hs := hs.sA c7
   replace c4 := Keep.st c4 c7 (fun k hb hk => ⟨(by omega), trivial⟩)
   replace q3 := j9.keep c4 (Nat.le_refl _)
   refine .nil (r4 _ _ ?_)
   refine .ret ?_
   refine u _ _ ?_
   refine ⟨_, _, _, _, rfl, ag_27_D, (by rfl), (Mem.of_get l2), ?_⟩
   exact ⟨cH, _, rfl, y3.mono (by omega), q3.keep (.of_le (.refl _)) (by omega), b, hs⟩
  try simp only [sps] at y9
  refine .seq (fun K12 t7 => .region (.q rfl (.cmp rfl rfl rfl) (.mv rfl (.nil (t7 _ _ ?_)))))
  refine .cond rfl (fun v9 => ?_) (fun v9 => ?_)
  ·
   try simp only [sps] at v9
   refine .seq (fun K13 z5 => .region (.mv rfl ?_))
   refine .call rfl rfl rfl rfl @Try.call123 rfl (l02Monoid_c) ?_
   rintro _ bM ⟨a43, T43, r43, rfl, cA, q7, x2, j3, hs⟩
   have nx_H43 := j3.nx
   replace b := b.sA j3
   replace c := j3.s c d.ne
   refine .call rfl rfl rfl rfl @Try.call122 rfl (l03Monoid_c (hin := cA.intss) (hn := q7) (ht := x2)) ?_
   rintro _ aT ⟨dG, u7, j4, ga44, gb44, gc44, gd44, rr44, rfl, bL⟩
   have w1 := bL.catR
   replace b := b.le j4
   replace hs := hs.le j4
   replace c := j4.2 _ _ c
   have n5 := w1
   have c5 : Keep bM.next aT aT := fun _ _ _ h => h
   refine .r0 rfl rfl (.fillA rfl sz_27_D rfl rfl rfl rfl) ?_
   rintro _ H11003 ⟨rfl, a8, h6⟩
   replace b := b.sA a8
   replace hs := hs.sA a8
   replace c5 := Keep.st c5 a8 (fun k hb hk => ⟨(by omega), trivial⟩)
   replace w1 := n5.keep c5 (Nat.le_refl _)
   refine .nil (z5 _ _ ?_)
   refine .ret ?_
   refine u _ _ ?_
   refine ⟨_, _, _, _, rfl, ag_27_D, (by rfl), (Mem.of_get h6), ?_⟩
   exact ⟨dG, _, rfl, u7.mono (by omega), w1.keep (.of_le (.refl _)) (by omega), b, hs⟩
  try simp only [sps] at v9
  refine .seq (fun K14 u3 => .region (.q rfl (.cmp rfl rfl rfl) (.mv rfl (.nil (u3 _ _ ?_)))))
  refine .cond rfl (fun q4 => ?_) (fun q4 => ?_)
  ·
   try simp only [sps] at q4
   refine .seq (fun K15 q1 => .region (.mv rfl ?_))
   refine .call rfl rfl rfl rfl @Try.call30 rfl (l01Next_c) ?_
   rintro _ H48 ⟨aX, rfl, ka48, kb48, kc48, k8, hs⟩
   have nx_H48 := k8.nx
   replace b := b.sA k8
   replace c := k8.s c d.ne
   obtain ⟨n, hn⟩ : ∃ n : Nat, (n : Int) = 1 + aX := ⟨(1 + aX).toNat, by omega⟩
   refine .q rfl (.add (r := (n : Int)) rfl rfl (by omega) (by omega) (by omega)) ?_
   refine .mv rfl (.nil (q1 _ _ (.seq (fun K16 u4 => .region ?_))))
   refine .R rfl (.litA rfl sl_25_B ze_24_Hj rfl rfl rfl rfl) ?_
   rintro _ aV ⟨aF, rfl, m4, ge50, w5⟩
   replace b := b.le m4
   replace hs := hs.le m4
   replace c := m4.2 _ _ c
   have lt_at50 := GHeap.ltg w5
   refine .mv rfl (.nil (u4 _ _ (.seq (fun K17 u0 => .seq (fun K18 aC => .region (.mv rfl (.nil (aC _ _ ?_))))))))
   refine .block ?_
   refine .loopR (σ := Nat × (Nat → Option Addr) × List (List Int) × Nat × Nat) [(2, some _), (3, some _)] (fun (i, rr, T, i0, h8) => [(5, some (.int .i64 (i : Int))), (4, some (.slice (some ⟨i0, 0, none⟩) h8 h8))]) (fun (i, rr, T, i0, h8) H' => St [aF] aV H' ∧ H'.get i0 = some (.row ((slsL rr T)) 24 true) ∧ PL i0 aF aV.next ∧ h8 = (slsL rr T).length ∧ (i ≤ n ∧ T.length = i) ∧ Tb 0 1 n T ∧ OwnL H.next H' 2 rr T) (fun (i, rr, T, i0, h8) => n - i) ((0, fun _ => none, [], _, _)) ⟨rfl, rfl, trivial⟩ ⟨rfl, rfl, trivial⟩ ?_ ?_
   ·
    refine ⟨.refl _ _, by assumption, ⟨.inl rfl⟩, by rfl, ?_⟩
    exact ⟨⟨by omega, rfl⟩, .nil _ _ _, .nil _ _ _ _⟩
   rintro ⟨i, rr, T, i0, h8⟩ HL1 ⟨t, p, p8, ln_L4, hI⟩ KL1 q8
   refine .forget (fr' := [(5, some (.int .i64 (i : Int))), (4, some (.slice (some ⟨i0, 0, none⟩) h8 h8)), (2, some _), (3, some _)]) ⟨rfl, rfl, rfl, rfl, trivial⟩ ?_
   have nx_HL1 := t.nx
   replace b := b.sA t
   replace hs := hs.sA t
   replace c := t.s c
   have lt_at_L4 := GHeap.ltg p
   have rk := St.refl [i0] HL1
   obtain ⟨⟨hi, hTl⟩, hT, hR⟩ := hI
   have u9 := p
   have hfl : (slsL rr T).length = T.length := length_slsL _ _
   refine .seq (fun K19 u6 => .seq (fun K20 w9 => .region (.mv rfl (.mv rfl (.q rfl (.cmp rfl rfl rfl) (.nil (w9 _ _ ?_)))))))
   refine .cond rfl (fun z1 => ?_) (fun z1 => ?_)
   ·
    simp only [sps] at z1
    refine .skip ?_
    refine u6 _ _ (.seq (fun K21 x8 => ?_))
    refine .block ?_
    refine .seq (fun K22 t6 => .region ?_)
    refine .R rfl (.litA rfl sl_24_A ze_2_Pa rfl rfl rfl rfl) ?_
    rintro _ y4 ⟨q0, rfl, h3, ge56, l8⟩
    have nx_H56 := h3.1
    replace t := t.le h3
    replace rk := rk.le h3
    replace p := h3.2 _ _ p
    have lt_at56 := GHeap.ltg l8
    replace l8 : GHeap.get y4 q0 = some (.row (ints []) 2 true) := l8
    refine .mv rfl (.nil (t6 _ _ (.seq (fun K23 q5 => .seq (fun K24 s6 => .region (.mv rfl (.nil (s6 _ _ ?_))))))))
    refine .block ?_
    refine .loopR (σ := Nat × List Int × Nat × Nat) [(2, some _), (3, some _), (4, some _), (5, some _)] (fun (j, row, i7, i6) => [(7, some (.int .i64 (j : Int))), (6, some (.slice (some ⟨i7, 0, none⟩) i6 i6))]) (fun (j, row, i7, i6) H' => St [q0] y4 H' ∧ H'.get i7 = some (.row (ints row) 2 true) ∧ PL i7 q0 y4.next ∧ i6 = row.length ∧ (j ≤ n ∧ row.length = j) ∧ Bd 0 1 row) (fun (j, row, i7, i6) => n - j) ((0, [], _, _)) ⟨rfl, rfl, rfl, rfl, trivial⟩ ⟨rfl, rfl, trivial⟩ ?_ ?_
    ·
     refine ⟨.refl _ _, by assumption, ⟨.inl rfl⟩, by rfl, ?_⟩
     exact ⟨⟨by omega, rfl⟩, .nil _ _⟩
    rintro ⟨j, row, i7, i6⟩ HL2 ⟨a3, a0, e3, p9, hI⟩ KL2 w0
    refine .forget (fr' := [(7, some (.int .i64 (j : Int))), (6, some (.slice (some ⟨i7, 0, none⟩) i6 i6)), (2, some _), (3, some _), (4, some _), (5, some _)]) ⟨rfl, rfl, rfl, rfl, rfl, rfl, trivial⟩ ?_
    have nx_HL2 := a3.nx
    replace t := t.sA a3
    replace rk := rk.sA a3
    have w : NE i0 q0 := .a
    replace p := a3.s p w.ne
    obtain ⟨⟨hj, hrl⟩, hW⟩ := hI
    refine .seq (fun K25 s5 => .seq (fun K26 s4 => .region (.mv rfl (.mv rfl (.q rfl (.cmp rfl rfl rfl) (.nil (s4 _ _ ?_)))))))
    refine .cond rfl (fun r9 => ?_) (fun r9 => ?_)
    ·
     simp only [sps] at r9
     refine .skip ?_
     refine s5 _ _ (.seq (fun K27 r1 => ?_))
     refine .block ?_
     refine .region (.mv rfl ?_)
     refine .R rfl (.litA rfl sl_24_A ze_2_Pa rfl rfl rfl rfl) ?_
     rintro _ H63 ⟨g63, rfl, o7, ge63, q2⟩
     replace a3 := a3.le o7
     replace a0 := o7.2 _ _ a0
     have lt_at63 := GHeap.ltg q2
     refine .R rfl (.appendI rfl sl_24_A ze_2_Pa rfl by_2_Pa sl_24_A rfl rfl (by assumption) (by assumption) (by first | omega | (simp <;> omega)) (by omega) (by omega)) ?_
     rintro _ H64 ⟨g64, rfl, t4, ge64, at64⟩
     replace a3 := a3.sP t4
     refine .mv rfl (.nil (r1 _ _ (.region (.mv rfl ?_))))
     refine .q rfl (.add rfl rfl rfl (by omega) (by omega)) ?_
     refine .mv rfl (.nil ?_)
     refine w0 ((j + 1, row ++ [1], _, _)) _ _ ?_ ?_ ⟨rfl, rfl, rfl, rfl, rfl, rfl, trivial⟩
     ·
      refine ⟨a3, by assumption, by exact ⟨.inr (by omega)⟩, by (simp only [List.length_append, List.length_cons, List.length_nil] <;> omega), ?_⟩
      exact ⟨⟨by omega, by simp; omega⟩, hW.snoc (by omega) (by omega)⟩
     (dsimp only; omega)
    try simp only [sps] at r9
    refine .exit ?_
    refine q5 _ _ (.region ?_)
    obtain rfl : j = n := by omega
    obtain rfl := p9
    refine .mv rfl (.mv rfl ?_)
    refine .R rfl (.litA rfl sl_25_B ze_24_Hj rfl rfl rfl rfl) ?_
    rintro _ H67 ⟨g67, rfl, i3, ge67, x9⟩
    replace t := t.le i3
    replace rk := rk.le i3
    replace p := i3.2 _ _ p
    replace a0 := i3.2 _ _ a0
    have lt_at67 := GHeap.ltg x9
    refine .R rfl (.appendV rfl sl_25_B ze_24_Hj rfl by_24_Hj sl_25_B rfl rfl (by assumption) (by assumption) (by first | omega | (simp <;> omega)) rfl rfl (by omega) (by omega)) ?_
    rintro _ H68 ⟨g68, rfl, j2, ge68, at68⟩
    replace t := t.sP j2
    replace rk := rk.sP j2
    replace a0 := j2.same _ _ ⟨(Ne.symm (e3.ne w.ne (by omega))), trivial⟩ a0
    refine .mv rfl (.nil (x8 _ _ (.region (.mv rfl ?_))))
    refine .q rfl (.add rfl rfl rfl (by omega) (by omega)) ?_
    refine .mv rfl (.nil ?_)
    refine q8 ((i + 1, upd rr T.length (some ⟨i7, 0, none⟩), T ++ [row], _, _)) _ _ ?_ ?_ ⟨rfl, rfl, rfl, rfl, trivial⟩
    ·
     refine ⟨t, by (rw [slsL_snoc]; assumption), by exact ⟨.inr (by omega)⟩, by (rw [slsL_snoc] <;> (first | omega | (simp only [List.length_append, List.length_cons, List.length_nil] <;> omega))), ?_⟩
     have hR' := hR.st rk (.cons (hR.neT u9 rfl) (.nil _ _))
     exact ⟨⟨by omega, by simp; omega⟩, hT.snoc (by omega) hW, hR'.snoc2 (by assumption) (hR.ne (e3.ge (by omega) (by omega))) (e3.ge (by omega) (by omega))⟩
    (dsimp only; omega)
   try simp only [sps] at z1
   refine .exit ?_
   refine u0 _ _ (.seq (fun K28 y8 => .region ?_))
   obtain rfl : h8 = T.length := by omega
   refine .mv rfl ?_
   refine .call rfl rfl rfl rfl @Try.call31 rfl (l03Poset_c (hin := (hR.done p (p8.ge (by omega) (by omega))).intss) (hn := by omega) (hr := fun i hi => by rw [(hT i hi).1]; omega)) ?_
   rintro _ aG ⟨bT, s1, m8, ga70, gb70, gc70, gd70, rr70, rfl, bA⟩
   have u1 := bA.catR
   replace b := b.le m8
   replace hs := hs.le m8
   replace c := m8.2 _ _ c
   have m7 := u1
   have d0 : Keep HL1.next aG aG := fun _ _ _ h => h
   refine .r0 rfl rfl (.fillA rfl sz_27_D rfl rfl rfl rfl) ?_
   rintro _ H24002 ⟨rfl, b1, g9⟩
   replace b := b.sA b1
   replace hs := hs.sA b1
   replace d0 := Keep.st d0 b1 (fun k hb hk => ⟨(by omega), trivial⟩)
   replace u1 := m7.keep d0 (Nat.le_refl _)
   refine .nil (y8 _ _ ?_)
   refine .ret ?_
   refine u _ _ ?_
   refine ⟨_, _, _, _, rfl, ag_27_D, (by rfl), (Mem.of_get g9), ?_⟩
   exact ⟨bT, _, rfl, s1.mono (by omega), u1.keep (.of_le (.refl _)) (by omega), b, hs⟩
  try simp only [sps] at q4
  refine .seq (fun K29 y0 => .region (.q rfl (.cmp rfl rfl rfl) (.mv rfl (.nil (y0 _ _ ?_)))))
  refine .cond rfl (fun x5 => ?_) (fun x5 => ?_)
  ·
   try simp only [sps] at x5
   refine .seq (fun K30 x0 => .region ?_)
   refine .R rfl (.litA rfl sl_24_A ze_2_Pa rfl rfl rfl rfl) ?_
   rintro _ H73 ⟨g73, rfl, n2, ge73, i2⟩
   replace b := b.le n2
   replace hs := hs.le n2
   replace c := n2.2 _ _ c
   have lt_at73 := GHeap.ltg i2
   refine .R rfl (.litA rfl sl_24_A ze_2_Pa rfl rfl rfl rfl) ?_
   rintro _ dD ⟨g74, rfl, g3, ge74, o2⟩
   replace b := b.le g3
   replace hs := hs.le g3
   replace c := g3.2 _ _ c
   replace i2 := g3.2 _ _ i2
   have lt_at74 := GHeap.ltg o2
   refine .call rfl rfl rfl rfl @Try.call121 rfl ((by have hh := l03Paths_c (n := 3) (xs := [0, 1, 0]) (ys := [1, 2, 2]) (ha := Ints.of_get i2) (hb := Ints.of_get o2) (hl := rfl) (hx := by decide) (hn := by decide) (hy := by unfold Bd; decide) (hup := by decide); exact hh)) ?_
   rintro _ aK ⟨cY, s8, k2, ga75, gb75, gc75, gd75, rr75, rfl, cX⟩
   have y6 := cX.catR
   replace b := b.le k2
   replace hs := hs.le k2
   replace c := k2.2 _ _ c
   have n3 := y6
   have b9 : Keep dD.next aK aK := fun _ _ _ h => h
   refine .r0 rfl rfl (.fillA rfl sz_27_D rfl rfl rfl rfl) ?_
   rintro _ H26003 ⟨rfl, a6, h0⟩
   replace b := b.sA a6
   replace hs := hs.sA a6
   replace b9 := Keep.st b9 a6 (fun k hb hk => ⟨(by omega), trivial⟩)
   replace y6 := n3.keep b9 (Nat.le_refl _)
   refine .nil (x0 _ _ ?_)
   refine .ret ?_
   refine u _ _ ?_
   refine ⟨_, _, _, _, rfl, ag_27_D, (by rfl), (Mem.of_get h0), ?_⟩
   exact ⟨cY, _, rfl, s8.mono (by omega), y6.keep (.of_le (.refl _)) (by omega), b, hs⟩
  try simp only [sps] at x5
  refine .seq (fun K31 t8 => .region (.q rfl (.cmp rfl rfl rfl) (.mv rfl (.nil (t8 _ _ ?_)))))
  refine .cond rfl (fun v0 => ?_) (fun v0 => ?_)
  ·
   try simp only [sps] at v0
   refine .seq (fun K32 r5 => .region ?_)
   refine .call rfl rfl rfl rfl @Try.call124 rfl (l02Split_c) ?_
   rintro _ aN ⟨bP, s0, m0, ga78, gb78, gc78, gd78, rr78, rfl, bF⟩
   have aB := bF.catR
   replace b := b.le m0
   replace hs := hs.le m0
   replace c := m0.2 _ _ c
   have n4 := aB
   have c9 : Keep cJ.next aN aN := fun _ _ _ h => h
   refine .r0 rfl rfl (.fillA rfl sz_27_D rfl rfl rfl rfl) ?_
   rintro _ H28001 ⟨rfl, b2, f8⟩
   replace b := b.sA b2
   replace hs := hs.sA b2
   replace c9 := Keep.st c9 b2 (fun k hb hk => ⟨(by omega), trivial⟩)
   replace aB := n4.keep c9 (Nat.le_refl _)
   refine .nil (r5 _ _ ?_)
   refine .ret ?_
   refine u _ _ ?_
   refine ⟨_, _, _, _, rfl, ag_27_D, (by rfl), (Mem.of_get f8), ?_⟩
   exact ⟨bP, _, rfl, s0.mono (by omega), aB.keep (.of_le (.refl _)) (by omega), b, hs⟩
  try simp only [sps] at v0
  refine .seq (fun K33 w6 => .region (.q rfl (.cmp rfl rfl rfl) (.mv rfl (.nil (w6 _ _ ?_)))))
  refine .cond rfl (fun u8 => ?_) (fun u8 => ?_)
  ·
   try simp only [sps] at u8
   refine .seq (fun K34 r6 => .region (.mv rfl ?_))
   refine .call rfl rfl rfl rfl @Try.call123 rfl (l02Monoid_c) ?_
   rintro _ bX ⟨a82, T82, r82, rfl, cT, t9, t0, k5, hs⟩
   have nx_H82 := k5.nx
   replace b := b.sA k5
   replace c := k5.s c d.ne
   refine .call rfl rfl rfl rfl @Try.call122 rfl (l03Monoid_c (hin := cT.intss) (hn := t9) (ht := t0)) ?_
   rintro _ aO ⟨c83, x1, f5, ga83, gb83, gc83, gd83, rr83, rfl, dA⟩
   have aD := dA.catR
   have nx_H83 := f5.1
   replace b := b.le f5
   replace hs := hs.le f5
   replace c := f5.2 _ _ c
   have i9 := aD
   have o : Keep bX.next aO aO := fun _ _ _ h => h
   refine .R rfl (.litA rfl sl_24_A ze_2_Pa rfl rfl rfl rfl) ?_
   rintro _ H84 ⟨cM, rfl, g5, ge84, h4⟩
   replace b := b.le g5
   replace hs := hs.le g5
   replace c := g5.2 _ _ c
   replace o := Keep.le o g5
   have lt_at84 := GHeap.ltg h4
   refine .R rfl (.litA rfl sl_25_B ze_24_Hj rfl rfl rfl rfl) ?_
   rintro _ H85 ⟨g85, rfl, e6, ge85, p2⟩
   replace b := b.le e6
   replace hs := hs.le e6
   replace c := e6.2 _ _ c
   replace h4 := e6.2 _ _ h4
   replace o := Keep.le o e6
   have lt_at85 := GHeap.ltg p2
   refine .call rfl rfl rfl rfl @Try.call31 rfl ((by have hh := l03Poset_c (rel := [[1]]) (hin := ((lit_own (gs := [cM]) (by simp only [LitAt]; exact ⟨⟨Nat.zero_le _, h4⟩, trivial⟩) (by simp <;> omega)).done (by exact p2) (Nat.zero_le _)).intss) (hn := by decide) (hr := by decide); exact hh)) ?_
   rintro _ H86 ⟨c86, u2, e8, ga86, gb86, gc86, gd86, rr86, rfl, bJ⟩
   have bD := bJ.catR
   have nx_H86 := e8.1
   replace b := b.le e8
   replace hs := hs.le e8
   replace c := e8.2 _ _ c
   replace o := Keep.le o e8
   replace aD := i9.keep o (Nat.le_refl _)
   have aR := aD.inn
   have aH := bD.inn
   refine .call rfl rfl rfl rfl @Try.call126 rfl (l03Join_c (hin := aR) (hin1 := aH) (hc := x1) (hd := u2)) ?_
   rintro _ cR ⟨cO, o6, g0, ga87, gb87, gc87, gd87, rr87, rfl, dF⟩
   have cB := dF.catR
   have nx_H87 := g0.1
   replace b := b.le g0
   replace hs := hs.le g0
   replace c := g0.2 _ _ c
   clear aR
   clear aH
   have aQ := cB.inn
   refine .call rfl rfl rfl rfl @Try.call125 rfl (l03Op_c (hin := aQ) (hr := o6) (hN := by omega)) ?_
   rintro _ aW ⟨l1, ga88, gb88, gc88, gd88, rr88, rfl, cF⟩
   have z4 := cF.catR
   replace b := b.le l1
   replace hs := hs.le l1
   replace c := l1.2 _ _ c
   have l7 := z4
   have c6 : Keep cR.next aW aW := fun _ _ _ h => h
   clear aQ
   refine .r0 rfl rfl (.fillA rfl sz_27_D rfl rfl rfl rfl) ?_
   rintro _ H30008 ⟨rfl, a1, i1⟩
   replace b := b.sA a1
   replace hs := hs.sA a1
   replace c6 := Keep.st c6 a1 (fun k hb hk => ⟨(by omega), trivial⟩)
   replace z4 := l7.keep c6 (Nat.le_refl _)
   refine .nil (r6 _ _ ?_)
   refine .ret ?_
   refine u _ _ ?_
   refine ⟨_, _, _, _, rfl, ag_27_D, (by rfl), (Mem.of_get i1), ?_⟩
   exact ⟨cO.op, _, rfl, o6.op, z4.keep (.of_le (.refl _)) (by omega), b, hs⟩
  try simp only [sps] at u8
  refine .seq (fun K35 r7 => .region (.q rfl (.cmp rfl rfl rfl) (.mv rfl (.nil (r7 _ _ ?_)))))
  refine .cond rfl (fun v6 => ?_) (fun v6 => ?_)
  ·
   try simp only [sps] at v6
   refine .seq (fun K36 z2 => .region (.mv rfl ?_))
   refine .call rfl rfl rfl rfl @Try.call123 rfl (l02Monoid_c) ?_
   rintro _ cG ⟨a92, T92, r92, rfl, cQ, v2, v5, k6, hs⟩
   have nx_H92 := k6.nx
   replace b := b.sA k6
   replace c := k6.s c d.ne
   refine .call rfl rfl rfl rfl @Try.call122 rfl (l03Monoid_c (hin := cQ.intss) (hn := v2) (ht := v5)) ?_
   rintro _ aE ⟨c93, z9, f6, ga93, gb93, gc93, gd93, rr93, rfl, dB⟩
   have s3 := dB.catR
   have nx_H93 := f6.1
   replace b := b.le f6
   replace hs := hs.le f6
   replace c := f6.2 _ _ c
   have l4 := s3
   have l : Keep cG.next aE aE := fun _ _ _ h => h
   refine .R rfl (.litA rfl sl_24_A ze_2_Pa rfl rfl rfl rfl) ?_
   rintro _ H94 ⟨bI, rfl, f9, ge94, g1⟩
   replace b := b.le f9
   replace hs := hs.le f9
   replace c := f9.2 _ _ c
   replace l := Keep.le l f9
   have lt_at94 := GHeap.ltg g1
   refine .R rfl (.litA rfl sl_25_B ze_24_Hj rfl rfl rfl rfl) ?_
   rintro _ H95 ⟨g95, rfl, e0, ge95, p7⟩
   replace b := b.le e0
   replace hs := hs.le e0
   replace c := e0.2 _ _ c
   replace g1 := e0.2 _ _ g1
   replace l := Keep.le l e0
   have lt_at95 := GHeap.ltg p7
   refine .call rfl rfl rfl rfl @Try.call31 rfl ((by have hh := l03Poset_c (rel := [[1]]) (hin := ((lit_own (gs := [bI]) (by simp only [LitAt]; exact ⟨⟨Nat.zero_le _, g1⟩, trivial⟩) (by simp <;> omega)).done (by exact p7) (Nat.zero_le _)).intss) (hn := by decide) (hr := by decide); exact hh)) ?_
   rintro _ cK ⟨c96, y2, e4, ga96, gb96, gc96, gd96, rr96, rfl, cZ⟩
   have cU := cZ.catR
   have nx_H96 := e4.1
   replace b := b.le e4
   replace hs := hs.le e4
   replace c := e4.2 _ _ c
   replace l := Keep.le l e4
   replace s3 := l4.keep l (Nat.le_refl _)
   have aS := s3.inn
   have aI := cU.inn
   refine .call rfl rfl rfl rfl @Try.call126 rfl (l03Join_c (hin := aS) (hin1 := aI) (hc := z9) (hd := y2)) ?_
   rintro _ aJ ⟨bZ, w3, k9, ga97, gb97, gc97, gd97, rr97, rfl, bC⟩
   have r8 := bC.catR
   replace b := b.le k9
   replace hs := hs.le k9
   replace c := k9.2 _ _ c
   have i8 := r8
   have c8 : Keep cK.next aJ aJ := fun _ _ _ h => h
   clear aS
   clear aI
   refine .r0 rfl rfl (.fillA rfl sz_27_D rfl rfl rfl rfl) ?_
   rintro _ H32007 ⟨rfl, a2, g7⟩
   replace b := b.sA a2
   replace hs := hs.sA a2
   replace c8 := Keep.st c8 a2 (fun k hb hk => ⟨(by omega), trivial⟩)
   replace r8 := i8.keep c8 (Nat.le_refl _)
   refine .nil (z2 _ _ ?_)
   refine .ret ?_
   refine u _ _ ?_
   refine ⟨_, _, _, _, rfl, ag_27_D, (by rfl), (Mem.of_get g7), ?_⟩
   exact ⟨bZ, _, rfl, w3, r8.keep (.of_le (.refl _)) (by omega), b, hs⟩
  try simp only [sps] at v6
  refine .seq (fun K37 z7 => .region (.q rfl (.cmp rfl rfl rfl) (.mv rfl (.nil (z7 _ _ ?_)))))
  refine .cond rfl (fun z6 => ?_) (fun z6 => ?_)
  ·
   try simp only [sps] at z6
   refine .seq (fun K38 r3 => .region (.mv rfl (.mv rfl ?_)))
   refine .call rfl rfl rfl rfl @Try.call30 rfl (l01Next_c) ?_
   rintro _ H102 ⟨p0, rfl, ka102, kb102, kc102, e7, hs⟩
   have nx_H102 := e7.nx
   replace b := b.sA e7
   replace c := e7.s c d.ne
   obtain ⟨n, hn⟩ : ∃ n : Nat, (n : Int) = 2 + p0 := ⟨(2 + p0).toNat, by omega⟩
   refine .q rfl (.add (r := (n : Int)) rfl rfl (by omega) (by omega) (by omega)) ?_
   refine .call rfl rfl rfl rfl @Try.call32 rfl (l02Relation_c (n := n) (hn := by omega)) ?_
   rintro _ t2 ⟨a104, T104, r104, rfl, x6, nT104, o9, f1, hs⟩
   have nx_H104 := f1.nx
   replace b := b.sA f1
   replace c := f1.s c d.ne
   refine .call rfl rfl rfl rfl @Try.call31 rfl (l03Poset_c (hin := x6.intss) (hn := by omega) (hr := o9)) ?_
   rintro _ n6 ⟨z8, o5, d9, ga105, gb105, gc105, gd105, rr105, rfl, w2⟩
   have n0 := w2.catR
   replace b := b.le d9
   replace hs := hs.le d9
   replace c := d9.2 _ _ c
   have f7 := n0
   have a7 : Keep t2.next n6 n6 := fun _ _ _ h => h
   refine .r0 rfl rfl (.fillA rfl sz_27_D rfl rfl rfl rfl) ?_
   rintro _ H34006 ⟨rfl, a4, i4⟩
   replace b := b.sA a4
   replace hs := hs.sA a4
   replace a7 := Keep.st a7 a4 (fun k hb hk => ⟨(by omega), trivial⟩)
   replace n0 := f7.keep a7 (Nat.le_refl _)
   refine .nil (r3 _ _ ?_)
   refine .ret ?_
   refine u _ _ ?_
   refine ⟨_, _, _, _, rfl, ag_27_D, (by rfl), (Mem.of_get i4), ?_⟩
   exact ⟨z8, _, rfl, o5.mono (by omega), n0.keep (.of_le (.refl _)) (by omega), b, hs⟩
  try simp only [sps] at z6
  refine .skip ?_
  refine cS _ _ (.seq (fun K39 v1 => .region (.mv rfl ?_)))
  refine .call rfl rfl rfl rfl @Try.call30 rfl (l01Next_c) ?_
  rintro _ H107 ⟨o1, rfl, ka107, kb107, kc107, e2, hs⟩
  have nx_H107 := e2.nx
  replace b := b.sA e2
  replace c := e2.s c d.ne
  obtain ⟨n, hn⟩ : ∃ n : Nat, (n : Int) = 2 + o1 := ⟨(2 + o1).toNat, by omega⟩
  refine .q rfl (.add (r := (n : Int)) rfl rfl (by omega) (by omega) (by omega)) ?_
  refine .mv rfl (.nil (v1 _ _ (.seq (fun K40 v8 => .region ?_))))
  refine .R rfl (.litA rfl sl_24_A ze_2_Pa rfl rfl rfl rfl) ?_
  rintro _ w7 ⟨k0, rfl, e1, ge109, y⟩
  replace b := b.le e1
  replace hs := hs.le e1
  replace c := e1.2 _ _ c
  have lt_at109 := GHeap.ltg y
  replace y : GHeap.get w7 k0 = some (.row (ints []) 2 true) := y
  refine .R rfl (.litA rfl sl_24_A ze_2_Pa rfl rfl rfl rfl) ?_
  rintro _ x4 ⟨n1, rfl, d2, ge110, b6⟩
  replace b := b.le d2
  replace hs := hs.le d2
  replace c := d2.2 _ _ c
  replace y := d2.2 _ _ y
  have lt_at110 := GHeap.ltg b6
  replace b6 : GHeap.get x4 n1 = some (.row (ints []) 2 true) := b6
  refine .mv rfl (.mv rfl (.nil (v8 _ _ (.seq (fun K41 s9 => .seq (fun K42 x7 => .region (.mv rfl ?_)))))))
  refine .call rfl rfl rfl rfl @Try.call30 rfl (l01Next_c) ?_
  rintro _ m2 ⟨o8, rfl, ka112, kb112, kc112, b5, hs⟩
  have nx_H112 := b5.nx
  replace b := b.sA b5
  replace c := b5.s c d.ne
  replace y := b5.s y
  replace b6 := b5.s b6
  obtain ⟨m, rfl⟩ : ∃ m : Nat, o8 = (m : Int) := ⟨o8.toNat, by omega⟩
  refine .mv rfl (.nil (x7 _ _ ?_))
  refine .block ?_
  refine .loopR (σ := Nat × List Int × List Int × Nat × Nat × Nat × Nat) [(0, some _), (2, some _), (8, some _)] (fun (k, xs, ys, h7, i5, z, a9) => [(11, some (.int .i64 (k : Int))), (9, some (.slice (some ⟨h7, 0, none⟩) i5 i5)), (10, some (.slice (some ⟨z, 0, none⟩) a9 a9))]) (fun (k, xs, ys, h7, i5, z, a9) H' => St [k0, n1, gS] m2 H' ∧ H'.get h7 = some (.row (ints xs) 2 true) ∧ PL h7 k0 m2.next ∧ i5 = xs.length ∧ H'.get z = some (.row (ints ys) 2 true) ∧ PL z n1 m2.next ∧ a9 = ys.length ∧ h7 ≠ z ∧ (k + xs.length ≤ 3 ∧ ys.length = xs.length) ∧ Bd 0 ((n : Int) - 1) ys ∧ (∀ e, e < xs.length → xs.getD e 0 < ys.getD e 0) ∧ DSrc 86 H' gS) (fun (k, xs, ys, h7, i5, z, a9) => k) ((m, [], [], _, _, _, _)) ⟨rfl, rfl, rfl, trivial⟩ ⟨rfl, rfl, rfl, trivial⟩ ?_ ?_
  ·
   refine ⟨.refl _ _, by assumption, ⟨.inl rfl⟩, by rfl, by assumption, ⟨.inl rfl⟩, by rfl, by omega, ?_⟩
   exact ⟨⟨by simp; omega, rfl⟩, .nil _ _, fun _ h => by simp at h, hs⟩
  rintro ⟨k, xs, ys, h7, i5, z, a9⟩ HL3 ⟨g, b4, p1, p4, f, m1, ln_L10, o0, hI⟩ KL3 y1
  refine .forget (fr' := [(11, some (.int .i64 (k : Int))), (9, some (.slice (some ⟨h7, 0, none⟩) i5 i5)), (10, some (.slice (some ⟨z, 0, none⟩) a9 a9)), (0, some _), (2, some _), (8, some _)]) ⟨rfl, rfl, rfl, rfl, rfl, rfl, trivial⟩ ?_
  have nx_HL3 := g.nx
  replace b := b.st g (fun k hk ho => by simp only [out, and_true] at ho ⊢ <;> exact ⟨by first | exact ho | exact ho.1 | exact ho.2 | exact ho.2.1 | exact ho.2.2 | exact ho.2.2.1 | exact ho.2.2.2 | omega, by first | exact ho | exact ho.1 | exact ho.2 | exact ho.2.1 | exact ho.2.2 | exact ho.2.2.1 | exact ho.2.2.2 | omega, by first | exact ho | exact ho.1 | exact ho.2 | exact ho.2.1 | exact ho.2.2 | exact ho.2.2.1 | exact ho.2.2.2 | omega⟩)
  replace c := g.same _ _ ⟨(by first | assumption | omega), (by first | assumption | omega), d.ne, trivial⟩ c
  have lt_at_L10 := GHeap.ltg f
  obtain ⟨⟨hk3, hyl⟩, hY, hU, hs⟩ := hI
  have ge9 : H.next ≤ h7 := p1.ge (by omega) (by omega)
  have ge10 : H.next ≤ z := m1.ge (by omega) (by omega)
  refine .seq (fun K43 t5 => .seq (fun K44 v7 => .region (.mv rfl (.q rfl (.cmp rfl rfl rfl) (.nil (v7 _ _ ?_))))))
  refine .cond rfl (fun k7 => ?_) (fun k7 => ?_)
  ·
   simp only [sps] at k7
   obtain ⟨k1, rfl⟩ : ∃ k1, k = k1 + 1 := ⟨k - 1, by omega⟩
   refine .skip ?_
   refine t5 _ _ (.seq (fun K45 y7 => ?_))
   refine .block ?_
   refine .seq (fun K46 t3 => .region (.mv rfl (.mv rfl ?_)))
   refine .q rfl (.sub rfl rfl rfl (by omega) (by omega)) ?_
   refine .call rfl rfl rfl rfl @Try.call30 rfl (l01Next_c) ?_
   rintro _ H120 ⟨p3, rfl, ka120, kb120, kc120, d3, hs⟩
   have nx_H120 := d3.nx
   replace g := g.sA d3
   replace b4 := d3.s b4
   have v : NE z gS := .a
   replace f := d3.s f v.ne
   refine .mv rfl (.nil (t3 _ _ (.seq (fun K47 s2 => .region (.mv rfl (.mv rfl ?_))))))
   refine .R rfl (.litA rfl sl_24_A ze_2_Pa rfl rfl rfl rfl) ?_
   rintro _ H123 ⟨g123, rfl, d4, ge123, o3⟩
   replace g := g.le d4
   replace hs := hs.le d4
   replace b4 := d4.2 _ _ b4
   replace f := d4.2 _ _ f
   have lt_at123 := GHeap.ltg o3
   refine .R rfl (.appendI rfl sl_24_A ze_2_Pa rfl by_2_Pa sl_24_A rfl rfl (by assumption) (by assumption) (by first | omega | (simp <;> omega)) (by omega) (by omega)) ?_
   rintro _ H124 ⟨g124, rfl, f0, ge124, x⟩
   replace g := g.sP f0
   replace hs := hs.sP f0
   replace f := f0.same _ _ ⟨(Ne.symm o0), trivial⟩ f
   have lt_at124 := GHeap.ltg x
   refine .mv rfl (.nil (s2 _ _ (.region (.mv rfl (.mv rfl ?_)))))
   refine .q rfl (.add rfl rfl rfl (by omega) (by omega)) ?_
   refine .mv rfl (.mv rfl ?_)
   refine .q rfl (.sub rfl rfl rfl (by omega) (by omega)) ?_
   refine .mv rfl ?_
   refine .q rfl (.sub rfl rfl rfl (by omega) (by omega)) ?_
   refine .call rfl rfl rfl rfl @Try.call30 rfl (l01Next_c) ?_
   rintro _ H133 ⟨r2, rfl, ka133, kb133, kc133, d5, hs⟩
   have nx_H133 := d5.nx
   replace g := g.sA d5
   replace f := d5.s f v.ne
   replace x := d5.s x
   refine .q rfl (.add rfl rfl rfl (by omega) (by omega)) ?_
   refine .R rfl (.litA rfl sl_24_A ze_2_Pa rfl rfl rfl rfl) ?_
   rintro _ H135 ⟨g135, rfl, d1, ge135, n8⟩
   replace g := g.le d1
   replace hs := hs.le d1
   replace f := d1.2 _ _ f
   replace x := d1.2 _ _ x
   have lt_at135 := GHeap.ltg n8
   refine .R rfl (.appendI rfl sl_24_A ze_2_Pa rfl by_2_Pa sl_24_A rfl rfl (by assumption) (by assumption) (by first | omega | (simp <;> omega)) (by omega) (by omega)) ?_
   rintro _ H136 ⟨g136, rfl, e9, ge136, at136⟩
   replace g := g.sP e9
   replace hs := hs.sP e9
   replace x := e9.s x
   refine .mv rfl (.nil (y7 _ _ (.region (.mv rfl ?_))))
   refine .q rfl (.sub (r := (k1 : Int)) rfl rfl (by omega) (by omega) (by omega)) ?_
   refine .mv rfl (.nil ?_)
   refine y1 ((k1, xs ++ [p3], ys ++ [p3 + 1 + r2], _, _, _, _)) _ _ ?_ ?_ ⟨rfl, rfl, rfl, rfl, rfl, rfl, trivial⟩
   ·
    refine ⟨g, by assumption, by exact ⟨.inr (by omega)⟩, by (simp only [List.length_append, List.length_cons, List.length_nil] <;> omega), by assumption, by exact ⟨.inr (by omega)⟩, by (simp only [List.length_append, List.length_cons, List.length_nil] <;> omega), by omega, ?_⟩
    exact ⟨⟨by simp; omega, by simp; omega⟩, hY.snoc (by omega) (by omega), up_snoc hyl hU (by omega), hs⟩
   (dsimp only; omega)
  try simp only [sps] at k7
  refine .exit ?_
  refine s9 _ _ (.seq (fun K48 y5 => .region ?_))
  obtain rfl := p4
  have cW : a9 = ys.length := by omega
  subst cW
  refine .mv rfl (.mv rfl (.mv rfl ?_))
  refine .call rfl rfl rfl rfl @Try.call121 rfl (l03Paths_c (ha := Ints.of_get b4) (hb := Ints.of_get f) (hl := hyl) (hx := by omega) (hn := by omega) (hy := hY) (hup := hU)) ?_
  rintro _ o4 ⟨u5, n7, f2, ga140, gb140, gc140, gd140, rr140, rfl, z3⟩
  have m6 := z3.catR
  replace b := b.le f2
  replace c := f2.2 _ _ c
  have h1 := m6
  have b0 : Keep HL3.next o4 o4 := fun _ _ _ h => h
  refine .r0 rfl rfl (.fillA rfl sz_27_D rfl rfl rfl rfl) ?_
  rintro _ H43004 ⟨rfl, a5, g4⟩
  replace b := b.sA a5
  replace b0 := Keep.st b0 a5 (fun k hb hk => ⟨(by omega), trivial⟩)
  replace m6 := h1.keep b0 (Nat.le_refl _)
  refine .nil (y5 _ _ ?_)
  refine .ret ?_
  refine u _ _ ?_
  refine ⟨_, _, _, _, rfl, ag_27_D, (by rfl), (Mem.of_get g4), ?_⟩
  exact ⟨u5, _, rfl, n7.mono (by omega), m6.keep (.of_le (.refl _)) (by omega), b, (hs.le f2).st a5 (fun k hk ho => ⟨by omega, trivial⟩)⟩
end Go.Proofs.Ytfanjkbaemhbmaa
namespace Go.Proofs.Ytfanjkbaemhbmaa
open Go Go.GL Go.RowKit Go.Proofs
set_option maxHeartbeats 8000000 in
theorem l03Product_c {c d : Cat} {p q : CatP} {H : GHeap} (hin : c.In H p := by assumption) (hin1 : d.In H q := by assumption) (hc : c.Rect 256) (hd : d.Rect 128) :
    GCalls Try.prog 104 [.agg (c.cells p).toArray, .agg (d.cells q).toArray] H (NewRc 2 24 33000 H) := by
  obtain ⟨a1, a2, a3, a4, a5, a6, a7, a8, a9, z1⟩ := id hc
  obtain ⟨b1, b2, b3, b4, b5, b6, b7, b8, b9, aB⟩ := id hd
  have m0 := mul_bd a1 b1
  refine GCalls.body (N := 174) (rs := [.cell 4 27]) Try.func104 rfl rfl rfl rfl (fun Qx t0 hend => ?_)
  refine .fg [0, 1] rfl ?_
  have l := GHeap.Le.refl H
  have i := hin
  have e := hin1
  refine .seq (fun K1 aC => .region ?_)
  refine .R rfl (.boxR rfl sz_27_D rfl) ?_
  rintro _ H2 ⟨g2, rfl, z4, ge2, m⟩
  replace l := l.trans z4
  have lt_at2 := GHeap.ltg m
  replace hin := i.mono l
  have r : Cat.At _ g2 0 c p := ⟨Mem.of_get m, hin⟩
  refine .R rfl (.boxR rfl sz_27_D rfl) ?_
  rintro _ H3 ⟨g3, rfl, x9, ge3, n⟩
  replace l := l.trans x9
  replace m := x9.2 _ _ m
  have lt_at3 := GHeap.ltg n
  replace hin := i.mono l
  replace hin1 := e.mono l
  clear r
  have r : Cat.At _ g2 0 c p := ⟨Mem.of_get m, hin⟩
  have u : Cat.At _ g3 0 d q := ⟨Mem.of_get n, hin1⟩
  refine .R rfl (.allocR rfl ze_27_Hj rfl) ?_
  rintro _ H4 ⟨g4, rfl, x2, ge4, l5⟩
  replace l := l.trans x2
  replace m := x2.2 _ _ m
  replace n := x2.2 _ _ n
  have lt_at4 := GHeap.ltg l5
  replace hin := i.mono l
  replace hin1 := e.mono l
  clear r
  have r : Cat.At _ g2 0 c p := ⟨Mem.of_get m, hin⟩
  obtain ⟨v0, -, -, -, -, -, -, -, -⟩ := r.get
  clear u
  have u : Cat.At _ g3 0 d q := ⟨Mem.of_get n, hin1⟩
  obtain ⟨z5, r6, -, -, -, -, -, -, -⟩ := u.get
  refine .nil (aC _ _ (.seq (fun K2 aG => ?_)))
  refine .regionD mo_B (.q 0 (.q 1 (.q 2 (.q 3 (.q 4 (.q 5 (.q 6 (.done)))))))) (by kernel_rfl) ?_
  refine .q rfl (.fieldAddr fo_27_0_B rfl) ?_
  refine .q rfl (.load on_2_A rfl (by first | assumption | exact Mem.of_get n 0 _ rfl)) ?_
  refine .q rfl (.fieldAddr fo_27_1_B rfl) ?_
  refine .q rfl (.load on_24_B rfl (by first | assumption | exact Mem.of_get n 1 _ rfl)) ?_
  refine .q rfl (.len sl_24_A rfl) (.mv rfl rfl (.mv rfl rfl ?_))
  refine .done ?_
  refine aG _ _ (.seq (fun K3 aN => .region (.q rfl (.fieldAddr fo_27_0_B rfl) ?_)))
  refine .q rfl (.load on_2_A rfl (by first | assumption | exact Mem.of_get m 0 _ rfl)) ?_
  refine .mv rfl ?_
  refine .q rfl (.mul rfl rfl rfl (by omega) (by omega)) ?_
  refine .R rfl (.litA rfl sl_24_A ze_2_Pa rfl rfl rfl rfl) ?_
  rintro _ y5 ⟨n1, rfl, o2, ge25, e8⟩
  replace l := l.trans o2
  replace m := o2.2 _ _ m
  replace n := o2.2 _ _ n
  replace l5 := o2.2 _ _ l5
  have lt_at25 := GHeap.ltg e8
  replace hin := i.mono l
  replace hin1 := e.mono l
  clear r v0
  have r : Cat.At _ g2 0 c p := ⟨Mem.of_get m, hin⟩
  clear u z5 r6
  have u : Cat.At _ g3 0 d q := ⟨Mem.of_get n, hin1⟩
  replace e8 : GHeap.get y5 n1 = some (.row (ints []) 2 true) := e8
  refine .R rfl (.litA rfl sl_24_A ze_2_Pa rfl rfl rfl rfl) ?_
  rintro _ aA ⟨n0, rfl, n4, ge26, f7⟩
  replace l := l.trans n4
  replace m := n4.2 _ _ m
  replace n := n4.2 _ _ n
  replace l5 := n4.2 _ _ l5
  replace e8 := n4.2 _ _ e8
  have lt_at26 := GHeap.ltg f7
  replace hin := i.mono l
  replace hin1 := e.mono l
  clear r
  have r : Cat.At _ g2 0 c p := ⟨Mem.of_get m, hin⟩
  clear u
  have u : Cat.At _ g3 0 d q := ⟨Mem.of_get n, hin1⟩
  replace f7 : GHeap.get aA n0 = some (.row (ints []) 2 true) := f7
  refine .R rfl (.litA rfl sl_24_A ze_2_Pa rfl rfl rfl rfl) ?_
  rintro _ z9 ⟨o0, rfl, m7, ge27, l0⟩
  replace l := l.trans m7
  replace m := m7.2 _ _ m
  replace n := m7.2 _ _ n
  replace l5 := m7.2 _ _ l5
  replace e8 := m7.2 _ _ e8
  replace f7 := m7.2 _ _ f7
  have lt_at27 := GHeap.ltg l0
  replace hin := i.mono l
  replace hin1 := e.mono l
  clear r
  have r : Cat.At _ g2 0 c p := ⟨Mem.of_get m, hin⟩
  clear u
  have u : Cat.At _ g3 0 d q := ⟨Mem.of_get n, hin1⟩
  replace l0 : GHeap.get z9 o0 = some (.row (ints []) 2 true) := l0
  refine .R rfl (.litA rfl sl_25_B ze_24_Hj rfl rfl rfl rfl) ?_
  rintro _ H28 ⟨n9, rfl, m2, ge28, l9⟩
  replace l := l.trans m2
  replace m := m2.2 _ _ m
  replace n := m2.2 _ _ n
  replace l5 := m2.2 _ _ l5
  replace e8 := m2.2 _ _ e8
  replace f7 := m2.2 _ _ f7
  replace l0 := m2.2 _ _ l0
  have lt_at28 := GHeap.ltg l9
  replace hin := i.mono l
  replace hin1 := e.mono l
  clear r
  have r : Cat.At _ g2 0 c p := ⟨Mem.of_get m, hin⟩
  clear u
  have u : Cat.At _ g3 0 d q := ⟨Mem.of_get n, hin1⟩
  refine .q rfl (.build bt_27_Hj rfl rfl rfl) ?_
  refine .R rfl (.allocR rfl ze_27_Hj rfl) ?_
  rintro _ H7 ⟨g7, rfl, o1, ge7, at7⟩
  have nx_H7 := o1.1
  replace l := l.trans o1
  replace m := o1.2 _ _ m
  replace n := o1.2 _ _ n
  replace l5 := o1.2 _ _ l5
  replace e8 := o1.2 _ _ e8
  replace f7 := o1.2 _ _ f7
  replace l0 := o1.2 _ _ l0
  replace l9 := o1.2 _ _ l9
  replace hin := i.mono l
  replace hin1 := e.mono l
  clear r
  have r : Cat.At _ g2 0 c p := ⟨Mem.of_get m, hin⟩
  clear u
  have u : Cat.At _ g3 0 d q := ⟨Mem.of_get n, hin1⟩
  refine .r0 rfl rfl (.fillA rfl sz_27_D rfl rfl rfl rfl) ?_
  rintro _ p0 ⟨rfl, e0, at2010⟩
  have nx_H2010 := e0.nx
  replace l := l.st e0 (fun k hk => ⟨by omega, trivial⟩)
  have a0 : NE g2 g7 := .a
  replace m := e0.s m a0.ne
  have b0 : NE g3 g7 := .a
  replace n := e0.s n b0.ne
  have h2 : NE g4 g7 := .a
  replace l5 := e0.s l5 h2.ne
  have j6 : NE n1 g7 := .a
  replace e8 := e0.s e8 j6.ne
  have j7 : NE n0 g7 := .a
  replace f7 := e0.s f7 j7.ne
  replace l0 := e0.s l0
  have k2 : NE n9 g7 := .a
  replace l9 := e0.s l9 k2.ne
  replace hin := i.mono l
  replace hin1 := e.mono l
  clear r
  have r : Cat.At _ g2 0 c p := ⟨Mem.of_get m, hin⟩
  clear u
  have u : Cat.At _ g3 0 d q := ⟨Mem.of_get n, hin1⟩
  refine .nil (aN _ _ (.seq (fun K4 y2 => .seq (fun K5 y4 => .region (.mv rfl (.nil (y4 _ _ ?_)))))))
  refine .block ?_
  refine .loopR (σ := Nat × List Int × Nat) [(2, some _), (3, some _), (4, some _), (5, some _), (6, some _), (7, some _)] (fun (x, is, gLI) => [(8, some (.int .i64 (x : Int)))]) (fun (x, is, gLI) H' => St [o0, g7] p0 H' ∧ H'.get gLI = some (.row (ints is) 2 true) ∧ PL gLI o0 p0.next ∧ H'.get g7 = some (.row ([.int .i64 (c.obj * d.obj), .slice (some ⟨n1, 0, none⟩) 0 0, .slice (some ⟨n0, 0, none⟩) 0 0, .slice (some ⟨gLI, 0, none⟩) is.length is.length, .slice (some ⟨n9, 0, none⟩) 0 0]) 27 true) ∧ gLI ≠ g7 ∧ ((x : Int) ≤ c.obj ∧ (is.length : Int) = (x : Int) * d.obj) ∧ Bd 0 33000 is) (fun (x, is, gLI) => (c.obj - x : Int).toNat) ((0, [], o0)) ⟨rfl, rfl, rfl, rfl, rfl, rfl, trivial⟩ ⟨rfl, trivial⟩ ?_ ?_
  ·
   refine ⟨.refl _ _, by assumption, ⟨.inl rfl⟩, by assumption, by omega, ?_⟩
   exact ⟨⟨by omega, by simp⟩, .nil _ _⟩
  rintro ⟨x, is, gLI⟩ HL1 ⟨h8, k5, e3, t, s0, hI⟩ KL1 u7
  refine .forget (fr' := [(8, some (.int .i64 (x : Int))), (2, some _), (3, some _), (4, some _), (5, some _), (6, some _), (7, some _)]) ⟨rfl, rfl, rfl, rfl, rfl, rfl, rfl, trivial⟩ ?_
  have ge_LI : H.next ≤ gLI := e3.ge (by omega) (by omega)
  have nx_HL1 := h8.nx
  replace l := l.st h8 (fun k hk => ⟨by omega, by omega, trivial⟩)
  have k0 : NE g2 o0 := .a
  replace m := h8.same _ _ ⟨k0.ne, a0.ne, trivial⟩ m
  have i7 : NE g3 o0 := .a
  replace n := h8.same _ _ ⟨i7.ne, b0.ne, trivial⟩ n
  have i8 : NE g4 o0 := .a
  replace l5 := h8.same _ _ ⟨i8.ne, h2.ne, trivial⟩ l5
  have h9 : NE n1 o0 := .a
  replace e8 := h8.same _ _ ⟨h9.ne, j6.ne, trivial⟩ e8
  have h5 : NE n0 o0 := .a
  replace f7 := h8.same _ _ ⟨h5.ne, j7.ne, trivial⟩ f7
  have h0 : NE n9 o0 := .a
  replace l9 := h8.same _ _ ⟨h0.ne, k2.ne, trivial⟩ l9
  have lt_at_LI := GHeap.ltg k5
  replace hin := i.mono l
  replace hin1 := e.mono l
  clear r
  have r : Cat.At _ g2 0 c p := ⟨Mem.of_get m, hin⟩
  obtain ⟨v0, -, -, -, -, -, -, -, -⟩ := r.get
  clear u
  have u : Cat.At _ g3 0 d q := ⟨Mem.of_get n, hin1⟩
  obtain ⟨⟨hx, hl⟩, hB⟩ := hI
  have mx := mul_bd (a := (x : Int)) (by omega) b1
  refine .seq (fun K6 z2 => .seq (fun K7 aD => .region (.mv rfl (.q rfl (.fieldAddr fo_27_0_B rfl) ?_))))
  refine .q rfl (.load on_2_A rfl (by first | assumption | exact Mem.of_get m 0 _ rfl)) ?_
  refine .q rfl (.cmp rfl rfl rfl) (.nil (aD _ _ ?_))
  refine .cond rfl (fun u0 => ?_) (fun u0 => ?_)
  ·
   simp only [sps] at u0
   have r1 := a7 x (by omega)
   refine .skip ?_
   refine z2 _ _ (.seq (fun K8 y1 => ?_))
   refine .block ?_
   refine .seq (fun K9 z8 => .region (.mv rfl (.nil (z8 _ _ ?_))))
   refine .block ?_
   refine .loopR (σ := Nat × List Int × Nat) [(2, some _), (3, some _), (4, some _), (5, some _), (6, some _), (7, some _), (8, some _)] (fun (y, i2, l4) => [(9, some (.int .i64 (y : Int)))]) (fun (y, i2, l4) H' => St [gLI, g7] HL1 H' ∧ H'.get l4 = some (.row (ints i2) 2 true) ∧ PL l4 gLI HL1.next ∧ H'.get g7 = some (.row ([.int .i64 (c.obj * d.obj), .slice (some ⟨n1, 0, none⟩) 0 0, .slice (some ⟨n0, 0, none⟩) 0 0, .slice (some ⟨l4, 0, none⟩) i2.length i2.length, .slice (some ⟨n9, 0, none⟩) 0 0]) 27 true) ∧ l4 ≠ g7 ∧ ((y : Int) ≤ d.obj ∧ (i2.length : Int) = (x : Int) * d.obj + y) ∧ Bd 0 33000 i2) (fun (y, i2, l4) => (d.obj - y : Int).toNat) ((0, is, gLI)) ⟨rfl, rfl, rfl, rfl, rfl, rfl, rfl, trivial⟩ ⟨rfl, trivial⟩ ?_ ?_
   ·
    refine ⟨.refl _ _, by assumption, ⟨.inl rfl⟩, by assumption, by omega, ?_⟩
    exact ⟨⟨by omega, by omega⟩, hB⟩
   rintro ⟨y, i2, l4⟩ HL2 ⟨g1, m8, l3, t, q6, hI⟩ KL2 u9
   refine .forget (fr' := [(9, some (.int .i64 (y : Int))), (2, some _), (3, some _), (4, some _), (5, some _), (6, some _), (7, some _), (8, some _)]) ⟨rfl, rfl, rfl, rfl, rfl, rfl, rfl, rfl, trivial⟩ ?_
   have ge_LI2 : H.next ≤ l4 := l3.ge (by omega) (by omega)
   have nx_HL2 := g1.nx
   replace l := l.st g1 (fun k hk => ⟨by omega, by omega, trivial⟩)
   replace h8 := h8.st g1 (fun k hk ho => by simp only [out, and_true] at ho ⊢ <;> exact ⟨by first | exact ho | exact ho.1 | exact ho.2 | exact ho.2.1 | exact ho.2.2 | exact ho.2.2.1 | exact ho.2.2.2 | exact e3.ne (by first | exact ho | exact ho.1 | exact ho.2 | exact ho.2.1 | exact ho.2.2 | exact ho.2.2.1 | exact ho.2.2.2 | omega) (by omega) | omega, by first | exact ho | exact ho.1 | exact ho.2 | exact ho.2.1 | exact ho.2.2 | exact ho.2.2.1 | exact ho.2.2.2 | omega⟩)
   have j1 : NE g2 gLI := ⟨e3.ne k0.ne (by omega)⟩
   replace m := g1.same _ _ ⟨j1.ne, a0.ne, trivial⟩ m
   have k3 : NE g3 gLI := ⟨e3.ne i7.ne (by omega)⟩
   replace n := g1.same _ _ ⟨k3.ne, b0.ne, trivial⟩ n
   have m6 := GHeap.ltg t
   replace hin := i.mono l
   replace hin1 := e.mono l
   clear r v0
   have r : Cat.At _ g2 0 c p := ⟨Mem.of_get m, hin⟩
   obtain ⟨-, -, -, y3, -, -, -, aE, -⟩ := r.get
   clear u
   have u : Cat.At _ g3 0 d q := ⟨Mem.of_get n, hin1⟩
   obtain ⟨-, -, -, z7, -, -, -, z6, -⟩ := u.get
   obtain ⟨⟨hy, hl⟩, hB⟩ := hI
   refine .seq (fun K10 t4 => .seq (fun K11 v6 => .region (.mv rfl (.mv rfl (.q rfl (.cmp rfl rfl rfl) (.nil (v6 _ _ ?_)))))))
   refine .cond rfl (fun u4 => ?_) (fun u4 => ?_)
   ·
    simp only [sps] at u4
    have r2 := b7 y (by omega)
    have mm := mul_bd (a := c.idn.getD x 0) (b := (d.src.length : Int)) (by omega) (by omega)
    refine .skip ?_
    refine t4 _ _ (.seq (fun K12 v3 => ?_))
    refine .block ?_
    refine .regionD mo_B (.q 0 (.q 1 (.q 2 (.q 3 (.q 4 (.q 5 (.q 6 (.q 7 (.q 8 (.q 9 (.q 10 (.q 11 (.q 12 (.q 13 (.q 14 (.c 15 1 (.c 16 0 (.q 17 (.c 18 0 (.done)))))))))))))))))))) (by kernel_rfl) ?_
    refine .q rfl (.fieldAddr fo_27_3_B rfl) ?_
    refine .q rfl (.load on_24_B rfl (by first | assumption | exact Mem.of_get t 3 _ rfl)) ?_
    refine .q rfl (.fieldAddr fo_27_3_B rfl) ?_
    refine .q rfl (.load on_24_B rfl (by first | assumption | exact Mem.of_get m 3 _ rfl)) ?_
    refine .mv rfl rfl ?_
    refine .q rfl (.idxN sl_24_A (by assumption) rfl rfl (by omega)) ?_
    refine .q rfl (.loadI on_2_A (by assumption) rfl (by omega)) ?_
    refine .mv rfl rfl ?_
    refine .q rfl (.mul rfl rfl rfl (by omega) (by omega)) ?_
    refine .q rfl (.fieldAddr fo_27_3_B rfl) ?_
    refine .q rfl (.load on_24_B rfl (by first | assumption | exact Mem.of_get n 3 _ rfl)) ?_
    refine .mv rfl rfl ?_
    refine .q rfl (.idxN sl_24_A (by assumption) rfl rfl (by omega)) ?_
    refine .q rfl (.loadI on_2_A (by assumption) rfl (by omega)) ?_
    refine .q rfl (.add rfl rfl rfl (by omega) (by omega)) ?_
    refine .c1 rfl rfl rfl rfl (.litA rfl sl_24_A ze_2_Pa rfl rfl rfl rfl) ?_
    rintro _ H56 ⟨g56, rfl, m1, ge56, v4⟩
    have q3 := m1
    refine ⟨q3, ?_⟩
    replace l := l.trans m1
    replace g1 := g1.le m1
    replace m := m1.2 _ _ m
    replace n := m1.2 _ _ n
    replace m8 := m1.2 _ _ m8
    replace t := m1.2 _ _ t
    have lt_at56 := GHeap.ltg v4
    replace hin := i.mono l
    replace hin1 := e.mono l
    clear r y3 aE
    have r : Cat.At _ g2 0 c p := ⟨Mem.of_get m, hin⟩
    clear u z7 z6
    have u : Cat.At _ g3 0 d q := ⟨Mem.of_get n, hin1⟩
    refine .c0 rfl rfl rfl rfl (.appendI rfl sl_24_A ze_2_Pa rfl by_2_Pa sl_24_A rfl rfl (by assumption) (by assumption) (by first | omega | (simp <;> omega)) (by omega) (by omega)) ?_
    rintro _ H57 ⟨aL, rfl, n7, ge57, r7⟩
    replace l := l.st n7 (fun k hk => ⟨by omega, trivial⟩)
    replace g1 := g1.sQ n7
    replace m := n7.same _ _ ⟨(l3.ne j1.ne (by omega)), trivial⟩ m
    replace n := n7.same _ _ ⟨(l3.ne k3.ne (by omega)), trivial⟩ n
    replace t := n7.same _ _ ⟨(Ne.symm q6), trivial⟩ t
    replace hin := i.mono l
    replace hin1 := e.mono l
    clear r
    have r : Cat.At _ g2 0 c p := ⟨Mem.of_get m, hin⟩
    clear u
    have u : Cat.At _ g3 0 d q := ⟨Mem.of_get n, hin1⟩
    refine .q rfl (.fieldAddr fo_27_3_B rfl) ?_
    refine .r0 rfl rfl rfl (.storeR rfl sz_24_Ch rfl rfl rfl (by assumption) (by first | exact Nat.le_of_ble_eq_true rfl | (simp; done) | (simp <;> omega))) ?_
    rintro _ H9018 ⟨rfl, h7, p3⟩
    replace l := l.st h7 (fun k hk => ⟨by omega, trivial⟩)
    replace g1 := g1.sA h7
    replace m := h7.s m a0.ne
    replace n := h7.s n b0.ne
    replace r7 := h7.s r7
    replace hin := i.mono l
    replace hin1 := e.mono l
    clear r
    have r : Cat.At _ g2 0 c p := ⟨Mem.of_get m, hin⟩
    clear u
    have u : Cat.At _ g3 0 d q := ⟨Mem.of_get n, hin1⟩
    try simp only [Nat.zero_add, List.set_cons_succ, List.set_cons_zero] at p3
    refine .done ?_
    refine v3 _ _ (.region (.mv rfl ?_))
    refine .q rfl (.add rfl rfl rfl (by omega) (by omega)) ?_
    refine .mv rfl (.nil ?_)
    refine u9 ((y + 1, i2 ++ [c.idn.getD x 0 * (d.src.length : Int) + d.idn.getD y 0], aL)) _ _ ?_ ?_ ⟨rfl, rfl, rfl, rfl, rfl, rfl, rfl, rfl, trivial⟩
    ·
     refine ⟨g1, by assumption, by exact ⟨.inr (by omega)⟩, by (rw [List.length_append]; assumption), by omega, ?_⟩
     exact ⟨⟨by omega, by simp; omega⟩, hB.snoc (by omega) (by omega)⟩
    (dsimp only; omega)
   try simp only [sps] at u4
   refine .exit ?_
   refine y1 _ _ (.region (.mv rfl ?_))
   refine .q rfl (.add rfl rfl rfl (by omega) (by omega)) ?_
   refine .mv rfl (.nil ?_)
   refine u7 ((x + 1, i2, l4)) _ _ ?_ ?_ ⟨rfl, rfl, rfl, rfl, rfl, rfl, rfl, trivial⟩
   ·
    refine ⟨h8, by assumption, by exact l3.trans e3 (by omega), by assumption, by assumption, ?_⟩
    have e1 := smz x d.obj
    exact ⟨⟨by omega, by omega⟩, hB⟩
   (dsimp only; omega)
  try simp only [sps] at u0
  refine .exit ?_
  refine y2 _ _ (.seq (fun K13 v8 => .seq (fun K14 w7 => .region ?_)))
  obtain rfl : x = c.obj.toNat := by omega
  refine .mv rfl (.nil (w7 _ _ ?_))
  refine .block ?_
  refine .loopR (σ := Nat × List Int × List Int × (Nat → Option Addr) × List (List Int) × Nat × Nat × Nat) [(2, some _), (3, some _), (4, some _), (5, some _), (6, some _), (7, some _)] (fun (a, ss, ts, rr, cs, gLF, gLT, gLC) => [(10, some (.int .i64 (a : Int)))]) (fun (a, ss, ts, rr, cs, gLF, gLT, gLC) H' => St [n1, n0, n9, g7] HL1 H' ∧ H'.get gLF = some (.row (ints ss) 2 true) ∧ PL gLF n1 HL1.next ∧ H'.get gLT = some (.row (ints ts) 2 true) ∧ PL gLT n0 HL1.next ∧ H'.get gLC = some (.row ((slsL rr cs)) 24 true) ∧ PL gLC n9 HL1.next ∧ H'.get g7 = some (.row ([.int .i64 (c.obj * d.obj), .slice (some ⟨gLF, 0, none⟩) ss.length ss.length, .slice (some ⟨gLT, 0, none⟩) ss.length ss.length, .slice (some ⟨gLI, 0, none⟩) is.length is.length, .slice (some ⟨gLC, 0, none⟩) ss.length ss.length]) 27 true) ∧ gLF ≠ gLT ∧ gLF ≠ gLC ∧ gLF ≠ g7 ∧ gLT ≠ gLC ∧ gLT ≠ g7 ∧ gLC ≠ g7 ∧ (a ≤ c.src.length ∧ ss.length = a * d.src.length ∧ ts.length = ss.length ∧ cs.length = ss.length) ∧ Bd 0 33000 ss ∧ Bd 0 33000 ts ∧ Tb (-1) 33000 (c.src.length * d.src.length) cs ∧ OwnL H.next H' 2 rr cs ∧ (∀ j, j < cs.length → rr j ≠ some ⟨gLF, 0, none⟩) ∧ (∀ j, j < cs.length → rr j ≠ some ⟨gLT, 0, none⟩) ∧ ∀ j, j < cs.length → rr j ≠ some ⟨gLI, 0, none⟩) (fun (a, ss, ts, rr, cs, gLF, gLT, gLC) => c.src.length - a) ((0, [], [], fun _ => none, [], n1, n0, n9)) ⟨rfl, rfl, rfl, rfl, rfl, rfl, trivial⟩ ⟨rfl, trivial⟩ ?_ ?_
  ·
   refine ⟨.refl _ _, by assumption, ⟨.inl rfl⟩, by assumption, ⟨.inl rfl⟩, by assumption, ⟨.inl rfl⟩, by assumption, by omega, by omega, by omega, by omega, by omega, by omega, ?_⟩
   exact ⟨⟨by omega, by simp, rfl, rfl⟩, .nil _ _, .nil _ _, .nil _ _ _, .nil _ _ _ _, fun _ h => by simp at h, fun _ h => by simp at h, fun _ h => by simp at h⟩
  rintro ⟨a, ss, ts, rr, cs, gLF, gLT, gLC⟩ HL3 ⟨l2, m4, g8, n6, h4, m9, j0, t, ap3_0, ap3_1, ap3_2, ap3_3, ap3_4, ap3_5, hI⟩ KL3 t6
  refine .forget (fr' := [(10, some (.int .i64 (a : Int))), (2, some _), (3, some _), (4, some _), (5, some _), (6, some _), (7, some _)]) ⟨rfl, rfl, rfl, rfl, rfl, rfl, rfl, trivial⟩ ?_
  have ge_LF : H.next ≤ gLF := g8.ge (by omega) (by omega)
  have ge_LT : H.next ≤ gLT := h4.ge (by omega) (by omega)
  have ge_LC : H.next ≤ gLC := j0.ge (by omega) (by omega)
  have nx_HL3 := l2.nx
  replace l := l.st l2 (fun k hk => ⟨by omega, by omega, by omega, by omega, trivial⟩)
  have j5 : NE g2 n1 := .a
  have j2 : NE g2 n0 := .a
  have k4 : NE g2 n9 := .a
  replace m := l2.same _ _ ⟨j5.ne, j2.ne, k4.ne, a0.ne, trivial⟩ m
  have i3 : NE g3 n1 := .a
  have j8 : NE g3 n0 := .a
  have i9 : NE g3 n9 := .a
  replace n := l2.same _ _ ⟨i3.ne, j8.ne, i9.ne, b0.ne, trivial⟩ n
  have j4 : NE g4 n1 := .a
  have k7 : NE g4 n0 := .a
  have i6 : NE g4 n9 := .a
  replace l5 := l2.same _ _ ⟨j4.ne, k7.ne, i6.ne, h2.ne, trivial⟩ l5
  replace k5 := l2.same _ _ ⟨(Ne.symm (e3.ne h9.ne (by omega))), (Ne.symm (e3.ne h5.ne (by omega))), (Ne.symm (e3.ne h0.ne (by omega))), s0, trivial⟩ k5
  have lt_at_LF := GHeap.ltg m4
  replace hin := i.mono l
  replace hin1 := e.mono l
  have r : Cat.At _ g2 0 c p := ⟨Mem.of_get m, hin⟩
  obtain ⟨-, q7, -, -, -, -, -, -, -⟩ := r.get
  have u : Cat.At _ g3 0 d q := ⟨Mem.of_get n, hin1⟩
  obtain ⟨⟨ha, aH, hts, hcl⟩, hS, hT, hC, hR, q5, s1, s4⟩ := hI
  have ml := mulN_bd (a := a) (b := d.src.length) (by omega) (by omega)
  refine .seq (fun K15 s8 => .seq (fun K16 x0 => .region (.mv rfl (.q rfl (.fieldAddr fo_27_1_B rfl) ?_))))
  refine .q rfl (.load on_24_B rfl (by first | assumption | exact Mem.of_get m 1 _ rfl)) ?_
  refine .q rfl (.len sl_24_A rfl) (.q rfl (.cmp rfl rfl rfl) (.nil (x0 _ _ ?_)))
  refine .cond rfl (fun w9 => ?_) (fun w9 => ?_)
  ·
   simp only [sps] at w9
   have q1 := a4 a (by omega)
   have q2 := a5 a (by omega)
   refine .skip ?_
   refine s8 _ _ (.seq (fun K17 w0 => ?_))
   refine .block ?_
   refine .seq (fun K18 x6 => .region (.mv rfl (.nil (x6 _ _ ?_))))
   refine .block ?_
   refine .loopR (σ := Nat × List Int × List Int × (Nat → Option Addr) × List (List Int) × Nat × Nat × Nat) [(2, some _), (3, some _), (4, some _), (5, some _), (6, some _), (7, some _), (10, some _)] (fun (b, s2, t2, r2, c2, f4, f9, f8) => [(11, some (.int .i64 (b : Int)))]) (fun (b, s2, t2, r2, c2, f4, f9, f8) H' => St [gLF, gLT, gLC, g7] HL3 H' ∧ H'.get f4 = some (.row (ints s2) 2 true) ∧ PL f4 gLF HL3.next ∧ H'.get f9 = some (.row (ints t2) 2 true) ∧ PL f9 gLT HL3.next ∧ H'.get f8 = some (.row ((slsL r2 c2)) 24 true) ∧ PL f8 gLC HL3.next ∧ H'.get g7 = some (.row ([.int .i64 (c.obj * d.obj), .slice (some ⟨f4, 0, none⟩) s2.length s2.length, .slice (some ⟨f9, 0, none⟩) s2.length s2.length, .slice (some ⟨gLI, 0, none⟩) is.length is.length, .slice (some ⟨f8, 0, none⟩) s2.length s2.length]) 27 true) ∧ f4 ≠ f9 ∧ f4 ≠ f8 ∧ f4 ≠ g7 ∧ f9 ≠ f8 ∧ f9 ≠ g7 ∧ f8 ≠ g7 ∧ (b ≤ d.src.length ∧ s2.length = a * d.src.length + b ∧ t2.length = s2.length ∧ c2.length = s2.length) ∧ Bd 0 33000 s2 ∧ Bd 0 33000 t2 ∧ Tb (-1) 33000 (c.src.length * d.src.length) c2 ∧ OwnL H.next H' 2 r2 c2 ∧ (∀ j, j < c2.length → r2 j ≠ some ⟨f4, 0, none⟩) ∧ (∀ j, j < c2.length → r2 j ≠ some ⟨f9, 0, none⟩) ∧ ∀ j, j < c2.length → r2 j ≠ some ⟨gLI, 0, none⟩) (fun (b, s2, t2, r2, c2, f4, f9, f8) => d.src.length - b) ((0, ss, ts, rr, cs, gLF, gLT, gLC)) ⟨rfl, rfl, rfl, rfl, rfl, rfl, rfl, trivial⟩ ⟨rfl, trivial⟩ ?_ ?_
   ·
    refine ⟨.refl _ _, by assumption, ⟨.inl rfl⟩, by assumption, ⟨.inl rfl⟩, by assumption, ⟨.inl rfl⟩, by assumption, by omega, by omega, by omega, by omega, by omega, by omega, ?_⟩
    exact ⟨⟨by omega, by omega, by omega, by omega⟩, hS, hT, hC, hR, q5, s1, s4⟩
   rintro ⟨b, s2, t2, r2, c2, f4, f9, f8⟩ HL4 ⟨c5, n8, k9, d6, l1, o, k8, t, r3, q8, s6, r9, o8, n5, hI⟩ KL4 x4
   refine .forget (fr' := [(11, some (.int .i64 (b : Int))), (2, some _), (3, some _), (4, some _), (5, some _), (6, some _), (7, some _), (10, some _)]) ⟨rfl, rfl, rfl, rfl, rfl, rfl, rfl, rfl, trivial⟩ ?_
   have ge_LF2 : H.next ≤ f4 := k9.ge (by omega) (by omega)
   have ge_LT2 : H.next ≤ f9 := l1.ge (by omega) (by omega)
   have ge_LC2 : H.next ≤ f8 := k8.ge (by omega) (by omega)
   have nx_HL4 := c5.nx
   replace l := l.st c5 (fun k hk => ⟨by omega, by omega, by omega, by omega, trivial⟩)
   replace l2 := l2.st c5 (fun k hk ho => by simp only [out, and_true] at ho ⊢ <;> exact ⟨by first | exact ho | exact ho.1 | exact ho.2 | exact ho.2.1 | exact ho.2.2 | exact ho.2.2.1 | exact ho.2.2.2 | exact g8.ne (by first | exact ho | exact ho.1 | exact ho.2 | exact ho.2.1 | exact ho.2.2 | exact ho.2.2.1 | exact ho.2.2.2 | omega) (by omega) | omega, by first | exact ho | exact ho.1 | exact ho.2 | exact ho.2.1 | exact ho.2.2 | exact ho.2.2.1 | exact ho.2.2.2 | exact h4.ne (by first | exact ho | exact ho.1 | exact ho.2 | exact ho.2.1 | exact ho.2.2 | exact ho.2.2.1 | exact ho.2.2.2 | omega) (by omega) | omega, by first | exact ho | exact ho.1 | exact ho.2 | exact ho.2.1 | exact ho.2.2 | exact ho.2.2.1 | exact ho.2.2.2 | exact j0.ne (by first | exact ho | exact ho.1 | exact ho.2 | exact ho.2.1 | exact ho.2.2 | exact ho.2.2.1 | exact ho.2.2.2 | omega) (by omega) | omega, by first | exact ho | exact ho.1 | exact ho.2 | exact ho.2.1 | exact ho.2.2 | exact ho.2.2.1 | exact ho.2.2.2 | omega⟩)
   have j9 : NE g2 gLF := ⟨g8.ne j5.ne (by omega)⟩
   have k6 : NE g2 gLT := ⟨h4.ne j2.ne (by omega)⟩
   have k1 : NE g2 gLC := ⟨j0.ne k4.ne (by omega)⟩
   replace m := c5.same _ _ ⟨j9.ne, k6.ne, k1.ne, a0.ne, trivial⟩ m
   have i4 : NE g3 gLF := ⟨g8.ne i3.ne (by omega)⟩
   have i5 : NE g3 gLT := ⟨h4.ne j8.ne (by omega)⟩
   have j3 : NE g3 gLC := ⟨j0.ne i9.ne (by omega)⟩
   replace n := c5.same _ _ ⟨i4.ne, i5.ne, j3.ne, b0.ne, trivial⟩ n
   have lt_at_LT2 := GHeap.ltg d6
   have lt_at_LC2 := GHeap.ltg o
   have m6 := GHeap.ltg t
   replace hin := i.mono l
   replace hin1 := e.mono l
   clear r q7
   have r : Cat.At _ g2 0 c p := ⟨Mem.of_get m, hin⟩
   obtain ⟨-, q7, -, -, -, y6, -, -, -⟩ := r.get
   clear u
   have u : Cat.At _ g3 0 d q := ⟨Mem.of_get n, hin1⟩
   obtain ⟨-, r6, -, -, -, aF, -, -, -⟩ := u.get
   have rk := St.refl [f4, f9, f8, g7] HL4
   obtain ⟨⟨hb, hs9, hts, hcl⟩, hS, hT, hC, hR, q5, s1, s4⟩ := hI
   have hatC := o
   have u6 := t
   have hfl : (slsL r2 c2).length = c2.length := length_slsL _ _
   refine .seq (fun K19 x1 => .seq (fun K20 w4 => .region (.mv rfl (.q rfl (.fieldAddr fo_27_1_B rfl) ?_))))
   refine .q rfl (.load on_24_B rfl (by first | assumption | exact Mem.of_get n 1 _ rfl)) ?_
   refine .q rfl (.len sl_24_A rfl) (.q rfl (.cmp rfl rfl rfl) (.nil (w4 _ _ ?_)))
   refine .cond rfl (fun t9 => ?_) (fun t9 => ?_)
   ·
    simp only [sps] at t9
    have p1 := b4 b (by omega)
    have p2 := b5 b (by omega)
    have mm1 := mul_bd (a := c.src.getD a 0) (by omega) b1
    have mm2 := mul_bd (a := c.tgt.getD a 0) (by omega) b1
    refine .skip ?_
    refine x1 _ _ (.seq (fun K21 s9 => ?_))
    refine .block ?_
    refine .seq (fun K22 u5 => ?_)
    refine .regionD mo_B (.q 0 (.q 1 (.q 2 (.q 3 (.q 4 (.q 5 (.q 6 (.q 7 (.q 8 (.q 9 (.q 10 (.q 11 (.q 12 (.q 13 (.q 14 (.c 15 1 (.c 16 0 (.q 17 (.c 18 0 (.done)))))))))))))))))))) (by kernel_rfl) ?_
    refine .q rfl (.fieldAddr fo_27_1_B rfl) ?_
    refine .q rfl (.load on_24_B rfl (by first | assumption | exact Mem.of_get t 1 _ rfl)) ?_
    refine .q rfl (.fieldAddr fo_27_1_B rfl) ?_
    refine .q rfl (.load on_24_B rfl (by first | assumption | exact Mem.of_get m 1 _ rfl)) ?_
    refine .mv rfl rfl ?_
    refine .q rfl (.idxN sl_24_A (by assumption) rfl rfl (by omega)) ?_
    refine .q rfl (.loadI on_2_A (by assumption) rfl (by omega)) ?_
    refine .mv rfl rfl ?_
    refine .q rfl (.mul rfl rfl rfl (by omega) (by omega)) ?_
    refine .q rfl (.fieldAddr fo_27_1_B rfl) ?_
    refine .q rfl (.load on_24_B rfl (by first | assumption | exact Mem.of_get n 1 _ rfl)) ?_
    refine .mv rfl rfl ?_
    refine .q rfl (.idxN sl_24_A (by assumption) rfl rfl (by omega)) ?_
    refine .q rfl (.loadI on_2_A (by assumption) rfl (by omega)) ?_
    refine .q rfl (.add rfl rfl rfl (by omega) (by omega)) ?_
    refine .c1 rfl rfl rfl rfl (.litA rfl sl_24_A ze_2_Pa rfl rfl rfl rfl) ?_
    rintro _ H88 ⟨g88, rfl, i1, ge88, w5⟩
    have q3 := i1
    refine ⟨q3, ?_⟩
    replace l := l.trans i1
    replace c5 := c5.le i1
    replace rk := rk.le i1
    replace m := i1.2 _ _ m
    replace n := i1.2 _ _ n
    replace n8 := i1.2 _ _ n8
    replace d6 := i1.2 _ _ d6
    replace o := i1.2 _ _ o
    replace t := i1.2 _ _ t
    have lt_at88 := GHeap.ltg w5
    replace hin := i.mono l
    replace hin1 := e.mono l
    clear r q7 y6
    have r : Cat.At _ g2 0 c p := ⟨Mem.of_get m, hin⟩
    clear u r6 aF
    have u : Cat.At _ g3 0 d q := ⟨Mem.of_get n, hin1⟩
    refine .c0 rfl rfl rfl rfl (.appendI rfl sl_24_A ze_2_Pa rfl by_2_Pa sl_24_A rfl rfl (by assumption) (by assumption) (by first | omega | (simp <;> omega)) (by omega) (by omega)) ?_
    rintro _ H89 ⟨s7, rfl, l7, ge89, d8⟩
    replace l := l.st l7 (fun k hk => ⟨by omega, trivial⟩)
    replace c5 := c5.sQ l7
    replace rk := rk.sQ l7
    replace m := l7.same _ _ ⟨(k9.ne j9.ne (by omega)), trivial⟩ m
    replace n := l7.same _ _ ⟨(k9.ne i4.ne (by omega)), trivial⟩ n
    replace d6 := l7.same _ _ ⟨(Ne.symm r3), trivial⟩ d6
    replace o := l7.same _ _ ⟨(Ne.symm q8), trivial⟩ o
    replace t := l7.same _ _ ⟨(Ne.symm s6), trivial⟩ t
    have lt_at89 := GHeap.ltg d8
    replace hin := i.mono l
    replace hin1 := e.mono l
    clear r
    have r : Cat.At _ g2 0 c p := ⟨Mem.of_get m, hin⟩
    clear u
    have u : Cat.At _ g3 0 d q := ⟨Mem.of_get n, hin1⟩
    refine .q rfl (.fieldAddr fo_27_1_B rfl) ?_
    refine .r0 rfl rfl rfl (.storeR rfl sz_24_Ch rfl rfl rfl (by assumption) (by first | exact Nat.le_of_ble_eq_true rfl | (simp; done) | (simp <;> omega))) ?_
    rintro _ H16018 ⟨rfl, c9, d7⟩
    have nx_H16018 := c9.nx
    replace l := l.st c9 (fun k hk => ⟨by omega, trivial⟩)
    replace c5 := c5.sA c9
    replace rk := rk.sA c9
    replace m := c9.s m a0.ne
    replace n := c9.s n b0.ne
    replace d6 := c9.same _ _ ⟨o8, trivial⟩ d6
    replace o := c9.same _ _ ⟨n5, trivial⟩ o
    have f6 : NE s7 g7 := .a
    replace d8 := c9.s d8 f6.ne
    have lt_at16018 := GHeap.ltg d7
    replace hin := i.mono l
    replace hin1 := e.mono l
    clear r
    have r : Cat.At _ g2 0 c p := ⟨Mem.of_get m, hin⟩
    obtain ⟨-, -, aK, -, -, -, y8, -, -⟩ := r.get
    clear u
    have u : Cat.At _ g3 0 d q := ⟨Mem.of_get n, hin1⟩
    obtain ⟨-, -, z3, -, -, -, aI, -, -⟩ := u.get
    try simp only [Nat.zero_add, List.set_cons_succ, List.set_cons_zero] at d7
    refine .done ?_
    refine u5 _ _ (.seq (fun K23 t7 => ?_))
    refine .regionD mo_B (.q 0 (.q 1 (.q 2 (.q 3 (.q 4 (.q 5 (.q 6 (.q 7 (.q 8 (.q 9 (.q 10 (.q 11 (.q 12 (.q 13 (.q 14 (.c 15 1 (.c 16 0 (.q 17 (.c 18 0 (.done)))))))))))))))))))) (by kernel_rfl) ?_
    refine .q rfl (.fieldAddr fo_27_2_B rfl) ?_
    refine .q rfl (.load on_24_B rfl (by first | assumption | exact Mem.of_get d7 2 _ rfl)) ?_
    refine .q rfl (.fieldAddr fo_27_2_B rfl) ?_
    refine .q rfl (.load on_24_B rfl (by first | assumption | exact Mem.of_get m 2 _ rfl)) ?_
    refine .mv rfl rfl ?_
    refine .q rfl (.idxN sl_24_A (by assumption) rfl rfl (by omega)) ?_
    refine .q rfl (.loadI on_2_A (by assumption) rfl (by omega)) ?_
    refine .mv rfl rfl ?_
    refine .q rfl (.mul rfl rfl rfl (by omega) (by omega)) ?_
    refine .q rfl (.fieldAddr fo_27_2_B rfl) ?_
    refine .q rfl (.load on_24_B rfl (by first | assumption | exact Mem.of_get n 2 _ rfl)) ?_
    refine .mv rfl rfl ?_
    refine .q rfl (.idxN sl_24_A (by assumption) rfl rfl (by omega)) ?_
    refine .q rfl (.loadI on_2_A (by assumption) rfl (by omega)) ?_
    refine .q rfl (.add rfl rfl rfl (by omega) (by omega)) ?_
    refine .c1 rfl rfl rfl rfl (.litA rfl sl_24_A ze_2_Pa rfl rfl rfl rfl) ?_
    rintro _ H106 ⟨g106, rfl, e5, ge106, q4⟩
    have q3 := e5
    refine ⟨q3, ?_⟩
    replace l := l.trans e5
    replace c5 := c5.le e5
    replace rk := rk.le e5
    replace m := e5.2 _ _ m
    replace n := e5.2 _ _ n
    replace d6 := e5.2 _ _ d6
    replace o := e5.2 _ _ o
    replace d8 := e5.2 _ _ d8
    replace d7 := e5.2 _ _ d7
    have lt_at106 := GHeap.ltg q4
    replace hin := i.mono l
    replace hin1 := e.mono l
    clear r aK y8
    have r : Cat.At _ g2 0 c p := ⟨Mem.of_get m, hin⟩
    clear u z3 aI
    have u : Cat.At _ g3 0 d q := ⟨Mem.of_get n, hin1⟩
    refine .c0 rfl rfl rfl rfl (.appendI rfl sl_24_A ze_2_Pa rfl by_2_Pa sl_24_A rfl rfl (by assumption) (by assumption) (by first | omega | (simp <;> omega)) (by omega) (by omega)) ?_
    rintro _ H107 ⟨o5, rfl, g0, ge107, d4⟩
    replace l := l.st g0 (fun k hk => ⟨by omega, trivial⟩)
    replace c5 := c5.sQ g0
    replace rk := rk.sQ g0
    replace m := g0.same _ _ ⟨(l1.ne k6.ne (by omega)), trivial⟩ m
    replace n := g0.same _ _ ⟨(l1.ne i5.ne (by omega)), trivial⟩ n
    replace o := g0.same _ _ ⟨(Ne.symm r9), trivial⟩ o
    replace d8 := g0.s d8
    replace d7 := g0.same _ _ ⟨(Ne.symm o8), trivial⟩ d7
    have lt_at107 := GHeap.ltg d4
    replace hin := i.mono l
    replace hin1 := e.mono l
    clear r
    have r : Cat.At _ g2 0 c p := ⟨Mem.of_get m, hin⟩
    clear u
    have u : Cat.At _ g3 0 d q := ⟨Mem.of_get n, hin1⟩
    refine .q rfl (.fieldAddr fo_27_2_B rfl) ?_
    refine .r0 rfl rfl rfl (.storeR rfl sz_24_Ch rfl rfl rfl (by assumption) (by first | exact Nat.le_of_ble_eq_true rfl | (simp; done) | (simp <;> omega))) ?_
    rintro _ H17018 ⟨rfl, c7, w⟩
    have nx_H17018 := c7.nx
    replace l := l.st c7 (fun k hk => ⟨by omega, trivial⟩)
    replace c5 := c5.sA c7
    replace rk := rk.sA c7
    replace m := c7.s m a0.ne
    replace n := c7.s n b0.ne
    replace o := c7.same _ _ ⟨n5, trivial⟩ o
    replace d8 := c7.s d8 f6.ne
    have h6 : NE o5 g7 := .a
    replace d4 := c7.s d4 h6.ne
    have lt_at17018 := GHeap.ltg w
    replace hin := i.mono l
    replace hin1 := e.mono l
    clear r
    have r : Cat.At _ g2 0 c p := ⟨Mem.of_get m, hin⟩
    clear u
    have u : Cat.At _ g3 0 d q := ⟨Mem.of_get n, hin1⟩
    try simp only [Nat.zero_add, List.set_cons_succ, List.set_cons_zero] at w
    refine .done ?_
    refine t7 _ _ (.seq (fun K24 t5 => .region ?_))
    refine .R rfl (.litA rfl sl_24_A ze_2_Pa rfl rfl rfl rfl) ?_
    rintro _ p9 ⟨m3, rfl, e9, ge109, n2⟩
    replace l := l.trans e9
    replace c5 := c5.le e9
    replace rk := rk.le e9
    replace m := e9.2 _ _ m
    replace n := e9.2 _ _ n
    replace o := e9.2 _ _ o
    replace d8 := e9.2 _ _ d8
    replace d4 := e9.2 _ _ d4
    replace w := e9.2 _ _ w
    have lt_at109 := GHeap.ltg n2
    replace hin := i.mono l
    replace hin1 := e.mono l
    clear r
    have r : Cat.At _ g2 0 c p := ⟨Mem.of_get m, hin⟩
    clear u
    have u : Cat.At _ g3 0 d q := ⟨Mem.of_get n, hin1⟩
    replace n2 : GHeap.get p9 m3 = some (.row (ints []) 2 true) := n2
    refine .mv rfl (.nil (t5 _ _ (.seq (fun K25 t1 => .seq (fun K26 x5 => .region (.mv rfl (.nil (x5 _ _ ?_))))))))
    refine .block ?_
    refine .loopR (σ := Nat × List Int × Nat × Nat) [(2, some _), (3, some _), (4, some _), (5, some _), (6, some _), (7, some _), (10, some _), (11, some _)] (fun (f, row, e4, l6) => [(13, some (.int .i64 (f : Int))), (12, some (.slice (some ⟨e4, 0, none⟩) l6 l6))]) (fun (f, row, e4, l6) H' => St [m3] p9 H' ∧ H'.get e4 = some (.row (ints row) 2 true) ∧ PL e4 m3 p9.next ∧ l6 = row.length ∧ (f ≤ c.src.length ∧ row.length = f * d.src.length) ∧ Bd (-1) 33000 row) (fun (f, row, e4, l6) => c.src.length - f) ((0, [], _, _)) ⟨rfl, rfl, rfl, rfl, rfl, rfl, rfl, rfl, trivial⟩ ⟨rfl, rfl, trivial⟩ ?_ ?_
    ·
     refine ⟨.refl _ _, by assumption, ⟨.inl rfl⟩, by rfl, ?_⟩
     exact ⟨⟨by omega, by simp⟩, .nil _ _⟩
    rintro ⟨f, row, e4, l6⟩ HL5 ⟨f5, e7, d1, p7, hI⟩ KL5 x3
    refine .forget (fr' := [(13, some (.int .i64 (f : Int))), (12, some (.slice (some ⟨e4, 0, none⟩) l6 l6)), (2, some _), (3, some _), (4, some _), (5, some _), (6, some _), (7, some _), (10, some _), (11, some _)]) ⟨rfl, rfl, rfl, rfl, rfl, rfl, rfl, rfl, rfl, rfl, trivial⟩ ?_
    have ge_L12 : H.next ≤ e4 := d1.ge (by omega) (by omega)
    have nx_HL5 := f5.nx
    replace l := l.st f5 (fun k hk => ⟨by omega, trivial⟩)
    replace c5 := c5.sA f5
    replace rk := rk.sA f5
    have g9 : NE g2 m3 := .a
    replace m := f5.s m g9.ne
    have h1 : NE g3 m3 := .a
    replace n := f5.s n h1.ne
    have f1 : NE f8 m3 := .a
    replace o := f5.s o f1.ne
    replace d8 := f5.s d8
    replace d4 := f5.s d4
    have i0 : NE g7 m3 := .a
    replace w := f5.s w i0.ne
    have lt_at_L12 := GHeap.ltg e7
    replace hin := i.mono l
    replace hin1 := e.mono l
    clear r
    have r : Cat.At _ g2 0 c p := ⟨Mem.of_get m, hin⟩
    obtain ⟨-, q7, -, -, -, -, -, -, -⟩ := r.get
    clear u
    have u : Cat.At _ g3 0 d q := ⟨Mem.of_get n, hin1⟩
    obtain ⟨⟨hf, hrl⟩, hW⟩ := hI
    have ml2 := mulN_bd (a := f) (b := d.src.length) (by omega) (by omega)
    refine .seq (fun K27 u8 => .seq (fun K28 u3 => .region (.mv rfl (.q rfl (.fieldAddr fo_27_1_B rfl) ?_))))
    refine .q rfl (.load on_24_B rfl (by first | assumption | exact Mem.of_get m 1 _ rfl)) ?_
    refine .q rfl (.len sl_24_A rfl) (.q rfl (.cmp rfl rfl rfl) (.nil (u3 _ _ ?_)))
    refine .cond rfl (fun p4 => ?_) (fun p4 => ?_)
    ·
     simp only [sps] at p4
     refine .skip ?_
     refine u8 _ _ (.seq (fun K29 t3 => ?_))
     refine .block ?_
     refine .seq (fun K30 w8 => .region (.mv rfl (.nil (w8 _ _ ?_))))
     refine .block ?_
     refine .loopR (σ := Nat × List Int × Nat × Nat) [(2, some _), (3, some _), (4, some _), (5, some _), (6, some _), (7, some _), (10, some _), (11, some _), (13, some _)] (fun (g, w2, c3, e2) => [(14, some (.int .i64 (g : Int))), (12, some (.slice (some ⟨c3, 0, none⟩) e2 e2))]) (fun (g, w2, c3, e2) H' => St [e4] HL5 H' ∧ H'.get c3 = some (.row (ints w2) 2 true) ∧ PL c3 e4 HL5.next ∧ e2 = w2.length ∧ (g ≤ d.src.length ∧ w2.length = f * d.src.length + g) ∧ Bd (-1) 33000 w2) (fun (g, w2, c3, e2) => d.src.length - g) ((0, row, _, _)) ⟨rfl, rfl, rfl, rfl, rfl, rfl, rfl, rfl, rfl, trivial⟩ ⟨rfl, rfl, trivial⟩ ?_ ?_
     ·
      refine ⟨.refl _ _, by assumption, ⟨.inl rfl⟩, by assumption, ?_⟩
      exact ⟨⟨by omega, by omega⟩, hW⟩
     rintro ⟨g, w2, c3, e2⟩ HL6 ⟨d2, d3, c6, ln_L12v6, hI⟩ KL6 p6
     refine .forget (fr' := [(14, some (.int .i64 (g : Int))), (12, some (.slice (some ⟨c3, 0, none⟩) e2 e2)), (2, some _), (3, some _), (4, some _), (5, some _), (6, some _), (7, some _), (10, some _), (11, some _), (13, some _)]) ⟨rfl, rfl, rfl, rfl, rfl, rfl, rfl, rfl, rfl, rfl, rfl, trivial⟩ ?_
     have ge_L12v6 : H.next ≤ c3 := c6.ge (by omega) (by omega)
     have nx_HL6 := d2.nx
     replace l := l.st d2 (fun k hk => ⟨by omega, trivial⟩)
     replace f5 := f5.sP d2
     have d5 : NE g2 e4 := ⟨d1.ne g9.ne (by omega)⟩
     replace m := d2.s m d5.ne
     have d9 : NE g3 e4 := ⟨d1.ne h1.ne (by omega)⟩
     replace n := d2.s n d9.ne
     replace hin := i.mono l
     replace hin1 := e.mono l
     clear r q7
     have r : Cat.At _ g2 0 c p := ⟨Mem.of_get m, hin⟩
     obtain ⟨-, -, -, -, aJ, -, -, -, x8⟩ := r.get
     clear u
     have u : Cat.At _ g3 0 d q := ⟨Mem.of_get n, hin1⟩
     obtain ⟨-, r6, -, -, y7, -, -, -, y0⟩ := u.get
     obtain ⟨⟨hg, hrl⟩, hW⟩ := hI
     refine .seq (fun K31 v5 => .seq (fun K32 v7 => .region (.mv rfl (.q rfl (.fieldAddr fo_27_1_B rfl) ?_))))
     refine .q rfl (.load on_24_B rfl (by first | assumption | exact Mem.of_get n 1 _ rfl)) ?_
     refine .q rfl (.len sl_24_A rfl) (.q rfl (.cmp rfl rfl rfl) (.nil (v7 _ _ ?_)))
     refine .cond rfl (fun p5 => ?_) (fun p5 => ?_)
     ·
      simp only [sps] at p5
      have v1 := z1 a (by omega) f (by omega)
      have v2 := aB b (by omega) g (by omega)
      have w1 := a9 a (by omega)
      have w3 := b9 b (by omega)
      have u1 := x8.2 a (by omega)
      have u2 := y0.2 b (by omega)
      refine .skip ?_
      refine v5 _ _ (.seq (fun K33 p8 => ?_))
      refine .block ?_
      refine .seq (fun K34 v9 => .region (.mv rfl (.nil (v9 _ _ (.seq (fun K35 q0 => .seq (fun K36 r8 => .region (.q rfl (.fieldAddr fo_27_4_B rfl) ?_))))))))
      refine .q rfl (.load on_25_B rfl (by first | assumption | exact Mem.of_get m 4 _ rfl)) ?_
      refine .mv rfl ?_
      refine .q rfl (.idxN sl_25_B (Intss.sl (by assumption)) rfl rfl (by omega)) ?_
      refine .q rfl (.loadR on_24_B (by assumption) rfl (by omega)) ?_
      refine .mv rfl ?_
      refine .q rfl (.idxN sl_24_A (by assumption) rfl rfl (by omega)) ?_
      refine .q rfl (.loadI on_2_A (by assumption) rfl (by omega)) ?_
      refine .q rfl (.cmp rfl rfl rfl) (.mv rfl ?_)
      refine .split (fun r4 => ?_) (fun r4 => ?_)
      ·
       try simp only [sps] at r4
       refine .qg rfl (.fieldAddr fo_27_4_B rfl) ?_
       refine .qg rfl (.load on_25_B rfl (by first | assumption | exact Mem.of_get n 4 _ rfl)) ?_
       refine .qg rfl (.move rfl) ?_
       refine .qg rfl (.idxN sl_25_B (Intss.sl (by assumption)) rfl rfl (by omega)) ?_
       refine .qg rfl (.loadR on_24_B (by assumption) rfl (by omega)) ?_
       refine .qg rfl (.move rfl) ?_
       refine .qg rfl (.idxN sl_24_A (by assumption) rfl rfl (by omega)) ?_
       refine .qg rfl (.loadI on_2_A (by assumption) rfl (by omega)) ?_
       refine .qg rfl (.cmp rfl rfl rfl) (.q rfl (.pickT rfl rfl) (.nil (r8 _ _ ?_)))
       refine .cond rfl (fun s3 => ?_) (fun s3 => ?_)
       ·
        simp only [sps] at s3
        have mm3 := mul_bd (a := (c.comp.getD a []).getD f 0) (b := (d.src.length : Int)) (by omega) (by omega)
        obtain ⟨h3, r5, n3⟩ : ∃ h3, h3 = (c.comp.getD a []).getD f 0 * (d.src.length : Int) + (d.comp.getD b []).getD g 0 ∧ -1 ≤ h3 ∧ h3 ≤ 33000 := ⟨_, rfl, by omega, by omega⟩
        refine .regionD mo_B (.q 0 (.q 1 (.q 2 (.q 3 (.q 4 (.q 5 (.q 6 (.q 7 (.q 8 (.q 9 (.q 10 (.q 11 (.q 12 (.q 13 (.q 14 (.q 15 (.q 16 (.q 17 (.q 18 (.q 19 (.done))))))))))))))))))))) (by kernel_rfl) ?_
        refine .q rfl (.fieldAddr fo_27_4_B rfl) ?_
        refine .q rfl (.load on_25_B rfl (by first | assumption | exact Mem.of_get m 4 _ rfl)) ?_
        refine .mv rfl rfl ?_
        refine .q rfl (.idxN sl_25_B (Intss.sl (by assumption)) rfl rfl (by omega)) ?_
        refine .q rfl (.loadR on_24_B (by assumption) rfl (by omega)) ?_
        refine .mv rfl rfl ?_
        refine .q rfl (.idxN sl_24_A (by assumption) rfl rfl (by omega)) ?_
        refine .q rfl (.loadI on_2_A (by assumption) rfl (by omega)) ?_
        refine .mv rfl rfl ?_
        refine .q rfl (.mul rfl rfl rfl (by omega) (by omega)) ?_
        refine .q rfl (.fieldAddr fo_27_4_B rfl) ?_
        refine .q rfl (.load on_25_B rfl (by first | assumption | exact Mem.of_get n 4 _ rfl)) ?_
        refine .mv rfl rfl ?_
        refine .q rfl (.idxN sl_25_B (Intss.sl (by assumption)) rfl rfl (by omega)) ?_
        refine .q rfl (.loadR on_24_B (by assumption) rfl (by omega)) ?_
        refine .mv rfl rfl ?_
        refine .q rfl (.idxN sl_24_A (by assumption) rfl rfl (by omega)) ?_
        refine .q rfl (.loadI on_2_A (by assumption) rfl (by omega)) ?_
        refine .q rfl (.add rfl rfl rfl (by omega) (by omega)) ?_
        refine .mv rfl rfl ?_
        refine .done ?_
        refine q0 _ _ (.region (.mv rfl (.mv rfl ?_)))
        refine .R rfl (.litA rfl sl_24_A ze_2_Pa rfl rfl rfl rfl) ?_
        rintro _ H165 ⟨g165, rfl, l8, ge165, q9⟩
        replace l := l.trans l8
        replace d2 := d2.le l8
        replace m := l8.2 _ _ m
        replace n := l8.2 _ _ n
        replace d3 := l8.2 _ _ d3
        have lt_at165 := GHeap.ltg q9
        replace hin := i.mono l
        replace hin1 := e.mono l
        clear r aJ x8
        have r : Cat.At _ g2 0 c p := ⟨Mem.of_get m, hin⟩
        clear u r6 y7 y0
        have u : Cat.At _ g3 0 d q := ⟨Mem.of_get n, hin1⟩
        clear u1 u2
        refine .R rfl (.appendI rfl sl_24_A ze_2_Pa rfl by_2_Pa sl_24_A rfl rfl (by assumption) (by assumption) (by first | omega | (simp <;> omega)) (by omega) (by omega)) ?_
        rintro _ H166 ⟨g166, rfl, m5, ge166, at166⟩
        replace l := l.st m5 (fun k hk => ⟨by omega, trivial⟩)
        replace d2 := d2.sQ m5
        have v : NE g2 c3 := ⟨c6.ne d5.ne (by omega)⟩
        replace m := m5.s m v.ne
        have c4 : NE g3 c3 := ⟨c6.ne d9.ne (by omega)⟩
        replace n := m5.s n c4.ne
        replace hin := i.mono l
        replace hin1 := e.mono l
        clear r
        have r : Cat.At _ g2 0 c p := ⟨Mem.of_get m, hin⟩
        clear u
        have u : Cat.At _ g3 0 d q := ⟨Mem.of_get n, hin1⟩
        refine .mv rfl (.nil (p8 _ _ (.region (.mv rfl ?_))))
        refine .q rfl (.add rfl rfl rfl (by omega) (by omega)) ?_
        refine .mv rfl (.nil ?_)
        refine p6 ((g + 1, w2 ++ [h3], _, _)) _ _ ?_ ?_ ⟨rfl, rfl, rfl, rfl, rfl, rfl, rfl, rfl, rfl, rfl, rfl, trivial⟩
        ·
         refine ⟨d2, by (rw [r5]; assumption), by exact ⟨.inr (by omega)⟩, by (simp only [List.length_append, List.length_cons, List.length_nil] <;> omega), ?_⟩
         exact ⟨⟨by omega, by simp; omega⟩, hW.snoc (by omega) (by omega)⟩
        (dsimp only; omega)
       obtain ⟨h3, r5, n3⟩ : ∃ h3 : Int, h3 = -1 ∧ -1 ≤ h3 ∧ h3 ≤ 33000 := ⟨_, rfl, by omega, by omega⟩
       refine .skip ?_
       refine q0 _ _ (.region (.mv rfl (.mv rfl ?_)))
       refine .R rfl (.litA rfl sl_24_A ze_2_Pa rfl rfl rfl rfl) ?_
       rintro _ H165x2 ⟨g165x2, rfl, f3, ge165x2, o4⟩
       replace l := l.trans f3
       replace d2 := d2.le f3
       replace m := f3.2 _ _ m
       replace n := f3.2 _ _ n
       replace d3 := f3.2 _ _ d3
       have lt_at165x2 := GHeap.ltg o4
       replace hin := i.mono l
       replace hin1 := e.mono l
       have r : Cat.At _ g2 0 c p := ⟨Mem.of_get m, hin⟩
       have u : Cat.At _ g3 0 d q := ⟨Mem.of_get n, hin1⟩
       refine .R rfl (.appendI rfl sl_24_A ze_2_Pa rfl by_2_Pa sl_24_A rfl rfl (by assumption) (by assumption) (by first | omega | (simp <;> omega)) (by omega) (by omega)) ?_
       rintro _ H166x2 ⟨g166x2, rfl, g6, ge166x2, at166x2⟩
       replace l := l.st g6 (fun k hk => ⟨by omega, trivial⟩)
       replace d2 := d2.sQ g6
       have v : NE g2 c3 := ⟨c6.ne d5.ne (by omega)⟩
       replace m := g6.s m v.ne
       have c4 : NE g3 c3 := ⟨c6.ne d9.ne (by omega)⟩
       replace n := g6.s n c4.ne
       replace hin := i.mono l
       replace hin1 := e.mono l
       clear r
       have r : Cat.At _ g2 0 c p := ⟨Mem.of_get m, hin⟩
       clear u
       have u : Cat.At _ g3 0 d q := ⟨Mem.of_get n, hin1⟩
       refine .mv rfl (.nil (p8 _ _ (.region (.mv rfl ?_))))
       refine .q rfl (.add rfl rfl rfl (by omega) (by omega)) ?_
       refine .mv rfl (.nil ?_)
       refine p6 ((g + 1, w2 ++ [h3], _, _)) _ _ ?_ ?_ ⟨rfl, rfl, rfl, rfl, rfl, rfl, rfl, rfl, rfl, rfl, rfl, trivial⟩
       ·
        refine ⟨d2, by (rw [r5]; assumption), by exact ⟨.inr (by omega)⟩, by (simp only [List.length_append, List.length_cons, List.length_nil] <;> omega), ?_⟩
        exact ⟨⟨by omega, by simp; omega⟩, hW.snoc (by omega) (by omega)⟩
       (dsimp only; omega)
      obtain ⟨h3, r5, n3⟩ : ∃ h3 : Int, h3 = -1 ∧ -1 ≤ h3 ∧ h3 ≤ 33000 := ⟨_, rfl, by omega, by omega⟩
      refine .z rfl (.z rfl (.z rfl (.z rfl (.z rfl (.z rfl (.z rfl (.z rfl (.z rfl (.q rfl (.pickF rfl rfl) (.nil (r8 _ _ ?_)))))))))))
      refine .condF rfl ?_
      refine .skip ?_
      refine q0 _ _ (.region (.mv rfl (.mv rfl ?_)))
      refine .R rfl (.litA rfl sl_24_A ze_2_Pa rfl rfl rfl rfl) ?_
      rintro _ H165x3 ⟨g165x3, rfl, f2, ge165x3, o6⟩
      replace l := l.trans f2
      replace d2 := d2.le f2
      replace m := f2.2 _ _ m
      replace n := f2.2 _ _ n
      replace d3 := f2.2 _ _ d3
      have lt_at165x3 := GHeap.ltg o6
      replace hin := i.mono l
      replace hin1 := e.mono l
      have r : Cat.At _ g2 0 c p := ⟨Mem.of_get m, hin⟩
      have u : Cat.At _ g3 0 d q := ⟨Mem.of_get n, hin1⟩
      refine .R rfl (.appendI rfl sl_24_A ze_2_Pa rfl by_2_Pa sl_24_A rfl rfl (by assumption) (by assumption) (by first | omega | (simp <;> omega)) (by omega) (by omega)) ?_
      rintro _ H166x3 ⟨g166x3, rfl, g5, ge166x3, at166x3⟩
      replace l := l.st g5 (fun k hk => ⟨by omega, trivial⟩)
      replace d2 := d2.sQ g5
      have v : NE g2 c3 := ⟨c6.ne d5.ne (by omega)⟩
      replace m := g5.s m v.ne
      have c4 : NE g3 c3 := ⟨c6.ne d9.ne (by omega)⟩
      replace n := g5.s n c4.ne
      replace hin := i.mono l
      replace hin1 := e.mono l
      clear r
      have r : Cat.At _ g2 0 c p := ⟨Mem.of_get m, hin⟩
      clear u
      have u : Cat.At _ g3 0 d q := ⟨Mem.of_get n, hin1⟩
      refine .mv rfl (.nil (p8 _ _ (.region (.mv rfl ?_))))
      refine .q rfl (.add rfl rfl rfl (by omega) (by omega)) ?_
      refine .mv rfl (.nil ?_)
      refine p6 ((g + 1, w2 ++ [h3], _, _)) _ _ ?_ ?_ ⟨rfl, rfl, rfl, rfl, rfl, rfl, rfl, rfl, rfl, rfl, rfl, trivial⟩
      ·
       refine ⟨d2, by (rw [r5]; assumption), by exact ⟨.inr (by omega)⟩, by (simp only [List.length_append, List.length_cons, List.length_nil] <;> omega), ?_⟩
       exact ⟨⟨by omega, by simp; omega⟩, hW.snoc (by omega) (by omega)⟩
      (dsimp only; omega)
     try simp only [sps] at p5
     refine .exit ?_
     refine t3 _ _ (.region (.mv rfl ?_))
     refine .q rfl (.add rfl rfl rfl (by omega) (by omega)) ?_
     refine .mv rfl (.nil ?_)
     refine x3 ((f + 1, w2, _, _)) _ _ ?_ ?_ ⟨rfl, rfl, rfl, rfl, rfl, rfl, rfl, rfl, rfl, rfl, trivial⟩
     ·
      refine ⟨f5, by assumption, by exact c6.trans d1 (by omega), by omega, ?_⟩
      have e1 := sm f d.src.length
      exact ⟨⟨by omega, by omega⟩, hW⟩
     (dsimp only; omega)
    try simp only [sps] at p4
    refine .exit ?_
    refine t1 _ _ (.region ?_)
    obtain rfl : f = c.src.length := by omega
    obtain rfl := p7
    refine .q rfl (.fieldAddr fo_27_4_B rfl) ?_
    refine .q rfl (.load on_25_B rfl (by first | assumption | exact Mem.of_get w 4 _ rfl)) ?_
    refine .mv rfl ?_
    refine .R rfl (.litA rfl sl_25_B ze_24_Hj rfl rfl rfl rfl) ?_
    rintro _ H170 ⟨g170, rfl, e6, ge170, s5⟩
    replace l := l.trans e6
    replace c5 := c5.le e6
    replace rk := rk.le e6
    replace m := e6.2 _ _ m
    replace n := e6.2 _ _ n
    replace o := e6.2 _ _ o
    replace d8 := e6.2 _ _ d8
    replace d4 := e6.2 _ _ d4
    replace w := e6.2 _ _ w
    replace e7 := e6.2 _ _ e7
    have lt_at170 := GHeap.ltg s5
    replace hin := i.mono l
    replace hin1 := e.mono l
    have r : Cat.At _ g2 0 c p := ⟨Mem.of_get m, hin⟩
    have u : Cat.At _ g3 0 d q := ⟨Mem.of_get n, hin1⟩
    refine .R rfl (.appendV rfl sl_25_B ze_24_Hj rfl by_24_Hj sl_25_B rfl rfl (by assumption) (by assumption) (by first | omega | (simp <;> omega)) rfl rfl (by omega) (by omega)) ?_
    rintro _ H171 ⟨t8, rfl, f0, ge171, o9⟩
    replace l := l.st f0 (fun k hk => ⟨by omega, trivial⟩)
    replace c5 := c5.sQ f0
    replace rk := rk.sQ f0
    replace m := f0.same _ _ ⟨(k8.ne k1.ne (by omega)), trivial⟩ m
    replace n := f0.same _ _ ⟨(k8.ne j3.ne (by omega)), trivial⟩ n
    replace d8 := f0.s d8
    replace d4 := f0.s d4
    replace w := f0.same _ _ ⟨(Ne.symm n5), trivial⟩ w
    replace e7 := f0.same _ _ ⟨(Ne.symm (d1.ne f1.ne (by omega))), trivial⟩ e7
    replace hin := i.mono l
    replace hin1 := e.mono l
    clear r
    have r : Cat.At _ g2 0 c p := ⟨Mem.of_get m, hin⟩
    clear u
    have u : Cat.At _ g3 0 d q := ⟨Mem.of_get n, hin1⟩
    refine .q rfl (.fieldAddr fo_27_4_B rfl) ?_
    refine .r0 rfl rfl (.storeR rfl sz_25_Ch rfl rfl rfl (by assumption) (by first | exact Nat.le_of_ble_eq_true rfl | (simp; done) | (simp <;> omega))) ?_
    rintro _ H29006 ⟨rfl, c8, o7⟩
    replace l := l.st c8 (fun k hk => ⟨by omega, trivial⟩)
    replace c5 := c5.sA c8
    replace rk := rk.sA c8
    replace m := c8.s m a0.ne
    replace n := c8.s n b0.ne
    replace d8 := c8.s d8 f6.ne
    replace d4 := c8.s d4 h6.ne
    replace e7 := c8.same _ _ ⟨(Ne.symm (d1.ne i0.ne (by omega))), trivial⟩ e7
    replace o9 := c8.s o9
    replace hin := i.mono l
    replace hin1 := e.mono l
    clear r
    have r : Cat.At _ g2 0 c p := ⟨Mem.of_get m, hin⟩
    clear u
    have u : Cat.At _ g3 0 d q := ⟨Mem.of_get n, hin1⟩
    try simp only [Nat.zero_add, List.set_cons_succ, List.set_cons_zero] at o7
    refine .nil (s9 _ _ (.region (.mv rfl ?_)))
    refine .q rfl (.add rfl rfl rfl (by omega) (by omega)) ?_
    refine .mv rfl (.nil ?_)
    refine x4 ((b + 1, s2 ++ [c.src.getD a 0 * d.obj + d.src.getD b 0], t2 ++ [c.tgt.getD a 0 * d.obj + d.tgt.getD b 0], upd r2 c2.length (some ⟨e4, 0, none⟩), c2 ++ [row], s7, o5, t8)) _ _ ?_ ?_ ⟨rfl, rfl, rfl, rfl, rfl, rfl, rfl, rfl, trivial⟩
    ·
     refine ⟨c5, by assumption, by exact ⟨.inr (by omega)⟩, by assumption, by exact ⟨.inr (by omega)⟩, by (rw [slsL_snoc]; assumption), by exact ⟨.inr (by omega)⟩, by (rw [List.length_append]; assumption), by omega, by omega, by omega, by omega, by omega, by omega, ?_⟩
     have hR' := hR.st rk (.cons q5 (.cons s1 (.cons (hR.neT hatC rfl) (.cons (hR.neT u6 rfl) (.nil _ _)))))
     have y9 := hR.ne (g := e4) (d1.ge (by omega) (by omega))
     have z0 := hR.ne (g := s7) (by omega)
     have aM := hR.ne (g := o5) (by omega)
     have hx1 : e4 ≠ s7 := d1.ne' (by omega) (by omega)
     have hx2 : e4 ≠ o5 := d1.ne' (by omega) (by omega)
     have hx3 : e4 ≠ gLI := d1.ne' (by omega) (by omega)
     exact ⟨⟨by omega, by simp; omega, by simp; omega, by simp; omega⟩, hS.snoc (by omega) (by omega), hT.snoc (by omega) (by omega), hC.snoc (by omega) hW, hR'.snoc2 (by assumption) y9 (by omega), ne_snoc z0 (by omega), ne_snoc aM (by omega), ne_snoc s4 (by omega)⟩
    (dsimp only; omega)
   try simp only [sps] at t9
   refine .exit ?_
   refine w0 _ _ (.region (.mv rfl ?_))
   refine .q rfl (.add rfl rfl rfl (by omega) (by omega)) ?_
   refine .mv rfl (.nil ?_)
   refine t6 ((a + 1, s2, t2, r2, c2, f4, f9, f8)) _ _ ?_ ?_ ⟨rfl, rfl, rfl, rfl, rfl, rfl, rfl, trivial⟩
   ·
    refine ⟨l2, by assumption, by exact k9.trans g8 (by omega), by assumption, by exact l1.trans h4 (by omega), by assumption, by exact k8.trans j0 (by omega), by assumption, by assumption, by assumption, by assumption, by assumption, by assumption, by assumption, ?_⟩
    have e1 := sm a d.src.length
    exact ⟨⟨by omega, by omega, by omega, by omega⟩, hS, hT, hC, hR, q5, s1, s4⟩
   (dsimp only; omega)
  try simp only [sps] at w9
  refine .exit ?_
  refine v8 _ _ (.seq (fun K37 w6 => .region ?_))
  refine .q rfl (.loadM ag_27_D rfl ⟨rfl, Mem.of_get t⟩) ?_
  refine .r0 rfl rfl (.fillA rfl sz_27_D rfl rfl rfl rfl) ?_
  rintro _ H30001 ⟨rfl, d0, o3⟩
  replace l := l.st d0 (fun k hk => ⟨by omega, trivial⟩)
  replace m := d0.s m
  replace n := d0.s n
  replace k5 := d0.same _ _ ⟨(Ne.symm (e3.ne i8.ne (by omega))), trivial⟩ k5
  replace m4 := d0.same _ _ ⟨(Ne.symm (g8.ne j4.ne (by omega))), trivial⟩ m4
  replace n6 := d0.same _ _ ⟨(Ne.symm (h4.ne k7.ne (by omega))), trivial⟩ n6
  replace m9 := d0.same _ _ ⟨(Ne.symm (j0.ne i6.ne (by omega))), trivial⟩ m9
  replace hin := i.mono l
  replace hin1 := e.mono l
  have r : Cat.At _ g2 0 c p := ⟨Mem.of_get m, hin⟩
  have u : Cat.At _ g3 0 d q := ⟨Mem.of_get n, hin1⟩
  refine .nil (w6 _ _ ?_)
  refine .ret ?_
  refine t0 _ _ ?_
  refine ⟨_, _, _, _, rfl, ag_27_D, (by rfl), (Mem.of_get o3), ?_⟩
  obtain rfl : a = c.src.length := by omega
  have hx4 : gLF ≠ gLI := g8.ne' (e3.ne' (by omega) (by omega)) (by omega)
  have hx5 : gLT ≠ gLI := h4.ne' (e3.ne' (by omega) (by omega)) (by omega)
  have x7 := l5
  have hR' := hR.st d0 (.cons (hR.neT x7 rfl) (.nil _ _))
  exact ⟨⟨c.obj * d.obj, ss, ts, is, cs⟩, rect_mk (by omega) (by omega) hts (hS.mono (by omega) (by omega)) (hT.mono (by omega) (by omega)) (by rw [hl]; congr 1; omega) (hB.mono (by omega) (by omega)) (by omega) (by rw [aH]; exact hC.mono (by omega) (by omega)), l, gLF, gLT, gLI, gLC, rr, by simp [Cat.cells, ownP, hts, hcl], ⟨m4, n6, k5, m9, by omega, by omega, by omega, by omega, by omega, by omega, by omega, hR', q5, s1, s4⟩⟩
end Go.Proofs.Ytfanjkbaemhbmaa
namespace Go.Proofs.Ytfanjkbaemhbmaa
open Go Go.GL Go.RowKit Go.Proofs
set_option maxHeartbeats 8000000 in
theorem l02Some_c {gS : Nat} {m n : Int} {H : GHeap} (hs : DSrc 86 H gS := by assumption) :
    GCalls Try.prog 70 [.pointer (some ⟨gS, 0, none⟩), .int .i64 m, .int .i64 n] H (DrawnCat 86 33000 gS H) := by
  have hlS := hs.lt
  refine GCalls.body (N := 48) (rs := [.cell 6 27]) Try.func70 rfl rfl rfl rfl (fun Qx c9 hend => ?_)
  refine .fg [0, 1, 2] rfl ?_
  have j := St.refl [gS] H
  refine .seq (fun K1 j8 => .region ?_)
  refine .R rfl (.allocR rfl ze_27_Hj rfl) ?_
  rintro _ H6 ⟨g6, rfl, h8, ge6, t⟩
  replace j := j.le h8
  have lt_at6 := GHeap.ltg t
  refine .nil (j8 _ _ (.seq (fun K2 k1 => .seq (fun K3 k5 => .region ?_))))
  have hs := hs.le h8
  refine .mv rfl (.nil (k5 _ _ ?_))
  refine .block ?_
  refine .loopR (σ := Nat) [(0, some _), (1, some _), (2, some _), (6, some _)] (fun i => [(7, some (.int .i64 (i : Int)))]) (fun i H' => St [gS] H6 H' ∧ i ≤ 12 ∧ DSrc 86 H' gS) (fun i => 12 - i) (0) ⟨rfl, rfl, rfl, rfl, trivial⟩ ⟨rfl, trivial⟩ ?_ ?_
  ·
   refine ⟨.refl _ _, ?_⟩
   exact ⟨by omega, hs⟩
  rintro i HL1 ⟨b, hI⟩ KL1 a3
  refine .forget (fr' := [(7, some (.int .i64 (i : Int))), (0, some _), (1, some _), (2, some _), (6, some _)]) ⟨rfl, rfl, rfl, rfl, rfl, trivial⟩ ?_
  have nx_HL1 := b.nx
  replace j := j.sA b
  have l : NE g6 gS := .a
  replace t := b.s t l.ne
  obtain ⟨hi, hs⟩ := hI
  refine .seq (fun K4 i7 => .seq (fun K5 i9 => .region (.mv rfl (.q rfl (.cmp rfl rfl rfl) (.nil (i9 _ _ ?_))))))
  refine .cond rfl (fun g4 => ?_) (fun g4 => ?_)
  ·
   simp only [sps] at g4
   refine .skip ?_
   refine i7 _ _ (.seq (fun K6 c7 => ?_))
   refine .block ?_
   refine .seq (fun K7 j9 => .region (.mv rfl ?_))
   refine .call rfl rfl rfl rfl @Try.call102 rfl (l02Family_c) ?_
   rintro _ i2 ⟨j1, p14, rfl, b4, d7, e0, hs⟩
   have nx_H14 := e0.nx
   replace j := j.sA e0
   replace b := b.sA e0
   replace t := e0.s t l.ne
   have b2 := d7
   have e : Keep HL1.next i2 i2 := fun _ _ _ h => h
   refine .R rfl (.allocR rfl ze_27_Hj rfl) ?_
   rintro _ H8 ⟨g8, rfl, g2, ge8, at8⟩
   replace j := j.le g2
   replace b := b.le g2
   replace hs := hs.le g2
   replace t := g2.2 _ _ t
   replace e := Keep.le e g2
   refine .r0 rfl rfl (.fillA rfl sz_27_D rfl rfl rfl rfl) ?_
   rintro _ H4003 ⟨rfl, a8, d⟩
   replace j := j.sA a8
   replace b := b.sA a8
   replace hs := hs.sA a8
   have x : NE g6 g8 := .a
   replace t := a8.s t x.ne
   replace e := Keep.st e a8 (fun k hb hk => ⟨(by omega), trivial⟩)
   have lt_at4003 := GHeap.ltg d
   refine .nil (j9 _ _ (.seq (fun K8 h9 => .seq (fun K9 j4 => .region (.mv rfl ?_)))))
   refine .call rfl rfl rfl rfl @Try.call30 rfl (l01Next_c) ?_
   rintro _ i5 ⟨k16, rfl, ka16, kb16, kc16, c6, hs⟩
   have nx_H16 := c6.nx
   replace j := j.sA c6
   replace b := b.sA c6
   replace t := c6.s t l.ne
   have r : NE g8 gS := .a
   replace d := c6.s d r.ne
   replace e := Keep.st e c6 (fun k hb hk => ⟨(by omega), trivial⟩)
   refine .q rfl (.cmp rfl rfl rfl) (.nil (j4 _ _ ?_))
   refine .cond rfl (fun h7 => ?_) (fun h7 => ?_)
   ·
    try simp only [sps] at h7
    refine .regionDB mo_B (.q 0 (.q 1 (.c 2 1 (.c 3 0 (.c 4 0 (.done)))))) (by kernel_rfl) (GHeap.le_erase i5 gS) ?_
    have b3 := GHeap.le_erase i5 gS
    have f9 := GHeap.get_erase_of (g := gS) d (by omega)
    refine .qB rfl b3 (.loadM ag_27_D rfl ⟨rfl, Mem.of_get f9⟩) ?_
    refine .qB rfl b3 (.move rfl) ?_
    refine .call1 rfl rfl rfl rfl rfl @Try.call102 rfl (l02Family_c) ?_
    rintro _ j0 ⟨c20, p20, rfl, d3, i8, b7, hs⟩
    replace b3 := b3.erase_st b7
    refine ⟨b3, ?_⟩
    have nx_H20 := b7.nx
    replace j := j.sA b7
    replace b := b.sA b7
    replace t := b7.s t l.ne
    replace d := b7.s d r.ne
    replace e := Keep.st e b7 (fun k hb hk => ⟨(by omega), trivial⟩)
    replace d7 := b2.keep e (Nat.le_refl _)
    have c8 := d7.inn
    have i3 := i8.inn
    refine .call0 rfl rfl rfl rfl rfl @Try.call103 rfl (l03Sum_c (hin := c8) (hin1 := i3) (hc := b4) (hd := d3) (hN := by omega)) ?_
    rintro _ i1 ⟨d1, ga21, gb21, gc21, gd21, rr21, rfl, j3⟩
    have e7 := j3.catR
    replace j := j.le d1
    replace b := b.le d1
    replace hs := hs.le d1
    replace t := d1.2 _ _ t
    replace d := d1.2 _ _ d
    have b9 := e7
    have p : Keep j0.next i1 i1 := fun _ _ _ h => h
    clear c8
    clear i3
    refine .r0 rfl rfl rfl (.fillA rfl sz_27_D rfl rfl rfl rfl) ?_
    rintro _ H6004 ⟨rfl, a5, o⟩
    replace j := j.sA a5
    replace b := b.sA a5
    replace hs := hs.sA a5
    replace t := a5.s t x.ne
    replace p := Keep.st p a5 (fun k hb hk => ⟨(by omega), trivial⟩)
    have lt_at6004 := GHeap.ltg o
    refine .done ?_
    refine h9 _ _ (.seq (fun K10 f6 => .seq (fun K11 h1 => .region (.mv rfl ?_))))
    refine .call rfl rfl rfl rfl @Try.call30 rfl (l01Next_c) ?_
    rintro _ i0 ⟨k23, rfl, ka23, kb23, kc23, c3, hs⟩
    have nx_H23 := c3.nx
    replace j := j.sA c3
    replace b := b.sA c3
    replace t := c3.s t l.ne
    replace o := c3.s o r.ne
    replace p := Keep.st p c3 (fun k hb hk => ⟨(by omega), trivial⟩)
    replace e7 := b9.keep p (Nat.le_refl _)
    have d4 := e7.inn
    refine .q rfl (.cmp rfl rfl rfl) (.nil (h1 _ _ ?_))
    refine .cond rfl (fun e3 => ?_) (fun e3 => ?_)
    ·
     try simp only [sps] at e3
     refine .regionDB mo_B (.q 0 (.q 1 (.c 2 1 (.c 3 0 (.c 4 0 (.done)))))) (by kernel_rfl) (GHeap.le_erase i0 gS) ?_
     have b3 := GHeap.le_erase i0 gS
     have f9 := GHeap.get_erase_of (g := gS) o (by omega)
     refine .qB rfl b3 (.loadM ag_27_D rfl ⟨rfl, Mem.of_get f9⟩) ?_
     refine .qB rfl b3 (.move rfl) ?_
     refine .call1 rfl rfl rfl rfl rfl @Try.call102 rfl (l02Family_c) ?_
     rintro _ j6 ⟨j5, j2, rfl, f0, g7, c0, hs⟩
     replace b3 := b3.erase_st c0
     refine ⟨b3, ?_⟩
     have nx_H27 := c0.nx
     replace j := j.sA c0
     replace b := b.sA c0
     replace t := c0.s t l.ne
     replace o := c0.s o r.ne
     replace p := Keep.st p c0 (fun k hb hk => ⟨(by omega), trivial⟩)
     replace e7 := b9.keep p (Nat.le_refl _)
     clear d4
     have d4 := e7.inn
     have g1 := g7.inn
     refine .call0 rfl rfl rfl rfl rfl @Try.call104 rfl (l03Product_c (hin := by first | exact d4 | exact c8) (hin1 := g1) (hc := by first | exact (b4.sum d3).mono (by omega) | exact b4.mono (by omega)) (hd := f0)) ?_
     rintro _ i4 ⟨h0, f3, d0, ga28, gb28, gc28, gd28, rr28, rfl, k2⟩
     have d2 := k2.catR
     replace j := j.le d0
     replace b := b.le d0
     replace hs := hs.le d0
     replace t := d0.2 _ _ t
     replace o := d0.2 _ _ o
     have a7 := d2
     have f : Keep j6.next i4 i4 := fun _ _ _ h => h
     clear d4
     clear g1
     refine .r0 rfl rfl rfl (.fillA rfl sz_27_D rfl rfl rfl rfl) ?_
     rintro _ H8004 ⟨rfl, a4, a9⟩
     replace j := j.sA a4
     replace b := b.sA a4
     replace hs := hs.sA a4
     replace t := a4.s t x.ne
     replace f := Keep.st f a4 (fun k hb hk => ⟨(by omega), trivial⟩)
     replace d2 := a7.keep f (Nat.le_refl _)
     have f1 := d2.inn
     refine .done ?_
     refine f6 _ _ (.seq (fun K12 e5 => .region (.q rfl (.fieldAddr fo_27_0_B rfl) ?_)))
     refine .q rfl (.load on_2_A rfl (by first | assumption | exact Mem.of_get a9 0 _ rfl)) ?_
     refine .mv rfl (.q rfl (.cmp rfl rfl rfl) (.mv rfl ?_))
     refine .split (fun b6 => ?_) (fun b6 => ?_)
     ·
      try simp only [sps] at b6
      refine .qg rfl (.fieldAddr fo_27_1_B rfl) ?_
      refine .qg rfl (.load on_24_B rfl (by first | assumption | exact Mem.of_get a9 1 _ rfl)) ?_
      refine .qg rfl (.len sl_24_A rfl) (.qg rfl (.move rfl) (.qg rfl (.cmp rfl rfl rfl) (.q rfl (.pickT rfl rfl) (.mv rfl ?_))))
      refine .split (fun b8 => ?_) (fun b8 => ?_)
      ·
       try simp only [sps] at b8
       refine .qg rfl (.loadM ag_27_D rfl ⟨rfl, Mem.of_get a9⟩) ?_
       refine .callQg rfl rfl rfl rfl rfl rfl @Try.call105 rfl (l02Fits_c (hin := by first | exact f1 | exact d4 | exact c8)) ?_
       refine .q rfl (.pickT rfl rfl) (.nil (e5 _ _ ?_))
       refine .cond rfl (fun c1 => ?_) (fun c1 => ?_)
       ·
        try simp only [sps] at c1
        refine .seq (fun K13 h2 => .region ?_)
        refine .q rfl (.loadM ag_27_D rfl ⟨rfl, Mem.of_get a9⟩) ?_
        refine .r0 rfl rfl (.fillA rfl sz_27_D rfl rfl rfl rfl) ?_
        rintro _ H10001 ⟨rfl, b0, d9⟩
        replace j := j.sA b0
        replace hs := hs.sA b0
        replace f := Keep.st f b0 (fun k hb hk => ⟨(by omega), trivial⟩)
        replace d2 := a7.keep f (Nat.le_refl _)
        clear f1
        refine .nil (h2 _ _ ?_)
        refine .ret ?_
        refine c9 _ _ ?_
        refine ⟨_, _, _, _, rfl, ag_27_D, (by rfl), (Mem.of_get d9), ?_⟩
        exact ⟨h0, _, rfl, f3, d2.keep (.of_le (.refl _)) (by omega), j, hs⟩
       try simp only [sps] at c1
       refine .skip ?_
       refine c7 _ _ (.region (.mv rfl ?_))
       refine .q rfl (.add rfl rfl rfl (by omega) (by omega)) ?_
       refine .mv rfl (.nil ?_)
       refine a3 (i + 1) _ _ ?_ ?_ ⟨rfl, rfl, rfl, rfl, rfl, trivial⟩
       ·
        refine ⟨b, ?_⟩
        exact ⟨by omega, hs⟩
       omega
      try simp only [sps] at b8
      refine .z rfl (.z rfl (.q rfl (.pickF rfl rfl) (.nil (e5 _ _ ?_))))
      refine .condF rfl ?_
      refine .skip ?_
      refine c7 _ _ (.region (.mv rfl ?_))
      refine .q rfl (.add rfl rfl rfl (by omega) (by omega)) ?_
      refine .mv rfl (.nil ?_)
      refine a3 (i + 1) _ _ ?_ ?_ ⟨rfl, rfl, rfl, rfl, rfl, trivial⟩
      ·
       refine ⟨b, ?_⟩
       exact ⟨by omega, hs⟩
      omega
     try simp only [sps] at b6
     refine .z rfl (.z rfl (.z rfl (.z rfl (.z rfl (.q rfl (.pickF rfl rfl) (.mv rfl (.z rfl (.z rfl (.q rfl (.pickF rfl rfl) (.nil (e5 _ _ ?_)))))))))))
     refine .condF rfl ?_
     refine .skip ?_
     refine c7 _ _ (.region (.mv rfl ?_))
     refine .q rfl (.add rfl rfl rfl (by omega) (by omega)) ?_
     refine .mv rfl (.nil ?_)
     refine a3 (i + 1) _ _ ?_ ?_ ⟨rfl, rfl, rfl, rfl, rfl, trivial⟩
     ·
      refine ⟨b, ?_⟩
      exact ⟨by omega, hs⟩
     omega
    try simp only [sps] at e3
    refine .skip ?_
    refine f6 _ _ (.seq (fun K14 e9 => .region (.q rfl (.fieldAddr fo_27_0_B rfl) ?_)))
    refine .q rfl (.load on_2_A rfl (by first | assumption | exact Mem.of_get o 0 _ rfl)) ?_
    refine .mv rfl (.q rfl (.cmp rfl rfl rfl) (.mv rfl ?_))
    refine .split (fun b6 => ?_) (fun b6 => ?_)
    ·
     try simp only [sps] at b6
     refine .qg rfl (.fieldAddr fo_27_1_B rfl) ?_
     refine .qg rfl (.load on_24_B rfl (by first | assumption | exact Mem.of_get o 1 _ rfl)) ?_
     refine .qg rfl (.len sl_24_A rfl) (.qg rfl (.move rfl) (.qg rfl (.cmp rfl rfl rfl) (.q rfl (.pickT rfl rfl) (.mv rfl ?_))))
     refine .split (fun b8 => ?_) (fun b8 => ?_)
     ·
      try simp only [sps] at b8
      refine .qg rfl (.loadM ag_27_D rfl ⟨rfl, Mem.of_get o⟩) ?_
      refine .callQg rfl rfl rfl rfl rfl rfl @Try.call105 rfl (l02Fits_c (hin := by first | exact f1 | exact d4 | exact c8)) ?_
      refine .q rfl (.pickT rfl rfl) (.nil (e9 _ _ ?_))
      refine .cond rfl (fun c1 => ?_) (fun c1 => ?_)
      ·
       try simp only [sps] at c1
       refine .seq (fun K15 g3 => .region ?_)
       refine .q rfl (.loadM ag_27_D rfl ⟨rfl, Mem.of_get o⟩) ?_
       refine .r0 rfl rfl (.fillA rfl sz_27_D rfl rfl rfl rfl) ?_
       rintro _ H10001x2 ⟨rfl, y, c5⟩
       replace j := j.sA y
       replace hs := hs.sA y
       replace p := Keep.st p y (fun k hb hk => ⟨(by omega), trivial⟩)
       replace e7 := b9.keep p (Nat.le_refl _)
       refine .nil (g3 _ _ ?_)
       refine .ret ?_
       refine c9 _ _ ?_
       refine ⟨_, _, _, _, rfl, ag_27_D, (by rfl), (Mem.of_get c5), ?_⟩
       exact ⟨_, _, rfl, (b4.sum d3).mono (by omega), e7.keep (.of_le (.refl _)) (by omega), j, hs⟩
      try simp only [sps] at c1
      refine .skip ?_
      refine c7 _ _ (.region (.mv rfl ?_))
      refine .q rfl (.add rfl rfl rfl (by omega) (by omega)) ?_
      refine .mv rfl (.nil ?_)
      refine a3 (i + 1) _ _ ?_ ?_ ⟨rfl, rfl, rfl, rfl, rfl, trivial⟩
      ·
       refine ⟨b, ?_⟩
       exact ⟨by omega, hs⟩
      omega
     try simp only [sps] at b8
     refine .z rfl (.z rfl (.q rfl (.pickF rfl rfl) (.nil (e9 _ _ ?_))))
     refine .condF rfl ?_
     refine .skip ?_
     refine c7 _ _ (.region (.mv rfl ?_))
     refine .q rfl (.add rfl rfl rfl (by omega) (by omega)) ?_
     refine .mv rfl (.nil ?_)
     refine a3 (i + 1) _ _ ?_ ?_ ⟨rfl, rfl, rfl, rfl, rfl, trivial⟩
     ·
      refine ⟨b, ?_⟩
      exact ⟨by omega, hs⟩
     omega
    try simp only [sps] at b6
    refine .z rfl (.z rfl (.z rfl (.z rfl (.z rfl (.q rfl (.pickF rfl rfl) (.mv rfl (.z rfl (.z rfl (.q rfl (.pickF rfl rfl) (.nil (e9 _ _ ?_)))))))))))
    refine .condF rfl ?_
    refine .skip ?_
    refine c7 _ _ (.region (.mv rfl ?_))
    refine .q rfl (.add rfl rfl rfl (by omega) (by omega)) ?_
    refine .mv rfl (.nil ?_)
    refine a3 (i + 1) _ _ ?_ ?_ ⟨rfl, rfl, rfl, rfl, rfl, trivial⟩
    ·
     refine ⟨b, ?_⟩
     exact ⟨by omega, hs⟩
    omega
   try simp only [sps] at h7
   refine .skip ?_
   refine h9 _ _ (.seq (fun K16 g0 => .seq (fun K17 h3 => .region (.mv rfl ?_))))
   refine .call rfl rfl rfl rfl @Try.call30 rfl (l01Next_c) ?_
   rintro _ e2 ⟨k23x2, rfl, ka23x2, kb23x2, kc23x2, a2, hs⟩
   have nx_H23x2 := a2.nx
   replace j := j.sA a2
   replace b := b.sA a2
   replace t := a2.s t l.ne
   replace d := a2.s d r.ne
   replace e := Keep.st e a2 (fun k hb hk => ⟨(by omega), trivial⟩)
   replace d7 := b2.keep e (Nat.le_refl _)
   have c8 := d7.inn
   refine .q rfl (.cmp rfl rfl rfl) (.nil (h3 _ _ ?_))
   refine .cond rfl (fun e3 => ?_) (fun e3 => ?_)
   ·
    try simp only [sps] at e3
    refine .regionDB mo_B (.q 0 (.q 1 (.c 2 1 (.c 3 0 (.c 4 0 (.done)))))) (by kernel_rfl) (GHeap.le_erase e2 gS) ?_
    have b3 := GHeap.le_erase e2 gS
    have f9 := GHeap.get_erase_of (g := gS) d (by omega)
    refine .qB rfl b3 (.loadM ag_27_D rfl ⟨rfl, Mem.of_get f9⟩) ?_
    refine .qB rfl b3 (.move rfl) ?_
    refine .call1 rfl rfl rfl rfl rfl @Try.call102 rfl (l02Family_c) ?_
    rintro _ f8 ⟨j5, j2, rfl, f0, g7, v, hs⟩
    replace b3 := b3.erase_st v
    refine ⟨b3, ?_⟩
    have nx_H27x2 := v.nx
    replace j := j.sA v
    replace b := b.sA v
    replace t := v.s t l.ne
    replace d := v.s d r.ne
    replace e := Keep.st e v (fun k hb hk => ⟨(by omega), trivial⟩)
    replace d7 := b2.keep e (Nat.le_refl _)
    clear c8
    have c8 := d7.inn
    have g1 := g7.inn
    refine .call0 rfl rfl rfl rfl rfl @Try.call104 rfl (l03Product_c (hin := by first | exact d4 | exact c8) (hin1 := g1) (hc := by first | exact (b4.sum d3).mono (by omega) | exact b4.mono (by omega)) (hd := f0)) ?_
    rintro _ e1 ⟨h0, f3, a6, ga28x2, gb28x2, gc28x2, gd28x2, rr28x2, rfl, f7⟩
    have d2 := f7.catR
    replace j := j.le a6
    replace b := b.le a6
    replace hs := hs.le a6
    replace t := a6.2 _ _ t
    replace d := a6.2 _ _ d
    have a7 := d2
    have f : Keep f8.next e1 e1 := fun _ _ _ h => h
    clear c8
    clear g1
    refine .r0 rfl rfl rfl (.fillA rfl sz_27_D rfl rfl rfl rfl) ?_
    rintro _ H8004x2 ⟨rfl, u, w⟩
    replace j := j.sA u
    replace b := b.sA u
    replace hs := hs.sA u
    replace t := u.s t x.ne
    replace f := Keep.st f u (fun k hb hk => ⟨(by omega), trivial⟩)
    replace d2 := a7.keep f (Nat.le_refl _)
    have f1 := d2.inn
    refine .done ?_
    refine g0 _ _ (.seq (fun K18 f4 => .region (.q rfl (.fieldAddr fo_27_0_B rfl) ?_)))
    refine .q rfl (.load on_2_A rfl (by first | assumption | exact Mem.of_get w 0 _ rfl)) ?_
    refine .mv rfl (.q rfl (.cmp rfl rfl rfl) (.mv rfl ?_))
    refine .split (fun b6 => ?_) (fun b6 => ?_)
    ·
     try simp only [sps] at b6
     refine .qg rfl (.fieldAddr fo_27_1_B rfl) ?_
     refine .qg rfl (.load on_24_B rfl (by first | assumption | exact Mem.of_get w 1 _ rfl)) ?_
     refine .qg rfl (.len sl_24_A rfl) (.qg rfl (.move rfl) (.qg rfl (.cmp rfl rfl rfl) (.q rfl (.pickT rfl rfl) (.mv rfl ?_))))
     refine .split (fun b8 => ?_) (fun b8 => ?_)
     ·
      try simp only [sps] at b8
      refine .qg rfl (.loadM ag_27_D rfl ⟨rfl, Mem.of_get w⟩) ?_
      refine .callQg rfl rfl rfl rfl rfl rfl @Try.call105 rfl (l02Fits_c (hin := by first | exact f1 | exact d4 | exact c8)) ?_
      refine .q rfl (.pickT rfl rfl) (.nil (f4 _ _ ?_))
      refine .cond rfl (fun c1 => ?_) (fun c1 => ?_)
      ·
       try simp only [sps] at c1
       refine .seq (fun K19 h5 => .region ?_)
       refine .q rfl (.loadM ag_27_D rfl ⟨rfl, Mem.of_get w⟩) ?_
       refine .r0 rfl rfl (.fillA rfl sz_27_D rfl rfl rfl rfl) ?_
       rintro _ H10001x3 ⟨rfl, a1, c2⟩
       replace j := j.sA a1
       replace hs := hs.sA a1
       replace f := Keep.st f a1 (fun k hb hk => ⟨(by omega), trivial⟩)
       replace d2 := a7.keep f (Nat.le_refl _)
       clear f1
       refine .nil (h5 _ _ ?_)
       refine .ret ?_
       refine c9 _ _ ?_
       refine ⟨_, _, _, _, rfl, ag_27_D, (by rfl), (Mem.of_get c2), ?_⟩
       exact ⟨h0, _, rfl, f3, d2.keep (.of_le (.refl _)) (by omega), j, hs⟩
      try simp only [sps] at c1
      refine .skip ?_
      refine c7 _ _ (.region (.mv rfl ?_))
      refine .q rfl (.add rfl rfl rfl (by omega) (by omega)) ?_
      refine .mv rfl (.nil ?_)
      refine a3 (i + 1) _ _ ?_ ?_ ⟨rfl, rfl, rfl, rfl, rfl, trivial⟩
      ·
       refine ⟨b, ?_⟩
       exact ⟨by omega, hs⟩
      omega
     try simp only [sps] at b8
     refine .z rfl (.z rfl (.q rfl (.pickF rfl rfl) (.nil (f4 _ _ ?_))))
     refine .condF rfl ?_
     refine .skip ?_
     refine c7 _ _ (.region (.mv rfl ?_))
     refine .q rfl (.add rfl rfl rfl (by omega) (by omega)) ?_
     refine .mv rfl (.nil ?_)
     refine a3 (i + 1) _ _ ?_ ?_ ⟨rfl, rfl, rfl, rfl, rfl, trivial⟩
     ·
      refine ⟨b, ?_⟩
      exact ⟨by omega, hs⟩
     omega
    try simp only [sps] at b6
    refine .z rfl (.z rfl (.z rfl (.z rfl (.z rfl (.q rfl (.pickF rfl rfl) (.mv rfl (.z rfl (.z rfl (.q rfl (.pickF rfl rfl) (.nil (f4 _ _ ?_)))))))))))
    refine .condF rfl ?_
    refine .skip ?_
    refine c7 _ _ (.region (.mv rfl ?_))
    refine .q rfl (.add rfl rfl rfl (by omega) (by omega)) ?_
    refine .mv rfl (.nil ?_)
    refine a3 (i + 1) _ _ ?_ ?_ ⟨rfl, rfl, rfl, rfl, rfl, trivial⟩
    ·
     refine ⟨b, ?_⟩
     exact ⟨by omega, hs⟩
    omega
   try simp only [sps] at e3
   refine .skip ?_
   refine g0 _ _ (.seq (fun K20 e8 => .region (.q rfl (.fieldAddr fo_27_0_B rfl) ?_)))
   refine .q rfl (.load on_2_A rfl (by first | assumption | exact Mem.of_get d 0 _ rfl)) ?_
   refine .mv rfl (.q rfl (.cmp rfl rfl rfl) (.mv rfl ?_))
   refine .split (fun b6 => ?_) (fun b6 => ?_)
   ·
    try simp only [sps] at b6
    refine .qg rfl (.fieldAddr fo_27_1_B rfl) ?_
    refine .qg rfl (.load on_24_B rfl (by first | assumption | exact Mem.of_get d 1 _ rfl)) ?_
    refine .qg rfl (.len sl_24_A rfl) (.qg rfl (.move rfl) (.qg rfl (.cmp rfl rfl rfl) (.q rfl (.pickT rfl rfl) (.mv rfl ?_))))
    refine .split (fun b8 => ?_) (fun b8 => ?_)
    ·
     try simp only [sps] at b8
     refine .qg rfl (.loadM ag_27_D rfl ⟨rfl, Mem.of_get d⟩) ?_
     refine .callQg rfl rfl rfl rfl rfl rfl @Try.call105 rfl (l02Fits_c (hin := by first | exact f1 | exact d4 | exact c8)) ?_
     refine .q rfl (.pickT rfl rfl) (.nil (e8 _ _ ?_))
     refine .cond rfl (fun c1 => ?_) (fun c1 => ?_)
     ·
      try simp only [sps] at c1
      refine .seq (fun K21 g5 => .region ?_)
      refine .q rfl (.loadM ag_27_D rfl ⟨rfl, Mem.of_get d⟩) ?_
      refine .r0 rfl rfl (.fillA rfl sz_27_D rfl rfl rfl rfl) ?_
      rintro _ H10001x4 ⟨rfl, a0, c4⟩
      replace j := j.sA a0
      replace hs := hs.sA a0
      replace e := Keep.st e a0 (fun k hb hk => ⟨(by omega), trivial⟩)
      replace d7 := b2.keep e (Nat.le_refl _)
      refine .nil (g5 _ _ ?_)
      refine .ret ?_
      refine c9 _ _ ?_
      refine ⟨_, _, _, _, rfl, ag_27_D, (by rfl), (Mem.of_get c4), ?_⟩
      exact ⟨j1, _, rfl, b4.mono (by omega), d7.keep (.of_le (.refl _)) (by omega), j, hs⟩
     try simp only [sps] at c1
     refine .skip ?_
     refine c7 _ _ (.region (.mv rfl ?_))
     refine .q rfl (.add rfl rfl rfl (by omega) (by omega)) ?_
     refine .mv rfl (.nil ?_)
     refine a3 (i + 1) _ _ ?_ ?_ ⟨rfl, rfl, rfl, rfl, rfl, trivial⟩
     ·
      refine ⟨b, ?_⟩
      exact ⟨by omega, hs⟩
     omega
    try simp only [sps] at b8
    refine .z rfl (.z rfl (.q rfl (.pickF rfl rfl) (.nil (e8 _ _ ?_))))
    refine .condF rfl ?_
    refine .skip ?_
    refine c7 _ _ (.region (.mv rfl ?_))
    refine .q rfl (.add rfl rfl rfl (by omega) (by omega)) ?_
    refine .mv rfl (.nil ?_)
    refine a3 (i + 1) _ _ ?_ ?_ ⟨rfl, rfl, rfl, rfl, rfl, trivial⟩
    ·
     refine ⟨b, ?_⟩
     exact ⟨by omega, hs⟩
    omega
   try simp only [sps] at b6
   refine .z rfl (.z rfl (.z rfl (.z rfl (.z rfl (.q rfl (.pickF rfl rfl) (.mv rfl (.z rfl (.z rfl (.q rfl (.pickF rfl rfl) (.nil (e8 _ _ ?_)))))))))))
   refine .condF rfl ?_
   refine .skip ?_
   refine c7 _ _ (.region (.mv rfl ?_))
   refine .q rfl (.add rfl rfl rfl (by omega) (by omega)) ?_
   refine .mv rfl (.nil ?_)
   refine a3 (i + 1) _ _ ?_ ?_ ⟨rfl, rfl, rfl, rfl, rfl, trivial⟩
   ·
    refine ⟨b, ?_⟩
    exact ⟨by omega, hs⟩
   omega
  try simp only [sps] at g4
  refine .exit ?_
  refine k1 _ _ (.seq (fun K22 g9 => .region ?_))
  refine .R rfl (.litA rfl sl_24_A ze_2_Pa rfl rfl rfl rfl) ?_
  rintro _ H45 ⟨k0, rfl, e4, ge45, d6⟩
  replace j := j.le e4
  replace hs := hs.le e4
  replace t := e4.2 _ _ t
  have lt_at45 := GHeap.ltg d6
  refine .R rfl (.litA rfl sl_25_B ze_24_Hj rfl rfl rfl rfl) ?_
  rintro _ k3 ⟨g46, rfl, d5, ge46, f5⟩
  replace j := j.le d5
  replace hs := hs.le d5
  replace t := d5.2 _ _ t
  replace d6 := d5.2 _ _ d6
  have lt_at46 := GHeap.ltg f5
  refine .call rfl rfl rfl rfl @Try.call31 rfl ((by have hh := l03Poset_c (rel := [[1]]) (hin := ((lit_own (gs := [k0]) (by simp only [LitAt]; exact ⟨⟨Nat.zero_le _, d6⟩, trivial⟩) (by simp <;> omega)).done (by exact f5) (Nat.zero_le _)).intss) (hn := by decide) (hr := by decide); exact hh)) ?_
  rintro _ i6 ⟨j7, h6, f2, ga47, gb47, gc47, gd47, rr47, rfl, k4⟩
  have h4 := k4.catR
  replace j := j.le f2
  replace hs := hs.le f2
  replace t := f2.2 _ _ t
  have e6 := h4
  have b5 : Keep k3.next i6 i6 := fun _ _ _ h => h
  refine .r0 rfl rfl (.fillA rfl sz_27_D rfl rfl rfl rfl) ?_
  rintro _ H11003 ⟨rfl, b1, d8⟩
  replace j := j.sA b1
  replace hs := hs.sA b1
  replace b5 := Keep.st b5 b1 (fun k hb hk => ⟨(by omega), trivial⟩)
  replace h4 := e6.keep b5 (Nat.le_refl _)
  refine .nil (g9 _ _ ?_)
  refine .ret ?_
  refine c9 _ _ ?_
  refine ⟨_, _, _, _, rfl, ag_27_D, (by rfl), (Mem.of_get d8), ?_⟩
  exact ⟨j7, _, rfl, h6.mono (by decide), h4.keep (.of_le (.refl _)) (by omega), j, hs⟩
end Go.Proofs.Ytfanjkbaemhbmaa
namespace Go.Proofs.Ytfanjkbaemhbmaa
open Go Go.GL Go.RowKit Go.Proofs
set_option maxHeartbeats 8000000 in
theorem l02Bend_c {gS : Nat} {c : Cat} {p : CatP} {H : GHeap} (hs : DSrc 86 H gS := by assumption) (hin : c.In H p := by assumption) (hr : c.Rect 33000) :
    GCalls Try.prog 71 [.pointer (some ⟨gS, 0, none⟩), .agg (c.cells p).toArray] H (DrawnK 86 gS H) := by
  have hlS := hs.lt
  obtain ⟨a1, a2, a3, -, -, a6, -, a8, a9, -⟩ := id hr
  have hsm := hr.small (by omega)
  obtain ⟨n1, n2, n3, n4, n5, n6⟩ := id hsm
  refine GCalls.body (N := 92) (rs := [.cell 4 27]) Try.func71 rfl rfl rfl rfl (fun Qx e7 hend => ?_)
  refine .fg [0, 1] rfl ?_
  have o := St.refl [gS] H
  refine .seq (fun K1 q2 => .region ?_)
  refine .R rfl (.boxR rfl sz_27_D rfl) ?_
  rintro _ H3 ⟨g3, rfl, l9, ge3, k4⟩
  replace o := o.le l9
  have lt_at3 := GHeap.ltg k4
  refine .R rfl (.allocR rfl ze_27_Hj rfl) ?_
  rintro _ H4 ⟨g4, rfl, k6, ge4, c9⟩
  replace o := o.le k6
  replace k4 := k6.2 _ _ k4
  have lt_at4 := GHeap.ltg c9
  refine .nil (q2 _ _ (.seq (fun K2 q5 => .region ?_)))
  have hs := (hs.le l9).le k6
  have l6 := (hin.mono l9).mono k6
  refine .q rfl (.loadM ag_27_D rfl ⟨rfl, Mem.of_get k4⟩) ?_
  refine .call rfl rfl rfl rfl @Try.call83 rfl (l02OwnO_c (hin := l6) (hs := hsm)) ?_
  rintro _ H8 ⟨k7, gF, gT, gI, gC, rr, rfl, v8⟩
  have aF := v8.a1
  have aT := v8.a2
  have aI := v8.a3
  have aC := v8.a4
  have bF := v8.b1
  have bT := v8.b2
  have bI := v8.b3
  have bC := v8.b4
  have n12 := v8.n12
  have n13 := v8.n13
  have n23 := v8.n23
  have nC1 := row_ne aC aF rfl
  have nC2 := row_ne aC aT rfl
  have nC3 := row_ne aC aI rfl
  have hRR := v8.rows
  have b8 := St.refl [g3, gS, gF, gT, gI, gC] H8
  replace o := o.le k7
  replace hs := hs.le k7
  replace k4 := k7.2 _ _ k4
  replace c9 := k7.2 _ _ c9
  have lt_aF := GHeap.ltg aF
  refine .r0 rfl rfl (.fillA rfl sz_27_D rfl rfl rfl rfl) ?_
  rintro _ k5 ⟨rfl, d7, b⟩
  have nx_H1002 := d7.nx
  replace o := o.sA d7
  replace hs := hs.sA d7
  replace b8 := b8.sA d7
  have f4 : NE g4 g3 := .a
  replace c9 := d7.s c9 f4.ne
  have f5 : NE gF g3 := .a
  replace aF := d7.s aF f5.ne
  have e8 : NE gT g3 := .a
  replace aT := d7.s aT e8.ne
  have f0 : NE gI g3 := .a
  replace aI := d7.s aI f0.ne
  have e9 : NE gC g3 := .a
  replace aC := d7.s aC e9.ne
  have lt_at1002 := GHeap.ltg b
  replace b : GHeap.get k5 g3 = some (.row [.int .i64 c.obj, .slice (some ⟨gF, 0, none⟩) c.src.length c.src.length, .slice (some ⟨gT, 0, none⟩) c.tgt.length c.tgt.length, .slice (some ⟨gI, 0, none⟩) c.idn.length c.idn.length, .slice (some ⟨gC, 0, none⟩) c.comp.length c.comp.length] 27 true) := b
  refine .nil (q5 _ _ (.seq (fun K3 q8 => .region ?_)))
  have offA : Off rr c.comp.length [g3, gS, gF, gT, gI, gC] := .cons (hRR.lowNe (by omega)) (.cons (hRR.lowNe (by omega)) (.cons v8.r1 (.cons v8.r2 (.cons v8.r3 (.cons (hRR.neT v8.a4 rfl) (.nil _ _))))))
  refine .q rfl (.fieldAddr fo_27_1_B rfl) ?_
  refine .q rfl (.load on_24_B rfl (by first | assumption | exact Mem.of_get b 1 _ rfl)) ?_
  refine .q rfl (.len sl_24_A rfl) (.mv rfl (.nil (q8 _ _ (.seq (fun K4 p8 => .region (.mv rfl (.mv rfl ?_)))))))
  refine .call rfl rfl rfl rfl @Try.call30 rfl (l01Next_c) ?_
  rintro _ H14 ⟨f2, rfl, ka14, kb14, kc14, g9, hs⟩
  have nx_H14 := g9.nx
  replace o := o.sA g9
  replace b8 := b8.sA g9
  have y : NE g4 gS := .a
  replace c9 := g9.s c9 y.ne
  have v : NE gF gS := .a
  replace aF := g9.s aF v.ne
  have u : NE gT gS := .a
  replace aT := g9.s aT u.ne
  have w : NE gI gS := .a
  replace aI := g9.s aI w.ne
  have z : NE gC gS := .a
  replace aC := g9.s aC z.ne
  have t : NE g3 gS := .a
  replace b := g9.s b t.ne
  refine .mv rfl (.nil (p8 _ _ (.seq (fun K5 i1 => .seq (fun K6 q0 => .region (.mv rfl ?_))))))
  refine .call rfl rfl rfl rfl @Try.call30 rfl (l01Next_c) ?_
  rintro _ j9 ⟨k16, rfl, ka16, kb16, kc16, g8, hs⟩
  have nx_H16 := g8.nx
  replace o := o.sA g8
  replace b8 := b8.sA g8
  replace c9 := g8.s c9 y.ne
  replace aF := g8.s aF v.ne
  replace aT := g8.s aT u.ne
  replace aI := g8.s aI w.ne
  replace aC := g8.s aC z.ne
  replace b := g8.s b t.ne
  refine .nil (q0 _ _ ?_)
  refine .block ?_
  refine .seq (fun K7 q4 => .region (.q rfl (.cmp rfl rfl rfl) (.mv rfl (.nil (q4 _ _ ?_)))))
  refine .cond rfl (fun o5 => ?_) (fun o5 => ?_)
  ·
   try simp only [sps] at o5
   refine .region (.mv rfl (.q rfl (.fieldAddr fo_27_0_B rfl) ?_))
   refine .q rfl (.load on_2_A rfl (by first | assumption | exact Mem.of_get b 0 _ rfl)) ?_
   refine .q rfl (.add rfl rfl rfl (by omega) (by omega)) ?_
   refine .R rfl (.litA rfl sl_24_A ze_2_Pa rfl rfl rfl rfl) ?_
   rintro _ H35 ⟨g35, rfl, g0, ge35, l8⟩
   replace o := o.le g0
   replace b8 := b8.le g0
   replace hs := hs.le g0
   replace c9 := g0.2 _ _ c9
   replace aF := g0.2 _ _ aF
   replace aT := g0.2 _ _ aT
   replace aI := g0.2 _ _ aI
   replace aC := g0.2 _ _ aC
   replace b := g0.2 _ _ b
   refine .call rfl rfl rfl rfl @Try.call106 rfl ((by have hh := l01Pick_c (xs := [c.obj + 1, -1, 9]) (hl := fun H' s => Ints.of_get (s.same _ _ ⟨by omega, trivial⟩ l8)) (h0 := by simp); exact hh)) ?_
   rintro _ H36 ⟨q6, p0, rfl, h4, hs⟩
   obtain ⟨p6, p9, q3⟩ : ∃ k : Int, ([c.obj + 1, -1, 9] : List Int).getD q6 0 = k ∧ -9223372036854775808 ≤ k ∧ k ≤ 9223372036854775807 := ⟨_, rfl, bd_iff.2 (by intro x hx; simp only [List.mem_cons, List.not_mem_nil, or_false] at hx; omega) _ p0⟩
   rw [p9]
   replace o := o.sA h4
   replace b8 := b8.sA h4
   replace c9 := h4.s c9 y.ne
   replace aF := h4.s aF v.ne
   replace aT := h4.s aT u.ne
   replace aI := h4.s aI w.ne
   replace aC := h4.s aC z.ne
   replace b := h4.s b t.ne
   refine .q rfl (.fieldAddr fo_27_0_B rfl) ?_
   refine .r0 rfl rfl (.storeR rfl sz_2_Cg rfl rfl rfl (by assumption) (by first | exact Nat.le_of_ble_eq_true rfl | (simp; done) | (simp <;> omega))) ?_
   rintro _ H8007 ⟨rfl, e1, j2⟩
   replace o := o.sA e1
   replace b8 := b8.sA e1
   replace hs := hs.sA e1
   replace c9 := e1.s c9 f4.ne
   replace aF := e1.s aF f5.ne
   replace aT := e1.s aT e8.ne
   replace aI := e1.s aI f0.ne
   replace aC := e1.s aC e9.ne
   try simp only [Nat.zero_add, List.set_cons_succ, List.set_cons_zero] at j2
   refine .nil (i1 _ _ (.seq (fun K8 p7 => .region ?_)))
   refine .q rfl (.loadM ag_27_D rfl ⟨rfl, Mem.of_get j2⟩) ?_
   refine .r0 rfl rfl (.fillA rfl sz_27_D rfl rfl rfl rfl) ?_
   rintro _ H22001 ⟨rfl, d8, k0⟩
   replace o := o.sA d8
   replace hs := hs.sA d8
   have d : NE gF g4 := .a
   replace aF := d8.s aF d.ne
   have f : NE gT g4 := .a
   replace aT := d8.s aT f.ne
   have n : NE gI g4 := .a
   replace aI := d8.s aI n.ne
   have m : NE gC g4 := .a
   replace aC := d8.s aC m.ne
   refine .nil (p7 _ _ ?_)
   refine .ret ?_
   refine e7 _ _ ?_
   refine ⟨_, _, _, _, rfl, ag_27_D, (by rfl), (Mem.of_get k0), ?_⟩
   have hR' := (hRR.st b8 offA).st d8 (.cons (hRR.lowNe (by omega)) (.nil _ _))
   exact ⟨⟨p6, c.src, c.tgt, c.idn, c.comp⟩, ownP gF gT gI gC rr, rfl, ⟨n1, n2, n3, n4, n5, q3⟩, (KIn.own (c := ⟨p6, c.src, c.tgt, c.idn, c.comp⟩) aF bF aT bT aI bI aC bC hR').keep (.of_le (.refl _)) (by omega), o, hs⟩
  try simp only [sps] at o5
  refine .seq (fun K9 q1 => .region (.q rfl (.cmp rfl rfl rfl) (.mv rfl (.nil (q1 _ _ ?_)))))
  refine .cond rfl (fun m5 => ?_) (fun m5 => ?_)
  ·
   try simp only [sps] at m5
   refine .region (.q rfl (.fieldAddr fo_27_1_B rfl) ?_)
   refine .q rfl (.load on_24_B rfl (by first | assumption | exact Mem.of_get b 1 _ rfl)) ?_
   refine .R rfl (.litA rfl sl_24_A ze_2_Pa rfl rfl rfl rfl) ?_
   rintro _ H42 ⟨g42, rfl, g6, ge42, o7⟩
   replace o := o.le g6
   replace b8 := b8.le g6
   replace hs := hs.le g6
   replace c9 := g6.2 _ _ c9
   replace aF := g6.2 _ _ aF
   replace aT := g6.2 _ _ aT
   replace aI := g6.2 _ _ aI
   replace aC := g6.2 _ _ aC
   replace b := g6.2 _ _ b
   have lt_at42 := GHeap.ltg o7
   refine .R rfl (.appendI rfl sl_24_A ze_2_Pa rfl by_2_Pa sl_24_A rfl rfl (by assumption) (by assumption) (by first | omega | (simp <;> omega)) (by omega) (by omega)) ?_
   rintro _ H43 ⟨q7, rfl, h1, ge43, j5⟩
   replace o := o.sA h1
   replace b8 := b8.sA h1
   replace hs := hs.sA h1
   replace c9 := h1.s c9
   replace aT := h1.s aT
   replace aI := h1.s aI
   replace aC := h1.s aC
   replace b := h1.s b (Ne.symm f5.ne)
   refine .q rfl (.fieldAddr fo_27_1_B rfl) ?_
   refine .r0 rfl rfl (.storeR rfl sz_24_Ch rfl rfl rfl (by assumption) (by first | exact Nat.le_of_ble_eq_true rfl | (simp; done) | (simp <;> omega))) ?_
   rintro _ H10005 ⟨rfl, d1, i3⟩
   replace o := o.sA d1
   replace b8 := b8.sA d1
   replace hs := hs.sA d1
   replace c9 := d1.s c9 f4.ne
   replace aT := d1.s aT e8.ne
   replace aI := d1.s aI f0.ne
   replace aC := d1.s aC e9.ne
   replace j5 := d1.s j5
   try simp only [Nat.zero_add, List.set_cons_succ, List.set_cons_zero] at i3
   refine .nil (i1 _ _ (.seq (fun K10 l4 => .region ?_)))
   refine .q rfl (.loadM ag_27_D rfl ⟨rfl, Mem.of_get i3⟩) ?_
   refine .r0 rfl rfl (.fillA rfl sz_27_D rfl rfl rfl rfl) ?_
   rintro _ H22001x2 ⟨rfl, b9, i6⟩
   replace o := o.sA b9
   replace hs := hs.sA b9
   have f : NE gT g4 := .a
   replace aT := b9.s aT f.ne
   have n : NE gI g4 := .a
   replace aI := b9.s aI n.ne
   have m : NE gC g4 := .a
   replace aC := b9.s aC m.ne
   replace j5 := b9.s j5
   refine .nil (l4 _ _ ?_)
   refine .ret ?_
   refine e7 _ _ ?_
   refine ⟨_, _, _, _, rfl, ag_27_D, (by rfl), (Mem.of_get i6), ?_⟩
   have hR' := (hRR.st b8 offA).st b9 (.cons (hRR.lowNe (by omega)) (.nil _ _))
   exact ⟨⟨c.obj, c.src ++ [0], c.tgt, c.idn, c.comp⟩, ownP q7 gT gI gC rr, by simp [Cat.cells, ownP], ⟨by simp; omega, n2, n3, n4, n5, n6⟩, (KIn.own (c := ⟨c.obj, c.src ++ [0], c.tgt, c.idn, c.comp⟩) j5 (by omega) aT bT aI bI aC bC hR').keep (.of_le (.refl _)) (by omega), o, hs⟩
  try simp only [sps] at m5
  refine .seq (fun K11 n7 => .region (.q rfl (.cmp rfl rfl rfl) (.mv rfl (.nil (n7 _ _ ?_)))))
  refine .cond rfl (fun k9 => ?_) (fun k9 => ?_)
  ·
   try simp only [sps] at k9
   refine .seq (fun K12 m9 => .region (.q rfl (.fieldAddr fo_27_3_B rfl) ?_))
   refine .q rfl (.load on_24_B rfl (by first | assumption | exact Mem.of_get b 3 _ rfl)) ?_
   refine .q rfl (.len sl_24_A rfl) (.q rfl (.cmp rfl rfl rfl) (.nil (m9 _ _ ?_)))
   refine .cond rfl (fun o8 => ?_) (fun o8 => ?_)
   ·
    try simp only [sps] at o8
    refine .regionDB mo_B (.q 0 (.q 1 (.q 2 (.q 3 (.q 4 (.c 5 1 (.q 6 (.c 7 0 (.done))))))))) (by kernel_rfl) (GHeap.le_erase j9 gS) ?_
    have r := GHeap.le_erase j9 gS
    have j8 := GHeap.get_erase_of (g := gS) b (by omega)
    have aIB := GHeap.get_erase_of (g := gS) aI (by omega)
    refine .qB rfl r (.fieldAddr fo_27_3_B rfl) (.qB rfl r (.load on_24_B rfl (Mem.of_get j8 3 _ rfl)) (.qB rfl r (.move rfl) (.qB rfl r (.move rfl) ?_)))
    refine .qB rfl r (.add rfl rfl rfl (by omega) (by omega)) ?_
    refine .call1 rfl rfl rfl rfl rfl @Try.call30 rfl (l01Next_c) ?_
    rintro _ H56 ⟨p5, rfl, ka56, kb56, kc56, g5, hs⟩
    replace r := r.erase_st g5
    refine ⟨r, ?_⟩
    replace o := o.sA g5
    replace b8 := b8.sA g5
    replace c9 := g5.s c9 y.ne
    replace aF := g5.s aF v.ne
    replace aT := g5.s aT u.ne
    replace aI := g5.s aI w.ne
    replace aC := g5.s aC z.ne
    replace b := g5.s b t.ne
    refine .qB rfl r (.idxN (j := 0) sl_24_A (SlA.of_row aIB (by first | rfl | (simp; done) | (simp <;> omega))) rfl rfl (by omega)) ?_
    refine .r0 rfl rfl rfl (.storeI rfl sz_2_Cg rfl rfl (by assumption) (by first | omega | (simp <;> omega))) ?_
    rintro _ H13007 ⟨rfl, d0, f1⟩
    replace o := o.sA d0
    replace b8 := b8.sA d0
    replace hs := hs.sA d0
    have h5 : NE g4 gI := .a
    replace c9 := d0.s c9 h5.ne
    replace aF := d0.s aF
    replace aT := d0.s aT
    replace aC := d0.s aC
    replace b := d0.s b (Ne.symm f0.ne)
    rw [Nat.zero_add] at f1
    refine .done ?_
    refine i1 _ _ (.seq (fun K13 n9 => .region ?_))
    refine .q rfl (.loadM ag_27_D rfl ⟨rfl, Mem.of_get b⟩) ?_
    refine .r0 rfl rfl (.fillA rfl sz_27_D rfl rfl rfl rfl) ?_
    rintro _ H22001x3 ⟨rfl, c3, i5⟩
    replace o := o.sA c3
    replace hs := hs.sA c3
    have d : NE gF g4 := .a
    replace aF := c3.s aF d.ne
    have f : NE gT g4 := .a
    replace aT := c3.s aT f.ne
    have m : NE gC g4 := .a
    replace aC := c3.s aC m.ne
    replace f1 := c3.s f1 (Ne.symm h5.ne)
    refine .nil (n9 _ _ ?_)
    refine .ret ?_
    refine e7 _ _ ?_
    refine ⟨_, _, _, _, rfl, ag_27_D, (by rfl), (Mem.of_get i5), ?_⟩
    have hR' := (hRR.st b8 offA).st c3 (.cons (hRR.lowNe (by omega)) (.nil _ _))
    exact ⟨⟨c.obj, c.src, c.tgt, c.idn.set 0 p5, c.comp⟩, ownP gF gT gI gC rr, by simp [Cat.cells, ownP], ⟨n1, n2, by rw [List.length_set]; exact n3, n4, n5, n6⟩, (KIn.own (c := ⟨c.obj, c.src, c.tgt, c.idn.set 0 p5, c.comp⟩) aF bF aT bT f1 bI aC bC hR').keep (.of_le (.refl _)) (by omega), o, hs⟩
   try simp only [sps] at o8
   refine .skip ?_
   refine i1 _ _ (.seq (fun K14 o4 => .region ?_))
   refine .q rfl (.loadM ag_27_D rfl ⟨rfl, Mem.of_get b⟩) ?_
   refine .r0 rfl rfl (.fillA rfl sz_27_D rfl rfl rfl rfl) ?_
   rintro _ H22001x4 ⟨rfl, c5, i8⟩
   replace o := o.sA c5
   replace hs := hs.sA c5
   have d : NE gF g4 := .a
   replace aF := c5.s aF d.ne
   have f : NE gT g4 := .a
   replace aT := c5.s aT f.ne
   have n : NE gI g4 := .a
   replace aI := c5.s aI n.ne
   have m : NE gC g4 := .a
   replace aC := c5.s aC m.ne
   refine .nil (o4 _ _ ?_)
   refine .ret ?_
   refine e7 _ _ ?_
   refine ⟨_, _, _, _, rfl, ag_27_D, (by rfl), (Mem.of_get i8), ?_⟩
   have hR' := (hRR.st b8 offA).st c5 (.cons (hRR.lowNe (by omega)) (.nil _ _))
   exact ⟨c, ownP gF gT gI gC rr, rfl, hsm, (KIn.own aF bF aT bT aI bI aC bC hR').keep (.of_le (.refl _)) (by omega), o, hs⟩
  try simp only [sps] at k9
  refine .seq (fun K15 k1 => .seq (fun K16 o6 => .region (.q rfl (.cmp rfl rfl rfl) (.mv rfl (.nil (o6 _ _ ?_))))))
  refine .cond rfl (fun g2 => ?_) (fun g2 => ?_)
  ·
   try simp only [sps] at g2
   refine .skip ?_
   refine k1 _ _ ?_
   refine .cond rfl (fun g2 => ?_) (fun g2 => ?_)
   ·
    try simp only [sps] at g2
    refine .seq (fun K17 o1 => .region (.mv rfl (.q rfl (.cmp rfl rfl rfl) (.nil (o1 _ _ ?_)))))
    refine .cond rfl (fun j6 => ?_) (fun j6 => ?_)
    ·
     try simp only [sps] at j6
     refine .regionDB mo_B (.q 0 (.q 1 (.q 2 (.q 3 (.q 4 (.q 5 (.q 6 (.q 8 (.q 9 (.q 10 (.c 7 1 (.c 11 1 (.q 12 (.q 13 (.c 14 0 (.done)))))))))))))))) (by kernel_rfl) (GHeap.le_erase j9 gS) ?_
     have r := GHeap.le_erase j9 gS
     have j8 := GHeap.get_erase_of (g := gS) b (by omega)
     have aCB := GHeap.get_erase_of (g := gS) aC (by omega)
     obtain ⟨gi, hgi, hbi, hati⟩ := (hRR.st b8 offA).row f2.toNat (by omega)
     have atiB := GHeap.get_erase_of (g := gS) hati (by omega)
     have cC := slsL_cell aCB (i := f2.toNat) (by omega)
     rw [hgi] at cC
     have m1 : gF ≠ gi := fun e => v8.r1 f2.toNat (by omega) (by rw [hgi, e])
     have m2 : gT ≠ gi := fun e => v8.r2 f2.toNat (by omega) (by rw [hgi, e])
     have m3 : gI ≠ gi := fun e => v8.r3 f2.toNat (by omega) (by rw [hgi, e])
     have m4 := row_ne aC hati rfl
     have m8 := a9 f2.toNat (by omega)
     refine .qB rfl r (.fieldAddr fo_27_4_B rfl) (.qB rfl r (.load on_25_B rfl (Mem.of_get j8 4 _ rfl)) (.qB rfl r (.move rfl) ?_))
     refine .qB rfl r (.idx1 sl_25_B (SlA.of_row aCB (by first | rfl | (simp; done) | (simp <;> omega))) rfl rfl (by omega) (by omega)) ?_
     refine .qB rfl r (.load on_24_B rfl cC) (.qB rfl r (.move rfl) (.qB rfl r (.move rfl) (.qB rfl r (.move rfl) (.qB rfl r (.move rfl) ?_))))
     refine .qB rfl r (.add rfl rfl rfl (by omega) (by omega)) ?_
     refine .call1 rfl rfl rfl rfl rfl @Try.call30 rfl (l01Next_c) ?_
     rintro _ H71 ⟨k71, rfl, ka71, kb71, kc71, f7, hs⟩
     replace r := r.erase_st f7
     refine ⟨r, ?_⟩
     replace o := o.sA f7
     replace b8 := b8.sA f7
     replace c9 := f7.s c9 y.ne
     replace aF := f7.s aF v.ne
     replace aT := f7.s aT u.ne
     replace aI := f7.s aI w.ne
     replace aC := f7.s aC z.ne
     replace b := f7.s b t.ne
     have c7 : NE gi gS := .a
     replace hati := f7.s hati c7.ne
     refine .call1 rfl rfl rfl rfl rfl @Try.call30 rfl (l01Next_c) ?_
     rintro _ H75 ⟨k75, rfl, ka75, kb75, kc75, f6, hs⟩
     replace r := r.erase_st f6
     refine ⟨r, ?_⟩
     replace o := o.sA f6
     replace b8 := b8.sA f6
     replace c9 := f6.s c9 y.ne
     replace aF := f6.s aF v.ne
     replace aT := f6.s aT u.ne
     replace aI := f6.s aI w.ne
     replace aC := f6.s aC z.ne
     replace b := f6.s b t.ne
     replace hati := f6.s hati c7.ne
     refine .qB rfl r (.sub rfl rfl rfl (by omega) (by omega)) ?_
     refine .qB rfl r (.idx1 sl_24_A (SlA.of_row atiB (by first | rfl | (simp; done) | (simp <;> omega))) rfl rfl (by omega) (by omega)) ?_
     refine .r0 rfl rfl rfl (.storeI rfl sz_2_Cg rfl rfl (by assumption) (by first | omega | (simp <;> omega))) ?_
     rintro _ H18014 ⟨rfl, c8, i2⟩
     replace o := o.sA c8
     replace hs := hs.sA c8
     have e3 : NE g4 gi := .a
     replace c9 := c8.s c9 e3.ne
     have e4 : NE gF gi := .a
     replace aF := c8.s aF e4.ne
     have d9 : NE gT gi := .a
     replace aT := c8.s aT d9.ne
     have e0 : NE gI gi := .a
     replace aI := c8.s aI e0.ne
     have e6 : NE gC gi := .a
     replace aC := c8.s aC e6.ne
     have e5 : NE g3 gi := .a
     replace b := c8.s b e5.ne
     rw [Nat.zero_add] at i2
     have j3 := bend_set (hRR.st b8 offA) c8 (by omega) hgi i2 (by rw [List.length_set])
     refine .done ?_
     refine i1 _ _ (.seq (fun K18 p3 => .region ?_))
     refine .q rfl (.loadM ag_27_D rfl ⟨rfl, Mem.of_get b⟩) ?_
     refine .r0 rfl rfl (.fillA rfl sz_27_D rfl rfl rfl rfl) ?_
     rintro _ H22001x5 ⟨rfl, c6, j1⟩
     replace o := o.sA c6
     replace hs := hs.sA c6
     have d : NE gF g4 := .a
     replace aF := c6.s aF d.ne
     have f : NE gT g4 := .a
     replace aT := c6.s aT f.ne
     have n : NE gI g4 := .a
     replace aI := c6.s aI n.ne
     have m : NE gC g4 := .a
     replace aC := c6.s aC m.ne
     refine .nil (p3 _ _ ?_)
     refine .ret ?_
     refine e7 _ _ ?_
     refine ⟨_, _, _, _, rfl, ag_27_D, (by rfl), (Mem.of_get j1), ?_⟩
     obtain ⟨T, k2, j4, k3, j7⟩ := j3
     have hR' := j7.st c6 (.cons (j7.lowNe (by omega)) (.nil _ _))
     rw [← k2] at aC
     exact ⟨⟨c.obj, c.src, c.tgt, c.idn, T⟩, ownP gF gT gI gC rr, by simp [Cat.cells, ownP, j4], ⟨n1, n2, n3, (by rw [j4]; exact n4), fun i => Nat.le_trans (Nat.le_of_eq (k3 i)) (n5 i), n6⟩, (KIn.own (c := ⟨c.obj, c.src, c.tgt, c.idn, T⟩) aF bF aT bT aI bI aC bC hR').keep (.of_le (.refl _)) (by omega), o, hs⟩
    try simp only [sps] at j6
    refine .skip ?_
    refine i1 _ _ (.seq (fun K19 o9 => .region ?_))
    refine .q rfl (.loadM ag_27_D rfl ⟨rfl, Mem.of_get b⟩) ?_
    refine .r0 rfl rfl (.fillA rfl sz_27_D rfl rfl rfl rfl) ?_
    rintro _ H22001x6 ⟨rfl, c4, i9⟩
    replace o := o.sA c4
    replace hs := hs.sA c4
    have d : NE gF g4 := .a
    replace aF := c4.s aF d.ne
    have f : NE gT g4 := .a
    replace aT := c4.s aT f.ne
    have n : NE gI g4 := .a
    replace aI := c4.s aI n.ne
    have m : NE gC g4 := .a
    replace aC := c4.s aC m.ne
    refine .nil (o9 _ _ ?_)
    refine .ret ?_
    refine e7 _ _ ?_
    refine ⟨_, _, _, _, rfl, ag_27_D, (by rfl), (Mem.of_get i9), ?_⟩
    have hR' := (hRR.st b8 offA).st c4 (.cons (hRR.lowNe (by omega)) (.nil _ _))
    exact ⟨c, ownP gF gT gI gC rr, rfl, hsm, (KIn.own aF bF aT bT aI bI aC bC hR').keep (.of_le (.refl _)) (by omega), o, hs⟩
   simp only [sps] at g2; omega
  try simp only [sps] at g2
  refine .seq (fun K20 o2 => .region (.q rfl (.cmp rfl rfl rfl) (.mv rfl (.nil (o2 _ _ ?_)))))
  refine .cond rfl (fun g2 => ?_) (fun g2 => ?_)
  ·
   try simp only [sps] at g2
   refine .skip ?_
   refine k1 _ _ ?_
   refine .cond rfl (fun g2 => ?_) (fun g2 => ?_)
   ·
    try simp only [sps] at g2
    refine .seq (fun K21 l0 => .region (.mv rfl (.q rfl (.cmp rfl rfl rfl) (.nil (l0 _ _ ?_)))))
    refine .cond rfl (fun j6 => ?_) (fun j6 => ?_)
    ·
     try simp only [sps] at j6
     refine .regionDB mo_B (.q 0 (.q 1 (.q 2 (.q 3 (.q 4 (.q 5 (.q 6 (.q 8 (.q 9 (.q 10 (.c 7 1 (.c 11 1 (.q 12 (.q 13 (.c 14 0 (.done)))))))))))))))) (by kernel_rfl) (GHeap.le_erase j9 gS) ?_
     have r := GHeap.le_erase j9 gS
     have j8 := GHeap.get_erase_of (g := gS) b (by omega)
     have aCB := GHeap.get_erase_of (g := gS) aC (by omega)
     obtain ⟨gi, hgi, hbi, hati⟩ := (hRR.st b8 offA).row f2.toNat (by omega)
     have atiB := GHeap.get_erase_of (g := gS) hati (by omega)
     have cC := slsL_cell aCB (i := f2.toNat) (by omega)
     rw [hgi] at cC
     have m1 : gF ≠ gi := fun e => v8.r1 f2.toNat (by omega) (by rw [hgi, e])
     have m2 : gT ≠ gi := fun e => v8.r2 f2.toNat (by omega) (by rw [hgi, e])
     have m3 : gI ≠ gi := fun e => v8.r3 f2.toNat (by omega) (by rw [hgi, e])
     have m4 := row_ne aC hati rfl
     have m8 := a9 f2.toNat (by omega)
     refine .qB rfl r (.fieldAddr fo_27_4_B rfl) (.qB rfl r (.load on_25_B rfl (Mem.of_get j8 4 _ rfl)) (.qB rfl r (.move rfl) ?_))
     refine .qB rfl r (.idx1 sl_25_B (SlA.of_row aCB (by first | rfl | (simp; done) | (simp <;> omega))) rfl rfl (by omega) (by omega)) ?_
     refine .qB rfl r (.load on_24_B rfl cC) (.qB rfl r (.move rfl) (.qB rfl r (.move rfl) (.qB rfl r (.move rfl) (.qB rfl r (.move rfl) ?_))))
     refine .qB rfl r (.add rfl rfl rfl (by omega) (by omega)) ?_
     refine .call1 rfl rfl rfl rfl rfl @Try.call30 rfl (l01Next_c) ?_
     rintro _ H71x2 ⟨k71x2, rfl, ka71x2, kb71x2, kc71x2, d3, hs⟩
     replace r := r.erase_st d3
     refine ⟨r, ?_⟩
     replace o := o.sA d3
     replace b8 := b8.sA d3
     replace c9 := d3.s c9 y.ne
     replace aF := d3.s aF v.ne
     replace aT := d3.s aT u.ne
     replace aI := d3.s aI w.ne
     replace aC := d3.s aC z.ne
     replace b := d3.s b t.ne
     have c7 : NE gi gS := .a
     replace hati := d3.s hati c7.ne
     refine .call1 rfl rfl rfl rfl rfl @Try.call30 rfl (l01Next_c) ?_
     rintro _ H75x2 ⟨k75x2, rfl, ka75x2, kb75x2, kc75x2, d4, hs⟩
     replace r := r.erase_st d4
     refine ⟨r, ?_⟩
     replace o := o.sA d4
     replace b8 := b8.sA d4
     replace c9 := d4.s c9 y.ne
     replace aF := d4.s aF v.ne
     replace aT := d4.s aT u.ne
     replace aI := d4.s aI w.ne
     replace aC := d4.s aC z.ne
     replace b := d4.s b t.ne
     replace hati := d4.s hati c7.ne
     refine .qB rfl r (.sub rfl rfl rfl (by omega) (by omega)) ?_
     refine .qB rfl r (.idx1 sl_24_A (SlA.of_row atiB (by first | rfl | (simp; done) | (simp <;> omega))) rfl rfl (by omega) (by omega)) ?_
     refine .r0 rfl rfl rfl (.storeI rfl sz_2_Cg rfl rfl (by assumption) (by first | omega | (simp <;> omega))) ?_
     rintro _ H18014x2 ⟨rfl, a0, f8⟩
     replace o := o.sA a0
     replace hs := hs.sA a0
     have e3 : NE g4 gi := .a
     replace c9 := a0.s c9 e3.ne
     have e4 : NE gF gi := .a
     replace aF := a0.s aF e4.ne
     have d9 : NE gT gi := .a
     replace aT := a0.s aT d9.ne
     have e0 : NE gI gi := .a
     replace aI := a0.s aI e0.ne
     have e6 : NE gC gi := .a
     replace aC := a0.s aC e6.ne
     have e5 : NE g3 gi := .a
     replace b := a0.s b e5.ne
     rw [Nat.zero_add] at f8
     have j3 := bend_set (hRR.st b8 offA) a0 (by omega) hgi f8 (by rw [List.length_set])
     refine .done ?_
     refine i1 _ _ (.seq (fun K22 m6 => .region ?_))
     refine .q rfl (.loadM ag_27_D rfl ⟨rfl, Mem.of_get b⟩) ?_
     refine .r0 rfl rfl (.fillA rfl sz_27_D rfl rfl rfl rfl) ?_
     rintro _ H22001x7 ⟨rfl, c1, i4⟩
     replace o := o.sA c1
     replace hs := hs.sA c1
     have d : NE gF g4 := .a
     replace aF := c1.s aF d.ne
     have f : NE gT g4 := .a
     replace aT := c1.s aT f.ne
     have n : NE gI g4 := .a
     replace aI := c1.s aI n.ne
     have m : NE gC g4 := .a
     replace aC := c1.s aC m.ne
     refine .nil (m6 _ _ ?_)
     refine .ret ?_
     refine e7 _ _ ?_
     refine ⟨_, _, _, _, rfl, ag_27_D, (by rfl), (Mem.of_get i4), ?_⟩
     obtain ⟨T, k2, j4, k3, j7⟩ := j3
     have hR' := j7.st c1 (.cons (j7.lowNe (by omega)) (.nil _ _))
     rw [← k2] at aC
     exact ⟨⟨c.obj, c.src, c.tgt, c.idn, T⟩, ownP gF gT gI gC rr, by simp [Cat.cells, ownP, j4], ⟨n1, n2, n3, (by rw [j4]; exact n4), fun i => Nat.le_trans (Nat.le_of_eq (k3 i)) (n5 i), n6⟩, (KIn.own (c := ⟨c.obj, c.src, c.tgt, c.idn, T⟩) aF bF aT bT aI bI aC bC hR').keep (.of_le (.refl _)) (by omega), o, hs⟩
    try simp only [sps] at j6
    refine .skip ?_
    refine i1 _ _ (.seq (fun K23 l7 => .region ?_))
    refine .q rfl (.loadM ag_27_D rfl ⟨rfl, Mem.of_get b⟩) ?_
    refine .r0 rfl rfl (.fillA rfl sz_27_D rfl rfl rfl rfl) ?_
    rintro _ H22001x8 ⟨rfl, c2, j0⟩
    replace o := o.sA c2
    replace hs := hs.sA c2
    have d : NE gF g4 := .a
    replace aF := c2.s aF d.ne
    have f : NE gT g4 := .a
    replace aT := c2.s aT f.ne
    have n : NE gI g4 := .a
    replace aI := c2.s aI n.ne
    have m : NE gC g4 := .a
    replace aC := c2.s aC m.ne
    refine .nil (l7 _ _ ?_)
    refine .ret ?_
    refine e7 _ _ ?_
    refine ⟨_, _, _, _, rfl, ag_27_D, (by rfl), (Mem.of_get j0), ?_⟩
    have hR' := (hRR.st b8 offA).st c2 (.cons (hRR.lowNe (by omega)) (.nil _ _))
    exact ⟨c, ownP gF gT gI gC rr, rfl, hsm, (KIn.own aF bF aT bT aI bI aC bC hR').keep (.of_le (.refl _)) (by omega), o, hs⟩
   simp only [sps] at g2; omega
  try simp only [sps] at g2
  refine .region (.q rfl (.cmp rfl rfl rfl) (.mv rfl (.nil (k1 _ _ ?_))))
  refine .cond rfl (fun g2 => ?_) (fun g2 => ?_)
  ·
   try simp only [sps] at g2
   refine .seq (fun K24 l5 => .region (.mv rfl (.q rfl (.cmp rfl rfl rfl) (.nil (l5 _ _ ?_)))))
   refine .cond rfl (fun j6 => ?_) (fun j6 => ?_)
   ·
    try simp only [sps] at j6
    refine .regionDB mo_B (.q 0 (.q 1 (.q 2 (.q 3 (.q 4 (.q 5 (.q 6 (.q 8 (.q 9 (.q 10 (.c 7 1 (.c 11 1 (.q 12 (.q 13 (.c 14 0 (.done)))))))))))))))) (by kernel_rfl) (GHeap.le_erase j9 gS) ?_
    have r := GHeap.le_erase j9 gS
    have j8 := GHeap.get_erase_of (g := gS) b (by omega)
    have aCB := GHeap.get_erase_of (g := gS) aC (by omega)
    obtain ⟨gi, hgi, hbi, hati⟩ := (hRR.st b8 offA).row f2.toNat (by omega)
    have atiB := GHeap.get_erase_of (g := gS) hati (by omega)
    have cC := slsL_cell aCB (i := f2.toNat) (by omega)
    rw [hgi] at cC
    have m1 : gF ≠ gi := fun e => v8.r1 f2.toNat (by omega) (by rw [hgi, e])
    have m2 : gT ≠ gi := fun e => v8.r2 f2.toNat (by omega) (by rw [hgi, e])
    have m3 : gI ≠ gi := fun e => v8.r3 f2.toNat (by omega) (by rw [hgi, e])
    have m4 := row_ne aC hati rfl
    have m8 := a9 f2.toNat (by omega)
    refine .qB rfl r (.fieldAddr fo_27_4_B rfl) (.qB rfl r (.load on_25_B rfl (Mem.of_get j8 4 _ rfl)) (.qB rfl r (.move rfl) ?_))
    refine .qB rfl r (.idx1 sl_25_B (SlA.of_row aCB (by first | rfl | (simp; done) | (simp <;> omega))) rfl rfl (by omega) (by omega)) ?_
    refine .qB rfl r (.load on_24_B rfl cC) (.qB rfl r (.move rfl) (.qB rfl r (.move rfl) (.qB rfl r (.move rfl) (.qB rfl r (.move rfl) ?_))))
    refine .qB rfl r (.add rfl rfl rfl (by omega) (by omega)) ?_
    refine .call1 rfl rfl rfl rfl rfl @Try.call30 rfl (l01Next_c) ?_
    rintro _ H71x3 ⟨k71x3, rfl, ka71x3, kb71x3, kc71x3, d6, hs⟩
    replace r := r.erase_st d6
    refine ⟨r, ?_⟩
    replace o := o.sA d6
    replace b8 := b8.sA d6
    replace c9 := d6.s c9 y.ne
    replace aF := d6.s aF v.ne
    replace aT := d6.s aT u.ne
    replace aI := d6.s aI w.ne
    replace aC := d6.s aC z.ne
    replace b := d6.s b t.ne
    have c7 : NE gi gS := .a
    replace hati := d6.s hati c7.ne
    refine .call1 rfl rfl rfl rfl rfl @Try.call30 rfl (l01Next_c) ?_
    rintro _ H75x3 ⟨k75x3, rfl, ka75x3, kb75x3, kc75x3, d5, hs⟩
    replace r := r.erase_st d5
    refine ⟨r, ?_⟩
    replace o := o.sA d5
    replace b8 := b8.sA d5
    replace c9 := d5.s c9 y.ne
    replace aF := d5.s aF v.ne
    replace aT := d5.s aT u.ne
    replace aI := d5.s aI w.ne
    replace aC := d5.s aC z.ne
    replace b := d5.s b t.ne
    replace hati := d5.s hati c7.ne
    refine .qB rfl r (.sub rfl rfl rfl (by omega) (by omega)) ?_
    refine .qB rfl r (.idx1 sl_24_A (SlA.of_row atiB (by first | rfl | (simp; done) | (simp <;> omega))) rfl rfl (by omega) (by omega)) ?_
    refine .r0 rfl rfl rfl (.storeI rfl sz_2_Cg rfl rfl (by assumption) (by first | omega | (simp <;> omega))) ?_
    rintro _ H18014x3 ⟨rfl, a5, f9⟩
    replace o := o.sA a5
    replace hs := hs.sA a5
    have e3 : NE g4 gi := .a
    replace c9 := a5.s c9 e3.ne
    have e4 : NE gF gi := .a
    replace aF := a5.s aF e4.ne
    have d9 : NE gT gi := .a
    replace aT := a5.s aT d9.ne
    have e0 : NE gI gi := .a
    replace aI := a5.s aI e0.ne
    have e6 : NE gC gi := .a
    replace aC := a5.s aC e6.ne
    have e5 : NE g3 gi := .a
    replace b := a5.s b e5.ne
    rw [Nat.zero_add] at f9
    have j3 := bend_set (hRR.st b8 offA) a5 (by omega) hgi f9 (by rw [List.length_set])
    refine .done ?_
    refine i1 _ _ (.seq (fun K25 l2 => .region ?_))
    refine .q rfl (.loadM ag_27_D rfl ⟨rfl, Mem.of_get b⟩) ?_
    refine .r0 rfl rfl (.fillA rfl sz_27_D rfl rfl rfl rfl) ?_
    rintro _ H22001x9 ⟨rfl, c0, i7⟩
    replace o := o.sA c0
    replace hs := hs.sA c0
    have d : NE gF g4 := .a
    replace aF := c0.s aF d.ne
    have f : NE gT g4 := .a
    replace aT := c0.s aT f.ne
    have n : NE gI g4 := .a
    replace aI := c0.s aI n.ne
    have m : NE gC g4 := .a
    replace aC := c0.s aC m.ne
    refine .nil (l2 _ _ ?_)
    refine .ret ?_
    refine e7 _ _ ?_
    refine ⟨_, _, _, _, rfl, ag_27_D, (by rfl), (Mem.of_get i7), ?_⟩
    obtain ⟨T, k2, j4, k3, j7⟩ := j3
    have hR' := j7.st c0 (.cons (j7.lowNe (by omega)) (.nil _ _))
    rw [← k2] at aC
    exact ⟨⟨c.obj, c.src, c.tgt, c.idn, T⟩, ownP gF gT gI gC rr, by simp [Cat.cells, ownP, j4], ⟨n1, n2, n3, (by rw [j4]; exact n4), fun i => Nat.le_trans (Nat.le_of_eq (k3 i)) (n5 i), n6⟩, (KIn.own (c := ⟨c.obj, c.src, c.tgt, c.idn, T⟩) aF bF aT bT aI bI aC bC hR').keep (.of_le (.refl _)) (by omega), o, hs⟩
   try simp only [sps] at j6
   refine .skip ?_
   refine i1 _ _ (.seq (fun K26 p2 => .region ?_))
   refine .q rfl (.loadM ag_27_D rfl ⟨rfl, Mem.of_get b⟩) ?_
   refine .r0 rfl rfl (.fillA rfl sz_27_D rfl rfl rfl rfl) ?_
   rintro _ H22001x10 ⟨rfl, b0, h6⟩
   replace o := o.sA b0
   replace hs := hs.sA b0
   have d : NE gF g4 := .a
   replace aF := b0.s aF d.ne
   have f : NE gT g4 := .a
   replace aT := b0.s aT f.ne
   have n : NE gI g4 := .a
   replace aI := b0.s aI n.ne
   have m : NE gC g4 := .a
   replace aC := b0.s aC m.ne
   refine .nil (p2 _ _ ?_)
   refine .ret ?_
   refine e7 _ _ ?_
   refine ⟨_, _, _, _, rfl, ag_27_D, (by rfl), (Mem.of_get h6), ?_⟩
   have hR' := (hRR.st b8 offA).st b0 (.cons (hRR.lowNe (by omega)) (.nil _ _))
   exact ⟨c, ownP gF gT gI gC rr, rfl, hsm, (KIn.own aF bF aT bT aI bI aC bC hR').keep (.of_le (.refl _)) (by omega), o, hs⟩
  try simp only [sps] at g2
  refine .seq (fun K27 m7 => .region (.q rfl (.cmp rfl rfl rfl) (.mv rfl (.nil (m7 _ _ ?_)))))
  refine .cond rfl (fun k8 => ?_) (fun k8 => ?_)
  ·
   try simp only [sps] at k8
   refine .seq (fun K28 m0 => .region (.mv rfl (.q rfl (.cmp rfl rfl rfl) (.nil (m0 _ _ ?_)))))
   refine .cond rfl (fun l1 => ?_) (fun l1 => ?_)
   ·
    try simp only [sps] at l1
    refine .regionDB mo_B (.q 0 (.q 1 (.q 2 (.q 3 (.q 4 (.q 5 (.q 6 (.c 7 1 (.q 8 (.c 9 0 (.done))))))))))) (by kernel_rfl) (GHeap.le_erase j9 gS) ?_
    have r := GHeap.le_erase j9 gS
    have j8 := GHeap.get_erase_of (g := gS) b (by omega)
    have aTB := GHeap.get_erase_of (g := gS) aT (by omega)
    refine .qB rfl r (.fieldAddr fo_27_2_B rfl) (.qB rfl r (.load on_24_B rfl (Mem.of_get j8 2 _ rfl)) (.qB rfl r (.move rfl) (.qB rfl r (.move rfl) (.qB rfl r (.fieldAddr fo_27_0_B rfl) (.qB rfl r (.load on_2_A rfl (Mem.of_get j8 0 _ rfl)) ?_)))))
    refine .qB rfl r (.add rfl rfl rfl (by omega) (by omega)) ?_
    refine .call1 rfl rfl rfl rfl rfl @Try.call30 rfl (l01Next_c) ?_
    rintro _ H89 ⟨p4, rfl, ka89, kb89, kc89, g7, hs⟩
    replace r := r.erase_st g7
    refine ⟨r, ?_⟩
    replace o := o.sA g7
    replace b8 := b8.sA g7
    replace c9 := g7.s c9 y.ne
    replace aF := g7.s aF v.ne
    replace aT := g7.s aT u.ne
    replace aI := g7.s aI w.ne
    replace aC := g7.s aC z.ne
    replace b := g7.s b t.ne
    refine .qB rfl r (.idx1 sl_24_A (SlA.of_row aTB (by first | rfl | (simp; done) | (simp <;> omega))) rfl rfl (by omega) (by omega)) ?_
    refine .r0 rfl rfl rfl (.storeI rfl sz_2_Cg rfl rfl (by assumption) (by first | omega | (simp <;> omega))) ?_
    rintro _ H21009 ⟨rfl, d2, f3⟩
    replace o := o.sA d2
    replace b8 := b8.sA d2
    replace hs := hs.sA d2
    have h3 : NE g4 gT := .a
    replace c9 := d2.s c9 h3.ne
    replace aF := d2.s aF
    replace aI := d2.s aI
    replace aC := d2.s aC
    replace b := d2.s b (Ne.symm e8.ne)
    rw [Nat.zero_add] at f3
    refine .done ?_
    refine i1 _ _ (.seq (fun K29 l3 => .region ?_))
    refine .q rfl (.loadM ag_27_D rfl ⟨rfl, Mem.of_get b⟩) ?_
    refine .r0 rfl rfl (.fillA rfl sz_27_D rfl rfl rfl rfl) ?_
    rintro _ H22001x11 ⟨rfl, b7, h7⟩
    replace o := o.sA b7
    replace hs := hs.sA b7
    have d : NE gF g4 := .a
    replace aF := b7.s aF d.ne
    have n : NE gI g4 := .a
    replace aI := b7.s aI n.ne
    have m : NE gC g4 := .a
    replace aC := b7.s aC m.ne
    replace f3 := b7.s f3 (Ne.symm h3.ne)
    refine .nil (l3 _ _ ?_)
    refine .ret ?_
    refine e7 _ _ ?_
    refine ⟨_, _, _, _, rfl, ag_27_D, (by rfl), (Mem.of_get h7), ?_⟩
    have hR' := (hRR.st b8 offA).st b7 (.cons (hRR.lowNe (by omega)) (.nil _ _))
    exact ⟨⟨c.obj, c.src, c.tgt.set f2.toNat p4, c.idn, c.comp⟩, ownP gF gT gI gC rr, by simp [Cat.cells, ownP], ⟨n1, by rw [List.length_set]; exact n2, n3, n4, n5, n6⟩, (KIn.own (c := ⟨c.obj, c.src, c.tgt.set f2.toNat p4, c.idn, c.comp⟩) aF bF f3 bT aI bI aC bC hR').keep (.of_le (.refl _)) (by omega), o, hs⟩
   try simp only [sps] at l1
   refine .skip ?_
   refine i1 _ _ (.seq (fun K30 o3 => .region ?_))
   refine .q rfl (.loadM ag_27_D rfl ⟨rfl, Mem.of_get b⟩) ?_
   refine .r0 rfl rfl (.fillA rfl sz_27_D rfl rfl rfl rfl) ?_
   rintro _ H22001x12 ⟨rfl, b6, h9⟩
   replace o := o.sA b6
   replace hs := hs.sA b6
   have d : NE gF g4 := .a
   replace aF := b6.s aF d.ne
   have f : NE gT g4 := .a
   replace aT := b6.s aT f.ne
   have n : NE gI g4 := .a
   replace aI := b6.s aI n.ne
   have m : NE gC g4 := .a
   replace aC := b6.s aC m.ne
   refine .nil (o3 _ _ ?_)
   refine .ret ?_
   refine e7 _ _ ?_
   refine ⟨_, _, _, _, rfl, ag_27_D, (by rfl), (Mem.of_get h9), ?_⟩
   have hR' := (hRR.st b8 offA).st b6 (.cons (hRR.lowNe (by omega)) (.nil _ _))
   exact ⟨c, ownP gF gT gI gC rr, rfl, hsm, (KIn.own aF bF aT bT aI bI aC bC hR').keep (.of_le (.refl _)) (by omega), o, hs⟩
  try simp only [sps] at k8
  refine .seq (fun K31 n0 => .region (.mv rfl (.q rfl (.cmp rfl rfl rfl) (.nil (n0 _ _ ?_)))))
  refine .cond rfl (fun p1 => ?_) (fun p1 => ?_)
  ·
   try simp only [sps] at p1
   refine .regionD mo_B (.q 0 (.q 1 (.q 2 (.q 3 (.q 4 (.q 5 (.q 6 (.q 7 (.q 8 (.q 9 (.c 10 0 (.done)))))))))))) (by kernel_rfl) ?_
   have m8 := a9 f2.toNat (by omega)
   obtain ⟨gi, hgi, -, hati⟩ := (hRR.st b8 offA).row f2.toNat (by omega)
   have cC := slsL_cell aC (i := f2.toNat) (by omega)
   rw [hgi] at cC
   refine .q rfl (.fieldAddr fo_27_4_B rfl) ?_
   refine .q rfl (.load on_25_B rfl (by first | assumption | exact Mem.of_get b 4 _ rfl)) ?_
   refine .mv rfl rfl (.q rfl (.fieldAddr fo_27_4_B rfl) ?_)
   refine .q rfl (.load on_25_B rfl (by first | assumption | exact Mem.of_get b 4 _ rfl)) ?_
   refine .mv rfl rfl ?_
   refine .q rfl (.idx1 sl_25_B (by first | exact (Intss.sl (by assumption)) | exact SlA.of_row aC (by first | rfl | (simp; done) | (simp <;> omega))) rfl rfl (by omega) (by omega)) ?_
   refine .q rfl (.load on_24_B rfl cC) ?_
   refine .q rfl (.slice (l := 1) (h := (c.comp.getD f2.toNat []).length) sl_24_A rfl hati ⟨_, rfl⟩ rfl (by omega) (by omega)) ?_
   refine .q rfl (.idx1 sl_25_B (by first | exact (Intss.sl (by assumption)) | exact SlA.of_row aC (by first | rfl | (simp; done) | (simp <;> omega))) rfl rfl (by omega) (by omega)) ?_
   refine .r0 rfl rfl rfl (.storeR rfl sz_24_Ch rfl rfl rfl (by assumption) (by first | exact Nat.le_of_ble_eq_true rfl | (simp; done) | (simp <;> omega))) ?_
   rintro _ H6010 ⟨rfl, e2, g1⟩
   replace o := o.sA e2
   replace b8 := b8.sA e2
   replace hs := hs.sA e2
   have h2 : NE g4 gC := .a
   replace c9 := e2.s c9 h2.ne
   replace aF := e2.s aF
   replace aT := e2.s aT
   replace aI := e2.s aI
   replace b := e2.s b (Ne.symm e9.ne)
   refine .done ?_
   refine i1 _ _ (.seq (fun K32 n8 => .region ?_))
   refine .q rfl (.loadM ag_27_D rfl ⟨rfl, Mem.of_get b⟩) ?_
   refine .r0 rfl rfl (.fillA rfl sz_27_D rfl rfl rfl rfl) ?_
   rintro _ H22001x13 ⟨rfl, b5, h8⟩
   replace o := o.sA b5
   replace hs := hs.sA b5
   have d : NE gF g4 := .a
   replace aF := b5.s aF d.ne
   have f : NE gT g4 := .a
   replace aT := b5.s aT f.ne
   have n : NE gI g4 := .a
   replace aI := b5.s aI n.ne
   replace g1 := b5.s g1 (Ne.symm h2.ne)
   refine .nil (n8 _ _ ?_)
   refine .ret ?_
   refine e7 _ _ ?_
   refine ⟨_, _, _, _, rfl, ag_27_D, (by rfl), (Mem.of_get h8), ?_⟩
   have hR' := (hRR.st b8 offA).st b5 (.cons (hRR.lowNe (by omega)) (.nil _ _))
   obtain ⟨rr', T, k2, j4, k3, j7⟩ := bend_cut hR' (by omega) hgi rfl
   rw [Nat.zero_add, k2] at g1
   exact ⟨⟨c.obj, c.src, c.tgt, c.idn, T⟩, ownP gF gT gI gC rr', by simp [Cat.cells, ownP, j4], ⟨n1, n2, n3, (by rw [j4]; exact n4), k3 _ n5, n6⟩, (KIn.parts (c := ⟨c.obj, c.src, c.tgt, c.idn, T⟩) aF bF aT bT aI bI g1 bC j7).keep (.of_le (.refl _)) (by omega), o, hs⟩
  try simp only [sps] at p1
  refine .skip ?_
  refine i1 _ _ (.seq (fun K33 o0 => .region ?_))
  refine .q rfl (.loadM ag_27_D rfl ⟨rfl, Mem.of_get b⟩) ?_
  refine .r0 rfl rfl (.fillA rfl sz_27_D rfl rfl rfl rfl) ?_
  rintro _ H22001x14 ⟨rfl, a7, i0⟩
  replace o := o.sA a7
  replace hs := hs.sA a7
  have d : NE gF g4 := .a
  replace aF := a7.s aF d.ne
  have f : NE gT g4 := .a
  replace aT := a7.s aT f.ne
  have n : NE gI g4 := .a
  replace aI := a7.s aI n.ne
  have m : NE gC g4 := .a
  replace aC := a7.s aC m.ne
  refine .nil (o0 _ _ ?_)
  refine .ret ?_
  refine e7 _ _ ?_
  refine ⟨_, _, _, _, rfl, ag_27_D, (by rfl), (Mem.of_get i0), ?_⟩
  have hR' := (hRR.st b8 offA).st a7 (.cons (hRR.lowNe (by omega)) (.nil _ _))
  exact ⟨c, ownP gF gT gI gC rr, rfl, hsm, (KIn.own aF bF aT bT aI bI aC bC hR').keep (.of_le (.refl _)) (by omega), o, hs⟩
end Go.Proofs.Ytfanjkbaemhbmaa
namespace Go.Proofs.Ytfanjkbaemhbmaa
open Go Go.GL Go.RowKit Go.Proofs
set_option maxHeartbeats 8000000 in
theorem l02Draw_c {gS : Nat} {m n : Int} {H : GHeap} (hs : DSrc 86 H gS := by assumption) :
    GCalls Try.prog 33 [.pointer (some ⟨gS, 0, none⟩), .int .i64 m, .int .i64 n] H (DrawnK 86 gS H) := by
  have hlS := hs.lt
  refine GCalls.body (N := 19) (rs := [.cell 6 27]) Try.func33 rfl rfl rfl rfl (fun Qx x hend => ?_)
  refine .fg [0, 1, 2] rfl ?_
  have f := St.refl [gS] H
  refine .seq (fun K1 b8 => .region ?_)
  refine .R rfl (.allocR rfl ze_27_Hj rfl) ?_
  rintro _ H6 ⟨g6, rfl, a1, ge6, l⟩
  have nx_H6 := a1.1
  replace f := f.le a1
  have lt_at6 := GHeap.ltg l
  refine .nil (b8 _ _ (.seq (fun K2 b2 => .region ?_)))
  have hs := hs.le a1
  refine .mv rfl (.mv rfl (.mv rfl ?_))
  refine .call rfl rfl rfl rfl @Try.call70 rfl (l02Some_c) ?_
  rintro _ a6 ⟨b7, b5, rfl, y, z, r, hs⟩
  have nx_H11 := r.nx
  replace f := f.sA r
  have c : NE g6 gS := .a
  replace l := r.s l c.ne
  have p := z
  have b : Keep H6.next a6 a6 := fun _ _ _ h => h
  refine .R rfl (.allocR rfl ze_27_Hj rfl) ?_
  rintro _ H7 ⟨g7, rfl, a0, ge7, at7⟩
  replace f := f.le a0
  replace hs := hs.le a0
  replace l := a0.2 _ _ l
  replace b := Keep.le b a0
  refine .r0 rfl rfl (.fillA rfl sz_27_D rfl rfl rfl rfl) ?_
  rintro _ H1005 ⟨rfl, e, d⟩
  replace f := f.sA e
  replace hs := hs.sA e
  replace l := e.s l
  replace b := Keep.st b e (fun k hb hk => ⟨(by omega), trivial⟩)
  have lt_at1005 := GHeap.ltg d
  refine .nil (b2 _ _ (.seq (fun K3 b6 => .seq (fun K4 a8 => .region (.mv rfl ?_)))))
  refine .call rfl rfl rfl rfl @Try.call30 rfl (l01Next_c) ?_
  rintro _ b3 ⟨k13, rfl, ka13, kb13, kc13, o, hs⟩
  have nx_H13 := o.nx
  replace f := f.sA o
  replace l := o.s l c.ne
  replace d := o.s d
  replace b := Keep.st b o (fun k hb hk => ⟨(by omega), trivial⟩)
  replace z := p.keep b (Nat.le_refl _)
  have a7 := z.inn
  refine .q rfl (.cmp rfl rfl rfl) (.nil (a8 _ _ ?_))
  refine .cond rfl (fun a3 => ?_) (fun a3 => ?_)
  ·
   try simp only [sps] at a3
   refine .seq (fun K5 b1 => .region (.mv rfl ?_))
   refine .q rfl (.loadM ag_27_D rfl ⟨rfl, Mem.of_get d⟩) ?_
   refine .call rfl rfl rfl rfl @Try.call71 rfl (l02Bend_c (hin := a7) (hr := y)) ?_
   rintro _ a5 ⟨b4, b0, rfl, a4, a2, w, hs⟩
   replace f := f.sA w
   replace l := w.s l c.ne
   clear a7
   have v := a2
   have i : Keep b3.next a5 a5 := fun _ _ _ h => h
   refine .r0 rfl rfl (.fillA rfl sz_27_D rfl rfl rfl rfl) ?_
   rintro _ H3003 ⟨rfl, j, t⟩
   replace f := f.sA j
   replace hs := hs.sA j
   replace i := Keep.st i j (fun k hb hk => ⟨(by omega), trivial⟩)
   replace a2 := v.keep i (Nat.le_refl _)
   refine .nil (b1 _ _ ?_)
   refine .ret ?_
   refine x _ _ ?_
   refine ⟨_, _, _, _, rfl, ag_27_D, (by rfl), (Mem.of_get t), ?_⟩
   exact ⟨b4, b0, rfl, a4, a2.keep (.of_le (.refl _)) (by omega), f, hs⟩
  try simp only [sps] at a3
  refine .skip ?_
  refine b6 _ _ (.seq (fun K6 a9 => .region ?_))
  refine .q rfl (.loadM ag_27_D rfl ⟨rfl, Mem.of_get d⟩) ?_
  refine .r0 rfl rfl (.fillA rfl sz_27_D rfl rfl rfl rfl) ?_
  rintro _ H4001 ⟨rfl, g, u⟩
  replace f := f.sA g
  replace hs := hs.sA g
  replace b := Keep.st b g (fun k hb hk => ⟨(by omega), trivial⟩)
  replace z := p.keep b (Nat.le_refl _)
  refine .nil (a9 _ _ ?_)
  refine .ret ?_
  refine x _ _ ?_
  refine ⟨_, _, _, _, rfl, ag_27_D, (by rfl), (Mem.of_get u), ?_⟩
  exact ⟨b7, b5, rfl, y.small (by omega), z.kin.keep (.of_le (.refl _)) (by omega), f, hs⟩
end Go.Proofs.Ytfanjkbaemhbmaa
namespace Go.Proofs.Ytfanjkbaemhbmaa
open Go Go.GL Go.RowKit Go.Proofs
set_option maxHeartbeats 8000000 in
theorem drawEuler_c {a : Option Addr} {xs : List Int} {H : GHeap} (hb : Bytes H a xs := by assumption) (hlt : ∀ b o t, a = some ⟨b, o, t⟩ → b < H.next := by assumption) (hx : xs.length ≤ 4096 := by omega) :
    GCalls Try.prog 7 [.slice a xs.length xs.length] H (NewK H) := by
  refine GCalls.body (N := 16) (rs := [.cell 2 27]) Try.func7 rfl rfl rfl rfl (fun Qx a0 hend => ?_)
  refine .fg [0] rfl ?_
  have f := GHeap.Le.refl H
  have c := hb
  refine .seq (fun K1 b7 => .region ?_)
  refine .R rfl (.allocR rfl ze_27_Hj rfl) ?_
  rintro _ H2 ⟨g2, rfl, b1, ge2, r⟩
  have nx_H2 := b1.1
  replace f := f.trans b1
  have lt_at2 := GHeap.ltg r
  replace hb := c.mono f
  refine .nil (b7 _ _ (.seq (fun K2 b6 => .region (.mv rfl ?_))))
  refine .call rfl rfl rfl rfl @Try.call29 rfl (l01From_c (hlt := fun b o t e => by have := hlt b o t e; omega)) ?_
  rintro _ H5 ⟨a6, gS, rfl, ge5, hs⟩
  have hlS := hs.lt
  have nx_H5 := a6.1
  replace f := f.trans a6
  replace r := a6.2 _ _ r
  replace hb := c.mono f
  refine .mv rfl (.nil (b6 _ _ (.seq (fun K3 c3 => .seq (fun K4 b3 => .region (.mv rfl ?_))))))
  refine .call rfl rfl rfl rfl @Try.call30 rfl (l01Next_c) ?_
  rintro _ H7 ⟨k7, rfl, ka7, kb7, kc7, a7, hs⟩
  have nx_H7 := a7.nx
  replace f := f.st a7 (fun k hk => ⟨by omega, trivial⟩)
  have d : NE g2 gS := .a
  replace r := a7.s r d.ne
  replace hb := c.mono f
  refine .q rfl (.cmp rfl rfl rfl) (.nil (b3 _ _ ?_))
  refine .cond rfl (fun h8 => ?_) (fun h8 => ?_)
  ·
   try simp only [sps] at h8
   refine .seq (fun K5 b5 => .region (.mv rfl (.mv rfl ?_)))
   refine .call rfl rfl rfl rfl @Try.call30 rfl (l01Next_c) ?_
   rintro _ H11 ⟨b0, rfl, ka11, kb11, kc11, v, hs⟩
   have nx_H11 := v.nx
   replace f := f.st v (fun k hk => ⟨by omega, trivial⟩)
   replace r := v.s r d.ne
   replace hb := c.mono f
   obtain ⟨n, rfl⟩ : ∃ n : Nat, b0 = (n : Int) := ⟨b0.toNat, by omega⟩
   have hn5 : n < 6 := by omega
   refine .call rfl rfl rfl rfl @Try.call32 rfl (l02Relation_c (n := n) (hn := by omega)) ?_
   rintro _ c2 ⟨a12, T12, r12, rfl, c0, nT12, a5, y, hs⟩
   have nx_H12 := y.nx
   replace f := f.st y (fun k hk => ⟨by omega, trivial⟩)
   replace r := y.s r d.ne
   replace hb := c.mono f
   refine .call rfl rfl rfl rfl @Try.call31 rfl (l03Poset_c (hin := c0.intss) (hn := by omega) (hr := a5)) ?_
   rintro _ a9 ⟨c1, a4, u, ga13, gb13, gc13, gd13, rr13, rfl, b8⟩
   have a1 := b8.catR
   have nx_H13 := u.1
   replace f := f.trans u
   replace hs := hs.le u
   replace r := u.2 _ _ r
   have z := a1
   have m : Keep c2.next a9 a9 := fun _ _ _ h => h
   replace hb := c.mono f
   have a8 := a1.inn
   refine .r0 rfl rfl (.fillA rfl sz_27_D rfl rfl rfl rfl) ?_
   rintro _ H3005 ⟨rfl, p, i⟩
   have nx_H3005 := p.nx
   replace f := f.st p (fun k hk => ⟨by omega, trivial⟩)
   replace m := Keep.st m p (fun k hb hk => ⟨(by omega), trivial⟩)
   replace a1 := z.keep m (Nat.le_refl _)
   have lt_at3005 := GHeap.ltg i
   replace hb := c.mono f
   clear a8
   have a8 := a1.inn
   have mm3005 : MemN _ _ _ _ _ := ⟨rfl, Mem.of_get i⟩
   refine .nil (b5 _ _ ?_)
   refine .ret ?_
   refine a0 _ _ ?_
   refine ⟨_, _, _, _, rfl, ag_27_D, (by rfl), (Mem.of_get i), ?_⟩
   exact ⟨f, c1, _, rfl, a4.small (by omega), a1.kin.keep (.of_le (.refl _)) (by omega)⟩
  try simp only [sps] at h8
  refine .skip ?_
  refine c3 _ _ (.seq (fun K6 b4 => .region (.mv rfl ?_)))
  refine .call rfl rfl rfl rfl @Try.call33 rfl (l02Draw_c) ?_
  rintro _ b2 ⟨b9, c4, rfl, a3, a2, x, hs⟩
  have nx_H15 := x.nx
  replace f := f.st x (fun k hk => ⟨by omega, trivial⟩)
  replace r := x.s r d.ne
  replace hb := c.mono f
  have w := a2
  have g : Keep H7.next b2 b2 := fun _ _ _ h => h
  refine .r0 rfl rfl (.fillA rfl sz_27_D rfl rfl rfl rfl) ?_
  rintro _ H4002 ⟨rfl, l, j⟩
  have nx_H4002 := l.nx
  replace f := f.st l (fun k hk => ⟨by omega, trivial⟩)
  replace g := Keep.st g l (fun k hb hk => ⟨(by omega), trivial⟩)
  replace a2 := w.keep g (Nat.le_refl _)
  have lt_at4002 := GHeap.ltg j
  replace hb := c.mono f
  have mm4002 : MemN _ _ _ _ _ := ⟨rfl, Mem.of_get j⟩
  refine .nil (b4 _ _ ?_)
  refine .ret ?_
  refine a0 _ _ ?_
  refine ⟨_, _, _, _, rfl, ag_27_D, (by rfl), (Mem.of_get j), ?_⟩
  exact ⟨f, b9, c4, rfl, a3, a2.keep (.of_le (.refl _)) (by omega)⟩
end Go.Proofs.Ytfanjkbaemhbmaa
