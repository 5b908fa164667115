/- Categories of the families. No condition but those of each statement. -/
import Derived.Test.YtjdedelneppnlaaZ11
namespace Go.Proofs.Ytjdedelneppnlaa
open Go Go.GL Go.RowKit Go.Proofs
set_option maxHeartbeats 8000000 in
theorem l02Family_c {gS : Nat} {H : GHeap} (hs : DSrc 120 H gS := by assumption) :
    GCalls Try.prog 138 [.pointer (some ⟨gS, 0, none⟩)] H (DrawnCat 120 128 gS H) := by
  have hlS := hs.lt
  refine GCalls.body (N := 141) (rs := [.cell 2 29]) Try.func138 rfl rfl rfl rfl (fun Qx u hend => ?_)
  refine .fg [0] rfl ?_
  have b := St.refl [gS] H
  refine .seq (fun K1 dF => .region ?_)
  refine .R rfl (.allocR rfl ze_29_Hj rfl) ?_
  rintro _ H2 ⟨g2, rfl, aJ, ge2, c⟩
  replace b := b.le aJ
  have lt_at2 := GHeap.ltg c
  refine .nil (dF _ _ (.seq (fun K2 bG => .seq (fun K3 cQ => .region (.mv rfl ?_)))))
  refine .call rfl rfl rfl rfl @Try.call70 rfl (l01Next_c (hs.le aJ)) ?_
  rintro _ cN ⟨k14, rfl, ka14, kb14, kc14, k3, hs⟩
  have nx_H14 := k3.nx
  replace b := b.sA k3
  have d : NE g2 gS := .a
  replace c := k3.s c d.ne
  refine .nil (cQ _ _ ?_)
  refine .block ?_
  refine .seq (fun K4 cK => .region (.q rfl (.cmp rfl rfl rfl) (.mv rfl (.nil (cK _ _ ?_)))))
  refine .cond rfl (fun y9 => ?_) (fun y9 => ?_)
  ·
   try simp only [sps] at y9
   refine .seq (fun K5 cU => .region (.mv rfl (.mv rfl ?_)))
   refine .call rfl rfl rfl rfl @Try.call70 rfl (l01Next_c) ?_
   rintro _ H19 ⟨aR, rfl, ka19, kb19, kc19, n4, hs⟩
   have nx_H19 := n4.nx
   replace b := b.sA n4
   replace c := n4.s c d.ne
   obtain ⟨n, rfl⟩ : ∃ n : Nat, aR = (n : Int) := ⟨aR.toNat, by omega⟩
   have hn5 : n < 5 := by omega
   refine .call rfl rfl rfl rfl @Try.call72 rfl (l02Relation_c (n := n) (hn := by omega)) ?_
   rintro _ cL ⟨a20, T20, r20, rfl, bF, nT20, x4, k5, hs⟩
   have nx_H20 := k5.nx
   replace b := b.sA k5
   replace c := k5.s c d.ne
   refine .call rfl rfl rfl rfl @Try.call71 rfl (l03Poset_c (hin := bF.intss) (hn := by omega) (hr := x4)) ?_
   rintro _ aX ⟨cS, x3, m2, ga21, gb21, gc21, gd21, rr21, rfl, dH⟩
   have q1 := dH.catR
   replace b := b.le m2
   replace hs := hs.le m2
   replace c := m2.2 _ _ c
   have l8 := q1
   have c3 : Keep cL.next aX aX := fun _ _ _ h => h
   refine .r0 rfl rfl (.fillA rfl sz_29_D rfl rfl rfl rfl) ?_
   rintro _ H3005 ⟨rfl, c8, j5⟩
   replace b := b.sA c8
   replace hs := hs.sA c8
   replace c3 := Keep.st c3 c8 (fun k hb hk => ⟨(by omega), trivial⟩)
   replace q1 := l8.keep c3 (Nat.le_refl _)
   refine .nil (cU _ _ ?_)
   refine .ret ?_
   refine u _ _ ?_
   refine ⟨_, _, _, _, rfl, ag_29_D, (by rfl), (Mem.of_get j5), ?_⟩
   exact ⟨cS, _, rfl, x3.mono (by omega), q1.keep (.of_le (.refl _)) (by omega), b, hs⟩
  try simp only [sps] at y9
  refine .seq (fun K6 cB => .region (.q rfl (.cmp rfl rfl rfl) (.mv rfl (.nil (cB _ _ ?_)))))
  refine .cond rfl (fun s9 => ?_) (fun s9 => ?_)
  ·
   try simp only [sps] at s9
   refine .seq (fun K7 cE => .region ?_)
   refine .R rfl (.litA rfl sl_22_A ze_2_L rfl rfl rfl rfl) ?_
   rintro _ H24 ⟨bR, rfl, m3, ge24, d6⟩
   replace b := b.le m3
   replace hs := hs.le m3
   replace c := m3.2 _ _ c
   have lt_at24 := GHeap.ltg d6
   refine .R rfl (.litA rfl sl_22_A ze_2_L rfl rfl rfl rfl) ?_
   rintro _ H25 ⟨dG, rfl, f9, ge25, h6⟩
   replace b := b.le f9
   replace hs := hs.le f9
   replace c := f9.2 _ _ c
   replace d6 := f9.2 _ _ d6
   have lt_at25 := GHeap.ltg h6
   refine .R rfl (.litA rfl sl_23_B ze_22_Hj rfl rfl rfl rfl) ?_
   rintro _ cR ⟨g26, rfl, f2, ge26, p5⟩
   replace b := b.le f2
   replace hs := hs.le f2
   replace c := f2.2 _ _ c
   replace d6 := f2.2 _ _ d6
   replace h6 := f2.2 _ _ h6
   have lt_at26 := GHeap.ltg p5
   refine .call rfl rfl rfl rfl @Try.call71 rfl ((by have hh := l03Poset_c (rel := [[1, 1], [0, 1]]) (hin := ((lit_own (gs := [bR, dG]) (by simp only [LitAt]; exact ⟨⟨Nat.zero_le _, d6⟩, ⟨Nat.zero_le _, h6⟩, trivial⟩) (by simp <;> omega)).done (by exact p5) (Nat.zero_le _)).intss) (hn := by decide) (hr := by decide); exact hh)) ?_
   rintro _ aF ⟨cT, aA, l9, ga27, gb27, gc27, gd27, rr27, rfl, cY⟩
   have v9 := cY.catR
   replace b := b.le l9
   replace hs := hs.le l9
   replace c := l9.2 _ _ c
   have k6 := v9
   have c5 : Keep cR.next aF aF := fun _ _ _ h => h
   refine .r0 rfl rfl (.fillA rfl sz_29_D rfl rfl rfl rfl) ?_
   rintro _ H5004 ⟨rfl, c0, l1⟩
   replace b := b.sA c0
   replace hs := hs.sA c0
   replace c5 := Keep.st c5 c0 (fun k hb hk => ⟨(by omega), trivial⟩)
   replace v9 := k6.keep c5 (Nat.le_refl _)
   refine .nil (cE _ _ ?_)
   refine .ret ?_
   refine u _ _ ?_
   refine ⟨_, _, _, _, rfl, ag_29_D, (by rfl), (Mem.of_get l1), ?_⟩
   exact ⟨cT, _, rfl, aA.mono (by decide), v9.keep (.of_le (.refl _)) (by omega), b, hs⟩
  try simp only [sps] at s9
  refine .seq (fun K8 cC => .region (.q rfl (.cmp rfl rfl rfl) (.mv rfl (.nil (cC _ _ ?_)))))
  refine .cond rfl (fun z3 => ?_) (fun z3 => ?_)
  ·
   try simp only [sps] at z3
   refine .seq (fun K9 bL => .region ?_)
   refine .R rfl (.litA rfl sl_22_A ze_2_L rfl rfl rfl rfl) ?_
   rintro _ H30 ⟨cH, rfl, m0, ge30, b5⟩
   replace b := b.le m0
   replace hs := hs.le m0
   replace c := m0.2 _ _ c
   have lt_at30 := GHeap.ltg b5
   refine .R rfl (.litA rfl sl_22_A ze_2_L rfl rfl rfl rfl) ?_
   rintro _ H31 ⟨bW, rfl, i4, ge31, d8⟩
   replace b := b.le i4
   replace hs := hs.le i4
   replace c := i4.2 _ _ c
   replace b5 := i4.2 _ _ b5
   have lt_at31 := GHeap.ltg d8
   refine .R rfl (.litA rfl sl_22_A ze_2_L rfl rfl rfl rfl) ?_
   rintro _ H32 ⟨bX, rfl, f0, ge32, h2⟩
   replace b := b.le f0
   replace hs := hs.le f0
   replace c := f0.2 _ _ c
   replace b5 := f0.2 _ _ b5
   replace d8 := f0.2 _ _ d8
   have lt_at32 := GHeap.ltg h2
   refine .R rfl (.litA rfl sl_23_B ze_22_Hj rfl rfl rfl rfl) ?_
   rintro _ cO ⟨g33, rfl, d7, ge33, n9⟩
   replace b := b.le d7
   replace hs := hs.le d7
   replace c := d7.2 _ _ c
   replace b5 := d7.2 _ _ b5
   replace d8 := d7.2 _ _ d8
   replace h2 := d7.2 _ _ h2
   have lt_at33 := GHeap.ltg n9
   refine .call rfl rfl rfl rfl @Try.call71 rfl ((by have hh := l03Poset_c (rel := [[1, 1, 1], [0, 1, 0], [0, 0, 1]]) (hin := ((lit_own (gs := [cH, bW, bX]) (by simp only [LitAt]; exact ⟨⟨Nat.zero_le _, b5⟩, ⟨Nat.zero_le _, d8⟩, ⟨Nat.zero_le _, h2⟩, trivial⟩) (by simp <;> omega)).done (by exact n9) (Nat.zero_le _)).intss) (hn := by decide) (hr := by decide); exact hh)) ?_
   rintro _ aZ ⟨bY, z8, j7, ga34, gb34, gc34, gd34, rr34, rfl, bO⟩
   have z0 := bO.catR
   replace b := b.le j7
   replace hs := hs.le j7
   replace c := j7.2 _ _ c
   have j8 := z0
   have d0 : Keep cO.next aZ aZ := fun _ _ _ h => h
   refine .r0 rfl rfl (.fillA rfl sz_29_D rfl rfl rfl rfl) ?_
   rintro _ H7005 ⟨rfl, c6, k0⟩
   replace b := b.sA c6
   replace hs := hs.sA c6
   replace d0 := Keep.st d0 c6 (fun k hb hk => ⟨(by omega), trivial⟩)
   replace z0 := j8.keep d0 (Nat.le_refl _)
   refine .nil (bL _ _ ?_)
   refine .ret ?_
   refine u _ _ ?_
   refine ⟨_, _, _, _, rfl, ag_29_D, (by rfl), (Mem.of_get k0), ?_⟩
   exact ⟨bY, _, rfl, z8.mono (by decide), z0.keep (.of_le (.refl _)) (by omega), b, hs⟩
  try simp only [sps] at z3
  refine .seq (fun K10 r4 => .region (.q rfl (.cmp rfl rfl rfl) (.mv rfl (.nil (r4 _ _ ?_)))))
  refine .cond rfl (fun v1 => ?_) (fun v1 => ?_)
  ·
   try simp only [sps] at v1
   refine .seq (fun K11 u2 => .region ?_)
   refine .R rfl (.litA rfl sl_22_A ze_2_L rfl rfl rfl rfl) ?_
   rintro _ H37 ⟨g37, rfl, l4, ge37, f4⟩
   replace b := b.le l4
   replace hs := hs.le l4
   replace c := l4.2 _ _ c
   have lt_at37 := GHeap.ltg f4
   refine .R rfl (.litA rfl sl_22_A ze_2_L rfl rfl rfl rfl) ?_
   rintro _ bK ⟨g38, rfl, h4, ge38, o8⟩
   replace b := b.le h4
   replace hs := hs.le h4
   replace c := h4.2 _ _ c
   replace f4 := h4.2 _ _ f4
   have lt_at38 := GHeap.ltg o8
   refine .call rfl rfl rfl rfl @Try.call147 rfl ((by have hh := l03Paths_c (n := 2) (xs := [0, 0]) (ys := [1, 1]) (ha := Ints.of_get f4) (hb := Ints.of_get o8) (hl := rfl) (hx := by decide) (hn := by decide) (hy := by unfold Bd; decide) (hup := by decide); exact hh)) ?_
   rintro _ aT ⟨bT, t6, l3, ga39, gb39, gc39, gd39, rr39, rfl, dE⟩
   have w2 := dE.catR
   replace b := b.le l3
   replace hs := hs.le l3
   replace c := l3.2 _ _ c
   have n1 := w2
   have c4 : Keep bK.next aT aT := fun _ _ _ h => h
   refine .r0 rfl rfl (.fillA rfl sz_29_D rfl rfl rfl rfl) ?_
   rintro _ H9003 ⟨rfl, b8, k8⟩
   replace b := b.sA b8
   replace hs := hs.sA b8
   replace c4 := Keep.st c4 b8 (fun k hb hk => ⟨(by omega), trivial⟩)
   replace w2 := n1.keep c4 (Nat.le_refl _)
   refine .nil (u2 _ _ ?_)
   refine .ret ?_
   refine u _ _ ?_
   refine ⟨_, _, _, _, rfl, ag_29_D, (by rfl), (Mem.of_get k8), ?_⟩
   exact ⟨bT, _, rfl, t6.mono (by omega), w2.keep (.of_le (.refl _)) (by omega), b, hs⟩
  try simp only [sps] at v1
  refine .seq (fun K12 t7 => .region (.q rfl (.cmp rfl rfl rfl) (.mv rfl (.nil (t7 _ _ ?_)))))
  refine .cond rfl (fun w4 => ?_) (fun w4 => ?_)
  ·
   try simp only [sps] at w4
   refine .seq (fun K13 q8 => .region (.mv rfl ?_))
   refine .call rfl rfl rfl rfl @Try.call149 rfl (l02Monoid_c) ?_
   rintro _ bM ⟨a43, T43, r43, rfl, cM, u8, q2, i9, hs⟩
   have nx_H43 := i9.nx
   replace b := b.sA i9
   replace c := i9.s c d.ne
   refine .call rfl rfl rfl rfl @Try.call148 rfl (l03Monoid_c (hin := cM.intss) (hn := u8) (ht := q2)) ?_
   rintro _ aO ⟨bA, w9, l7, ga44, gb44, gc44, gd44, rr44, rfl, dC⟩
   have w3 := dC.catR
   replace b := b.le l7
   replace hs := hs.le l7
   replace c := l7.2 _ _ c
   have j0 := w3
   have c9 : Keep bM.next aO aO := fun _ _ _ h => h
   refine .r0 rfl rfl (.fillA rfl sz_29_D rfl rfl rfl rfl) ?_
   rintro _ H11003 ⟨rfl, b2, h0⟩
   replace b := b.sA b2
   replace hs := hs.sA b2
   replace c9 := Keep.st c9 b2 (fun k hb hk => ⟨(by omega), trivial⟩)
   replace w3 := j0.keep c9 (Nat.le_refl _)
   refine .nil (q8 _ _ ?_)
   refine .ret ?_
   refine u _ _ ?_
   refine ⟨_, _, _, _, rfl, ag_29_D, (by rfl), (Mem.of_get h0), ?_⟩
   exact ⟨bA, _, rfl, w9.mono (by omega), w3.keep (.of_le (.refl _)) (by omega), b, hs⟩
  try simp only [sps] at w4
  refine .seq (fun K14 x0 => .region (.q rfl (.cmp rfl rfl rfl) (.mv rfl (.nil (x0 _ _ ?_)))))
  refine .cond rfl (fun y0 => ?_) (fun y0 => ?_)
  ·
   try simp only [sps] at y0
   refine .seq (fun K15 r7 => .region (.mv rfl ?_))
   refine .call rfl rfl rfl rfl @Try.call70 rfl (l01Next_c) ?_
   rintro _ H48 ⟨aK, rfl, ka48, kb48, kc48, l0, hs⟩
   have nx_H48 := l0.nx
   replace b := b.sA l0
   replace c := l0.s c d.ne
   obtain ⟨n, hn⟩ : ∃ n : Nat, (n : Int) = 1 + aK := ⟨(1 + aK).toNat, by omega⟩
   refine .q rfl (.add (r := (n : Int)) rfl rfl (by omega) (by omega) (by omega)) ?_
   refine .mv rfl (.nil (r7 _ _ (.seq (fun K16 x5 => .region ?_))))
   refine .R rfl (.litA rfl sl_23_B ze_22_Hj rfl rfl rfl rfl) ?_
   rintro _ aH ⟨aU, rfl, j4, ge50, x7⟩
   replace b := b.le j4
   replace hs := hs.le j4
   replace c := j4.2 _ _ c
   have lt_at50 := GHeap.ltg x7
   refine .mv rfl (.nil (x5 _ _ (.seq (fun K17 r9 => .seq (fun K18 r8 => .region (.mv rfl (.nil (r8 _ _ ?_))))))))
   refine .block ?_
   refine .loopR (σ := Nat × (Nat → Option Addr) × List (List Int) × Nat × Nat) [(2, some _), (3, some _)] (fun (i, rr, T, h5, i2) => [(5, some (.int .i64 (i : Int))), (4, some (.slice (some ⟨h5, 0, none⟩) i2 i2))]) (fun (i, rr, T, h5, i2) H' => St [aU] aH H' ∧ H'.get h5 = some (.row ((slsL rr T)) 22 true) ∧ PL h5 aU aH.next ∧ i2 = (slsL rr T).length ∧ (i ≤ n ∧ T.length = i) ∧ Tb 0 1 n T ∧ OwnL H.next H' 2 rr T) (fun (i, rr, T, h5, i2) => n - i) ((0, fun _ => none, [], _, _)) ⟨rfl, rfl, trivial⟩ ⟨rfl, rfl, trivial⟩ ?_ ?_
   ·
    refine ⟨.refl _ _, by assumption, ⟨.inl rfl⟩, by rfl, ?_⟩
    exact ⟨⟨by omega, rfl⟩, .nil _ _ _, .nil _ _ _ _⟩
   rintro ⟨i, rr, T, h5, i2⟩ HL1 ⟨t, p, p3, ln_L4, hI⟩ KL1 z2
   refine .forget (fr' := [(5, some (.int .i64 (i : Int))), (4, some (.slice (some ⟨h5, 0, none⟩) i2 i2)), (2, some _), (3, some _)]) ⟨rfl, rfl, rfl, rfl, trivial⟩ ?_
   have nx_HL1 := t.nx
   replace b := b.sA t
   replace hs := hs.sA t
   replace c := t.s c
   have lt_at_L4 := GHeap.ltg p
   have rk := St.refl [h5] HL1
   obtain ⟨⟨hi, hTl⟩, hT, hR⟩ := hI
   have u9 := p
   have hfl : (slsL rr T).length = T.length := length_slsL _ _
   refine .seq (fun K19 y2 => .seq (fun K20 u1 => .region (.mv rfl (.mv rfl (.q rfl (.cmp rfl rfl rfl) (.nil (u1 _ _ ?_)))))))
   refine .cond rfl (fun q5 => ?_) (fun q5 => ?_)
   ·
    simp only [sps] at q5
    refine .skip ?_
    refine y2 _ _ (.seq (fun K21 y4 => ?_))
    refine .block ?_
    refine .seq (fun K22 v0 => .region ?_)
    refine .R rfl (.litA rfl sl_22_A ze_2_L rfl rfl rfl rfl) ?_
    rintro _ s8 ⟨q0, rfl, g6, ge56, l2⟩
    have nx_H56 := g6.1
    replace t := t.le g6
    replace rk := rk.le g6
    replace p := g6.2 _ _ p
    have lt_at56 := GHeap.ltg l2
    replace l2 : GHeap.get s8 q0 = some (.row (ints []) 2 true) := l2
    refine .mv rfl (.nil (v0 _ _ (.seq (fun K23 y5 => .seq (fun K24 v3 => .region (.mv rfl (.nil (v3 _ _ ?_))))))))
    refine .block ?_
    refine .loopR (σ := Nat × List Int × Nat × Nat) [(2, some _), (3, some _), (4, some _), (5, some _)] (fun (j, row, i6, i5) => [(7, some (.int .i64 (j : Int))), (6, some (.slice (some ⟨i6, 0, none⟩) i5 i5))]) (fun (j, row, i6, i5) H' => St [q0] s8 H' ∧ H'.get i6 = some (.row (ints row) 2 true) ∧ PL i6 q0 s8.next ∧ i5 = row.length ∧ (j ≤ n ∧ row.length = j) ∧ Bd 0 1 row) (fun (j, row, i6, i5) => n - j) ((0, [], _, _)) ⟨rfl, rfl, rfl, rfl, trivial⟩ ⟨rfl, rfl, trivial⟩ ?_ ?_
    ·
     refine ⟨.refl _ _, by assumption, ⟨.inl rfl⟩, by rfl, ?_⟩
     exact ⟨⟨by omega, rfl⟩, .nil _ _⟩
    rintro ⟨j, row, i6, i5⟩ HL2 ⟨a1, a0, e4, p8, hI⟩ KL2 s0
    refine .forget (fr' := [(7, some (.int .i64 (j : Int))), (6, some (.slice (some ⟨i6, 0, none⟩) i5 i5)), (2, some _), (3, some _), (4, some _), (5, some _)]) ⟨rfl, rfl, rfl, rfl, rfl, rfl, trivial⟩ ?_
    have nx_HL2 := a1.nx
    replace t := t.sA a1
    replace rk := rk.sA a1
    have w : NE h5 q0 := .a
    replace p := a1.s p w.ne
    obtain ⟨⟨hj, hrl⟩, hW⟩ := hI
    refine .seq (fun K25 z4 => .seq (fun K26 v2 => .region (.mv rfl (.mv rfl (.q rfl (.cmp rfl rfl rfl) (.nil (v2 _ _ ?_)))))))
    refine .cond rfl (fun t9 => ?_) (fun t9 => ?_)
    ·
     simp only [sps] at t9
     refine .skip ?_
     refine z4 _ _ (.seq (fun K27 s1 => ?_))
     refine .block ?_
     refine .region (.mv rfl ?_)
     refine .R rfl (.litA rfl sl_22_A ze_2_L rfl rfl rfl rfl) ?_
     rintro _ H63 ⟨g63, rfl, p1, ge63, q3⟩
     replace a1 := a1.le p1
     replace a0 := p1.2 _ _ a0
     have lt_at63 := GHeap.ltg q3
     refine .R rfl (.appendI rfl sl_22_A ze_2_L rfl by_2_L sl_22_A rfl rfl (by assumption) (by assumption) (by first | omega | (simp <;> omega)) (by omega) (by omega)) ?_
     rintro _ H64 ⟨g64, rfl, t0, ge64, at64⟩
     replace a1 := a1.sP t0
     refine .mv rfl (.nil (s1 _ _ (.region (.mv rfl ?_))))
     refine .q rfl (.add rfl rfl rfl (by omega) (by omega)) ?_
     refine .mv rfl (.nil ?_)
     refine s0 ((j + 1, row ++ [1], _, _)) _ _ ?_ ?_ ⟨rfl, rfl, rfl, rfl, rfl, rfl, trivial⟩
     ·
      refine ⟨a1, by assumption, by exact ⟨.inr (by omega)⟩, by (simp only [List.length_append, List.length_cons, List.length_nil] <;> omega), ?_⟩
      exact ⟨⟨by omega, by simp; omega⟩, hW.snoc (by omega) (by omega)⟩
     (dsimp only; omega)
    try simp only [sps] at t9
    refine .exit ?_
    refine y5 _ _ (.region ?_)
    obtain rfl : j = n := by omega
    obtain rfl := p8
    refine .mv rfl (.mv rfl ?_)
    refine .R rfl (.litA rfl sl_23_B ze_22_Hj rfl rfl rfl rfl) ?_
    rintro _ H67 ⟨g67, rfl, g4, ge67, q6⟩
    replace t := t.le g4
    replace rk := rk.le g4
    replace p := g4.2 _ _ p
    replace a0 := g4.2 _ _ a0
    have lt_at67 := GHeap.ltg q6
    refine .R rfl (.appendV rfl sl_23_B ze_22_Hj rfl by_22_Hj sl_23_B rfl rfl (by assumption) (by assumption) (by first | omega | (simp <;> omega)) rfl rfl (by omega) (by omega)) ?_
    rintro _ H68 ⟨g68, rfl, k2, ge68, at68⟩
    replace t := t.sP k2
    replace rk := rk.sP k2
    replace a0 := k2.same _ _ ⟨(Ne.symm (e4.ne w.ne (by omega))), trivial⟩ a0
    refine .mv rfl (.nil (y4 _ _ (.region (.mv rfl ?_))))
    refine .q rfl (.add rfl rfl rfl (by omega) (by omega)) ?_
    refine .mv rfl (.nil ?_)
    refine z2 ((i + 1, upd rr T.length (some ⟨i6, 0, none⟩), T ++ [row], _, _)) _ _ ?_ ?_ ⟨rfl, rfl, rfl, rfl, trivial⟩
    ·
     refine ⟨t, by (rw [slsL_snoc]; assumption), by exact ⟨.inr (by omega)⟩, by (rw [slsL_snoc] <;> (first | omega | (simp only [List.length_append, List.length_cons, List.length_nil] <;> omega))), ?_⟩
     have hR' := hR.st rk (.cons (hR.neT u9 rfl) (.nil _ _))
     exact ⟨⟨by omega, by simp; omega⟩, hT.snoc (by omega) hW, hR'.snoc2 (by assumption) (hR.ne (e4.ge (by omega) (by omega))) (e4.ge (by omega) (by omega))⟩
    (dsimp only; omega)
   try simp only [sps] at q5
   refine .exit ?_
   refine r9 _ _ (.seq (fun K28 x8 => .region ?_))
   obtain rfl : i2 = T.length := by omega
   refine .mv rfl ?_
   refine .call rfl rfl rfl rfl @Try.call71 rfl (l03Poset_c (hin := (hR.done p (p3.ge (by omega) (by omega))).intss) (hn := by omega) (hr := fun i hi => by rw [(hT i hi).1]; omega)) ?_
   rintro _ aL ⟨cF, s7, j1, ga70, gb70, gc70, gd70, rr70, rfl, cX⟩
   have z9 := cX.catR
   replace b := b.le j1
   replace hs := hs.le j1
   replace c := j1.2 _ _ c
   have k4 := z9
   have c2 : Keep HL1.next aL aL := fun _ _ _ h => h
   refine .r0 rfl rfl (.fillA rfl sz_29_D rfl rfl rfl rfl) ?_
   rintro _ H24002 ⟨rfl, a7, i1⟩
   replace b := b.sA a7
   replace hs := hs.sA a7
   replace c2 := Keep.st c2 a7 (fun k hb hk => ⟨(by omega), trivial⟩)
   replace z9 := k4.keep c2 (Nat.le_refl _)
   refine .nil (x8 _ _ ?_)
   refine .ret ?_
   refine u _ _ ?_
   refine ⟨_, _, _, _, rfl, ag_29_D, (by rfl), (Mem.of_get i1), ?_⟩
   exact ⟨cF, _, rfl, s7.mono (by omega), z9.keep (.of_le (.refl _)) (by omega), b, hs⟩
  try simp only [sps] at y0
  refine .seq (fun K29 u4 => .region (.q rfl (.cmp rfl rfl rfl) (.mv rfl (.nil (u4 _ _ ?_)))))
  refine .cond rfl (fun t2 => ?_) (fun t2 => ?_)
  ·
   try simp only [sps] at t2
   refine .seq (fun K30 w8 => .region ?_)
   refine .R rfl (.litA rfl sl_22_A ze_2_L rfl rfl rfl rfl) ?_
   rintro _ H73 ⟨g73, rfl, l6, ge73, i3⟩
   replace b := b.le l6
   replace hs := hs.le l6
   replace c := l6.2 _ _ c
   have lt_at73 := GHeap.ltg i3
   refine .R rfl (.litA rfl sl_22_A ze_2_L rfl rfl rfl rfl) ?_
   rintro _ cA ⟨g74, rfl, g8, ge74, n7⟩
   replace b := b.le g8
   replace hs := hs.le g8
   replace c := g8.2 _ _ c
   replace i3 := g8.2 _ _ i3
   have lt_at74 := GHeap.ltg n7
   refine .call rfl rfl rfl rfl @Try.call147 rfl ((by have hh := l03Paths_c (n := 3) (xs := [0, 1, 0]) (ys := [1, 2, 2]) (ha := Ints.of_get i3) (hb := Ints.of_get n7) (hl := rfl) (hx := by decide) (hn := by decide) (hy := by unfold Bd; decide) (hup := by decide); exact hh)) ?_
   rintro _ aE ⟨bV, z1, m6, ga75, gb75, gc75, gd75, rr75, rfl, bP⟩
   have aC := bP.catR
   replace b := b.le m6
   replace hs := hs.le m6
   replace c := m6.2 _ _ c
   have n0 := aC
   have b7 : Keep cA.next aE aE := fun _ _ _ h => h
   refine .r0 rfl rfl (.fillA rfl sz_29_D rfl rfl rfl rfl) ?_
   rintro _ H26003 ⟨rfl, a9, g7⟩
   replace b := b.sA a9
   replace hs := hs.sA a9
   replace b7 := Keep.st b7 a9 (fun k hb hk => ⟨(by omega), trivial⟩)
   replace aC := n0.keep b7 (Nat.le_refl _)
   refine .nil (w8 _ _ ?_)
   refine .ret ?_
   refine u _ _ ?_
   refine ⟨_, _, _, _, rfl, ag_29_D, (by rfl), (Mem.of_get g7), ?_⟩
   exact ⟨bV, _, rfl, z1.mono (by omega), aC.keep (.of_le (.refl _)) (by omega), b, hs⟩
  try simp only [sps] at t2
  refine .seq (fun K31 u7 => .region (.q rfl (.cmp rfl rfl rfl) (.mv rfl (.nil (u7 _ _ ?_)))))
  refine .cond rfl (fun aB => ?_) (fun aB => ?_)
  ·
   try simp only [sps] at aB
   refine .seq (fun K32 y6 => .region ?_)
   refine .call rfl rfl rfl rfl @Try.call131 rfl (l02Split_c) ?_
   rintro _ aM ⟨bI, u6, m8, ga78, gb78, gc78, gd78, rr78, rfl, cG⟩
   have v6 := cG.catR
   replace b := b.le m8
   replace hs := hs.le m8
   replace c := m8.2 _ _ c
   have n5 := v6
   have b9 : Keep cN.next aM aM := fun _ _ _ h => h
   refine .r0 rfl rfl (.fillA rfl sz_29_D rfl rfl rfl rfl) ?_
   rintro _ H28001 ⟨rfl, a3, h7⟩
   replace b := b.sA a3
   replace hs := hs.sA a3
   replace b9 := Keep.st b9 a3 (fun k hb hk => ⟨(by omega), trivial⟩)
   replace v6 := n5.keep b9 (Nat.le_refl _)
   refine .nil (y6 _ _ ?_)
   refine .ret ?_
   refine u _ _ ?_
   refine ⟨_, _, _, _, rfl, ag_29_D, (by rfl), (Mem.of_get h7), ?_⟩
   exact ⟨bI, _, rfl, u6.mono (by omega), v6.keep (.of_le (.refl _)) (by omega), b, hs⟩
  try simp only [sps] at aB
  refine .seq (fun K33 x1 => .region (.q rfl (.cmp rfl rfl rfl) (.mv rfl (.nil (x1 _ _ ?_)))))
  refine .cond rfl (fun v4 => ?_) (fun v4 => ?_)
  ·
   try simp only [sps] at v4
   refine .seq (fun K34 y7 => .region (.mv rfl ?_))
   refine .call rfl rfl rfl rfl @Try.call149 rfl (l02Monoid_c) ?_
   rintro _ dA ⟨a82, T82, r82, rfl, dB, y1, u0, m1, hs⟩
   have nx_H82 := m1.nx
   replace b := b.sA m1
   replace c := m1.s c d.ne
   refine .call rfl rfl rfl rfl @Try.call148 rfl (l03Monoid_c (hin := dB.intss) (hn := y1) (ht := u0)) ?_
   rintro _ aG ⟨c83, x2, f5, ga83, gb83, gc83, gd83, rr83, rfl, cI⟩
   have u5 := cI.catR
   have nx_H83 := f5.1
   replace b := b.le f5
   replace hs := hs.le f5
   replace c := f5.2 _ _ c
   have k7 := u5
   have l : Keep dA.next aG aG := fun _ _ _ h => h
   refine .R rfl (.litA rfl sl_22_A ze_2_L rfl rfl rfl rfl) ?_
   rintro _ H84 ⟨bZ, rfl, g9, ge84, f7⟩
   replace b := b.le g9
   replace hs := hs.le g9
   replace c := g9.2 _ _ c
   replace l := Keep.le l g9
   have lt_at84 := GHeap.ltg f7
   refine .R rfl (.litA rfl sl_23_B ze_22_Hj rfl rfl rfl rfl) ?_
   rintro _ H85 ⟨g85, rfl, e6, ge85, o6⟩
   replace b := b.le e6
   replace hs := hs.le e6
   replace c := e6.2 _ _ c
   replace f7 := e6.2 _ _ f7
   replace l := Keep.le l e6
   have lt_at85 := GHeap.ltg o6
   refine .call rfl rfl rfl rfl @Try.call71 rfl ((by have hh := l03Poset_c (rel := [[1]]) (hin := ((lit_own (gs := [bZ]) (by simp only [LitAt]; exact ⟨⟨Nat.zero_le _, f7⟩, trivial⟩) (by simp <;> omega)).done (by exact o6) (Nat.zero_le _)).intss) (hn := by decide) (hr := by decide); exact hh)) ?_
   rintro _ H86 ⟨c86, r1, e3, ga86, gb86, gc86, gd86, rr86, rfl, bN⟩
   have bS := bN.catR
   have nx_H86 := e3.1
   replace b := b.le e3
   replace hs := hs.le e3
   replace c := e3.2 _ _ c
   replace l := Keep.le l e3
   replace u5 := k7.keep l (Nat.le_refl _)
   have aQ := u5.inn
   have aN := bS.inn
   refine .call rfl rfl rfl rfl @Try.call150 rfl (l03Join_c (hin := aQ) (hin1 := aN) (hc := x2) (hd := r1)) ?_
   rintro _ bQ ⟨bD, o9, g3, ga87, gb87, gc87, gd87, rr87, rfl, bC⟩
   have cJ := bC.catR
   have nx_H87 := g3.1
   replace b := b.le g3
   replace hs := hs.le g3
   replace c := g3.2 _ _ c
   clear aQ
   clear aN
   have aI := cJ.inn
   refine .call rfl rfl rfl rfl @Try.call43 rfl (l03Op_c (hin := aI) (hr := o9) (hN := by omega)) ?_
   rintro _ aY ⟨k9, ga88, gb88, gc88, gd88, rr88, rfl, cD⟩
   have s3 := cD.catR
   replace b := b.le k9
   replace hs := hs.le k9
   replace c := k9.2 _ _ c
   have i8 := s3
   have c7 : Keep bQ.next aY aY := fun _ _ _ h => h
   clear aI
   refine .r0 rfl rfl (.fillA rfl sz_29_D rfl rfl rfl rfl) ?_
   rintro _ H30008 ⟨rfl, a2, f8⟩
   replace b := b.sA a2
   replace hs := hs.sA a2
   replace c7 := Keep.st c7 a2 (fun k hb hk => ⟨(by omega), trivial⟩)
   replace s3 := i8.keep c7 (Nat.le_refl _)
   refine .nil (y7 _ _ ?_)
   refine .ret ?_
   refine u _ _ ?_
   refine ⟨_, _, _, _, rfl, ag_29_D, (by rfl), (Mem.of_get f8), ?_⟩
   exact ⟨bD.op, _, rfl, o9.op, s3.keep (.of_le (.refl _)) (by omega), b, hs⟩
  try simp only [sps] at v4
  refine .seq (fun K35 w0 => .region (.q rfl (.cmp rfl rfl rfl) (.mv rfl (.nil (w0 _ _ ?_)))))
  refine .cond rfl (fun w7 => ?_) (fun w7 => ?_)
  ·
   try simp only [sps] at w7
   refine .seq (fun K36 t5 => .region (.mv rfl ?_))
   refine .call rfl rfl rfl rfl @Try.call149 rfl (l02Monoid_c) ?_
   rintro _ bB ⟨a92, T92, r92, rfl, bE, r2, v7, n2, hs⟩
   have nx_H92 := n2.nx
   replace b := b.sA n2
   replace c := n2.s c d.ne
   refine .call rfl rfl rfl rfl @Try.call148 rfl (l03Monoid_c (hin := bE.intss) (hn := r2) (ht := v7)) ?_
   rintro _ aV ⟨c93, t1, f6, ga93, gb93, gc93, gd93, rr93, rfl, cW⟩
   have q7 := cW.catR
   have nx_H93 := f6.1
   replace b := b.le f6
   replace hs := hs.le f6
   replace c := f6.2 _ _ c
   have l5 := q7
   have o : Keep bB.next aV aV := fun _ _ _ h => h
   refine .R rfl (.litA rfl sl_22_A ze_2_L rfl rfl rfl rfl) ?_
   rintro _ H94 ⟨dD, rfl, h8, ge94, h9⟩
   replace b := b.le h8
   replace hs := hs.le h8
   replace c := h8.2 _ _ c
   replace o := Keep.le o h8
   have lt_at94 := GHeap.ltg h9
   refine .R rfl (.litA rfl sl_23_B ze_22_Hj rfl rfl rfl rfl) ?_
   rintro _ H95 ⟨g95, rfl, e7, ge95, o0⟩
   replace b := b.le e7
   replace hs := hs.le e7
   replace c := e7.2 _ _ c
   replace h9 := e7.2 _ _ h9
   replace o := Keep.le o e7
   have lt_at95 := GHeap.ltg o0
   refine .call rfl rfl rfl rfl @Try.call71 rfl ((by have hh := l03Poset_c (rel := [[1]]) (hin := ((lit_own (gs := [dD]) (by simp only [LitAt]; exact ⟨⟨Nat.zero_le _, h9⟩, trivial⟩) (by simp <;> omega)).done (by exact o0) (Nat.zero_le _)).intss) (hn := by decide) (hr := by decide); exact hh)) ?_
   rintro _ bH ⟨c96, s6, e9, ga96, gb96, gc96, gd96, rr96, rfl, cV⟩
   have cP := cV.catR
   have nx_H96 := e9.1
   replace b := b.le e9
   replace hs := hs.le e9
   replace c := e9.2 _ _ c
   replace o := Keep.le o e9
   replace q7 := l5.keep o (Nat.le_refl _)
   have aW := q7.inn
   have aS := cP.inn
   refine .call rfl rfl rfl rfl @Try.call150 rfl (l03Join_c (hin := aW) (hin1 := aS) (hc := t1) (hd := s6)) ?_
   rintro _ aP ⟨cZ, r6, n3, ga97, gb97, gc97, gd97, rr97, rfl, bJ⟩
   have z6 := bJ.catR
   replace b := b.le n3
   replace hs := hs.le n3
   replace c := n3.2 _ _ c
   have j2 := z6
   have c1 : Keep bH.next aP aP := fun _ _ _ h => h
   clear aW
   clear aS
   refine .r0 rfl rfl (.fillA rfl sz_29_D rfl rfl rfl rfl) ?_
   rintro _ H32007 ⟨rfl, a8, i0⟩
   replace b := b.sA a8
   replace hs := hs.sA a8
   replace c1 := Keep.st c1 a8 (fun k hb hk => ⟨(by omega), trivial⟩)
   replace z6 := j2.keep c1 (Nat.le_refl _)
   refine .nil (t5 _ _ ?_)
   refine .ret ?_
   refine u _ _ ?_
   refine ⟨_, _, _, _, rfl, ag_29_D, (by rfl), (Mem.of_get i0), ?_⟩
   exact ⟨cZ, _, rfl, r6, z6.keep (.of_le (.refl _)) (by omega), b, hs⟩
  try simp only [sps] at w7
  refine .seq (fun K37 x6 => .region (.q rfl (.cmp rfl rfl rfl) (.mv rfl (.nil (x6 _ _ ?_)))))
  refine .cond rfl (fun z5 => ?_) (fun z5 => ?_)
  ·
   try simp only [sps] at z5
   refine .seq (fun K38 aD => .region (.mv rfl (.mv rfl ?_)))
   refine .call rfl rfl rfl rfl @Try.call70 rfl (l01Next_c) ?_
   rintro _ H102 ⟨p4, rfl, ka102, kb102, kc102, d9, hs⟩
   have nx_H102 := d9.nx
   replace b := b.sA d9
   replace c := d9.s c d.ne
   obtain ⟨n, hn⟩ : ∃ n : Nat, (n : Int) = 2 + p4 := ⟨(2 + p4).toNat, by omega⟩
   refine .q rfl (.add (r := (n : Int)) rfl rfl (by omega) (by omega) (by omega)) ?_
   refine .call rfl rfl rfl rfl @Try.call72 rfl (l02Relation_c (n := n) (hn := by omega)) ?_
   rintro _ t4 ⟨a104, T104, r104, rfl, u3, nT104, o1, e8, hs⟩
   have nx_H104 := e8.nx
   replace b := b.sA e8
   replace c := e8.s c d.ne
   refine .call rfl rfl rfl rfl @Try.call71 rfl (l03Poset_c (hin := u3.intss) (hn := by omega) (hr := o1)) ?_
   rintro _ p2 ⟨v5, p6, e0, ga105, gb105, gc105, gd105, rr105, rfl, x9⟩
   have j3 := x9.catR
   replace b := b.le e0
   replace hs := hs.le e0
   replace c := e0.2 _ _ c
   have g1 := j3
   have a6 : Keep t4.next p2 p2 := fun _ _ _ h => h
   refine .r0 rfl rfl (.fillA rfl sz_29_D rfl rfl rfl rfl) ?_
   rintro _ H34006 ⟨rfl, b0, h1⟩
   replace b := b.sA b0
   replace hs := hs.sA b0
   replace a6 := Keep.st a6 b0 (fun k hb hk => ⟨(by omega), trivial⟩)
   replace j3 := g1.keep a6 (Nat.le_refl _)
   refine .nil (aD _ _ ?_)
   refine .ret ?_
   refine u _ _ ?_
   refine ⟨_, _, _, _, rfl, ag_29_D, (by rfl), (Mem.of_get h1), ?_⟩
   exact ⟨v5, _, rfl, p6.mono (by omega), j3.keep (.of_le (.refl _)) (by omega), b, hs⟩
  try simp only [sps] at z5
  refine .skip ?_
  refine bG _ _ (.seq (fun K39 w5 => .region (.mv rfl ?_)))
  refine .call rfl rfl rfl rfl @Try.call70 rfl (l01Next_c) ?_
  rintro _ H107 ⟨n8, rfl, ka107, kb107, kc107, f3, hs⟩
  have nx_H107 := f3.nx
  replace b := b.sA f3
  replace c := f3.s c d.ne
  obtain ⟨n, hn⟩ : ∃ n : Nat, (n : Int) = 2 + n8 := ⟨(2 + n8).toNat, by omega⟩
  refine .q rfl (.add (r := (n : Int)) rfl rfl (by omega) (by omega) (by omega)) ?_
  refine .mv rfl (.nil (w5 _ _ (.seq (fun K40 y8 => .region ?_))))
  refine .R rfl (.litA rfl sl_22_A ze_2_L rfl rfl rfl rfl) ?_
  rintro _ r5 ⟨m5, rfl, e2, ge109, v⟩
  replace b := b.le e2
  replace hs := hs.le e2
  replace c := e2.2 _ _ c
  have lt_at109 := GHeap.ltg v
  replace v : GHeap.get r5 m5 = some (.row (ints []) 2 true) := v
  refine .R rfl (.litA rfl sl_22_A ze_2_L rfl rfl rfl rfl) ?_
  rintro _ w6 ⟨m9, rfl, d5, ge110, b3⟩
  replace b := b.le d5
  replace hs := hs.le d5
  replace c := d5.2 _ _ c
  replace v := d5.2 _ _ v
  have lt_at110 := GHeap.ltg b3
  replace b3 : GHeap.get w6 m9 = some (.row (ints []) 2 true) := b3
  refine .mv rfl (.mv rfl (.nil (y8 _ _ (.seq (fun K41 t8 => .seq (fun K42 w1 => .region (.mv rfl ?_)))))))
  refine .call rfl rfl rfl rfl @Try.call70 rfl (l01Next_c) ?_
  rintro _ j9 ⟨p0, rfl, ka112, kb112, kc112, b4, hs⟩
  have nx_H112 := b4.nx
  replace b := b.sA b4
  replace c := b4.s c d.ne
  replace v := b4.s v
  replace b3 := b4.s b3
  obtain ⟨m, rfl⟩ : ∃ m : Nat, p0 = (m : Int) := ⟨p0.toNat, by omega⟩
  refine .mv rfl (.nil (w1 _ _ ?_))
  refine .block ?_
  refine .loopR (σ := Nat × List Int × List Int × Nat × Nat × Nat × Nat) [(0, some _), (2, some _), (8, some _)] (fun (k, xs, ys, g0, i7, z, b1) => [(11, some (.int .i64 (k : Int))), (9, some (.slice (some ⟨g0, 0, none⟩) i7 i7)), (10, some (.slice (some ⟨z, 0, none⟩) b1 b1))]) (fun (k, xs, ys, g0, i7, z, b1) H' => St [m5, m9, gS] j9 H' ∧ H'.get g0 = some (.row (ints xs) 2 true) ∧ PL g0 m5 j9.next ∧ i7 = xs.length ∧ H'.get z = some (.row (ints ys) 2 true) ∧ PL z m9 j9.next ∧ b1 = ys.length ∧ g0 ≠ z ∧ (k + xs.length ≤ 3 ∧ ys.length = xs.length) ∧ Bd 0 ((n : Int) - 1) ys ∧ (∀ e, e < xs.length → xs.getD e 0 < ys.getD e 0) ∧ DSrc 120 H' gS) (fun (k, xs, ys, g0, i7, z, b1) => k) ((m, [], [], _, _, _, _)) ⟨rfl, rfl, rfl, trivial⟩ ⟨rfl, rfl, rfl, trivial⟩ ?_ ?_
  ·
   refine ⟨.refl _ _, by assumption, ⟨.inl rfl⟩, by rfl, by assumption, ⟨.inl rfl⟩, by rfl, by omega, ?_⟩
   exact ⟨⟨by simp; omega, rfl⟩, .nil _ _, fun _ h => by simp at h, hs⟩
  rintro ⟨k, xs, ys, g0, i7, z, b1⟩ HL3 ⟨g, b6, o2, o5, f, j6, ln_L10, n6, hI⟩ KL3 s4
  refine .forget (fr' := [(11, some (.int .i64 (k : Int))), (9, some (.slice (some ⟨g0, 0, none⟩) i7 i7)), (10, some (.slice (some ⟨z, 0, none⟩) b1 b1)), (0, some _), (2, some _), (8, some _)]) ⟨rfl, rfl, rfl, rfl, rfl, rfl, trivial⟩ ?_
  have nx_HL3 := g.nx
  replace b := b.st g (fun k hk ho => by simp only [out, and_true] at ho ⊢ <;> exact ⟨by first | exact ho | exact ho.1 | exact ho.2 | exact ho.2.1 | exact ho.2.2 | exact ho.2.2.1 | exact ho.2.2.2 | omega, by first | exact ho | exact ho.1 | exact ho.2 | exact ho.2.1 | exact ho.2.2 | exact ho.2.2.1 | exact ho.2.2.2 | omega, by first | exact ho | exact ho.1 | exact ho.2 | exact ho.2.1 | exact ho.2.2 | exact ho.2.2.1 | exact ho.2.2.2 | omega⟩)
  replace c := g.same _ _ ⟨(by first | assumption | omega), (by first | assumption | omega), d.ne, trivial⟩ c
  have lt_at_L10 := GHeap.ltg f
  obtain ⟨⟨hk3, hyl⟩, hY, hU, hs⟩ := hI
  have ge9 : H.next ≤ g0 := o2.ge (by omega) (by omega)
  have ge10 : H.next ≤ z := j6.ge (by omega) (by omega)
  refine .seq (fun K43 s5 => .seq (fun K44 z7 => .region (.mv rfl (.q rfl (.cmp rfl rfl rfl) (.nil (z7 _ _ ?_))))))
  refine .cond rfl (fun m4 => ?_) (fun m4 => ?_)
  ·
   simp only [sps] at m4
   obtain ⟨k1, rfl⟩ : ∃ k1, k = k1 + 1 := ⟨k - 1, by omega⟩
   refine .skip ?_
   refine s5 _ _ (.seq (fun K45 y3 => ?_))
   refine .block ?_
   refine .seq (fun K46 r3 => .region (.mv rfl (.mv rfl ?_)))
   refine .q rfl (.sub rfl rfl rfl (by omega) (by omega)) ?_
   refine .call rfl rfl rfl rfl @Try.call70 rfl (l01Next_c) ?_
   rintro _ H120 ⟨o7, rfl, ka120, kb120, kc120, d2, hs⟩
   have nx_H120 := d2.nx
   replace g := g.sA d2
   replace b6 := d2.s b6
   have x : NE z gS := .a
   replace f := d2.s f x.ne
   refine .mv rfl (.nil (r3 _ _ (.seq (fun K47 v8 => .region (.mv rfl (.mv rfl ?_))))))
   refine .R rfl (.litA rfl sl_22_A ze_2_L rfl rfl rfl rfl) ?_
   rintro _ H123 ⟨g123, rfl, d4, ge123, p7⟩
   replace g := g.le d4
   replace hs := hs.le d4
   replace b6 := d4.2 _ _ b6
   replace f := d4.2 _ _ f
   have lt_at123 := GHeap.ltg p7
   refine .R rfl (.appendI rfl sl_22_A ze_2_L rfl by_2_L sl_22_A rfl rfl (by assumption) (by assumption) (by first | omega | (simp <;> omega)) (by omega) (by omega)) ?_
   rintro _ H124 ⟨g124, rfl, e1, ge124, y⟩
   replace g := g.sP e1
   replace hs := hs.sP e1
   replace f := e1.same _ _ ⟨(Ne.symm n6), trivial⟩ f
   have lt_at124 := GHeap.ltg y
   refine .mv rfl (.nil (v8 _ _ (.region (.mv rfl (.mv rfl ?_)))))
   refine .q rfl (.add rfl rfl rfl (by omega) (by omega)) ?_
   refine .mv rfl (.mv rfl ?_)
   refine .q rfl (.sub rfl rfl rfl (by omega) (by omega)) ?_
   refine .mv rfl ?_
   refine .q rfl (.sub rfl rfl rfl (by omega) (by omega)) ?_
   refine .call rfl rfl rfl rfl @Try.call70 rfl (l01Next_c) ?_
   rintro _ H133 ⟨s2, rfl, ka133, kb133, kc133, d1, hs⟩
   have nx_H133 := d1.nx
   replace g := g.sA d1
   replace f := d1.s f x.ne
   replace y := d1.s y
   refine .q rfl (.add rfl rfl rfl (by omega) (by omega)) ?_
   refine .R rfl (.litA rfl sl_22_A ze_2_L rfl rfl rfl rfl) ?_
   rintro _ H135 ⟨g135, rfl, d3, ge135, o3⟩
   replace g := g.le d3
   replace hs := hs.le d3
   replace f := d3.2 _ _ f
   replace y := d3.2 _ _ y
   have lt_at135 := GHeap.ltg o3
   refine .R rfl (.appendI rfl sl_22_A ze_2_L rfl by_2_L sl_22_A rfl rfl (by assumption) (by assumption) (by first | omega | (simp <;> omega)) (by omega) (by omega)) ?_
   rintro _ H136 ⟨g136, rfl, e5, ge136, at136⟩
   replace g := g.sP e5
   replace hs := hs.sP e5
   replace y := e5.s y
   refine .mv rfl (.nil (y3 _ _ (.region (.mv rfl ?_))))
   refine .q rfl (.sub (r := (k1 : Int)) rfl rfl (by omega) (by omega) (by omega)) ?_
   refine .mv rfl (.nil ?_)
   refine s4 ((k1, xs ++ [o7], ys ++ [o7 + 1 + s2], _, _, _, _)) _ _ ?_ ?_ ⟨rfl, rfl, rfl, rfl, rfl, rfl, trivial⟩
   ·
    refine ⟨g, by assumption, by exact ⟨.inr (by omega)⟩, by (simp only [List.length_append, List.length_cons, List.length_nil] <;> omega), by assumption, by exact ⟨.inr (by omega)⟩, by (simp only [List.length_append, List.length_cons, List.length_nil] <;> omega), by omega, ?_⟩
    exact ⟨⟨by simp; omega, by simp; omega⟩, hY.snoc (by omega) (by omega), up_snoc hyl hU (by omega), hs⟩
   (dsimp only; omega)
  try simp only [sps] at m4
  refine .exit ?_
  refine t8 _ _ (.seq (fun K48 q4 => .region ?_))
  obtain rfl := o5
  have bU : b1 = ys.length := by omega
  subst bU
  refine .mv rfl (.mv rfl (.mv rfl ?_))
  refine .call rfl rfl rfl rfl @Try.call147 rfl (l03Paths_c (ha := Ints.of_get b6) (hb := Ints.of_get f) (hl := hyl) (hx := by omega) (hn := by omega) (hy := hY) (hup := hU)) ?_
  rintro _ p9 ⟨t3, o4, f1, ga140, gb140, gc140, gd140, rr140, rfl, q9⟩
  have m7 := q9.catR
  replace b := b.le f1
  replace c := f1.2 _ _ c
  have g5 := m7
  have a5 : Keep HL3.next p9 p9 := fun _ _ _ h => h
  refine .r0 rfl rfl (.fillA rfl sz_29_D rfl rfl rfl rfl) ?_
  rintro _ H43004 ⟨rfl, a4, h3⟩
  replace b := b.sA a4
  replace a5 := Keep.st a5 a4 (fun k hb hk => ⟨(by omega), trivial⟩)
  replace m7 := g5.keep a5 (Nat.le_refl _)
  refine .nil (q4 _ _ ?_)
  refine .ret ?_
  refine u _ _ ?_
  refine ⟨_, _, _, _, rfl, ag_29_D, (by rfl), (Mem.of_get h3), ?_⟩
  exact ⟨t3, _, rfl, o4.mono (by omega), m7.keep (.of_le (.refl _)) (by omega), b, (hs.le f1).st a4 (fun k hk ho => ⟨by omega, trivial⟩)⟩
end Go.Proofs.Ytjdedelneppnlaa
namespace Go.Proofs.Ytjdedelneppnlaa
open Go Go.GL Go.RowKit Go.Proofs
set_option maxHeartbeats 8000000 in
theorem l03Product_c {c d : Cat} {p q : CatP} {H : GHeap} (hin : c.In H p := by assumption) (hin1 : d.In H q := by assumption) (hc : c.Rect 256) (hd : d.Rect 128) :
    GCalls Try.prog 140 [.agg (c.cells p).toArray, .agg (d.cells q).toArray] H (NewRc 2 22 33000 H) := by
  obtain ⟨a1, a2, a3, a4, a5, a6, a7, a8, a9, y2⟩ := id hc
  obtain ⟨b1, b2, b3, b4, b5, b6, b7, b8, b9, z5⟩ := id hd
  have m0 := mul_bd a1 b1
  refine GCalls.body (N := 174) (rs := [.cell 4 29]) Try.func140 rfl rfl rfl rfl (fun Qx v4 hend => ?_)
  refine .fg [0, 1] rfl ?_
  have l := GHeap.Le.refl H
  have i := hin
  have e := hin1
  refine .seq (fun K1 aG => .region ?_)
  refine .R rfl (.boxR rfl sz_29_D rfl) ?_
  rintro _ H2 ⟨g2, rfl, aL, ge2, m⟩
  replace l := l.trans aL
  have lt_at2 := GHeap.ltg m
  replace hin := i.mono l
  have t : Cat.At _ g2 0 c p := ⟨Mem.of_get m, hin⟩
  refine .R rfl (.boxR rfl sz_29_D rfl) ?_
  rintro _ H3 ⟨g3, rfl, x9, ge3, n⟩
  replace l := l.trans x9
  replace m := x9.2 _ _ m
  have lt_at3 := GHeap.ltg n
  replace hin := i.mono l
  replace hin1 := e.mono l
  clear t
  have t : Cat.At _ g2 0 c p := ⟨Mem.of_get m, hin⟩
  have u : Cat.At _ g3 0 d q := ⟨Mem.of_get n, hin1⟩
  refine .R rfl (.allocR rfl ze_29_Hj rfl) ?_
  rintro _ H4 ⟨g4, rfl, t3, ge4, l5⟩
  replace l := l.trans t3
  replace m := t3.2 _ _ m
  replace n := t3.2 _ _ n
  have lt_at4 := GHeap.ltg l5
  replace hin := i.mono l
  replace hin1 := e.mono l
  clear t
  have t : Cat.At _ g2 0 c p := ⟨Mem.of_get m, hin⟩
  obtain ⟨w7, -, -, -, -, -, -, -, -⟩ := t.get
  clear u
  have u : Cat.At _ g3 0 d q := ⟨Mem.of_get n, hin1⟩
  obtain ⟨y1, q6, -, -, -, -, -, -, -⟩ := u.get
  refine .nil (aG _ _ (.seq (fun K2 z4 => ?_)))
  refine .regionD mo_B (.q 0 (.q 1 (.q 2 (.q 3 (.q 4 (.q 5 (.q 6 (.done)))))))) (by kernel_rfl) ?_
  refine .q rfl (.fieldAddr fo_29_0_B rfl) ?_
  refine .q rfl (.load on_2_A rfl (by first | assumption | exact Mem.of_get n 0 _ rfl)) ?_
  refine .q rfl (.fieldAddr fo_29_1_B rfl) ?_
  refine .q rfl (.load on_22_B rfl (by first | assumption | exact Mem.of_get n 1 _ rfl)) ?_
  refine .q rfl (.len sl_22_A rfl) (.mv rfl rfl (.mv rfl rfl ?_))
  refine .done ?_
  refine z4 _ _ (.seq (fun K3 aF => .region (.q rfl (.fieldAddr fo_29_0_B rfl) ?_)))
  refine .q rfl (.load on_2_A rfl (by first | assumption | exact Mem.of_get m 0 _ rfl)) ?_
  refine .mv rfl ?_
  refine .q rfl (.mul rfl rfl rfl (by omega) (by omega)) ?_
  refine .R rfl (.litA rfl sl_22_A ze_2_L rfl rfl rfl rfl) ?_
  rintro _ aI ⟨n8, rfl, o6, ge25, e7⟩
  replace l := l.trans o6
  replace m := o6.2 _ _ m
  replace n := o6.2 _ _ n
  replace l5 := o6.2 _ _ l5
  have lt_at25 := GHeap.ltg e7
  replace hin := i.mono l
  replace hin1 := e.mono l
  clear t w7
  have t : Cat.At _ g2 0 c p := ⟨Mem.of_get m, hin⟩
  clear u y1 q6
  have u : Cat.At _ g3 0 d q := ⟨Mem.of_get n, hin1⟩
  replace e7 : GHeap.get aI n8 = some (.row (ints []) 2 true) := e7
  refine .R rfl (.litA rfl sl_22_A ze_2_L rfl rfl rfl rfl) ?_
  rintro _ aH ⟨n5, rfl, n7, ge26, f8⟩
  replace l := l.trans n7
  replace m := n7.2 _ _ m
  replace n := n7.2 _ _ n
  replace l5 := n7.2 _ _ l5
  replace e7 := n7.2 _ _ e7
  have lt_at26 := GHeap.ltg f8
  replace hin := i.mono l
  replace hin1 := e.mono l
  clear t
  have t : Cat.At _ g2 0 c p := ⟨Mem.of_get m, hin⟩
  clear u
  have u : Cat.At _ g3 0 d q := ⟨Mem.of_get n, hin1⟩
  replace f8 : GHeap.get aH n5 = some (.row (ints []) 2 true) := f8
  refine .R rfl (.litA rfl sl_22_A ze_2_L rfl rfl rfl rfl) ?_
  rintro _ z0 ⟨o0, rfl, m6, ge27, l0⟩
  replace l := l.trans m6
  replace m := m6.2 _ _ m
  replace n := m6.2 _ _ n
  replace l5 := m6.2 _ _ l5
  replace e7 := m6.2 _ _ e7
  replace f8 := m6.2 _ _ f8
  have lt_at27 := GHeap.ltg l0
  replace hin := i.mono l
  replace hin1 := e.mono l
  clear t
  have t : Cat.At _ g2 0 c p := ⟨Mem.of_get m, hin⟩
  clear u
  have u : Cat.At _ g3 0 d q := ⟨Mem.of_get n, hin1⟩
  replace l0 : GHeap.get z0 o0 = some (.row (ints []) 2 true) := l0
  refine .R rfl (.litA rfl sl_23_B ze_22_Hj rfl rfl rfl rfl) ?_
  rintro _ H28 ⟨n9, rfl, m3, ge28, l9⟩
  replace l := l.trans m3
  replace m := m3.2 _ _ m
  replace n := m3.2 _ _ n
  replace l5 := m3.2 _ _ l5
  replace e7 := m3.2 _ _ e7
  replace f8 := m3.2 _ _ f8
  replace l0 := m3.2 _ _ l0
  have lt_at28 := GHeap.ltg l9
  replace hin := i.mono l
  replace hin1 := e.mono l
  clear t
  have t : Cat.At _ g2 0 c p := ⟨Mem.of_get m, hin⟩
  clear u
  have u : Cat.At _ g3 0 d q := ⟨Mem.of_get n, hin1⟩
  refine .q rfl (.build bt_29_Hj rfl rfl rfl) ?_
  refine .R rfl (.allocR rfl ze_29_Hj rfl) ?_
  rintro _ H7 ⟨g7, rfl, o4, ge7, at7⟩
  have nx_H7 := o4.1
  replace l := l.trans o4
  replace m := o4.2 _ _ m
  replace n := o4.2 _ _ n
  replace l5 := o4.2 _ _ l5
  replace e7 := o4.2 _ _ e7
  replace f8 := o4.2 _ _ f8
  replace l0 := o4.2 _ _ l0
  replace l9 := o4.2 _ _ l9
  replace hin := i.mono l
  replace hin1 := e.mono l
  clear t
  have t : Cat.At _ g2 0 c p := ⟨Mem.of_get m, hin⟩
  clear u
  have u : Cat.At _ g3 0 d q := ⟨Mem.of_get n, hin1⟩
  refine .r0 rfl rfl (.fillA rfl sz_29_D rfl rfl rfl rfl) ?_
  rintro _ o9 ⟨rfl, e0, at2010⟩
  have nx_H2010 := e0.nx
  replace l := l.st e0 (fun k hk => ⟨by omega, trivial⟩)
  have b0 : NE g2 g7 := .a
  replace m := e0.s m b0.ne
  have c4 : NE g3 g7 := .a
  replace n := e0.s n c4.ne
  have h0 : NE g4 g7 := .a
  replace l5 := e0.s l5 h0.ne
  have k2 : NE n8 g7 := .a
  replace e7 := e0.s e7 k2.ne
  have k4 : NE n5 g7 := .a
  replace f8 := e0.s f8 k4.ne
  replace l0 := e0.s l0
  have j7 : NE n9 g7 := .a
  replace l9 := e0.s l9 j7.ne
  replace hin := i.mono l
  replace hin1 := e.mono l
  clear t
  have t : Cat.At _ g2 0 c p := ⟨Mem.of_get m, hin⟩
  clear u
  have u : Cat.At _ g3 0 d q := ⟨Mem.of_get n, hin1⟩
  refine .nil (aF _ _ (.seq (fun K4 y6 => .seq (fun K5 y4 => .region (.mv rfl (.nil (y4 _ _ ?_)))))))
  refine .block ?_
  refine .loopR (σ := Nat × List Int × Nat) [(2, some _), (3, some _), (4, some _), (5, some _), (6, some _), (7, some _)] (fun (x, is, gLI) => [(8, some (.int .i64 (x : Int)))]) (fun (x, is, gLI) H' => St [o0, g7] o9 H' ∧ H'.get gLI = some (.row (ints is) 2 true) ∧ PL gLI o0 o9.next ∧ H'.get g7 = some (.row ([.int .i64 (c.obj * d.obj), .slice (some ⟨n8, 0, none⟩) 0 0, .slice (some ⟨n5, 0, none⟩) 0 0, .slice (some ⟨gLI, 0, none⟩) is.length is.length, .slice (some ⟨n9, 0, none⟩) 0 0]) 29 true) ∧ gLI ≠ g7 ∧ ((x : Int) ≤ c.obj ∧ (is.length : Int) = (x : Int) * d.obj) ∧ Bd 0 33000 is) (fun (x, is, gLI) => (c.obj - x : Int).toNat) ((0, [], o0)) ⟨rfl, rfl, rfl, rfl, rfl, rfl, trivial⟩ ⟨rfl, trivial⟩ ?_ ?_
  ·
   refine ⟨.refl _ _, by assumption, ⟨.inl rfl⟩, by assumption, by omega, ?_⟩
   exact ⟨⟨by omega, by simp⟩, .nil _ _⟩
  rintro ⟨x, is, gLI⟩ HL1 ⟨h1, k7, e3, r, s5, hI⟩ KL1 v6
  refine .forget (fr' := [(8, some (.int .i64 (x : Int))), (2, some _), (3, some _), (4, some _), (5, some _), (6, some _), (7, some _)]) ⟨rfl, rfl, rfl, rfl, rfl, rfl, rfl, trivial⟩ ?_
  have ge_LI : H.next ≤ gLI := e3.ge (by omega) (by omega)
  have nx_HL1 := h1.nx
  replace l := l.st h1 (fun k hk => ⟨by omega, by omega, trivial⟩)
  have i8 : NE g2 o0 := .a
  replace m := h1.same _ _ ⟨i8.ne, b0.ne, trivial⟩ m
  have i3 : NE g3 o0 := .a
  replace n := h1.same _ _ ⟨i3.ne, c4.ne, trivial⟩ n
  have j1 : NE g4 o0 := .a
  replace l5 := h1.same _ _ ⟨j1.ne, h0.ne, trivial⟩ l5
  have i0 : NE n8 o0 := .a
  replace e7 := h1.same _ _ ⟨i0.ne, k2.ne, trivial⟩ e7
  have h8 : NE n5 o0 := .a
  replace f8 := h1.same _ _ ⟨h8.ne, k4.ne, trivial⟩ f8
  have h2 : NE n9 o0 := .a
  replace l9 := h1.same _ _ ⟨h2.ne, j7.ne, trivial⟩ l9
  have lt_at_LI := GHeap.ltg k7
  replace hin := i.mono l
  replace hin1 := e.mono l
  clear t
  have t : Cat.At _ g2 0 c p := ⟨Mem.of_get m, hin⟩
  obtain ⟨w7, -, -, -, -, -, -, -, -⟩ := t.get
  clear u
  have u : Cat.At _ g3 0 d q := ⟨Mem.of_get n, hin1⟩
  obtain ⟨⟨hx, hl⟩, hB⟩ := hI
  have mx := mul_bd (a := (x : Int)) (by omega) b1
  refine .seq (fun K6 z7 => .seq (fun K7 aJ => .region (.mv rfl (.q rfl (.fieldAddr fo_29_0_B rfl) ?_))))
  refine .q rfl (.load on_2_A rfl (by first | assumption | exact Mem.of_get m 0 _ rfl)) ?_
  refine .q rfl (.cmp rfl rfl rfl) (.nil (aJ _ _ ?_))
  refine .cond rfl (fun t5 => ?_) (fun t5 => ?_)
  ·
   simp only [sps] at t5
   have r1 := a7 x (by omega)
   refine .skip ?_
   refine z7 _ _ (.seq (fun K8 aA => ?_))
   refine .block ?_
   refine .seq (fun K9 aD => .region (.mv rfl (.nil (aD _ _ ?_))))
   refine .block ?_
   refine .loopR (σ := Nat × List Int × Nat) [(2, some _), (3, some _), (4, some _), (5, some _), (6, some _), (7, some _), (8, some _)] (fun (y, i2, l4) => [(9, some (.int .i64 (y : Int)))]) (fun (y, i2, l4) H' => St [gLI, g7] HL1 H' ∧ H'.get l4 = some (.row (ints i2) 2 true) ∧ PL l4 gLI HL1.next ∧ H'.get g7 = some (.row ([.int .i64 (c.obj * d.obj), .slice (some ⟨n8, 0, none⟩) 0 0, .slice (some ⟨n5, 0, none⟩) 0 0, .slice (some ⟨l4, 0, none⟩) i2.length i2.length, .slice (some ⟨n9, 0, none⟩) 0 0]) 29 true) ∧ l4 ≠ g7 ∧ ((y : Int) ≤ d.obj ∧ (i2.length : Int) = (x : Int) * d.obj + y) ∧ Bd 0 33000 i2) (fun (y, i2, l4) => (d.obj - y : Int).toNat) ((0, is, gLI)) ⟨rfl, rfl, rfl, rfl, rfl, rfl, rfl, trivial⟩ ⟨rfl, trivial⟩ ?_ ?_
   ·
    refine ⟨.refl _ _, by assumption, ⟨.inl rfl⟩, by assumption, by omega, ?_⟩
    exact ⟨⟨by omega, by omega⟩, hB⟩
   rintro ⟨y, i2, l4⟩ HL2 ⟨g1, n4, k8, r, q4, hI⟩ KL2 w6
   refine .forget (fr' := [(9, some (.int .i64 (y : Int))), (2, some _), (3, some _), (4, some _), (5, some _), (6, some _), (7, some _), (8, some _)]) ⟨rfl, rfl, rfl, rfl, rfl, rfl, rfl, rfl, trivial⟩ ?_
   have ge_LI2 : H.next ≤ l4 := k8.ge (by omega) (by omega)
   have nx_HL2 := g1.nx
   replace l := l.st g1 (fun k hk => ⟨by omega, by omega, trivial⟩)
   replace h1 := h1.st g1 (fun k hk ho => by simp only [out, and_true] at ho ⊢ <;> exact ⟨by first | exact ho | exact ho.1 | exact ho.2 | exact ho.2.1 | exact ho.2.2 | exact ho.2.2.1 | exact ho.2.2.2 | exact e3.ne (by first | exact ho | exact ho.1 | exact ho.2 | exact ho.2.1 | exact ho.2.2 | exact ho.2.2.1 | exact ho.2.2.2 | omega) (by omega) | omega, by first | exact ho | exact ho.1 | exact ho.2 | exact ho.2.1 | exact ho.2.2 | exact ho.2.2.1 | exact ho.2.2.2 | omega⟩)
   have k1 : NE g2 gLI := ⟨e3.ne i8.ne (by omega)⟩
   replace m := g1.same _ _ ⟨k1.ne, b0.ne, trivial⟩ m
   have j3 : NE g3 gLI := ⟨e3.ne i3.ne (by omega)⟩
   replace n := g1.same _ _ ⟨j3.ne, c4.ne, trivial⟩ n
   have m7 := GHeap.ltg r
   replace hin := i.mono l
   replace hin1 := e.mono l
   clear t w7
   have t : Cat.At _ g2 0 c p := ⟨Mem.of_get m, hin⟩
   obtain ⟨-, -, -, z6, -, -, -, y9, -⟩ := t.get
   clear u
   have u : Cat.At _ g3 0 d q := ⟨Mem.of_get n, hin1⟩
   obtain ⟨-, -, -, y5, -, -, -, aM, -⟩ := u.get
   obtain ⟨⟨hy, hl⟩, hB⟩ := hI
   refine .seq (fun K10 v0 => .seq (fun K11 w0 => .region (.mv rfl (.mv rfl (.q rfl (.cmp rfl rfl rfl) (.nil (w0 _ _ ?_)))))))
   refine .cond rfl (fun x2 => ?_) (fun x2 => ?_)
   ·
    simp only [sps] at x2
    have r2 := b7 y (by omega)
    have mm := mul_bd (a := c.idn.getD x 0) (b := (d.src.length : Int)) (by omega) (by omega)
    refine .skip ?_
    refine v0 _ _ (.seq (fun K12 u5 => ?_))
    refine .block ?_
    refine .regionD mo_B (.q 0 (.q 1 (.q 2 (.q 3 (.q 4 (.q 5 (.q 6 (.q 7 (.q 8 (.q 9 (.q 10 (.q 11 (.q 12 (.q 13 (.q 14 (.c 15 1 (.c 16 0 (.q 17 (.c 18 0 (.done)))))))))))))))))))) (by kernel_rfl) ?_
    refine .q rfl (.fieldAddr fo_29_3_B rfl) ?_
    refine .q rfl (.load on_22_B rfl (by first | assumption | exact Mem.of_get r 3 _ rfl)) ?_
    refine .q rfl (.fieldAddr fo_29_3_B rfl) ?_
    refine .q rfl (.load on_22_B rfl (by first | assumption | exact Mem.of_get m 3 _ rfl)) ?_
    refine .mv rfl rfl ?_
    refine .q rfl (.idxN sl_22_A (by assumption) rfl rfl (by omega)) ?_
    refine .q rfl (.loadI on_2_A (by assumption) rfl (by omega)) ?_
    refine .mv rfl rfl ?_
    refine .q rfl (.mul rfl rfl rfl (by omega) (by omega)) ?_
    refine .q rfl (.fieldAddr fo_29_3_B rfl) ?_
    refine .q rfl (.load on_22_B rfl (by first | assumption | exact Mem.of_get n 3 _ rfl)) ?_
    refine .mv rfl rfl ?_
    refine .q rfl (.idxN sl_22_A (by assumption) rfl rfl (by omega)) ?_
    refine .q rfl (.loadI on_2_A (by assumption) rfl (by omega)) ?_
    refine .q rfl (.add rfl rfl rfl (by omega) (by omega)) ?_
    refine .c1 rfl rfl rfl rfl (.litA rfl sl_22_A ze_2_L rfl rfl rfl rfl) ?_
    rintro _ H56 ⟨g56, rfl, m2, ge56, t1⟩
    have r9 := m2
    refine ⟨r9, ?_⟩
    replace l := l.trans m2
    replace g1 := g1.le m2
    replace m := m2.2 _ _ m
    replace n := m2.2 _ _ n
    replace n4 := m2.2 _ _ n4
    replace r := m2.2 _ _ r
    have lt_at56 := GHeap.ltg t1
    replace hin := i.mono l
    replace hin1 := e.mono l
    clear t z6 y9
    have t : Cat.At _ g2 0 c p := ⟨Mem.of_get m, hin⟩
    clear u y5 aM
    have u : Cat.At _ g3 0 d q := ⟨Mem.of_get n, hin1⟩
    refine .c0 rfl rfl rfl rfl (.appendI rfl sl_22_A ze_2_L rfl by_2_L sl_22_A rfl rfl (by assumption) (by assumption) (by first | omega | (simp <;> omega)) (by omega) (by omega)) ?_
    rintro _ H57 ⟨z3, rfl, n2, ge57, s0⟩
    replace l := l.st n2 (fun k hk => ⟨by omega, trivial⟩)
    replace g1 := g1.sQ n2
    replace m := n2.same _ _ ⟨(k8.ne k1.ne (by omega)), trivial⟩ m
    replace n := n2.same _ _ ⟨(k8.ne j3.ne (by omega)), trivial⟩ n
    replace r := n2.same _ _ ⟨(Ne.symm q4), trivial⟩ r
    replace hin := i.mono l
    replace hin1 := e.mono l
    clear t
    have t : Cat.At _ g2 0 c p := ⟨Mem.of_get m, hin⟩
    clear u
    have u : Cat.At _ g3 0 d q := ⟨Mem.of_get n, hin1⟩
    refine .q rfl (.fieldAddr fo_29_3_B rfl) ?_
    refine .r0 rfl rfl rfl (.storeR rfl sz_22_Ch rfl rfl rfl (by assumption) (by first | exact Nat.le_of_ble_eq_true rfl | (simp; done) | (simp <;> omega))) ?_
    rintro _ H9018 ⟨rfl, h4, p6⟩
    replace l := l.st h4 (fun k hk => ⟨by omega, trivial⟩)
    replace g1 := g1.sA h4
    replace m := h4.s m b0.ne
    replace n := h4.s n c4.ne
    replace s0 := h4.s s0
    replace hin := i.mono l
    replace hin1 := e.mono l
    clear t
    have t : Cat.At _ g2 0 c p := ⟨Mem.of_get m, hin⟩
    clear u
    have u : Cat.At _ g3 0 d q := ⟨Mem.of_get n, hin1⟩
    try simp only [Nat.zero_add, List.set_cons_succ, List.set_cons_zero] at p6
    refine .done ?_
    refine u5 _ _ (.region (.mv rfl ?_))
    refine .q rfl (.add rfl rfl rfl (by omega) (by omega)) ?_
    refine .mv rfl (.nil ?_)
    refine w6 ((y + 1, i2 ++ [c.idn.getD x 0 * (d.src.length : Int) + d.idn.getD y 0], z3)) _ _ ?_ ?_ ⟨rfl, rfl, rfl, rfl, rfl, rfl, rfl, rfl, trivial⟩
    ·
     refine ⟨g1, by assumption, by exact ⟨.inr (by omega)⟩, by (rw [List.length_append]; assumption), by omega, ?_⟩
     exact ⟨⟨by omega, by simp; omega⟩, hB.snoc (by omega) (by omega)⟩
    (dsimp only; omega)
   try simp only [sps] at x2
   refine .exit ?_
   refine aA _ _ (.region (.mv rfl ?_))
   refine .q rfl (.add rfl rfl rfl (by omega) (by omega)) ?_
   refine .mv rfl (.nil ?_)
   refine v6 ((x + 1, i2, l4)) _ _ ?_ ?_ ⟨rfl, rfl, rfl, rfl, rfl, rfl, rfl, trivial⟩
   ·
    refine ⟨h1, by assumption, by exact k8.trans e3 (by omega), by assumption, by assumption, ?_⟩
    have e1 := smz x d.obj
    exact ⟨⟨by omega, by omega⟩, hB⟩
   (dsimp only; omega)
  try simp only [sps] at t5
  refine .exit ?_
  refine y6 _ _ (.seq (fun K13 u0 => .seq (fun K14 w9 => .region ?_)))
  obtain rfl : x = c.obj.toNat := by omega
  refine .mv rfl (.nil (w9 _ _ ?_))
  refine .block ?_
  refine .loopR (σ := Nat × List Int × List Int × (Nat → Option Addr) × List (List Int) × Nat × Nat × Nat) [(2, some _), (3, some _), (4, some _), (5, some _), (6, some _), (7, some _)] (fun (a, ss, ts, rr, cs, gLF, gLT, gLC) => [(10, some (.int .i64 (a : Int)))]) (fun (a, ss, ts, rr, cs, gLF, gLT, gLC) H' => St [n8, n5, n9, g7] HL1 H' ∧ H'.get gLF = some (.row (ints ss) 2 true) ∧ PL gLF n8 HL1.next ∧ H'.get gLT = some (.row (ints ts) 2 true) ∧ PL gLT n5 HL1.next ∧ H'.get gLC = some (.row ((slsL rr cs)) 22 true) ∧ PL gLC n9 HL1.next ∧ H'.get g7 = some (.row ([.int .i64 (c.obj * d.obj), .slice (some ⟨gLF, 0, none⟩) ss.length ss.length, .slice (some ⟨gLT, 0, none⟩) ss.length ss.length, .slice (some ⟨gLI, 0, none⟩) is.length is.length, .slice (some ⟨gLC, 0, none⟩) ss.length ss.length]) 29 true) ∧ gLF ≠ gLT ∧ gLF ≠ gLC ∧ gLF ≠ g7 ∧ gLT ≠ gLC ∧ gLT ≠ g7 ∧ gLC ≠ g7 ∧ (a ≤ c.src.length ∧ ss.length = a * d.src.length ∧ ts.length = ss.length ∧ cs.length = ss.length) ∧ Bd 0 33000 ss ∧ Bd 0 33000 ts ∧ Tb (-1) 33000 (c.src.length * d.src.length) cs ∧ OwnL H.next H' 2 rr cs ∧ (∀ j, j < cs.length → rr j ≠ some ⟨gLF, 0, none⟩) ∧ (∀ j, j < cs.length → rr j ≠ some ⟨gLT, 0, none⟩) ∧ ∀ j, j < cs.length → rr j ≠ some ⟨gLI, 0, none⟩) (fun (a, ss, ts, rr, cs, gLF, gLT, gLC) => c.src.length - a) ((0, [], [], fun _ => none, [], n8, n5, n9)) ⟨rfl, rfl, rfl, rfl, rfl, rfl, trivial⟩ ⟨rfl, trivial⟩ ?_ ?_
  ·
   refine ⟨.refl _ _, by assumption, ⟨.inl rfl⟩, by assumption, ⟨.inl rfl⟩, by assumption, ⟨.inl rfl⟩, by assumption, by omega, by omega, by omega, by omega, by omega, by omega, ?_⟩
   exact ⟨⟨by omega, by simp, rfl, rfl⟩, .nil _ _, .nil _ _, .nil _ _ _, .nil _ _ _ _, fun _ h => by simp at h, fun _ h => by simp at h, fun _ h => by simp at h⟩
  rintro ⟨a, ss, ts, rr, cs, gLF, gLT, gLC⟩ HL3 ⟨l2, m4, g8, n1, h9, m9, i7, r, ap3_0, ap3_1, ap3_2, ap3_3, ap3_4, ap3_5, hI⟩ KL3 x7
  refine .forget (fr' := [(10, some (.int .i64 (a : Int))), (2, some _), (3, some _), (4, some _), (5, some _), (6, some _), (7, some _)]) ⟨rfl, rfl, rfl, rfl, rfl, rfl, rfl, trivial⟩ ?_
  have ge_LF : H.next ≤ gLF := g8.ge (by omega) (by omega)
  have ge_LT : H.next ≤ gLT := h9.ge (by omega) (by omega)
  have ge_LC : H.next ≤ gLC := i7.ge (by omega) (by omega)
  have nx_HL3 := l2.nx
  replace l := l.st l2 (fun k hk => ⟨by omega, by omega, by omega, by omega, trivial⟩)
  have i9 : NE g2 n8 := .a
  have j9 : NE g2 n5 := .a
  have j0 : NE g2 n9 := .a
  replace m := l2.same _ _ ⟨i9.ne, j9.ne, j0.ne, b0.ne, trivial⟩ m
  have k3 : NE g3 n8 := .a
  have k5 : NE g3 n5 := .a
  have j6 : NE g3 n9 := .a
  replace n := l2.same _ _ ⟨k3.ne, k5.ne, j6.ne, c4.ne, trivial⟩ n
  have j8 : NE g4 n8 := .a
  have j2 : NE g4 n5 := .a
  have j5 : NE g4 n9 := .a
  replace l5 := l2.same _ _ ⟨j8.ne, j2.ne, j5.ne, h0.ne, trivial⟩ l5
  replace k7 := l2.same _ _ ⟨(Ne.symm (e3.ne i0.ne (by omega))), (Ne.symm (e3.ne h8.ne (by omega))), (Ne.symm (e3.ne h2.ne (by omega))), s5, trivial⟩ k7
  have lt_at_LF := GHeap.ltg m4
  replace hin := i.mono l
  replace hin1 := e.mono l
  have t : Cat.At _ g2 0 c p := ⟨Mem.of_get m, hin⟩
  obtain ⟨-, s4, -, -, -, -, -, -, -⟩ := t.get
  have u : Cat.At _ g3 0 d q := ⟨Mem.of_get n, hin1⟩
  obtain ⟨⟨ha, aB, hts, hcl⟩, hS, hT, hC, hR, r8, s6, q3⟩ := hI
  have ml := mulN_bd (a := a) (b := d.src.length) (by omega) (by omega)
  refine .seq (fun K15 v5 => .seq (fun K16 x5 => .region (.mv rfl (.q rfl (.fieldAddr fo_29_1_B rfl) ?_))))
  refine .q rfl (.load on_22_B rfl (by first | assumption | exact Mem.of_get m 1 _ rfl)) ?_
  refine .q rfl (.len sl_22_A rfl) (.q rfl (.cmp rfl rfl rfl) (.nil (x5 _ _ ?_)))
  refine .cond rfl (fun t7 => ?_) (fun t7 => ?_)
  ·
   simp only [sps] at t7
   have q1 := a4 a (by omega)
   have q2 := a5 a (by omega)
   refine .skip ?_
   refine v5 _ _ (.seq (fun K17 w4 => ?_))
   refine .block ?_
   refine .seq (fun K18 v7 => .region (.mv rfl (.nil (v7 _ _ ?_))))
   refine .block ?_
   refine .loopR (σ := Nat × List Int × List Int × (Nat → Option Addr) × List (List Int) × Nat × Nat × Nat) [(2, some _), (3, some _), (4, some _), (5, some _), (6, some _), (7, some _), (10, some _)] (fun (b, s2, t2, r2, c2, f5, f7, f4) => [(11, some (.int .i64 (b : Int)))]) (fun (b, s2, t2, r2, c2, f5, f7, f4) H' => St [gLF, gLT, gLC, g7] HL3 H' ∧ H'.get f5 = some (.row (ints s2) 2 true) ∧ PL f5 gLF HL3.next ∧ H'.get f7 = some (.row (ints t2) 2 true) ∧ PL f7 gLT HL3.next ∧ H'.get f4 = some (.row ((slsL r2 c2)) 22 true) ∧ PL f4 gLC HL3.next ∧ H'.get g7 = some (.row ([.int .i64 (c.obj * d.obj), .slice (some ⟨f5, 0, none⟩) s2.length s2.length, .slice (some ⟨f7, 0, none⟩) s2.length s2.length, .slice (some ⟨gLI, 0, none⟩) is.length is.length, .slice (some ⟨f4, 0, none⟩) s2.length s2.length]) 29 true) ∧ f5 ≠ f7 ∧ f5 ≠ f4 ∧ f5 ≠ g7 ∧ f7 ≠ f4 ∧ f7 ≠ g7 ∧ f4 ≠ g7 ∧ (b ≤ d.src.length ∧ s2.length = a * d.src.length + b ∧ t2.length = s2.length ∧ c2.length = s2.length) ∧ Bd 0 33000 s2 ∧ Bd 0 33000 t2 ∧ Tb (-1) 33000 (c.src.length * d.src.length) c2 ∧ OwnL H.next H' 2 r2 c2 ∧ (∀ j, j < c2.length → r2 j ≠ some ⟨f5, 0, none⟩) ∧ (∀ j, j < c2.length → r2 j ≠ some ⟨f7, 0, none⟩) ∧ ∀ j, j < c2.length → r2 j ≠ some ⟨gLI, 0, none⟩) (fun (b, s2, t2, r2, c2, f5, f7, f4) => d.src.length - b) ((0, ss, ts, rr, cs, gLF, gLT, gLC)) ⟨rfl, rfl, rfl, rfl, rfl, rfl, rfl, trivial⟩ ⟨rfl, trivial⟩ ?_ ?_
   ·
    refine ⟨.refl _ _, by assumption, ⟨.inl rfl⟩, by assumption, ⟨.inl rfl⟩, by assumption, ⟨.inl rfl⟩, by assumption, by omega, by omega, by omega, by omega, by omega, by omega, ?_⟩
    exact ⟨⟨by omega, by omega, by omega, by omega⟩, hS, hT, hC, hR, r8, s6, q3⟩
   rintro ⟨b, s2, t2, r2, c2, f5, f7, f4⟩ HL4 ⟨c5, n6, k9, d8, l1, o, l3, r, q9, q5, s1, q7, p0, m8, hI⟩ KL4 u9
   refine .forget (fr' := [(11, some (.int .i64 (b : Int))), (2, some _), (3, some _), (4, some _), (5, some _), (6, some _), (7, some _), (10, some _)]) ⟨rfl, rfl, rfl, rfl, rfl, rfl, rfl, rfl, trivial⟩ ?_
   have ge_LF2 : H.next ≤ f5 := k9.ge (by omega) (by omega)
   have ge_LT2 : H.next ≤ f7 := l1.ge (by omega) (by omega)
   have ge_LC2 : H.next ≤ f4 := l3.ge (by omega) (by omega)
   have nx_HL4 := c5.nx
   replace l := l.st c5 (fun k hk => ⟨by omega, by omega, by omega, by omega, trivial⟩)
   replace l2 := l2.st c5 (fun k hk ho => by simp only [out, and_true] at ho ⊢ <;> exact ⟨by first | exact ho | exact ho.1 | exact ho.2 | exact ho.2.1 | exact ho.2.2 | exact ho.2.2.1 | exact ho.2.2.2 | exact g8.ne (by first | exact ho | exact ho.1 | exact ho.2 | exact ho.2.1 | exact ho.2.2 | exact ho.2.2.1 | exact ho.2.2.2 | omega) (by omega) | omega, by first | exact ho | exact ho.1 | exact ho.2 | exact ho.2.1 | exact ho.2.2 | exact ho.2.2.1 | exact ho.2.2.2 | exact h9.ne (by first | exact ho | exact ho.1 | exact ho.2 | exact ho.2.1 | exact ho.2.2 | exact ho.2.2.1 | exact ho.2.2.2 | omega) (by omega) | omega, by first | exact ho | exact ho.1 | exact ho.2 | exact ho.2.1 | exact ho.2.2 | exact ho.2.2.1 | exact ho.2.2.2 | exact i7.ne (by first | exact ho | exact ho.1 | exact ho.2 | exact ho.2.1 | exact ho.2.2 | exact ho.2.2.1 | exact ho.2.2.2 | omega) (by omega) | omega, by first | exact ho | exact ho.1 | exact ho.2 | exact ho.2.1 | exact ho.2.2 | exact ho.2.2.1 | exact ho.2.2.2 | omega⟩)
   have i6 : NE g2 gLF := ⟨g8.ne i9.ne (by omega)⟩
   have i4 : NE g2 gLT := ⟨h9.ne j9.ne (by omega)⟩
   have j4 : NE g2 gLC := ⟨i7.ne j0.ne (by omega)⟩
   replace m := c5.same _ _ ⟨i6.ne, i4.ne, j4.ne, b0.ne, trivial⟩ m
   have k0 : NE g3 gLF := ⟨g8.ne k3.ne (by omega)⟩
   have i5 : NE g3 gLT := ⟨h9.ne k5.ne (by omega)⟩
   have k6 : NE g3 gLC := ⟨i7.ne j6.ne (by omega)⟩
   replace n := c5.same _ _ ⟨k0.ne, i5.ne, k6.ne, c4.ne, trivial⟩ n
   have lt_at_LT2 := GHeap.ltg d8
   have lt_at_LC2 := GHeap.ltg o
   have m7 := GHeap.ltg r
   replace hin := i.mono l
   replace hin1 := e.mono l
   clear t s4
   have t : Cat.At _ g2 0 c p := ⟨Mem.of_get m, hin⟩
   obtain ⟨-, s4, -, -, -, y7, -, -, -⟩ := t.get
   clear u
   have u : Cat.At _ g3 0 d q := ⟨Mem.of_get n, hin1⟩
   obtain ⟨-, q6, -, -, -, aC, -, -, -⟩ := u.get
   have rk := St.refl [f5, f7, f4, g7] HL4
   obtain ⟨⟨hb, hs9, hts, hcl⟩, hS, hT, hC, hR, r8, s6, q3⟩ := hI
   have hatC := o
   have t9 := r
   have hfl : (slsL r2 c2).length = c2.length := length_slsL _ _
   refine .seq (fun K19 t8 => .seq (fun K20 v9 => .region (.mv rfl (.q rfl (.fieldAddr fo_29_1_B rfl) ?_))))
   refine .q rfl (.load on_22_B rfl (by first | assumption | exact Mem.of_get n 1 _ rfl)) ?_
   refine .q rfl (.len sl_22_A rfl) (.q rfl (.cmp rfl rfl rfl) (.nil (v9 _ _ ?_)))
   refine .cond rfl (fun u7 => ?_) (fun u7 => ?_)
   ·
    simp only [sps] at u7
    have p1 := b4 b (by omega)
    have p2 := b5 b (by omega)
    have mm1 := mul_bd (a := c.src.getD a 0) (by omega) b1
    have mm2 := mul_bd (a := c.tgt.getD a 0) (by omega) b1
    refine .skip ?_
    refine t8 _ _ (.seq (fun K21 u3 => ?_))
    refine .block ?_
    refine .seq (fun K22 x4 => ?_)
    refine .regionD mo_B (.q 0 (.q 1 (.q 2 (.q 3 (.q 4 (.q 5 (.q 6 (.q 7 (.q 8 (.q 9 (.q 10 (.q 11 (.q 12 (.q 13 (.q 14 (.c 15 1 (.c 16 0 (.q 17 (.c 18 0 (.done)))))))))))))))))))) (by kernel_rfl) ?_
    refine .q rfl (.fieldAddr fo_29_1_B rfl) ?_
    refine .q rfl (.load on_22_B rfl (by first | assumption | exact Mem.of_get r 1 _ rfl)) ?_
    refine .q rfl (.fieldAddr fo_29_1_B rfl) ?_
    refine .q rfl (.load on_22_B rfl (by first | assumption | exact Mem.of_get m 1 _ rfl)) ?_
    refine .mv rfl rfl ?_
    refine .q rfl (.idxN sl_22_A (by assumption) rfl rfl (by omega)) ?_
    refine .q rfl (.loadI on_2_A (by assumption) rfl (by omega)) ?_
    refine .mv rfl rfl ?_
    refine .q rfl (.mul rfl rfl rfl (by omega) (by omega)) ?_
    refine .q rfl (.fieldAddr fo_29_1_B rfl) ?_
    refine .q rfl (.load on_22_B rfl (by first | assumption | exact Mem.of_get n 1 _ rfl)) ?_
    refine .mv rfl rfl ?_
    refine .q rfl (.idxN sl_22_A (by assumption) rfl rfl (by omega)) ?_
    refine .q rfl (.loadI on_2_A (by assumption) rfl (by omega)) ?_
    refine .q rfl (.add rfl rfl rfl (by omega) (by omega)) ?_
    refine .c1 rfl rfl rfl rfl (.litA rfl sl_22_A ze_2_L rfl rfl rfl rfl) ?_
    rintro _ H88 ⟨g88, rfl, i1, ge88, v3⟩
    have r9 := i1
    refine ⟨r9, ?_⟩
    replace l := l.trans i1
    replace c5 := c5.le i1
    replace rk := rk.le i1
    replace m := i1.2 _ _ m
    replace n := i1.2 _ _ n
    replace n6 := i1.2 _ _ n6
    replace d8 := i1.2 _ _ d8
    replace o := i1.2 _ _ o
    replace r := i1.2 _ _ r
    have lt_at88 := GHeap.ltg v3
    replace hin := i.mono l
    replace hin1 := e.mono l
    clear t s4 y7
    have t : Cat.At _ g2 0 c p := ⟨Mem.of_get m, hin⟩
    clear u q6 aC
    have u : Cat.At _ g3 0 d q := ⟨Mem.of_get n, hin1⟩
    refine .c0 rfl rfl rfl rfl (.appendI rfl sl_22_A ze_2_L rfl by_2_L sl_22_A rfl rfl (by assumption) (by assumption) (by first | omega | (simp <;> omega)) (by omega) (by omega)) ?_
    rintro _ H89 ⟨s7, rfl, l7, ge89, d6⟩
    replace l := l.st l7 (fun k hk => ⟨by omega, trivial⟩)
    replace c5 := c5.sQ l7
    replace rk := rk.sQ l7
    replace m := l7.same _ _ ⟨(k9.ne i6.ne (by omega)), trivial⟩ m
    replace n := l7.same _ _ ⟨(k9.ne k0.ne (by omega)), trivial⟩ n
    replace d8 := l7.same _ _ ⟨(Ne.symm q9), trivial⟩ d8
    replace o := l7.same _ _ ⟨(Ne.symm q5), trivial⟩ o
    replace r := l7.same _ _ ⟨(Ne.symm s1), trivial⟩ r
    have lt_at89 := GHeap.ltg d6
    replace hin := i.mono l
    replace hin1 := e.mono l
    clear t
    have t : Cat.At _ g2 0 c p := ⟨Mem.of_get m, hin⟩
    clear u
    have u : Cat.At _ g3 0 d q := ⟨Mem.of_get n, hin1⟩
    refine .q rfl (.fieldAddr fo_29_1_B rfl) ?_
    refine .r0 rfl rfl rfl (.storeR rfl sz_22_Ch rfl rfl rfl (by assumption) (by first | exact Nat.le_of_ble_eq_true rfl | (simp; done) | (simp <;> omega))) ?_
    rintro _ H16018 ⟨rfl, c7, d5⟩
    have nx_H16018 := c7.nx
    replace l := l.st c7 (fun k hk => ⟨by omega, trivial⟩)
    replace c5 := c5.sA c7
    replace rk := rk.sA c7
    replace m := c7.s m b0.ne
    replace n := c7.s n c4.ne
    replace d8 := c7.same _ _ ⟨p0, trivial⟩ d8
    replace o := c7.same _ _ ⟨m8, trivial⟩ o
    have f9 : NE s7 g7 := .a
    replace d6 := c7.s d6 f9.ne
    have lt_at16018 := GHeap.ltg d5
    replace hin := i.mono l
    replace hin1 := e.mono l
    clear t
    have t : Cat.At _ g2 0 c p := ⟨Mem.of_get m, hin⟩
    obtain ⟨-, -, y8, -, -, -, z8, -, -⟩ := t.get
    clear u
    have u : Cat.At _ g3 0 d q := ⟨Mem.of_get n, hin1⟩
    obtain ⟨-, -, y3, -, -, -, aK, -, -⟩ := u.get
    try simp only [Nat.zero_add, List.set_cons_succ, List.set_cons_zero] at d5
    refine .done ?_
    refine x4 _ _ (.seq (fun K23 u4 => ?_))
    refine .regionD mo_B (.q 0 (.q 1 (.q 2 (.q 3 (.q 4 (.q 5 (.q 6 (.q 7 (.q 8 (.q 9 (.q 10 (.q 11 (.q 12 (.q 13 (.q 14 (.c 15 1 (.c 16 0 (.q 17 (.c 18 0 (.done)))))))))))))))))))) (by kernel_rfl) ?_
    refine .q rfl (.fieldAddr fo_29_2_B rfl) ?_
    refine .q rfl (.load on_22_B rfl (by first | assumption | exact Mem.of_get d5 2 _ rfl)) ?_
    refine .q rfl (.fieldAddr fo_29_2_B rfl) ?_
    refine .q rfl (.load on_22_B rfl (by first | assumption | exact Mem.of_get m 2 _ rfl)) ?_
    refine .mv rfl rfl ?_
    refine .q rfl (.idxN sl_22_A (by assumption) rfl rfl (by omega)) ?_
    refine .q rfl (.loadI on_2_A (by assumption) rfl (by omega)) ?_
    refine .mv rfl rfl ?_
    refine .q rfl (.mul rfl rfl rfl (by omega) (by omega)) ?_
    refine .q rfl (.fieldAddr fo_29_2_B rfl) ?_
    refine .q rfl (.load on_22_B rfl (by first | assumption | exact Mem.of_get n 2 _ rfl)) ?_
    refine .mv rfl rfl ?_
    refine .q rfl (.idxN sl_22_A (by assumption) rfl rfl (by omega)) ?_
    refine .q rfl (.loadI on_2_A (by assumption) rfl (by omega)) ?_
    refine .q rfl (.add rfl rfl rfl (by omega) (by omega)) ?_
    refine .c1 rfl rfl rfl rfl (.litA rfl sl_22_A ze_2_L rfl rfl rfl rfl) ?_
    rintro _ H106 ⟨g106, rfl, e5, ge106, r6⟩
    have r9 := e5
    refine ⟨r9, ?_⟩
    replace l := l.trans e5
    replace c5 := c5.le e5
    replace rk := rk.le e5
    replace m := e5.2 _ _ m
    replace n := e5.2 _ _ n
    replace d8 := e5.2 _ _ d8
    replace o := e5.2 _ _ o
    replace d6 := e5.2 _ _ d6
    replace d5 := e5.2 _ _ d5
    have lt_at106 := GHeap.ltg r6
    replace hin := i.mono l
    replace hin1 := e.mono l
    clear t y8 z8
    have t : Cat.At _ g2 0 c p := ⟨Mem.of_get m, hin⟩
    clear u y3 aK
    have u : Cat.At _ g3 0 d q := ⟨Mem.of_get n, hin1⟩
    refine .c0 rfl rfl rfl rfl (.appendI rfl sl_22_A ze_2_L rfl by_2_L sl_22_A rfl rfl (by assumption) (by assumption) (by first | omega | (simp <;> omega)) (by omega) (by omega)) ?_
    rintro _ H107 ⟨o2, rfl, g0, ge107, d2⟩
    replace l := l.st g0 (fun k hk => ⟨by omega, trivial⟩)
    replace c5 := c5.sQ g0
    replace rk := rk.sQ g0
    replace m := g0.same _ _ ⟨(l1.ne i4.ne (by omega)), trivial⟩ m
    replace n := g0.same _ _ ⟨(l1.ne i5.ne (by omega)), trivial⟩ n
    replace o := g0.same _ _ ⟨(Ne.symm q7), trivial⟩ o
    replace d6 := g0.s d6
    replace d5 := g0.same _ _ ⟨(Ne.symm p0), trivial⟩ d5
    have lt_at107 := GHeap.ltg d2
    replace hin := i.mono l
    replace hin1 := e.mono l
    clear t
    have t : Cat.At _ g2 0 c p := ⟨Mem.of_get m, hin⟩
    clear u
    have u : Cat.At _ g3 0 d q := ⟨Mem.of_get n, hin1⟩
    refine .q rfl (.fieldAddr fo_29_2_B rfl) ?_
    refine .r0 rfl rfl rfl (.storeR rfl sz_22_Ch rfl rfl rfl (by assumption) (by first | exact Nat.le_of_ble_eq_true rfl | (simp; done) | (simp <;> omega))) ?_
    rintro _ H17018 ⟨rfl, c9, c3⟩
    have nx_H17018 := c9.nx
    replace l := l.st c9 (fun k hk => ⟨by omega, trivial⟩)
    replace c5 := c5.sA c9
    replace rk := rk.sA c9
    replace m := c9.s m b0.ne
    replace n := c9.s n c4.ne
    replace o := c9.same _ _ ⟨m8, trivial⟩ o
    replace d6 := c9.s d6 f9.ne
    have h6 : NE o2 g7 := .a
    replace d2 := c9.s d2 h6.ne
    have lt_at17018 := GHeap.ltg c3
    replace hin := i.mono l
    replace hin1 := e.mono l
    clear t
    have t : Cat.At _ g2 0 c p := ⟨Mem.of_get m, hin⟩
    clear u
    have u : Cat.At _ g3 0 d q := ⟨Mem.of_get n, hin1⟩
    try simp only [Nat.zero_add, List.set_cons_succ, List.set_cons_zero] at c3
    refine .done ?_
    refine u4 _ _ (.seq (fun K24 s8 => .region ?_))
    refine .R rfl (.litA rfl sl_22_A ze_2_L rfl rfl rfl rfl) ?_
    rintro _ p8 ⟨m1, rfl, e9, ge109, n0⟩
    replace l := l.trans e9
    replace c5 := c5.le e9
    replace rk := rk.le e9
    replace m := e9.2 _ _ m
    replace n := e9.2 _ _ n
    replace o := e9.2 _ _ o
    replace d6 := e9.2 _ _ d6
    replace d2 := e9.2 _ _ d2
    replace c3 := e9.2 _ _ c3
    have lt_at109 := GHeap.ltg n0
    replace hin := i.mono l
    replace hin1 := e.mono l
    clear t
    have t : Cat.At _ g2 0 c p := ⟨Mem.of_get m, hin⟩
    clear u
    have u : Cat.At _ g3 0 d q := ⟨Mem.of_get n, hin1⟩
    replace n0 : GHeap.get p8 m1 = some (.row (ints []) 2 true) := n0
    refine .mv rfl (.nil (s8 _ _ (.seq (fun K25 w8 => .seq (fun K26 x6 => .region (.mv rfl (.nil (x6 _ _ ?_))))))))
    refine .block ?_
    refine .loopR (σ := Nat × List Int × Nat × Nat) [(2, some _), (3, some _), (4, some _), (5, some _), (6, some _), (7, some _), (10, some _), (11, some _)] (fun (f, row, e2, l6) => [(13, some (.int .i64 (f : Int))), (12, some (.slice (some ⟨e2, 0, none⟩) l6 l6))]) (fun (f, row, e2, l6) H' => St [m1] p8 H' ∧ H'.get e2 = some (.row (ints row) 2 true) ∧ PL e2 m1 p8.next ∧ l6 = row.length ∧ (f ≤ c.src.length ∧ row.length = f * d.src.length) ∧ Bd (-1) 33000 row) (fun (f, row, e2, l6) => c.src.length - f) ((0, [], _, _)) ⟨rfl, rfl, rfl, rfl, rfl, rfl, rfl, rfl, trivial⟩ ⟨rfl, rfl, trivial⟩ ?_ ?_
    ·
     refine ⟨.refl _ _, by assumption, ⟨.inl rfl⟩, by rfl, ?_⟩
     exact ⟨⟨by omega, by simp⟩, .nil _ _⟩
    rintro ⟨f, row, e2, l6⟩ HL5 ⟨f6, e8, d1, p3, hI⟩ KL5 t4
    refine .forget (fr' := [(13, some (.int .i64 (f : Int))), (12, some (.slice (some ⟨e2, 0, none⟩) l6 l6)), (2, some _), (3, some _), (4, some _), (5, some _), (6, some _), (7, some _), (10, some _), (11, some _)]) ⟨rfl, rfl, rfl, rfl, rfl, rfl, rfl, rfl, rfl, rfl, trivial⟩ ?_
    have ge_L12 : H.next ≤ e2 := d1.ge (by omega) (by omega)
    have nx_HL5 := f6.nx
    replace l := l.st f6 (fun k hk => ⟨by omega, trivial⟩)
    replace c5 := c5.sA f6
    replace rk := rk.sA f6
    have g9 : NE g2 m1 := .a
    replace m := f6.s m g9.ne
    have h5 : NE g3 m1 := .a
    replace n := f6.s n h5.ne
    have f0 : NE f4 m1 := .a
    replace o := f6.s o f0.ne
    replace d6 := f6.s d6
    replace d2 := f6.s d2
    have h7 : NE g7 m1 := .a
    replace c3 := f6.s c3 h7.ne
    have lt_at_L12 := GHeap.ltg e8
    replace hin := i.mono l
    replace hin1 := e.mono l
    clear t
    have t : Cat.At _ g2 0 c p := ⟨Mem.of_get m, hin⟩
    obtain ⟨-, s4, -, -, -, -, -, -, -⟩ := t.get
    clear u
    have u : Cat.At _ g3 0 d q := ⟨Mem.of_get n, hin1⟩
    obtain ⟨⟨hf, hrl⟩, hW⟩ := hI
    have ml2 := mulN_bd (a := f) (b := d.src.length) (by omega) (by omega)
    refine .seq (fun K27 x0 => .seq (fun K28 t0 => .region (.mv rfl (.q rfl (.fieldAddr fo_29_1_B rfl) ?_))))
    refine .q rfl (.load on_22_B rfl (by first | assumption | exact Mem.of_get m 1 _ rfl)) ?_
    refine .q rfl (.len sl_22_A rfl) (.q rfl (.cmp rfl rfl rfl) (.nil (t0 _ _ ?_)))
    refine .cond rfl (fun p7 => ?_) (fun p7 => ?_)
    ·
     simp only [sps] at p7
     refine .skip ?_
     refine x0 _ _ (.seq (fun K29 w5 => ?_))
     refine .block ?_
     refine .seq (fun K30 v8 => .region (.mv rfl (.nil (v8 _ _ ?_))))
     refine .block ?_
     refine .loopR (σ := Nat × List Int × Nat × Nat) [(2, some _), (3, some _), (4, some _), (5, some _), (6, some _), (7, some _), (10, some _), (11, some _), (13, some _)] (fun (g, w2, a0, e4) => [(14, some (.int .i64 (g : Int))), (12, some (.slice (some ⟨a0, 0, none⟩) e4 e4))]) (fun (g, w2, a0, e4) H' => St [e2] HL5 H' ∧ H'.get a0 = some (.row (ints w2) 2 true) ∧ PL a0 e2 HL5.next ∧ e4 = w2.length ∧ (g ≤ d.src.length ∧ w2.length = f * d.src.length + g) ∧ Bd (-1) 33000 w2) (fun (g, w2, a0, e4) => d.src.length - g) ((0, row, _, _)) ⟨rfl, rfl, rfl, rfl, rfl, rfl, rfl, rfl, rfl, trivial⟩ ⟨rfl, rfl, trivial⟩ ?_ ?_
     ·
      refine ⟨.refl _ _, by assumption, ⟨.inl rfl⟩, by assumption, ?_⟩
      exact ⟨⟨by omega, by omega⟩, hW⟩
     rintro ⟨g, w2, a0, e4⟩ HL6 ⟨d3, d4, c6, ln_L12v6, hI⟩ KL6 p4
     refine .forget (fr' := [(14, some (.int .i64 (g : Int))), (12, some (.slice (some ⟨a0, 0, none⟩) e4 e4)), (2, some _), (3, some _), (4, some _), (5, some _), (6, some _), (7, some _), (10, some _), (11, some _), (13, some _)]) ⟨rfl, rfl, rfl, rfl, rfl, rfl, rfl, rfl, rfl, rfl, rfl, trivial⟩ ?_
     have ge_L12v6 : H.next ≤ a0 := c6.ge (by omega) (by omega)
     have nx_HL6 := d3.nx
     replace l := l.st d3 (fun k hk => ⟨by omega, trivial⟩)
     replace f6 := f6.sP d3
     have d9 : NE g2 e2 := ⟨d1.ne g9.ne (by omega)⟩
     replace m := d3.s m d9.ne
     have d7 : NE g3 e2 := ⟨d1.ne h5.ne (by omega)⟩
     replace n := d3.s n d7.ne
     replace hin := i.mono l
     replace hin1 := e.mono l
     clear t s4
     have t : Cat.At _ g2 0 c p := ⟨Mem.of_get m, hin⟩
     obtain ⟨-, -, -, -, z1, -, -, -, y0⟩ := t.get
     clear u
     have u : Cat.At _ g3 0 d q := ⟨Mem.of_get n, hin1⟩
     obtain ⟨-, q6, -, -, aN, -, -, -, x8⟩ := u.get
     obtain ⟨⟨hg, hrl⟩, hW⟩ := hI
     refine .seq (fun K31 x1 => .seq (fun K32 u6 => .region (.mv rfl (.q rfl (.fieldAddr fo_29_1_B rfl) ?_))))
     refine .q rfl (.load on_22_B rfl (by first | assumption | exact Mem.of_get n 1 _ rfl)) ?_
     refine .q rfl (.len sl_22_A rfl) (.q rfl (.cmp rfl rfl rfl) (.nil (u6 _ _ ?_)))
     refine .cond rfl (fun p9 => ?_) (fun p9 => ?_)
     ·
      simp only [sps] at p9
      have v1 := y2 a (by omega) f (by omega)
      have v2 := z5 b (by omega) g (by omega)
      have w1 := a9 a (by omega)
      have w3 := b9 b (by omega)
      have u1 := y0.2 a (by omega)
      have u2 := x8.2 b (by omega)
      refine .skip ?_
      refine x1 _ _ (.seq (fun K33 q0 => ?_))
      refine .block ?_
      refine .seq (fun K34 u8 => .region (.mv rfl (.nil (u8 _ _ (.seq (fun K35 p5 => .seq (fun K36 r4 => .region (.q rfl (.fieldAddr fo_29_4_B rfl) ?_))))))))
      refine .q rfl (.load on_23_B rfl (by first | assumption | exact Mem.of_get m 4 _ rfl)) ?_
      refine .mv rfl ?_
      refine .q rfl (.idxN sl_23_B (Intss.sl (by assumption)) rfl rfl (by omega)) ?_
      refine .q rfl (.loadR on_22_B (by assumption) rfl (by omega)) ?_
      refine .mv rfl ?_
      refine .q rfl (.idxN sl_22_A (by assumption) rfl rfl (by omega)) ?_
      refine .q rfl (.loadI on_2_A (by assumption) rfl (by omega)) ?_
      refine .q rfl (.cmp rfl rfl rfl) (.mv rfl ?_)
      refine .split (fun r3 => ?_) (fun r3 => ?_)
      ·
       try simp only [sps] at r3
       refine .qg rfl (.fieldAddr fo_29_4_B rfl) ?_
       refine .qg rfl (.load on_23_B rfl (by first | assumption | exact Mem.of_get n 4 _ rfl)) ?_
       refine .qg rfl (.move rfl) ?_
       refine .qg rfl (.idxN sl_23_B (Intss.sl (by assumption)) rfl rfl (by omega)) ?_
       refine .qg rfl (.loadR on_22_B (by assumption) rfl (by omega)) ?_
       refine .qg rfl (.move rfl) ?_
       refine .qg rfl (.idxN sl_22_A (by assumption) rfl rfl (by omega)) ?_
       refine .qg rfl (.loadI on_2_A (by assumption) rfl (by omega)) ?_
       refine .qg rfl (.cmp rfl rfl rfl) (.q rfl (.pickT rfl rfl) (.nil (r4 _ _ ?_)))
       refine .cond rfl (fun r7 => ?_) (fun r7 => ?_)
       ·
        simp only [sps] at r7
        have mm3 := mul_bd (a := (c.comp.getD a []).getD f 0) (b := (d.src.length : Int)) (by omega) (by omega)
        obtain ⟨h3, s3, n3⟩ : ∃ h3, h3 = (c.comp.getD a []).getD f 0 * (d.src.length : Int) + (d.comp.getD b []).getD g 0 ∧ -1 ≤ h3 ∧ h3 ≤ 33000 := ⟨_, rfl, by omega, by omega⟩
        refine .regionD mo_B (.q 0 (.q 1 (.q 2 (.q 3 (.q 4 (.q 5 (.q 6 (.q 7 (.q 8 (.q 9 (.q 10 (.q 11 (.q 12 (.q 13 (.q 14 (.q 15 (.q 16 (.q 17 (.q 18 (.q 19 (.done))))))))))))))))))))) (by kernel_rfl) ?_
        refine .q rfl (.fieldAddr fo_29_4_B rfl) ?_
        refine .q rfl (.load on_23_B rfl (by first | assumption | exact Mem.of_get m 4 _ rfl)) ?_
        refine .mv rfl rfl ?_
        refine .q rfl (.idxN sl_23_B (Intss.sl (by assumption)) rfl rfl (by omega)) ?_
        refine .q rfl (.loadR on_22_B (by assumption) rfl (by omega)) ?_
        refine .mv rfl rfl ?_
        refine .q rfl (.idxN sl_22_A (by assumption) rfl rfl (by omega)) ?_
        refine .q rfl (.loadI on_2_A (by assumption) rfl (by omega)) ?_
        refine .mv rfl rfl ?_
        refine .q rfl (.mul rfl rfl rfl (by omega) (by omega)) ?_
        refine .q rfl (.fieldAddr fo_29_4_B rfl) ?_
        refine .q rfl (.load on_23_B rfl (by first | assumption | exact Mem.of_get n 4 _ rfl)) ?_
        refine .mv rfl rfl ?_
        refine .q rfl (.idxN sl_23_B (Intss.sl (by assumption)) rfl rfl (by omega)) ?_
        refine .q rfl (.loadR on_22_B (by assumption) rfl (by omega)) ?_
        refine .mv rfl rfl ?_
        refine .q rfl (.idxN sl_22_A (by assumption) rfl rfl (by omega)) ?_
        refine .q rfl (.loadI on_2_A (by assumption) rfl (by omega)) ?_
        refine .q rfl (.add rfl rfl rfl (by omega) (by omega)) ?_
        refine .mv rfl rfl ?_
        refine .done ?_
        refine p5 _ _ (.region (.mv rfl (.mv rfl ?_)))
        refine .R rfl (.litA rfl sl_22_A ze_2_L rfl rfl rfl rfl) ?_
        rintro _ H165 ⟨g165, rfl, l8, ge165, r5⟩
        replace l := l.trans l8
        replace d3 := d3.le l8
        replace m := l8.2 _ _ m
        replace n := l8.2 _ _ n
        replace d4 := l8.2 _ _ d4
        have lt_at165 := GHeap.ltg r5
        replace hin := i.mono l
        replace hin1 := e.mono l
        clear t z1 y0
        have t : Cat.At _ g2 0 c p := ⟨Mem.of_get m, hin⟩
        clear u q6 aN x8
        have u : Cat.At _ g3 0 d q := ⟨Mem.of_get n, hin1⟩
        clear u1 u2
        refine .R rfl (.appendI rfl sl_22_A ze_2_L rfl by_2_L sl_22_A rfl rfl (by assumption) (by assumption) (by first | omega | (simp <;> omega)) (by omega) (by omega)) ?_
        rintro _ H166 ⟨g166, rfl, m5, ge166, at166⟩
        replace l := l.st m5 (fun k hk => ⟨by omega, trivial⟩)
        replace d3 := d3.sQ m5
        have v : NE g2 a0 := ⟨c6.ne d9.ne (by omega)⟩
        replace m := m5.s m v.ne
        have w : NE g3 a0 := ⟨c6.ne d7.ne (by omega)⟩
        replace n := m5.s n w.ne
        replace hin := i.mono l
        replace hin1 := e.mono l
        clear t
        have t : Cat.At _ g2 0 c p := ⟨Mem.of_get m, hin⟩
        clear u
        have u : Cat.At _ g3 0 d q := ⟨Mem.of_get n, hin1⟩
        refine .mv rfl (.nil (q0 _ _ (.region (.mv rfl ?_))))
        refine .q rfl (.add rfl rfl rfl (by omega) (by omega)) ?_
        refine .mv rfl (.nil ?_)
        refine p4 ((g + 1, w2 ++ [h3], _, _)) _ _ ?_ ?_ ⟨rfl, rfl, rfl, rfl, rfl, rfl, rfl, rfl, rfl, rfl, rfl, trivial⟩
        ·
         refine ⟨d3, by (rw [s3]; assumption), by exact ⟨.inr (by omega)⟩, by (simp only [List.length_append, List.length_cons, List.length_nil] <;> omega), ?_⟩
         exact ⟨⟨by omega, by simp; omega⟩, hW.snoc (by omega) (by omega)⟩
        (dsimp only; omega)
       obtain ⟨h3, s3, n3⟩ : ∃ h3 : Int, h3 = -1 ∧ -1 ≤ h3 ∧ h3 ≤ 33000 := ⟨_, rfl, by omega, by omega⟩
       refine .skip ?_
       refine p5 _ _ (.region (.mv rfl (.mv rfl ?_)))
       refine .R rfl (.litA rfl sl_22_A ze_2_L rfl rfl rfl rfl) ?_
       rintro _ H165x2 ⟨g165x2, rfl, f1, ge165x2, o7⟩
       replace l := l.trans f1
       replace d3 := d3.le f1
       replace m := f1.2 _ _ m
       replace n := f1.2 _ _ n
       replace d4 := f1.2 _ _ d4
       have lt_at165x2 := GHeap.ltg o7
       replace hin := i.mono l
       replace hin1 := e.mono l
       have t : Cat.At _ g2 0 c p := ⟨Mem.of_get m, hin⟩
       have u : Cat.At _ g3 0 d q := ⟨Mem.of_get n, hin1⟩
       refine .R rfl (.appendI rfl sl_22_A ze_2_L rfl by_2_L sl_22_A rfl rfl (by assumption) (by assumption) (by first | omega | (simp <;> omega)) (by omega) (by omega)) ?_
       rintro _ H166x2 ⟨g166x2, rfl, g5, ge166x2, at166x2⟩
       replace l := l.st g5 (fun k hk => ⟨by omega, trivial⟩)
       replace d3 := d3.sQ g5
       have v : NE g2 a0 := ⟨c6.ne d9.ne (by omega)⟩
       replace m := g5.s m v.ne
       have w : NE g3 a0 := ⟨c6.ne d7.ne (by omega)⟩
       replace n := g5.s n w.ne
       replace hin := i.mono l
       replace hin1 := e.mono l
       clear t
       have t : Cat.At _ g2 0 c p := ⟨Mem.of_get m, hin⟩
       clear u
       have u : Cat.At _ g3 0 d q := ⟨Mem.of_get n, hin1⟩
       refine .mv rfl (.nil (q0 _ _ (.region (.mv rfl ?_))))
       refine .q rfl (.add rfl rfl rfl (by omega) (by omega)) ?_
       refine .mv rfl (.nil ?_)
       refine p4 ((g + 1, w2 ++ [h3], _, _)) _ _ ?_ ?_ ⟨rfl, rfl, rfl, rfl, rfl, rfl, rfl, rfl, rfl, rfl, rfl, trivial⟩
       ·
        refine ⟨d3, by (rw [s3]; assumption), by exact ⟨.inr (by omega)⟩, by (simp only [List.length_append, List.length_cons, List.length_nil] <;> omega), ?_⟩
        exact ⟨⟨by omega, by simp; omega⟩, hW.snoc (by omega) (by omega)⟩
       (dsimp only; omega)
      obtain ⟨h3, s3, n3⟩ : ∃ h3 : Int, h3 = -1 ∧ -1 ≤ h3 ∧ h3 ≤ 33000 := ⟨_, rfl, by omega, by omega⟩
      refine .z rfl (.z rfl (.z rfl (.z rfl (.z rfl (.z rfl (.z rfl (.z rfl (.z rfl (.q rfl (.pickF rfl rfl) (.nil (r4 _ _ ?_)))))))))))
      refine .condF rfl ?_
      refine .skip ?_
      refine p5 _ _ (.region (.mv rfl (.mv rfl ?_)))
      refine .R rfl (.litA rfl sl_22_A ze_2_L rfl rfl rfl rfl) ?_
      rintro _ H165x3 ⟨g165x3, rfl, f2, ge165x3, o3⟩
      replace l := l.trans f2
      replace d3 := d3.le f2
      replace m := f2.2 _ _ m
      replace n := f2.2 _ _ n
      replace d4 := f2.2 _ _ d4
      have lt_at165x3 := GHeap.ltg o3
      replace hin := i.mono l
      replace hin1 := e.mono l
      have t : Cat.At _ g2 0 c p := ⟨Mem.of_get m, hin⟩
      have u : Cat.At _ g3 0 d q := ⟨Mem.of_get n, hin1⟩
      refine .R rfl (.appendI rfl sl_22_A ze_2_L rfl by_2_L sl_22_A rfl rfl (by assumption) (by assumption) (by first | omega | (simp <;> omega)) (by omega) (by omega)) ?_
      rintro _ H166x3 ⟨g166x3, rfl, g6, ge166x3, at166x3⟩
      replace l := l.st g6 (fun k hk => ⟨by omega, trivial⟩)
      replace d3 := d3.sQ g6
      have v : NE g2 a0 := ⟨c6.ne d9.ne (by omega)⟩
      replace m := g6.s m v.ne
      have w : NE g3 a0 := ⟨c6.ne d7.ne (by omega)⟩
      replace n := g6.s n w.ne
      replace hin := i.mono l
      replace hin1 := e.mono l
      clear t
      have t : Cat.At _ g2 0 c p := ⟨Mem.of_get m, hin⟩
      clear u
      have u : Cat.At _ g3 0 d q := ⟨Mem.of_get n, hin1⟩
      refine .mv rfl (.nil (q0 _ _ (.region (.mv rfl ?_))))
      refine .q rfl (.add rfl rfl rfl (by omega) (by omega)) ?_
      refine .mv rfl (.nil ?_)
      refine p4 ((g + 1, w2 ++ [h3], _, _)) _ _ ?_ ?_ ⟨rfl, rfl, rfl, rfl, rfl, rfl, rfl, rfl, rfl, rfl, rfl, trivial⟩
      ·
       refine ⟨d3, by (rw [s3]; assumption), by exact ⟨.inr (by omega)⟩, by (simp only [List.length_append, List.length_cons, List.length_nil] <;> omega), ?_⟩
       exact ⟨⟨by omega, by simp; omega⟩, hW.snoc (by omega) (by omega)⟩
      (dsimp only; omega)
     try simp only [sps] at p9
     refine .exit ?_
     refine w5 _ _ (.region (.mv rfl ?_))
     refine .q rfl (.add rfl rfl rfl (by omega) (by omega)) ?_
     refine .mv rfl (.nil ?_)
     refine t4 ((f + 1, w2, _, _)) _ _ ?_ ?_ ⟨rfl, rfl, rfl, rfl, rfl, rfl, rfl, rfl, rfl, rfl, trivial⟩
     ·
      refine ⟨f6, by assumption, by exact c6.trans d1 (by omega), by omega, ?_⟩
      have e1 := sm f d.src.length
      exact ⟨⟨by omega, by omega⟩, hW⟩
     (dsimp only; omega)
    try simp only [sps] at p7
    refine .exit ?_
    refine w8 _ _ (.region ?_)
    obtain rfl : f = c.src.length := by omega
    obtain rfl := p3
    refine .q rfl (.fieldAddr fo_29_4_B rfl) ?_
    refine .q rfl (.load on_23_B rfl (by first | assumption | exact Mem.of_get c3 4 _ rfl)) ?_
    refine .mv rfl ?_
    refine .R rfl (.litA rfl sl_23_B ze_22_Hj rfl rfl rfl rfl) ?_
    rintro _ H170 ⟨g170, rfl, e6, ge170, q8⟩
    replace l := l.trans e6
    replace c5 := c5.le e6
    replace rk := rk.le e6
    replace m := e6.2 _ _ m
    replace n := e6.2 _ _ n
    replace o := e6.2 _ _ o
    replace d6 := e6.2 _ _ d6
    replace d2 := e6.2 _ _ d2
    replace c3 := e6.2 _ _ c3
    replace e8 := e6.2 _ _ e8
    have lt_at170 := GHeap.ltg q8
    replace hin := i.mono l
    replace hin1 := e.mono l
    have t : Cat.At _ g2 0 c p := ⟨Mem.of_get m, hin⟩
    have u : Cat.At _ g3 0 d q := ⟨Mem.of_get n, hin1⟩
    refine .R rfl (.appendV rfl sl_23_B ze_22_Hj rfl by_22_Hj sl_23_B rfl rfl (by assumption) (by assumption) (by first | omega | (simp <;> omega)) rfl rfl (by omega) (by omega)) ?_
    rintro _ H171 ⟨t6, rfl, f3, ge171, o8⟩
    replace l := l.st f3 (fun k hk => ⟨by omega, trivial⟩)
    replace c5 := c5.sQ f3
    replace rk := rk.sQ f3
    replace m := f3.same _ _ ⟨(l3.ne j4.ne (by omega)), trivial⟩ m
    replace n := f3.same _ _ ⟨(l3.ne k6.ne (by omega)), trivial⟩ n
    replace d6 := f3.s d6
    replace d2 := f3.s d2
    replace c3 := f3.same _ _ ⟨(Ne.symm m8), trivial⟩ c3
    replace e8 := f3.same _ _ ⟨(Ne.symm (d1.ne f0.ne (by omega))), trivial⟩ e8
    replace hin := i.mono l
    replace hin1 := e.mono l
    clear t
    have t : Cat.At _ g2 0 c p := ⟨Mem.of_get m, hin⟩
    clear u
    have u : Cat.At _ g3 0 d q := ⟨Mem.of_get n, hin1⟩
    refine .q rfl (.fieldAddr fo_29_4_B rfl) ?_
    refine .r0 rfl rfl (.storeR rfl sz_23_Ch rfl rfl rfl (by assumption) (by first | exact Nat.le_of_ble_eq_true rfl | (simp; done) | (simp <;> omega))) ?_
    rintro _ H29006 ⟨rfl, c8, o5⟩
    replace l := l.st c8 (fun k hk => ⟨by omega, trivial⟩)
    replace c5 := c5.sA c8
    replace rk := rk.sA c8
    replace m := c8.s m b0.ne
    replace n := c8.s n c4.ne
    replace d6 := c8.s d6 f9.ne
    replace d2 := c8.s d2 h6.ne
    replace e8 := c8.same _ _ ⟨(Ne.symm (d1.ne h7.ne (by omega))), trivial⟩ e8
    replace o8 := c8.s o8
    replace hin := i.mono l
    replace hin1 := e.mono l
    clear t
    have t : Cat.At _ g2 0 c p := ⟨Mem.of_get m, hin⟩
    clear u
    have u : Cat.At _ g3 0 d q := ⟨Mem.of_get n, hin1⟩
    try simp only [Nat.zero_add, List.set_cons_succ, List.set_cons_zero] at o5
    refine .nil (u3 _ _ (.region (.mv rfl ?_)))
    refine .q rfl (.add rfl rfl rfl (by omega) (by omega)) ?_
    refine .mv rfl (.nil ?_)
    refine u9 ((b + 1, s2 ++ [c.src.getD a 0 * d.obj + d.src.getD b 0], t2 ++ [c.tgt.getD a 0 * d.obj + d.tgt.getD b 0], upd r2 c2.length (some ⟨e2, 0, none⟩), c2 ++ [row], s7, o2, t6)) _ _ ?_ ?_ ⟨rfl, rfl, rfl, rfl, rfl, rfl, rfl, rfl, trivial⟩
    ·
     refine ⟨c5, by assumption, by exact ⟨.inr (by omega)⟩, by assumption, by exact ⟨.inr (by omega)⟩, by (rw [slsL_snoc]; assumption), by exact ⟨.inr (by omega)⟩, by (rw [List.length_append]; assumption), by omega, by omega, by omega, by omega, by omega, by omega, ?_⟩
     have hR' := hR.st rk (.cons r8 (.cons s6 (.cons (hR.neT hatC rfl) (.cons (hR.neT t9 rfl) (.nil _ _)))))
     have z2 := hR.ne (g := e2) (d1.ge (by omega) (by omega))
     have aE := hR.ne (g := s7) (by omega)
     have z9 := hR.ne (g := o2) (by omega)
     have hx1 : e2 ≠ s7 := d1.ne' (by omega) (by omega)
     have hx2 : e2 ≠ o2 := d1.ne' (by omega) (by omega)
     have hx3 : e2 ≠ gLI := d1.ne' (by omega) (by omega)
     exact ⟨⟨by omega, by simp; omega, by simp; omega, by simp; omega⟩, hS.snoc (by omega) (by omega), hT.snoc (by omega) (by omega), hC.snoc (by omega) hW, hR'.snoc2 (by assumption) z2 (by omega), ne_snoc aE (by omega), ne_snoc z9 (by omega), ne_snoc q3 (by omega)⟩
    (dsimp only; omega)
   try simp only [sps] at u7
   refine .exit ?_
   refine w4 _ _ (.region (.mv rfl ?_))
   refine .q rfl (.add rfl rfl rfl (by omega) (by omega)) ?_
   refine .mv rfl (.nil ?_)
   refine x7 ((a + 1, s2, t2, r2, c2, f5, f7, f4)) _ _ ?_ ?_ ⟨rfl, rfl, rfl, rfl, rfl, rfl, rfl, trivial⟩
   ·
    refine ⟨l2, by assumption, by exact k9.trans g8 (by omega), by assumption, by exact l1.trans h9 (by omega), by assumption, by exact l3.trans i7 (by omega), by assumption, by assumption, by assumption, by assumption, by assumption, by assumption, by assumption, ?_⟩
    have e1 := sm a d.src.length
    exact ⟨⟨by omega, by omega, by omega, by omega⟩, hS, hT, hC, hR, r8, s6, q3⟩
   (dsimp only; omega)
  try simp only [sps] at t7
  refine .exit ?_
  refine u0 _ _ (.seq (fun K37 s9 => .region ?_))
  refine .q rfl (.loadM ag_29_D rfl ⟨rfl, Mem.of_get r⟩) ?_
  refine .r0 rfl rfl (.fillA rfl sz_29_D rfl rfl rfl rfl) ?_
  rintro _ H30001 ⟨rfl, d0, o1⟩
  replace l := l.st d0 (fun k hk => ⟨by omega, trivial⟩)
  replace m := d0.s m
  replace n := d0.s n
  replace k7 := d0.same _ _ ⟨(Ne.symm (e3.ne j1.ne (by omega))), trivial⟩ k7
  replace m4 := d0.same _ _ ⟨(Ne.symm (g8.ne j8.ne (by omega))), trivial⟩ m4
  replace n1 := d0.same _ _ ⟨(Ne.symm (h9.ne j2.ne (by omega))), trivial⟩ n1
  replace m9 := d0.same _ _ ⟨(Ne.symm (i7.ne j5.ne (by omega))), trivial⟩ m9
  replace hin := i.mono l
  replace hin1 := e.mono l
  have t : Cat.At _ g2 0 c p := ⟨Mem.of_get m, hin⟩
  have u : Cat.At _ g3 0 d q := ⟨Mem.of_get n, hin1⟩
  refine .nil (s9 _ _ ?_)
  refine .ret ?_
  refine v4 _ _ ?_
  refine ⟨_, _, _, _, rfl, ag_29_D, (by rfl), (Mem.of_get o1), ?_⟩
  obtain rfl : a = c.src.length := by omega
  have hx4 : gLF ≠ gLI := g8.ne' (e3.ne' (by omega) (by omega)) (by omega)
  have hx5 : gLT ≠ gLI := h9.ne' (e3.ne' (by omega) (by omega)) (by omega)
  have x3 := l5
  have hR' := hR.st d0 (.cons (hR.neT x3 rfl) (.nil _ _))
  exact ⟨⟨c.obj * d.obj, ss, ts, is, cs⟩, rect_mk (by omega) (by omega) hts (hS.mono (by omega) (by omega)) (hT.mono (by omega) (by omega)) (by rw [hl]; congr 1; omega) (hB.mono (by omega) (by omega)) (by omega) (by rw [aB]; exact hC.mono (by omega) (by omega)), l, gLF, gLT, gLI, gLC, rr, by simp [Cat.cells, ownP, hts, hcl], ⟨m4, n1, k7, m9, by omega, by omega, by omega, by omega, by omega, by omega, by omega, hR', r8, s6, q3⟩⟩
end Go.Proofs.Ytjdedelneppnlaa
namespace Go.Proofs.Ytjdedelneppnlaa
open Go Go.GL Go.RowKit Go.Proofs
set_option maxHeartbeats 8000000 in
theorem l02Some_c {gS : Nat} {m n : Int} {H : GHeap} (hs : DSrc 120 H gS := by assumption) :
    GCalls Try.prog 115 [.pointer (some ⟨gS, 0, none⟩), .int .i64 m, .int .i64 n] H (DrawnCat 120 33000 gS H) := by
  have hlS := hs.lt
  refine GCalls.body (N := 48) (rs := [.cell 6 29]) Try.func115 rfl rfl rfl rfl (fun Qx d0 hend => ?_)
  refine .fg [0, 1, 2] rfl ?_
  have j := St.refl [gS] H
  refine .seq (fun K1 k0 => .region ?_)
  refine .R rfl (.allocR rfl ze_29_Hj rfl) ?_
  rintro _ H6 ⟨g6, rfl, h8, ge6, t⟩
  replace j := j.le h8
  have lt_at6 := GHeap.ltg t
  refine .nil (k0 _ _ (.seq (fun K2 j4 => .seq (fun K3 j9 => .region ?_))))
  have hs := hs.le h8
  refine .mv rfl (.nil (j9 _ _ ?_))
  refine .block ?_
  refine .loopR (σ := Nat) [(0, some _), (1, some _), (2, some _), (6, some _)] (fun i => [(7, some (.int .i64 (i : Int)))]) (fun i H' => St [gS] H6 H' ∧ i ≤ 12 ∧ DSrc 120 H' gS) (fun i => 12 - i) (0) ⟨rfl, rfl, rfl, rfl, trivial⟩ ⟨rfl, trivial⟩ ?_ ?_
  ·
   refine ⟨.refl _ _, ?_⟩
   exact ⟨by omega, hs⟩
  rintro i HL1 ⟨b, hI⟩ KL1 a3
  refine .forget (fr' := [(7, some (.int .i64 (i : Int))), (0, some _), (1, some _), (2, some _), (6, some _)]) ⟨rfl, rfl, rfl, rfl, rfl, trivial⟩ ?_
  have nx_HL1 := b.nx
  replace j := j.sA b
  have l : NE g6 gS := .a
  replace t := b.s t l.ne
  obtain ⟨hi, hs⟩ := hI
  refine .seq (fun K4 i8 => .seq (fun K5 i7 => .region (.mv rfl (.q rfl (.cmp rfl rfl rfl) (.nil (i7 _ _ ?_))))))
  refine .cond rfl (fun h2 => ?_) (fun h2 => ?_)
  ·
   simp only [sps] at h2
   refine .skip ?_
   refine i8 _ _ (.seq (fun K6 c8 => ?_))
   refine .block ?_
   refine .seq (fun K7 k2 => .region (.mv rfl ?_))
   refine .call rfl rfl rfl rfl @Try.call138 rfl (l02Family_c) ?_
   rintro _ h9 ⟨j5, p14, rfl, b6, d8, d7, hs⟩
   have nx_H14 := d7.nx
   replace j := j.sA d7
   replace b := b.sA d7
   replace t := d7.s t l.ne
   have b1 := d8
   have e : Keep HL1.next h9 h9 := fun _ _ _ h => h
   refine .R rfl (.allocR rfl ze_29_Hj rfl) ?_
   rintro _ H8 ⟨g8, rfl, f7, ge8, at8⟩
   replace j := j.le f7
   replace b := b.le f7
   replace hs := hs.le f7
   replace t := f7.2 _ _ t
   replace e := Keep.le e f7
   refine .r0 rfl rfl (.fillA rfl sz_29_D rfl rfl rfl rfl) ?_
   rintro _ H4003 ⟨rfl, a6, d⟩
   replace j := j.sA a6
   replace b := b.sA a6
   replace hs := hs.sA a6
   have w : NE g6 g8 := .a
   replace t := a6.s t w.ne
   replace e := Keep.st e a6 (fun k hb hk => ⟨(by omega), trivial⟩)
   have lt_at4003 := GHeap.ltg d
   refine .nil (k2 _ _ (.seq (fun K8 i1 => .seq (fun K9 j8 => .region (.mv rfl ?_)))))
   refine .call rfl rfl rfl rfl @Try.call70 rfl (l01Next_c) ?_
   rintro _ i3 ⟨k16, rfl, ka16, kb16, kc16, c2, hs⟩
   have nx_H16 := c2.nx
   replace j := j.sA c2
   replace b := b.sA c2
   replace t := c2.s t l.ne
   have r : NE g8 gS := .a
   replace d := c2.s d r.ne
   replace e := Keep.st e c2 (fun k hb hk => ⟨(by omega), trivial⟩)
   refine .q rfl (.cmp rfl rfl rfl) (.nil (j8 _ _ ?_))
   refine .cond rfl (fun g3 => ?_) (fun g3 => ?_)
   ·
    try simp only [sps] at g3
    refine .regionDB mo_B (.q 0 (.q 1 (.c 2 1 (.c 3 0 (.c 4 0 (.done)))))) (by kernel_rfl) (GHeap.le_erase i3 gS) ?_
    have b3 := GHeap.le_erase i3 gS
    have f5 := GHeap.get_erase_of (g := gS) d (by omega)
    refine .qB rfl b3 (.loadM ag_29_D rfl ⟨rfl, Mem.of_get f5⟩) ?_
    refine .qB rfl b3 (.move rfl) ?_
    refine .call1 rfl rfl rfl rfl rfl @Try.call138 rfl (l02Family_c) ?_
    rintro _ i9 ⟨c20, p20, rfl, d4, j3, b8, hs⟩
    replace b3 := b3.erase_st b8
    refine ⟨b3, ?_⟩
    have nx_H20 := b8.nx
    replace j := j.sA b8
    replace b := b.sA b8
    replace t := b8.s t l.ne
    replace d := b8.s d r.ne
    replace e := Keep.st e b8 (fun k hb hk => ⟨(by omega), trivial⟩)
    replace d8 := b1.keep e (Nat.le_refl _)
    have c7 := d8.inn
    have i2 := j3.inn
    refine .call0 rfl rfl rfl rfl rfl @Try.call139 rfl (l03Sum_c (hin := c7) (hin1 := i2) (hc := b6) (hd := d4) (hN := by omega)) ?_
    rintro _ i0 ⟨c9, ga21, gb21, gc21, gd21, rr21, rfl, j2⟩
    have e3 := j2.catR
    replace j := j.le c9
    replace b := b.le c9
    replace hs := hs.le c9
    replace t := c9.2 _ _ t
    replace d := c9.2 _ _ d
    have c0 := e3
    have p : Keep i9.next i0 i0 := fun _ _ _ h => h
    clear c7
    clear i2
    refine .r0 rfl rfl rfl (.fillA rfl sz_29_D rfl rfl rfl rfl) ?_
    rintro _ H6004 ⟨rfl, a5, o⟩
    replace j := j.sA a5
    replace b := b.sA a5
    replace hs := hs.sA a5
    replace t := a5.s t w.ne
    replace p := Keep.st p a5 (fun k hb hk => ⟨(by omega), trivial⟩)
    have lt_at6004 := GHeap.ltg o
    refine .done ?_
    refine i1 _ _ (.seq (fun K10 f9 => .seq (fun K11 h3 => .region (.mv rfl ?_))))
    refine .call rfl rfl rfl rfl @Try.call70 rfl (l01Next_c) ?_
    rintro _ i4 ⟨k23, rfl, ka23, kb23, kc23, c3, hs⟩
    have nx_H23 := c3.nx
    replace j := j.sA c3
    replace b := b.sA c3
    replace t := c3.s t l.ne
    replace o := c3.s o r.ne
    replace p := Keep.st p c3 (fun k hb hk => ⟨(by omega), trivial⟩)
    replace e3 := c0.keep p (Nat.le_refl _)
    have d9 := e3.inn
    refine .q rfl (.cmp rfl rfl rfl) (.nil (h3 _ _ ?_))
    refine .cond rfl (fun e8 => ?_) (fun e8 => ?_)
    ·
     try simp only [sps] at e8
     refine .regionDB mo_B (.q 0 (.q 1 (.c 2 1 (.c 3 0 (.c 4 0 (.done)))))) (by kernel_rfl) (GHeap.le_erase i4 gS) ?_
     have b3 := GHeap.le_erase i4 gS
     have f5 := GHeap.get_erase_of (g := gS) o (by omega)
     refine .qB rfl b3 (.loadM ag_29_D rfl ⟨rfl, Mem.of_get f5⟩) ?_
     refine .qB rfl b3 (.move rfl) ?_
     refine .call1 rfl rfl rfl rfl rfl @Try.call138 rfl (l02Family_c) ?_
     rintro _ j0 ⟨k5, j6, rfl, f4, g4, c1, hs⟩
     replace b3 := b3.erase_st c1
     refine ⟨b3, ?_⟩
     have nx_H27 := c1.nx
     replace j := j.sA c1
     replace b := b.sA c1
     replace t := c1.s t l.ne
     replace o := c1.s o r.ne
     replace p := Keep.st p c1 (fun k hb hk => ⟨(by omega), trivial⟩)
     replace e3 := c0.keep p (Nat.le_refl _)
     clear d9
     have d9 := e3.inn
     have g1 := g4.inn
     refine .call0 rfl rfl rfl rfl rfl @Try.call140 rfl (l03Product_c (hin := by first | exact d9 | exact c7) (hin1 := g1) (hc := by first | exact (b6.sum d4).mono (by omega) | exact b6.mono (by omega)) (hd := f4)) ?_
     rintro _ i6 ⟨h5, f3, d2, ga28, gb28, gc28, gd28, rr28, rfl, k1⟩
     have d1 := k1.catR
     replace j := j.le d2
     replace b := b.le d2
     replace hs := hs.le d2
     replace t := d2.2 _ _ t
     replace o := d2.2 _ _ o
     have a7 := d1
     have f : Keep j0.next i6 i6 := fun _ _ _ h => h
     clear d9
     clear g1
     refine .r0 rfl rfl rfl (.fillA rfl sz_29_D rfl rfl rfl rfl) ?_
     rintro _ H8004 ⟨rfl, a4, a9⟩
     replace j := j.sA a4
     replace b := b.sA a4
     replace hs := hs.sA a4
     replace t := a4.s t w.ne
     replace f := Keep.st f a4 (fun k hb hk => ⟨(by omega), trivial⟩)
     replace d1 := a7.keep f (Nat.le_refl _)
     have e7 := d1.inn
     refine .done ?_
     refine f9 _ _ (.seq (fun K12 e5 => .region (.q rfl (.fieldAddr fo_29_0_B rfl) ?_)))
     refine .q rfl (.load on_2_A rfl (by first | assumption | exact Mem.of_get a9 0 _ rfl)) ?_
     refine .mv rfl (.q rfl (.cmp rfl rfl rfl) (.mv rfl ?_))
     refine .split (fun b5 => ?_) (fun b5 => ?_)
     ·
      try simp only [sps] at b5
      refine .qg rfl (.fieldAddr fo_29_1_B rfl) ?_
      refine .qg rfl (.load on_22_B rfl (by first | assumption | exact Mem.of_get a9 1 _ rfl)) ?_
      refine .qg rfl (.len sl_22_A rfl) (.qg rfl (.move rfl) (.qg rfl (.cmp rfl rfl rfl) (.q rfl (.pickT rfl rfl) (.mv rfl ?_))))
      refine .split (fun b7 => ?_) (fun b7 => ?_)
      ·
       try simp only [sps] at b7
       refine .qg rfl (.loadM ag_29_D rfl ⟨rfl, Mem.of_get a9⟩) ?_
       refine .callQg rfl rfl rfl rfl rfl rfl @Try.call141 rfl (l02Fits_c (hin := by first | exact e7 | exact d9 | exact c7)) ?_
       refine .q rfl (.pickT rfl rfl) (.nil (e5 _ _ ?_))
       refine .cond rfl (fun b4 => ?_) (fun b4 => ?_)
       ·
        try simp only [sps] at b4
        refine .seq (fun K13 g7 => .region ?_)
        refine .q rfl (.loadM ag_29_D rfl ⟨rfl, Mem.of_get a9⟩) ?_
        refine .r0 rfl rfl (.fillA rfl sz_29_D rfl rfl rfl rfl) ?_
        rintro _ H10001 ⟨rfl, b2, d3⟩
        replace j := j.sA b2
        replace hs := hs.sA b2
        replace f := Keep.st f b2 (fun k hb hk => ⟨(by omega), trivial⟩)
        replace d1 := a7.keep f (Nat.le_refl _)
        clear e7
        refine .nil (g7 _ _ ?_)
        refine .ret ?_
        refine d0 _ _ ?_
        refine ⟨_, _, _, _, rfl, ag_29_D, (by rfl), (Mem.of_get d3), ?_⟩
        exact ⟨h5, _, rfl, f3, d1.keep (.of_le (.refl _)) (by omega), j, hs⟩
       try simp only [sps] at b4
       refine .skip ?_
       refine c8 _ _ (.region (.mv rfl ?_))
       refine .q rfl (.add rfl rfl rfl (by omega) (by omega)) ?_
       refine .mv rfl (.nil ?_)
       refine a3 (i + 1) _ _ ?_ ?_ ⟨rfl, rfl, rfl, rfl, rfl, trivial⟩
       ·
        refine ⟨b, ?_⟩
        exact ⟨by omega, hs⟩
       omega
      try simp only [sps] at b7
      refine .z rfl (.z rfl (.q rfl (.pickF rfl rfl) (.nil (e5 _ _ ?_))))
      refine .condF rfl ?_
      refine .skip ?_
      refine c8 _ _ (.region (.mv rfl ?_))
      refine .q rfl (.add rfl rfl rfl (by omega) (by omega)) ?_
      refine .mv rfl (.nil ?_)
      refine a3 (i + 1) _ _ ?_ ?_ ⟨rfl, rfl, rfl, rfl, rfl, trivial⟩
      ·
       refine ⟨b, ?_⟩
       exact ⟨by omega, hs⟩
      omega
     try simp only [sps] at b5
     refine .z rfl (.z rfl (.z rfl (.z rfl (.z rfl (.q rfl (.pickF rfl rfl) (.mv rfl (.z rfl (.z rfl (.q rfl (.pickF rfl rfl) (.nil (e5 _ _ ?_)))))))))))
     refine .condF rfl ?_
     refine .skip ?_
     refine c8 _ _ (.region (.mv rfl ?_))
     refine .q rfl (.add rfl rfl rfl (by omega) (by omega)) ?_
     refine .mv rfl (.nil ?_)
     refine a3 (i + 1) _ _ ?_ ?_ ⟨rfl, rfl, rfl, rfl, rfl, trivial⟩
     ·
      refine ⟨b, ?_⟩
      exact ⟨by omega, hs⟩
     omega
    try simp only [sps] at e8
    refine .skip ?_
    refine f9 _ _ (.seq (fun K14 f2 => .region (.q rfl (.fieldAddr fo_29_0_B rfl) ?_)))
    refine .q rfl (.load on_2_A rfl (by first | assumption | exact Mem.of_get o 0 _ rfl)) ?_
    refine .mv rfl (.q rfl (.cmp rfl rfl rfl) (.mv rfl ?_))
    refine .split (fun b5 => ?_) (fun b5 => ?_)
    ·
     try simp only [sps] at b5
     refine .qg rfl (.fieldAddr fo_29_1_B rfl) ?_
     refine .qg rfl (.load on_22_B rfl (by first | assumption | exact Mem.of_get o 1 _ rfl)) ?_
     refine .qg rfl (.len sl_22_A rfl) (.qg rfl (.move rfl) (.qg rfl (.cmp rfl rfl rfl) (.q rfl (.pickT rfl rfl) (.mv rfl ?_))))
     refine .split (fun b7 => ?_) (fun b7 => ?_)
     ·
      try simp only [sps] at b7
      refine .qg rfl (.loadM ag_29_D rfl ⟨rfl, Mem.of_get o⟩) ?_
      refine .callQg rfl rfl rfl rfl rfl rfl @Try.call141 rfl (l02Fits_c (hin := by first | exact e7 | exact d9 | exact c7)) ?_
      refine .q rfl (.pickT rfl rfl) (.nil (f2 _ _ ?_))
      refine .cond rfl (fun b4 => ?_) (fun b4 => ?_)
      ·
       try simp only [sps] at b4
       refine .seq (fun K15 h0 => .region ?_)
       refine .q rfl (.loadM ag_29_D rfl ⟨rfl, Mem.of_get o⟩) ?_
       refine .r0 rfl rfl (.fillA rfl sz_29_D rfl rfl rfl rfl) ?_
       rintro _ H10001x2 ⟨rfl, a2, c4⟩
       replace j := j.sA a2
       replace hs := hs.sA a2
       replace p := Keep.st p a2 (fun k hb hk => ⟨(by omega), trivial⟩)
       replace e3 := c0.keep p (Nat.le_refl _)
       refine .nil (h0 _ _ ?_)
       refine .ret ?_
       refine d0 _ _ ?_
       refine ⟨_, _, _, _, rfl, ag_29_D, (by rfl), (Mem.of_get c4), ?_⟩
       exact ⟨_, _, rfl, (b6.sum d4).mono (by omega), e3.keep (.of_le (.refl _)) (by omega), j, hs⟩
      try simp only [sps] at b4
      refine .skip ?_
      refine c8 _ _ (.region (.mv rfl ?_))
      refine .q rfl (.add rfl rfl rfl (by omega) (by omega)) ?_
      refine .mv rfl (.nil ?_)
      refine a3 (i + 1) _ _ ?_ ?_ ⟨rfl, rfl, rfl, rfl, rfl, trivial⟩
      ·
       refine ⟨b, ?_⟩
       exact ⟨by omega, hs⟩
      omega
     try simp only [sps] at b7
     refine .z rfl (.z rfl (.q rfl (.pickF rfl rfl) (.nil (f2 _ _ ?_))))
     refine .condF rfl ?_
     refine .skip ?_
     refine c8 _ _ (.region (.mv rfl ?_))
     refine .q rfl (.add rfl rfl rfl (by omega) (by omega)) ?_
     refine .mv rfl (.nil ?_)
     refine a3 (i + 1) _ _ ?_ ?_ ⟨rfl, rfl, rfl, rfl, rfl, trivial⟩
     ·
      refine ⟨b, ?_⟩
      exact ⟨by omega, hs⟩
     omega
    try simp only [sps] at b5
    refine .z rfl (.z rfl (.z rfl (.z rfl (.z rfl (.q rfl (.pickF rfl rfl) (.mv rfl (.z rfl (.z rfl (.q rfl (.pickF rfl rfl) (.nil (f2 _ _ ?_)))))))))))
    refine .condF rfl ?_
    refine .skip ?_
    refine c8 _ _ (.region (.mv rfl ?_))
    refine .q rfl (.add rfl rfl rfl (by omega) (by omega)) ?_
    refine .mv rfl (.nil ?_)
    refine a3 (i + 1) _ _ ?_ ?_ ⟨rfl, rfl, rfl, rfl, rfl, trivial⟩
    ·
     refine ⟨b, ?_⟩
     exact ⟨by omega, hs⟩
    omega
   try simp only [sps] at g3
   refine .skip ?_
   refine i1 _ _ (.seq (fun K16 g0 => .seq (fun K17 h4 => .region (.mv rfl ?_))))
   refine .call rfl rfl rfl rfl @Try.call70 rfl (l01Next_c) ?_
   rintro _ e2 ⟨k23x2, rfl, ka23x2, kb23x2, kc23x2, a0, hs⟩
   have nx_H23x2 := a0.nx
   replace j := j.sA a0
   replace b := b.sA a0
   replace t := a0.s t l.ne
   replace d := a0.s d r.ne
   replace e := Keep.st e a0 (fun k hb hk => ⟨(by omega), trivial⟩)
   replace d8 := b1.keep e (Nat.le_refl _)
   have c7 := d8.inn
   refine .q rfl (.cmp rfl rfl rfl) (.nil (h4 _ _ ?_))
   refine .cond rfl (fun e8 => ?_) (fun e8 => ?_)
   ·
    try simp only [sps] at e8
    refine .regionDB mo_B (.q 0 (.q 1 (.c 2 1 (.c 3 0 (.c 4 0 (.done)))))) (by kernel_rfl) (GHeap.le_erase e2 gS) ?_
    have b3 := GHeap.le_erase e2 gS
    have f5 := GHeap.get_erase_of (g := gS) d (by omega)
    refine .qB rfl b3 (.loadM ag_29_D rfl ⟨rfl, Mem.of_get f5⟩) ?_
    refine .qB rfl b3 (.move rfl) ?_
    refine .call1 rfl rfl rfl rfl rfl @Try.call138 rfl (l02Family_c) ?_
    rintro _ f8 ⟨k5, j6, rfl, f4, g4, v, hs⟩
    replace b3 := b3.erase_st v
    refine ⟨b3, ?_⟩
    have nx_H27x2 := v.nx
    replace j := j.sA v
    replace b := b.sA v
    replace t := v.s t l.ne
    replace d := v.s d r.ne
    replace e := Keep.st e v (fun k hb hk => ⟨(by omega), trivial⟩)
    replace d8 := b1.keep e (Nat.le_refl _)
    clear c7
    have c7 := d8.inn
    have g1 := g4.inn
    refine .call0 rfl rfl rfl rfl rfl @Try.call140 rfl (l03Product_c (hin := by first | exact d9 | exact c7) (hin1 := g1) (hc := by first | exact (b6.sum d4).mono (by omega) | exact b6.mono (by omega)) (hd := f4)) ?_
    rintro _ e1 ⟨h5, f3, a8, ga28x2, gb28x2, gc28x2, gd28x2, rr28x2, rfl, f6⟩
    have d1 := f6.catR
    replace j := j.le a8
    replace b := b.le a8
    replace hs := hs.le a8
    replace t := a8.2 _ _ t
    replace d := a8.2 _ _ d
    have a7 := d1
    have f : Keep f8.next e1 e1 := fun _ _ _ h => h
    clear c7
    clear g1
    refine .r0 rfl rfl rfl (.fillA rfl sz_29_D rfl rfl rfl rfl) ?_
    rintro _ H8004x2 ⟨rfl, u, x⟩
    replace j := j.sA u
    replace b := b.sA u
    replace hs := hs.sA u
    replace t := u.s t w.ne
    replace f := Keep.st f u (fun k hb hk => ⟨(by omega), trivial⟩)
    replace d1 := a7.keep f (Nat.le_refl _)
    have e7 := d1.inn
    refine .done ?_
    refine g0 _ _ (.seq (fun K18 f0 => .region (.q rfl (.fieldAddr fo_29_0_B rfl) ?_)))
    refine .q rfl (.load on_2_A rfl (by first | assumption | exact Mem.of_get x 0 _ rfl)) ?_
    refine .mv rfl (.q rfl (.cmp rfl rfl rfl) (.mv rfl ?_))
    refine .split (fun b5 => ?_) (fun b5 => ?_)
    ·
     try simp only [sps] at b5
     refine .qg rfl (.fieldAddr fo_29_1_B rfl) ?_
     refine .qg rfl (.load on_22_B rfl (by first | assumption | exact Mem.of_get x 1 _ rfl)) ?_
     refine .qg rfl (.len sl_22_A rfl) (.qg rfl (.move rfl) (.qg rfl (.cmp rfl rfl rfl) (.q rfl (.pickT rfl rfl) (.mv rfl ?_))))
     refine .split (fun b7 => ?_) (fun b7 => ?_)
     ·
      try simp only [sps] at b7
      refine .qg rfl (.loadM ag_29_D rfl ⟨rfl, Mem.of_get x⟩) ?_
      refine .callQg rfl rfl rfl rfl rfl rfl @Try.call141 rfl (l02Fits_c (hin := by first | exact e7 | exact d9 | exact c7)) ?_
      refine .q rfl (.pickT rfl rfl) (.nil (f0 _ _ ?_))
      refine .cond rfl (fun b4 => ?_) (fun b4 => ?_)
      ·
       try simp only [sps] at b4
       refine .seq (fun K19 g5 => .region ?_)
       refine .q rfl (.loadM ag_29_D rfl ⟨rfl, Mem.of_get x⟩) ?_
       refine .r0 rfl rfl (.fillA rfl sz_29_D rfl rfl rfl rfl) ?_
       rintro _ H10001x3 ⟨rfl, a1, c6⟩
       replace j := j.sA a1
       replace hs := hs.sA a1
       replace f := Keep.st f a1 (fun k hb hk => ⟨(by omega), trivial⟩)
       replace d1 := a7.keep f (Nat.le_refl _)
       clear e7
       refine .nil (g5 _ _ ?_)
       refine .ret ?_
       refine d0 _ _ ?_
       refine ⟨_, _, _, _, rfl, ag_29_D, (by rfl), (Mem.of_get c6), ?_⟩
       exact ⟨h5, _, rfl, f3, d1.keep (.of_le (.refl _)) (by omega), j, hs⟩
      try simp only [sps] at b4
      refine .skip ?_
      refine c8 _ _ (.region (.mv rfl ?_))
      refine .q rfl (.add rfl rfl rfl (by omega) (by omega)) ?_
      refine .mv rfl (.nil ?_)
      refine a3 (i + 1) _ _ ?_ ?_ ⟨rfl, rfl, rfl, rfl, rfl, trivial⟩
      ·
       refine ⟨b, ?_⟩
       exact ⟨by omega, hs⟩
      omega
     try simp only [sps] at b7
     refine .z rfl (.z rfl (.q rfl (.pickF rfl rfl) (.nil (f0 _ _ ?_))))
     refine .condF rfl ?_
     refine .skip ?_
     refine c8 _ _ (.region (.mv rfl ?_))
     refine .q rfl (.add rfl rfl rfl (by omega) (by omega)) ?_
     refine .mv rfl (.nil ?_)
     refine a3 (i + 1) _ _ ?_ ?_ ⟨rfl, rfl, rfl, rfl, rfl, trivial⟩
     ·
      refine ⟨b, ?_⟩
      exact ⟨by omega, hs⟩
     omega
    try simp only [sps] at b5
    refine .z rfl (.z rfl (.z rfl (.z rfl (.z rfl (.q rfl (.pickF rfl rfl) (.mv rfl (.z rfl (.z rfl (.q rfl (.pickF rfl rfl) (.nil (f0 _ _ ?_)))))))))))
    refine .condF rfl ?_
    refine .skip ?_
    refine c8 _ _ (.region (.mv rfl ?_))
    refine .q rfl (.add rfl rfl rfl (by omega) (by omega)) ?_
    refine .mv rfl (.nil ?_)
    refine a3 (i + 1) _ _ ?_ ?_ ⟨rfl, rfl, rfl, rfl, rfl, trivial⟩
    ·
     refine ⟨b, ?_⟩
     exact ⟨by omega, hs⟩
    omega
   try simp only [sps] at e8
   refine .skip ?_
   refine g0 _ _ (.seq (fun K20 f1 => .region (.q rfl (.fieldAddr fo_29_0_B rfl) ?_)))
   refine .q rfl (.load on_2_A rfl (by first | assumption | exact Mem.of_get d 0 _ rfl)) ?_
   refine .mv rfl (.q rfl (.cmp rfl rfl rfl) (.mv rfl ?_))
   refine .split (fun b5 => ?_) (fun b5 => ?_)
   ·
    try simp only [sps] at b5
    refine .qg rfl (.fieldAddr fo_29_1_B rfl) ?_
    refine .qg rfl (.load on_22_B rfl (by first | assumption | exact Mem.of_get d 1 _ rfl)) ?_
    refine .qg rfl (.len sl_22_A rfl) (.qg rfl (.move rfl) (.qg rfl (.cmp rfl rfl rfl) (.q rfl (.pickT rfl rfl) (.mv rfl ?_))))
    refine .split (fun b7 => ?_) (fun b7 => ?_)
    ·
     try simp only [sps] at b7
     refine .qg rfl (.loadM ag_29_D rfl ⟨rfl, Mem.of_get d⟩) ?_
     refine .callQg rfl rfl rfl rfl rfl rfl @Try.call141 rfl (l02Fits_c (hin := by first | exact e7 | exact d9 | exact c7)) ?_
     refine .q rfl (.pickT rfl rfl) (.nil (f1 _ _ ?_))
     refine .cond rfl (fun b4 => ?_) (fun b4 => ?_)
     ·
      try simp only [sps] at b4
      refine .seq (fun K21 g9 => .region ?_)
      refine .q rfl (.loadM ag_29_D rfl ⟨rfl, Mem.of_get d⟩) ?_
      refine .r0 rfl rfl (.fillA rfl sz_29_D rfl rfl rfl rfl) ?_
      rintro _ H10001x4 ⟨rfl, y, c5⟩
      replace j := j.sA y
      replace hs := hs.sA y
      replace e := Keep.st e y (fun k hb hk => ⟨(by omega), trivial⟩)
      replace d8 := b1.keep e (Nat.le_refl _)
      refine .nil (g9 _ _ ?_)
      refine .ret ?_
      refine d0 _ _ ?_
      refine ⟨_, _, _, _, rfl, ag_29_D, (by rfl), (Mem.of_get c5), ?_⟩
      exact ⟨j5, _, rfl, b6.mono (by omega), d8.keep (.of_le (.refl _)) (by omega), j, hs⟩
     try simp only [sps] at b4
     refine .skip ?_
     refine c8 _ _ (.region (.mv rfl ?_))
     refine .q rfl (.add rfl rfl rfl (by omega) (by omega)) ?_
     refine .mv rfl (.nil ?_)
     refine a3 (i + 1) _ _ ?_ ?_ ⟨rfl, rfl, rfl, rfl, rfl, trivial⟩
     ·
      refine ⟨b, ?_⟩
      exact ⟨by omega, hs⟩
     omega
    try simp only [sps] at b7
    refine .z rfl (.z rfl (.q rfl (.pickF rfl rfl) (.nil (f1 _ _ ?_))))
    refine .condF rfl ?_
    refine .skip ?_
    refine c8 _ _ (.region (.mv rfl ?_))
    refine .q rfl (.add rfl rfl rfl (by omega) (by omega)) ?_
    refine .mv rfl (.nil ?_)
    refine a3 (i + 1) _ _ ?_ ?_ ⟨rfl, rfl, rfl, rfl, rfl, trivial⟩
    ·
     refine ⟨b, ?_⟩
     exact ⟨by omega, hs⟩
    omega
   try simp only [sps] at b5
   refine .z rfl (.z rfl (.z rfl (.z rfl (.z rfl (.q rfl (.pickF rfl rfl) (.mv rfl (.z rfl (.z rfl (.q rfl (.pickF rfl rfl) (.nil (f1 _ _ ?_)))))))))))
   refine .condF rfl ?_
   refine .skip ?_
   refine c8 _ _ (.region (.mv rfl ?_))
   refine .q rfl (.add rfl rfl rfl (by omega) (by omega)) ?_
   refine .mv rfl (.nil ?_)
   refine a3 (i + 1) _ _ ?_ ?_ ⟨rfl, rfl, rfl, rfl, rfl, trivial⟩
   ·
    refine ⟨b, ?_⟩
    exact ⟨by omega, hs⟩
   omega
  try simp only [sps] at h2
  refine .exit ?_
  refine j4 _ _ (.seq (fun K22 h7 => .region ?_))
  refine .R rfl (.litA rfl sl_22_A ze_2_L rfl rfl rfl rfl) ?_
  rintro _ H45 ⟨j1, rfl, e9, ge45, e0⟩
  replace j := j.le e9
  replace hs := hs.le e9
  replace t := e9.2 _ _ t
  have lt_at45 := GHeap.ltg e0
  refine .R rfl (.litA rfl sl_23_B ze_22_Hj rfl rfl rfl rfl) ?_
  rintro _ k3 ⟨g46, rfl, d5, ge46, g2⟩
  replace j := j.le d5
  replace hs := hs.le d5
  replace t := d5.2 _ _ t
  replace e0 := d5.2 _ _ e0
  have lt_at46 := GHeap.ltg g2
  refine .call rfl rfl rfl rfl @Try.call71 rfl ((by have hh := l03Poset_c (rel := [[1]]) (hin := ((lit_own (gs := [j1]) (by simp only [LitAt]; exact ⟨⟨Nat.zero_le _, e0⟩, trivial⟩) (by simp <;> omega)).done (by exact g2) (Nat.zero_le _)).intss) (hn := by decide) (hr := by decide); exact hh)) ?_
  rintro _ i5 ⟨j7, h1, e4, ga47, gb47, gc47, gd47, rr47, rfl, k4⟩
  have h6 := k4.catR
  replace j := j.le e4
  replace hs := hs.le e4
  replace t := e4.2 _ _ t
  have e6 := h6
  have b9 : Keep k3.next i5 i5 := fun _ _ _ h => h
  refine .r0 rfl rfl (.fillA rfl sz_29_D rfl rfl rfl rfl) ?_
  rintro _ H11003 ⟨rfl, b0, d6⟩
  replace j := j.sA b0
  replace hs := hs.sA b0
  replace b9 := Keep.st b9 b0 (fun k hb hk => ⟨(by omega), trivial⟩)
  replace h6 := e6.keep b9 (Nat.le_refl _)
  refine .nil (h7 _ _ ?_)
  refine .ret ?_
  refine d0 _ _ ?_
  refine ⟨_, _, _, _, rfl, ag_29_D, (by rfl), (Mem.of_get d6), ?_⟩
  exact ⟨j7, _, rfl, h1.mono (by decide), h6.keep (.of_le (.refl _)) (by omega), j, hs⟩
end Go.Proofs.Ytjdedelneppnlaa
namespace Go.Proofs.Ytjdedelneppnlaa
open Go Go.GL Go.RowKit Go.Proofs
set_option maxHeartbeats 8000000 in
theorem l02Bend_c {gS : Nat} {c : Cat} {p : CatP} {H : GHeap} (hs : DSrc 120 H gS := by assumption) (hin : c.In H p := by assumption) (hr : c.Rect 33000) :
    GCalls Try.prog 116 [.pointer (some ⟨gS, 0, none⟩), .agg (c.cells p).toArray] H (DrawnK 120 gS H) := by
  have hlS := hs.lt
  obtain ⟨a1, a2, a3, -, -, a6, -, a8, a9, -⟩ := id hr
  have hsm := hr.small (by omega)
  obtain ⟨n1, n2, n3, n4, n5, n6⟩ := id hsm
  refine GCalls.body (N := 92) (rs := [.cell 4 29]) Try.func116 rfl rfl rfl rfl (fun Qx e8 hend => ?_)
  refine .fg [0, 1] rfl ?_
  have o := St.refl [gS] H
  refine .seq (fun K1 q7 => .region ?_)
  refine .R rfl (.boxR rfl sz_29_D rfl) ?_
  rintro _ H3 ⟨g3, rfl, m6, ge3, k4⟩
  replace o := o.le m6
  have lt_at3 := GHeap.ltg k4
  refine .R rfl (.allocR rfl ze_29_Hj rfl) ?_
  rintro _ H4 ⟨g4, rfl, k6, ge4, c9⟩
  replace o := o.le k6
  replace k4 := k6.2 _ _ k4
  have lt_at4 := GHeap.ltg c9
  refine .nil (q7 _ _ (.seq (fun K2 p9 => .region ?_)))
  have hs := (hs.le m6).le k6
  have o9 := (hin.mono m6).mono k6
  refine .q rfl (.loadM ag_29_D rfl ⟨rfl, Mem.of_get k4⟩) ?_
  refine .call rfl rfl rfl rfl @Try.call142 rfl (l02OwnO_c (hin := o9) (hs := hsm)) ?_
  rintro _ H8 ⟨k7, gF, gT, gI, gC, rr, rfl, v8⟩
  have aF := v8.a1
  have aT := v8.a2
  have aI := v8.a3
  have aC := v8.a4
  have bF := v8.b1
  have bT := v8.b2
  have bI := v8.b3
  have bC := v8.b4
  have n12 := v8.n12
  have n13 := v8.n13
  have n23 := v8.n23
  have nC1 := row_ne aC aF rfl
  have nC2 := row_ne aC aT rfl
  have nC3 := row_ne aC aI rfl
  have hRR := v8.rows
  have b8 := St.refl [g3, gS, gF, gT, gI, gC] H8
  replace o := o.le k7
  replace hs := hs.le k7
  replace k4 := k7.2 _ _ k4
  replace c9 := k7.2 _ _ c9
  have lt_aF := GHeap.ltg aF
  refine .r0 rfl rfl (.fillA rfl sz_29_D rfl rfl rfl rfl) ?_
  rintro _ k5 ⟨rfl, d7, b⟩
  have nx_H1002 := d7.nx
  replace o := o.sA d7
  replace hs := hs.sA d7
  replace b8 := b8.sA d7
  have f4 : NE g4 g3 := .a
  replace c9 := d7.s c9 f4.ne
  have f5 : NE gF g3 := .a
  replace aF := d7.s aF f5.ne
  have f0 : NE gT g3 := .a
  replace aT := d7.s aT f0.ne
  have e7 : NE gI g3 := .a
  replace aI := d7.s aI e7.ne
  have e9 : NE gC g3 := .a
  replace aC := d7.s aC e9.ne
  have lt_at1002 := GHeap.ltg b
  replace b : GHeap.get k5 g3 = some (.row [.int .i64 c.obj, .slice (some ⟨gF, 0, none⟩) c.src.length c.src.length, .slice (some ⟨gT, 0, none⟩) c.tgt.length c.tgt.length, .slice (some ⟨gI, 0, none⟩) c.idn.length c.idn.length, .slice (some ⟨gC, 0, none⟩) c.comp.length c.comp.length] 29 true) := b
  refine .nil (p9 _ _ (.seq (fun K3 q6 => .region ?_)))
  have offA : Off rr c.comp.length [g3, gS, gF, gT, gI, gC] := .cons (hRR.lowNe (by omega)) (.cons (hRR.lowNe (by omega)) (.cons v8.r1 (.cons v8.r2 (.cons v8.r3 (.cons (hRR.neT v8.a4 rfl) (.nil _ _))))))
  refine .q rfl (.fieldAddr fo_29_1_B rfl) ?_
  refine .q rfl (.load on_22_B rfl (by first | assumption | exact Mem.of_get b 1 _ rfl)) ?_
  refine .q rfl (.len sl_22_A rfl) (.mv rfl (.nil (q6 _ _ (.seq (fun K4 p7 => .region (.mv rfl (.mv rfl ?_)))))))
  refine .call rfl rfl rfl rfl @Try.call70 rfl (l01Next_c) ?_
  rintro _ H14 ⟨f3, rfl, ka14, kb14, kc14, g5, hs⟩
  have nx_H14 := g5.nx
  replace o := o.sA g5
  replace b8 := b8.sA g5
  have z : NE g4 gS := .a
  replace c9 := g5.s c9 z.ne
  have v : NE gF gS := .a
  replace aF := g5.s aF v.ne
  have u : NE gT gS := .a
  replace aT := g5.s aT u.ne
  have w : NE gI gS := .a
  replace aI := g5.s aI w.ne
  have t : NE gC gS := .a
  replace aC := g5.s aC t.ne
  have y : NE g3 gS := .a
  replace b := g5.s b y.ne
  refine .mv rfl (.nil (p7 _ _ (.seq (fun K5 i1 => .seq (fun K6 q1 => .region (.mv rfl ?_))))))
  refine .call rfl rfl rfl rfl @Try.call70 rfl (l01Next_c) ?_
  rintro _ j9 ⟨k16, rfl, ka16, kb16, kc16, g2, hs⟩
  have nx_H16 := g2.nx
  replace o := o.sA g2
  replace b8 := b8.sA g2
  replace c9 := g2.s c9 z.ne
  replace aF := g2.s aF v.ne
  replace aT := g2.s aT u.ne
  replace aI := g2.s aI w.ne
  replace aC := g2.s aC t.ne
  replace b := g2.s b y.ne
  refine .nil (q1 _ _ ?_)
  refine .block ?_
  refine .seq (fun K7 q8 => .region (.q rfl (.cmp rfl rfl rfl) (.mv rfl (.nil (q8 _ _ ?_)))))
  refine .cond rfl (fun m5 => ?_) (fun m5 => ?_)
  ·
   try simp only [sps] at m5
   refine .region (.mv rfl (.q rfl (.fieldAddr fo_29_0_B rfl) ?_))
   refine .q rfl (.load on_2_A rfl (by first | assumption | exact Mem.of_get b 0 _ rfl)) ?_
   refine .q rfl (.add rfl rfl rfl (by omega) (by omega)) ?_
   refine .R rfl (.litA rfl sl_22_A ze_2_L rfl rfl rfl rfl) ?_
   rintro _ H35 ⟨g35, rfl, g1, ge35, l1⟩
   replace o := o.le g1
   replace b8 := b8.le g1
   replace hs := hs.le g1
   replace c9 := g1.2 _ _ c9
   replace aF := g1.2 _ _ aF
   replace aT := g1.2 _ _ aT
   replace aI := g1.2 _ _ aI
   replace aC := g1.2 _ _ aC
   replace b := g1.2 _ _ b
   refine .call rfl rfl rfl rfl @Try.call102 rfl ((by have hh := l01Pick_c (xs := [c.obj + 1, -1, 9]) (hl := fun H' s => Ints.of_get (s.same _ _ ⟨by omega, trivial⟩ l1)) (h0 := by simp); exact hh)) ?_
   rintro _ H36 ⟨q4, m7, rfl, h2, hs⟩
   obtain ⟨p4, q5, q0⟩ : ∃ k : Int, ([c.obj + 1, -1, 9] : List Int).getD q4 0 = k ∧ -9223372036854775808 ≤ k ∧ k ≤ 9223372036854775807 := ⟨_, rfl, bd_iff.2 (by intro x hx; simp only [List.mem_cons, List.not_mem_nil, or_false] at hx; omega) _ m7⟩
   rw [q5]
   replace o := o.sA h2
   replace b8 := b8.sA h2
   replace c9 := h2.s c9 z.ne
   replace aF := h2.s aF v.ne
   replace aT := h2.s aT u.ne
   replace aI := h2.s aI w.ne
   replace aC := h2.s aC t.ne
   replace b := h2.s b y.ne
   refine .q rfl (.fieldAddr fo_29_0_B rfl) ?_
   refine .r0 rfl rfl (.storeR rfl sz_2_Ch rfl rfl rfl (by assumption) (by first | exact Nat.le_of_ble_eq_true rfl | (simp; done) | (simp <;> omega))) ?_
   rintro _ H8007 ⟨rfl, e5, j5⟩
   replace o := o.sA e5
   replace b8 := b8.sA e5
   replace hs := hs.sA e5
   replace c9 := e5.s c9 f4.ne
   replace aF := e5.s aF f5.ne
   replace aT := e5.s aT f0.ne
   replace aI := e5.s aI e7.ne
   replace aC := e5.s aC e9.ne
   try simp only [Nat.zero_add, List.set_cons_succ, List.set_cons_zero] at j5
   refine .nil (i1 _ _ (.seq (fun K8 q2 => .region ?_)))
   refine .q rfl (.loadM ag_29_D rfl ⟨rfl, Mem.of_get j5⟩) ?_
   refine .r0 rfl rfl (.fillA rfl sz_29_D rfl rfl rfl rfl) ?_
   rintro _ H22001 ⟨rfl, d8, k0⟩
   replace o := o.sA d8
   replace hs := hs.sA d8
   have d : NE gF g4 := .a
   replace aF := d8.s aF d.ne
   have m : NE gT g4 := .a
   replace aT := d8.s aT m.ne
   have f : NE gI g4 := .a
   replace aI := d8.s aI f.ne
   have n : NE gC g4 := .a
   replace aC := d8.s aC n.ne
   refine .nil (q2 _ _ ?_)
   refine .ret ?_
   refine e8 _ _ ?_
   refine ⟨_, _, _, _, rfl, ag_29_D, (by rfl), (Mem.of_get k0), ?_⟩
   have hR' := (hRR.st b8 offA).st d8 (.cons (hRR.lowNe (by omega)) (.nil _ _))
   exact ⟨⟨p4, c.src, c.tgt, c.idn, c.comp⟩, ownP gF gT gI gC rr, rfl, ⟨n1, n2, n3, n4, n5, q0⟩, (KIn.own (c := ⟨p4, c.src, c.tgt, c.idn, c.comp⟩) aF bF aT bT aI bI aC bC hR').keep (.of_le (.refl _)) (by omega), o, hs⟩
  try simp only [sps] at m5
  refine .seq (fun K9 q3 => .region (.q rfl (.cmp rfl rfl rfl) (.mv rfl (.nil (q3 _ _ ?_)))))
  refine .cond rfl (fun p0 => ?_) (fun p0 => ?_)
  ·
   try simp only [sps] at p0
   refine .region (.q rfl (.fieldAddr fo_29_1_B rfl) ?_)
   refine .q rfl (.load on_22_B rfl (by first | assumption | exact Mem.of_get b 1 _ rfl)) ?_
   refine .R rfl (.litA rfl sl_22_A ze_2_L rfl rfl rfl rfl) ?_
   rintro _ H42 ⟨g42, rfl, g7, ge42, o4⟩
   replace o := o.le g7
   replace b8 := b8.le g7
   replace hs := hs.le g7
   replace c9 := g7.2 _ _ c9
   replace aF := g7.2 _ _ aF
   replace aT := g7.2 _ _ aT
   replace aI := g7.2 _ _ aI
   replace aC := g7.2 _ _ aC
   replace b := g7.2 _ _ b
   have lt_at42 := GHeap.ltg o4
   refine .R rfl (.appendI rfl sl_22_A ze_2_L rfl by_2_L sl_22_A rfl rfl (by assumption) (by assumption) (by first | omega | (simp <;> omega)) (by omega) (by omega)) ?_
   rintro _ H43 ⟨p8, rfl, h3, ge43, j2⟩
   replace o := o.sA h3
   replace b8 := b8.sA h3
   replace hs := hs.sA h3
   replace c9 := h3.s c9
   replace aT := h3.s aT
   replace aI := h3.s aI
   replace aC := h3.s aC
   replace b := h3.s b (Ne.symm f5.ne)
   refine .q rfl (.fieldAddr fo_29_1_B rfl) ?_
   refine .r0 rfl rfl (.storeR rfl sz_22_Ch rfl rfl rfl (by assumption) (by first | exact Nat.le_of_ble_eq_true rfl | (simp; done) | (simp <;> omega))) ?_
   rintro _ H10005 ⟨rfl, d1, i3⟩
   replace o := o.sA d1
   replace b8 := b8.sA d1
   replace hs := hs.sA d1
   replace c9 := d1.s c9 f4.ne
   replace aT := d1.s aT f0.ne
   replace aI := d1.s aI e7.ne
   replace aC := d1.s aC e9.ne
   replace j2 := d1.s j2
   try simp only [Nat.zero_add, List.set_cons_succ, List.set_cons_zero] at i3
   refine .nil (i1 _ _ (.seq (fun K10 m0 => .region ?_)))
   refine .q rfl (.loadM ag_29_D rfl ⟨rfl, Mem.of_get i3⟩) ?_
   refine .r0 rfl rfl (.fillA rfl sz_29_D rfl rfl rfl rfl) ?_
   rintro _ H22001x2 ⟨rfl, c5, i5⟩
   replace o := o.sA c5
   replace hs := hs.sA c5
   have m : NE gT g4 := .a
   replace aT := c5.s aT m.ne
   have f : NE gI g4 := .a
   replace aI := c5.s aI f.ne
   have n : NE gC g4 := .a
   replace aC := c5.s aC n.ne
   replace j2 := c5.s j2
   refine .nil (m0 _ _ ?_)
   refine .ret ?_
   refine e8 _ _ ?_
   refine ⟨_, _, _, _, rfl, ag_29_D, (by rfl), (Mem.of_get i5), ?_⟩
   have hR' := (hRR.st b8 offA).st c5 (.cons (hRR.lowNe (by omega)) (.nil _ _))
   exact ⟨⟨c.obj, c.src ++ [0], c.tgt, c.idn, c.comp⟩, ownP p8 gT gI gC rr, by simp [Cat.cells, ownP], ⟨by simp; omega, n2, n3, n4, n5, n6⟩, (KIn.own (c := ⟨c.obj, c.src ++ [0], c.tgt, c.idn, c.comp⟩) j2 (by omega) aT bT aI bI aC bC hR').keep (.of_le (.refl _)) (by omega), o, hs⟩
  try simp only [sps] at p0
  refine .seq (fun K11 n7 => .region (.q rfl (.cmp rfl rfl rfl) (.mv rfl (.nil (n7 _ _ ?_)))))
  refine .cond rfl (fun l0 => ?_) (fun l0 => ?_)
  ·
   try simp only [sps] at l0
   refine .seq (fun K12 l8 => .region (.q rfl (.fieldAddr fo_29_3_B rfl) ?_))
   refine .q rfl (.load on_22_B rfl (by first | assumption | exact Mem.of_get b 3 _ rfl)) ?_
   refine .q rfl (.len sl_22_A rfl) (.q rfl (.cmp rfl rfl rfl) (.nil (l8 _ _ ?_)))
   refine .cond rfl (fun l9 => ?_) (fun l9 => ?_)
   ·
    try simp only [sps] at l9
    refine .regionDB mo_B (.q 0 (.q 1 (.q 2 (.q 3 (.q 4 (.c 5 1 (.q 6 (.c 7 0 (.done))))))))) (by kernel_rfl) (GHeap.le_erase j9 gS) ?_
    have r := GHeap.le_erase j9 gS
    have j7 := GHeap.get_erase_of (g := gS) b (by omega)
    have aIB := GHeap.get_erase_of (g := gS) aI (by omega)
    refine .qB rfl r (.fieldAddr fo_29_3_B rfl) (.qB rfl r (.load on_22_B rfl (Mem.of_get j7 3 _ rfl)) (.qB rfl r (.move rfl) (.qB rfl r (.move rfl) ?_)))
    refine .qB rfl r (.add rfl rfl rfl (by omega) (by omega)) ?_
    refine .call1 rfl rfl rfl rfl rfl @Try.call70 rfl (l01Next_c) ?_
    rintro _ H56 ⟨p5, rfl, ka56, kb56, kc56, g0, hs⟩
    replace r := r.erase_st g0
    refine ⟨r, ?_⟩
    replace o := o.sA g0
    replace b8 := b8.sA g0
    replace c9 := g0.s c9 z.ne
    replace aF := g0.s aF v.ne
    replace aT := g0.s aT u.ne
    replace aI := g0.s aI w.ne
    replace aC := g0.s aC t.ne
    replace b := g0.s b y.ne
    refine .qB rfl r (.idxN (j := 0) sl_22_A (SlA.of_row aIB (by first | rfl | (simp; done) | (simp <;> omega))) rfl rfl (by omega)) ?_
    refine .r0 rfl rfl rfl (.storeI rfl sz_2_Ch rfl rfl (by assumption) (by first | omega | (simp <;> omega))) ?_
    rintro _ H13007 ⟨rfl, d2, f2⟩
    replace o := o.sA d2
    replace b8 := b8.sA d2
    replace hs := hs.sA d2
    have h1 : NE g4 gI := .a
    replace c9 := d2.s c9 h1.ne
    replace aF := d2.s aF
    replace aT := d2.s aT
    replace aC := d2.s aC
    replace b := d2.s b (Ne.symm e7.ne)
    rw [Nat.zero_add] at f2
    refine .done ?_
    refine i1 _ _ (.seq (fun K13 l4 => .region ?_))
    refine .q rfl (.loadM ag_29_D rfl ⟨rfl, Mem.of_get b⟩) ?_
    refine .r0 rfl rfl (.fillA rfl sz_29_D rfl rfl rfl rfl) ?_
    rintro _ H22001x3 ⟨rfl, c0, i4⟩
    replace o := o.sA c0
    replace hs := hs.sA c0
    have d : NE gF g4 := .a
    replace aF := c0.s aF d.ne
    have m : NE gT g4 := .a
    replace aT := c0.s aT m.ne
    have n : NE gC g4 := .a
    replace aC := c0.s aC n.ne
    replace f2 := c0.s f2 (Ne.symm h1.ne)
    refine .nil (l4 _ _ ?_)
    refine .ret ?_
    refine e8 _ _ ?_
    refine ⟨_, _, _, _, rfl, ag_29_D, (by rfl), (Mem.of_get i4), ?_⟩
    have hR' := (hRR.st b8 offA).st c0 (.cons (hRR.lowNe (by omega)) (.nil _ _))
    exact ⟨⟨c.obj, c.src, c.tgt, c.idn.set 0 p5, c.comp⟩, ownP gF gT gI gC rr, by simp [Cat.cells, ownP], ⟨n1, n2, by rw [List.length_set]; exact n3, n4, n5, n6⟩, (KIn.own (c := ⟨c.obj, c.src, c.tgt, c.idn.set 0 p5, c.comp⟩) aF bF aT bT f2 bI aC bC hR').keep (.of_le (.refl _)) (by omega), o, hs⟩
   try simp only [sps] at l9
   refine .skip ?_
   refine i1 _ _ (.seq (fun K14 o3 => .region ?_))
   refine .q rfl (.loadM ag_29_D rfl ⟨rfl, Mem.of_get b⟩) ?_
   refine .r0 rfl rfl (.fillA rfl sz_29_D rfl rfl rfl rfl) ?_
   rintro _ H22001x4 ⟨rfl, c6, i7⟩
   replace o := o.sA c6
   replace hs := hs.sA c6
   have d : NE gF g4 := .a
   replace aF := c6.s aF d.ne
   have m : NE gT g4 := .a
   replace aT := c6.s aT m.ne
   have f : NE gI g4 := .a
   replace aI := c6.s aI f.ne
   have n : NE gC g4 := .a
   replace aC := c6.s aC n.ne
   refine .nil (o3 _ _ ?_)
   refine .ret ?_
   refine e8 _ _ ?_
   refine ⟨_, _, _, _, rfl, ag_29_D, (by rfl), (Mem.of_get i7), ?_⟩
   have hR' := (hRR.st b8 offA).st c6 (.cons (hRR.lowNe (by omega)) (.nil _ _))
   exact ⟨c, ownP gF gT gI gC rr, rfl, hsm, (KIn.own aF bF aT bT aI bI aC bC hR').keep (.of_le (.refl _)) (by omega), o, hs⟩
  try simp only [sps] at l0
  refine .seq (fun K15 k2 => .seq (fun K16 p2 => .region (.q rfl (.cmp rfl rfl rfl) (.mv rfl (.nil (p2 _ _ ?_))))))
  refine .cond rfl (fun g6 => ?_) (fun g6 => ?_)
  ·
   try simp only [sps] at g6
   refine .skip ?_
   refine k2 _ _ ?_
   refine .cond rfl (fun g6 => ?_) (fun g6 => ?_)
   ·
    try simp only [sps] at g6
    refine .seq (fun K17 o0 => .region (.mv rfl (.q rfl (.cmp rfl rfl rfl) (.nil (o0 _ _ ?_)))))
    refine .cond rfl (fun j4 => ?_) (fun j4 => ?_)
    ·
     try simp only [sps] at j4
     refine .regionDB mo_B (.q 0 (.q 1 (.q 2 (.q 3 (.q 4 (.q 5 (.q 6 (.q 8 (.q 9 (.q 10 (.c 7 1 (.c 11 1 (.q 12 (.q 13 (.c 14 0 (.done)))))))))))))))) (by kernel_rfl) (GHeap.le_erase j9 gS) ?_
     have r := GHeap.le_erase j9 gS
     have j7 := GHeap.get_erase_of (g := gS) b (by omega)
     have aCB := GHeap.get_erase_of (g := gS) aC (by omega)
     obtain ⟨gi, hgi, hbi, hati⟩ := (hRR.st b8 offA).row f3.toNat (by omega)
     have atiB := GHeap.get_erase_of (g := gS) hati (by omega)
     have cC := slsL_cell aCB (i := f3.toNat) (by omega)
     rw [hgi] at cC
     have m1 : gF ≠ gi := fun e => v8.r1 f3.toNat (by omega) (by rw [hgi, e])
     have m2 : gT ≠ gi := fun e => v8.r2 f3.toNat (by omega) (by rw [hgi, e])
     have m3 : gI ≠ gi := fun e => v8.r3 f3.toNat (by omega) (by rw [hgi, e])
     have m4 := row_ne aC hati rfl
     have n9 := a9 f3.toNat (by omega)
     refine .qB rfl r (.fieldAddr fo_29_4_B rfl) (.qB rfl r (.load on_23_B rfl (Mem.of_get j7 4 _ rfl)) (.qB rfl r (.move rfl) ?_))
     refine .qB rfl r (.idx1 sl_23_B (SlA.of_row aCB (by first | rfl | (simp; done) | (simp <;> omega))) rfl rfl (by omega) (by omega)) ?_
     refine .qB rfl r (.load on_22_B rfl cC) (.qB rfl r (.move rfl) (.qB rfl r (.move rfl) (.qB rfl r (.move rfl) (.qB rfl r (.move rfl) ?_))))
     refine .qB rfl r (.add rfl rfl rfl (by omega) (by omega)) ?_
     refine .call1 rfl rfl rfl rfl rfl @Try.call70 rfl (l01Next_c) ?_
     rintro _ H71 ⟨k71, rfl, ka71, kb71, kc71, f7, hs⟩
     replace r := r.erase_st f7
     refine ⟨r, ?_⟩
     replace o := o.sA f7
     replace b8 := b8.sA f7
     replace c9 := f7.s c9 z.ne
     replace aF := f7.s aF v.ne
     replace aT := f7.s aT u.ne
     replace aI := f7.s aI w.ne
     replace aC := f7.s aC t.ne
     replace b := f7.s b y.ne
     have c7 : NE gi gS := .a
     replace hati := f7.s hati c7.ne
     refine .call1 rfl rfl rfl rfl rfl @Try.call70 rfl (l01Next_c) ?_
     rintro _ H75 ⟨k75, rfl, ka75, kb75, kc75, f6, hs⟩
     replace r := r.erase_st f6
     refine ⟨r, ?_⟩
     replace o := o.sA f6
     replace b8 := b8.sA f6
     replace c9 := f6.s c9 z.ne
     replace aF := f6.s aF v.ne
     replace aT := f6.s aT u.ne
     replace aI := f6.s aI w.ne
     replace aC := f6.s aC t.ne
     replace b := f6.s b y.ne
     replace hati := f6.s hati c7.ne
     refine .qB rfl r (.sub rfl rfl rfl (by omega) (by omega)) ?_
     refine .qB rfl r (.idx1 sl_22_A (SlA.of_row atiB (by first | rfl | (simp; done) | (simp <;> omega))) rfl rfl (by omega) (by omega)) ?_
     refine .r0 rfl rfl rfl (.storeI rfl sz_2_Ch rfl rfl (by assumption) (by first | omega | (simp <;> omega))) ?_
     rintro _ H18014 ⟨rfl, c8, i2⟩
     replace o := o.sA c8
     replace hs := hs.sA c8
     have e3 : NE g4 gi := .a
     replace c9 := c8.s c9 e3.ne
     have e0 : NE gF gi := .a
     replace aF := c8.s aF e0.ne
     have e4 : NE gT gi := .a
     replace aT := c8.s aT e4.ne
     have e6 : NE gI gi := .a
     replace aI := c8.s aI e6.ne
     have e1 : NE gC gi := .a
     replace aC := c8.s aC e1.ne
     have d9 : NE g3 gi := .a
     replace b := c8.s b d9.ne
     rw [Nat.zero_add] at i2
     have j3 := bend_set (hRR.st b8 offA) c8 (by omega) hgi i2 (by rw [List.length_set])
     refine .done ?_
     refine i1 _ _ (.seq (fun K18 m9 => .region ?_))
     refine .q rfl (.loadM ag_29_D rfl ⟨rfl, Mem.of_get b⟩) ?_
     refine .r0 rfl rfl (.fillA rfl sz_29_D rfl rfl rfl rfl) ?_
     rintro _ H22001x5 ⟨rfl, c2, j0⟩
     replace o := o.sA c2
     replace hs := hs.sA c2
     have d : NE gF g4 := .a
     replace aF := c2.s aF d.ne
     have m : NE gT g4 := .a
     replace aT := c2.s aT m.ne
     have f : NE gI g4 := .a
     replace aI := c2.s aI f.ne
     have n : NE gC g4 := .a
     replace aC := c2.s aC n.ne
     refine .nil (m9 _ _ ?_)
     refine .ret ?_
     refine e8 _ _ ?_
     refine ⟨_, _, _, _, rfl, ag_29_D, (by rfl), (Mem.of_get j0), ?_⟩
     obtain ⟨T, k3, j6, k1, j8⟩ := j3
     have hR' := j8.st c2 (.cons (j8.lowNe (by omega)) (.nil _ _))
     rw [← k3] at aC
     exact ⟨⟨c.obj, c.src, c.tgt, c.idn, T⟩, ownP gF gT gI gC rr, by simp [Cat.cells, ownP, j6], ⟨n1, n2, n3, (by rw [j6]; exact n4), fun i => Nat.le_trans (Nat.le_of_eq (k1 i)) (n5 i), n6⟩, (KIn.own (c := ⟨c.obj, c.src, c.tgt, c.idn, T⟩) aF bF aT bT aI bI aC bC hR').keep (.of_le (.refl _)) (by omega), o, hs⟩
    try simp only [sps] at j4
    refine .skip ?_
    refine i1 _ _ (.seq (fun K19 l3 => .region ?_))
    refine .q rfl (.loadM ag_29_D rfl ⟨rfl, Mem.of_get b⟩) ?_
    refine .r0 rfl rfl (.fillA rfl sz_29_D rfl rfl rfl rfl) ?_
    rintro _ H22001x6 ⟨rfl, c3, j1⟩
    replace o := o.sA c3
    replace hs := hs.sA c3
    have d : NE gF g4 := .a
    replace aF := c3.s aF d.ne
    have m : NE gT g4 := .a
    replace aT := c3.s aT m.ne
    have f : NE gI g4 := .a
    replace aI := c3.s aI f.ne
    have n : NE gC g4 := .a
    replace aC := c3.s aC n.ne
    refine .nil (l3 _ _ ?_)
    refine .ret ?_
    refine e8 _ _ ?_
    refine ⟨_, _, _, _, rfl, ag_29_D, (by rfl), (Mem.of_get j1), ?_⟩
    have hR' := (hRR.st b8 offA).st c3 (.cons (hRR.lowNe (by omega)) (.nil _ _))
    exact ⟨c, ownP gF gT gI gC rr, rfl, hsm, (KIn.own aF bF aT bT aI bI aC bC hR').keep (.of_le (.refl _)) (by omega), o, hs⟩
   simp only [sps] at g6; omega
  try simp only [sps] at g6
  refine .seq (fun K20 n8 => .region (.q rfl (.cmp rfl rfl rfl) (.mv rfl (.nil (n8 _ _ ?_)))))
  refine .cond rfl (fun g6 => ?_) (fun g6 => ?_)
  ·
   try simp only [sps] at g6
   refine .skip ?_
   refine k2 _ _ ?_
   refine .cond rfl (fun g6 => ?_) (fun g6 => ?_)
   ·
    try simp only [sps] at g6
    refine .seq (fun K21 l5 => .region (.mv rfl (.q rfl (.cmp rfl rfl rfl) (.nil (l5 _ _ ?_)))))
    refine .cond rfl (fun j4 => ?_) (fun j4 => ?_)
    ·
     try simp only [sps] at j4
     refine .regionDB mo_B (.q 0 (.q 1 (.q 2 (.q 3 (.q 4 (.q 5 (.q 6 (.q 8 (.q 9 (.q 10 (.c 7 1 (.c 11 1 (.q 12 (.q 13 (.c 14 0 (.done)))))))))))))))) (by kernel_rfl) (GHeap.le_erase j9 gS) ?_
     have r := GHeap.le_erase j9 gS
     have j7 := GHeap.get_erase_of (g := gS) b (by omega)
     have aCB := GHeap.get_erase_of (g := gS) aC (by omega)
     obtain ⟨gi, hgi, hbi, hati⟩ := (hRR.st b8 offA).row f3.toNat (by omega)
     have atiB := GHeap.get_erase_of (g := gS) hati (by omega)
     have cC := slsL_cell aCB (i := f3.toNat) (by omega)
     rw [hgi] at cC
     have m1 : gF ≠ gi := fun e => v8.r1 f3.toNat (by omega) (by rw [hgi, e])
     have m2 : gT ≠ gi := fun e => v8.r2 f3.toNat (by omega) (by rw [hgi, e])
     have m3 : gI ≠ gi := fun e => v8.r3 f3.toNat (by omega) (by rw [hgi, e])
     have m4 := row_ne aC hati rfl
     have n9 := a9 f3.toNat (by omega)
     refine .qB rfl r (.fieldAddr fo_29_4_B rfl) (.qB rfl r (.load on_23_B rfl (Mem.of_get j7 4 _ rfl)) (.qB rfl r (.move rfl) ?_))
     refine .qB rfl r (.idx1 sl_23_B (SlA.of_row aCB (by first | rfl | (simp; done) | (simp <;> omega))) rfl rfl (by omega) (by omega)) ?_
     refine .qB rfl r (.load on_22_B rfl cC) (.qB rfl r (.move rfl) (.qB rfl r (.move rfl) (.qB rfl r (.move rfl) (.qB rfl r (.move rfl) ?_))))
     refine .qB rfl r (.add rfl rfl rfl (by omega) (by omega)) ?_
     refine .call1 rfl rfl rfl rfl rfl @Try.call70 rfl (l01Next_c) ?_
     rintro _ H71x2 ⟨k71x2, rfl, ka71x2, kb71x2, kc71x2, d3, hs⟩
     replace r := r.erase_st d3
     refine ⟨r, ?_⟩
     replace o := o.sA d3
     replace b8 := b8.sA d3
     replace c9 := d3.s c9 z.ne
     replace aF := d3.s aF v.ne
     replace aT := d3.s aT u.ne
     replace aI := d3.s aI w.ne
     replace aC := d3.s aC t.ne
     replace b := d3.s b y.ne
     have c7 : NE gi gS := .a
     replace hati := d3.s hati c7.ne
     refine .call1 rfl rfl rfl rfl rfl @Try.call70 rfl (l01Next_c) ?_
     rintro _ H75x2 ⟨k75x2, rfl, ka75x2, kb75x2, kc75x2, d4, hs⟩
     replace r := r.erase_st d4
     refine ⟨r, ?_⟩
     replace o := o.sA d4
     replace b8 := b8.sA d4
     replace c9 := d4.s c9 z.ne
     replace aF := d4.s aF v.ne
     replace aT := d4.s aT u.ne
     replace aI := d4.s aI w.ne
     replace aC := d4.s aC t.ne
     replace b := d4.s b y.ne
     replace hati := d4.s hati c7.ne
     refine .qB rfl r (.sub rfl rfl rfl (by omega) (by omega)) ?_
     refine .qB rfl r (.idx1 sl_22_A (SlA.of_row atiB (by first | rfl | (simp; done) | (simp <;> omega))) rfl rfl (by omega) (by omega)) ?_
     refine .r0 rfl rfl rfl (.storeI rfl sz_2_Ch rfl rfl (by assumption) (by first | omega | (simp <;> omega))) ?_
     rintro _ H18014x2 ⟨rfl, a0, f9⟩
     replace o := o.sA a0
     replace hs := hs.sA a0
     have e3 : NE g4 gi := .a
     replace c9 := a0.s c9 e3.ne
     have e0 : NE gF gi := .a
     replace aF := a0.s aF e0.ne
     have e4 : NE gT gi := .a
     replace aT := a0.s aT e4.ne
     have e6 : NE gI gi := .a
     replace aI := a0.s aI e6.ne
     have e1 : NE gC gi := .a
     replace aC := a0.s aC e1.ne
     have d9 : NE g3 gi := .a
     replace b := a0.s b d9.ne
     rw [Nat.zero_add] at f9
     have j3 := bend_set (hRR.st b8 offA) a0 (by omega) hgi f9 (by rw [List.length_set])
     refine .done ?_
     refine i1 _ _ (.seq (fun K22 p1 => .region ?_))
     refine .q rfl (.loadM ag_29_D rfl ⟨rfl, Mem.of_get b⟩) ?_
     refine .r0 rfl rfl (.fillA rfl sz_29_D rfl rfl rfl rfl) ?_
     rintro _ H22001x7 ⟨rfl, c1, i6⟩
     replace o := o.sA c1
     replace hs := hs.sA c1
     have d : NE gF g4 := .a
     replace aF := c1.s aF d.ne
     have m : NE gT g4 := .a
     replace aT := c1.s aT m.ne
     have f : NE gI g4 := .a
     replace aI := c1.s aI f.ne
     have n : NE gC g4 := .a
     replace aC := c1.s aC n.ne
     refine .nil (p1 _ _ ?_)
     refine .ret ?_
     refine e8 _ _ ?_
     refine ⟨_, _, _, _, rfl, ag_29_D, (by rfl), (Mem.of_get i6), ?_⟩
     obtain ⟨T, k3, j6, k1, j8⟩ := j3
     have hR' := j8.st c1 (.cons (j8.lowNe (by omega)) (.nil _ _))
     rw [← k3] at aC
     exact ⟨⟨c.obj, c.src, c.tgt, c.idn, T⟩, ownP gF gT gI gC rr, by simp [Cat.cells, ownP, j6], ⟨n1, n2, n3, (by rw [j6]; exact n4), fun i => Nat.le_trans (Nat.le_of_eq (k1 i)) (n5 i), n6⟩, (KIn.own (c := ⟨c.obj, c.src, c.tgt, c.idn, T⟩) aF bF aT bT aI bI aC bC hR').keep (.of_le (.refl _)) (by omega), o, hs⟩
    try simp only [sps] at j4
    refine .skip ?_
    refine i1 _ _ (.seq (fun K23 l6 => .region ?_))
    refine .q rfl (.loadM ag_29_D rfl ⟨rfl, Mem.of_get b⟩) ?_
    refine .r0 rfl rfl (.fillA rfl sz_29_D rfl rfl rfl rfl) ?_
    rintro _ H22001x8 ⟨rfl, b9, i8⟩
    replace o := o.sA b9
    replace hs := hs.sA b9
    have d : NE gF g4 := .a
    replace aF := b9.s aF d.ne
    have m : NE gT g4 := .a
    replace aT := b9.s aT m.ne
    have f : NE gI g4 := .a
    replace aI := b9.s aI f.ne
    have n : NE gC g4 := .a
    replace aC := b9.s aC n.ne
    refine .nil (l6 _ _ ?_)
    refine .ret ?_
    refine e8 _ _ ?_
    refine ⟨_, _, _, _, rfl, ag_29_D, (by rfl), (Mem.of_get i8), ?_⟩
    have hR' := (hRR.st b8 offA).st b9 (.cons (hRR.lowNe (by omega)) (.nil _ _))
    exact ⟨c, ownP gF gT gI gC rr, rfl, hsm, (KIn.own aF bF aT bT aI bI aC bC hR').keep (.of_le (.refl _)) (by omega), o, hs⟩
   simp only [sps] at g6; omega
  try simp only [sps] at g6
  refine .region (.q rfl (.cmp rfl rfl rfl) (.mv rfl (.nil (k2 _ _ ?_))))
  refine .cond rfl (fun g6 => ?_) (fun g6 => ?_)
  ·
   try simp only [sps] at g6
   refine .seq (fun K24 k8 => .region (.mv rfl (.q rfl (.cmp rfl rfl rfl) (.nil (k8 _ _ ?_)))))
   refine .cond rfl (fun j4 => ?_) (fun j4 => ?_)
   ·
    try simp only [sps] at j4
    refine .regionDB mo_B (.q 0 (.q 1 (.q 2 (.q 3 (.q 4 (.q 5 (.q 6 (.q 8 (.q 9 (.q 10 (.c 7 1 (.c 11 1 (.q 12 (.q 13 (.c 14 0 (.done)))))))))))))))) (by kernel_rfl) (GHeap.le_erase j9 gS) ?_
    have r := GHeap.le_erase j9 gS
    have j7 := GHeap.get_erase_of (g := gS) b (by omega)
    have aCB := GHeap.get_erase_of (g := gS) aC (by omega)
    obtain ⟨gi, hgi, hbi, hati⟩ := (hRR.st b8 offA).row f3.toNat (by omega)
    have atiB := GHeap.get_erase_of (g := gS) hati (by omega)
    have cC := slsL_cell aCB (i := f3.toNat) (by omega)
    rw [hgi] at cC
    have m1 : gF ≠ gi := fun e => v8.r1 f3.toNat (by omega) (by rw [hgi, e])
    have m2 : gT ≠ gi := fun e => v8.r2 f3.toNat (by omega) (by rw [hgi, e])
    have m3 : gI ≠ gi := fun e => v8.r3 f3.toNat (by omega) (by rw [hgi, e])
    have m4 := row_ne aC hati rfl
    have n9 := a9 f3.toNat (by omega)
    refine .qB rfl r (.fieldAddr fo_29_4_B rfl) (.qB rfl r (.load on_23_B rfl (Mem.of_get j7 4 _ rfl)) (.qB rfl r (.move rfl) ?_))
    refine .qB rfl r (.idx1 sl_23_B (SlA.of_row aCB (by first | rfl | (simp; done) | (simp <;> omega))) rfl rfl (by omega) (by omega)) ?_
    refine .qB rfl r (.load on_22_B rfl cC) (.qB rfl r (.move rfl) (.qB rfl r (.move rfl) (.qB rfl r (.move rfl) (.qB rfl r (.move rfl) ?_))))
    refine .qB rfl r (.add rfl rfl rfl (by omega) (by omega)) ?_
    refine .call1 rfl rfl rfl rfl rfl @Try.call70 rfl (l01Next_c) ?_
    rintro _ H71x3 ⟨k71x3, rfl, ka71x3, kb71x3, kc71x3, d6, hs⟩
    replace r := r.erase_st d6
    refine ⟨r, ?_⟩
    replace o := o.sA d6
    replace b8 := b8.sA d6
    replace c9 := d6.s c9 z.ne
    replace aF := d6.s aF v.ne
    replace aT := d6.s aT u.ne
    replace aI := d6.s aI w.ne
    replace aC := d6.s aC t.ne
    replace b := d6.s b y.ne
    have c7 : NE gi gS := .a
    replace hati := d6.s hati c7.ne
    refine .call1 rfl rfl rfl rfl rfl @Try.call70 rfl (l01Next_c) ?_
    rintro _ H75x3 ⟨k75x3, rfl, ka75x3, kb75x3, kc75x3, d5, hs⟩
    replace r := r.erase_st d5
    refine ⟨r, ?_⟩
    replace o := o.sA d5
    replace b8 := b8.sA d5
    replace c9 := d5.s c9 z.ne
    replace aF := d5.s aF v.ne
    replace aT := d5.s aT u.ne
    replace aI := d5.s aI w.ne
    replace aC := d5.s aC t.ne
    replace b := d5.s b y.ne
    replace hati := d5.s hati c7.ne
    refine .qB rfl r (.sub rfl rfl rfl (by omega) (by omega)) ?_
    refine .qB rfl r (.idx1 sl_22_A (SlA.of_row atiB (by first | rfl | (simp; done) | (simp <;> omega))) rfl rfl (by omega) (by omega)) ?_
    refine .r0 rfl rfl rfl (.storeI rfl sz_2_Ch rfl rfl (by assumption) (by first | omega | (simp <;> omega))) ?_
    rintro _ H18014x3 ⟨rfl, a5, f8⟩
    replace o := o.sA a5
    replace hs := hs.sA a5
    have e3 : NE g4 gi := .a
    replace c9 := a5.s c9 e3.ne
    have e0 : NE gF gi := .a
    replace aF := a5.s aF e0.ne
    have e4 : NE gT gi := .a
    replace aT := a5.s aT e4.ne
    have e6 : NE gI gi := .a
    replace aI := a5.s aI e6.ne
    have e1 : NE gC gi := .a
    replace aC := a5.s aC e1.ne
    have d9 : NE g3 gi := .a
    replace b := a5.s b d9.ne
    rw [Nat.zero_add] at f8
    have j3 := bend_set (hRR.st b8 offA) a5 (by omega) hgi f8 (by rw [List.length_set])
    refine .done ?_
    refine i1 _ _ (.seq (fun K25 o2 => .region ?_))
    refine .q rfl (.loadM ag_29_D rfl ⟨rfl, Mem.of_get b⟩) ?_
    refine .r0 rfl rfl (.fillA rfl sz_29_D rfl rfl rfl rfl) ?_
    rintro _ H22001x9 ⟨rfl, c4, i9⟩
    replace o := o.sA c4
    replace hs := hs.sA c4
    have d : NE gF g4 := .a
    replace aF := c4.s aF d.ne
    have m : NE gT g4 := .a
    replace aT := c4.s aT m.ne
    have f : NE gI g4 := .a
    replace aI := c4.s aI f.ne
    have n : NE gC g4 := .a
    replace aC := c4.s aC n.ne
    refine .nil (o2 _ _ ?_)
    refine .ret ?_
    refine e8 _ _ ?_
    refine ⟨_, _, _, _, rfl, ag_29_D, (by rfl), (Mem.of_get i9), ?_⟩
    obtain ⟨T, k3, j6, k1, j8⟩ := j3
    have hR' := j8.st c4 (.cons (j8.lowNe (by omega)) (.nil _ _))
    rw [← k3] at aC
    exact ⟨⟨c.obj, c.src, c.tgt, c.idn, T⟩, ownP gF gT gI gC rr, by simp [Cat.cells, ownP, j6], ⟨n1, n2, n3, (by rw [j6]; exact n4), fun i => Nat.le_trans (Nat.le_of_eq (k1 i)) (n5 i), n6⟩, (KIn.own (c := ⟨c.obj, c.src, c.tgt, c.idn, T⟩) aF bF aT bT aI bI aC bC hR').keep (.of_le (.refl _)) (by omega), o, hs⟩
   try simp only [sps] at j4
   refine .skip ?_
   refine i1 _ _ (.seq (fun K26 p3 => .region ?_))
   refine .q rfl (.loadM ag_29_D rfl ⟨rfl, Mem.of_get b⟩) ?_
   refine .r0 rfl rfl (.fillA rfl sz_29_D rfl rfl rfl rfl) ?_
   rintro _ H22001x10 ⟨rfl, a7, h6⟩
   replace o := o.sA a7
   replace hs := hs.sA a7
   have d : NE gF g4 := .a
   replace aF := a7.s aF d.ne
   have m : NE gT g4 := .a
   replace aT := a7.s aT m.ne
   have f : NE gI g4 := .a
   replace aI := a7.s aI f.ne
   have n : NE gC g4 := .a
   replace aC := a7.s aC n.ne
   refine .nil (p3 _ _ ?_)
   refine .ret ?_
   refine e8 _ _ ?_
   refine ⟨_, _, _, _, rfl, ag_29_D, (by rfl), (Mem.of_get h6), ?_⟩
   have hR' := (hRR.st b8 offA).st a7 (.cons (hRR.lowNe (by omega)) (.nil _ _))
   exact ⟨c, ownP gF gT gI gC rr, rfl, hsm, (KIn.own aF bF aT bT aI bI aC bC hR').keep (.of_le (.refl _)) (by omega), o, hs⟩
  try simp only [sps] at g6
  refine .seq (fun K27 o7 => .region (.q rfl (.cmp rfl rfl rfl) (.mv rfl (.nil (o7 _ _ ?_)))))
  refine .cond rfl (fun l2 => ?_) (fun l2 => ?_)
  ·
   try simp only [sps] at l2
   refine .seq (fun K28 k9 => .region (.mv rfl (.q rfl (.cmp rfl rfl rfl) (.nil (k9 _ _ ?_)))))
   refine .cond rfl (fun m8 => ?_) (fun m8 => ?_)
   ·
    try simp only [sps] at m8
    refine .regionDB mo_B (.q 0 (.q 1 (.q 2 (.q 3 (.q 4 (.q 5 (.q 6 (.c 7 1 (.q 8 (.c 9 0 (.done))))))))))) (by kernel_rfl) (GHeap.le_erase j9 gS) ?_
    have r := GHeap.le_erase j9 gS
    have j7 := GHeap.get_erase_of (g := gS) b (by omega)
    have aTB := GHeap.get_erase_of (g := gS) aT (by omega)
    refine .qB rfl r (.fieldAddr fo_29_2_B rfl) (.qB rfl r (.load on_22_B rfl (Mem.of_get j7 2 _ rfl)) (.qB rfl r (.move rfl) (.qB rfl r (.move rfl) (.qB rfl r (.fieldAddr fo_29_0_B rfl) (.qB rfl r (.load on_2_A rfl (Mem.of_get j7 0 _ rfl)) ?_)))))
    refine .qB rfl r (.add rfl rfl rfl (by omega) (by omega)) ?_
    refine .call1 rfl rfl rfl rfl rfl @Try.call70 rfl (l01Next_c) ?_
    rintro _ H89 ⟨p6, rfl, ka89, kb89, kc89, g8, hs⟩
    replace r := r.erase_st g8
    refine ⟨r, ?_⟩
    replace o := o.sA g8
    replace b8 := b8.sA g8
    replace c9 := g8.s c9 z.ne
    replace aF := g8.s aF v.ne
    replace aT := g8.s aT u.ne
    replace aI := g8.s aI w.ne
    replace aC := g8.s aC t.ne
    replace b := g8.s b y.ne
    refine .qB rfl r (.idx1 sl_22_A (SlA.of_row aTB (by first | rfl | (simp; done) | (simp <;> omega))) rfl rfl (by omega) (by omega)) ?_
    refine .r0 rfl rfl rfl (.storeI rfl sz_2_Ch rfl rfl (by assumption) (by first | omega | (simp <;> omega))) ?_
    rintro _ H21009 ⟨rfl, d0, f1⟩
    replace o := o.sA d0
    replace b8 := b8.sA d0
    replace hs := hs.sA d0
    have h4 : NE g4 gT := .a
    replace c9 := d0.s c9 h4.ne
    replace aF := d0.s aF
    replace aI := d0.s aI
    replace aC := d0.s aC
    replace b := d0.s b (Ne.symm f0.ne)
    rw [Nat.zero_add] at f1
    refine .done ?_
    refine i1 _ _ (.seq (fun K29 o1 => .region ?_))
    refine .q rfl (.loadM ag_29_D rfl ⟨rfl, Mem.of_get b⟩) ?_
    refine .r0 rfl rfl (.fillA rfl sz_29_D rfl rfl rfl rfl) ?_
    rintro _ H22001x11 ⟨rfl, b7, h7⟩
    replace o := o.sA b7
    replace hs := hs.sA b7
    have d : NE gF g4 := .a
    replace aF := b7.s aF d.ne
    have f : NE gI g4 := .a
    replace aI := b7.s aI f.ne
    have n : NE gC g4 := .a
    replace aC := b7.s aC n.ne
    replace f1 := b7.s f1 (Ne.symm h4.ne)
    refine .nil (o1 _ _ ?_)
    refine .ret ?_
    refine e8 _ _ ?_
    refine ⟨_, _, _, _, rfl, ag_29_D, (by rfl), (Mem.of_get h7), ?_⟩
    have hR' := (hRR.st b8 offA).st b7 (.cons (hRR.lowNe (by omega)) (.nil _ _))
    exact ⟨⟨c.obj, c.src, c.tgt.set f3.toNat p6, c.idn, c.comp⟩, ownP gF gT gI gC rr, by simp [Cat.cells, ownP], ⟨n1, by rw [List.length_set]; exact n2, n3, n4, n5, n6⟩, (KIn.own (c := ⟨c.obj, c.src, c.tgt.set f3.toNat p6, c.idn, c.comp⟩) aF bF f1 bT aI bI aC bC hR').keep (.of_le (.refl _)) (by omega), o, hs⟩
   try simp only [sps] at m8
   refine .skip ?_
   refine i1 _ _ (.seq (fun K30 n0 => .region ?_))
   refine .q rfl (.loadM ag_29_D rfl ⟨rfl, Mem.of_get b⟩) ?_
   refine .r0 rfl rfl (.fillA rfl sz_29_D rfl rfl rfl rfl) ?_
   rintro _ H22001x12 ⟨rfl, b6, i0⟩
   replace o := o.sA b6
   replace hs := hs.sA b6
   have d : NE gF g4 := .a
   replace aF := b6.s aF d.ne
   have m : NE gT g4 := .a
   replace aT := b6.s aT m.ne
   have f : NE gI g4 := .a
   replace aI := b6.s aI f.ne
   have n : NE gC g4 := .a
   replace aC := b6.s aC n.ne
   refine .nil (n0 _ _ ?_)
   refine .ret ?_
   refine e8 _ _ ?_
   refine ⟨_, _, _, _, rfl, ag_29_D, (by rfl), (Mem.of_get i0), ?_⟩
   have hR' := (hRR.st b8 offA).st b6 (.cons (hRR.lowNe (by omega)) (.nil _ _))
   exact ⟨c, ownP gF gT gI gC rr, rfl, hsm, (KIn.own aF bF aT bT aI bI aC bC hR').keep (.of_le (.refl _)) (by omega), o, hs⟩
  try simp only [sps] at l2
  refine .seq (fun K31 o8 => .region (.mv rfl (.q rfl (.cmp rfl rfl rfl) (.nil (o8 _ _ ?_)))))
  refine .cond rfl (fun o5 => ?_) (fun o5 => ?_)
  ·
   try simp only [sps] at o5
   refine .regionD mo_B (.q 0 (.q 1 (.q 2 (.q 3 (.q 4 (.q 5 (.q 6 (.q 7 (.q 8 (.q 9 (.c 10 0 (.done)))))))))))) (by kernel_rfl) ?_
   have n9 := a9 f3.toNat (by omega)
   obtain ⟨gi, hgi, -, hati⟩ := (hRR.st b8 offA).row f3.toNat (by omega)
   have cC := slsL_cell aC (i := f3.toNat) (by omega)
   rw [hgi] at cC
   refine .q rfl (.fieldAddr fo_29_4_B rfl) ?_
   refine .q rfl (.load on_23_B rfl (by first | assumption | exact Mem.of_get b 4 _ rfl)) ?_
   refine .mv rfl rfl (.q rfl (.fieldAddr fo_29_4_B rfl) ?_)
   refine .q rfl (.load on_23_B rfl (by first | assumption | exact Mem.of_get b 4 _ rfl)) ?_
   refine .mv rfl rfl ?_
   refine .q rfl (.idx1 sl_23_B (by first | exact (Intss.sl (by assumption)) | exact SlA.of_row aC (by first | rfl | (simp; done) | (simp <;> omega))) rfl rfl (by omega) (by omega)) ?_
   refine .q rfl (.load on_22_B rfl cC) ?_
   refine .q rfl (.slice (l := 1) (h := (c.comp.getD f3.toNat []).length) sl_22_A rfl hati ⟨_, rfl⟩ rfl (by omega) (by omega)) ?_
   refine .q rfl (.idx1 sl_23_B (by first | exact (Intss.sl (by assumption)) | exact SlA.of_row aC (by first | rfl | (simp; done) | (simp <;> omega))) rfl rfl (by omega) (by omega)) ?_
   refine .r0 rfl rfl rfl (.storeR rfl sz_22_Ch rfl rfl rfl (by assumption) (by first | exact Nat.le_of_ble_eq_true rfl | (simp; done) | (simp <;> omega))) ?_
   rintro _ H6010 ⟨rfl, e2, g9⟩
   replace o := o.sA e2
   replace b8 := b8.sA e2
   replace hs := hs.sA e2
   have h5 : NE g4 gC := .a
   replace c9 := e2.s c9 h5.ne
   replace aF := e2.s aF
   replace aT := e2.s aT
   replace aI := e2.s aI
   replace b := e2.s b (Ne.symm e9.ne)
   refine .done ?_
   refine i1 _ _ (.seq (fun K32 l7 => .region ?_))
   refine .q rfl (.loadM ag_29_D rfl ⟨rfl, Mem.of_get b⟩) ?_
   refine .r0 rfl rfl (.fillA rfl sz_29_D rfl rfl rfl rfl) ?_
   rintro _ H22001x13 ⟨rfl, b0, h8⟩
   replace o := o.sA b0
   replace hs := hs.sA b0
   have d : NE gF g4 := .a
   replace aF := b0.s aF d.ne
   have m : NE gT g4 := .a
   replace aT := b0.s aT m.ne
   have f : NE gI g4 := .a
   replace aI := b0.s aI f.ne
   replace g9 := b0.s g9 (Ne.symm h5.ne)
   refine .nil (l7 _ _ ?_)
   refine .ret ?_
   refine e8 _ _ ?_
   refine ⟨_, _, _, _, rfl, ag_29_D, (by rfl), (Mem.of_get h8), ?_⟩
   have hR' := (hRR.st b8 offA).st b0 (.cons (hRR.lowNe (by omega)) (.nil _ _))
   obtain ⟨rr', T, k3, j6, k1, j8⟩ := bend_cut hR' (by omega) hgi rfl
   rw [Nat.zero_add, k3] at g9
   exact ⟨⟨c.obj, c.src, c.tgt, c.idn, T⟩, ownP gF gT gI gC rr', by simp [Cat.cells, ownP, j6], ⟨n1, n2, n3, (by rw [j6]; exact n4), k1 _ n5, n6⟩, (KIn.parts (c := ⟨c.obj, c.src, c.tgt, c.idn, T⟩) aF bF aT bT aI bI g9 bC j8).keep (.of_le (.refl _)) (by omega), o, hs⟩
  try simp only [sps] at o5
  refine .skip ?_
  refine i1 _ _ (.seq (fun K33 o6 => .region ?_))
  refine .q rfl (.loadM ag_29_D rfl ⟨rfl, Mem.of_get b⟩) ?_
  refine .r0 rfl rfl (.fillA rfl sz_29_D rfl rfl rfl rfl) ?_
  rintro _ H22001x14 ⟨rfl, b5, h9⟩
  replace o := o.sA b5
  replace hs := hs.sA b5
  have d : NE gF g4 := .a
  replace aF := b5.s aF d.ne
  have m : NE gT g4 := .a
  replace aT := b5.s aT m.ne
  have f : NE gI g4 := .a
  replace aI := b5.s aI f.ne
  have n : NE gC g4 := .a
  replace aC := b5.s aC n.ne
  refine .nil (o6 _ _ ?_)
  refine .ret ?_
  refine e8 _ _ ?_
  refine ⟨_, _, _, _, rfl, ag_29_D, (by rfl), (Mem.of_get h9), ?_⟩
  have hR' := (hRR.st b8 offA).st b5 (.cons (hRR.lowNe (by omega)) (.nil _ _))
  exact ⟨c, ownP gF gT gI gC rr, rfl, hsm, (KIn.own aF bF aT bT aI bI aC bC hR').keep (.of_le (.refl _)) (by omega), o, hs⟩
end Go.Proofs.Ytjdedelneppnlaa
namespace Go.Proofs.Ytjdedelneppnlaa
open Go Go.GL Go.RowKit Go.Proofs
set_option maxHeartbeats 8000000 in
theorem l02Draw_c {gS : Nat} {m n : Int} {H : GHeap} (hs : DSrc 120 H gS := by assumption) :
    GCalls Try.prog 73 [.pointer (some ⟨gS, 0, none⟩), .int .i64 m, .int .i64 n] H (DrawnK 120 gS H) := by
  have hlS := hs.lt
  refine GCalls.body (N := 19) (rs := [.cell 6 29]) Try.func73 rfl rfl rfl rfl (fun Qx w hend => ?_)
  refine .fg [0, 1, 2] rfl ?_
  have f := St.refl [gS] H
  refine .seq (fun K1 b7 => .region ?_)
  refine .R rfl (.allocR rfl ze_29_Hj rfl) ?_
  rintro _ H6 ⟨g6, rfl, a3, ge6, o⟩
  have nx_H6 := a3.1
  replace f := f.le a3
  have lt_at6 := GHeap.ltg o
  refine .nil (b7 _ _ (.seq (fun K2 b1 => .region ?_)))
  have hs := hs.le a3
  refine .mv rfl (.mv rfl (.mv rfl ?_))
  refine .call rfl rfl rfl rfl @Try.call115 rfl (l02Some_c) ?_
  rintro _ a7 ⟨b3, b2, rfl, x, z, u, hs⟩
  have nx_H11 := u.nx
  replace f := f.sA u
  have c : NE g6 gS := .a
  replace o := u.s o c.ne
  have l := z
  have b : Keep H6.next a7 a7 := fun _ _ _ h => h
  refine .R rfl (.allocR rfl ze_29_Hj rfl) ?_
  rintro _ H7 ⟨g7, rfl, a0, ge7, at7⟩
  replace f := f.le a0
  replace hs := hs.le a0
  replace o := a0.2 _ _ o
  replace b := Keep.le b a0
  refine .r0 rfl rfl (.fillA rfl sz_29_D rfl rfl rfl rfl) ?_
  rintro _ H1005 ⟨rfl, e, d⟩
  replace f := f.sA e
  replace hs := hs.sA e
  replace o := e.s o
  replace b := Keep.st b e (fun k hb hk => ⟨(by omega), trivial⟩)
  have lt_at1005 := GHeap.ltg d
  refine .nil (b1 _ _ (.seq (fun K3 b5 => .seq (fun K4 b0 => .region (.mv rfl ?_)))))
  refine .call rfl rfl rfl rfl @Try.call70 rfl (l01Next_c) ?_
  rintro _ a8 ⟨k13, rfl, ka13, kb13, kc13, p, hs⟩
  have nx_H13 := p.nx
  replace f := f.sA p
  replace o := p.s o c.ne
  replace d := p.s d
  replace b := Keep.st b p (fun k hb hk => ⟨(by omega), trivial⟩)
  replace z := l.keep b (Nat.le_refl _)
  have a6 := z.inn
  refine .q rfl (.cmp rfl rfl rfl) (.nil (b0 _ _ ?_))
  refine .cond rfl (fun a4 => ?_) (fun a4 => ?_)
  ·
   try simp only [sps] at a4
   refine .seq (fun K5 a9 => .region (.mv rfl ?_))
   refine .q rfl (.loadM ag_29_D rfl ⟨rfl, Mem.of_get d⟩) ?_
   refine .call rfl rfl rfl rfl @Try.call116 rfl (l02Bend_c (hin := a6) (hr := x)) ?_
   rintro _ a5 ⟨b4, b6, rfl, a1, a2, y, hs⟩
   replace f := f.sA y
   replace o := y.s o c.ne
   clear a6
   have t := a2
   have g : Keep a8.next a5 a5 := fun _ _ _ h => h
   refine .r0 rfl rfl (.fillA rfl sz_29_D rfl rfl rfl rfl) ?_
   rintro _ H3003 ⟨rfl, i, v⟩
   replace f := f.sA i
   replace hs := hs.sA i
   replace g := Keep.st g i (fun k hb hk => ⟨(by omega), trivial⟩)
   replace a2 := t.keep g (Nat.le_refl _)
   refine .nil (a9 _ _ ?_)
   refine .ret ?_
   refine w _ _ ?_
   refine ⟨_, _, _, _, rfl, ag_29_D, (by rfl), (Mem.of_get v), ?_⟩
   exact ⟨b4, b6, rfl, a1, a2.keep (.of_le (.refl _)) (by omega), f, hs⟩
  try simp only [sps] at a4
  refine .skip ?_
  refine b5 _ _ (.seq (fun K6 b8 => .region ?_))
  refine .q rfl (.loadM ag_29_D rfl ⟨rfl, Mem.of_get d⟩) ?_
  refine .r0 rfl rfl (.fillA rfl sz_29_D rfl rfl rfl rfl) ?_
  rintro _ H4001 ⟨rfl, j, r⟩
  replace f := f.sA j
  replace hs := hs.sA j
  replace b := Keep.st b j (fun k hb hk => ⟨(by omega), trivial⟩)
  replace z := l.keep b (Nat.le_refl _)
  refine .nil (b8 _ _ ?_)
  refine .ret ?_
  refine w _ _ ?_
  refine ⟨_, _, _, _, rfl, ag_29_D, (by rfl), (Mem.of_get r), ?_⟩
  exact ⟨b3, b2, rfl, x.small (by omega), z.kin.keep (.of_le (.refl _)) (by omega), f, hs⟩
end Go.Proofs.Ytjdedelneppnlaa
namespace Go.GL
noncomputable def Cat.liC (c : Cat) (f k : Int) : Int := if c.code [f, k] = 0 then (if c.T f = c.T k then 0 else 5) else c.code [f, k]
end Go.GL
namespace Go.Proofs.Ytjdedelneppnlaa
open Go Go.GL Go.RowKit Go.Proofs
theorem l02Number_c {gS : Nat} {n : Int} {H : GHeap} (hs : DSrc 120 H gS := by assumption) (hn : -9223372036854775808 ≤ n ∧ n ≤ 9223372036854775807 := by omega) :
    GCalls Try.prog 53 [.pointer (some ⟨gS, 0, none⟩), .int .i64 n] H (fun v H' => ∃ k, v = .int .i64 k ∧ I64 k ∧ St [gS] H H' ∧ DSrc 120 H' gS) := by
  have hlS := hs.lt
  refine GCalls.body (N := 15) (rs := [.tmp 4]) Try.func53 rfl rfl rfl rfl (fun Qx c hend => ?_)
  refine .fg [0, 1] rfl ?_
  have a := St.refl [gS] H
  refine .seq (fun K1 w => .region (.mv rfl (.nil (w _ _ (.seq (fun K2 m => .seq (fun K3 o => .region ?_)))))))
  have hs := hs
  refine .mv rfl ?_
  refine .call rfl rfl rfl rfl @Try.call70 rfl (l01Next_c) ?_
  rintro _ H6 ⟨k6, rfl, ka6, kb6, kc6, h, hs⟩
  have nx_H6 := h.nx
  replace a := a.sA h
  refine .q rfl (.cmp rfl rfl rfl) (.nil (o _ _ ?_))
  refine .cond rfl (fun h7 => ?_) (fun h7 => ?_)
  ·
   try simp only [sps] at h7
   refine .seq (fun K4 j => .region (.mv rfl (.mv rfl ?_)))
   refine .R rfl (.litA rfl sl_22_A ze_2_L rfl rfl rfl rfl) ?_
   rintro _ H10 ⟨g10, rfl, b, ge10, f⟩
   replace a := a.le b
   replace hs := hs.le b
   refine .call rfl rfl rfl rfl @Try.call102 rfl ((by have hh := l01Pick_c (xs := [-1, n, 9223372036854775807, -9223372036854775808]) (hl := fun H' s => Ints.of_get (s.same _ _ ⟨by omega, trivial⟩ f)) (h0 := by simp); exact hh)) ?_
   rintro _ H11 ⟨p, d, rfl, g, hs⟩
   obtain ⟨l, r, t⟩ : ∃ k : Int, ([-1, n, 9223372036854775807, -9223372036854775808] : List Int).getD p 0 = k ∧ I64 k := ⟨_, rfl, bd_iff.2 (by intro x hx; simp only [List.mem_cons, List.not_mem_nil, or_false] at hx; omega) _ d⟩
   rw [r]
   replace a := a.sA g
   refine .mv rfl (.nil (j _ _ ?_))
   refine .ret ?_
   refine c _ _ ?_
   refine ⟨_, rfl, ?_⟩
   exact ⟨l, rfl, t, a, hs⟩
  try simp only [sps] at h7
  refine .skip ?_
  refine m _ _ (.seq (fun K5 u => .region (.mv rfl (.mv rfl ?_))))
  refine .call rfl rfl rfl rfl @Try.call70 rfl (l01Next_c) ?_
  rintro _ H14 ⟨i, rfl, ka14, kb14, kc14, e, hs⟩
  replace a := a.sA e
  refine .mv rfl (.nil (u _ _ ?_))
  refine .ret ?_
  refine c _ _ ?_
  refine ⟨_, rfl, ?_⟩
  exact ⟨i, rfl, ⟨by omega, by omega⟩, a, hs⟩
end Go.Proofs.Ytjdedelneppnlaa
namespace Go.GL
def tripC (t : List Int) : Int := if t.isEmpty then 4 else 0
def trip (t : List Int) (k : Int) : Value := .tuple #[.int .i64 (t.getD 0 0), .int .i64 (t.getD 1 0), .int .i64 (t.getD 2 0), .int .i64 k]
theorem Cat.fst_is {c : Cat} {s : Spn} (hc : c.SpC s) (h : c.fstL s ≠ []) : ∃ (z : Nat) (p : Int × Int), (z : Int) < c.obj ∧ p ∈ c.spL s z ∧ c.fstL s = row3 z p ∧ c.SpU s z p := by
  unfold Cat.fstL Cat.firstL at h ⊢
  cases e : (c.sqL s).find? (c.okL (c.sqL s)) with
  | none => rw [e] at h; exact absurd rfl h
  | some t =>
    obtain ⟨z, hz, h2⟩ := mem_objsL.1 (List.mem_of_find?_eq_some e)
    obtain ⟨q, hq, rfl⟩ := List.mem_map.1 h2
    exact ⟨z, q, hz, hq, rfl, (Cat.spV_iff hc hq).1 ((Cat.okL_sq hc hq).1 (List.find?_some e))⟩
theorem one_of {α : Type} {l : List α} (h : l.length = 1) : ∃ x, x ∈ l ∧ ∀ y ∈ l, y = x := by
  match l, h with
  | [x], _ => exact ⟨x, List.mem_singleton.2 rfl, fun y hy => List.mem_singleton.1 hy⟩
theorem Cat.SpU.un {c : Cat} {s : Spn} {z : Int} {p : Int × Int} (h : c.SpU s z p) {w : Nat} (hw : (w : Int) < c.obj) {u v : Int} (hq : c.spM p u ∈ c.spL s w) (hu : u ∈ c.hom w z) (hv : v ∈ c.hom w z) (e : c.spM p v = c.spM p u) : u = v := by
  obtain ⟨x, _, hx⟩ := one_of (h.all w hw _ hq)
  rw [hx u (List.mem_filter.2 ⟨hu, decide_eq_true rfl⟩), hx v (List.mem_filter.2 ⟨hv, decide_eq_true e⟩)]
theorem tripC_0 {t : List Int} : tripC t = 0 ↔ t ≠ [] := by unfold tripC; cases t <;> simp
def NewT (H : GHeap) (v : Value) (H' : GHeap) : Prop := H.Le H' ∧ ∃ c p f k, v = .tuple #[.agg (Cat.cells c p).toArray, .int .i64 f, .int .i64 k] ∧ c.Small ∧ KIn H.next H' c p ∧ I64 f ∧ I64 k
theorem Cat.fst_len (c : Cat) (s : Spn) : c.fstL s = [] ∨ (c.fstL s).length = 3 := by
  rcases Cat.fst_form c s with e | ⟨z, q, _, _, e⟩
  · exact .inl e
  · rw [e]; exact .inr rfl
end Go.GL
namespace Go.Proofs.Ytjdedelneppnlaa
open Go Go.GL Go.RowKit Go.Proofs
theorem tripleS_c {c : Cat} {p : CatP} {gc g : Nat} {s : Spn} {H : GHeap} (h : Cat.At H gc 0 c p := by assumption) (hs : SpnAt Try.prog 125 79 c gc p H g s := by assumption) (hS : c.Shape := by assumption) (hc : c.SpC s := by assumption) :
    GCalls Try.prog 56 [.pointer (some ⟨g, 0, none⟩)] H (fun v H' => H.Le H' ∧ v = trip (c.fstL s) (tripC (c.fstL s))) := by
  refine GCalls.body (N := 22) (rs := [.tmp 2, .tmp 3, .tmp 4, .tmp 5]) Try.func56 rfl rfl rfl rfl (fun Qx e hend => ?_)
  refine .fg [0] rfl ?_
  have b := GHeap.Le.refl H
  have base_h := h
  refine .seq (fun K1 o => .region (.mv rfl (.mv rfl (.mv rfl (.mv rfl (.nil (o _ _ (.seq (fun K2 m => .region (.mv rfl ?_))))))))))
  refine .call rfl rfl rfl rfl @Try.call105 rfl (firstS_c (hs := hs.keep rfl (.of_le b))) ?_
  rintro _ H11 ⟨f, rfl⟩
  have nx_H11 := f.1
  replace b := b.trans f
  refine .mv rfl (.q rfl (.extract rfl rfl) (.q rfl (.extract rfl rfl) (.q rfl (.extract rfl rfl) ?_)))
  refine .R rfl (.allocR rfl ze_102_Li rfl) ?_
  rintro _ H7 ⟨g7, rfl, t, ge7, at7⟩
  replace b := b.trans t
  refine .mv rfl ?_
  refine .r0 rfl rfl (.fillA rfl sz_102_Li rfl rfl rfl rfl) ?_
  rintro _ H1008 ⟨rfl, d, a⟩
  replace b := b.st d (fun k hk => ⟨by omega, trivial⟩)
  refine .mv rfl (.nil (m _ _ (.seq (fun K3 l => .seq (fun K4 j => .region (.mv rfl (.q rfl (.not rfl) (.nil (j _ _ ?_)))))))))
  refine .cond rfl (fun i => ?_) (fun i => ?_)
  ·
   have ht : c.fstL s = [] := List.isEmpty_iff.1 (by simpa only [sps, Bool.not_eq_true, Bool.not_eq_false] using i)
   refine .seq (fun K5 r => .region (.mv rfl (.mv rfl (.mv rfl (.mv rfl (.nil (r _ _ ?_)))))))
   refine .ret ?_
   refine e _ _ ?_
   refine ⟨_, _, _, _, rfl, rfl, rfl, rfl, ?_⟩
   rw [ht]; exact ⟨b, rfl⟩
  have ht : (c.fstL s).isEmpty = false := by simpa only [sps, Bool.not_eq_true, Bool.not_eq_false] using i
  refine .skip ?_
  refine l _ _ (.seq (fun K6 n => ?_))
  refine .regionD mo_B (.q 0 (.q 1 (.q 2 (.q 3 (.q 4 (.q 5 (.q 6 (.q 7 (.q 8 (.done)))))))))) (by kernel_rfl) ?_
  refine .mv rfl rfl (.q rfl (.fieldAddr fo_102_0_Li rfl) ?_)
  refine .q rfl (.load on_2_A rfl (by first | assumption | exact Mem.of_get a 0 _ rfl)) ?_
  refine .q rfl (.fieldAddr fo_102_1_Li rfl) ?_
  refine .q rfl (.load on_2_A rfl (by first | assumption | exact Mem.of_get a 1 _ rfl)) ?_
  refine .mv rfl rfl (.mv rfl rfl (.mv rfl rfl (.mv rfl rfl ?_)))
  refine .done ?_
  refine n _ _ ?_
  refine .ret ?_
  refine e _ _ ?_
  refine ⟨_, _, _, _, rfl, rfl, rfl, rfl, ?_⟩
  unfold trip tripC; rw [ht]; exact ⟨b, rfl⟩
theorem l13Triple_c {a : Option Addr} {xs : List Int} {H : GHeap} (hx : Ints H a xs := by assumption) (h3 : xs = [] ∨ xs.length = 3) :
    GCalls Try.prog 58 [.slice a xs.length xs.length] H (Ret (trip xs (tripC xs)) H) := by
  refine GCalls.body (N := 18) (rs := [.tmp 2, .tmp 3, .tmp 4, .tmp 5]) Try.func58 rfl rfl rfl rfl (fun Qx b hend => ?_)
  refine .fg [0] rfl ?_
  have base_hx := hx
  refine .seq (fun K1 g => .region (.mv rfl (.mv rfl (.mv rfl (.mv rfl (.nil (g _ _ (.seq (fun K2 f => .seq (fun K3 d => .region (.mv rfl (.q rfl (.len sl_22_A rfl) (.q rfl (.cmp rfl rfl rfl) (.nil (d _ _ ?_)))))))))))))))
  refine .cond rfl (fun h8 => ?_) (fun h8 => ?_)
  ·
   have ht : xs = [] := List.length_eq_zero_iff.1 (by simp only [sps] at h8; omega)
   refine .seq (fun K4 c => .region (.mv rfl (.mv rfl (.mv rfl (.mv rfl (.nil (c _ _ ?_)))))))
   refine .ret ?_
   refine b _ _ ?_
   refine ⟨_, _, _, _, rfl, rfl, rfl, rfl, ?_⟩
   subst ht; exact .of rfl
  have hl : xs.length = 3 := h3.resolve_left fun e => by rw [e] at h8; simp at h8
  have ht : xs.isEmpty = false := by cases xs with
    | nil => simp at hl
    | cons a l => rfl
  refine .skip ?_
  refine f _ _ (.seq (fun K5 h => ?_))
  refine .regionD mo_B (.q 0 (.q 1 (.q 2 (.q 3 (.q 4 (.q 5 (.q 6 (.q 7 (.q 8 (.q 9 (.q 10 (.q 11 (.q 12 (.done)))))))))))))) (by kernel_rfl) ?_
  refine .mv rfl rfl ?_
  refine .q rfl (.idxN (j := 0) sl_22_A (by assumption) rfl rfl (by omega)) ?_
  refine .q rfl (.loadI on_2_A (by assumption) rfl (by omega)) ?_
  refine .mv rfl rfl ?_
  refine .q rfl (.idxN (j := 1) sl_22_A (by assumption) rfl rfl (by omega)) ?_
  refine .q rfl (.loadI on_2_A (by assumption) rfl (by omega)) ?_
  refine .mv rfl rfl ?_
  refine .q rfl (.idxN (j := 2) sl_22_A (by assumption) rfl rfl (by omega)) ?_
  refine .q rfl (.loadI on_2_A (by assumption) rfl (by omega)) ?_
  refine .mv rfl rfl (.mv rfl rfl (.mv rfl rfl (.mv rfl rfl ?_)))
  refine .done ?_
  refine h _ _ ?_
  refine .ret ?_
  refine b _ _ ?_
  refine ⟨_, _, _, _, rfl, rfl, rfl, rfl, ?_⟩
  refine .of ?_
  unfold trip tripC
  rw [ht]; rfl
end Go.Proofs.Ytjdedelneppnlaa
