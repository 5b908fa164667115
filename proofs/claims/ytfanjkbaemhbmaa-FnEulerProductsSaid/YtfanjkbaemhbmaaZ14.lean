/- The law of Euler characteristics. No condition but those of each statement. -/
import Derived.Test.YtfanjkbaemhbmaaZ13
namespace Go.Proofs.Ytfanjkbaemhbmaa
open Go Go.GL Go.RowKit Go.Proofs
set_option maxHeartbeats 40000000 in
theorem lawFnEulerProducts_c {a : Option Addr} {xs : List Int} {H : GHeap} (hb : Bytes H a xs) (hl : xs.length ≤ 9223372036854775807) (hlt : ∀ b o t, a = some ⟨b, o, t⟩ → b < H.next) :
    GCalls Try.prog 3 [.slice a xs.length xs.length] H (fun v _ => v = .bool true) := by
  refine GCalls.body (N := 166) (rs := [.tmp 2]) Try.func3 rfl rfl rfl rfl (fun Qx l hend => ?_)
  refine .fg [0] rfl ?_
  have a2 := GHeap.Le.refl H
  have r := hb
  refine .seq (fun K1 o9 => .region (.mv rfl (.nil (o9 _ _ (.seq (fun K2 p2 => .seq (fun K3 p3 => .region (.mv rfl ?_))))))))
  refine .callQ rfl rfl rfl rfl @Try.call6 rfl (big_c) ?_
  refine .nil (p3 _ _ ?_)
  refine .cond rfl (fun i9 => ?_) (fun i9 => ?_)
  ·
   try simp only [sps] at i9
   refine .seq (fun K4 o4 => .region (.mv rfl (.nil (o4 _ _ ?_))))
   refine .ret ?_
   refine l _ _ ?_
   refine ⟨_, rfl, ?_⟩
   rfl
  simp only [sps] at i9
  refine .skip ?_
  refine p2 _ _ (.seq (fun K5 o5 => .region (.mv rfl ?_)))
  refine .call rfl rfl rfl rfl @Try.call7 rfl (drawEuler_c) ?_
  rintro _ n8 ⟨h8, c1, p32, rfl, sm32, b0⟩
  have nx_H32 := h8.1
  replace a2 := a2.trans h8
  have p := b0
  have f : Keep H.next n8 n8 := fun _ _ _ h => h
  replace hb := r.mono a2
  have b9 := b0.inn
  refine .R rfl (.allocR rfl ze_27_Hj rfl) ?_
  rintro _ H3 ⟨g3, rfl, j3, ge3, o8⟩
  have nx_H3 := j3.1
  replace a2 := a2.trans j3
  replace f := Keep.le f j3
  replace b0 := p.keep f (Nat.le_refl _)
  have lt_at3 := GHeap.ltg o8
  replace hb := r.mono a2
  clear b9
  have b9 := b0.inn
  refine .r0 rfl rfl (.fillA rfl sz_27_D rfl rfl rfl rfl) ?_
  rintro _ H3003 ⟨rfl, c0, e⟩
  have nx_H3003 := c0.nx
  replace a2 := a2.st c0 (fun k hk => ⟨by omega, trivial⟩)
  replace f := Keep.st f c0 (fun k hb hk => ⟨by omega, trivial⟩)
  replace b0 := p.keep f (Nat.le_refl _)
  have lt_at3003 := GHeap.ltg e
  clear b9
  have b9 := b0.inn
  refine .nil (o5 _ _ (.seq (fun K6 o6 => .region ?_)))
  refine .q rfl (.loadM ag_27_D rfl ⟨rfl, Mem.of_get e⟩) ?_
  refine .call rfl rfl rfl rfl @Try.call8 rfl (implEuler_c) ?_
  rintro _ H35 ⟨d8, rfl⟩
  have nx_H35 := d8.1
  replace a2 := a2.trans d8
  replace e := d8.2 _ _ e
  replace f := Keep.le f d8
  replace b0 := p.keep f (Nat.le_refl _)
  clear b9
  have b9 := b0.inn
  refine .mv rfl (.q rfl (.extract rfl rfl) (.q rfl (.extract rfl rfl) (.mv rfl (.mv rfl (.nil (o6 _ _ (.seq (fun K7 p1 => .region ?_))))))))
  refine .q rfl (.loadM ag_27_D rfl ⟨rfl, Mem.of_get e⟩) ?_
  refine .call rfl rfl rfl rfl @Try.call9 rfl (specEuler_c) ?_
  rintro _ p0 ⟨e7, rfl⟩
  have nx_H40 := e7.1
  replace a2 := a2.trans e7
  replace e := e7.2 _ _ e
  replace f := Keep.le f e7
  clear b9
  have w : MemN _ _ _ _ _ := ⟨rfl, Mem.of_get e⟩
  refine .mv rfl (.q rfl (.extract rfl rfl) (.q rfl (.extract rfl rfl) (.mv rfl (.mv rfl (.nil (p1 _ _ (.seq (fun K8 o3 => .seq (fun K9 o0 => .region (.mv rfl (.mv rfl (.q rfl (.cmp rfl rfl rfl) (.mv rfl ?_)))))))))))))
  refine .split (fun g5 => ?_) (fun g5 => ?_)
  ·
   try simp only [sps] at g5
   refine .z rfl (.z rfl (.z rfl (.q rfl (.pickT rfl rfl) (.nil (o0 _ _ ?_)))))
   refine .condT rfl ?_
   refine .seq (fun K10 i8 => .region (.mv rfl (.nil (i8 _ _ ?_))))
   refine .ret ?_
   refine l _ _ ?_
   refine ⟨_, rfl, ?_⟩
   exact (by first | exact absurd rfl g5 | exact g5.elim | exact absurd g5 (by simp) : False).elim
  try simp only [sps] at g5
  refine .qg rfl (.move rfl) (.qg rfl (.move rfl) (.qg rfl (.cmp rfl rfl rfl) (.q rfl (.pickF rfl rfl) (.nil (o0 _ _ ?_)))))
  refine .cond rfl (fun g8 => ?_) (fun g8 => ?_)
  ·
   try simp only [sps] at g8
   refine .seq (fun K11 l5 => .region (.mv rfl (.nil (l5 _ _ ?_))))
   refine .ret ?_
   refine l _ _ ?_
   refine ⟨_, rfl, ?_⟩
   exact (by first | exact absurd rfl g8 | exact g8.elim | exact absurd g8 (by simp) : False).elim
  try simp only [sps] at g8
  refine .skip ?_
  refine o3 _ _ (.seq (fun K12 l0 => .seq (fun K13 l7 => .region (.mv rfl (.q rfl (.cmp rfl rfl rfl) (.nil (l7 _ _ ?_)))))))
  refine .cond rfl (fun d4 => ?_) (fun d4 => ?_)
  ·
   try simp only [sps] at d4
   refine .seq (fun K14 m9 => .region (.mv rfl (.nil (m9 _ _ ?_))))
   refine .ret ?_
   refine l _ _ ?_
   refine ⟨_, rfl, ?_⟩
   rfl
  simp only [sps] at d4
  obtain ⟨hC, hnc⟩ := Cat.of_euC d4
  have hS := hC.1
  have b5 := hS.obj
  refine .skip ?_
  refine l0 _ _ (.seq (fun K15 i1 => .region (.mv rfl (.mv rfl (.nil (i1 _ _ (.seq (fun K16 n3 => .seq (fun K17 m0 => .region (.mv rfl (.nil (m0 _ _ ?_))))))))))))
  refine .block ?_
  refine .loopR (σ := Nat) [(3, some _), (6, some _)] (fun k => [(10, some (.int .i64 (k : Int))), (8, some (.int .i64 (c1.chi k))), (9, some (.int .i64 (sgn k)))]) (fun k H' => St [] p0 H' ∧ k ≤ c1.obj.toNat) (fun k => c1.obj.toNat - k) (0) ⟨rfl, rfl, trivial⟩ ⟨rfl, rfl, rfl, trivial⟩ ?_ ?_
  ·
   refine ⟨.refl _ _, ?_⟩
   omega
  rintro k HL1 ⟨a9, hI⟩ KL1 k3
  refine .forget (fr' := [(10, some (.int .i64 (k : Int))), (8, some (.int .i64 (c1.chi k))), (9, some (.int .i64 (sgn k))), (3, some _), (6, some _)]) ⟨rfl, rfl, rfl, rfl, rfl, trivial⟩ ?_
  have nx_HL1 := a9.nx
  replace a2 := a2.st a9 (fun k hk => trivial)
  replace e := a9.same _ _ trivial e
  replace f := Keep.st f a9 (fun k hb hk => trivial)
  replace b0 := p.keep f (Nat.le_refl _)
  replace hb := r.mono a2
  have b9 := b0.inn
  clear w
  have w : MemN _ _ _ _ _ := ⟨rfl, Mem.of_get e⟩
  have b1 := Cat.nc_bd hS c1.mv (k := k) (by omega)
  have b2 := Cat.chi_bd hS (k := k) (by omega)
  have b3 := sgn_bd k
  have b4 := sgn_bd2 (k := k) b1
  have b6 := c1.nc_mono k
  refine .seq (fun K18 n7 => .seq (fun K19 n4 => .region (.mv rfl (.q rfl (.fieldAddr fo_27_0_B rfl) ?_))))
  refine .q rfl (.load on_2_A rfl (by first | assumption | exact Mem.of_get e 0 _ rfl)) ?_
  refine .q rfl (.cmp rfl rfl rfl) (.nil (n4 _ _ ?_))
  refine .cond rfl (fun k4 => ?_) (fun k4 => ?_)
  ·
   simp only [sps] at k4
   refine .skip ?_
   refine n7 _ _ (.seq (fun K20 m1 => ?_))
   refine .block ?_
   refine .seq (fun K21 i5 => .region ?_)
   refine .q rfl (.loadM ag_27_D rfl ⟨rfl, Mem.of_get e⟩) ?_
   refine .mv rfl ?_
   refine .call rfl rfl rfl rfl @Try.call10 rfl (countProper_c (k := k) (hI := hC)) ?_
   rintro _ H62 ⟨c8, rfl⟩
   have nx_H62 := c8.1
   replace a2 := a2.trans c8
   replace a9 := a9.le c8
   replace e := c8.2 _ _ e
   replace f := Keep.le f c8
   replace b0 := p.keep f (Nat.le_refl _)
   replace hb := r.mono a2
   clear b9
   have b9 := b0.inn
   clear w
   have w : MemN _ _ _ _ _ := ⟨rfl, Mem.of_get e⟩
   refine .mv rfl (.q rfl (.extract rfl rfl) (.q rfl (.extract rfl rfl) (.mv rfl (.mv rfl (.nil (i5 _ _ (.seq (fun K22 k1 => .region ?_))))))))
   refine .q rfl (.loadM ag_27_D rfl ⟨rfl, Mem.of_get e⟩) ?_
   refine .mv rfl ?_
   refine .call rfl rfl rfl rfl @Try.call11 rfl (countChains_c (k := k) (hI := hC)) ?_
   rintro _ H68 ⟨d3, rfl⟩
   have nx_H68 := d3.1
   replace a2 := a2.trans d3
   replace a9 := a9.le d3
   replace e := d3.2 _ _ e
   replace f := Keep.le f d3
   replace b0 := p.keep f (Nat.le_refl _)
   replace hb := r.mono a2
   clear b9
   have b9 := b0.inn
   clear w
   have w : MemN _ _ _ _ _ := ⟨rfl, Mem.of_get e⟩
   refine .mv rfl (.q rfl (.extract rfl rfl) (.q rfl (.extract rfl rfl) (.mv rfl (.mv rfl (.nil (k1 _ _ (.seq (fun K23 j1 => .seq (fun K24 f3 => .region (.mv rfl (.q rfl (.cmp rfl rfl rfl) (.mv rfl ?_))))))))))))
   refine .split (fun g6 => ?_) (fun g6 => ?_)
   ·
    try simp only [sps] at g6
    refine .z rfl (.z rfl (.q rfl (.pickT rfl rfl) (.mv rfl (.z rfl (.z rfl (.z rfl (.q rfl (.pickT rfl rfl) (.nil (f3 _ _ ?_)))))))))
    refine .condT rfl ?_
    refine .seq (fun K25 i6 => .region (.mv rfl (.nil (i6 _ _ ?_))))
    refine .ret ?_
    refine l _ _ ?_
    refine ⟨_, rfl, ?_⟩
    exact (by first | exact absurd rfl g6 | exact g6.elim | exact absurd g6 (by simp) : False).elim
   try simp only [sps] at g6
   refine .qg rfl (.move rfl) (.qg rfl (.cmp rfl rfl rfl) (.q rfl (.pickF rfl rfl) (.mv rfl ?_)))
   refine .split (fun g7 => ?_) (fun g7 => ?_)
   ·
    try simp only [sps] at g7
    refine .z rfl (.z rfl (.z rfl (.q rfl (.pickT rfl rfl) (.nil (f3 _ _ ?_)))))
    refine .condT rfl ?_
    refine .seq (fun K26 n6 => .region (.mv rfl (.nil (n6 _ _ ?_))))
    refine .ret ?_
    refine l _ _ ?_
    refine ⟨_, rfl, ?_⟩
    exact (by first | exact absurd rfl g7 | exact g7.elim | exact absurd g7 (by simp) : False).elim
   try simp only [sps] at g7
   refine .qg rfl (.move rfl) (.qg rfl (.move rfl) (.qg rfl (.cmp rfl rfl rfl) (.q rfl (.pickF rfl rfl) (.nil (f3 _ _ ?_)))))
   refine .cond rfl (fun h9 => ?_) (fun h9 => ?_)
   ·
    try simp only [sps] at h9
    refine .seq (fun K27 k5 => .region (.mv rfl (.nil (k5 _ _ ?_))))
    refine .ret ?_
    refine l _ _ ?_
    refine ⟨_, rfl, ?_⟩
    exact absurd h9 (by omega)
   try simp only [sps] at h9
   refine .skip ?_
   refine j1 _ _ (.seq (fun K28 k0 => .region (.mv rfl (.mv rfl (.mv rfl ?_)))))
   refine .q rfl (.mul rfl rfl rfl (by omega) (by omega)) ?_
   refine .q rfl (.add rfl rfl rfl (by omega) (by omega)) ?_
   refine .mv rfl (.nil (k0 _ _ (.region (.mv rfl (.q rfl (.neg rfl) (.mv rfl (.nil (m1 _ _ (.region (.mv rfl ?_))))))))))
   refine .q rfl (.add rfl rfl rfl (by omega) (by omega)) ?_
   refine .mv rfl (.nil ?_)
   rw [wrap_sgn]
   refine k3 (k + 1) _ _ ?_ ?_ ⟨rfl, rfl, rfl, rfl, rfl, trivial⟩
   ·
    refine ⟨a9, ?_⟩
    omega
   omega
  try simp only [sps] at k4
  refine .exit ?_
  refine n3 _ _ (.seq (fun K29 i7 => .seq (fun K30 m8 => .region (.mv rfl (.mv rfl (.q rfl (.cmp rfl rfl rfl) (.nil (m8 _ _ ?_))))))))
  refine .cond rfl (fun i0 => ?_) (fun i0 => ?_)
  ·
   try simp only [sps] at i0
   refine .seq (fun K31 l3 => .region (.mv rfl (.nil (l3 _ _ ?_))))
   refine .ret ?_
   refine l _ _ ?_
   refine ⟨_, rfl, ?_⟩
   exact absurd (by rw [show k = c1.obj.toNat by omega]; exact (Cat.eu_ok hC hnc).1.symm) i0
  try simp only [sps] at i0
  refine .skip ?_
  refine i7 _ _ (.seq (fun K32 l6 => .region ?_))
  obtain rfl : k = c1.obj.toNat := by omega
  have e0 := Cat.code_nil.2 hC
  have e1 := Cat.op_ok hC
  have eo := Cat.eu_op d4
  have o1 : c1.opR.euC = 0 := by rw [e1]; exact eo.2.1
  have o2 : c1.opR.euV = c1.euV := by rw [e1]; exact eo.2.2
  have hsm := c1.opR_small
  have hsv : vee.Small := vee_is.1.small
  have hs1 := Cat.plR_small hC
  have hs2 := Cat.prR_small hC
  refine .q rfl (.loadM ag_27_D rfl ⟨rfl, Mem.of_get e⟩) ?_
  refine .call rfl rfl rfl rfl @Try.call12 rfl (oppositeCategory_c) ?_
  rintro _ n9 ⟨g2, p94, rfl, n2⟩
  have nx_H94 := g2.1
  replace e := g2.2 _ _ e
  replace f := Keep.le f g2
  have f2 := n2
  have a0 : Keep HL1.next n9 n9 := fun _ _ _ h => h
  refine .mv rfl (.q rfl (.extract rfl rfl) (.q rfl (.extract rfl rfl) ?_))
  refine .R rfl (.allocR rfl ze_27_Hj rfl) ?_
  rintro _ H15 ⟨g15, rfl, f7, ge15, at15⟩
  replace e := f7.2 _ _ e
  replace f := Keep.le f f7
  replace a0 := Keep.le a0 f7
  refine .r0 rfl rfl (.fillA rfl sz_27_D rfl rfl rfl rfl) ?_
  rintro _ H22006 ⟨rfl, a6, c2⟩
  replace e := a6.s e
  replace f := Keep.st f a6 (fun k hb hk => ⟨by omega, trivial⟩)
  replace a0 := Keep.st a0 a6 (fun k hb hk => ⟨by omega, trivial⟩)
  replace n2 := f2.keep a0 (Nat.le_refl _)
  have lt_at22006 := GHeap.ltg c2
  have o7 := n2.inn
  refine .mv rfl (.nil (l6 _ _ (.seq (fun K33 l9 => .region ?_))))
  refine .q rfl (.loadM ag_27_D rfl ⟨rfl, Mem.of_get c2⟩) ?_
  refine .call rfl rfl rfl rfl @Try.call8 rfl (implEuler_c) ?_
  rintro _ H99 ⟨f6, rfl⟩
  have nx_H99 := f6.1
  replace e := f6.2 _ _ e
  replace f := Keep.le f f6
  clear o7
  refine .mv rfl (.q rfl (.extract rfl rfl) (.q rfl (.extract rfl rfl) (.mv rfl (.mv rfl (.nil (l9 _ _ (.seq (fun K34 l8 => .region ?_))))))))
  refine .R rfl (.litA rfl sl_24_A ze_2_Pa rfl rfl rfl rfl) ?_
  rintro _ H103 ⟨j5, rfl, f1, ge103, x⟩
  replace e := f1.2 _ _ e
  replace f := Keep.le f f1
  have lt_at103 := GHeap.ltg x
  refine .R rfl (.litA rfl sl_24_A ze_2_Pa rfl rfl rfl rfl) ?_
  rintro _ H104 ⟨k9, rfl, c9, ge104, a3⟩
  replace e := c9.2 _ _ e
  replace x := c9.2 _ _ x
  replace f := Keep.le f c9
  have lt_at104 := GHeap.ltg a3
  refine .R rfl (.litA rfl sl_24_A ze_2_Pa rfl rfl rfl rfl) ?_
  rintro _ H105 ⟨k2, rfl, c3, ge105, c4⟩
  replace e := c3.2 _ _ e
  replace x := c3.2 _ _ x
  replace a3 := c3.2 _ _ a3
  replace f := Keep.le f c3
  have lt_at105 := GHeap.ltg c4
  refine .R rfl (.litA rfl sl_25_B ze_24_Tb rfl rfl rfl rfl) ?_
  rintro _ l2 ⟨g106, rfl, b8, ge106, e9⟩
  replace e := b8.2 _ _ e
  replace x := b8.2 _ _ x
  replace a3 := b8.2 _ _ a3
  replace c4 := b8.2 _ _ c4
  replace f := Keep.le f b8
  have lt_at106 := GHeap.ltg e9
  refine .call rfl rfl rfl rfl @Try.call13 rfl ((by have hh := preorderCategory_c (rel := [[1, 1, 1], [0, 1, 0], [0, 0, 1]]) (h := ((lit_own (gs := [j5, k9, k2]) (by simp only [LitAt]; exact ⟨⟨Nat.zero_le _, x⟩, ⟨Nat.zero_le _, a3⟩, ⟨Nat.zero_le _, c4⟩, trivial⟩) (by simp <;> omega)).done (by exact e9) (Nat.zero_le _)).intss) (hrel := rfl); exact hh)) ?_
  rintro _ h0 ⟨d0, p107, rfl, d1⟩
  have nx_H107 := d0.1
  replace e := d0.2 _ _ e
  replace f := Keep.le f d0
  have c5 := d1
  have g : Keep l2.next h0 h0 := fun _ _ _ h => h
  refine .mv rfl (.q rfl (.extract rfl rfl) (.q rfl (.extract rfl rfl) ?_))
  refine .R rfl (.allocR rfl ze_27_Hj rfl) ?_
  rintro _ H19 ⟨g19, rfl, g0, ge19, at19⟩
  replace e := g0.2 _ _ e
  replace f := Keep.le f g0
  replace g := Keep.le g g0
  refine .r0 rfl rfl (.fillA rfl sz_27_D rfl rfl rfl rfl) ?_
  rintro _ g1 ⟨rfl, a8, j⟩
  replace e := a8.s e
  replace f := Keep.st f a8 (fun k hb hk => ⟨by omega, trivial⟩)
  replace b0 := p.keep f (Nat.le_refl _)
  replace g := Keep.st g a8 (fun k hb hk => ⟨by omega, trivial⟩)
  replace d1 := c5.keep g (Nat.le_refl _)
  have lt_at24009 := GHeap.ltg j
  have b9 := b0.inn
  have f4 := d1.inn
  refine .mv rfl (.nil (l8 _ _ (.seq (fun K35 m5 => .region ?_))))
  refine .q rfl (.loadM ag_27_D rfl ⟨rfl, Mem.of_get e⟩) ?_
  refine .q rfl (.loadM ag_27_D rfl ⟨rfl, Mem.of_get j⟩) ?_
  refine .call rfl rfl rfl rfl @Try.call14 rfl (sumCategory_c (c := c1) (d := vee) (hs := by assumption) (hs' := hsv) (ic := hC) (jd := vee_is)) ?_
  rintro _ h6 ⟨b7, p113, rfl, f9⟩
  have nx_H113 := b7.1
  replace e := b7.2 _ _ e
  replace j := b7.2 _ _ j
  replace f := Keep.le f b7
  replace g := Keep.le g b7
  have e3 := f9
  have i : Keep g1.next h6 h6 := fun _ _ _ h => h
  clear b9
  clear f4
  refine .mv rfl (.q rfl (.extract rfl rfl) (.q rfl (.extract rfl rfl) ?_))
  refine .R rfl (.allocR rfl ze_27_Hj rfl) ?_
  rintro _ H21 ⟨g21, rfl, d6, ge21, at21⟩
  replace e := d6.2 _ _ e
  replace j := d6.2 _ _ j
  replace f := Keep.le f d6
  replace g := Keep.le g d6
  replace i := Keep.le i d6
  refine .r0 rfl rfl (.fillA rfl sz_27_D rfl rfl rfl rfl) ?_
  rintro _ g4 ⟨rfl, u, n⟩
  replace e := u.s e
  replace j := u.s j
  replace f := Keep.st f u (fun k hb hk => ⟨by omega, trivial⟩)
  replace b0 := p.keep f (Nat.le_refl _)
  replace g := Keep.st g u (fun k hb hk => ⟨by omega, trivial⟩)
  replace d1 := c5.keep g (Nat.le_refl _)
  replace i := Keep.st i u (fun k hb hk => ⟨by omega, trivial⟩)
  have lt_at25007 := GHeap.ltg n
  have b9 := b0.inn
  have f4 := d1.inn
  refine .mv rfl (.nil (m5 _ _ (.seq (fun K36 k6 => .region ?_))))
  refine .q rfl (.loadM ag_27_D rfl ⟨rfl, Mem.of_get e⟩) ?_
  refine .q rfl (.loadM ag_27_D rfl ⟨rfl, Mem.of_get j⟩) ?_
  refine .call rfl rfl rfl rfl @Try.call15 rfl (productCategory_c (c := c1) (d := vee) (hs := by assumption) (hs' := hsv) (ic := hC) (jd := vee_is)) ?_
  rintro _ h7 ⟨d5, p119, rfl, d7⟩
  have nx_H119 := d5.1
  replace n := d5.2 _ _ n
  replace i := Keep.le i d5
  have c6 := d7
  have m : Keep g4.next h7 h7 := fun _ _ _ h => h
  clear b9
  clear f4
  refine .mv rfl (.q rfl (.extract rfl rfl) (.q rfl (.extract rfl rfl) ?_))
  refine .R rfl (.allocR rfl ze_27_Hj rfl) ?_
  rintro _ H23 ⟨g23, rfl, f5, ge23, at23⟩
  replace n := f5.2 _ _ n
  replace i := Keep.le i f5
  replace m := Keep.le m f5
  refine .r0 rfl rfl (.fillA rfl sz_27_D rfl rfl rfl rfl) ?_
  rintro _ H26007 ⟨rfl, a5, y⟩
  replace n := a5.s n
  replace i := Keep.st i a5 (fun k hb hk => ⟨by omega, trivial⟩)
  replace f9 := e3.keep i (Nat.le_refl _)
  replace m := Keep.st m a5 (fun k hb hk => ⟨by omega, trivial⟩)
  replace d7 := c6.keep m (Nat.le_refl _)
  have i2 := f9.inn
  have f8 := d7.inn
  refine .mv rfl (.nil (k6 _ _ (.seq (fun K37 m6 => .seq (fun K38 e5 => .region (.mv rfl (.q rfl (.cmp rfl rfl rfl) (.mv rfl ?_))))))))
  refine .split (fun e4 => ?_) (fun e4 => ?_)
  ·
   try simp only [sps] at e4
   refine .z rfl (.z rfl (.q rfl (.pickT rfl rfl) (.mv rfl (.z rfl (.z rfl (.z rfl (.q rfl (.pickT rfl rfl) (.mv rfl (.z rfl (.z rfl (.q rfl (.pickT rfl rfl) (.nil (e5 _ _ ?_)))))))))))))
   refine .condT rfl ?_
   refine .seq (fun K39 i3 => .region (.mv rfl (.nil (i3 _ _ ?_))))
   refine .ret ?_
   refine l _ _ ?_
   refine ⟨_, rfl, ?_⟩
   exact absurd e0 e4
  try simp only [sps] at e4
  refine .qg rfl (.move rfl) (.qg rfl (.cmp rfl rfl rfl) (.q rfl (.pickF rfl rfl) (.mv rfl ?_)))
  refine .split (fun e8 => ?_) (fun e8 => ?_)
  ·
   try simp only [sps] at e8
   refine .z rfl (.z rfl (.z rfl (.q rfl (.pickT rfl rfl) (.mv rfl (.z rfl (.z rfl (.q rfl (.pickT rfl rfl) (.nil (e5 _ _ ?_)))))))))
   refine .condT rfl ?_
   refine .seq (fun K40 j7 => .region (.mv rfl (.nil (j7 _ _ ?_))))
   refine .ret ?_
   refine l _ _ ?_
   refine ⟨_, rfl, ?_⟩
   exact absurd o1 e8
  try simp only [sps] at e8
  refine .qg rfl (.move rfl) (.qg rfl (.move rfl) (.qg rfl (.cmp rfl rfl rfl) (.q rfl (.pickF rfl rfl) (.mv rfl ?_))))
  refine .split (fun d9 => ?_) (fun d9 => ?_)
  ·
   try simp only [sps] at d9
   refine .z rfl (.z rfl (.q rfl (.pickT rfl rfl) (.nil (e5 _ _ ?_))))
   refine .condT rfl ?_
   refine .seq (fun K41 j0 => .region (.mv rfl (.nil (j0 _ _ ?_))))
   refine .ret ?_
   refine l _ _ ?_
   refine ⟨_, rfl, ?_⟩
   exact absurd o2 d9
  try simp only [sps] at d9
  refine .qg rfl (.move rfl) (.qg rfl (.cmp rfl rfl rfl) (.q rfl (.pickF rfl rfl) (.nil (e5 _ _ ?_))))
  refine .cond rfl (fun c7 => ?_) (fun c7 => ?_)
  ·
   try simp only [sps] at c7
   refine .seq (fun K42 i4 => .region (.mv rfl (.nil (i4 _ _ ?_))))
   refine .ret ?_
   refine l _ _ ?_
   refine ⟨_, rfl, ?_⟩
   exact (by first | exact absurd rfl c7 | exact c7.elim | exact absurd c7 (by simp) : False).elim
  try simp only [sps] at c7
  refine .skip ?_
  refine m6 _ _ (.seq (fun K43 h3 => .seq (fun K44 j6 => .region (.mv rfl (.q rfl (.cmp rfl rfl rfl) (.nil (j6 _ _ ?_)))))))
  refine .cond rfl (fun d2 => ?_) (fun d2 => ?_)
  ·
   try simp only [sps] at d2
   refine .seq (fun K45 j8 => .region ?_)
   refine .q rfl (.loadM ag_27_D rfl ⟨rfl, Mem.of_get n⟩) ?_
   refine .call rfl rfl rfl rfl @Try.call8 rfl (implEuler_c) ?_
   rintro _ H141 ⟨f0, rfl⟩
   replace y := f0.2 _ _ y
   replace m := Keep.le m f0
   replace d7 := c6.keep m (Nat.le_refl _)
   clear i2
   clear f8
   have f8 := d7.inn
   refine .mv rfl (.q rfl (.extract rfl rfl) (.q rfl (.extract rfl rfl) (.mv rfl (.mv rfl (.nil (j8 _ _ (.seq (fun K46 h2 => .region (.mv rfl (.q rfl (.cmp rfl rfl rfl) (.mv rfl ?_)))))))))))
   refine .split (fun e6 => ?_) (fun e6 => ?_)
   ·
    try simp only [sps] at e6
    refine .z rfl (.z rfl (.z rfl (.z rfl (.q rfl (.pickT rfl rfl) (.nil (h2 _ _ ?_))))))
    refine .condT rfl ?_
    refine .seq (fun K47 n5 => .region (.mv rfl (.nil (n5 _ _ ?_))))
    refine .ret ?_
    refine l _ _ ?_
    refine ⟨_, rfl, ?_⟩
    exact absurd (Cat.eu_plR d4 d2).1 e6
   try simp only [sps] at e6
   refine .qg rfl (.move rfl) (.qg rfl (.move rfl) ?_)
   refine .qg rfl (.add rfl rfl rfl (by omega) (by omega)) ?_
   refine .qg rfl (.cmp rfl rfl rfl) (.q rfl (.pickF rfl rfl) (.nil (h2 _ _ ?_)))
   refine .cond rfl (fun e2 => ?_) (fun e2 => ?_)
   ·
    try simp only [sps] at e2
    refine .seq (fun K48 j9 => .region (.mv rfl (.nil (j9 _ _ ?_))))
    refine .ret ?_
    refine l _ _ ?_
    refine ⟨_, rfl, ?_⟩
    exact absurd (Cat.eu_plR d4 d2).2 e2
   try simp only [sps] at e2
   refine .skip ?_
   refine h3 _ _ (.seq (fun K49 g9 => .seq (fun K50 m7 => .region (.mv rfl (.q rfl (.cmp rfl rfl rfl) (.nil (m7 _ _ ?_)))))))
   refine .cond rfl (fun a1 => ?_) (fun a1 => ?_)
   ·
    try simp only [sps] at a1
    refine .seq (fun K51 n0 => .region ?_)
    refine .q rfl (.loadM ag_27_D rfl ⟨rfl, Mem.of_get y⟩) ?_
    refine .call rfl rfl rfl rfl @Try.call8 rfl (implEuler_c) ?_
    rintro _ H156 ⟨le156, rfl⟩
    clear f8
    refine .mv rfl (.q rfl (.extract rfl rfl) (.q rfl (.extract rfl rfl) (.mv rfl (.mv rfl (.nil (n0 _ _ (.seq (fun K52 h5 => .region (.mv rfl (.q rfl (.cmp rfl rfl rfl) (.mv rfl ?_)))))))))))
    refine .split (fun a7 => ?_) (fun a7 => ?_)
    ·
     try simp only [sps] at a7
     refine .z rfl (.z rfl (.z rfl (.q rfl (.pickT rfl rfl) (.nil (h5 _ _ ?_)))))
     refine .condT rfl ?_
     refine .seq (fun K53 j4 => .region (.mv rfl (.nil (j4 _ _ ?_))))
     refine .ret ?_
     refine l _ _ ?_
     refine ⟨_, rfl, ?_⟩
     exact absurd (Cat.eu_prR d4 a1).1 a7
    try simp only [sps] at a7
    refine .qg rfl (.move rfl) (.qg rfl (.move rfl) (.qg rfl (.cmp rfl rfl rfl) (.q rfl (.pickF rfl rfl) (.nil (h5 _ _ ?_)))))
    refine .cond rfl (fun a4 => ?_) (fun a4 => ?_)
    ·
     try simp only [sps] at a4
     refine .seq (fun K54 l1 => .region (.mv rfl (.nil (l1 _ _ ?_))))
     refine .ret ?_
     refine l _ _ ?_
     refine ⟨_, rfl, ?_⟩
     exact absurd (Cat.eu_prR d4 a1).2 a4
    try simp only [sps] at a4
    refine .skip ?_
    refine g9 _ _ (.seq (fun K55 k8 => .region (.mv rfl (.nil (k8 _ _ ?_)))))
    refine .ret ?_
    refine l _ _ ?_
    refine ⟨_, rfl, ?_⟩
    rfl
   try simp only [sps] at a1
   refine .skip ?_
   refine g9 _ _ (.seq (fun K56 k7 => .region (.mv rfl (.nil (k7 _ _ ?_)))))
   refine .ret ?_
   refine l _ _ ?_
   refine ⟨_, rfl, ?_⟩
   rfl
  try simp only [sps] at d2
  refine .skip ?_
  refine h3 _ _ (.seq (fun K57 h1 => .seq (fun K58 j2 => .region (.mv rfl (.q rfl (.cmp rfl rfl rfl) (.nil (j2 _ _ ?_)))))))
  refine .cond rfl (fun a1 => ?_) (fun a1 => ?_)
  ·
   try simp only [sps] at a1
   refine .seq (fun K59 m3 => .region ?_)
   refine .q rfl (.loadM ag_27_D rfl ⟨rfl, Mem.of_get y⟩) ?_
   refine .call rfl rfl rfl rfl @Try.call8 rfl (implEuler_c) ?_
   rintro _ H156x2 ⟨le156x2, rfl⟩
   refine .mv rfl (.q rfl (.extract rfl rfl) (.q rfl (.extract rfl rfl) (.mv rfl (.mv rfl (.nil (m3 _ _ (.seq (fun K60 h4 => .region (.mv rfl (.q rfl (.cmp rfl rfl rfl) (.mv rfl ?_)))))))))))
   refine .split (fun a7 => ?_) (fun a7 => ?_)
   ·
    try simp only [sps] at a7
    refine .z rfl (.z rfl (.z rfl (.q rfl (.pickT rfl rfl) (.nil (h4 _ _ ?_)))))
    refine .condT rfl ?_
    refine .seq (fun K61 l4 => .region (.mv rfl (.nil (l4 _ _ ?_))))
    refine .ret ?_
    refine l _ _ ?_
    refine ⟨_, rfl, ?_⟩
    exact absurd (Cat.eu_prR d4 a1).1 a7
   try simp only [sps] at a7
   refine .qg rfl (.move rfl) (.qg rfl (.move rfl) (.qg rfl (.cmp rfl rfl rfl) (.q rfl (.pickF rfl rfl) (.nil (h4 _ _ ?_)))))
   refine .cond rfl (fun a4 => ?_) (fun a4 => ?_)
   ·
    try simp only [sps] at a4
    refine .seq (fun K62 m4 => .region (.mv rfl (.nil (m4 _ _ ?_))))
    refine .ret ?_
    refine l _ _ ?_
    refine ⟨_, rfl, ?_⟩
    exact absurd (Cat.eu_prR d4 a1).2 a4
   try simp only [sps] at a4
   refine .skip ?_
   refine h1 _ _ (.seq (fun K63 m2 => .region (.mv rfl (.nil (m2 _ _ ?_)))))
   refine .ret ?_
   refine l _ _ ?_
   refine ⟨_, rfl, ?_⟩
   rfl
  try simp only [sps] at a1
  refine .skip ?_
  refine h1 _ _ (.seq (fun K64 n1 => .region (.mv rfl (.nil (n1 _ _ ?_)))))
  refine .ret ?_
  refine l _ _ ?_
  refine ⟨_, rfl, ?_⟩
  rfl
end Go.Proofs.Ytfanjkbaemhbmaa
