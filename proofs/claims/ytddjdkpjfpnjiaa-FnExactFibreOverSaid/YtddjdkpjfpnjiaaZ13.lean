/- The law of FibreOver. No condition but those of each statement. -/
import Derived.Test.YtddjdkpjfpnjiaaZ12
set_option linter.unusedSectionVars false
namespace Go.Proofs.Ytddjdkpjfpnjiaa
open Go Go.GL Go.RowKit Go.Proofs
variable [MainFlag]
theorem ag_41_LFibreOver : aggT Try.prog 41 = some 12 := by kernel_rfl
set_option maxHeartbeats 40000000 in
theorem lawFibreOver_c {f : Fun} {p : FunP} {y : Int} {H : GHeap} (hmain : MainFlag.main = true) (h0 : f.In H p) (w0 : f.Wide) (w1 : I64 y) :
    GCalls Try.prog 4 [.agg (f.cells p).toArray, .int .i64 y] H (fun v _ => v = .bool true) := by
  refine GCalls.body (N := 138) (rs := [.tmp 4]) Try.func4 rfl rfl rfl rfl (fun Qx c7 hend => ?_)
  refine .fg [0, 1] rfl ?_
  have b4 := GHeap.Le.refl H
  have m := h0
  refine .seq (fun K1 q3 => .region ?_)
  refine .R rfl (.boxR rfl sz_41_E rfl) ?_
  rintro _ H2 ⟨g2, rfl, q0, _, b2⟩
  have _ := q0.1
  replace b4 := b4.trans q0
  have _ := GHeap.ltg b2
  replace h0 := m.mono b4
  have r : Fun.At _ g2 0 f p := ⟨Mem.of_get b2, h0⟩
  obtain ⟨a2, a1, a8, a6, d1, d2⟩ := r.get
  have d0 : MemN _ _ _ _ _ := ⟨rfl, r.1⟩
  have d3 := r.2
  have a4 : MemN _ _ _ _ _ := ⟨rfl, a2.1⟩
  have a7 := a2.2
  have a3 : MemN _ _ _ _ _ := ⟨rfl, a1.1⟩
  have a5 := a1.2
  refine .mv rfl (.nil (q3 _ _ (.seq (fun K2 q8 => .region (.mv rfl (.nil (q8 _ _ (.seq (fun K3 q2 => .region ?_)))))))))
  refine .q rfl (.loadM ag_41_LFibreOver rfl ⟨rfl, Mem.of_get b2⟩) ?_
  refine .mv rfl ?_
  refine .call rfl rfl rfl rfl en14 rfl (szFunctor_c) ?_
  rintro _ _ ⟨heq, _, rfl, _, _, j6⟩
  obtain rfl := heq.symm
  refine .mv rfl (.nil (q2 _ _ (.seq (fun K4 q5 => .seq (fun K5 r3 => .region (.mv rfl (.q rfl (.cmp rfl rfl rfl) (.nil (r3 _ _ ?_)))))))))
  refine .cond rfl ?_ ?_ <;> intro p5
  ·
   try simp only [sps] at p5
   refine .seq (fun K6 q7 => .region (.mv rfl (.nil (q7 _ _ (.ret (c7 _ _ (⟨_, rfl, ?_⟩)))))))
   first
   | exact rfl
   | exact absurd trivial (by assumption)
   | contradiction
   | (exfalso; omega)
  simp only [sps] at p5
  obtain ⟨hsR, _⟩ := fb_small (f := f) (y := y)
  have _ := hsR.tot
  have i4 := j6 (by omega)
  have _ := i4.tot
  refine .skip (q5 _ _ (.seq (fun K7 q4 => .region ?_)))
  refine .q rfl (.loadM ag_41_LFibreOver rfl ⟨rfl, Mem.of_get b2⟩) ?_
  refine .call rfl rfl rfl rfl en16 rfl (toFunctor_c) ?_
  rintro _ n7 ⟨h6, _, rfl, c9⟩
  have _ := h6.1
  replace b4 := b4.trans h6
  replace b2 := h6.2 _ _ b2
  have a9 := c9
  have a : Keep H2.next n7 n7 := fun _ _ _ h => h
  replace h0 := m.mono b4
  clear r a2 a1 a8 a6 d1 d2 d0 d3 a4 a7 a3 a5
  have r : Fun.At _ g2 0 f p := ⟨Mem.of_get b2, h0⟩
  obtain ⟨a2, a1, a8, a6, d1, d2⟩ := r.get
  have d0 : MemN _ _ _ _ _ := ⟨rfl, r.1⟩
  have d3 := r.2
  have a4 : MemN _ _ _ _ _ := ⟨rfl, a2.1⟩
  have a7 := a2.2
  have a3 : MemN _ _ _ _ _ := ⟨rfl, a1.1⟩
  have a5 := a1.2
  have d5 := c9.inn
  refine .mv rfl ?_
  refine .call rfl rfl rfl rfl en15 rfl (specFibreOver_c) ?_
  rintro _ p2 ⟨g8, _, _, rfl, b5⟩
  have _ := g8.1
  replace b4 := b4.trans g8
  replace b2 := g8.2 _ _ b2
  replace a := Keep.le a g8
  replace c9 := a9.keep a (Nat.le_refl _)
  have b1 := b5
  have b : Keep n7.next p2 p2 := fun _ _ _ h => h
  replace h0 := m.mono b4
  clear r a2 a1 a8 a6 d1 d2 d0 d3 a4 a7 a3 a5
  have r : Fun.At _ g2 0 f p := ⟨Mem.of_get b2, h0⟩
  obtain ⟨a2, a1, a8, a6, d1, d2⟩ := r.get
  have d0 : MemN _ _ _ _ _ := ⟨rfl, r.1⟩
  have d3 := r.2
  have a4 : MemN _ _ _ _ _ := ⟨rfl, a2.1⟩
  have a7 := a2.2
  have a3 : MemN _ _ _ _ _ := ⟨rfl, a1.1⟩
  have a5 := a1.2
  clear d5
  have d5 := c9.inn
  have d6 := b5.v.inn
  have d7 := b5.w.ints
  refine .mv rfl (.q rfl (.extract rfl rfl) (.q rfl (.extract rfl rfl) (.q rfl (.extract rfl rfl) ?_)))
  refine .R rfl (.allocR rfl ze_31_E rfl) ?_
  rintro _ _ ⟨_, rfl, i6, _, q6⟩
  have _ := i6.1
  replace b4 := b4.trans i6
  replace b2 := i6.2 _ _ b2
  replace a := Keep.le a i6
  replace c9 := a9.keep a (Nat.le_refl _)
  replace b := Keep.le b i6
  replace b5 := b1.keep b (Nat.le_refl _)
  have _ := GHeap.ltg q6
  replace h0 := m.mono b4
  clear r a2 a1 a8 a6 d1 d2 d0 d3 a4 a7 a3 a5
  have r : Fun.At _ g2 0 f p := ⟨Mem.of_get b2, h0⟩
  obtain ⟨a2, a1, a8, a6, d1, d2⟩ := r.get
  have d0 : MemN _ _ _ _ _ := ⟨rfl, r.1⟩
  have d3 := r.2
  have a4 : MemN _ _ _ _ _ := ⟨rfl, a2.1⟩
  have a7 := a2.2
  have a3 : MemN _ _ _ _ _ := ⟨rfl, a1.1⟩
  have a5 := a1.2
  clear d5
  have d5 := c9.inn
  clear d6
  have d6 := b5.v.inn
  clear d7
  have d7 := b5.w.ints
  refine .r0 rfl rfl (.fillA rfl sz_31_D rfl rfl rfl rfl) ?_
  rintro _ j3 ⟨rfl, e7, d⟩
  have _ := e7.nx
  replace b4 := b4.st e7 (fun k hk => ⟨by omega, trivial⟩)
  replace b2 := e7.s b2
  replace a := Keep.st a e7 (fun k hb hk => ⟨by omega, trivial⟩)
  replace c9 := a9.keep a (Nat.le_refl _)
  replace b := Keep.st b e7 (fun k hb hk => ⟨by omega, trivial⟩)
  replace b5 := b1.keep b (Nat.le_refl _)
  have _ := GHeap.ltg d
  replace h0 := m.mono b4
  clear r a2 a1 a8 a6 d1 d2 d0 d3 a4 a7 a3 a5
  have r : Fun.At _ g2 0 f p := ⟨Mem.of_get b2, h0⟩
  obtain ⟨a2, a1, a8, a6, d1, d2⟩ := r.get
  have d0 : MemN _ _ _ _ _ := ⟨rfl, r.1⟩
  have d3 := r.2
  have a4 : MemN _ _ _ _ _ := ⟨rfl, a2.1⟩
  have a7 := a2.2
  have a3 : MemN _ _ _ _ _ := ⟨rfl, a1.1⟩
  have a5 := a1.2
  clear d5
  have d5 := c9.inn
  clear d6
  have d6 := b5.v.inn
  clear d7
  have d7 := b5.w.ints
  have i : MemN _ _ _ _ _ := ⟨rfl, Mem.of_get d⟩
  refine .mv rfl (.mv rfl (.nil (q4 _ _ (.seq (fun K8 r1 => .region ?_)))))
  refine .q rfl (.loadM ag_41_LFibreOver rfl ⟨rfl, Mem.of_get b2⟩) ?_
  refine .call rfl rfl rfl rfl en16 rfl (toFunctor_c) ?_
  rintro _ p6 ⟨g1, _, rfl, f8⟩
  have _ := g1.1
  replace b4 := b4.trans g1
  replace b2 := g1.2 _ _ b2
  replace d := g1.2 _ _ d
  replace a := Keep.le a g1
  replace c9 := a9.keep a (Nat.le_refl _)
  replace b := Keep.le b g1
  replace b5 := b1.keep b (Nat.le_refl _)
  have e0 := f8
  have x : Keep j3.next p6 p6 := fun _ _ _ h => h
  replace h0 := m.mono b4
  clear r a2 a1 a8 a6 d1 d2 d0 d3 a4 a7 a3 a5
  have r : Fun.At _ g2 0 f p := ⟨Mem.of_get b2, h0⟩
  obtain ⟨a2, a1, a8, a6, d1, d2⟩ := r.get
  have d0 : MemN _ _ _ _ _ := ⟨rfl, r.1⟩
  have d3 := r.2
  have a4 : MemN _ _ _ _ _ := ⟨rfl, a2.1⟩
  have a7 := a2.2
  have a3 : MemN _ _ _ _ _ := ⟨rfl, a1.1⟩
  have a5 := a1.2
  clear d5
  have d5 := c9.inn
  clear d6
  have d6 := b5.v.inn
  clear d7
  have d7 := b5.w.ints
  clear i
  have i : MemN _ _ _ _ _ := ⟨rfl, Mem.of_get d⟩
  have g3 := f8.inn
  refine .R rfl (.allocR rfl ze_46_E rfl) ?_
  rintro _ _ ⟨_, rfl, h5, _, q9⟩
  have _ := h5.1
  replace b4 := b4.trans h5
  replace b2 := h5.2 _ _ b2
  replace d := h5.2 _ _ d
  replace a := Keep.le a h5
  replace c9 := a9.keep a (Nat.le_refl _)
  replace b := Keep.le b h5
  replace b5 := b1.keep b (Nat.le_refl _)
  replace x := Keep.le x h5
  replace f8 := e0.keep x (Nat.le_refl _)
  have _ := GHeap.ltg q9
  replace h0 := m.mono b4
  clear r a2 a1 a8 a6 d1 d2 d0 d3 a4 a7 a3 a5
  have r : Fun.At _ g2 0 f p := ⟨Mem.of_get b2, h0⟩
  obtain ⟨a2, a1, a8, a6, d1, d2⟩ := r.get
  have d0 : MemN _ _ _ _ _ := ⟨rfl, r.1⟩
  have d3 := r.2
  have a4 : MemN _ _ _ _ _ := ⟨rfl, a2.1⟩
  have a7 := a2.2
  have a3 : MemN _ _ _ _ _ := ⟨rfl, a1.1⟩
  have a5 := a1.2
  clear d5
  have d5 := c9.inn
  clear d6
  have d6 := b5.v.inn
  clear d7
  have d7 := b5.w.ints
  clear i
  have i : MemN _ _ _ _ _ := ⟨rfl, Mem.of_get d⟩
  clear g3
  have g3 := f8.inn
  refine .r0 rfl rfl (.fillA rfl sz_46_E rfl rfl rfl rfl) ?_
  rintro _ e3 ⟨rfl, d8, e⟩
  have _ := d8.nx
  replace b4 := b4.st d8 (fun k hk => ⟨by omega, trivial⟩)
  replace b2 := d8.s b2
  replace d := d8.s d
  replace a := Keep.st a d8 (fun k hb hk => ⟨by omega, trivial⟩)
  replace c9 := a9.keep a (Nat.le_refl _)
  replace b := Keep.st b d8 (fun k hb hk => ⟨by omega, trivial⟩)
  replace b5 := b1.keep b (Nat.le_refl _)
  replace x := Keep.st x d8 (fun k hb hk => ⟨by omega, trivial⟩)
  replace f8 := e0.keep x (Nat.le_refl _)
  have _ := GHeap.ltg e
  replace h0 := m.mono b4
  clear r a2 a1 a8 a6 d1 d2 d0 d3 a4 a7 a3 a5
  have r : Fun.At _ g2 0 f p := ⟨Mem.of_get b2, h0⟩
  obtain ⟨a2, a1, a8, a6, d1, d2⟩ := r.get
  have d0 : MemN _ _ _ _ _ := ⟨rfl, r.1⟩
  have d3 := r.2
  have a4 : MemN _ _ _ _ _ := ⟨rfl, a2.1⟩
  have a7 := a2.2
  have a3 : MemN _ _ _ _ _ := ⟨rfl, a1.1⟩
  have a5 := a1.2
  clear d5
  have d5 := c9.inn
  clear d6
  have d6 := b5.v.inn
  clear d7
  have d7 := b5.w.ints
  clear i
  have i : MemN _ _ _ _ _ := ⟨rfl, Mem.of_get d⟩
  clear g3
  have g3 := f8.inn
  have t : MemN _ _ _ _ _ := ⟨rfl, Mem.of_get e⟩
  refine .nil (r1 _ _ (.seq (fun K9 r2 => .region ?_)))
  refine .q rfl (.loadM ag_46_E rfl ⟨rfl, Mem.of_get e⟩) ?_
  refine .mv rfl ?_
  refine .call rfl rfl rfl rfl en17 rfl (implFibreOver_c hmain) ?_
  rintro _ p4 ⟨f3, _, _, rfl, f6⟩
  have _ := f3.1
  replace b4 := b4.trans f3
  replace b2 := f3.2 _ _ b2
  replace d := f3.2 _ _ d
  replace e := f3.2 _ _ e
  replace a := Keep.le a f3
  replace c9 := a9.keep a (Nat.le_refl _)
  replace b := Keep.le b f3
  replace b5 := b1.keep b (Nat.le_refl _)
  replace x := Keep.le x f3
  replace f8 := e0.keep x (Nat.le_refl _)
  have c6 := f6
  have b3 : Keep e3.next p4 p4 := fun _ _ _ h => h
  replace h0 := m.mono b4
  clear r a2 a1 a8 a6 d1 d2 d0 d3 a4 a7 a3 a5
  have r : Fun.At _ g2 0 f p := ⟨Mem.of_get b2, h0⟩
  obtain ⟨a2, a1, a8, a6, d1, d2⟩ := r.get
  have d0 : MemN _ _ _ _ _ := ⟨rfl, r.1⟩
  have d3 := r.2
  have a4 : MemN _ _ _ _ _ := ⟨rfl, a2.1⟩
  have a7 := a2.2
  have a3 : MemN _ _ _ _ _ := ⟨rfl, a1.1⟩
  have a5 := a1.2
  clear d5
  have d5 := c9.inn
  clear d6
  have d6 := b5.v.inn
  clear d7
  have d7 := b5.w.ints
  clear i
  have i : MemN _ _ _ _ _ := ⟨rfl, Mem.of_get d⟩
  clear g3
  have g3 := f8.inn
  clear t
  have t : MemN _ _ _ _ _ := ⟨rfl, Mem.of_get e⟩
  have h3 := f6.v.inn
  have h2 := f6.w.ints
  refine .mv rfl (.q rfl (.extract rfl rfl) (.q rfl (.extract rfl rfl) (.q rfl (.extract rfl rfl) ?_)))
  refine .R rfl (.allocR rfl ze_31_E rfl) ?_
  rintro _ _ ⟨_, rfl, e9, _, k0⟩
  have _ := e9.1
  replace b4 := b4.trans e9
  replace b2 := e9.2 _ _ b2
  replace d := e9.2 _ _ d
  replace e := e9.2 _ _ e
  replace a := Keep.le a e9
  replace c9 := a9.keep a (Nat.le_refl _)
  replace b := Keep.le b e9
  replace b5 := b1.keep b (Nat.le_refl _)
  replace x := Keep.le x e9
  replace f8 := e0.keep x (Nat.le_refl _)
  replace b3 := Keep.le b3 e9
  replace f6 := c6.keep b3 (Nat.le_refl _)
  have _ := GHeap.ltg k0
  replace h0 := m.mono b4
  clear r a2 a1 a8 a6 d1 d2 d0 d3 a4 a7 a3 a5
  have r : Fun.At _ g2 0 f p := ⟨Mem.of_get b2, h0⟩
  obtain ⟨a2, a1, a8, a6, d1, d2⟩ := r.get
  have d0 : MemN _ _ _ _ _ := ⟨rfl, r.1⟩
  have d3 := r.2
  have a4 : MemN _ _ _ _ _ := ⟨rfl, a2.1⟩
  have a7 := a2.2
  have a3 : MemN _ _ _ _ _ := ⟨rfl, a1.1⟩
  have a5 := a1.2
  clear d5
  have d5 := c9.inn
  clear d6
  have d6 := b5.v.inn
  clear d7
  have d7 := b5.w.ints
  clear i
  have i : MemN _ _ _ _ _ := ⟨rfl, Mem.of_get d⟩
  clear g3
  have g3 := f8.inn
  clear t
  have t : MemN _ _ _ _ _ := ⟨rfl, Mem.of_get e⟩
  clear h3
  have h3 := f6.v.inn
  clear h2
  have h2 := f6.w.ints
  refine .r0 rfl rfl (.fillA rfl sz_31_D rfl rfl rfl rfl) ?_
  rintro _ j0 ⟨rfl, c8, g⟩
  have _ := c8.nx
  replace b4 := b4.st c8 (fun k hk => ⟨by omega, trivial⟩)
  replace b2 := c8.s b2
  replace d := c8.s d
  replace e := c8.s e
  replace a := Keep.st a c8 (fun k hb hk => ⟨by omega, trivial⟩)
  replace c9 := a9.keep a (Nat.le_refl _)
  replace b := Keep.st b c8 (fun k hb hk => ⟨by omega, trivial⟩)
  replace b5 := b1.keep b (Nat.le_refl _)
  replace x := Keep.st x c8 (fun k hb hk => ⟨by omega, trivial⟩)
  replace f8 := e0.keep x (Nat.le_refl _)
  replace b3 := Keep.st b3 c8 (fun k hb hk => ⟨by omega, trivial⟩)
  replace f6 := c6.keep b3 (Nat.le_refl _)
  have _ := GHeap.ltg g
  replace h0 := m.mono b4
  clear r a2 a1 a8 a6 d1 d2 d0 d3 a4 a7 a3 a5
  have r : Fun.At _ g2 0 f p := ⟨Mem.of_get b2, h0⟩
  obtain ⟨a2, a1, a8, a6, d1, d2⟩ := r.get
  have d0 : MemN _ _ _ _ _ := ⟨rfl, r.1⟩
  have d3 := r.2
  have a4 : MemN _ _ _ _ _ := ⟨rfl, a2.1⟩
  have a7 := a2.2
  have a3 : MemN _ _ _ _ _ := ⟨rfl, a1.1⟩
  have a5 := a1.2
  clear d5
  have d5 := c9.inn
  clear d6
  have d6 := b5.v.inn
  clear d7
  have d7 := b5.w.ints
  clear i
  have i : MemN _ _ _ _ _ := ⟨rfl, Mem.of_get d⟩
  clear g3
  have g3 := f8.inn
  clear t
  have t : MemN _ _ _ _ _ := ⟨rfl, Mem.of_get e⟩
  clear h3
  have h3 := f6.v.inn
  clear h2
  have h2 := f6.w.ints
  have b0 : MemN _ _ _ _ _ := ⟨rfl, Mem.of_get g⟩
  refine .mv rfl (.mv rfl (.nil (r2 _ _ (.seq (fun K10 m5 => .seq (fun K11 h7 => .region ?_))))))
  refine .q rfl (.loadM ag_31_D rfl ⟨rfl, Mem.of_get g⟩) ?_
  refine .q rfl (.loadM ag_31_D rfl ⟨rfl, Mem.of_get d⟩) ?_
  refine .callQ rfl rfl rfl rfl en18 rfl (eqCategory_c) ?_
  refine .q rfl (.not rfl) (.mv rfl ?_)
  refine .split (fun l7 => ?_) (fun l7 => ?_)
  ·
   try simp only [sps] at l7
   refine .z rfl (.z rfl (.z rfl (.z rfl (.q rfl (.pickT rfl rfl) (.mv rfl (.z rfl (.z rfl (.z rfl (.q rfl (.pickT rfl rfl) (.nil (h7 _ _ ?_)))))))))))
   refine .condT rfl ?_
   refine .seq (fun K12 k3 => .region (.mv rfl (.nil (k3 _ _ (.ret (c7 _ _ (⟨_, rfl, ?_⟩)))))))
   first
   | exact rfl
   | exact absurd trivial (by assumption)
   | contradiction
   | (exfalso; omega)
  try simp only [sps] at l7
  refine .qg rfl (.move rfl) (.qg rfl (.move rfl) ?_)
  refine .callQg rfl rfl rfl rfl rfl rfl en19 rfl (eqInt64S_c) ?_
  refine .qg rfl (.not rfl) (.q rfl (.pickF rfl rfl) (.mv rfl ?_))
  refine .split (fun m8 => ?_) (fun m8 => ?_)
  ·
   try simp only [sps] at m8
   refine .z rfl (.z rfl (.z rfl (.q rfl (.pickT rfl rfl) (.nil (h7 _ _ ?_)))))
   refine .condT rfl ?_
   refine .seq (fun K13 m3 => .region (.mv rfl (.nil (m3 _ _ (.ret (c7 _ _ (⟨_, rfl, ?_⟩)))))))
   first
   | exact rfl
   | exact absurd trivial (by assumption)
   | contradiction
   | (exfalso; omega)
  try simp only [sps] at m8
  refine .qg rfl (.move rfl) (.qg rfl (.move rfl) (.qg rfl (.cmp rfl rfl rfl) (.q rfl (.pickF rfl rfl) (.nil (h7 _ _ ?_)))))
  refine .cond rfl ?_ ?_ <;> intro p9
  ·
   try simp only [sps] at p9
   refine .seq (fun K14 m2 => .region (.mv rfl (.nil (m2 _ _ (.ret (c7 _ _ (⟨_, rfl, ?_⟩)))))))
   first
   | exact rfl
   | exact absurd trivial (by assumption)
   | contradiction
   | (exfalso; omega)
  try simp only [sps] at p9
  refine .skip (m5 _ _ (.seq (fun K15 k4 => .seq (fun K16 o4 => ?_))))
  refine .regionD mo_B (.q 0 (.q 1 (.c 2 1 (.c 3 0 (.q 4 (.done)))))) (by kernel_rfl) ?_
  refine .q rfl (.loadM ag_46_E rfl ⟨rfl, Mem.of_get e⟩) ?_
  refine .q rfl (.loadM ag_41_LFibreOver rfl ⟨rfl, Mem.of_get b2⟩) ?_
  refine .call1 rfl rfl rfl rfl rfl en16 rfl (toFunctor_c) ?_
  rintro _ p7 ⟨e6, _, rfl, f5⟩
  have r4 := e6
  refine ⟨r4, ?_⟩
  have _ := e6.1
  replace b4 := b4.trans e6
  replace b2 := e6.2 _ _ b2
  replace d := e6.2 _ _ d
  replace e := e6.2 _ _ e
  replace g := e6.2 _ _ g
  replace a := Keep.le a e6
  replace c9 := a9.keep a (Nat.le_refl _)
  replace b := Keep.le b e6
  replace b5 := b1.keep b (Nat.le_refl _)
  replace x := Keep.le x e6
  replace f8 := e0.keep x (Nat.le_refl _)
  replace b3 := Keep.le b3 e6
  replace f6 := c6.keep b3 (Nat.le_refl _)
  have d9 := f5
  have u : Keep j0.next p7 p7 := fun _ _ _ h => h
  replace h0 := m.mono b4
  clear r a2 a1 a8 a6 d1 d2 d0 d3 a4 a7 a3 a5
  have r : Fun.At _ g2 0 f p := ⟨Mem.of_get b2, h0⟩
  obtain ⟨a2, a1, a8, a6, d1, d2⟩ := r.get
  have d0 : MemN _ _ _ _ _ := ⟨rfl, r.1⟩
  have d3 := r.2
  have a4 : MemN _ _ _ _ _ := ⟨rfl, a2.1⟩
  have a7 := a2.2
  have a3 : MemN _ _ _ _ _ := ⟨rfl, a1.1⟩
  have a5 := a1.2
  clear d5
  have d5 := c9.inn
  clear d6
  have d6 := b5.v.inn
  clear d7
  have d7 := b5.w.ints
  clear i
  have i : MemN _ _ _ _ _ := ⟨rfl, Mem.of_get d⟩
  clear g3
  have g3 := f8.inn
  clear t
  have t : MemN _ _ _ _ _ := ⟨rfl, Mem.of_get e⟩
  clear h3
  have h3 := f6.v.inn
  clear h2
  have h2 := f6.w.ints
  clear b0
  have b0 : MemN _ _ _ _ _ := ⟨rfl, Mem.of_get g⟩
  have f7 := f5.inn
  refine .callQ0 rfl rfl rfl rfl rfl en20 rfl (eqFunctor_c) ?_
  refine .q rfl (.not rfl) (.done (o4 _ _ ?_))
  refine .cond rfl ?_ ?_ <;> intro p8
  ·
   try simp only [sps] at p8
   refine .seq (fun K17 o0 => .region (.mv rfl (.nil (o0 _ _ (.ret (c7 _ _ (⟨_, rfl, ?_⟩)))))))
   first
   | exact rfl
   | exact absurd trivial (by assumption)
   | contradiction
   | (exfalso; omega)
  try simp only [sps] at p8
  refine .skip (k4 _ _ (.seq (fun K18 l8 => .region (.mv rfl (.nil (l8 _ _ (.seq (fun K19 n1 => .region ?_))))))))
  refine .q rfl (.loadM ag_46_E rfl ⟨rfl, Mem.of_get e⟩) ?_
  refine .mv rfl ?_
  have _ := FunW.of_at e0 x
  refine .call rfl rfl rfl rfl en21 rfl (markFunctor_c) ?_
  rintro _ _ ⟨rfl, n8⟩
  have e8 := n8.stm
  have _ := e8.nx
  replace b4 := StM.le_left b4 e8 (by omega)
  replace b2 := e8.same _ _ (by omega) b2
  replace d := e8.same _ _ (by omega) d
  replace e := e8.same _ _ (by omega) e
  replace g := e8.same _ _ (by omega) g
  replace a := Keep.stM a e8 (fun k hb hk => by omega)
  replace c9 := a9.keep a (Nat.le_refl _)
  replace b := Keep.stM b e8 (fun k hb hk => by omega)
  replace b5 := b1.keep b (Nat.le_refl _)
  replace b3 := Keep.stM b3 e8 (fun k hb hk => by omega)
  replace f6 := c6.keep b3 (Nat.le_refl _)
  replace u := Keep.stM u e8 (fun k hb hk => by omega)
  replace f5 := d9.keep u (Nat.le_refl _)
  replace h0 := m.mono b4
  clear r a2 a1 a8 a6 d1 d2 d0 d3 a4 a7 a3 a5
  have r : Fun.At _ g2 0 f p := ⟨Mem.of_get b2, h0⟩
  obtain ⟨a2, a1, a8, a6, d1, d2⟩ := r.get
  have d0 : MemN _ _ _ _ _ := ⟨rfl, r.1⟩
  have d3 := r.2
  have a4 : MemN _ _ _ _ _ := ⟨rfl, a2.1⟩
  have a7 := a2.2
  have a3 : MemN _ _ _ _ _ := ⟨rfl, a1.1⟩
  have a5 := a1.2
  clear d5
  have d5 := c9.inn
  clear d6
  have d6 := b5.v.inn
  clear d7
  have d7 := b5.w.ints
  clear i
  have i : MemN _ _ _ _ _ := ⟨rfl, Mem.of_get d⟩
  clear t
  have t : MemN _ _ _ _ _ := ⟨rfl, Mem.of_get e⟩
  clear h3
  have h3 := f6.v.inn
  clear h2
  have h2 := f6.w.ints
  clear b0
  have b0 : MemN _ _ _ _ _ := ⟨rfl, Mem.of_get g⟩
  clear f7
  have f7 := f5.inn
  refine .mv rfl (.nil (n1 _ _ (.seq (fun K20 o2 => .seq (fun K21 g4 => .region (.mv rfl (.q rfl (.cmp rfl rfl rfl) (.mv rfl ?_))))))))
  refine .split (fun n3 => ?_) (fun n3 => ?_)
  ·
   try simp only [sps] at n3
   refine .z rfl (.z rfl (.z rfl (.z rfl (.q rfl (.pickT rfl rfl) (.mv rfl (.z rfl (.z rfl (.z rfl (.z rfl (.q rfl (.pickT rfl rfl) (.mv rfl (.z rfl (.z rfl (.z rfl (.q rfl (.pickT rfl rfl) ?_)))))))))))))))
   refine .nil (g4 _ _ ?_)
   refine .condT rfl ?_
   refine .seq (fun K22 n4 => .region (.mv rfl (.nil (n4 _ _ (.ret (c7 _ _ (⟨_, rfl, ?_⟩)))))))
   first
   | exact rfl
   | exact absurd trivial (by assumption)
   | contradiction
   | (exfalso; omega)
  try simp only [sps] at n3
  refine .qg rfl (.loadM ag_31_D rfl ⟨rfl, Mem.of_get g⟩) ?_
  refine .qg rfl (.loadM ag_31_D rfl ⟨rfl, Mem.of_get d⟩) ?_
  refine .callQg rfl rfl rfl rfl rfl rfl en18 rfl (eqCategory_c) ?_
  refine .qg rfl (.not rfl) (.q rfl (.pickF rfl rfl) (.mv rfl ?_))
  refine .split (fun j7 => ?_) (fun j7 => ?_)
  ·
   try simp only [sps] at j7
   refine .z rfl (.z rfl (.z rfl (.z rfl (.q rfl (.pickT rfl rfl) (.mv rfl (.z rfl (.z rfl (.z rfl (.q rfl (.pickT rfl rfl) (.nil (g4 _ _ ?_)))))))))))
   refine .condT rfl ?_
   refine .seq (fun K23 o8 => .region (.mv rfl (.nil (o8 _ _ (.ret (c7 _ _ (⟨_, rfl, ?_⟩)))))))
   first
   | exact rfl
   | exact absurd trivial (by assumption)
   | contradiction
   | (exfalso; omega)
  try simp only [sps] at j7
  refine .qg rfl (.move rfl) (.qg rfl (.move rfl) ?_)
  refine .callQg rfl rfl rfl rfl rfl rfl en19 rfl (eqInt64S_c) ?_
  refine .qg rfl (.not rfl) (.q rfl (.pickF rfl rfl) (.mv rfl ?_))
  refine .split (fun k8 => ?_) (fun k8 => ?_)
  ·
   try simp only [sps] at k8
   refine .z rfl (.z rfl (.z rfl (.q rfl (.pickT rfl rfl) (.nil (g4 _ _ ?_)))))
   refine .condT rfl ?_
   refine .seq (fun K24 m9 => .region (.mv rfl (.nil (m9 _ _ (.ret (c7 _ _ (⟨_, rfl, ?_⟩)))))))
   first
   | exact rfl
   | exact absurd trivial (by assumption)
   | contradiction
   | (exfalso; omega)
  try simp only [sps] at k8
  refine .qg rfl (.move rfl) (.qg rfl (.move rfl) (.qg rfl (.cmp rfl rfl rfl) (.q rfl (.pickF rfl rfl) (.nil (g4 _ _ ?_)))))
  refine .cond rfl ?_ ?_ <;> intro p3
  ·
   try simp only [sps] at p3
   refine .seq (fun K25 l5 => .region (.mv rfl (.nil (l5 _ _ (.ret (c7 _ _ (⟨_, rfl, ?_⟩)))))))
   first
   | exact rfl
   | exact absurd trivial (by assumption)
   | contradiction
   | (exfalso; omega)
  try simp only [sps] at p3
  refine .skip (o2 _ _ (.seq (fun K26 l0 => .region (.mv rfl (.nil (l0 _ _ (.seq (fun K27 l1 => .region ?_))))))))
  refine .q rfl (.loadM ag_31_D rfl ⟨rfl, Mem.of_get g⟩) ?_
  refine .mv rfl ?_
  have c0 := CatW.of_r c6.v b3
  have c1 := IntsW.of_r c6.w b3
  refine .call rfl rfl rfl rfl en22 rfl (markCategory_c) ?_
  rintro _ i2 ⟨rfl, i8⟩
  have e5 := i8.stm
  have _ := e5.nx
  replace b4 := StM.le_left b4 e5 (by omega)
  replace b2 := e5.same _ _ (by omega) b2
  replace d := e5.same _ _ (by omega) d
  replace e := e5.same _ _ (by omega) e
  replace g := e5.same _ _ (by omega) g
  replace a := Keep.stM a e5 (fun k hb hk => by omega)
  replace c9 := a9.keep a (Nat.le_refl _)
  replace b := Keep.stM b e5 (fun k hb hk => by omega)
  replace b5 := b1.keep b (Nat.le_refl _)
  replace u := Keep.stM u e5 (fun k hb hk => by omega)
  replace f5 := d9.keep u (Nat.le_refl _)
  replace h0 := m.mono b4
  clear r a2 a1 a8 a6 d1 d2 d0 d3 a4 a7 a3 a5
  have r : Fun.At _ g2 0 f p := ⟨Mem.of_get b2, h0⟩
  obtain ⟨a2, a1, a8, a6, d1, d2⟩ := r.get
  have d0 : MemN _ _ _ _ _ := ⟨rfl, r.1⟩
  have d3 := r.2
  have a4 : MemN _ _ _ _ _ := ⟨rfl, a2.1⟩
  have a7 := a2.2
  have a3 : MemN _ _ _ _ _ := ⟨rfl, a1.1⟩
  have a5 := a1.2
  clear d5
  have d5 := c9.inn
  clear d6
  have d6 := b5.v.inn
  clear d7
  have d7 := b5.w.ints
  clear i
  have i : MemN _ _ _ _ _ := ⟨rfl, Mem.of_get d⟩
  clear t
  have t : MemN _ _ _ _ _ := ⟨rfl, Mem.of_get e⟩
  clear b0
  have b0 : MemN _ _ _ _ _ := ⟨rfl, Mem.of_get g⟩
  clear f7
  have f7 := f5.inn
  have b9 := i8.held c6.nd1
  replace c0 := c0.stm e5
  replace c1 := c1.stm e5
  have b7 := b9
  have j : Keep e3.next i2 i2 := fun _ _ _ h => h
  have c3 := c0
  have n : Keep e3.next i2 i2 := fun _ _ _ h => h
  have c2 := c1
  have o : Keep e3.next i2 i2 := fun _ _ _ h => h
  refine .mv rfl (.nil (l1 _ _ (.seq (fun K28 o6 => .region (.mv rfl (.mv rfl ?_))))))
  refine .call rfl rfl rfl rfl en23 rfl (markInt64S_c) ?_
  rintro _ g5 ⟨rfl, i0⟩
  have e4 := i0.stm
  have _ := e4.nx
  replace b4 := StM.le_left b4 e4 (by omega)
  replace b2 := e4.same _ _ (by omega) b2
  replace d := e4.same _ _ (by omega) d
  replace e := e4.same _ _ (by omega) e
  replace g := e4.same _ _ (by omega) g
  replace a := Keep.stM a e4 (fun k hb hk => by omega)
  replace c9 := a9.keep a (Nat.le_refl _)
  replace b := Keep.stM b e4 (fun k hb hk => by omega)
  replace b5 := b1.keep b (Nat.le_refl _)
  replace u := Keep.stM u e4 (fun k hb hk => by omega)
  replace f5 := d9.keep u (Nat.le_refl _)
  replace h0 := m.mono b4
  clear r a2 a1 a8 a6 d1 d2 d0 d3 a4 a7 a3 a5
  have r : Fun.At _ g2 0 f p := ⟨Mem.of_get b2, h0⟩
  obtain ⟨a2, a1, a8, a6, d1, d2⟩ := r.get
  have d0 : MemN _ _ _ _ _ := ⟨rfl, r.1⟩
  have d3 := r.2
  have a4 : MemN _ _ _ _ _ := ⟨rfl, a2.1⟩
  have a7 := a2.2
  have a3 : MemN _ _ _ _ _ := ⟨rfl, a1.1⟩
  have a5 := a1.2
  clear d5
  have d5 := c9.inn
  clear d6
  have d6 := b5.v.inn
  clear d7
  have d7 := b5.w.ints
  clear i
  have i : MemN _ _ _ _ _ := ⟨rfl, Mem.of_get d⟩
  clear t
  have t : MemN _ _ _ _ _ := ⟨rfl, Mem.of_get e⟩
  clear b0
  have b0 : MemN _ _ _ _ _ := ⟨rfl, Mem.of_get g⟩
  clear f7
  have f7 := f5.inn
  replace b9 := Held.stB i0.stb b9 c6.dj
  have e2 := i0.held c6.nd2
  replace c0 := c0.stm e4
  replace c1 := c1.stm e4
  have b7 := b9
  have j : Keep e3.next g5 g5 := fun _ _ _ h => h
  have c5 := e2
  have l : Keep e3.next g5 g5 := fun _ _ _ h => h
  have c3 := c0
  have n : Keep e3.next g5 g5 := fun _ _ _ h => h
  have c2 := c1
  have o : Keep e3.next g5 g5 := fun _ _ _ h => h
  refine .mv rfl (.nil (o6 _ _ (.seq (fun K29 j8 => .region (.mv rfl (.nil (j8 _ _ (.seq (fun K30 l2 => .region ?_)))))))))
  refine .q rfl (.loadM ag_31_D rfl ⟨rfl, Mem.of_get g⟩) ?_
  refine .mv rfl ?_
  refine .callQ rfl rfl rfl rfl en24 rfl (heldCategory_c) ?_
  refine .mv rfl (.nil (l2 _ _ (.seq (fun K31 l9 => .seq (fun K32 o7 => .region (.mv rfl (.q rfl (.cmp rfl rfl rfl) (.nil (o7 _ _ ?_)))))))))
  refine .cond rfl ?_ ?_ <;> intro q1
  ·
   try simp only [sps] at q1
   refine .seq (fun K33 l6 => .region (.mv rfl (.nil (l6 _ _ (.ret (c7 _ _ (⟨_, rfl, ?_⟩)))))))
   first
   | exact rfl
   | exact absurd trivial (by assumption)
   | contradiction
   | (exfalso; omega)
  try simp only [sps] at q1
  refine .skip (l9 _ _ (.seq (fun K34 k6 => .region (.mv rfl (.mv rfl ?_)))))
  refine .callQ rfl rfl rfl rfl en25 rfl (heldInt64S_c) ?_
  refine .mv rfl (.nil (k6 _ _ (.seq (fun K35 l4 => .seq (fun K36 o1 => .region (.mv rfl (.q rfl (.cmp rfl rfl rfl) (.nil (o1 _ _ ?_)))))))))
  refine .cond rfl ?_ ?_ <;> intro p1
  ·
   try simp only [sps] at p1
   refine .seq (fun K37 m7 => .region (.mv rfl (.nil (m7 _ _ (.ret (c7 _ _ (⟨_, rfl, ?_⟩)))))))
   first
   | exact rfl
   | exact absurd trivial (by assumption)
   | contradiction
   | (exfalso; omega)
  try simp only [sps] at p1
  refine .skip (l4 _ _ (.seq (fun K38 n9 => .seq (fun K39 n2 => .region (.mv rfl (.mv rfl (.q rfl (.cmp rfl rfl rfl) (.nil (n2 _ _ ?_)))))))))
  refine .cond rfl ?_ ?_ <;> intro i5
  ·
   try simp only [sps] at i5
   refine .seq (fun K40 k5 => .region (.mv rfl (.nil (k5 _ _ (.ret (c7 _ _ (⟨_, rfl, ?_⟩)))))))
   first
   | exact rfl
   | exact absurd trivial (by assumption)
   | contradiction
   | (exfalso; omega)
  try simp only [sps] at i5
  refine .skip (n9 _ _ (.seq (fun K41 n6 => .region ?_)))
  refine .q rfl (.loadM ag_41_LFibreOver rfl ⟨rfl, Mem.of_get b2⟩) ?_
  refine .call rfl rfl rfl rfl en16 rfl (toFunctor_c) ?_
  rintro _ h9 ⟨c4, _, rfl, f4⟩
  have _ := c4.1
  replace b4 := b4.trans c4
  replace b2 := c4.2 _ _ b2
  replace d := c4.2 _ _ d
  replace e := c4.2 _ _ e
  replace g := c4.2 _ _ g
  replace a := Keep.le a c4
  replace c9 := a9.keep a (Nat.le_refl _)
  replace b := Keep.le b c4
  replace b5 := b1.keep b (Nat.le_refl _)
  replace u := Keep.le u c4
  replace f5 := d9.keep u (Nat.le_refl _)
  replace j := Keep.le j c4
  replace b9 := b7.keep j (Nat.le_refl _)
  replace l := Keep.le l c4
  replace e2 := c5.keep l (Nat.le_refl _)
  replace n := Keep.le n c4
  replace c0 := c3.keep n (Nat.le_refl _)
  replace o := Keep.le o c4
  replace c1 := c2.keep o (Nat.le_refl _)
  have f0 := f4
  have b6 : Keep g5.next h9 h9 := fun _ _ _ h => h
  replace h0 := m.mono b4
  clear r a2 a1 a8 a6 d1 d2 d0 d3 a4 a7 a3 a5
  have r : Fun.At _ g2 0 f p := ⟨Mem.of_get b2, h0⟩
  obtain ⟨a2, a1, a8, a6, d1, d2⟩ := r.get
  have d0 : MemN _ _ _ _ _ := ⟨rfl, r.1⟩
  have d3 := r.2
  have a4 : MemN _ _ _ _ _ := ⟨rfl, a2.1⟩
  have a7 := a2.2
  have a3 : MemN _ _ _ _ _ := ⟨rfl, a1.1⟩
  have a5 := a1.2
  clear d5
  have d5 := c9.inn
  clear d6
  have d6 := b5.v.inn
  clear d7
  have d7 := b5.w.ints
  clear i
  have i : MemN _ _ _ _ _ := ⟨rfl, Mem.of_get d⟩
  clear t
  have t : MemN _ _ _ _ _ := ⟨rfl, Mem.of_get e⟩
  clear b0
  have b0 : MemN _ _ _ _ _ := ⟨rfl, Mem.of_get g⟩
  clear f7
  have f7 := f5.inn
  have g0 := f4.inn
  refine .mv rfl ?_
  refine .call rfl rfl rfl rfl en17 rfl (implFibreOver_c hmain) ?_
  rintro _ j1 ⟨b8, _, _, rfl, f2⟩
  have _ := b8.1
  replace b4 := b4.trans b8
  replace b2 := b8.2 _ _ b2
  replace d := b8.2 _ _ d
  replace e := b8.2 _ _ e
  replace g := b8.2 _ _ g
  replace a := Keep.le a b8
  replace c9 := a9.keep a (Nat.le_refl _)
  replace b := Keep.le b b8
  replace b5 := b1.keep b (Nat.le_refl _)
  replace u := Keep.le u b8
  replace f5 := d9.keep u (Nat.le_refl _)
  replace j := Keep.le j b8
  replace b9 := b7.keep j (Nat.le_refl _)
  replace l := Keep.le l b8
  replace e2 := c5.keep l (Nat.le_refl _)
  replace n := Keep.le n b8
  replace c0 := c3.keep n (Nat.le_refl _)
  replace o := Keep.le o b8
  replace c1 := c2.keep o (Nat.le_refl _)
  replace b6 := Keep.le b6 b8
  replace f4 := f0.keep b6 (Nat.le_refl _)
  have f9 := f2
  have d4 : Keep h9.next j1 j1 := fun _ _ _ h => h
  replace h0 := m.mono b4
  clear r a2 a1 a8 a6 d1 d2 d0 d3 a4 a7 a3 a5
  have r : Fun.At _ g2 0 f p := ⟨Mem.of_get b2, h0⟩
  obtain ⟨a2, a1, a8, a6, d1, d2⟩ := r.get
  have d0 : MemN _ _ _ _ _ := ⟨rfl, r.1⟩
  have d3 := r.2
  have a4 : MemN _ _ _ _ _ := ⟨rfl, a2.1⟩
  have a7 := a2.2
  have a3 : MemN _ _ _ _ _ := ⟨rfl, a1.1⟩
  have a5 := a1.2
  clear d5
  have d5 := c9.inn
  clear d6
  have d6 := b5.v.inn
  clear d7
  have d7 := b5.w.ints
  clear i
  have i : MemN _ _ _ _ _ := ⟨rfl, Mem.of_get d⟩
  clear t
  have t : MemN _ _ _ _ _ := ⟨rfl, Mem.of_get e⟩
  clear b0
  have b0 : MemN _ _ _ _ _ := ⟨rfl, Mem.of_get g⟩
  clear f7
  have f7 := f5.inn
  clear g0
  have g0 := f4.inn
  have h1 := f2.v.inn
  have g7 := f2.w.ints
  refine .mv rfl (.q rfl (.extract rfl rfl) (.q rfl (.extract rfl rfl) (.q rfl (.extract rfl rfl) ?_)))
  refine .R rfl (.allocR rfl ze_31_E rfl) ?_
  rintro _ _ ⟨_, rfl, e1, _, o5⟩
  have _ := e1.1
  replace b4 := b4.trans e1
  replace b2 := e1.2 _ _ b2
  replace d := e1.2 _ _ d
  replace e := e1.2 _ _ e
  replace g := e1.2 _ _ g
  replace a := Keep.le a e1
  replace c9 := a9.keep a (Nat.le_refl _)
  replace b := Keep.le b e1
  replace b5 := b1.keep b (Nat.le_refl _)
  replace u := Keep.le u e1
  replace f5 := d9.keep u (Nat.le_refl _)
  replace j := Keep.le j e1
  replace b9 := b7.keep j (Nat.le_refl _)
  replace l := Keep.le l e1
  replace e2 := c5.keep l (Nat.le_refl _)
  replace n := Keep.le n e1
  replace c0 := c3.keep n (Nat.le_refl _)
  replace o := Keep.le o e1
  replace c1 := c2.keep o (Nat.le_refl _)
  replace b6 := Keep.le b6 e1
  replace f4 := f0.keep b6 (Nat.le_refl _)
  replace d4 := Keep.le d4 e1
  replace f2 := f9.keep d4 (Nat.le_refl _)
  have _ := GHeap.ltg o5
  replace h0 := m.mono b4
  clear r a2 a1 a8 a6 d1 d2 d0 d3 a4 a7 a3 a5
  have r : Fun.At _ g2 0 f p := ⟨Mem.of_get b2, h0⟩
  obtain ⟨a2, a1, a8, a6, d1, d2⟩ := r.get
  have d0 : MemN _ _ _ _ _ := ⟨rfl, r.1⟩
  have d3 := r.2
  have a4 : MemN _ _ _ _ _ := ⟨rfl, a2.1⟩
  have a7 := a2.2
  have a3 : MemN _ _ _ _ _ := ⟨rfl, a1.1⟩
  have a5 := a1.2
  clear d5
  have d5 := c9.inn
  clear d6
  have d6 := b5.v.inn
  clear d7
  have d7 := b5.w.ints
  clear i
  have i : MemN _ _ _ _ _ := ⟨rfl, Mem.of_get d⟩
  clear t
  have t : MemN _ _ _ _ _ := ⟨rfl, Mem.of_get e⟩
  clear b0
  have b0 : MemN _ _ _ _ _ := ⟨rfl, Mem.of_get g⟩
  clear f7
  have f7 := f5.inn
  clear g0
  have g0 := f4.inn
  clear h1
  have h1 := f2.v.inn
  clear g7
  have g7 := f2.w.ints
  refine .r0 rfl rfl (.fillA rfl sz_31_D rfl rfl rfl rfl) ?_
  rintro _ _ ⟨rfl, a0, f1⟩
  have _ := a0.nx
  replace b4 := b4.st a0 (fun k hk => ⟨by omega, trivial⟩)
  replace b2 := a0.s b2
  replace d := a0.s d
  replace e := a0.s e
  replace g := a0.s g
  replace a := Keep.st a a0 (fun k hb hk => ⟨by omega, trivial⟩)
  replace c9 := a9.keep a (Nat.le_refl _)
  replace b := Keep.st b a0 (fun k hb hk => ⟨by omega, trivial⟩)
  replace b5 := b1.keep b (Nat.le_refl _)
  replace u := Keep.st u a0 (fun k hb hk => ⟨by omega, trivial⟩)
  replace f5 := d9.keep u (Nat.le_refl _)
  replace j := Keep.st j a0 (fun k hb hk => ⟨by omega, trivial⟩)
  replace b9 := b7.keep j (Nat.le_refl _)
  replace l := Keep.st l a0 (fun k hb hk => ⟨by omega, trivial⟩)
  replace e2 := c5.keep l (Nat.le_refl _)
  replace n := Keep.st n a0 (fun k hb hk => ⟨by omega, trivial⟩)
  replace c0 := c3.keep n (Nat.le_refl _)
  replace o := Keep.st o a0 (fun k hb hk => ⟨by omega, trivial⟩)
  replace c1 := c2.keep o (Nat.le_refl _)
  replace b6 := Keep.st b6 a0 (fun k hb hk => ⟨by omega, trivial⟩)
  replace f4 := f0.keep b6 (Nat.le_refl _)
  replace d4 := Keep.st d4 a0 (fun k hb hk => ⟨by omega, trivial⟩)
  replace f2 := f9.keep d4 (Nat.le_refl _)
  have _ := GHeap.ltg f1
  replace h0 := m.mono b4
  clear r a2 a1 a8 a6 d1 d2 d0 d3 a4 a7 a3 a5
  have r : Fun.At _ g2 0 f p := ⟨Mem.of_get b2, h0⟩
  obtain ⟨a2, a1, a8, a6, d1, d2⟩ := r.get
  have d0 : MemN _ _ _ _ _ := ⟨rfl, r.1⟩
  have d3 := r.2
  have a4 : MemN _ _ _ _ _ := ⟨rfl, a2.1⟩
  have a7 := a2.2
  have a3 : MemN _ _ _ _ _ := ⟨rfl, a1.1⟩
  have a5 := a1.2
  clear d5
  have d5 := c9.inn
  clear d6
  have d6 := b5.v.inn
  clear d7
  have d7 := b5.w.ints
  clear i
  have i : MemN _ _ _ _ _ := ⟨rfl, Mem.of_get d⟩
  clear t
  have t : MemN _ _ _ _ _ := ⟨rfl, Mem.of_get e⟩
  clear b0
  have b0 : MemN _ _ _ _ _ := ⟨rfl, Mem.of_get g⟩
  clear f7
  have f7 := f5.inn
  clear g0
  have g0 := f4.inn
  clear h1
  have h1 := f2.v.inn
  clear g7
  have g7 := f2.w.ints
  have _ : MemN _ _ _ _ _ := ⟨rfl, Mem.of_get f1⟩
  refine .mv rfl (.mv rfl (.nil (n6 _ _ (.seq (fun K42 o9 => .seq (fun K43 h4 => .region ?_))))))
  refine .q rfl (.loadM ag_31_D rfl ⟨rfl, Mem.of_get f1⟩) ?_
  refine .q rfl (.loadM ag_31_D rfl ⟨rfl, Mem.of_get d⟩) ?_
  refine .callQ rfl rfl rfl rfl en18 rfl (eqCategory_c) ?_
  refine .q rfl (.not rfl) (.mv rfl ?_)
  refine .split (fun i1 => ?_) (fun i1 => ?_)
  ·
   try simp only [sps] at i1
   refine .z rfl (.z rfl (.z rfl (.z rfl (.q rfl (.pickT rfl rfl) (.mv rfl (.z rfl (.z rfl (.z rfl (.q rfl (.pickT rfl rfl) (.nil (h4 _ _ ?_)))))))))))
   refine .condT rfl ?_
   refine .seq (fun K44 j9 => .region (.mv rfl (.nil (j9 _ _ (.ret (c7 _ _ (⟨_, rfl, ?_⟩)))))))
   first
   | exact rfl
   | exact absurd trivial (by assumption)
   | contradiction
   | (exfalso; omega)
  try simp only [sps] at i1
  refine .qg rfl (.move rfl) (.qg rfl (.move rfl) ?_)
  refine .callQg rfl rfl rfl rfl rfl rfl en19 rfl (eqInt64S_c) ?_
  refine .qg rfl (.not rfl) (.q rfl (.pickF rfl rfl) (.mv rfl ?_))
  refine .split (fun h8 => ?_) (fun h8 => ?_)
  ·
   try simp only [sps] at h8
   refine .z rfl (.z rfl (.z rfl (.q rfl (.pickT rfl rfl) (.nil (h4 _ _ ?_)))))
   refine .condT rfl ?_
   refine .seq (fun K45 k9 => .region (.mv rfl (.nil (k9 _ _ (.ret (c7 _ _ (⟨_, rfl, ?_⟩)))))))
   first
   | exact rfl
   | exact absurd trivial (by assumption)
   | contradiction
   | (exfalso; omega)
  try simp only [sps] at h8
  refine .qg rfl (.move rfl) (.qg rfl (.move rfl) (.qg rfl (.cmp rfl rfl rfl) (.q rfl (.pickF rfl rfl) (.nil (h4 _ _ ?_)))))
  refine .cond rfl ?_ ?_ <;> intro i3
  ·
   try simp only [sps] at i3
   refine .seq (fun K46 m1 => .region (.mv rfl (.nil (m1 _ _ (.ret (c7 _ _ (⟨_, rfl, ?_⟩)))))))
   first
   | exact rfl
   | exact absurd trivial (by assumption)
   | contradiction
   | (exfalso; omega)
  try simp only [sps] at i3
  refine .skip (o9 _ _ (.seq (fun K47 j5 => .region (.mv rfl (.nil (j5 _ _ (.seq (fun K48 m4 => .region ?_))))))))
  refine .q rfl (.loadM ag_31_D rfl ⟨rfl, Mem.of_get g⟩) ?_
  refine .mv rfl ?_
  refine .callQ rfl rfl rfl rfl en24 rfl (heldCategory_c) ?_
  refine .mv rfl (.nil (m4 _ _ (.seq (fun K49 k2 => .seq (fun K50 k7 => .region (.mv rfl (.q rfl (.cmp rfl rfl rfl) (.nil (k7 _ _ ?_)))))))))
  refine .cond rfl ?_ ?_ <;> intro j2
  ·
   try simp only [sps] at j2
   refine .seq (fun K51 m6 => .region (.mv rfl (.nil (m6 _ _ (.ret (c7 _ _ (⟨_, rfl, ?_⟩)))))))
   first
   | exact rfl
   | exact absurd trivial (by assumption)
   | contradiction
   | (exfalso; omega)
  try simp only [sps] at j2
  refine .skip (k2 _ _ (.seq (fun K52 n0 => .region (.mv rfl (.mv rfl ?_)))))
  refine .callQ rfl rfl rfl rfl en25 rfl (heldInt64S_c) ?_
  refine .mv rfl (.nil (n0 _ _ (.seq (fun K53 l3 => .seq (fun K54 k1 => .region (.mv rfl (.q rfl (.cmp rfl rfl rfl) (.nil (k1 _ _ ?_)))))))))
  refine .cond rfl ?_ ?_ <;> intro i9
  ·
   try simp only [sps] at i9
   refine .seq (fun K55 m0 => .region (.mv rfl (.nil (m0 _ _ (.ret (c7 _ _ (⟨_, rfl, ?_⟩)))))))
   first
   | exact rfl
   | exact absurd trivial (by assumption)
   | contradiction
   | (exfalso; omega)
  try simp only [sps] at i9
  refine .skip (l3 _ _ (.seq (fun K56 j4 => .seq (fun K57 p0 => .region (.mv rfl (.mv rfl (.q rfl (.cmp rfl rfl rfl) (.nil (p0 _ _ ?_)))))))))
  refine .cond rfl ?_ ?_ <;> intro i7
  ·
   try simp only [sps] at i7
   refine .seq (fun K58 n5 => .region (.mv rfl (.nil (n5 _ _ (.ret (c7 _ _ (⟨_, rfl, ?_⟩)))))))
   first
   | exact rfl
   | exact absurd trivial (by assumption)
   | contradiction
   | (exfalso; omega)
  try simp only [sps] at i7
  refine .skip (j4 _ _ (.seq (fun K59 o3 => .region (.mv rfl (.nil (o3 _ _ (.ret (c7 _ _ (⟨_, rfl, ?_⟩)))))))))
  first
  | exact rfl
  | exact absurd trivial (by assumption)
  | contradiction
  | (exfalso; omega)
end Go.Proofs.Ytddjdkpjfpnjiaa
namespace Go.GL
open Go.RowKit Go.WideShapes Go.ChangeShapes Go.Deep
variable [MainFlag]

structure Imp1 (P : Program) (t : TypeId) (R : GHeap → Value → Prop) : Prop where
  mono : ∀ {H H' : GHeap} {g : Value}, H.Le H' → R H g → R H' g
  imp : ∀ {T : Type} {enc : TypeId × Value → T} {B : Nat} {w0 : World} {ρ : Place} {H : GHeap} {w : World} {held : Bool} {base fuel : Nat} {v : Value} {x : DataW T × List MemPlace}, Sim P B w0 ρ H w → w.heap.size ≤ B →
    DataW.trod enc P w 0 (fun _ => true) held fuel t v.cells.toList = some x → Value.okWide P w .any base t v → ∃ ρ' H' g, Sim P B w0 ρ' H' w ∧ Ext ρ ρ' ∧ H.Le H' ∧ VRel ρ' g v ∧ R H' g

def structT (P : Program) (t : TypeId) : Bool := match P.underlying t with | some (.struct _) => true | _ => false
theorem imp1_struct {P : Program} {t : TypeId} {α β : Type} {cells : α → β → List Value} {I : GHeap → α → β → Prop} {W : α → Prop} (hm : ∀ {H H' : GHeap} {c : α} {p : β}, I H c p → H.Le H' → I H' c p)
    (hI : Imports P t (fun ρ H cs => ∃ (c : α) (p : β), LRel ρ (cells c p) cs ∧ I H c p ∧ W c)) (hst : structT P t = true) : Imp1 P t (fun H g => ∃ (c : α) (p : β), g = .agg (cells c p).toArray ∧ I H c p ∧ W c) where
  mono h := fun ⟨c, p, h1, h2, h3⟩ => ⟨c, p, h1, hm h2 h, h3⟩
  imp := by
    intro T enc B w0 ρ H w held base fuel v x hs hB h hv
    have hagg : ∃ cs, v = .agg cs := by
      unfold Value.okWide at hv
      unfold structT at hst
      split at hst
      · rename_i fs hu
        rw [hu] at hv
        obtain ⟨cs, h, _⟩ := hv
        exact ⟨cs, h⟩
      · cases hst
    obtain ⟨cs, rfl⟩ := hagg
    obtain ⟨ρ', H', h1, h2, h3, c, p, h4, h5, h6⟩ := hI hs hB h
    exact ⟨ρ', H', _, h1, h2, h3, by have := VRel.agg_of h4; simpa [Value.cells] using this, c, p, rfl, h5, h6⟩
theorem imp1_int {P : Program} {t : TypeId} (ht : i64T P t = true) : Imp1 P t (fun _ g => ∃ n, g = .int .i64 n ∧ I64 n) where
  mono _ := id
  imp := by
    intro T enc B w0 ρ H w held base fuel v x hs hB h hv
    obtain ⟨n, rfl⟩ := okWide_int (i64T_run ht) hv
    obtain ⟨ρ', H', h1, h2, h3, m, h4, h5⟩ := import_int ht hs hB h
    have : n = m := by simpa [Value.cells] using h4
    subst this
    exact ⟨ρ', H', _, h1, h2, h3, .int _ _, n, rfl, h5⟩
structure ImpAll (P : Program) (ts : List TypeId) (R : GHeap → List Value → Prop) : Prop where
  imp : ∀ {T : Type} {enc : TypeId × Value → T} {B : Nat} {w0 : World} {ρ : Place} {H : GHeap} {w : World} {base : Nat} {vs : List Value} {ds : List (DataW T)} {ps : List MemPlace}, Sim P B w0 ρ H w → w.heap.size ≤ B →
    DataW.TrodAll enc P w 0 (fun _ => true) true ts vs ds ps → (∀ (j : Nat) t v, ts[j]? = some t → vs[j]? = some v → Value.okWide P w .any base t v) → ds.length = ts.length ∧ ∃ ρ' H' gs, Sim P B w0 ρ' H' w ∧ Ext ρ ρ' ∧ H.Le H' ∧ LRel ρ' gs vs ∧ R H' gs
theorem ImpAll.nil {P : Program} : ImpAll P [] (fun _ gs => gs = []) where
  imp := by
    intro T enc B w0 ρ H w base vs ds ps hs hB h hv
    obtain ⟨rfl, rfl, rfl⟩ := trodAll_nil h
    exact ⟨rfl, ρ, H, [], hs, .refl ρ, .refl H, .nil ρ, rfl⟩
theorem ImpAll.cons {P : Program} {t : TypeId} {ts : List TypeId} {R1 : GHeap → Value → Prop} {R : GHeap → List Value → Prop} (h1 : Imp1 P t R1) (h2 : ImpAll P ts R) : ImpAll P (t :: ts) (fun H gs => ∃ g r, gs = g :: r ∧ R1 H g ∧ R H r) where
  imp := by
    intro T enc B w0 ρ H w base vs ds ps hs hB h hv
    obtain ⟨v, vs, d, ds, p, q, rfl, rfl, rfl, ⟨fuel, k1⟩, k2⟩ := trodAll_cons h
    obtain ⟨ρ1, H1, g, s1, e1, l1, v1, r1⟩ := h1.imp hs hB k1 (hv 0 t v rfl rfl)
    obtain ⟨hl, ρ2, H2, gs, s2, e2, l2, v2, r2⟩ := h2.imp s1 hB k2 (fun j t v ht hj => hv (j + 1) t v (by simpa using ht) (by simpa using hj))
    exact ⟨by simp [hl], ρ2, H2, g :: gs, s2, e1.trans e2, l1.trans l2, .cons (v1.mono e2) v2, g, gs, rfl, h1.mono l2 r1, r2⟩

end Go.GL
