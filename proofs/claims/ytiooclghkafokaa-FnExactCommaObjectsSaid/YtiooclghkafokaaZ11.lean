/- The law of CommaObjects. No condition but those of each statement. -/
import Derived.Test.YtiooclghkafokaaZ10
namespace Go.Proofs.Ytiooclghkafokaa
open Go Go.GL Go.RowKit Go.Proofs
theorem ag_41_LCommaObjects : aggT Try.prog 41 = some 12 := by kernel_rfl
set_option maxHeartbeats 40000000 in
theorem lawCommaObjects_c {f : Fun} {p : FunP} {k : Fun} {q : FunP} {H : GHeap} (h0 : f.In H p) (w0 : f.Wide) (h1 : k.In H q) (w1 : k.Wide) :
    GCalls Try.prog 6 [.agg (f.cells p).toArray, .agg (k.cells q).toArray] H (fun v _ => v = .bool true) := by
  refine GCalls.body (N := 119) (rs := [.tmp 4]) Try.func6 rfl rfl rfl rfl (fun Qx d8 hend => ?_)
  refine .fg [0, 1] rfl ?_
  have w := GHeap.Le.refl H
  have l := h0
  have j := h1
  refine .seq (fun K1 s1 => .region ?_)
  refine .R rfl (.boxR rfl sz_41_E rfl) ?_
  rintro _ H2 ⟨g2, rfl, r8, ge2, b8⟩
  have nx_H2 := r8.1
  replace w := w.trans r8
  have lt_at2 := GHeap.ltg b8
  replace h0 := l.mono w
  replace h1 := j.mono w
  have o : Fun.At _ g2 0 f p := ⟨Mem.of_get b8, h0⟩
  obtain ⟨a0, y, a3, a1, c9, c7⟩ := o.get
  have c6 : MemN _ _ _ _ _ := ⟨rfl, o.1⟩
  have c8 := o.2
  have a5 : MemN _ _ _ _ _ := ⟨rfl, a0.1⟩
  have a4 := a0.2
  have a6 : MemN _ _ _ _ _ := ⟨rfl, y.1⟩
  have a2 := y.2
  refine .R rfl (.boxR rfl sz_41_E rfl) ?_
  rintro _ H3 ⟨g3, rfl, n7, ge3, c0⟩
  have nx_H3 := n7.1
  replace w := w.trans n7
  replace b8 := n7.2 _ _ b8
  have lt_at3 := GHeap.ltg c0
  replace h0 := l.mono w
  replace h1 := j.mono w
  clear o a0 y a3 a1 c9 c7 c6 c8 a5 a4 a6 a2
  have o : Fun.At _ g2 0 f p := ⟨Mem.of_get b8, h0⟩
  obtain ⟨a0, y, a3, a1, c9, c7⟩ := o.get
  have c6 : MemN _ _ _ _ _ := ⟨rfl, o.1⟩
  have c8 := o.2
  have a5 : MemN _ _ _ _ _ := ⟨rfl, a0.1⟩
  have a4 := a0.2
  have a6 : MemN _ _ _ _ _ := ⟨rfl, y.1⟩
  have a2 := y.2
  have t : Fun.At _ g3 0 k q := ⟨Mem.of_get c0, h1⟩
  obtain ⟨a8, a9, b1, b2, d1, d3⟩ := t.get
  have d0 : MemN _ _ _ _ _ := ⟨rfl, t.1⟩
  have d2 := t.2
  have b4 : MemN _ _ _ _ _ := ⟨rfl, a8.1⟩
  have b3 := a8.2
  have b5 : MemN _ _ _ _ _ := ⟨rfl, a9.1⟩
  have b0 := a9.2
  refine .mv rfl (.nil (s1 _ _ (.seq (fun K2 s4 => .region (.mv rfl (.nil (s4 _ _ (.seq (fun K3 s6 => .region ?_)))))))))
  refine .q rfl (.loadM ag_41_LCommaObjects rfl ⟨rfl, Mem.of_get b8⟩) ?_
  refine .mv rfl ?_
  refine .call rfl rfl rfl rfl @Try.call23 rfl (szFunctor_c) ?_
  rintro _ _ ⟨heq, lf19, rfl, z119, z219, m2⟩
  obtain rfl := heq.symm
  refine .mv rfl (.nil (s6 _ _ (.seq (fun K4 s5 => .seq (fun K5 t0 => .region (.mv rfl (.q rfl (.cmp rfl rfl rfl) (.nil (t0 _ _ ?_)))))))))
  refine .cond rfl (fun p4 => ?_) (fun p4 => ?_)
  ·
   try simp only [sps] at p4
   refine .seq (fun K6 s0 => .region (.mv rfl (.nil (s0 _ _ ?_))))
   refine .ret ?_
   refine d8 _ _ ?_
   refine ⟨_, rfl, ?_⟩
   first
   | exact rfl
   | exact absurd trivial (by assumption)
   | contradiction
   | (exfalso; omega)
  try simp only [sps] at p4
  have j5 := m2 (by omega)
  have tb19 := j5.tot
  refine .skip ?_
  refine s5 _ _ (.seq (fun K7 s8 => .region ?_))
  refine .q rfl (.loadM ag_41_LCommaObjects rfl ⟨rfl, Mem.of_get c0⟩) ?_
  refine .mv rfl ?_
  refine .call rfl rfl rfl rfl @Try.call23 rfl (szFunctor_c) ?_
  rintro _ _ ⟨heq, lf24, rfl, z124, z224, k7⟩
  obtain rfl := heq.symm
  refine .mv rfl (.nil (s8 _ _ (.seq (fun K8 s9 => .seq (fun K9 s7 => .region (.mv rfl (.q rfl (.cmp rfl rfl rfl) (.nil (s7 _ _ ?_)))))))))
  refine .cond rfl (fun n4 => ?_) (fun n4 => ?_)
  ·
   try simp only [sps] at n4
   refine .seq (fun K10 r1 => .region (.mv rfl (.nil (r1 _ _ ?_))))
   refine .ret ?_
   refine d8 _ _ ?_
   refine ⟨_, rfl, ?_⟩
   first
   | exact rfl
   | exact absurd trivial (by assumption)
   | contradiction
   | (exfalso; omega)
  simp only [sps] at n4
  have hcs := kmRO_small f k
  have hcl : (kmRO f k).length ≤ 1048576 := by omega
  have p3 : ∀ i, ((kmRO f k).getD i []).length ≤ 1048576 := fun i => by have := hcs.2 i; omega
  have hct := sumL_tot hcl p3
  have k0 := k7 (by omega)
  have tb24 := k0.tot
  refine .skip ?_
  refine s9 _ _ (.seq (fun K11 q9 => ?_))
  refine .regionD mo_B (.q 0 (.q 2 (.c 1 1 (.c 3 0 (.c 4 0 (.q 5 (.q 6 (.q 7 (.q 8 (.q 9 (.done))))))))))) (by kernel_rfl) ?_
  refine .q rfl (.loadM ag_41_LCommaObjects rfl ⟨rfl, Mem.of_get b8⟩) ?_
  refine .q rfl (.loadM ag_41_LCommaObjects rfl ⟨rfl, Mem.of_get c0⟩) ?_
  refine .call1 rfl rfl rfl rfl rfl @Try.call25 rfl (toFunctor_c) ?_
  rintro _ q8 ⟨h8, p29, rfl, d4⟩
  have i7 := h8
  refine ⟨i7, ?_⟩
  have nx_H29 := h8.1
  replace w := w.trans h8
  replace b8 := h8.2 _ _ b8
  replace c0 := h8.2 _ _ c0
  have b6 := d4
  have a : Keep H3.next q8 q8 := fun _ _ _ h => h
  replace h0 := l.mono w
  replace h1 := j.mono w
  clear o a0 y a3 a1 c9 c7 c6 c8 a5 a4 a6 a2
  have o : Fun.At _ g2 0 f p := ⟨Mem.of_get b8, h0⟩
  obtain ⟨a0, y, a3, a1, c9, c7⟩ := o.get
  have c6 : MemN _ _ _ _ _ := ⟨rfl, o.1⟩
  have c8 := o.2
  have a5 : MemN _ _ _ _ _ := ⟨rfl, a0.1⟩
  have a4 := a0.2
  have a6 : MemN _ _ _ _ _ := ⟨rfl, y.1⟩
  have a2 := y.2
  clear t a8 a9 b1 b2 d1 d3 d0 d2 b4 b3 b5 b0
  have t : Fun.At _ g3 0 k q := ⟨Mem.of_get c0, h1⟩
  obtain ⟨a8, a9, b1, b2, d1, d3⟩ := t.get
  have d0 : MemN _ _ _ _ _ := ⟨rfl, t.1⟩
  have d2 := t.2
  have b4 : MemN _ _ _ _ _ := ⟨rfl, a8.1⟩
  have b3 := a8.2
  have b5 : MemN _ _ _ _ _ := ⟨rfl, a9.1⟩
  have b0 := a9.2
  have d7 := d4.inn
  refine .call0 rfl rfl rfl rfl rfl @Try.call25 rfl (toFunctor_c) ?_
  rintro _ m8 ⟨h7, p31, rfl, d6⟩
  have nx_H31 := h7.1
  replace w := w.trans h7
  replace b8 := h7.2 _ _ b8
  replace c0 := h7.2 _ _ c0
  replace a := Keep.le a h7
  replace d4 := b6.keep a (Nat.le_refl _)
  have b7 := d6
  have b : Keep q8.next m8 m8 := fun _ _ _ h => h
  replace h0 := l.mono w
  replace h1 := j.mono w
  clear o a0 y a3 a1 c9 c7 c6 c8 a5 a4 a6 a2
  have o : Fun.At _ g2 0 f p := ⟨Mem.of_get b8, h0⟩
  obtain ⟨a0, y, a3, a1, c9, c7⟩ := o.get
  have c6 : MemN _ _ _ _ _ := ⟨rfl, o.1⟩
  have c8 := o.2
  have a5 : MemN _ _ _ _ _ := ⟨rfl, a0.1⟩
  have a4 := a0.2
  have a6 : MemN _ _ _ _ _ := ⟨rfl, y.1⟩
  have a2 := y.2
  clear t a8 a9 b1 b2 d1 d3 d0 d2 b4 b3 b5 b0
  have t : Fun.At _ g3 0 k q := ⟨Mem.of_get c0, h1⟩
  obtain ⟨a8, a9, b1, b2, d1, d3⟩ := t.get
  have d0 : MemN _ _ _ _ _ := ⟨rfl, t.1⟩
  have d2 := t.2
  have b4 : MemN _ _ _ _ _ := ⟨rfl, a8.1⟩
  have b3 := a8.2
  have b5 : MemN _ _ _ _ _ := ⟨rfl, a9.1⟩
  have b0 := a9.2
  clear d7
  have d7 := d4.inn
  have d9 := d6.inn
  refine .call0 rfl rfl rfl rfl rfl @Try.call32 rfl (specCommaObjects_c) ?_
  rintro _ l9 ⟨h4, a32, r32, rfl, e0⟩
  have nx_H32 := h4.1
  replace w := w.trans h4
  replace b8 := h4.2 _ _ b8
  replace c0 := h4.2 _ _ c0
  replace a := Keep.le a h4
  replace d4 := b6.keep a (Nat.le_refl _)
  replace b := Keep.le b h4
  replace d6 := b7.keep b (Nat.le_refl _)
  have b9 := e0
  have d : Keep m8.next l9 l9 := fun _ _ _ h => h
  replace h0 := l.mono w
  replace h1 := j.mono w
  clear o a0 y a3 a1 c9 c7 c6 c8 a5 a4 a6 a2
  have o : Fun.At _ g2 0 f p := ⟨Mem.of_get b8, h0⟩
  obtain ⟨a0, y, a3, a1, c9, c7⟩ := o.get
  have c6 : MemN _ _ _ _ _ := ⟨rfl, o.1⟩
  have c8 := o.2
  have a5 : MemN _ _ _ _ _ := ⟨rfl, a0.1⟩
  have a4 := a0.2
  have a6 : MemN _ _ _ _ _ := ⟨rfl, y.1⟩
  have a2 := y.2
  clear t a8 a9 b1 b2 d1 d3 d0 d2 b4 b3 b5 b0
  have t : Fun.At _ g3 0 k q := ⟨Mem.of_get c0, h1⟩
  obtain ⟨a8, a9, b1, b2, d1, d3⟩ := t.get
  have d0 : MemN _ _ _ _ _ := ⟨rfl, t.1⟩
  have d2 := t.2
  have b4 : MemN _ _ _ _ _ := ⟨rfl, a8.1⟩
  have b3 := a8.2
  have b5 : MemN _ _ _ _ _ := ⟨rfl, a9.1⟩
  have b0 := a9.2
  clear d7
  have d7 := d4.inn
  clear d9
  have d9 := d6.inn
  have e4 := e0.intss
  refine .mv rfl rfl (.q rfl (.extract rfl rfl) (.q rfl (.extract rfl rfl) (.mv rfl rfl (.mv rfl rfl ?_))))
  refine .done ?_
  refine q9 _ _ (.seq (fun K12 p6 => .region ?_))
  refine .q rfl (.loadM ag_41_LCommaObjects rfl ⟨rfl, Mem.of_get b8⟩) ?_
  refine .call rfl rfl rfl rfl @Try.call25 rfl (toFunctor_c) ?_
  rintro _ r3 ⟨g5, p36, rfl, f9⟩
  have nx_H36 := g5.1
  replace w := w.trans g5
  replace b8 := g5.2 _ _ b8
  replace c0 := g5.2 _ _ c0
  replace a := Keep.le a g5
  replace d4 := b6.keep a (Nat.le_refl _)
  replace b := Keep.le b g5
  replace d6 := b7.keep b (Nat.le_refl _)
  replace d := Keep.le d g5
  replace e0 := b9.keep d (Nat.le_refl _)
  have c5 := f9
  have m : Keep l9.next r3 r3 := fun _ _ _ h => h
  replace h0 := l.mono w
  replace h1 := j.mono w
  clear o a0 y a3 a1 c9 c7 c6 c8 a5 a4 a6 a2
  have o : Fun.At _ g2 0 f p := ⟨Mem.of_get b8, h0⟩
  obtain ⟨a0, y, a3, a1, c9, c7⟩ := o.get
  have c6 : MemN _ _ _ _ _ := ⟨rfl, o.1⟩
  have c8 := o.2
  have a5 : MemN _ _ _ _ _ := ⟨rfl, a0.1⟩
  have a4 := a0.2
  have a6 : MemN _ _ _ _ _ := ⟨rfl, y.1⟩
  have a2 := y.2
  clear t a8 a9 b1 b2 d1 d3 d0 d2 b4 b3 b5 b0
  have t : Fun.At _ g3 0 k q := ⟨Mem.of_get c0, h1⟩
  obtain ⟨a8, a9, b1, b2, d1, d3⟩ := t.get
  have d0 : MemN _ _ _ _ _ := ⟨rfl, t.1⟩
  have d2 := t.2
  have b4 : MemN _ _ _ _ _ := ⟨rfl, a8.1⟩
  have b3 := a8.2
  have b5 : MemN _ _ _ _ _ := ⟨rfl, a9.1⟩
  have b0 := a9.2
  clear d7
  have d7 := d4.inn
  clear d9
  have d9 := d6.inn
  clear e4
  have e4 := e0.intss
  have g0 := f9.inn
  refine .R rfl (.allocR rfl ze_33_E rfl) ?_
  rintro _ H8 ⟨g8, rfl, i5, ge8, s2⟩
  have nx_H8 := i5.1
  replace w := w.trans i5
  replace b8 := i5.2 _ _ b8
  replace c0 := i5.2 _ _ c0
  replace a := Keep.le a i5
  replace d4 := b6.keep a (Nat.le_refl _)
  replace b := Keep.le b i5
  replace d6 := b7.keep b (Nat.le_refl _)
  replace d := Keep.le d i5
  replace e0 := b9.keep d (Nat.le_refl _)
  replace m := Keep.le m i5
  replace f9 := c5.keep m (Nat.le_refl _)
  have lt_at8 := GHeap.ltg s2
  replace h0 := l.mono w
  replace h1 := j.mono w
  clear o a0 y a3 a1 c9 c7 c6 c8 a5 a4 a6 a2
  have o : Fun.At _ g2 0 f p := ⟨Mem.of_get b8, h0⟩
  obtain ⟨a0, y, a3, a1, c9, c7⟩ := o.get
  have c6 : MemN _ _ _ _ _ := ⟨rfl, o.1⟩
  have c8 := o.2
  have a5 : MemN _ _ _ _ _ := ⟨rfl, a0.1⟩
  have a4 := a0.2
  have a6 : MemN _ _ _ _ _ := ⟨rfl, y.1⟩
  have a2 := y.2
  clear t a8 a9 b1 b2 d1 d3 d0 d2 b4 b3 b5 b0
  have t : Fun.At _ g3 0 k q := ⟨Mem.of_get c0, h1⟩
  obtain ⟨a8, a9, b1, b2, d1, d3⟩ := t.get
  have d0 : MemN _ _ _ _ _ := ⟨rfl, t.1⟩
  have d2 := t.2
  have b4 : MemN _ _ _ _ _ := ⟨rfl, a8.1⟩
  have b3 := a8.2
  have b5 : MemN _ _ _ _ _ := ⟨rfl, a9.1⟩
  have b0 := a9.2
  clear d7
  have d7 := d4.inn
  clear d9
  have d9 := d6.inn
  clear e4
  have e4 := e0.intss
  clear g0
  have g0 := f9.inn
  refine .r0 rfl rfl (.fillA rfl sz_33_E rfl rfl rfl rfl) ?_
  rintro _ k1 ⟨rfl, d5, e⟩
  have nx_H9003 := d5.nx
  replace w := w.st d5 (fun k hk => ⟨by omega, trivial⟩)
  replace b8 := d5.s b8
  replace c0 := d5.s c0
  replace a := Keep.st a d5 (fun k hb hk => ⟨by omega, trivial⟩)
  replace d4 := b6.keep a (Nat.le_refl _)
  replace b := Keep.st b d5 (fun k hb hk => ⟨by omega, trivial⟩)
  replace d6 := b7.keep b (Nat.le_refl _)
  replace d := Keep.st d d5 (fun k hb hk => ⟨by omega, trivial⟩)
  replace e0 := b9.keep d (Nat.le_refl _)
  replace m := Keep.st m d5 (fun k hb hk => ⟨by omega, trivial⟩)
  replace f9 := c5.keep m (Nat.le_refl _)
  have lt_at9003 := GHeap.ltg e
  replace h0 := l.mono w
  replace h1 := j.mono w
  clear o a0 y a3 a1 c9 c7 c6 c8 a5 a4 a6 a2
  have o : Fun.At _ g2 0 f p := ⟨Mem.of_get b8, h0⟩
  obtain ⟨a0, y, a3, a1, c9, c7⟩ := o.get
  have c6 : MemN _ _ _ _ _ := ⟨rfl, o.1⟩
  have c8 := o.2
  have a5 : MemN _ _ _ _ _ := ⟨rfl, a0.1⟩
  have a4 := a0.2
  have a6 : MemN _ _ _ _ _ := ⟨rfl, y.1⟩
  have a2 := y.2
  clear t a8 a9 b1 b2 d1 d3 d0 d2 b4 b3 b5 b0
  have t : Fun.At _ g3 0 k q := ⟨Mem.of_get c0, h1⟩
  obtain ⟨a8, a9, b1, b2, d1, d3⟩ := t.get
  have d0 : MemN _ _ _ _ _ := ⟨rfl, t.1⟩
  have d2 := t.2
  have b4 : MemN _ _ _ _ _ := ⟨rfl, a8.1⟩
  have b3 := a8.2
  have b5 : MemN _ _ _ _ _ := ⟨rfl, a9.1⟩
  have b0 := a9.2
  clear d7
  have d7 := d4.inn
  clear d9
  have d9 := d6.inn
  clear e4
  have e4 := e0.intss
  clear g0
  have g0 := f9.inn
  have n : MemN _ _ _ _ _ := ⟨rfl, Mem.of_get e⟩
  refine .nil (p6 _ _ (.seq (fun K13 o9 => .region ?_)))
  refine .q rfl (.loadM ag_41_LCommaObjects rfl ⟨rfl, Mem.of_get c0⟩) ?_
  refine .call rfl rfl rfl rfl @Try.call25 rfl (toFunctor_c) ?_
  rintro _ r7 ⟨f8, p38, rfl, g7⟩
  have nx_H38 := f8.1
  replace w := w.trans f8
  replace b8 := f8.2 _ _ b8
  replace c0 := f8.2 _ _ c0
  replace e := f8.2 _ _ e
  replace a := Keep.le a f8
  replace d4 := b6.keep a (Nat.le_refl _)
  replace b := Keep.le b f8
  replace d6 := b7.keep b (Nat.le_refl _)
  replace d := Keep.le d f8
  replace e0 := b9.keep d (Nat.le_refl _)
  replace m := Keep.le m f8
  replace f9 := c5.keep m (Nat.le_refl _)
  have e2 := g7
  have x : Keep k1.next r7 r7 := fun _ _ _ h => h
  replace h0 := l.mono w
  replace h1 := j.mono w
  clear o a0 y a3 a1 c9 c7 c6 c8 a5 a4 a6 a2
  have o : Fun.At _ g2 0 f p := ⟨Mem.of_get b8, h0⟩
  obtain ⟨a0, y, a3, a1, c9, c7⟩ := o.get
  have c6 : MemN _ _ _ _ _ := ⟨rfl, o.1⟩
  have c8 := o.2
  have a5 : MemN _ _ _ _ _ := ⟨rfl, a0.1⟩
  have a4 := a0.2
  have a6 : MemN _ _ _ _ _ := ⟨rfl, y.1⟩
  have a2 := y.2
  clear t a8 a9 b1 b2 d1 d3 d0 d2 b4 b3 b5 b0
  have t : Fun.At _ g3 0 k q := ⟨Mem.of_get c0, h1⟩
  obtain ⟨a8, a9, b1, b2, d1, d3⟩ := t.get
  have d0 : MemN _ _ _ _ _ := ⟨rfl, t.1⟩
  have d2 := t.2
  have b4 : MemN _ _ _ _ _ := ⟨rfl, a8.1⟩
  have b3 := a8.2
  have b5 : MemN _ _ _ _ _ := ⟨rfl, a9.1⟩
  have b0 := a9.2
  clear d7
  have d7 := d4.inn
  clear d9
  have d9 := d6.inn
  clear e4
  have e4 := e0.intss
  clear g0
  have g0 := f9.inn
  clear n
  have n : MemN _ _ _ _ _ := ⟨rfl, Mem.of_get e⟩
  have h5 := g7.inn
  refine .R rfl (.allocR rfl ze_33_E rfl) ?_
  rintro _ H9 ⟨g9, rfl, i1, ge9, s3⟩
  have nx_H9 := i1.1
  replace w := w.trans i1
  replace b8 := i1.2 _ _ b8
  replace c0 := i1.2 _ _ c0
  replace e := i1.2 _ _ e
  replace a := Keep.le a i1
  replace d4 := b6.keep a (Nat.le_refl _)
  replace b := Keep.le b i1
  replace d6 := b7.keep b (Nat.le_refl _)
  replace d := Keep.le d i1
  replace e0 := b9.keep d (Nat.le_refl _)
  replace m := Keep.le m i1
  replace f9 := c5.keep m (Nat.le_refl _)
  replace x := Keep.le x i1
  replace g7 := e2.keep x (Nat.le_refl _)
  have lt_at9 := GHeap.ltg s3
  replace h0 := l.mono w
  replace h1 := j.mono w
  clear o a0 y a3 a1 c9 c7 c6 c8 a5 a4 a6 a2
  have o : Fun.At _ g2 0 f p := ⟨Mem.of_get b8, h0⟩
  obtain ⟨a0, y, a3, a1, c9, c7⟩ := o.get
  have c6 : MemN _ _ _ _ _ := ⟨rfl, o.1⟩
  have c8 := o.2
  have a5 : MemN _ _ _ _ _ := ⟨rfl, a0.1⟩
  have a4 := a0.2
  have a6 : MemN _ _ _ _ _ := ⟨rfl, y.1⟩
  have a2 := y.2
  clear t a8 a9 b1 b2 d1 d3 d0 d2 b4 b3 b5 b0
  have t : Fun.At _ g3 0 k q := ⟨Mem.of_get c0, h1⟩
  obtain ⟨a8, a9, b1, b2, d1, d3⟩ := t.get
  have d0 : MemN _ _ _ _ _ := ⟨rfl, t.1⟩
  have d2 := t.2
  have b4 : MemN _ _ _ _ _ := ⟨rfl, a8.1⟩
  have b3 := a8.2
  have b5 : MemN _ _ _ _ _ := ⟨rfl, a9.1⟩
  have b0 := a9.2
  clear d7
  have d7 := d4.inn
  clear d9
  have d9 := d6.inn
  clear e4
  have e4 := e0.intss
  clear g0
  have g0 := f9.inn
  clear n
  have n : MemN _ _ _ _ _ := ⟨rfl, Mem.of_get e⟩
  clear h5
  have h5 := g7.inn
  refine .r0 rfl rfl (.fillA rfl sz_33_E rfl rfl rfl rfl) ?_
  rintro _ g6 ⟨rfl, c2, g⟩
  have nx_H10003 := c2.nx
  replace w := w.st c2 (fun k hk => ⟨by omega, trivial⟩)
  replace b8 := c2.s b8
  replace c0 := c2.s c0
  replace e := c2.s e
  replace a := Keep.st a c2 (fun k hb hk => ⟨by omega, trivial⟩)
  replace d4 := b6.keep a (Nat.le_refl _)
  replace b := Keep.st b c2 (fun k hb hk => ⟨by omega, trivial⟩)
  replace d6 := b7.keep b (Nat.le_refl _)
  replace d := Keep.st d c2 (fun k hb hk => ⟨by omega, trivial⟩)
  replace e0 := b9.keep d (Nat.le_refl _)
  replace m := Keep.st m c2 (fun k hb hk => ⟨by omega, trivial⟩)
  replace f9 := c5.keep m (Nat.le_refl _)
  replace x := Keep.st x c2 (fun k hb hk => ⟨by omega, trivial⟩)
  replace g7 := e2.keep x (Nat.le_refl _)
  have lt_at10003 := GHeap.ltg g
  replace h0 := l.mono w
  replace h1 := j.mono w
  clear o a0 y a3 a1 c9 c7 c6 c8 a5 a4 a6 a2
  have o : Fun.At _ g2 0 f p := ⟨Mem.of_get b8, h0⟩
  obtain ⟨a0, y, a3, a1, c9, c7⟩ := o.get
  have c6 : MemN _ _ _ _ _ := ⟨rfl, o.1⟩
  have c8 := o.2
  have a5 : MemN _ _ _ _ _ := ⟨rfl, a0.1⟩
  have a4 := a0.2
  have a6 : MemN _ _ _ _ _ := ⟨rfl, y.1⟩
  have a2 := y.2
  clear t a8 a9 b1 b2 d1 d3 d0 d2 b4 b3 b5 b0
  have t : Fun.At _ g3 0 k q := ⟨Mem.of_get c0, h1⟩
  obtain ⟨a8, a9, b1, b2, d1, d3⟩ := t.get
  have d0 : MemN _ _ _ _ _ := ⟨rfl, t.1⟩
  have d2 := t.2
  have b4 : MemN _ _ _ _ _ := ⟨rfl, a8.1⟩
  have b3 := a8.2
  have b5 : MemN _ _ _ _ _ := ⟨rfl, a9.1⟩
  have b0 := a9.2
  clear d7
  have d7 := d4.inn
  clear d9
  have d9 := d6.inn
  clear e4
  have e4 := e0.intss
  clear g0
  have g0 := f9.inn
  clear n
  have n : MemN _ _ _ _ _ := ⟨rfl, Mem.of_get e⟩
  clear h5
  have h5 := g7.inn
  have r : MemN _ _ _ _ _ := ⟨rfl, Mem.of_get g⟩
  refine .nil (o9 _ _ (.seq (fun K14 n1 => .region ?_)))
  refine .q rfl (.loadM ag_33_E rfl ⟨rfl, Mem.of_get e⟩) ?_
  refine .q rfl (.loadM ag_33_E rfl ⟨rfl, Mem.of_get g⟩) ?_
  refine .call rfl rfl rfl rfl @Try.call33 rfl (implCommaObjects_c) ?_
  rintro _ o5 ⟨f4, a42, r42, rfl, i0⟩
  have nx_H42 := f4.1
  replace w := w.trans f4
  replace b8 := f4.2 _ _ b8
  replace c0 := f4.2 _ _ c0
  replace e := f4.2 _ _ e
  replace g := f4.2 _ _ g
  replace a := Keep.le a f4
  replace d4 := b6.keep a (Nat.le_refl _)
  replace b := Keep.le b f4
  replace d6 := b7.keep b (Nat.le_refl _)
  replace d := Keep.le d f4
  replace e0 := b9.keep d (Nat.le_refl _)
  replace m := Keep.le m f4
  replace f9 := c5.keep m (Nat.le_refl _)
  replace x := Keep.le x f4
  replace g7 := e2.keep x (Nat.le_refl _)
  have f5 := i0
  have c1 : Keep g6.next o5 o5 := fun _ _ _ h => h
  replace h0 := l.mono w
  replace h1 := j.mono w
  clear o a0 y a3 a1 c9 c7 c6 c8 a5 a4 a6 a2
  have o : Fun.At _ g2 0 f p := ⟨Mem.of_get b8, h0⟩
  obtain ⟨a0, y, a3, a1, c9, c7⟩ := o.get
  have c6 : MemN _ _ _ _ _ := ⟨rfl, o.1⟩
  have c8 := o.2
  have a5 : MemN _ _ _ _ _ := ⟨rfl, a0.1⟩
  have a4 := a0.2
  have a6 : MemN _ _ _ _ _ := ⟨rfl, y.1⟩
  have a2 := y.2
  clear t a8 a9 b1 b2 d1 d3 d0 d2 b4 b3 b5 b0
  have t : Fun.At _ g3 0 k q := ⟨Mem.of_get c0, h1⟩
  obtain ⟨a8, a9, b1, b2, d1, d3⟩ := t.get
  have d0 : MemN _ _ _ _ _ := ⟨rfl, t.1⟩
  have d2 := t.2
  have b4 : MemN _ _ _ _ _ := ⟨rfl, a8.1⟩
  have b3 := a8.2
  have b5 : MemN _ _ _ _ _ := ⟨rfl, a9.1⟩
  have b0 := a9.2
  clear d7
  have d7 := d4.inn
  clear d9
  have d9 := d6.inn
  clear e4
  have e4 := e0.intss
  clear g0
  have g0 := f9.inn
  clear n
  have n : MemN _ _ _ _ _ := ⟨rfl, Mem.of_get e⟩
  clear h5
  have h5 := g7.inn
  clear r
  have r : MemN _ _ _ _ _ := ⟨rfl, Mem.of_get g⟩
  have i4 := i0.intss
  refine .mv rfl (.q rfl (.extract rfl rfl) (.q rfl (.extract rfl rfl) (.mv rfl (.mv rfl (.nil (n1 _ _ (.seq (fun K15 p8 => .seq (fun K16 j8 => .region (.mv rfl (.mv rfl ?_)))))))))))
  refine .callQ rfl rfl rfl rfl @Try.call27 rfl (eqInt64SS_c) ?_
  refine .q rfl (.not rfl) (.mv rfl ?_)
  refine .split (fun m7 => ?_) (fun m7 => ?_)
  ·
   try simp only [sps] at m7
   refine .z rfl (.z rfl (.z rfl (.q rfl (.pickT rfl rfl) (.nil (j8 _ _ ?_)))))
   refine .condT rfl ?_
   refine .seq (fun K17 l8 => .region (.mv rfl (.nil (l8 _ _ ?_))))
   refine .ret ?_
   refine d8 _ _ ?_
   refine ⟨_, rfl, ?_⟩
   first
   | exact rfl
   | exact absurd trivial (by assumption)
   | contradiction
   | (exfalso; omega)
  try simp only [sps] at m7
  refine .qg rfl (.move rfl) (.qg rfl (.move rfl) (.qg rfl (.cmp rfl rfl rfl) (.q rfl (.pickF rfl rfl) (.nil (j8 _ _ ?_)))))
  refine .cond rfl (fun k8 => ?_) (fun k8 => ?_)
  ·
   try simp only [sps] at k8
   refine .seq (fun K18 k5 => .region (.mv rfl (.nil (k5 _ _ ?_))))
   refine .ret ?_
   refine d8 _ _ ?_
   refine ⟨_, rfl, ?_⟩
   first
   | exact rfl
   | exact absurd trivial (by assumption)
   | contradiction
   | (exfalso; omega)
  try simp only [sps] at k8
  refine .skip ?_
  refine p8 _ _ (.seq (fun K19 m9 => .seq (fun K20 l5 => ?_)))
  refine .regionD mo_B (.q 0 (.q 1 (.c 2 1 (.c 3 0 (.q 4 (.done)))))) (by kernel_rfl) ?_
  refine .q rfl (.loadM ag_33_E rfl ⟨rfl, Mem.of_get e⟩) ?_
  refine .q rfl (.loadM ag_41_LCommaObjects rfl ⟨rfl, Mem.of_get b8⟩) ?_
  refine .call1 rfl rfl rfl rfl rfl @Try.call25 rfl (toFunctor_c) ?_
  rintro _ n0 ⟨e9, p56, rfl, g1⟩
  have i7 := e9
  refine ⟨i7, ?_⟩
  have nx_H56 := e9.1
  replace w := w.trans e9
  replace b8 := e9.2 _ _ b8
  replace c0 := e9.2 _ _ c0
  replace e := e9.2 _ _ e
  replace g := e9.2 _ _ g
  replace a := Keep.le a e9
  replace d4 := b6.keep a (Nat.le_refl _)
  replace b := Keep.le b e9
  replace d6 := b7.keep b (Nat.le_refl _)
  replace d := Keep.le d e9
  replace e0 := b9.keep d (Nat.le_refl _)
  replace m := Keep.le m e9
  replace f9 := c5.keep m (Nat.le_refl _)
  replace x := Keep.le x e9
  replace g7 := e2.keep x (Nat.le_refl _)
  replace c1 := Keep.le c1 e9
  replace i0 := f5.keep c1 (Nat.le_refl _)
  have e3 := g1
  have u : Keep o5.next n0 n0 := fun _ _ _ h => h
  replace h0 := l.mono w
  replace h1 := j.mono w
  clear o a0 y a3 a1 c9 c7 c6 c8 a5 a4 a6 a2
  have o : Fun.At _ g2 0 f p := ⟨Mem.of_get b8, h0⟩
  obtain ⟨a0, y, a3, a1, c9, c7⟩ := o.get
  have c6 : MemN _ _ _ _ _ := ⟨rfl, o.1⟩
  have c8 := o.2
  have a5 : MemN _ _ _ _ _ := ⟨rfl, a0.1⟩
  have a4 := a0.2
  have a6 : MemN _ _ _ _ _ := ⟨rfl, y.1⟩
  have a2 := y.2
  clear t a8 a9 b1 b2 d1 d3 d0 d2 b4 b3 b5 b0
  have t : Fun.At _ g3 0 k q := ⟨Mem.of_get c0, h1⟩
  obtain ⟨a8, a9, b1, b2, d1, d3⟩ := t.get
  have d0 : MemN _ _ _ _ _ := ⟨rfl, t.1⟩
  have d2 := t.2
  have b4 : MemN _ _ _ _ _ := ⟨rfl, a8.1⟩
  have b3 := a8.2
  have b5 : MemN _ _ _ _ _ := ⟨rfl, a9.1⟩
  have b0 := a9.2
  clear d7
  have d7 := d4.inn
  clear d9
  have d9 := d6.inn
  clear e4
  have e4 := e0.intss
  clear g0
  have g0 := f9.inn
  clear n
  have n : MemN _ _ _ _ _ := ⟨rfl, Mem.of_get e⟩
  clear h5
  have h5 := g7.inn
  clear r
  have r : MemN _ _ _ _ _ := ⟨rfl, Mem.of_get g⟩
  clear i4
  have i4 := i0.intss
  have h3 := g1.inn
  refine .callQ0 rfl rfl rfl rfl rfl @Try.call28 rfl (eqFunctor_c) ?_
  refine .q rfl (.not rfl) ?_
  refine .done ?_
  refine l5 _ _ ?_
  refine .cond rfl (fun o0 => ?_) (fun o0 => ?_)
  ·
   try simp only [sps] at o0
   refine .seq (fun K21 q4 => .region (.mv rfl (.nil (q4 _ _ ?_))))
   refine .ret ?_
   refine d8 _ _ ?_
   refine ⟨_, rfl, ?_⟩
   first
   | exact rfl
   | exact absurd trivial (by assumption)
   | contradiction
   | (exfalso; omega)
  try simp only [sps] at o0
  refine .skip ?_
  refine m9 _ _ (.seq (fun K22 r2 => .seq (fun K23 o4 => ?_)))
  refine .regionD mo_B (.q 0 (.q 1 (.c 2 1 (.c 3 0 (.q 4 (.done)))))) (by kernel_rfl) ?_
  refine .q rfl (.loadM ag_33_E rfl ⟨rfl, Mem.of_get g⟩) ?_
  refine .q rfl (.loadM ag_41_LCommaObjects rfl ⟨rfl, Mem.of_get c0⟩) ?_
  refine .call1 rfl rfl rfl rfl rfl @Try.call25 rfl (toFunctor_c) ?_
  rintro _ r6 ⟨e5, p61, rfl, h2⟩
  have i7 := e5
  refine ⟨i7, ?_⟩
  have nx_H61 := e5.1
  replace w := w.trans e5
  replace b8 := e5.2 _ _ b8
  replace c0 := e5.2 _ _ c0
  replace e := e5.2 _ _ e
  replace g := e5.2 _ _ g
  replace a := Keep.le a e5
  replace d4 := b6.keep a (Nat.le_refl _)
  replace b := Keep.le b e5
  replace d6 := b7.keep b (Nat.le_refl _)
  replace d := Keep.le d e5
  replace e0 := b9.keep d (Nat.le_refl _)
  replace m := Keep.le m e5
  replace f9 := c5.keep m (Nat.le_refl _)
  replace x := Keep.le x e5
  replace g7 := e2.keep x (Nat.le_refl _)
  replace c1 := Keep.le c1 e5
  replace i0 := f5.keep c1 (Nat.le_refl _)
  replace u := Keep.le u e5
  replace g1 := e3.keep u (Nat.le_refl _)
  have e8 := h2
  have a7 : Keep n0.next r6 r6 := fun _ _ _ h => h
  replace h0 := l.mono w
  replace h1 := j.mono w
  clear o a0 y a3 a1 c9 c7 c6 c8 a5 a4 a6 a2
  have o : Fun.At _ g2 0 f p := ⟨Mem.of_get b8, h0⟩
  obtain ⟨a0, y, a3, a1, c9, c7⟩ := o.get
  have c6 : MemN _ _ _ _ _ := ⟨rfl, o.1⟩
  have c8 := o.2
  have a5 : MemN _ _ _ _ _ := ⟨rfl, a0.1⟩
  have a4 := a0.2
  have a6 : MemN _ _ _ _ _ := ⟨rfl, y.1⟩
  have a2 := y.2
  clear t a8 a9 b1 b2 d1 d3 d0 d2 b4 b3 b5 b0
  have t : Fun.At _ g3 0 k q := ⟨Mem.of_get c0, h1⟩
  obtain ⟨a8, a9, b1, b2, d1, d3⟩ := t.get
  have d0 : MemN _ _ _ _ _ := ⟨rfl, t.1⟩
  have d2 := t.2
  have b4 : MemN _ _ _ _ _ := ⟨rfl, a8.1⟩
  have b3 := a8.2
  have b5 : MemN _ _ _ _ _ := ⟨rfl, a9.1⟩
  have b0 := a9.2
  clear d7
  have d7 := d4.inn
  clear d9
  have d9 := d6.inn
  clear e4
  have e4 := e0.intss
  clear g0
  have g0 := f9.inn
  clear n
  have n : MemN _ _ _ _ _ := ⟨rfl, Mem.of_get e⟩
  clear h5
  have h5 := g7.inn
  clear r
  have r : MemN _ _ _ _ _ := ⟨rfl, Mem.of_get g⟩
  clear i4
  have i4 := i0.intss
  clear h3
  have h3 := g1.inn
  have h6 := h2.inn
  refine .callQ0 rfl rfl rfl rfl rfl @Try.call28 rfl (eqFunctor_c) ?_
  refine .q rfl (.not rfl) ?_
  refine .done ?_
  refine o4 _ _ ?_
  refine .cond rfl (fun k6 => ?_) (fun k6 => ?_)
  ·
   try simp only [sps] at k6
   refine .seq (fun K24 m3 => .region (.mv rfl (.nil (m3 _ _ ?_))))
   refine .ret ?_
   refine d8 _ _ ?_
   refine ⟨_, rfl, ?_⟩
   first
   | exact rfl
   | exact absurd trivial (by assumption)
   | contradiction
   | (exfalso; omega)
  try simp only [sps] at k6
  refine .skip ?_
  refine r2 _ _ (.seq (fun K25 q0 => .region (.mv rfl (.nil (q0 _ _ (.seq (fun K26 l7 => .region ?_)))))))
  refine .q rfl (.loadM ag_33_E rfl ⟨rfl, Mem.of_get e⟩) ?_
  refine .mv rfl ?_
  have w_v36 := FunW.of_at c5 m
  refine .call rfl rfl rfl rfl @Try.call29 rfl (markFunctor_c) ?_
  rintro _ H66 ⟨rfl, n9⟩
  have f0 := n9.stm
  have nx_H66 := f0.nx
  replace w := StM.le_left w f0 (by omega)
  replace b8 := f0.same _ _ (by omega) b8
  replace c0 := f0.same _ _ (by omega) c0
  replace e := f0.same _ _ (by omega) e
  replace g := f0.same _ _ (by omega) g
  replace a := Keep.stM a f0 (fun k hb hk => by omega)
  replace d4 := b6.keep a (Nat.le_refl _)
  replace b := Keep.stM b f0 (fun k hb hk => by omega)
  replace d6 := b7.keep b (Nat.le_refl _)
  replace d := Keep.stM d f0 (fun k hb hk => by omega)
  replace e0 := b9.keep d (Nat.le_refl _)
  replace x := Keep.stM x f0 (fun k hb hk => by omega)
  replace g7 := e2.keep x (Nat.le_refl _)
  replace c1 := Keep.stM c1 f0 (fun k hb hk => by omega)
  replace i0 := f5.keep c1 (Nat.le_refl _)
  replace u := Keep.stM u f0 (fun k hb hk => by omega)
  replace g1 := e3.keep u (Nat.le_refl _)
  replace a7 := Keep.stM a7 f0 (fun k hb hk => by omega)
  replace h2 := e8.keep a7 (Nat.le_refl _)
  replace h0 := l.mono w
  replace h1 := j.mono w
  clear o a0 y a3 a1 c9 c7 c6 c8 a5 a4 a6 a2
  have o : Fun.At _ g2 0 f p := ⟨Mem.of_get b8, h0⟩
  obtain ⟨a0, y, a3, a1, c9, c7⟩ := o.get
  have c6 : MemN _ _ _ _ _ := ⟨rfl, o.1⟩
  have c8 := o.2
  have a5 : MemN _ _ _ _ _ := ⟨rfl, a0.1⟩
  have a4 := a0.2
  have a6 : MemN _ _ _ _ _ := ⟨rfl, y.1⟩
  have a2 := y.2
  clear t a8 a9 b1 b2 d1 d3 d0 d2 b4 b3 b5 b0
  have t : Fun.At _ g3 0 k q := ⟨Mem.of_get c0, h1⟩
  obtain ⟨a8, a9, b1, b2, d1, d3⟩ := t.get
  have d0 : MemN _ _ _ _ _ := ⟨rfl, t.1⟩
  have d2 := t.2
  have b4 : MemN _ _ _ _ _ := ⟨rfl, a8.1⟩
  have b3 := a8.2
  have b5 : MemN _ _ _ _ _ := ⟨rfl, a9.1⟩
  have b0 := a9.2
  clear d7
  have d7 := d4.inn
  clear d9
  have d9 := d6.inn
  clear e4
  have e4 := e0.intss
  clear n
  have n : MemN _ _ _ _ _ := ⟨rfl, Mem.of_get e⟩
  clear h5
  have h5 := g7.inn
  clear r
  have r : MemN _ _ _ _ _ := ⟨rfl, Mem.of_get g⟩
  clear i4
  have i4 := i0.intss
  clear h3
  have h3 := g1.inn
  clear h6
  have h6 := h2.inn
  refine .mv rfl (.nil (l7 _ _ (.seq (fun K27 o8 => .region ?_))))
  refine .q rfl (.loadM ag_33_E rfl ⟨rfl, Mem.of_get g⟩) ?_
  refine .mv rfl ?_
  have w_v38 := FunW.of_at e2 x
  refine .call rfl rfl rfl rfl @Try.call29 rfl (markFunctor_c) ?_
  rintro _ H69 ⟨rfl, p7⟩
  have f3 := p7.stm
  have nx_H69 := f3.nx
  replace w := StM.le_left w f3 (by omega)
  replace b8 := f3.same _ _ (by omega) b8
  replace c0 := f3.same _ _ (by omega) c0
  replace e := f3.same _ _ (by omega) e
  replace g := f3.same _ _ (by omega) g
  replace a := Keep.stM a f3 (fun k hb hk => by omega)
  replace d4 := b6.keep a (Nat.le_refl _)
  replace b := Keep.stM b f3 (fun k hb hk => by omega)
  replace d6 := b7.keep b (Nat.le_refl _)
  replace d := Keep.stM d f3 (fun k hb hk => by omega)
  replace e0 := b9.keep d (Nat.le_refl _)
  replace c1 := Keep.stM c1 f3 (fun k hb hk => by omega)
  replace i0 := f5.keep c1 (Nat.le_refl _)
  replace u := Keep.stM u f3 (fun k hb hk => by omega)
  replace g1 := e3.keep u (Nat.le_refl _)
  replace a7 := Keep.stM a7 f3 (fun k hb hk => by omega)
  replace h2 := e8.keep a7 (Nat.le_refl _)
  replace h0 := l.mono w
  replace h1 := j.mono w
  clear o a0 y a3 a1 c9 c7 c6 c8 a5 a4 a6 a2
  have o : Fun.At _ g2 0 f p := ⟨Mem.of_get b8, h0⟩
  obtain ⟨a0, y, a3, a1, c9, c7⟩ := o.get
  have c6 : MemN _ _ _ _ _ := ⟨rfl, o.1⟩
  have c8 := o.2
  have a5 : MemN _ _ _ _ _ := ⟨rfl, a0.1⟩
  have a4 := a0.2
  have a6 : MemN _ _ _ _ _ := ⟨rfl, y.1⟩
  have a2 := y.2
  clear t a8 a9 b1 b2 d1 d3 d0 d2 b4 b3 b5 b0
  have t : Fun.At _ g3 0 k q := ⟨Mem.of_get c0, h1⟩
  obtain ⟨a8, a9, b1, b2, d1, d3⟩ := t.get
  have d0 : MemN _ _ _ _ _ := ⟨rfl, t.1⟩
  have d2 := t.2
  have b4 : MemN _ _ _ _ _ := ⟨rfl, a8.1⟩
  have b3 := a8.2
  have b5 : MemN _ _ _ _ _ := ⟨rfl, a9.1⟩
  have b0 := a9.2
  clear d7
  have d7 := d4.inn
  clear d9
  have d9 := d6.inn
  clear e4
  have e4 := e0.intss
  clear n
  have n : MemN _ _ _ _ _ := ⟨rfl, Mem.of_get e⟩
  clear r
  have r : MemN _ _ _ _ _ := ⟨rfl, Mem.of_get g⟩
  clear i4
  have i4 := i0.intss
  clear h3
  have h3 := g1.inn
  clear h6
  have h6 := h2.inn
  refine .mv rfl (.nil (o8 _ _ (.seq (fun K28 l3 => .seq (fun K29 i9 => .region (.mv rfl (.q rfl (.cmp rfl rfl rfl) (.mv rfl ?_))))))))
  refine .split (fun l4 => ?_) (fun l4 => ?_)
  ·
   try simp only [sps] at l4
   refine .z rfl (.z rfl (.z rfl (.z rfl (.q rfl (.pickT rfl rfl) (.mv rfl (.z rfl (.z rfl (.z rfl (.q rfl (.pickT rfl rfl) (.nil (i9 _ _ ?_)))))))))))
   refine .condT rfl ?_
   refine .seq (fun K30 m1 => .region (.mv rfl (.nil (m1 _ _ ?_))))
   refine .ret ?_
   refine d8 _ _ ?_
   refine ⟨_, rfl, ?_⟩
   first
   | exact rfl
   | exact absurd trivial (by assumption)
   | contradiction
   | (exfalso; omega)
  try simp only [sps] at l4
  refine .qg rfl (.move rfl) (.qg rfl (.move rfl) ?_)
  refine .callQg rfl rfl rfl rfl rfl rfl @Try.call27 rfl (eqInt64SS_c) ?_
  refine .qg rfl (.not rfl) (.q rfl (.pickF rfl rfl) (.mv rfl ?_))
  refine .split (fun o3 => ?_) (fun o3 => ?_)
  ·
   try simp only [sps] at o3
   refine .z rfl (.z rfl (.z rfl (.q rfl (.pickT rfl rfl) (.nil (i9 _ _ ?_)))))
   refine .condT rfl ?_
   refine .seq (fun K31 n2 => .region (.mv rfl (.nil (n2 _ _ ?_))))
   refine .ret ?_
   refine d8 _ _ ?_
   refine ⟨_, rfl, ?_⟩
   first
   | exact rfl
   | exact absurd trivial (by assumption)
   | contradiction
   | (exfalso; omega)
  try simp only [sps] at o3
  refine .qg rfl (.move rfl) (.qg rfl (.move rfl) (.qg rfl (.cmp rfl rfl rfl) (.q rfl (.pickF rfl rfl) (.nil (i9 _ _ ?_)))))
  refine .cond rfl (fun l0 => ?_) (fun l0 => ?_)
  ·
   try simp only [sps] at l0
   refine .seq (fun K32 o7 => .region (.mv rfl (.nil (o7 _ _ ?_))))
   refine .ret ?_
   refine d8 _ _ ?_
   refine ⟨_, rfl, ?_⟩
   first
   | exact rfl
   | exact absurd trivial (by assumption)
   | contradiction
   | (exfalso; omega)
  try simp only [sps] at l0
  refine .skip ?_
  refine l3 _ _ (.seq (fun K33 q2 => .region (.mv rfl (.nil (q2 _ _ (.seq (fun K34 q1 => .region (.mv rfl (.mv rfl ?_)))))))))
  have j6 := IntssW.of_r f5 c1
  refine .call rfl rfl rfl rfl @Try.call30 rfl (markInt64SS_c) ?_
  rintro _ j4 ⟨rfl, j9⟩
  have f2 := j9.stm
  have nx_H85 := f2.nx
  replace w := StM.le_left w f2 (by omega)
  replace b8 := f2.same _ _ (by omega) b8
  replace c0 := f2.same _ _ (by omega) c0
  replace e := f2.same _ _ (by omega) e
  replace g := f2.same _ _ (by omega) g
  replace a := Keep.stM a f2 (fun k hb hk => by omega)
  replace d4 := b6.keep a (Nat.le_refl _)
  replace b := Keep.stM b f2 (fun k hb hk => by omega)
  replace d6 := b7.keep b (Nat.le_refl _)
  replace d := Keep.stM d f2 (fun k hb hk => by omega)
  replace e0 := b9.keep d (Nat.le_refl _)
  replace u := Keep.stM u f2 (fun k hb hk => by omega)
  replace g1 := e3.keep u (Nat.le_refl _)
  replace a7 := Keep.stM a7 f2 (fun k hb hk => by omega)
  replace h2 := e8.keep a7 (Nat.le_refl _)
  replace h0 := l.mono w
  replace h1 := j.mono w
  clear o a0 y a3 a1 c9 c7 c6 c8 a5 a4 a6 a2
  have o : Fun.At _ g2 0 f p := ⟨Mem.of_get b8, h0⟩
  obtain ⟨a0, y, a3, a1, c9, c7⟩ := o.get
  have c6 : MemN _ _ _ _ _ := ⟨rfl, o.1⟩
  have c8 := o.2
  have a5 : MemN _ _ _ _ _ := ⟨rfl, a0.1⟩
  have a4 := a0.2
  have a6 : MemN _ _ _ _ _ := ⟨rfl, y.1⟩
  have a2 := y.2
  clear t a8 a9 b1 b2 d1 d3 d0 d2 b4 b3 b5 b0
  have t : Fun.At _ g3 0 k q := ⟨Mem.of_get c0, h1⟩
  obtain ⟨a8, a9, b1, b2, d1, d3⟩ := t.get
  have d0 : MemN _ _ _ _ _ := ⟨rfl, t.1⟩
  have d2 := t.2
  have b4 : MemN _ _ _ _ _ := ⟨rfl, a8.1⟩
  have b3 := a8.2
  have b5 : MemN _ _ _ _ _ := ⟨rfl, a9.1⟩
  have b0 := a9.2
  clear d7
  have d7 := d4.inn
  clear d9
  have d9 := d6.inn
  clear e4
  have e4 := e0.intss
  clear n
  have n : MemN _ _ _ _ _ := ⟨rfl, Mem.of_get e⟩
  clear r
  have r : MemN _ _ _ _ _ := ⟨rfl, Mem.of_get g⟩
  clear h3
  have h3 := g1.inn
  clear h6
  have h6 := h2.inn
  have i2 := j9.held (i0.2)
  have i3 := j6.stm f2
  have f7 := i2
  have c3 : Keep g6.next j4 j4 := fun _ _ _ h => h
  have f6 := i3
  have c4 : Keep g6.next j4 j4 := fun _ _ _ h => h
  refine .mv rfl (.nil (q1 _ _ (.seq (fun K35 p5 => .region (.mv rfl (.nil (p5 _ _ (.seq (fun K36 o2 => .region (.mv rfl (.mv rfl ?_)))))))))))
  refine .callQ rfl rfl rfl rfl @Try.call31 rfl (heldInt64SSw_c) ?_
  refine .mv rfl (.nil (o2 _ _ (.seq (fun K37 o1 => .seq (fun K38 p9 => .region (.mv rfl (.q rfl (.cmp rfl rfl rfl) (.nil (p9 _ _ ?_)))))))))
  refine .cond rfl (fun q7 => ?_) (fun q7 => ?_)
  ·
   try simp only [sps] at q7
   refine .seq (fun K39 o6 => .region (.mv rfl (.nil (o6 _ _ ?_))))
   refine .ret ?_
   refine d8 _ _ ?_
   refine ⟨_, rfl, ?_⟩
   first
   | exact rfl
   | exact absurd trivial (by assumption)
   | contradiction
   | (exfalso; omega)
  try simp only [sps] at q7
  refine .skip ?_
  refine o1 _ _ (.seq (fun K40 l6 => .seq (fun K41 m5 => .region (.mv rfl (.mv rfl (.q rfl (.cmp rfl rfl rfl) (.nil (m5 _ _ ?_))))))))
  refine .cond rfl (fun p2 => ?_) (fun p2 => ?_)
  ·
   try simp only [sps] at p2
   refine .seq (fun K42 n6 => .region (.mv rfl (.nil (n6 _ _ ?_))))
   refine .ret ?_
   refine d8 _ _ ?_
   refine ⟨_, rfl, ?_⟩
   first
   | exact rfl
   | exact absurd trivial (by assumption)
   | contradiction
   | (exfalso; omega)
  try simp only [sps] at p2
  refine .skip ?_
  refine l6 _ _ (.seq (fun K43 k9 => ?_))
  refine .regionD mo_B (.q 0 (.q 2 (.c 1 1 (.c 3 0 (.c 4 0 (.q 5 (.q 6 (.q 7 (.q 8 (.q 9 (.done))))))))))) (by kernel_rfl) ?_
  refine .q rfl (.loadM ag_41_LCommaObjects rfl ⟨rfl, Mem.of_get b8⟩) ?_
  refine .q rfl (.loadM ag_41_LCommaObjects rfl ⟨rfl, Mem.of_get c0⟩) ?_
  refine .call1 rfl rfl rfl rfl rfl @Try.call25 rfl (toFunctor_c) ?_
  rintro _ n5 ⟨e7, p96, rfl, j3⟩
  have i7 := e7
  refine ⟨i7, ?_⟩
  have nx_H96 := e7.1
  replace w := w.trans e7
  replace b8 := e7.2 _ _ b8
  replace c0 := e7.2 _ _ c0
  replace e := e7.2 _ _ e
  replace g := e7.2 _ _ g
  replace a := Keep.le a e7
  replace d4 := b6.keep a (Nat.le_refl _)
  replace b := Keep.le b e7
  replace d6 := b7.keep b (Nat.le_refl _)
  replace d := Keep.le d e7
  replace e0 := b9.keep d (Nat.le_refl _)
  replace u := Keep.le u e7
  replace g1 := e3.keep u (Nat.le_refl _)
  replace a7 := Keep.le a7 e7
  replace h2 := e8.keep a7 (Nat.le_refl _)
  replace c3 := Keep.le c3 e7
  replace i2 := f7.keep c3 (Nat.le_refl _)
  replace c4 := Keep.le c4 e7
  replace i3 := f6.keep c4 (Nat.le_refl _)
  have h9 := j3
  have f1 : Keep j4.next n5 n5 := fun _ _ _ h => h
  replace h0 := l.mono w
  replace h1 := j.mono w
  clear o a0 y a3 a1 c9 c7 c6 c8 a5 a4 a6 a2
  have o : Fun.At _ g2 0 f p := ⟨Mem.of_get b8, h0⟩
  obtain ⟨a0, y, a3, a1, c9, c7⟩ := o.get
  have c6 : MemN _ _ _ _ _ := ⟨rfl, o.1⟩
  have c8 := o.2
  have a5 : MemN _ _ _ _ _ := ⟨rfl, a0.1⟩
  have a4 := a0.2
  have a6 : MemN _ _ _ _ _ := ⟨rfl, y.1⟩
  have a2 := y.2
  clear t a8 a9 b1 b2 d1 d3 d0 d2 b4 b3 b5 b0
  have t : Fun.At _ g3 0 k q := ⟨Mem.of_get c0, h1⟩
  obtain ⟨a8, a9, b1, b2, d1, d3⟩ := t.get
  have d0 : MemN _ _ _ _ _ := ⟨rfl, t.1⟩
  have d2 := t.2
  have b4 : MemN _ _ _ _ _ := ⟨rfl, a8.1⟩
  have b3 := a8.2
  have b5 : MemN _ _ _ _ _ := ⟨rfl, a9.1⟩
  have b0 := a9.2
  clear d7
  have d7 := d4.inn
  clear d9
  have d9 := d6.inn
  clear e4
  have e4 := e0.intss
  clear n
  have n : MemN _ _ _ _ _ := ⟨rfl, Mem.of_get e⟩
  clear r
  have r : MemN _ _ _ _ _ := ⟨rfl, Mem.of_get g⟩
  clear h3
  have h3 := g1.inn
  clear h6
  have h6 := h2.inn
  have k2 := j3.inn
  refine .call0 rfl rfl rfl rfl rfl @Try.call25 rfl (toFunctor_c) ?_
  rintro _ n8 ⟨e6, p98, rfl, k3⟩
  have nx_H98 := e6.1
  replace w := w.trans e6
  replace b8 := e6.2 _ _ b8
  replace c0 := e6.2 _ _ c0
  replace e := e6.2 _ _ e
  replace g := e6.2 _ _ g
  replace a := Keep.le a e6
  replace d4 := b6.keep a (Nat.le_refl _)
  replace b := Keep.le b e6
  replace d6 := b7.keep b (Nat.le_refl _)
  replace d := Keep.le d e6
  replace e0 := b9.keep d (Nat.le_refl _)
  replace u := Keep.le u e6
  replace g1 := e3.keep u (Nat.le_refl _)
  replace a7 := Keep.le a7 e6
  replace h2 := e8.keep a7 (Nat.le_refl _)
  replace c3 := Keep.le c3 e6
  replace i2 := f7.keep c3 (Nat.le_refl _)
  replace c4 := Keep.le c4 e6
  replace i3 := f6.keep c4 (Nat.le_refl _)
  replace f1 := Keep.le f1 e6
  replace j3 := h9.keep f1 (Nat.le_refl _)
  have j0 := k3
  have g4 : Keep n5.next n8 n8 := fun _ _ _ h => h
  replace h0 := l.mono w
  replace h1 := j.mono w
  clear o a0 y a3 a1 c9 c7 c6 c8 a5 a4 a6 a2
  have o : Fun.At _ g2 0 f p := ⟨Mem.of_get b8, h0⟩
  obtain ⟨a0, y, a3, a1, c9, c7⟩ := o.get
  have c6 : MemN _ _ _ _ _ := ⟨rfl, o.1⟩
  have c8 := o.2
  have a5 : MemN _ _ _ _ _ := ⟨rfl, a0.1⟩
  have a4 := a0.2
  have a6 : MemN _ _ _ _ _ := ⟨rfl, y.1⟩
  have a2 := y.2
  clear t a8 a9 b1 b2 d1 d3 d0 d2 b4 b3 b5 b0
  have t : Fun.At _ g3 0 k q := ⟨Mem.of_get c0, h1⟩
  obtain ⟨a8, a9, b1, b2, d1, d3⟩ := t.get
  have d0 : MemN _ _ _ _ _ := ⟨rfl, t.1⟩
  have d2 := t.2
  have b4 : MemN _ _ _ _ _ := ⟨rfl, a8.1⟩
  have b3 := a8.2
  have b5 : MemN _ _ _ _ _ := ⟨rfl, a9.1⟩
  have b0 := a9.2
  clear d7
  have d7 := d4.inn
  clear d9
  have d9 := d6.inn
  clear e4
  have e4 := e0.intss
  clear n
  have n : MemN _ _ _ _ _ := ⟨rfl, Mem.of_get e⟩
  clear r
  have r : MemN _ _ _ _ _ := ⟨rfl, Mem.of_get g⟩
  clear h3
  have h3 := g1.inn
  clear h6
  have h6 := h2.inn
  clear k2
  have k2 := j3.inn
  have r9 := k3.inn
  refine .call0 rfl rfl rfl rfl rfl @Try.call33 rfl (implCommaObjects_c) ?_
  rintro _ r5 ⟨e1, a99, r99, rfl, r4⟩
  have nx_H99 := e1.1
  replace w := w.trans e1
  replace b8 := e1.2 _ _ b8
  replace c0 := e1.2 _ _ c0
  replace e := e1.2 _ _ e
  replace g := e1.2 _ _ g
  replace a := Keep.le a e1
  replace d4 := b6.keep a (Nat.le_refl _)
  replace b := Keep.le b e1
  replace d6 := b7.keep b (Nat.le_refl _)
  replace d := Keep.le d e1
  replace e0 := b9.keep d (Nat.le_refl _)
  replace u := Keep.le u e1
  replace g1 := e3.keep u (Nat.le_refl _)
  replace a7 := Keep.le a7 e1
  replace h2 := e8.keep a7 (Nat.le_refl _)
  replace c3 := Keep.le c3 e1
  replace i2 := f7.keep c3 (Nat.le_refl _)
  replace c4 := Keep.le c4 e1
  replace i3 := f6.keep c4 (Nat.le_refl _)
  replace f1 := Keep.le f1 e1
  replace j3 := h9.keep f1 (Nat.le_refl _)
  replace g4 := Keep.le g4 e1
  replace k3 := j0.keep g4 (Nat.le_refl _)
  have bs_v99 := r4
  have lv_v99 : Keep n8.next r5 r5 := fun _ _ _ h => h
  replace h0 := l.mono w
  replace h1 := j.mono w
  clear o a0 y a3 a1 c9 c7 c6 c8 a5 a4 a6 a2
  have o : Fun.At _ g2 0 f p := ⟨Mem.of_get b8, h0⟩
  obtain ⟨a0, y, a3, a1, c9, c7⟩ := o.get
  have c6 : MemN _ _ _ _ _ := ⟨rfl, o.1⟩
  have c8 := o.2
  have a5 : MemN _ _ _ _ _ := ⟨rfl, a0.1⟩
  have a4 := a0.2
  have a6 : MemN _ _ _ _ _ := ⟨rfl, y.1⟩
  have a2 := y.2
  clear t a8 a9 b1 b2 d1 d3 d0 d2 b4 b3 b5 b0
  have t : Fun.At _ g3 0 k q := ⟨Mem.of_get c0, h1⟩
  obtain ⟨a8, a9, b1, b2, d1, d3⟩ := t.get
  have d0 : MemN _ _ _ _ _ := ⟨rfl, t.1⟩
  have d2 := t.2
  have b4 : MemN _ _ _ _ _ := ⟨rfl, a8.1⟩
  have b3 := a8.2
  have b5 : MemN _ _ _ _ _ := ⟨rfl, a9.1⟩
  have b0 := a9.2
  clear d7
  have d7 := d4.inn
  clear d9
  have d9 := d6.inn
  clear e4
  have e4 := e0.intss
  clear n
  have n : MemN _ _ _ _ _ := ⟨rfl, Mem.of_get e⟩
  clear r
  have r : MemN _ _ _ _ _ := ⟨rfl, Mem.of_get g⟩
  clear h3
  have h3 := g1.inn
  clear h6
  have h6 := h2.inn
  clear k2
  have k2 := j3.inn
  clear r9
  have r9 := k3.inn
  have i99 := r4.intss
  refine .mv rfl rfl (.q rfl (.extract rfl rfl) (.q rfl (.extract rfl rfl) (.mv rfl rfl (.mv rfl rfl ?_))))
  refine .done ?_
  refine k9 _ _ (.seq (fun K44 l2 => .seq (fun K45 j7 => .region (.mv rfl (.mv rfl ?_)))))
  refine .callQ rfl rfl rfl rfl @Try.call27 rfl (eqInt64SS_c) ?_
  refine .q rfl (.not rfl) (.mv rfl ?_)
  refine .split (fun j1 => ?_) (fun j1 => ?_)
  ·
   try simp only [sps] at j1
   refine .z rfl (.z rfl (.z rfl (.q rfl (.pickT rfl rfl) (.nil (j7 _ _ ?_)))))
   refine .condT rfl ?_
   refine .seq (fun K46 n3 => .region (.mv rfl (.nil (n3 _ _ ?_))))
   refine .ret ?_
   refine d8 _ _ ?_
   refine ⟨_, rfl, ?_⟩
   first
   | exact rfl
   | exact absurd trivial (by assumption)
   | contradiction
   | (exfalso; omega)
  try simp only [sps] at j1
  refine .qg rfl (.move rfl) (.qg rfl (.move rfl) (.qg rfl (.cmp rfl rfl rfl) (.q rfl (.pickF rfl rfl) (.nil (j7 _ _ ?_)))))
  refine .cond rfl (fun i8 => ?_) (fun i8 => ?_)
  ·
   try simp only [sps] at i8
   refine .seq (fun K47 q6 => .region (.mv rfl (.nil (q6 _ _ ?_))))
   refine .ret ?_
   refine d8 _ _ ?_
   refine ⟨_, rfl, ?_⟩
   first
   | exact rfl
   | exact absurd trivial (by assumption)
   | contradiction
   | (exfalso; omega)
  try simp only [sps] at i8
  refine .skip ?_
  refine l2 _ _ (.seq (fun K48 q3 => .region (.mv rfl (.nil (q3 _ _ (.seq (fun K49 q5 => .region (.mv rfl (.mv rfl ?_)))))))))
  refine .callQ rfl rfl rfl rfl @Try.call31 rfl (heldInt64SSw_c) ?_
  refine .mv rfl (.nil (q5 _ _ (.seq (fun K50 m4 => .seq (fun K51 p1 => .region (.mv rfl (.q rfl (.cmp rfl rfl rfl) (.nil (p1 _ _ ?_)))))))))
  refine .cond rfl (fun i6 => ?_) (fun i6 => ?_)
  ·
   try simp only [sps] at i6
   refine .seq (fun K52 p0 => .region (.mv rfl (.nil (p0 _ _ ?_))))
   refine .ret ?_
   refine d8 _ _ ?_
   refine ⟨_, rfl, ?_⟩
   first
   | exact rfl
   | exact absurd trivial (by assumption)
   | contradiction
   | (exfalso; omega)
  try simp only [sps] at i6
  refine .skip ?_
  refine m4 _ _ (.seq (fun K53 k4 => .seq (fun K54 m0 => .region (.mv rfl (.mv rfl (.q rfl (.cmp rfl rfl rfl) (.nil (m0 _ _ ?_))))))))
  refine .cond rfl (fun j2 => ?_) (fun j2 => ?_)
  ·
   try simp only [sps] at j2
   refine .seq (fun K55 m6 => .region (.mv rfl (.nil (m6 _ _ ?_))))
   refine .ret ?_
   refine d8 _ _ ?_
   refine ⟨_, rfl, ?_⟩
   first
   | exact rfl
   | exact absurd trivial (by assumption)
   | contradiction
   | (exfalso; omega)
  try simp only [sps] at j2
  refine .skip ?_
  refine k4 _ _ (.seq (fun K56 l1 => .region (.mv rfl (.nil (l1 _ _ ?_)))))
  refine .ret ?_
  refine d8 _ _ ?_
  refine ⟨_, rfl, ?_⟩
  first
  | exact rfl
  | exact absurd trivial (by assumption)
  | contradiction
  | (exfalso; omega)
end Go.Proofs.Ytiooclghkafokaa
