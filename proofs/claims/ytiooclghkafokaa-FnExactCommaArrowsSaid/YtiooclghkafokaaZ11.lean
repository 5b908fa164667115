/- The law of CommaArrows. No condition but those of each statement. -/
import Derived.Test.YtiooclghkafokaaZ10
namespace Go.Proofs.Ytiooclghkafokaa
open Go Go.GL Go.RowKit Go.Proofs
theorem ag_41_LCommaArrows : aggT Try.prog 41 = some 12 := by kernel_rfl
set_option maxHeartbeats 40000000 in
theorem lawCommaArrows_c {f : Fun} {p : FunP} {k : Fun} {q : FunP} {H : GHeap} (h0 : f.In H p) (w0 : f.Wide) (h1 : k.In H q) (w1 : k.Wide) :
    GCalls Try.prog 5 [.agg (f.cells p).toArray, .agg (k.cells q).toArray] H (fun v _ => v = .bool true) := by
  refine GCalls.body (N := 119) (rs := [.tmp 4]) Try.func5 rfl rfl rfl rfl (fun Qx d8 hend => ?_)
  refine .fg [0, 1] rfl ?_
  have w := GHeap.Le.refl H
  have l := h0
  have j := h1
  refine .seq (fun K1 s5 => .region ?_)
  refine .R rfl (.boxR rfl sz_41_E rfl) ?_
  rintro _ H2 ⟨g2, rfl, r4, ge2, b8⟩
  have nx_H2 := r4.1
  replace w := w.trans r4
  have lt_at2 := GHeap.ltg b8
  replace h0 := l.mono w
  replace h1 := j.mono w
  have o : Fun.At _ g2 0 f p := ⟨Mem.of_get b8, h0⟩
  obtain ⟨a0, y, a2, a1, c7, c6⟩ := o.get
  have c9 : MemN _ _ _ _ _ := ⟨rfl, o.1⟩
  have c8 := o.2
  have a5 : MemN _ _ _ _ _ := ⟨rfl, a0.1⟩
  have a4 := a0.2
  have a3 : MemN _ _ _ _ _ := ⟨rfl, y.1⟩
  have a6 := y.2
  refine .R rfl (.boxR rfl sz_41_E rfl) ?_
  rintro _ H3 ⟨g3, rfl, l3, ge3, c0⟩
  have nx_H3 := l3.1
  replace w := w.trans l3
  replace b8 := l3.2 _ _ b8
  have lt_at3 := GHeap.ltg c0
  replace h0 := l.mono w
  replace h1 := j.mono w
  clear o a0 y a2 a1 c7 c6 c9 c8 a5 a4 a3 a6
  have o : Fun.At _ g2 0 f p := ⟨Mem.of_get b8, h0⟩
  obtain ⟨a0, y, a2, a1, c7, c6⟩ := o.get
  have c9 : MemN _ _ _ _ _ := ⟨rfl, o.1⟩
  have c8 := o.2
  have a5 : MemN _ _ _ _ _ := ⟨rfl, a0.1⟩
  have a4 := a0.2
  have a3 : MemN _ _ _ _ _ := ⟨rfl, y.1⟩
  have a6 := y.2
  have t : Fun.At _ g3 0 k q := ⟨Mem.of_get c0, h1⟩
  obtain ⟨a8, a9, b0, b5, d3, d0⟩ := t.get
  have d1 : MemN _ _ _ _ _ := ⟨rfl, t.1⟩
  have d4 := t.2
  have b1 : MemN _ _ _ _ _ := ⟨rfl, a8.1⟩
  have b2 := a8.2
  have b3 : MemN _ _ _ _ _ := ⟨rfl, a9.1⟩
  have b4 := a9.2
  refine .mv rfl (.nil (s5 _ _ (.seq (fun K2 s8 => .region (.mv rfl (.nil (s8 _ _ (.seq (fun K3 s1 => .region ?_)))))))))
  refine .q rfl (.loadM ag_41_LCommaArrows rfl ⟨rfl, Mem.of_get b8⟩) ?_
  refine .mv rfl ?_
  refine .call rfl rfl rfl rfl @Try.call23 rfl (szFunctor_c) ?_
  rintro _ _ ⟨heq, lf19, rfl, z119, z219, r1⟩
  obtain rfl := heq.symm
  refine .mv rfl (.nil (s1 _ _ (.seq (fun K4 s0 => .seq (fun K5 s2 => .region (.mv rfl (.q rfl (.cmp rfl rfl rfl) (.nil (s2 _ _ ?_)))))))))
  refine .cond rfl (fun o5 => ?_) (fun o5 => ?_)
  ·
   try simp only [sps] at o5
   refine .seq (fun K6 s4 => .region (.mv rfl (.nil (s4 _ _ ?_))))
   refine .ret ?_
   refine d8 _ _ ?_
   refine ⟨_, rfl, ?_⟩
   first
   | exact rfl
   | exact absurd trivial (by assumption)
   | contradiction
   | (exfalso; omega)
  try simp only [sps] at o5
  have j9 := r1 (by omega)
  have tb19 := j9.tot
  refine .skip ?_
  refine s0 _ _ (.seq (fun K7 s3 => .region ?_))
  refine .q rfl (.loadM ag_41_LCommaArrows rfl ⟨rfl, Mem.of_get c0⟩) ?_
  refine .mv rfl ?_
  refine .call rfl rfl rfl rfl @Try.call23 rfl (szFunctor_c) ?_
  rintro _ _ ⟨heq, lf24, rfl, z124, z224, m0⟩
  obtain rfl := heq.symm
  refine .mv rfl (.nil (s3 _ _ (.seq (fun K8 s9 => .seq (fun K9 t0 => .region (.mv rfl (.q rfl (.cmp rfl rfl rfl) (.nil (t0 _ _ ?_)))))))))
  refine .cond rfl (fun n8 => ?_) (fun n8 => ?_)
  ·
   try simp only [sps] at n8
   refine .seq (fun K10 p6 => .region (.mv rfl (.nil (p6 _ _ ?_))))
   refine .ret ?_
   refine d8 _ _ ?_
   refine ⟨_, rfl, ?_⟩
   first
   | exact rfl
   | exact absurd trivial (by assumption)
   | contradiction
   | (exfalso; omega)
  simp only [sps] at n8
  have hcs := kmRA_small f k
  have hcl : (kmRA f k).length ≤ 1048576 := by omega
  have k9 : ∀ i, ((kmRA f k).getD i []).length ≤ 1048576 := fun i => by have := hcs.2 i; omega
  have hct := sumL_tot hcl k9
  have j4 := m0 (by omega)
  have tb24 := j4.tot
  refine .skip ?_
  refine s9 _ _ (.seq (fun K11 k8 => ?_))
  refine .regionD mo_B (.q 0 (.q 2 (.c 1 1 (.c 3 0 (.c 4 0 (.q 5 (.q 6 (.q 7 (.q 8 (.q 9 (.done))))))))))) (by kernel_rfl) ?_
  refine .q rfl (.loadM ag_41_LCommaArrows rfl ⟨rfl, Mem.of_get b8⟩) ?_
  refine .q rfl (.loadM ag_41_LCommaArrows rfl ⟨rfl, Mem.of_get c0⟩) ?_
  refine .call1 rfl rfl rfl rfl rfl @Try.call25 rfl (toFunctor_c) ?_
  rintro _ m6 ⟨h7, p29, rfl, d2⟩
  have j1 := h7
  refine ⟨j1, ?_⟩
  have nx_H29 := h7.1
  replace w := w.trans h7
  replace b8 := h7.2 _ _ b8
  replace c0 := h7.2 _ _ c0
  have b6 := d2
  have a : Keep H3.next m6 m6 := fun _ _ _ h => h
  replace h0 := l.mono w
  replace h1 := j.mono w
  clear o a0 y a2 a1 c7 c6 c9 c8 a5 a4 a3 a6
  have o : Fun.At _ g2 0 f p := ⟨Mem.of_get b8, h0⟩
  obtain ⟨a0, y, a2, a1, c7, c6⟩ := o.get
  have c9 : MemN _ _ _ _ _ := ⟨rfl, o.1⟩
  have c8 := o.2
  have a5 : MemN _ _ _ _ _ := ⟨rfl, a0.1⟩
  have a4 := a0.2
  have a3 : MemN _ _ _ _ _ := ⟨rfl, y.1⟩
  have a6 := y.2
  clear t a8 a9 b0 b5 d3 d0 d1 d4 b1 b2 b3 b4
  have t : Fun.At _ g3 0 k q := ⟨Mem.of_get c0, h1⟩
  obtain ⟨a8, a9, b0, b5, d3, d0⟩ := t.get
  have d1 : MemN _ _ _ _ _ := ⟨rfl, t.1⟩
  have d4 := t.2
  have b1 : MemN _ _ _ _ _ := ⟨rfl, a8.1⟩
  have b2 := a8.2
  have b3 : MemN _ _ _ _ _ := ⟨rfl, a9.1⟩
  have b4 := a9.2
  have d7 := d2.inn
  refine .call0 rfl rfl rfl rfl rfl @Try.call25 rfl (toFunctor_c) ?_
  rintro _ r2 ⟨i0, p31, rfl, d6⟩
  have nx_H31 := i0.1
  replace w := w.trans i0
  replace b8 := i0.2 _ _ b8
  replace c0 := i0.2 _ _ c0
  replace a := Keep.le a i0
  replace d2 := b6.keep a (Nat.le_refl _)
  have b7 := d6
  have b : Keep m6.next r2 r2 := fun _ _ _ h => h
  replace h0 := l.mono w
  replace h1 := j.mono w
  clear o a0 y a2 a1 c7 c6 c9 c8 a5 a4 a3 a6
  have o : Fun.At _ g2 0 f p := ⟨Mem.of_get b8, h0⟩
  obtain ⟨a0, y, a2, a1, c7, c6⟩ := o.get
  have c9 : MemN _ _ _ _ _ := ⟨rfl, o.1⟩
  have c8 := o.2
  have a5 : MemN _ _ _ _ _ := ⟨rfl, a0.1⟩
  have a4 := a0.2
  have a3 : MemN _ _ _ _ _ := ⟨rfl, y.1⟩
  have a6 := y.2
  clear t a8 a9 b0 b5 d3 d0 d1 d4 b1 b2 b3 b4
  have t : Fun.At _ g3 0 k q := ⟨Mem.of_get c0, h1⟩
  obtain ⟨a8, a9, b0, b5, d3, d0⟩ := t.get
  have d1 : MemN _ _ _ _ _ := ⟨rfl, t.1⟩
  have d4 := t.2
  have b1 : MemN _ _ _ _ _ := ⟨rfl, a8.1⟩
  have b2 := a8.2
  have b3 : MemN _ _ _ _ _ := ⟨rfl, a9.1⟩
  have b4 := a9.2
  clear d7
  have d7 := d2.inn
  have e0 := d6.inn
  refine .call0 rfl rfl rfl rfl rfl @Try.call24 rfl (specCommaArrows_c) ?_
  rintro _ o6 ⟨h4, a32, r32, rfl, d9⟩
  have nx_H32 := h4.1
  replace w := w.trans h4
  replace b8 := h4.2 _ _ b8
  replace c0 := h4.2 _ _ c0
  replace a := Keep.le a h4
  replace d2 := b6.keep a (Nat.le_refl _)
  replace b := Keep.le b h4
  replace d6 := b7.keep b (Nat.le_refl _)
  have b9 := d9
  have d : Keep r2.next o6 o6 := fun _ _ _ h => h
  replace h0 := l.mono w
  replace h1 := j.mono w
  clear o a0 y a2 a1 c7 c6 c9 c8 a5 a4 a3 a6
  have o : Fun.At _ g2 0 f p := ⟨Mem.of_get b8, h0⟩
  obtain ⟨a0, y, a2, a1, c7, c6⟩ := o.get
  have c9 : MemN _ _ _ _ _ := ⟨rfl, o.1⟩
  have c8 := o.2
  have a5 : MemN _ _ _ _ _ := ⟨rfl, a0.1⟩
  have a4 := a0.2
  have a3 : MemN _ _ _ _ _ := ⟨rfl, y.1⟩
  have a6 := y.2
  clear t a8 a9 b0 b5 d3 d0 d1 d4 b1 b2 b3 b4
  have t : Fun.At _ g3 0 k q := ⟨Mem.of_get c0, h1⟩
  obtain ⟨a8, a9, b0, b5, d3, d0⟩ := t.get
  have d1 : MemN _ _ _ _ _ := ⟨rfl, t.1⟩
  have d4 := t.2
  have b1 : MemN _ _ _ _ _ := ⟨rfl, a8.1⟩
  have b2 := a8.2
  have b3 : MemN _ _ _ _ _ := ⟨rfl, a9.1⟩
  have b4 := a9.2
  clear d7
  have d7 := d2.inn
  clear e0
  have e0 := d6.inn
  have e4 := d9.intss
  refine .mv rfl rfl (.q rfl (.extract rfl rfl) (.q rfl (.extract rfl rfl) (.mv rfl rfl (.mv rfl rfl ?_))))
  refine .done ?_
  refine k8 _ _ (.seq (fun K12 p1 => .region ?_))
  refine .q rfl (.loadM ag_41_LCommaArrows rfl ⟨rfl, Mem.of_get b8⟩) ?_
  refine .call rfl rfl rfl rfl @Try.call25 rfl (toFunctor_c) ?_
  rintro _ r9 ⟨g4, p36, rfl, f9⟩
  have nx_H36 := g4.1
  replace w := w.trans g4
  replace b8 := g4.2 _ _ b8
  replace c0 := g4.2 _ _ c0
  replace a := Keep.le a g4
  replace d2 := b6.keep a (Nat.le_refl _)
  replace b := Keep.le b g4
  replace d6 := b7.keep b (Nat.le_refl _)
  replace d := Keep.le d g4
  replace d9 := b9.keep d (Nat.le_refl _)
  have c5 := f9
  have m : Keep o6.next r9 r9 := fun _ _ _ h => h
  replace h0 := l.mono w
  replace h1 := j.mono w
  clear o a0 y a2 a1 c7 c6 c9 c8 a5 a4 a3 a6
  have o : Fun.At _ g2 0 f p := ⟨Mem.of_get b8, h0⟩
  obtain ⟨a0, y, a2, a1, c7, c6⟩ := o.get
  have c9 : MemN _ _ _ _ _ := ⟨rfl, o.1⟩
  have c8 := o.2
  have a5 : MemN _ _ _ _ _ := ⟨rfl, a0.1⟩
  have a4 := a0.2
  have a3 : MemN _ _ _ _ _ := ⟨rfl, y.1⟩
  have a6 := y.2
  clear t a8 a9 b0 b5 d3 d0 d1 d4 b1 b2 b3 b4
  have t : Fun.At _ g3 0 k q := ⟨Mem.of_get c0, h1⟩
  obtain ⟨a8, a9, b0, b5, d3, d0⟩ := t.get
  have d1 : MemN _ _ _ _ _ := ⟨rfl, t.1⟩
  have d4 := t.2
  have b1 : MemN _ _ _ _ _ := ⟨rfl, a8.1⟩
  have b2 := a8.2
  have b3 : MemN _ _ _ _ _ := ⟨rfl, a9.1⟩
  have b4 := a9.2
  clear d7
  have d7 := d2.inn
  clear e0
  have e0 := d6.inn
  clear e4
  have e4 := d9.intss
  have g0 := f9.inn
  refine .R rfl (.allocR rfl ze_33_E rfl) ?_
  rintro _ H8 ⟨g8, rfl, i4, ge8, s6⟩
  have nx_H8 := i4.1
  replace w := w.trans i4
  replace b8 := i4.2 _ _ b8
  replace c0 := i4.2 _ _ c0
  replace a := Keep.le a i4
  replace d2 := b6.keep a (Nat.le_refl _)
  replace b := Keep.le b i4
  replace d6 := b7.keep b (Nat.le_refl _)
  replace d := Keep.le d i4
  replace d9 := b9.keep d (Nat.le_refl _)
  replace m := Keep.le m i4
  replace f9 := c5.keep m (Nat.le_refl _)
  have lt_at8 := GHeap.ltg s6
  replace h0 := l.mono w
  replace h1 := j.mono w
  clear o a0 y a2 a1 c7 c6 c9 c8 a5 a4 a3 a6
  have o : Fun.At _ g2 0 f p := ⟨Mem.of_get b8, h0⟩
  obtain ⟨a0, y, a2, a1, c7, c6⟩ := o.get
  have c9 : MemN _ _ _ _ _ := ⟨rfl, o.1⟩
  have c8 := o.2
  have a5 : MemN _ _ _ _ _ := ⟨rfl, a0.1⟩
  have a4 := a0.2
  have a3 : MemN _ _ _ _ _ := ⟨rfl, y.1⟩
  have a6 := y.2
  clear t a8 a9 b0 b5 d3 d0 d1 d4 b1 b2 b3 b4
  have t : Fun.At _ g3 0 k q := ⟨Mem.of_get c0, h1⟩
  obtain ⟨a8, a9, b0, b5, d3, d0⟩ := t.get
  have d1 : MemN _ _ _ _ _ := ⟨rfl, t.1⟩
  have d4 := t.2
  have b1 : MemN _ _ _ _ _ := ⟨rfl, a8.1⟩
  have b2 := a8.2
  have b3 : MemN _ _ _ _ _ := ⟨rfl, a9.1⟩
  have b4 := a9.2
  clear d7
  have d7 := d2.inn
  clear e0
  have e0 := d6.inn
  clear e4
  have e4 := d9.intss
  clear g0
  have g0 := f9.inn
  refine .r0 rfl rfl (.fillA rfl sz_33_E rfl rfl rfl rfl) ?_
  rintro _ k0 ⟨rfl, d5, e⟩
  have nx_H9003 := d5.nx
  replace w := w.st d5 (fun k hk => ⟨by omega, trivial⟩)
  replace b8 := d5.s b8
  replace c0 := d5.s c0
  replace a := Keep.st a d5 (fun k hb hk => ⟨by omega, trivial⟩)
  replace d2 := b6.keep a (Nat.le_refl _)
  replace b := Keep.st b d5 (fun k hb hk => ⟨by omega, trivial⟩)
  replace d6 := b7.keep b (Nat.le_refl _)
  replace d := Keep.st d d5 (fun k hb hk => ⟨by omega, trivial⟩)
  replace d9 := b9.keep d (Nat.le_refl _)
  replace m := Keep.st m d5 (fun k hb hk => ⟨by omega, trivial⟩)
  replace f9 := c5.keep m (Nat.le_refl _)
  have lt_at9003 := GHeap.ltg e
  replace h0 := l.mono w
  replace h1 := j.mono w
  clear o a0 y a2 a1 c7 c6 c9 c8 a5 a4 a3 a6
  have o : Fun.At _ g2 0 f p := ⟨Mem.of_get b8, h0⟩
  obtain ⟨a0, y, a2, a1, c7, c6⟩ := o.get
  have c9 : MemN _ _ _ _ _ := ⟨rfl, o.1⟩
  have c8 := o.2
  have a5 : MemN _ _ _ _ _ := ⟨rfl, a0.1⟩
  have a4 := a0.2
  have a3 : MemN _ _ _ _ _ := ⟨rfl, y.1⟩
  have a6 := y.2
  clear t a8 a9 b0 b5 d3 d0 d1 d4 b1 b2 b3 b4
  have t : Fun.At _ g3 0 k q := ⟨Mem.of_get c0, h1⟩
  obtain ⟨a8, a9, b0, b5, d3, d0⟩ := t.get
  have d1 : MemN _ _ _ _ _ := ⟨rfl, t.1⟩
  have d4 := t.2
  have b1 : MemN _ _ _ _ _ := ⟨rfl, a8.1⟩
  have b2 := a8.2
  have b3 : MemN _ _ _ _ _ := ⟨rfl, a9.1⟩
  have b4 := a9.2
  clear d7
  have d7 := d2.inn
  clear e0
  have e0 := d6.inn
  clear e4
  have e4 := d9.intss
  clear g0
  have g0 := f9.inn
  have n : MemN _ _ _ _ _ := ⟨rfl, Mem.of_get e⟩
  refine .nil (p1 _ _ (.seq (fun K13 p7 => .region ?_)))
  refine .q rfl (.loadM ag_41_LCommaArrows rfl ⟨rfl, Mem.of_get c0⟩) ?_
  refine .call rfl rfl rfl rfl @Try.call25 rfl (toFunctor_c) ?_
  rintro _ r6 ⟨f6, p38, rfl, h3⟩
  have nx_H38 := f6.1
  replace w := w.trans f6
  replace b8 := f6.2 _ _ b8
  replace c0 := f6.2 _ _ c0
  replace e := f6.2 _ _ e
  replace a := Keep.le a f6
  replace d2 := b6.keep a (Nat.le_refl _)
  replace b := Keep.le b f6
  replace d6 := b7.keep b (Nat.le_refl _)
  replace d := Keep.le d f6
  replace d9 := b9.keep d (Nat.le_refl _)
  replace m := Keep.le m f6
  replace f9 := c5.keep m (Nat.le_refl _)
  have e1 := h3
  have x : Keep k0.next r6 r6 := fun _ _ _ h => h
  replace h0 := l.mono w
  replace h1 := j.mono w
  clear o a0 y a2 a1 c7 c6 c9 c8 a5 a4 a3 a6
  have o : Fun.At _ g2 0 f p := ⟨Mem.of_get b8, h0⟩
  obtain ⟨a0, y, a2, a1, c7, c6⟩ := o.get
  have c9 : MemN _ _ _ _ _ := ⟨rfl, o.1⟩
  have c8 := o.2
  have a5 : MemN _ _ _ _ _ := ⟨rfl, a0.1⟩
  have a4 := a0.2
  have a3 : MemN _ _ _ _ _ := ⟨rfl, y.1⟩
  have a6 := y.2
  clear t a8 a9 b0 b5 d3 d0 d1 d4 b1 b2 b3 b4
  have t : Fun.At _ g3 0 k q := ⟨Mem.of_get c0, h1⟩
  obtain ⟨a8, a9, b0, b5, d3, d0⟩ := t.get
  have d1 : MemN _ _ _ _ _ := ⟨rfl, t.1⟩
  have d4 := t.2
  have b1 : MemN _ _ _ _ _ := ⟨rfl, a8.1⟩
  have b2 := a8.2
  have b3 : MemN _ _ _ _ _ := ⟨rfl, a9.1⟩
  have b4 := a9.2
  clear d7
  have d7 := d2.inn
  clear e0
  have e0 := d6.inn
  clear e4
  have e4 := d9.intss
  clear g0
  have g0 := f9.inn
  clear n
  have n : MemN _ _ _ _ _ := ⟨rfl, Mem.of_get e⟩
  have h6 := h3.inn
  refine .R rfl (.allocR rfl ze_33_E rfl) ?_
  rintro _ H9 ⟨g9, rfl, i1, ge9, s7⟩
  have nx_H9 := i1.1
  replace w := w.trans i1
  replace b8 := i1.2 _ _ b8
  replace c0 := i1.2 _ _ c0
  replace e := i1.2 _ _ e
  replace a := Keep.le a i1
  replace d2 := b6.keep a (Nat.le_refl _)
  replace b := Keep.le b i1
  replace d6 := b7.keep b (Nat.le_refl _)
  replace d := Keep.le d i1
  replace d9 := b9.keep d (Nat.le_refl _)
  replace m := Keep.le m i1
  replace f9 := c5.keep m (Nat.le_refl _)
  replace x := Keep.le x i1
  replace h3 := e1.keep x (Nat.le_refl _)
  have lt_at9 := GHeap.ltg s7
  replace h0 := l.mono w
  replace h1 := j.mono w
  clear o a0 y a2 a1 c7 c6 c9 c8 a5 a4 a3 a6
  have o : Fun.At _ g2 0 f p := ⟨Mem.of_get b8, h0⟩
  obtain ⟨a0, y, a2, a1, c7, c6⟩ := o.get
  have c9 : MemN _ _ _ _ _ := ⟨rfl, o.1⟩
  have c8 := o.2
  have a5 : MemN _ _ _ _ _ := ⟨rfl, a0.1⟩
  have a4 := a0.2
  have a3 : MemN _ _ _ _ _ := ⟨rfl, y.1⟩
  have a6 := y.2
  clear t a8 a9 b0 b5 d3 d0 d1 d4 b1 b2 b3 b4
  have t : Fun.At _ g3 0 k q := ⟨Mem.of_get c0, h1⟩
  obtain ⟨a8, a9, b0, b5, d3, d0⟩ := t.get
  have d1 : MemN _ _ _ _ _ := ⟨rfl, t.1⟩
  have d4 := t.2
  have b1 : MemN _ _ _ _ _ := ⟨rfl, a8.1⟩
  have b2 := a8.2
  have b3 : MemN _ _ _ _ _ := ⟨rfl, a9.1⟩
  have b4 := a9.2
  clear d7
  have d7 := d2.inn
  clear e0
  have e0 := d6.inn
  clear e4
  have e4 := d9.intss
  clear g0
  have g0 := f9.inn
  clear n
  have n : MemN _ _ _ _ _ := ⟨rfl, Mem.of_get e⟩
  clear h6
  have h6 := h3.inn
  refine .r0 rfl rfl (.fillA rfl sz_33_E rfl rfl rfl rfl) ?_
  rintro _ g6 ⟨rfl, c2, g⟩
  have nx_H10003 := c2.nx
  replace w := w.st c2 (fun k hk => ⟨by omega, trivial⟩)
  replace b8 := c2.s b8
  replace c0 := c2.s c0
  replace e := c2.s e
  replace a := Keep.st a c2 (fun k hb hk => ⟨by omega, trivial⟩)
  replace d2 := b6.keep a (Nat.le_refl _)
  replace b := Keep.st b c2 (fun k hb hk => ⟨by omega, trivial⟩)
  replace d6 := b7.keep b (Nat.le_refl _)
  replace d := Keep.st d c2 (fun k hb hk => ⟨by omega, trivial⟩)
  replace d9 := b9.keep d (Nat.le_refl _)
  replace m := Keep.st m c2 (fun k hb hk => ⟨by omega, trivial⟩)
  replace f9 := c5.keep m (Nat.le_refl _)
  replace x := Keep.st x c2 (fun k hb hk => ⟨by omega, trivial⟩)
  replace h3 := e1.keep x (Nat.le_refl _)
  have lt_at10003 := GHeap.ltg g
  replace h0 := l.mono w
  replace h1 := j.mono w
  clear o a0 y a2 a1 c7 c6 c9 c8 a5 a4 a3 a6
  have o : Fun.At _ g2 0 f p := ⟨Mem.of_get b8, h0⟩
  obtain ⟨a0, y, a2, a1, c7, c6⟩ := o.get
  have c9 : MemN _ _ _ _ _ := ⟨rfl, o.1⟩
  have c8 := o.2
  have a5 : MemN _ _ _ _ _ := ⟨rfl, a0.1⟩
  have a4 := a0.2
  have a3 : MemN _ _ _ _ _ := ⟨rfl, y.1⟩
  have a6 := y.2
  clear t a8 a9 b0 b5 d3 d0 d1 d4 b1 b2 b3 b4
  have t : Fun.At _ g3 0 k q := ⟨Mem.of_get c0, h1⟩
  obtain ⟨a8, a9, b0, b5, d3, d0⟩ := t.get
  have d1 : MemN _ _ _ _ _ := ⟨rfl, t.1⟩
  have d4 := t.2
  have b1 : MemN _ _ _ _ _ := ⟨rfl, a8.1⟩
  have b2 := a8.2
  have b3 : MemN _ _ _ _ _ := ⟨rfl, a9.1⟩
  have b4 := a9.2
  clear d7
  have d7 := d2.inn
  clear e0
  have e0 := d6.inn
  clear e4
  have e4 := d9.intss
  clear g0
  have g0 := f9.inn
  clear n
  have n : MemN _ _ _ _ _ := ⟨rfl, Mem.of_get e⟩
  clear h6
  have h6 := h3.inn
  have r : MemN _ _ _ _ _ := ⟨rfl, Mem.of_get g⟩
  refine .nil (p7 _ _ (.seq (fun K14 n5 => .region ?_)))
  refine .q rfl (.loadM ag_33_E rfl ⟨rfl, Mem.of_get e⟩) ?_
  refine .q rfl (.loadM ag_33_E rfl ⟨rfl, Mem.of_get g⟩) ?_
  refine .call rfl rfl rfl rfl @Try.call26 rfl (implCommaArrows_c) ?_
  rintro _ q4 ⟨f5, a42, r42, rfl, h8⟩
  have nx_H42 := f5.1
  replace w := w.trans f5
  replace b8 := f5.2 _ _ b8
  replace c0 := f5.2 _ _ c0
  replace e := f5.2 _ _ e
  replace g := f5.2 _ _ g
  replace a := Keep.le a f5
  replace d2 := b6.keep a (Nat.le_refl _)
  replace b := Keep.le b f5
  replace d6 := b7.keep b (Nat.le_refl _)
  replace d := Keep.le d f5
  replace d9 := b9.keep d (Nat.le_refl _)
  replace m := Keep.le m f5
  replace f9 := c5.keep m (Nat.le_refl _)
  replace x := Keep.le x f5
  replace h3 := e1.keep x (Nat.le_refl _)
  have f4 := h8
  have c1 : Keep g6.next q4 q4 := fun _ _ _ h => h
  replace h0 := l.mono w
  replace h1 := j.mono w
  clear o a0 y a2 a1 c7 c6 c9 c8 a5 a4 a3 a6
  have o : Fun.At _ g2 0 f p := ⟨Mem.of_get b8, h0⟩
  obtain ⟨a0, y, a2, a1, c7, c6⟩ := o.get
  have c9 : MemN _ _ _ _ _ := ⟨rfl, o.1⟩
  have c8 := o.2
  have a5 : MemN _ _ _ _ _ := ⟨rfl, a0.1⟩
  have a4 := a0.2
  have a3 : MemN _ _ _ _ _ := ⟨rfl, y.1⟩
  have a6 := y.2
  clear t a8 a9 b0 b5 d3 d0 d1 d4 b1 b2 b3 b4
  have t : Fun.At _ g3 0 k q := ⟨Mem.of_get c0, h1⟩
  obtain ⟨a8, a9, b0, b5, d3, d0⟩ := t.get
  have d1 : MemN _ _ _ _ _ := ⟨rfl, t.1⟩
  have d4 := t.2
  have b1 : MemN _ _ _ _ _ := ⟨rfl, a8.1⟩
  have b2 := a8.2
  have b3 : MemN _ _ _ _ _ := ⟨rfl, a9.1⟩
  have b4 := a9.2
  clear d7
  have d7 := d2.inn
  clear e0
  have e0 := d6.inn
  clear e4
  have e4 := d9.intss
  clear g0
  have g0 := f9.inn
  clear n
  have n : MemN _ _ _ _ _ := ⟨rfl, Mem.of_get e⟩
  clear h6
  have h6 := h3.inn
  clear r
  have r : MemN _ _ _ _ _ := ⟨rfl, Mem.of_get g⟩
  have i5 := h8.intss
  refine .mv rfl (.q rfl (.extract rfl rfl) (.q rfl (.extract rfl rfl) (.mv rfl (.mv rfl (.nil (n5 _ _ (.seq (fun K15 q7 => .seq (fun K16 j7 => .region (.mv rfl (.mv rfl ?_)))))))))))
  refine .callQ rfl rfl rfl rfl @Try.call27 rfl (eqInt64SS_c) ?_
  refine .q rfl (.not rfl) (.mv rfl ?_)
  refine .split (fun k7 => ?_) (fun k7 => ?_)
  ·
   try simp only [sps] at k7
   refine .z rfl (.z rfl (.z rfl (.q rfl (.pickT rfl rfl) (.nil (j7 _ _ ?_)))))
   refine .condT rfl ?_
   refine .seq (fun K17 o0 => .region (.mv rfl (.nil (o0 _ _ ?_))))
   refine .ret ?_
   refine d8 _ _ ?_
   refine ⟨_, rfl, ?_⟩
   first
   | exact rfl
   | exact absurd trivial (by assumption)
   | contradiction
   | (exfalso; omega)
  try simp only [sps] at k7
  refine .qg rfl (.move rfl) (.qg rfl (.move rfl) (.qg rfl (.cmp rfl rfl rfl) (.q rfl (.pickF rfl rfl) (.nil (j7 _ _ ?_)))))
  refine .cond rfl (fun m7 => ?_) (fun m7 => ?_)
  ·
   try simp only [sps] at m7
   refine .seq (fun K18 p3 => .region (.mv rfl (.nil (p3 _ _ ?_))))
   refine .ret ?_
   refine d8 _ _ ?_
   refine ⟨_, rfl, ?_⟩
   first
   | exact rfl
   | exact absurd trivial (by assumption)
   | contradiction
   | (exfalso; omega)
  try simp only [sps] at m7
  refine .skip ?_
  refine q7 _ _ (.seq (fun K19 l7 => .seq (fun K20 q0 => ?_)))
  refine .regionD mo_B (.q 0 (.q 1 (.c 2 1 (.c 3 0 (.q 4 (.done)))))) (by kernel_rfl) ?_
  refine .q rfl (.loadM ag_33_E rfl ⟨rfl, Mem.of_get e⟩) ?_
  refine .q rfl (.loadM ag_41_LCommaArrows rfl ⟨rfl, Mem.of_get b8⟩) ?_
  refine .call1 rfl rfl rfl rfl rfl @Try.call25 rfl (toFunctor_c) ?_
  rintro _ m8 ⟨e8, p56, rfl, g1⟩
  have j1 := e8
  refine ⟨j1, ?_⟩
  have nx_H56 := e8.1
  replace w := w.trans e8
  replace b8 := e8.2 _ _ b8
  replace c0 := e8.2 _ _ c0
  replace e := e8.2 _ _ e
  replace g := e8.2 _ _ g
  replace a := Keep.le a e8
  replace d2 := b6.keep a (Nat.le_refl _)
  replace b := Keep.le b e8
  replace d6 := b7.keep b (Nat.le_refl _)
  replace d := Keep.le d e8
  replace d9 := b9.keep d (Nat.le_refl _)
  replace m := Keep.le m e8
  replace f9 := c5.keep m (Nat.le_refl _)
  replace x := Keep.le x e8
  replace h3 := e1.keep x (Nat.le_refl _)
  replace c1 := Keep.le c1 e8
  replace h8 := f4.keep c1 (Nat.le_refl _)
  have e3 := g1
  have u : Keep q4.next m8 m8 := fun _ _ _ h => h
  replace h0 := l.mono w
  replace h1 := j.mono w
  clear o a0 y a2 a1 c7 c6 c9 c8 a5 a4 a3 a6
  have o : Fun.At _ g2 0 f p := ⟨Mem.of_get b8, h0⟩
  obtain ⟨a0, y, a2, a1, c7, c6⟩ := o.get
  have c9 : MemN _ _ _ _ _ := ⟨rfl, o.1⟩
  have c8 := o.2
  have a5 : MemN _ _ _ _ _ := ⟨rfl, a0.1⟩
  have a4 := a0.2
  have a3 : MemN _ _ _ _ _ := ⟨rfl, y.1⟩
  have a6 := y.2
  clear t a8 a9 b0 b5 d3 d0 d1 d4 b1 b2 b3 b4
  have t : Fun.At _ g3 0 k q := ⟨Mem.of_get c0, h1⟩
  obtain ⟨a8, a9, b0, b5, d3, d0⟩ := t.get
  have d1 : MemN _ _ _ _ _ := ⟨rfl, t.1⟩
  have d4 := t.2
  have b1 : MemN _ _ _ _ _ := ⟨rfl, a8.1⟩
  have b2 := a8.2
  have b3 : MemN _ _ _ _ _ := ⟨rfl, a9.1⟩
  have b4 := a9.2
  clear d7
  have d7 := d2.inn
  clear e0
  have e0 := d6.inn
  clear e4
  have e4 := d9.intss
  clear g0
  have g0 := f9.inn
  clear n
  have n : MemN _ _ _ _ _ := ⟨rfl, Mem.of_get e⟩
  clear h6
  have h6 := h3.inn
  clear r
  have r : MemN _ _ _ _ _ := ⟨rfl, Mem.of_get g⟩
  clear i5
  have i5 := h8.intss
  have g7 := g1.inn
  refine .callQ0 rfl rfl rfl rfl rfl @Try.call28 rfl (eqFunctor_c) ?_
  refine .q rfl (.not rfl) ?_
  refine .done ?_
  refine q0 _ _ ?_
  refine .cond rfl (fun l8 => ?_) (fun l8 => ?_)
  ·
   try simp only [sps] at l8
   refine .seq (fun K21 p9 => .region (.mv rfl (.nil (p9 _ _ ?_))))
   refine .ret ?_
   refine d8 _ _ ?_
   refine ⟨_, rfl, ?_⟩
   first
   | exact rfl
   | exact absurd trivial (by assumption)
   | contradiction
   | (exfalso; omega)
  try simp only [sps] at l8
  refine .skip ?_
  refine l7 _ _ (.seq (fun K22 k6 => .seq (fun K23 q3 => ?_)))
  refine .regionD mo_B (.q 0 (.q 1 (.c 2 1 (.c 3 0 (.q 4 (.done)))))) (by kernel_rfl) ?_
  refine .q rfl (.loadM ag_33_E rfl ⟨rfl, Mem.of_get g⟩) ?_
  refine .q rfl (.loadM ag_41_LCommaArrows rfl ⟨rfl, Mem.of_get c0⟩) ?_
  refine .call1 rfl rfl rfl rfl rfl @Try.call25 rfl (toFunctor_c) ?_
  rintro _ r3 ⟨e5, p61, rfl, h2⟩
  have j1 := e5
  refine ⟨j1, ?_⟩
  have nx_H61 := e5.1
  replace w := w.trans e5
  replace b8 := e5.2 _ _ b8
  replace c0 := e5.2 _ _ c0
  replace e := e5.2 _ _ e
  replace g := e5.2 _ _ g
  replace a := Keep.le a e5
  replace d2 := b6.keep a (Nat.le_refl _)
  replace b := Keep.le b e5
  replace d6 := b7.keep b (Nat.le_refl _)
  replace d := Keep.le d e5
  replace d9 := b9.keep d (Nat.le_refl _)
  replace m := Keep.le m e5
  replace f9 := c5.keep m (Nat.le_refl _)
  replace x := Keep.le x e5
  replace h3 := e1.keep x (Nat.le_refl _)
  replace c1 := Keep.le c1 e5
  replace h8 := f4.keep c1 (Nat.le_refl _)
  replace u := Keep.le u e5
  replace g1 := e3.keep u (Nat.le_refl _)
  have f1 := h2
  have a7 : Keep m8.next r3 r3 := fun _ _ _ h => h
  replace h0 := l.mono w
  replace h1 := j.mono w
  clear o a0 y a2 a1 c7 c6 c9 c8 a5 a4 a3 a6
  have o : Fun.At _ g2 0 f p := ⟨Mem.of_get b8, h0⟩
  obtain ⟨a0, y, a2, a1, c7, c6⟩ := o.get
  have c9 : MemN _ _ _ _ _ := ⟨rfl, o.1⟩
  have c8 := o.2
  have a5 : MemN _ _ _ _ _ := ⟨rfl, a0.1⟩
  have a4 := a0.2
  have a3 : MemN _ _ _ _ _ := ⟨rfl, y.1⟩
  have a6 := y.2
  clear t a8 a9 b0 b5 d3 d0 d1 d4 b1 b2 b3 b4
  have t : Fun.At _ g3 0 k q := ⟨Mem.of_get c0, h1⟩
  obtain ⟨a8, a9, b0, b5, d3, d0⟩ := t.get
  have d1 : MemN _ _ _ _ _ := ⟨rfl, t.1⟩
  have d4 := t.2
  have b1 : MemN _ _ _ _ _ := ⟨rfl, a8.1⟩
  have b2 := a8.2
  have b3 : MemN _ _ _ _ _ := ⟨rfl, a9.1⟩
  have b4 := a9.2
  clear d7
  have d7 := d2.inn
  clear e0
  have e0 := d6.inn
  clear e4
  have e4 := d9.intss
  clear g0
  have g0 := f9.inn
  clear n
  have n : MemN _ _ _ _ _ := ⟨rfl, Mem.of_get e⟩
  clear h6
  have h6 := h3.inn
  clear r
  have r : MemN _ _ _ _ _ := ⟨rfl, Mem.of_get g⟩
  clear i5
  have i5 := h8.intss
  clear g7
  have g7 := g1.inn
  have h5 := h2.inn
  refine .callQ0 rfl rfl rfl rfl rfl @Try.call28 rfl (eqFunctor_c) ?_
  refine .q rfl (.not rfl) ?_
  refine .done ?_
  refine q3 _ _ ?_
  refine .cond rfl (fun o2 => ?_) (fun o2 => ?_)
  ·
   try simp only [sps] at o2
   refine .seq (fun K24 n4 => .region (.mv rfl (.nil (n4 _ _ ?_))))
   refine .ret ?_
   refine d8 _ _ ?_
   refine ⟨_, rfl, ?_⟩
   first
   | exact rfl
   | exact absurd trivial (by assumption)
   | contradiction
   | (exfalso; omega)
  try simp only [sps] at o2
  refine .skip ?_
  refine k6 _ _ (.seq (fun K25 q8 => .region (.mv rfl (.nil (q8 _ _ (.seq (fun K26 n1 => .region ?_)))))))
  refine .q rfl (.loadM ag_33_E rfl ⟨rfl, Mem.of_get e⟩) ?_
  refine .mv rfl ?_
  have w_v36 := FunW.of_at c5 m
  refine .call rfl rfl rfl rfl @Try.call29 rfl (markFunctor_c) ?_
  rintro _ H66 ⟨rfl, o8⟩
  have e9 := o8.stm
  have nx_H66 := e9.nx
  replace w := StM.le_left w e9 (by omega)
  replace b8 := e9.same _ _ (by omega) b8
  replace c0 := e9.same _ _ (by omega) c0
  replace e := e9.same _ _ (by omega) e
  replace g := e9.same _ _ (by omega) g
  replace a := Keep.stM a e9 (fun k hb hk => by omega)
  replace d2 := b6.keep a (Nat.le_refl _)
  replace b := Keep.stM b e9 (fun k hb hk => by omega)
  replace d6 := b7.keep b (Nat.le_refl _)
  replace d := Keep.stM d e9 (fun k hb hk => by omega)
  replace d9 := b9.keep d (Nat.le_refl _)
  replace x := Keep.stM x e9 (fun k hb hk => by omega)
  replace h3 := e1.keep x (Nat.le_refl _)
  replace c1 := Keep.stM c1 e9 (fun k hb hk => by omega)
  replace h8 := f4.keep c1 (Nat.le_refl _)
  replace u := Keep.stM u e9 (fun k hb hk => by omega)
  replace g1 := e3.keep u (Nat.le_refl _)
  replace a7 := Keep.stM a7 e9 (fun k hb hk => by omega)
  replace h2 := f1.keep a7 (Nat.le_refl _)
  replace h0 := l.mono w
  replace h1 := j.mono w
  clear o a0 y a2 a1 c7 c6 c9 c8 a5 a4 a3 a6
  have o : Fun.At _ g2 0 f p := ⟨Mem.of_get b8, h0⟩
  obtain ⟨a0, y, a2, a1, c7, c6⟩ := o.get
  have c9 : MemN _ _ _ _ _ := ⟨rfl, o.1⟩
  have c8 := o.2
  have a5 : MemN _ _ _ _ _ := ⟨rfl, a0.1⟩
  have a4 := a0.2
  have a3 : MemN _ _ _ _ _ := ⟨rfl, y.1⟩
  have a6 := y.2
  clear t a8 a9 b0 b5 d3 d0 d1 d4 b1 b2 b3 b4
  have t : Fun.At _ g3 0 k q := ⟨Mem.of_get c0, h1⟩
  obtain ⟨a8, a9, b0, b5, d3, d0⟩ := t.get
  have d1 : MemN _ _ _ _ _ := ⟨rfl, t.1⟩
  have d4 := t.2
  have b1 : MemN _ _ _ _ _ := ⟨rfl, a8.1⟩
  have b2 := a8.2
  have b3 : MemN _ _ _ _ _ := ⟨rfl, a9.1⟩
  have b4 := a9.2
  clear d7
  have d7 := d2.inn
  clear e0
  have e0 := d6.inn
  clear e4
  have e4 := d9.intss
  clear n
  have n : MemN _ _ _ _ _ := ⟨rfl, Mem.of_get e⟩
  clear h6
  have h6 := h3.inn
  clear r
  have r : MemN _ _ _ _ _ := ⟨rfl, Mem.of_get g⟩
  clear i5
  have i5 := h8.intss
  clear g7
  have g7 := g1.inn
  clear h5
  have h5 := h2.inn
  refine .mv rfl (.nil (n1 _ _ (.seq (fun K27 m1 => .region ?_))))
  refine .q rfl (.loadM ag_33_E rfl ⟨rfl, Mem.of_get g⟩) ?_
  refine .mv rfl ?_
  have w_v38 := FunW.of_at e1 x
  refine .call rfl rfl rfl rfl @Try.call29 rfl (markFunctor_c) ?_
  rintro _ H69 ⟨rfl, n0⟩
  have f2 := n0.stm
  have nx_H69 := f2.nx
  replace w := StM.le_left w f2 (by omega)
  replace b8 := f2.same _ _ (by omega) b8
  replace c0 := f2.same _ _ (by omega) c0
  replace e := f2.same _ _ (by omega) e
  replace g := f2.same _ _ (by omega) g
  replace a := Keep.stM a f2 (fun k hb hk => by omega)
  replace d2 := b6.keep a (Nat.le_refl _)
  replace b := Keep.stM b f2 (fun k hb hk => by omega)
  replace d6 := b7.keep b (Nat.le_refl _)
  replace d := Keep.stM d f2 (fun k hb hk => by omega)
  replace d9 := b9.keep d (Nat.le_refl _)
  replace c1 := Keep.stM c1 f2 (fun k hb hk => by omega)
  replace h8 := f4.keep c1 (Nat.le_refl _)
  replace u := Keep.stM u f2 (fun k hb hk => by omega)
  replace g1 := e3.keep u (Nat.le_refl _)
  replace a7 := Keep.stM a7 f2 (fun k hb hk => by omega)
  replace h2 := f1.keep a7 (Nat.le_refl _)
  replace h0 := l.mono w
  replace h1 := j.mono w
  clear o a0 y a2 a1 c7 c6 c9 c8 a5 a4 a3 a6
  have o : Fun.At _ g2 0 f p := ⟨Mem.of_get b8, h0⟩
  obtain ⟨a0, y, a2, a1, c7, c6⟩ := o.get
  have c9 : MemN _ _ _ _ _ := ⟨rfl, o.1⟩
  have c8 := o.2
  have a5 : MemN _ _ _ _ _ := ⟨rfl, a0.1⟩
  have a4 := a0.2
  have a3 : MemN _ _ _ _ _ := ⟨rfl, y.1⟩
  have a6 := y.2
  clear t a8 a9 b0 b5 d3 d0 d1 d4 b1 b2 b3 b4
  have t : Fun.At _ g3 0 k q := ⟨Mem.of_get c0, h1⟩
  obtain ⟨a8, a9, b0, b5, d3, d0⟩ := t.get
  have d1 : MemN _ _ _ _ _ := ⟨rfl, t.1⟩
  have d4 := t.2
  have b1 : MemN _ _ _ _ _ := ⟨rfl, a8.1⟩
  have b2 := a8.2
  have b3 : MemN _ _ _ _ _ := ⟨rfl, a9.1⟩
  have b4 := a9.2
  clear d7
  have d7 := d2.inn
  clear e0
  have e0 := d6.inn
  clear e4
  have e4 := d9.intss
  clear n
  have n : MemN _ _ _ _ _ := ⟨rfl, Mem.of_get e⟩
  clear r
  have r : MemN _ _ _ _ _ := ⟨rfl, Mem.of_get g⟩
  clear i5
  have i5 := h8.intss
  clear g7
  have g7 := g1.inn
  clear h5
  have h5 := h2.inn
  refine .mv rfl (.nil (m1 _ _ (.seq (fun K28 m5 => .seq (fun K29 j0 => .region (.mv rfl (.q rfl (.cmp rfl rfl rfl) (.mv rfl ?_))))))))
  refine .split (fun m3 => ?_) (fun m3 => ?_)
  ·
   try simp only [sps] at m3
   refine .z rfl (.z rfl (.z rfl (.z rfl (.q rfl (.pickT rfl rfl) (.mv rfl (.z rfl (.z rfl (.z rfl (.q rfl (.pickT rfl rfl) (.nil (j0 _ _ ?_)))))))))))
   refine .condT rfl ?_
   refine .seq (fun K30 n9 => .region (.mv rfl (.nil (n9 _ _ ?_))))
   refine .ret ?_
   refine d8 _ _ ?_
   refine ⟨_, rfl, ?_⟩
   first
   | exact rfl
   | exact absurd trivial (by assumption)
   | contradiction
   | (exfalso; omega)
  try simp only [sps] at m3
  refine .qg rfl (.move rfl) (.qg rfl (.move rfl) ?_)
  refine .callQg rfl rfl rfl rfl rfl rfl @Try.call27 rfl (eqInt64SS_c) ?_
  refine .qg rfl (.not rfl) (.q rfl (.pickF rfl rfl) (.mv rfl ?_))
  refine .split (fun p0 => ?_) (fun p0 => ?_)
  ·
   try simp only [sps] at p0
   refine .z rfl (.z rfl (.z rfl (.q rfl (.pickT rfl rfl) (.nil (j0 _ _ ?_)))))
   refine .condT rfl ?_
   refine .seq (fun K31 l6 => .region (.mv rfl (.nil (l6 _ _ ?_))))
   refine .ret ?_
   refine d8 _ _ ?_
   refine ⟨_, rfl, ?_⟩
   first
   | exact rfl
   | exact absurd trivial (by assumption)
   | contradiction
   | (exfalso; omega)
  try simp only [sps] at p0
  refine .qg rfl (.move rfl) (.qg rfl (.move rfl) (.qg rfl (.cmp rfl rfl rfl) (.q rfl (.pickF rfl rfl) (.nil (j0 _ _ ?_)))))
  refine .cond rfl (fun l0 => ?_) (fun l0 => ?_)
  ·
   try simp only [sps] at l0
   refine .seq (fun K32 q9 => .region (.mv rfl (.nil (q9 _ _ ?_))))
   refine .ret ?_
   refine d8 _ _ ?_
   refine ⟨_, rfl, ?_⟩
   first
   | exact rfl
   | exact absurd trivial (by assumption)
   | contradiction
   | (exfalso; omega)
  try simp only [sps] at l0
  refine .skip ?_
  refine m5 _ _ (.seq (fun K33 q6 => .region (.mv rfl (.nil (q6 _ _ (.seq (fun K34 m2 => .region (.mv rfl (.mv rfl ?_)))))))))
  have k1 := IntssW.of_r f4 c1
  refine .call rfl rfl rfl rfl @Try.call30 rfl (markInt64SS_c) ?_
  rintro _ j6 ⟨rfl, j5⟩
  have f3 := j5.stm
  have nx_H85 := f3.nx
  replace w := StM.le_left w f3 (by omega)
  replace b8 := f3.same _ _ (by omega) b8
  replace c0 := f3.same _ _ (by omega) c0
  replace e := f3.same _ _ (by omega) e
  replace g := f3.same _ _ (by omega) g
  replace a := Keep.stM a f3 (fun k hb hk => by omega)
  replace d2 := b6.keep a (Nat.le_refl _)
  replace b := Keep.stM b f3 (fun k hb hk => by omega)
  replace d6 := b7.keep b (Nat.le_refl _)
  replace d := Keep.stM d f3 (fun k hb hk => by omega)
  replace d9 := b9.keep d (Nat.le_refl _)
  replace u := Keep.stM u f3 (fun k hb hk => by omega)
  replace g1 := e3.keep u (Nat.le_refl _)
  replace a7 := Keep.stM a7 f3 (fun k hb hk => by omega)
  replace h2 := f1.keep a7 (Nat.le_refl _)
  replace h0 := l.mono w
  replace h1 := j.mono w
  clear o a0 y a2 a1 c7 c6 c9 c8 a5 a4 a3 a6
  have o : Fun.At _ g2 0 f p := ⟨Mem.of_get b8, h0⟩
  obtain ⟨a0, y, a2, a1, c7, c6⟩ := o.get
  have c9 : MemN _ _ _ _ _ := ⟨rfl, o.1⟩
  have c8 := o.2
  have a5 : MemN _ _ _ _ _ := ⟨rfl, a0.1⟩
  have a4 := a0.2
  have a3 : MemN _ _ _ _ _ := ⟨rfl, y.1⟩
  have a6 := y.2
  clear t a8 a9 b0 b5 d3 d0 d1 d4 b1 b2 b3 b4
  have t : Fun.At _ g3 0 k q := ⟨Mem.of_get c0, h1⟩
  obtain ⟨a8, a9, b0, b5, d3, d0⟩ := t.get
  have d1 : MemN _ _ _ _ _ := ⟨rfl, t.1⟩
  have d4 := t.2
  have b1 : MemN _ _ _ _ _ := ⟨rfl, a8.1⟩
  have b2 := a8.2
  have b3 : MemN _ _ _ _ _ := ⟨rfl, a9.1⟩
  have b4 := a9.2
  clear d7
  have d7 := d2.inn
  clear e0
  have e0 := d6.inn
  clear e4
  have e4 := d9.intss
  clear n
  have n : MemN _ _ _ _ _ := ⟨rfl, Mem.of_get e⟩
  clear r
  have r : MemN _ _ _ _ _ := ⟨rfl, Mem.of_get g⟩
  clear g7
  have g7 := g1.inn
  clear h5
  have h5 := h2.inn
  have i3 := j5.held (h8.2)
  have i2 := k1.stm f3
  have f7 := i3
  have c4 : Keep g6.next j6 j6 := fun _ _ _ h => h
  have f8 := i2
  have c3 : Keep g6.next j6 j6 := fun _ _ _ h => h
  refine .mv rfl (.nil (m2 _ _ (.seq (fun K35 l2 => .region (.mv rfl (.nil (l2 _ _ (.seq (fun K36 l1 => .region (.mv rfl (.mv rfl ?_)))))))))))
  refine .callQ rfl rfl rfl rfl @Try.call31 rfl (heldInt64SSw_c) ?_
  refine .mv rfl (.nil (l1 _ _ (.seq (fun K37 n2 => .seq (fun K38 m9 => .region (.mv rfl (.q rfl (.cmp rfl rfl rfl) (.nil (m9 _ _ ?_)))))))))
  refine .cond rfl (fun l9 => ?_) (fun l9 => ?_)
  ·
   try simp only [sps] at l9
   refine .seq (fun K39 l5 => .region (.mv rfl (.nil (l5 _ _ ?_))))
   refine .ret ?_
   refine d8 _ _ ?_
   refine ⟨_, rfl, ?_⟩
   first
   | exact rfl
   | exact absurd trivial (by assumption)
   | contradiction
   | (exfalso; omega)
  try simp only [sps] at l9
  refine .skip ?_
  refine n2 _ _ (.seq (fun K40 p2 => .seq (fun K41 q2 => .region (.mv rfl (.mv rfl (.q rfl (.cmp rfl rfl rfl) (.nil (q2 _ _ ?_))))))))
  refine .cond rfl (fun o4 => ?_) (fun o4 => ?_)
  ·
   try simp only [sps] at o4
   refine .seq (fun K42 n6 => .region (.mv rfl (.nil (n6 _ _ ?_))))
   refine .ret ?_
   refine d8 _ _ ?_
   refine ⟨_, rfl, ?_⟩
   first
   | exact rfl
   | exact absurd trivial (by assumption)
   | contradiction
   | (exfalso; omega)
  try simp only [sps] at o4
  refine .skip ?_
  refine p2 _ _ (.seq (fun K43 q1 => ?_))
  refine .regionD mo_B (.q 0 (.q 2 (.c 1 1 (.c 3 0 (.c 4 0 (.q 5 (.q 6 (.q 7 (.q 8 (.q 9 (.done))))))))))) (by kernel_rfl) ?_
  refine .q rfl (.loadM ag_41_LCommaArrows rfl ⟨rfl, Mem.of_get b8⟩) ?_
  refine .q rfl (.loadM ag_41_LCommaArrows rfl ⟨rfl, Mem.of_get c0⟩) ?_
  refine .call1 rfl rfl rfl rfl rfl @Try.call25 rfl (toFunctor_c) ?_
  rintro _ p8 ⟨e6, p96, rfl, j3⟩
  have j1 := e6
  refine ⟨j1, ?_⟩
  have nx_H96 := e6.1
  replace w := w.trans e6
  replace b8 := e6.2 _ _ b8
  replace c0 := e6.2 _ _ c0
  replace e := e6.2 _ _ e
  replace g := e6.2 _ _ g
  replace a := Keep.le a e6
  replace d2 := b6.keep a (Nat.le_refl _)
  replace b := Keep.le b e6
  replace d6 := b7.keep b (Nat.le_refl _)
  replace d := Keep.le d e6
  replace d9 := b9.keep d (Nat.le_refl _)
  replace u := Keep.le u e6
  replace g1 := e3.keep u (Nat.le_refl _)
  replace a7 := Keep.le a7 e6
  replace h2 := f1.keep a7 (Nat.le_refl _)
  replace c4 := Keep.le c4 e6
  replace i3 := f7.keep c4 (Nat.le_refl _)
  replace c3 := Keep.le c3 e6
  replace i2 := f8.keep c3 (Nat.le_refl _)
  have h9 := j3
  have f0 : Keep j6.next p8 p8 := fun _ _ _ h => h
  replace h0 := l.mono w
  replace h1 := j.mono w
  clear o a0 y a2 a1 c7 c6 c9 c8 a5 a4 a3 a6
  have o : Fun.At _ g2 0 f p := ⟨Mem.of_get b8, h0⟩
  obtain ⟨a0, y, a2, a1, c7, c6⟩ := o.get
  have c9 : MemN _ _ _ _ _ := ⟨rfl, o.1⟩
  have c8 := o.2
  have a5 : MemN _ _ _ _ _ := ⟨rfl, a0.1⟩
  have a4 := a0.2
  have a3 : MemN _ _ _ _ _ := ⟨rfl, y.1⟩
  have a6 := y.2
  clear t a8 a9 b0 b5 d3 d0 d1 d4 b1 b2 b3 b4
  have t : Fun.At _ g3 0 k q := ⟨Mem.of_get c0, h1⟩
  obtain ⟨a8, a9, b0, b5, d3, d0⟩ := t.get
  have d1 : MemN _ _ _ _ _ := ⟨rfl, t.1⟩
  have d4 := t.2
  have b1 : MemN _ _ _ _ _ := ⟨rfl, a8.1⟩
  have b2 := a8.2
  have b3 : MemN _ _ _ _ _ := ⟨rfl, a9.1⟩
  have b4 := a9.2
  clear d7
  have d7 := d2.inn
  clear e0
  have e0 := d6.inn
  clear e4
  have e4 := d9.intss
  clear n
  have n : MemN _ _ _ _ _ := ⟨rfl, Mem.of_get e⟩
  clear r
  have r : MemN _ _ _ _ _ := ⟨rfl, Mem.of_get g⟩
  clear g7
  have g7 := g1.inn
  clear h5
  have h5 := h2.inn
  have k3 := j3.inn
  refine .call0 rfl rfl rfl rfl rfl @Try.call25 rfl (toFunctor_c) ?_
  rintro _ o9 ⟨e7, p98, rfl, k2⟩
  have nx_H98 := e7.1
  replace w := w.trans e7
  replace b8 := e7.2 _ _ b8
  replace c0 := e7.2 _ _ c0
  replace e := e7.2 _ _ e
  replace g := e7.2 _ _ g
  replace a := Keep.le a e7
  replace d2 := b6.keep a (Nat.le_refl _)
  replace b := Keep.le b e7
  replace d6 := b7.keep b (Nat.le_refl _)
  replace d := Keep.le d e7
  replace d9 := b9.keep d (Nat.le_refl _)
  replace u := Keep.le u e7
  replace g1 := e3.keep u (Nat.le_refl _)
  replace a7 := Keep.le a7 e7
  replace h2 := f1.keep a7 (Nat.le_refl _)
  replace c4 := Keep.le c4 e7
  replace i3 := f7.keep c4 (Nat.le_refl _)
  replace c3 := Keep.le c3 e7
  replace i2 := f8.keep c3 (Nat.le_refl _)
  replace f0 := Keep.le f0 e7
  replace j3 := h9.keep f0 (Nat.le_refl _)
  have i7 := k2
  have g5 : Keep p8.next o9 o9 := fun _ _ _ h => h
  replace h0 := l.mono w
  replace h1 := j.mono w
  clear o a0 y a2 a1 c7 c6 c9 c8 a5 a4 a3 a6
  have o : Fun.At _ g2 0 f p := ⟨Mem.of_get b8, h0⟩
  obtain ⟨a0, y, a2, a1, c7, c6⟩ := o.get
  have c9 : MemN _ _ _ _ _ := ⟨rfl, o.1⟩
  have c8 := o.2
  have a5 : MemN _ _ _ _ _ := ⟨rfl, a0.1⟩
  have a4 := a0.2
  have a3 : MemN _ _ _ _ _ := ⟨rfl, y.1⟩
  have a6 := y.2
  clear t a8 a9 b0 b5 d3 d0 d1 d4 b1 b2 b3 b4
  have t : Fun.At _ g3 0 k q := ⟨Mem.of_get c0, h1⟩
  obtain ⟨a8, a9, b0, b5, d3, d0⟩ := t.get
  have d1 : MemN _ _ _ _ _ := ⟨rfl, t.1⟩
  have d4 := t.2
  have b1 : MemN _ _ _ _ _ := ⟨rfl, a8.1⟩
  have b2 := a8.2
  have b3 : MemN _ _ _ _ _ := ⟨rfl, a9.1⟩
  have b4 := a9.2
  clear d7
  have d7 := d2.inn
  clear e0
  have e0 := d6.inn
  clear e4
  have e4 := d9.intss
  clear n
  have n : MemN _ _ _ _ _ := ⟨rfl, Mem.of_get e⟩
  clear r
  have r : MemN _ _ _ _ _ := ⟨rfl, Mem.of_get g⟩
  clear g7
  have g7 := g1.inn
  clear h5
  have h5 := h2.inn
  clear k3
  have k3 := j3.inn
  have r8 := k2.inn
  refine .call0 rfl rfl rfl rfl rfl @Try.call26 rfl (implCommaArrows_c) ?_
  rintro _ r5 ⟨e2, a99, r99, rfl, r7⟩
  have nx_H99 := e2.1
  replace w := w.trans e2
  replace b8 := e2.2 _ _ b8
  replace c0 := e2.2 _ _ c0
  replace e := e2.2 _ _ e
  replace g := e2.2 _ _ g
  replace a := Keep.le a e2
  replace d2 := b6.keep a (Nat.le_refl _)
  replace b := Keep.le b e2
  replace d6 := b7.keep b (Nat.le_refl _)
  replace d := Keep.le d e2
  replace d9 := b9.keep d (Nat.le_refl _)
  replace u := Keep.le u e2
  replace g1 := e3.keep u (Nat.le_refl _)
  replace a7 := Keep.le a7 e2
  replace h2 := f1.keep a7 (Nat.le_refl _)
  replace c4 := Keep.le c4 e2
  replace i3 := f7.keep c4 (Nat.le_refl _)
  replace c3 := Keep.le c3 e2
  replace i2 := f8.keep c3 (Nat.le_refl _)
  replace f0 := Keep.le f0 e2
  replace j3 := h9.keep f0 (Nat.le_refl _)
  replace g5 := Keep.le g5 e2
  replace k2 := i7.keep g5 (Nat.le_refl _)
  have bs_v99 := r7
  have lv_v99 : Keep o9.next r5 r5 := fun _ _ _ h => h
  replace h0 := l.mono w
  replace h1 := j.mono w
  clear o a0 y a2 a1 c7 c6 c9 c8 a5 a4 a3 a6
  have o : Fun.At _ g2 0 f p := ⟨Mem.of_get b8, h0⟩
  obtain ⟨a0, y, a2, a1, c7, c6⟩ := o.get
  have c9 : MemN _ _ _ _ _ := ⟨rfl, o.1⟩
  have c8 := o.2
  have a5 : MemN _ _ _ _ _ := ⟨rfl, a0.1⟩
  have a4 := a0.2
  have a3 : MemN _ _ _ _ _ := ⟨rfl, y.1⟩
  have a6 := y.2
  clear t a8 a9 b0 b5 d3 d0 d1 d4 b1 b2 b3 b4
  have t : Fun.At _ g3 0 k q := ⟨Mem.of_get c0, h1⟩
  obtain ⟨a8, a9, b0, b5, d3, d0⟩ := t.get
  have d1 : MemN _ _ _ _ _ := ⟨rfl, t.1⟩
  have d4 := t.2
  have b1 : MemN _ _ _ _ _ := ⟨rfl, a8.1⟩
  have b2 := a8.2
  have b3 : MemN _ _ _ _ _ := ⟨rfl, a9.1⟩
  have b4 := a9.2
  clear d7
  have d7 := d2.inn
  clear e0
  have e0 := d6.inn
  clear e4
  have e4 := d9.intss
  clear n
  have n : MemN _ _ _ _ _ := ⟨rfl, Mem.of_get e⟩
  clear r
  have r : MemN _ _ _ _ _ := ⟨rfl, Mem.of_get g⟩
  clear g7
  have g7 := g1.inn
  clear h5
  have h5 := h2.inn
  clear k3
  have k3 := j3.inn
  clear r8
  have r8 := k2.inn
  have i99 := r7.intss
  refine .mv rfl rfl (.q rfl (.extract rfl rfl) (.q rfl (.extract rfl rfl) (.mv rfl rfl (.mv rfl rfl ?_))))
  refine .done ?_
  refine q1 _ _ (.seq (fun K44 p4 => .seq (fun K45 j8 => .region (.mv rfl (.mv rfl ?_)))))
  refine .callQ rfl rfl rfl rfl @Try.call27 rfl (eqInt64SS_c) ?_
  refine .q rfl (.not rfl) (.mv rfl ?_)
  refine .split (fun i8 => ?_) (fun i8 => ?_)
  ·
   try simp only [sps] at i8
   refine .z rfl (.z rfl (.z rfl (.q rfl (.pickT rfl rfl) (.nil (j8 _ _ ?_)))))
   refine .condT rfl ?_
   refine .seq (fun K46 l4 => .region (.mv rfl (.nil (l4 _ _ ?_))))
   refine .ret ?_
   refine d8 _ _ ?_
   refine ⟨_, rfl, ?_⟩
   first
   | exact rfl
   | exact absurd trivial (by assumption)
   | contradiction
   | (exfalso; omega)
  try simp only [sps] at i8
  refine .qg rfl (.move rfl) (.qg rfl (.move rfl) (.qg rfl (.cmp rfl rfl rfl) (.q rfl (.pickF rfl rfl) (.nil (j8 _ _ ?_)))))
  refine .cond rfl (fun j2 => ?_) (fun j2 => ?_)
  ·
   try simp only [sps] at j2
   refine .seq (fun K47 o1 => .region (.mv rfl (.nil (o1 _ _ ?_))))
   refine .ret ?_
   refine d8 _ _ ?_
   refine ⟨_, rfl, ?_⟩
   first
   | exact rfl
   | exact absurd trivial (by assumption)
   | contradiction
   | (exfalso; omega)
  try simp only [sps] at j2
  refine .skip ?_
  refine p4 _ _ (.seq (fun K48 p5 => .region (.mv rfl (.nil (p5 _ _ (.seq (fun K49 o7 => .region (.mv rfl (.mv rfl ?_)))))))))
  refine .callQ rfl rfl rfl rfl @Try.call31 rfl (heldInt64SSw_c) ?_
  refine .mv rfl (.nil (o7 _ _ (.seq (fun K50 k4 => .seq (fun K51 m4 => .region (.mv rfl (.q rfl (.cmp rfl rfl rfl) (.nil (m4 _ _ ?_)))))))))
  refine .cond rfl (fun i9 => ?_) (fun i9 => ?_)
  ·
   try simp only [sps] at i9
   refine .seq (fun K52 o3 => .region (.mv rfl (.nil (o3 _ _ ?_))))
   refine .ret ?_
   refine d8 _ _ ?_
   refine ⟨_, rfl, ?_⟩
   first
   | exact rfl
   | exact absurd trivial (by assumption)
   | contradiction
   | (exfalso; omega)
  try simp only [sps] at i9
  refine .skip ?_
  refine k4 _ _ (.seq (fun K53 n7 => .seq (fun K54 n3 => .region (.mv rfl (.mv rfl (.q rfl (.cmp rfl rfl rfl) (.nil (n3 _ _ ?_))))))))
  refine .cond rfl (fun i6 => ?_) (fun i6 => ?_)
  ·
   try simp only [sps] at i6
   refine .seq (fun K55 k5 => .region (.mv rfl (.nil (k5 _ _ ?_))))
   refine .ret ?_
   refine d8 _ _ ?_
   refine ⟨_, rfl, ?_⟩
   first
   | exact rfl
   | exact absurd trivial (by assumption)
   | contradiction
   | (exfalso; omega)
  try simp only [sps] at i6
  refine .skip ?_
  refine n7 _ _ (.seq (fun K56 q5 => .region (.mv rfl (.nil (q5 _ _ ?_)))))
  refine .ret ?_
  refine d8 _ _ ?_
  refine ⟨_, rfl, ?_⟩
  first
  | exact rfl
  | exact absurd trivial (by assumption)
  | contradiction
  | (exfalso; omega)
end Go.Proofs.Ytiooclghkafokaa
