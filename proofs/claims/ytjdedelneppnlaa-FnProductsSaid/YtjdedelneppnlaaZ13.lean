/- Categories that often have limits, drawn; hom sets. No condition but those of each statement. -/
import Derived.Test.YtjdedelneppnlaaZ12
namespace Go.Proofs.Ytjdedelneppnlaa
open Go Go.GL Go.RowKit Go.Proofs
set_option maxHeartbeats 8000000 in
theorem l12Target_c {gS : Nat} {H : GHeap} (hs : DSrc 120 H gS := by assumption) :
    GCalls Try.prog 101 [.pointer (some ⟨gS, 0, none⟩)] H (DrawnCat 120 33000 gS H) := by
  have hlS := hs.lt
  refine GCalls.body (N := 25) (rs := [.cell 2 29]) Try.func101 rfl rfl rfl rfl (fun Qx b2 hend => ?_)
  refine .fg [0] rfl ?_
  have b := St.refl [gS] H
  refine .seq (fun K1 f7 => .region ?_)
  refine .R rfl (.allocR rfl ze_29_Hj rfl) ?_
  rintro _ H2 ⟨g2, rfl, d2, ge2, e⟩
  have nx_H2 := d2.1
  replace b := b.le d2
  have lt_at2 := GHeap.ltg e
  refine .nil (f7 _ _ (.seq (fun K2 e8 => .seq (fun K3 f6 => .region (.mv rfl ?_)))))
  refine .call rfl rfl rfl rfl @Try.call70 rfl (l01Next_c (hs.le d2)) ?_
  rintro _ H4 ⟨k4, rfl, ka4, kb4, kc4, c4, hs⟩
  have nx_H4 := c4.nx
  replace b := b.sA c4
  have m : NE g2 gS := .a
  replace e := c4.s e m.ne
  refine .nil (f6 _ _ ?_)
  refine .block ?_
  refine .seq (fun K4 e2 => .region (.q rfl (.cmp rfl rfl rfl) (.mv rfl (.nil (e2 _ _ ?_)))))
  refine .cond rfl (fun h5 => ?_) (fun h5 => ?_)
  ·
   try simp only [sps] at h5
   refine .seq (fun K5 e1 => .region ?_)
   refine .R rfl (.litA rfl sl_22_A ze_2_L rfl rfl rfl rfl) ?_
   rintro _ H7 ⟨g7, rfl, c3, ge7, a3⟩
   have nx_H7 := c3.1
   replace b := b.le c3
   replace hs := hs.le c3
   replace e := c3.2 _ _ e
   have lt_at7 := GHeap.ltg a3
   refine .R rfl (.litA rfl sl_22_A ze_2_L rfl rfl rfl rfl) ?_
   rintro _ H8 ⟨g8, rfl, b9, ge8, a7⟩
   have nx_H8 := b9.1
   replace b := b.le b9
   replace hs := hs.le b9
   replace e := b9.2 _ _ e
   replace a3 := b9.2 _ _ a3
   have lt_at8 := GHeap.ltg a7
   refine .R rfl (.litA rfl sl_22_A ze_2_L rfl rfl rfl rfl) ?_
   rintro _ H9 ⟨g9, rfl, b8, ge9, a9⟩
   have nx_H9 := b8.1
   replace b := b.le b8
   replace hs := hs.le b8
   replace e := b8.2 _ _ e
   replace a3 := b8.2 _ _ a3
   replace a7 := b8.2 _ _ a7
   have lt_at9 := GHeap.ltg a9
   refine .R rfl (.litA rfl sl_22_A ze_2_L rfl rfl rfl rfl) ?_
   rintro _ H10 ⟨f8, rfl, y, ge10, p⟩
   have nx_H10 := y.1
   replace b := b.le y
   replace hs := hs.le y
   replace e := y.2 _ _ e
   replace a3 := y.2 _ _ a3
   replace a7 := y.2 _ _ a7
   replace a9 := y.2 _ _ a9
   have lt_at10 := GHeap.ltg p
   refine .R rfl (.litA rfl sl_23_B ze_22_Hj rfl rfl rfl rfl) ?_
   rintro _ g3 ⟨g11, rfl, n, ge11, a5⟩
   have nx_H11 := n.1
   replace b := b.le n
   replace hs := hs.le n
   replace e := n.2 _ _ e
   replace a3 := n.2 _ _ a3
   replace a7 := n.2 _ _ a7
   replace a9 := n.2 _ _ a9
   replace p := n.2 _ _ p
   have lt_at11 := GHeap.ltg a5
   refine .call rfl rfl rfl rfl @Try.call71 rfl ((by have hh := l03Poset_c (rel := [[1, 1, 1, 1], [0, 1, 0, 1], [0, 0, 1, 1], [0, 0, 0, 1]]) (hin := ((lit_own (gs := [g7, g8, g9, f8]) (by simp only [LitAt]; exact ⟨⟨Nat.zero_le _, a3⟩, ⟨Nat.zero_le _, a7⟩, ⟨Nat.zero_le _, a9⟩, ⟨Nat.zero_le _, p⟩, trivial⟩) (by simp <;> omega)).done (by exact a5) (Nat.zero_le _)).intss) (hn := by decide) (hr := by decide); exact hh)) ?_
   rintro _ e0 ⟨g4, c6, l, ga12, gb12, gc12, gd12, rr12, rfl, e5⟩
   have c0 := e5.catR
   have nx_H12 := l.1
   replace b := b.le l
   replace hs := hs.le l
   replace e := l.2 _ _ e
   replace a3 := l.2 _ _ a3
   replace a7 := l.2 _ _ a7
   replace a9 := l.2 _ _ a9
   replace p := l.2 _ _ p
   replace a5 := l.2 _ _ a5
   have b7 := c0
   have a0 : Keep g3.next e0 e0 := fun _ _ _ h => h
   have d4 := c0.inn
   refine .r0 rfl rfl (.fillA rfl sz_29_D rfl rfl rfl rfl) ?_
   rintro _ H3006 ⟨rfl, c, z⟩
   have nx_H3006 := c.nx
   replace b := b.sA c
   replace hs := hs.sA c
   replace a3 := c.s a3
   replace a7 := c.s a7
   replace a9 := c.s a9
   replace p := c.s p
   replace a5 := c.s a5
   replace a0 := Keep.st a0 c (fun k hb hk => ⟨(by omega), trivial⟩)
   replace c0 := b7.keep a0 (Nat.le_refl _)
   have lt_at3006 := GHeap.ltg z
   clear d4
   have d4 := c0.inn
   have mm3006 : MemN _ _ _ _ _ := ⟨rfl, Mem.of_get z⟩
   refine .nil (e1 _ _ ?_)
   refine .ret ?_
   refine b2 _ _ ?_
   refine ⟨_, _, _, _, rfl, ag_29_D, (by rfl), (Mem.of_get z), ?_⟩
   exact ⟨g4, _, rfl, c6.mono (by decide), c0.keep (.of_le (.refl _)) (by omega), b, hs⟩
  try simp only [sps] at h5
  refine .seq (fun K6 f0 => .region (.q rfl (.cmp rfl rfl rfl) (.mv rfl (.nil (f0 _ _ ?_)))))
  refine .cond rfl (fun d0 => ?_) (fun d0 => ?_)
  ·
   try simp only [sps] at d0
   refine .seq (fun K7 f9 => .region ?_)
   refine .R rfl (.litA rfl sl_22_A ze_2_L rfl rfl rfl rfl) ?_
   rintro _ H15 ⟨e6, rfl, b0, ge15, f⟩
   have nx_H15 := b0.1
   replace b := b.le b0
   replace hs := hs.le b0
   replace e := b0.2 _ _ e
   have lt_at15 := GHeap.ltg f
   refine .R rfl (.litA rfl sl_22_A ze_2_L rfl rfl rfl rfl) ?_
   rintro _ H16 ⟨e7, rfl, a8, ge16, g⟩
   have nx_H16 := a8.1
   replace b := b.le a8
   replace hs := hs.le a8
   replace e := a8.2 _ _ e
   replace f := a8.2 _ _ f
   have lt_at16 := GHeap.ltg g
   refine .R rfl (.litA rfl sl_22_A ze_2_L rfl rfl rfl rfl) ?_
   rintro _ H17 ⟨e9, rfl, a4, ge17, r⟩
   have nx_H17 := a4.1
   replace b := b.le a4
   replace hs := hs.le a4
   replace e := a4.2 _ _ e
   replace f := a4.2 _ _ f
   replace g := a4.2 _ _ g
   have lt_at17 := GHeap.ltg r
   refine .R rfl (.litA rfl sl_23_B ze_22_Hj rfl rfl rfl rfl) ?_
   rintro _ g0 ⟨g18, rfl, t, ge18, a6⟩
   have nx_H18 := t.1
   replace b := b.le t
   replace hs := hs.le t
   replace e := t.2 _ _ e
   replace f := t.2 _ _ f
   replace g := t.2 _ _ g
   replace r := t.2 _ _ r
   have lt_at18 := GHeap.ltg a6
   refine .call rfl rfl rfl rfl @Try.call71 rfl ((by have hh := l03Poset_c (rel := [[1, 1, 1], [0, 1, 1], [0, 0, 1]]) (hin := ((lit_own (gs := [e6, e7, e9]) (by simp only [LitAt]; exact ⟨⟨Nat.zero_le _, f⟩, ⟨Nat.zero_le _, g⟩, ⟨Nat.zero_le _, r⟩, trivial⟩) (by simp <;> omega)).done (by exact a6) (Nat.zero_le _)).intss) (hn := by decide) (hr := by decide); exact hh)) ?_
   rintro _ d8 ⟨e3, c9, o, ga19, gb19, gc19, gd19, rr19, rfl, g1⟩
   have c1 := g1.catR
   have nx_H19 := o.1
   replace b := b.le o
   replace hs := hs.le o
   replace e := o.2 _ _ e
   replace f := o.2 _ _ f
   replace g := o.2 _ _ g
   replace r := o.2 _ _ r
   replace a6 := o.2 _ _ a6
   have b6 := c1
   have v : Keep g0.next d8 d8 := fun _ _ _ h => h
   have d5 := c1.inn
   refine .r0 rfl rfl (.fillA rfl sz_29_D rfl rfl rfl rfl) ?_
   rintro _ H5005 ⟨rfl, d, a2⟩
   have nx_H5005 := d.nx
   replace b := b.sA d
   replace hs := hs.sA d
   replace f := d.s f
   replace g := d.s g
   replace r := d.s r
   replace a6 := d.s a6
   replace v := Keep.st v d (fun k hb hk => ⟨(by omega), trivial⟩)
   replace c1 := b6.keep v (Nat.le_refl _)
   have lt_at5005 := GHeap.ltg a2
   clear d5
   have d5 := c1.inn
   have mm5005 : MemN _ _ _ _ _ := ⟨rfl, Mem.of_get a2⟩
   refine .nil (f9 _ _ ?_)
   refine .ret ?_
   refine b2 _ _ ?_
   refine ⟨_, _, _, _, rfl, ag_29_D, (by rfl), (Mem.of_get a2), ?_⟩
   exact ⟨e3, _, rfl, c9.mono (by decide), c1.keep (.of_le (.refl _)) (by omega), b, hs⟩
  try simp only [sps] at d0
  refine .seq (fun K8 f1 => .region (.q rfl (.cmp rfl rfl rfl) (.mv rfl (.nil (f1 _ _ ?_)))))
  refine .cond rfl (fun d1 => ?_) (fun d1 => ?_)
  ·
   try simp only [sps] at d1
   refine .seq (fun K9 f3 => .region ?_)
   refine .call rfl rfl rfl rfl @Try.call131 rfl (l02Split_c) ?_
   rintro _ d9 ⟨e4, c7, b1, ga22, gb22, gc22, gd22, rr22, rfl, f4⟩
   have c2 := f4.catR
   have nx_H22 := b1.1
   replace b := b.le b1
   replace hs := hs.le b1
   replace e := b1.2 _ _ e
   have b5 := c2
   have a1 : Keep H4.next d9 d9 := fun _ _ _ h => h
   have d7 := c2.inn
   refine .r0 rfl rfl (.fillA rfl sz_29_D rfl rfl rfl rfl) ?_
   rintro _ H7001 ⟨rfl, i, u⟩
   have nx_H7001 := i.nx
   replace b := b.sA i
   replace hs := hs.sA i
   replace a1 := Keep.st a1 i (fun k hb hk => ⟨(by omega), trivial⟩)
   replace c2 := b5.keep a1 (Nat.le_refl _)
   have lt_at7001 := GHeap.ltg u
   clear d7
   have d7 := c2.inn
   have mm7001 : MemN _ _ _ _ _ := ⟨rfl, Mem.of_get u⟩
   refine .nil (f3 _ _ ?_)
   refine .ret ?_
   refine b2 _ _ ?_
   refine ⟨_, _, _, _, rfl, ag_29_D, (by rfl), (Mem.of_get u), ?_⟩
   exact ⟨e4, _, rfl, c7.mono (by omega), c2.keep (.of_le (.refl _)) (by omega), b, hs⟩
  try simp only [sps] at d1
  refine .skip ?_
  refine e8 _ _ (.seq (fun K10 c8 => .region (.mv rfl ?_)))
  refine .call rfl rfl rfl rfl @Try.call115 rfl (l02Some_c) ?_
  rintro _ d6 ⟨f2, f5, rfl, d3, c5, b4, hs⟩
  have nx_H24 := b4.nx
  replace b := b.sA b4
  replace e := b4.s e m.ne
  have b3 := c5
  have x : Keep H4.next d6 d6 := fun _ _ _ h => h
  refine .r0 rfl rfl (.fillA rfl sz_29_D rfl rfl rfl rfl) ?_
  rintro _ H8002 ⟨rfl, j, w⟩
  have nx_H8002 := j.nx
  replace b := b.sA j
  replace hs := hs.sA j
  replace x := Keep.st x j (fun k hb hk => ⟨(by omega), trivial⟩)
  replace c5 := b3.keep x (Nat.le_refl _)
  have lt_at8002 := GHeap.ltg w
  have mm8002 : MemN _ _ _ _ _ := ⟨rfl, Mem.of_get w⟩
  refine .nil (c8 _ _ ?_)
  refine .ret ?_
  refine b2 _ _ ?_
  refine ⟨_, _, _, _, rfl, ag_29_D, (by rfl), (Mem.of_get w), ?_⟩
  exact ⟨f2, f5, rfl, d3, c5.keep (.of_le (.refl _)) (by omega), b, hs⟩
set_option maxHeartbeats 8000000 in
theorem l13Draw_c {gS : Nat} {H : GHeap} (hs : DSrc 120 H gS := by assumption) :
    GCalls Try.prog 52 [.pointer (some ⟨gS, 0, none⟩)] H (DrawnK 120 gS H) := by
  have hlS := hs.lt
  refine GCalls.body (N := 19) (rs := [.cell 2 29]) Try.func52 rfl rfl rfl rfl (fun Qx a5 hend => ?_)
  refine .fg [0] rfl ?_
  have f := St.refl [gS] H
  refine .seq (fun K1 e5 => .region ?_)
  refine .R rfl (.allocR rfl ze_29_Hj rfl) ?_
  rintro _ H2 ⟨g2, rfl, c4, ge2, a4⟩
  have nx_H2 := c4.1
  replace f := f.le c4
  have lt_at2 := GHeap.ltg a4
  refine .nil (e5 _ _ (.seq (fun K2 d9 => .region ?_)))
  have hs := hs.le c4
  refine .mv rfl ?_
  refine .call rfl rfl rfl rfl @Try.call101 rfl (l12Target_c) ?_
  rintro _ H5 ⟨c5, p5, rfl, a6, v5, c2, hs⟩
  have nx_H5 := c2.nx
  replace f := f.sA c2
  have u : NE g2 gS := .a
  replace a4 := c2.s a4 u.ne
  have g := v5
  have c : Keep H2.next H5 H5 := fun _ _ _ h => h
  have i5 := v5.inn
  refine .R rfl (.allocR rfl ze_29_Hj rfl) ?_
  rintro _ H3 ⟨g3, rfl, b7, ge3, d7⟩
  have nx_H3 := b7.1
  replace f := f.le b7
  replace hs := hs.le b7
  replace a4 := b7.2 _ _ a4
  replace c := Keep.le c b7
  replace v5 := g.keep c (Nat.le_refl _)
  have lt_at3 := GHeap.ltg d7
  clear i5
  have i5 := v5.inn
  refine .r0 rfl rfl (.fillA rfl sz_29_D rfl rfl rfl rfl) ?_
  rintro _ H1003 ⟨rfl, w, b⟩
  have nx_H1003 := w.nx
  replace f := f.sA w
  replace hs := hs.sA w
  have e : NE g2 g3 := .a
  replace a4 := w.s a4 e.ne
  replace c := Keep.st c w (fun k hb hk => ⟨(by omega), trivial⟩)
  replace v5 := g.keep c (Nat.le_refl _)
  have lt_at1003 := GHeap.ltg b
  clear i5
  have i5 := v5.inn
  have d : MemN _ _ _ _ _ := ⟨rfl, Mem.of_get b⟩
  refine .nil (d9 _ _ (.seq (fun K3 d2 => .seq (fun K4 d8 => .region (.mv rfl ?_)))))
  refine .call rfl rfl rfl rfl @Try.call70 rfl (l01Next_c) ?_
  rintro _ H7 ⟨k7, rfl, ka7, kb7, kc7, b8, hs⟩
  have nx_H7 := b8.nx
  replace f := f.sA b8
  replace a4 := b8.s a4 u.ne
  have a3 : NE g3 gS := .a
  replace b := b8.s b a3.ne
  replace c := Keep.st c b8 (fun k hb hk => ⟨(by omega), trivial⟩)
  replace v5 := g.keep c (Nat.le_refl _)
  clear i5
  have i5 := v5.inn
  clear d
  have d : MemN _ _ _ _ _ := ⟨rfl, Mem.of_get b⟩
  refine .nil (d8 _ _ ?_)
  refine .block ?_
  refine .seq (fun K5 d6 => .region (.q rfl (.cmp rfl rfl rfl) (.mv rfl (.nil (d6 _ _ ?_)))))
  refine .cond rfl (fun h8 => ?_) (fun h8 => ?_)
  ·
   try simp only [sps] at h8
   refine .seq (fun K6 e4 => .region (.mv rfl ?_))
   refine .call rfl rfl rfl rfl @Try.call73 rfl (l02Draw_c) ?_
   rintro _ d4 ⟨e2, e1, rfl, c7, d0, b2, hs⟩
   have nx_H11 := b2.nx
   replace f := f.sA b2
   replace a4 := b2.s a4 u.ne
   replace b := b2.s b a3.ne
   replace c := Keep.st c b2 (fun k hb hk => ⟨(by omega), trivial⟩)
   replace v5 := g.keep c (Nat.le_refl _)
   clear i5
   have i5 := v5.inn
   clear d
   have d : MemN _ _ _ _ _ := ⟨rfl, Mem.of_get b⟩
   have b5 := d0
   have b0 : Keep H7.next d4 d4 := fun _ _ _ h => h
   refine .r0 rfl rfl (.fillA rfl sz_29_D rfl rfl rfl rfl) ?_
   rintro _ H4002 ⟨rfl, r, a9⟩
   have nx_H4002 := r.nx
   replace f := f.sA r
   replace hs := hs.sA r
   replace b := r.s b (Ne.symm e.ne)
   replace c := Keep.st c r (fun k hb hk => ⟨(by omega), trivial⟩)
   replace v5 := g.keep c (Nat.le_refl _)
   replace b0 := Keep.st b0 r (fun k hb hk => ⟨(by omega), trivial⟩)
   replace d0 := b5.keep b0 (Nat.le_refl _)
   have lt_at4002 := GHeap.ltg a9
   clear i5
   have i5 := v5.inn
   clear d
   have d : MemN _ _ _ _ _ := ⟨rfl, Mem.of_get b⟩
   have mm4002 : MemN _ _ _ _ _ := ⟨rfl, Mem.of_get a9⟩
   refine .nil (e4 _ _ ?_)
   refine .ret ?_
   refine a5 _ _ ?_
   refine ⟨_, _, _, _, rfl, ag_29_D, (by rfl), (Mem.of_get a9), ?_⟩
   exact ⟨e2, e1, rfl, c7, d0.keep (.of_le (.refl _)) (by omega), f, hs⟩
  try simp only [sps] at h8
  refine .seq (fun K7 c0 => .seq (fun K8 d5 => .region (.q rfl (.cmp rfl rfl rfl) (.mv rfl (.nil (d5 _ _ ?_))))))
  refine .cond rfl (fun a1 => ?_) (fun a1 => ?_)
  ·
   try simp only [sps] at a1
   refine .skip ?_
   refine c0 _ _ ?_
   refine .cond rfl (fun a1 => ?_) (fun a1 => ?_)
   ·
    try simp only [sps] at a1
    refine .seq (fun K9 e0 => .region ?_)
    refine .q rfl (.loadM ag_29_D rfl ⟨rfl, Mem.of_get b⟩) ?_
    refine .call rfl rfl rfl rfl @Try.call43 rfl (l03Op_c (hin := i5) (hr := a6) (hN := by omega)) ?_
    rintro _ d3 ⟨b1, ga17, gb17, gc17, gd17, rr17, rfl, e3⟩
    have vO := e3.catR
    have nx_H17 := b1.1
    replace f := f.le b1
    replace hs := hs.le b1
    replace a4 := b1.2 _ _ a4
    replace b := b1.2 _ _ b
    replace c := Keep.le c b1
    replace v5 := g.keep c (Nat.le_refl _)
    have a2 := vO
    have l : Keep H7.next d3 d3 := fun _ _ _ h => h
    clear i5
    have i5 := v5.inn
    clear d
    have d : MemN _ _ _ _ _ := ⟨rfl, Mem.of_get b⟩
    have iO := vO.inn
    refine .r0 rfl rfl (.fillA rfl sz_29_D rfl rfl rfl rfl) ?_
    rintro _ H8002 ⟨rfl, t, a8⟩
    have nx_H8002 := t.nx
    replace f := f.sA t
    replace hs := hs.sA t
    replace b := t.s b (Ne.symm e.ne)
    replace c := Keep.st c t (fun k hb hk => ⟨(by omega), trivial⟩)
    replace v5 := g.keep c (Nat.le_refl _)
    replace l := Keep.st l t (fun k hb hk => ⟨(by omega), trivial⟩)
    replace vO := a2.keep l (Nat.le_refl _)
    have lt_at8002 := GHeap.ltg a8
    clear i5
    have i5 := v5.inn
    clear d
    have d : MemN _ _ _ _ _ := ⟨rfl, Mem.of_get b⟩
    clear iO
    have iO := vO.inn
    have mm8002 : MemN _ _ _ _ _ := ⟨rfl, Mem.of_get a8⟩
    refine .nil (e0 _ _ ?_)
    refine .ret ?_
    refine a5 _ _ ?_
    refine ⟨_, _, _, _, rfl, ag_29_D, (by rfl), (Mem.of_get a8), ?_⟩
    first
    | exact ⟨c5, p5, rfl, a6.small (by omega), v5.kin.keep (.of_le (.refl _)) (by omega), f, hs⟩
    | exact ⟨c5.op, _, rfl, a6.op.small (by omega), vO.kin.keep (.of_le (.refl _)) (by omega), f, hs⟩
   try simp only [sps] at a1
   refine .skip ?_
   refine d2 _ _ (.seq (fun K10 d1 => .region ?_))
   refine .q rfl (.loadM ag_29_D rfl ⟨rfl, Mem.of_get b⟩) ?_
   refine .r0 rfl rfl (.fillA rfl sz_29_D rfl rfl rfl rfl) ?_
   rintro _ H9001 ⟨rfl, z, a7⟩
   have nx_H9001 := z.nx
   replace f := f.sA z
   replace hs := hs.sA z
   replace b := z.s b (Ne.symm e.ne)
   replace c := Keep.st c z (fun k hb hk => ⟨(by omega), trivial⟩)
   replace v5 := g.keep c (Nat.le_refl _)
   have lt_at9001 := GHeap.ltg a7
   clear i5
   have i5 := v5.inn
   clear d
   have d : MemN _ _ _ _ _ := ⟨rfl, Mem.of_get b⟩
   have mm9001 : MemN _ _ _ _ _ := ⟨rfl, Mem.of_get a7⟩
   refine .nil (d1 _ _ ?_)
   refine .ret ?_
   refine a5 _ _ ?_
   refine ⟨_, _, _, _, rfl, ag_29_D, (by rfl), (Mem.of_get a7), ?_⟩
   first
   | exact ⟨c5, p5, rfl, a6.small (by omega), v5.kin.keep (.of_le (.refl _)) (by omega), f, hs⟩
   | exact ⟨c5.op, _, rfl, a6.op.small (by omega), vO.kin.keep (.of_le (.refl _)) (by omega), f, hs⟩
  try simp only [sps] at a1
  refine .seq (fun K11 c9 => .region (.q rfl (.cmp rfl rfl rfl) (.mv rfl (.nil (c9 _ _ ?_)))))
  refine .cond rfl (fun a1 => ?_) (fun a1 => ?_)
  ·
   try simp only [sps] at a1
   refine .skip ?_
   refine c0 _ _ ?_
   refine .cond rfl (fun a1 => ?_) (fun a1 => ?_)
   ·
    try simp only [sps] at a1
    refine .seq (fun K12 c8 => .region ?_)
    refine .q rfl (.loadM ag_29_D rfl ⟨rfl, Mem.of_get b⟩) ?_
    refine .call rfl rfl rfl rfl @Try.call43 rfl (l03Op_c (hin := i5) (hr := a6) (hN := by omega)) ?_
    rintro _ b4 ⟨o, ga17x2, gb17x2, gc17x2, gd17x2, rr17x2, rfl, b9⟩
    have vO := b9.catR
    have nx_H17x2 := o.1
    replace f := f.le o
    replace hs := hs.le o
    replace a4 := o.2 _ _ a4
    replace b := o.2 _ _ b
    replace c := Keep.le c o
    replace v5 := g.keep c (Nat.le_refl _)
    have a2 := vO
    have l : Keep H7.next b4 b4 := fun _ _ _ h => h
    clear i5
    have i5 := v5.inn
    clear d
    have d : MemN _ _ _ _ _ := ⟨rfl, Mem.of_get b⟩
    have iO := vO.inn
    refine .r0 rfl rfl (.fillA rfl sz_29_D rfl rfl rfl rfl) ?_
    rintro _ H8002x2 ⟨rfl, i, a0⟩
    have nx_H8002x2 := i.nx
    replace f := f.sA i
    replace hs := hs.sA i
    replace b := i.s b (Ne.symm e.ne)
    replace c := Keep.st c i (fun k hb hk => ⟨(by omega), trivial⟩)
    replace v5 := g.keep c (Nat.le_refl _)
    replace l := Keep.st l i (fun k hb hk => ⟨(by omega), trivial⟩)
    replace vO := a2.keep l (Nat.le_refl _)
    have lt_at8002x2 := GHeap.ltg a0
    clear i5
    have i5 := v5.inn
    clear d
    have d : MemN _ _ _ _ _ := ⟨rfl, Mem.of_get b⟩
    clear iO
    have iO := vO.inn
    have mm8002x2 : MemN _ _ _ _ _ := ⟨rfl, Mem.of_get a0⟩
    refine .nil (c8 _ _ ?_)
    refine .ret ?_
    refine a5 _ _ ?_
    refine ⟨_, _, _, _, rfl, ag_29_D, (by rfl), (Mem.of_get a0), ?_⟩
    first
    | exact ⟨c5, p5, rfl, a6.small (by omega), v5.kin.keep (.of_le (.refl _)) (by omega), f, hs⟩
    | exact ⟨c5.op, _, rfl, a6.op.small (by omega), vO.kin.keep (.of_le (.refl _)) (by omega), f, hs⟩
   try simp only [sps] at a1
   refine .skip ?_
   refine d2 _ _ (.seq (fun K13 c6 => .region ?_))
   refine .q rfl (.loadM ag_29_D rfl ⟨rfl, Mem.of_get b⟩) ?_
   refine .r0 rfl rfl (.fillA rfl sz_29_D rfl rfl rfl rfl) ?_
   rintro _ H9001x2 ⟨rfl, n, v⟩
   have nx_H9001x2 := n.nx
   replace f := f.sA n
   replace hs := hs.sA n
   replace b := n.s b (Ne.symm e.ne)
   replace c := Keep.st c n (fun k hb hk => ⟨(by omega), trivial⟩)
   replace v5 := g.keep c (Nat.le_refl _)
   have lt_at9001x2 := GHeap.ltg v
   clear i5
   have i5 := v5.inn
   clear d
   have d : MemN _ _ _ _ _ := ⟨rfl, Mem.of_get b⟩
   have mm9001x2 : MemN _ _ _ _ _ := ⟨rfl, Mem.of_get v⟩
   refine .nil (c6 _ _ ?_)
   refine .ret ?_
   refine a5 _ _ ?_
   refine ⟨_, _, _, _, rfl, ag_29_D, (by rfl), (Mem.of_get v), ?_⟩
   first
   | exact ⟨c5, p5, rfl, a6.small (by omega), v5.kin.keep (.of_le (.refl _)) (by omega), f, hs⟩
   | exact ⟨c5.op, _, rfl, a6.op.small (by omega), vO.kin.keep (.of_le (.refl _)) (by omega), f, hs⟩
  try simp only [sps] at a1
  refine .region (.q rfl (.cmp rfl rfl rfl) (.mv rfl (.nil (c0 _ _ ?_))))
  refine .cond rfl (fun a1 => ?_) (fun a1 => ?_)
  ·
   try simp only [sps] at a1
   refine .seq (fun K14 c1 => .region ?_)
   refine .q rfl (.loadM ag_29_D rfl ⟨rfl, Mem.of_get b⟩) ?_
   refine .call rfl rfl rfl rfl @Try.call43 rfl (l03Op_c (hin := i5) (hr := a6) (hN := by omega)) ?_
   rintro _ b3 ⟨p, ga17x3, gb17x3, gc17x3, gd17x3, rr17x3, rfl, b6⟩
   have vO := b6.catR
   have nx_H17x3 := p.1
   replace f := f.le p
   replace hs := hs.le p
   replace a4 := p.2 _ _ a4
   replace b := p.2 _ _ b
   replace c := Keep.le c p
   replace v5 := g.keep c (Nat.le_refl _)
   have a2 := vO
   have l : Keep H7.next b3 b3 := fun _ _ _ h => h
   clear i5
   have i5 := v5.inn
   clear d
   have d : MemN _ _ _ _ _ := ⟨rfl, Mem.of_get b⟩
   have iO := vO.inn
   refine .r0 rfl rfl (.fillA rfl sz_29_D rfl rfl rfl rfl) ?_
   rintro _ H8002x3 ⟨rfl, j, y⟩
   have nx_H8002x3 := j.nx
   replace f := f.sA j
   replace hs := hs.sA j
   replace b := j.s b (Ne.symm e.ne)
   replace c := Keep.st c j (fun k hb hk => ⟨(by omega), trivial⟩)
   replace v5 := g.keep c (Nat.le_refl _)
   replace l := Keep.st l j (fun k hb hk => ⟨(by omega), trivial⟩)
   replace vO := a2.keep l (Nat.le_refl _)
   have lt_at8002x3 := GHeap.ltg y
   clear i5
   have i5 := v5.inn
   clear d
   have d : MemN _ _ _ _ _ := ⟨rfl, Mem.of_get b⟩
   clear iO
   have iO := vO.inn
   have mm8002x3 : MemN _ _ _ _ _ := ⟨rfl, Mem.of_get y⟩
   refine .nil (c1 _ _ ?_)
   refine .ret ?_
   refine a5 _ _ ?_
   refine ⟨_, _, _, _, rfl, ag_29_D, (by rfl), (Mem.of_get y), ?_⟩
   first
   | exact ⟨c5, p5, rfl, a6.small (by omega), v5.kin.keep (.of_le (.refl _)) (by omega), f, hs⟩
   | exact ⟨c5.op, _, rfl, a6.op.small (by omega), vO.kin.keep (.of_le (.refl _)) (by omega), f, hs⟩
  try simp only [sps] at a1
  refine .skip ?_
  refine d2 _ _ (.seq (fun K15 c3 => .region ?_))
  refine .q rfl (.loadM ag_29_D rfl ⟨rfl, Mem.of_get b⟩) ?_
  refine .r0 rfl rfl (.fillA rfl sz_29_D rfl rfl rfl rfl) ?_
  rintro _ H9001x3 ⟨rfl, m, x⟩
  have nx_H9001x3 := m.nx
  replace f := f.sA m
  replace hs := hs.sA m
  replace b := m.s b (Ne.symm e.ne)
  replace c := Keep.st c m (fun k hb hk => ⟨(by omega), trivial⟩)
  replace v5 := g.keep c (Nat.le_refl _)
  have lt_at9001x3 := GHeap.ltg x
  clear i5
  have i5 := v5.inn
  clear d
  have d : MemN _ _ _ _ _ := ⟨rfl, Mem.of_get b⟩
  have mm9001x3 : MemN _ _ _ _ _ := ⟨rfl, Mem.of_get x⟩
  refine .nil (c3 _ _ ?_)
  refine .ret ?_
  refine a5 _ _ ?_
  refine ⟨_, _, _, _, rfl, ag_29_D, (by rfl), (Mem.of_get x), ?_⟩
  first
  | exact ⟨c5, p5, rfl, a6.small (by omega), v5.kin.keep (.of_le (.refl _)) (by omega), f, hs⟩
  | exact ⟨c5.op, _, rfl, a6.op.small (by omega), vO.kin.keep (.of_le (.refl _)) (by omega), f, hs⟩
end Go.Proofs.Ytjdedelneppnlaa
namespace Go.GL
structure RowsN (b : Nat) (H : GHeap) (r : Nat → Option Addr) (cs : List Con) (gL : Nat) : Prop where
  row : ∀ i, i < cs.length → ∃ g e, r i = some ⟨g, 0, none⟩ ∧ b ≤ g ∧ g ≠ gL ∧ H.get g = some (.row (ints (cs.getD i .z).lg) e true)
def ConsIn (T : TypeId) (b : Nat) (H : GHeap) (g : Nat) (r : Nat → Option Addr) (cs : List Con) : Prop := b ≤ g ∧ H.get g = some (.row (conV r cs) T true) ∧ ∀ i, i < cs.length → IntsAt b H (r i) (cs.getD i .z).lg
theorem flat2_get {f : Nat → List Value} (h2 : ∀ i, (f i).length = 2) : ∀ {n i j : Nat}, i < n → j < 2 → ((List.range n).flatMap f)[i * 2 + j]? = (f i)[j]?
  | 0, _, _, h, _ => by omega
  | n + 1, i, j, h, hj => by
    have hl : ∀ m, ((List.range m).flatMap f).length = m * 2 := fun m => by
      induction m with
      | zero => rfl
      | succ m ih => rw [List.range_succ, List.flatMap_append, List.length_append, ih]; simp [h2]; omega
    rw [List.range_succ, List.flatMap_append]
    by_cases e : i < n
    · rw [List.getElem?_append_left (by rw [hl]; omega)]
      exact flat2_get h2 e hj
    · obtain rfl : i = n := by omega
      rw [List.getElem?_append_right (by rw [hl]; omega), hl]
      simp
theorem conV_mem {H : GHeap} {g : Nat} {e : TypeId} {own : Bool} {r : Nat → Option Addr} {cs : List Con} (hg : H.get g = some (.row (conV r cs) e own)) {i : Nat} (hi : i < cs.length) : MemN H g (0 + (i : Int).toNat * 2) 2 ((cs.getD i .z).cells ⟨r i⟩) := by
  refine ⟨rfl, fun j v hv => ?_⟩
  have hj : j < 2 := (List.getElem?_eq_some_iff.1 hv).1
  rw [GHeap.cell_of hg, Int.toNat_natCast, Nat.zero_add]
  unfold conV
  rw [flat2_get (f := fun i => (cs.getD i .z).cells ⟨r i⟩) (fun _ => rfl) hi hj]
  exact hv
theorem Fun.cone_of_sol {d : Fun} {x : Nat} {l : List Int} (h : d.Is) (hx : (x : Int) < d.t.obj) (hl : l ∈ (d.cnet (x : Int)).sols d.ob.length) : d.Cone ⟨(x : Int), l⟩ := by
  have hg : (d.cnet (x : Int)).Good d.ob.length := by
    refine ⟨fun y v hv => ?_, fun a ha => ?_, fun a ha => ?_⟩
    · obtain ⟨_, _, _, _, rfl⟩ := Cat.mem_hom.1 hv; omega
    · have := h.arr (a := a) ha
      show (d.s.src.getD a 0).toNat < _; omega
    · have := h.arr (a := a) ha
      show (d.s.tgt.getD a 0).toNat < _; omega
  obtain ⟨h1, h2, h3⟩ := (Net.mem_sols hg).1 hl
  have hh : ∀ j, j < l.length → ∃ z : Nat, z < d.t.src.length ∧ d.t.src.getD z 0 = (x : Int) ∧ d.t.tgt.getD z 0 = d.ob.getD j 0 ∧ l.getD j 0 = z := fun j hj => Cat.mem_hom.1 (h2 j (by omega))
  refine ⟨⟨by show (0 : Int) ≤ x; omega, hx⟩, h1, fun j hj => ?_, fun j hj => ?_, fun a ha => ?_⟩
  · obtain ⟨z, z1, _, _, z4⟩ := hh j hj
    show 0 ≤ l.getD j 0 ∧ l.getD j 0 < _
    rw [z4]; omega
  · obtain ⟨z, z1, z2, z3, z4⟩ := hh j hj
    show d.t.src.getD (l.getD j 0).toNat 0 = (x : Int) ∧ d.t.tgt.getD (l.getD j 0).toNat 0 = _
    rw [z4, Int.toNat_natCast]; exact ⟨z2, z3⟩
  · exact of_decide_eq_true (h3 a ha)
theorem Fun.coneL_cone {d : Fun} (h : d.Is) : ∀ {n : Nat}, (n : Int) ≤ d.t.obj → ∀ c ∈ d.coneL n, d.Cone c
  | 0, _, c, hc => by simp [coneL] at hc
  | n + 1, hn, c, hc => by
    rw [Fun.coneL_succ, List.mem_append, List.mem_map] at hc
    rcases hc with hc | ⟨l, hl, rfl⟩
    · exact Fun.coneL_cone h (by omega) c hc
    · exact Fun.cone_of_sol h (by omega) hl
noncomputable def Fun.univ (d : Fun) (m : Con) : Bool := B (∀ i, i < (d.coneL d.t.obj.toNat).length → (d.coneMaps ((d.coneL d.t.obj.toNat).getD i .z) m).length = 1)
theorem ConsIn.sl {T : TypeId} {b g : Nat} {H : GHeap} {r : Nat → Option Addr} {cs : List Con} (h : ConsIn T b H g r cs) : SlA H (some ⟨g, 0, none⟩) (cs.length * 2) (fun i => (conV r cs).getD i (.bool false)) := SlA.of_row h.2.1 (length_conV _ _)
theorem ConsIn.mem {T : TypeId} {b g : Nat} {H : GHeap} {r : Nat → Option Addr} {cs : List Con} (h : ConsIn T b H g r cs) : ∀ i, i < cs.length → MemN H g (0 + (i : Int).toNat * 2) 2 ((cs.getD i .z).cells ⟨r i⟩) := fun _ hi => conV_mem h.2.1 hi
theorem ConsIn.inn {T : TypeId} {b g : Nat} {H : GHeap} {r : Nat → Option Addr} {cs : List Con} (h : ConsIn T b H g r cs) : ∀ i, i < cs.length → (cs.getD i .z).In H ⟨r i⟩ := fun i hi => (h.2.2 i hi).ints
theorem ConsAt.cin {T e : TypeId} {b g : Nat} {H : GHeap} {r : Nat → Option Addr} {cs : List Con} (h : ConsAt T e b H g r cs) (hb : b ≤ g) : ConsIn T b H g r cs := ⟨hb, h.hd, fun i hi => by
  obtain ⟨x, h1, h2, h3⟩ := h.rows.row i (by rw [List.length_map]; exact hi)
  have ee : (cs.map Con.lg).getD i [] = (cs.getD i .z).lg := by
    rw [List.getD_eq_getElem?_getD, List.getD_eq_getElem?_getD, List.getElem?_map, List.getElem?_eq_getElem hi]; rfl
  exact ⟨x, e, h1, h2, by rw [← ee]; exact h3⟩⟩
end Go.GL
namespace Go.GL
end Go.GL
namespace Go.GL
def ConsR (T e : TypeId) (b : Nat) (H : GHeap) (a : Option Addr) (r : Nat → Option Addr) (cs : List Con) : Prop := (cs = [] ∧ a = none) ∨ ∃ g, a = some ⟨g, 0, none⟩ ∧ b ≤ g ∧ ConsAt T e b H g r cs
theorem getD_lg {cs : List Con} {i : Nat} : (cs.map Con.lg).getD i [] = (cs.getD i .z).lg := by
  rw [List.getD_eq_getElem?_getD, List.getD_eq_getElem?_getD, List.getElem?_map]
  cases cs[i]? <;> rfl
theorem OwnL.keepK {b b' : Nat} {H H' : GHeap} {e : TypeId} {r : Nat → Option Addr} {xss : List (List Int)} (h : OwnL b H e r xss) (k : Keep b' H H') (hb : b' ≤ b) : OwnL b' H' e r xss := ⟨fun i hi => by
  obtain ⟨g, h1, h2, h3⟩ := h.row i hi
  exact ⟨g, h1, by omega, k g _ (by omega) h3⟩, h.inj⟩
theorem ConsR.keep {T e : TypeId} {b b' : Nat} {H H' : GHeap} {a : Option Addr} {r : Nat → Option Addr} {cs : List Con} (h : ConsR T e b H a r cs) (k : Keep b' H H') (hb : b' ≤ b) : ConsR T e b' H' a r cs := h.imp id fun ⟨g, h1, h2, h3⟩ => ⟨g, h1, by omega, ⟨k g _ (by omega) h3.hd, h3.rows.keepK k hb⟩⟩
structure StK (lo hi : Nat) (H H' : GHeap) : Prop where
  nx : H.next ≤ H'.next
  same : ∀ k o, ¬ (lo ≤ k ∧ k < hi) → H.get k = some o → H'.get k = some o
def conTot (cs : List Con) (j : Nat) : Nat := j + sumL ((cs.map Con.lg).take j)
structure ConsOk (cs : List Con) : Prop where
  len : cs.length ≤ 400
  sm : ∀ i, i < cs.length → (cs.getD i .z).Small
  tot : conTot cs cs.length ≤ 3600
end Go.GL
namespace Go.GL
def selL (p : Nat → Bool) (m i : Nat) : List Nat := ((List.range i).filter p).take m
theorem selL_zero (p : Nat → Bool) (m : Nat) : selL p m 0 = [] := by simp [selL]
theorem selL_cap (p : Nat → Bool) (m i : Nat) : (selL p m i).length ≤ m := by
  unfold selL
  rw [List.length_take]; omega
theorem selL_T {p : Nat → Bool} {m i : Nat} (h : (selL p m i).length < m) (hp : p i = true) : selL p m (i + 1) = selL p m i ++ [i] := by
  unfold selL at h ⊢
  rw [List.length_take] at h
  rw [List.range_succ, List.filter_append, List.filter_cons_of_pos hp, List.filter_nil, List.take_of_length_le (by rw [List.length_append, List.length_singleton]; omega), List.take_of_length_le (by omega)]
theorem selL_F {p : Nat → Bool} {m i : Nat} (hp : p i = false) : selL p m (i + 1) = selL p m i := by
  unfold selL
  rw [List.range_succ, List.filter_append, List.filter_cons_of_neg (by rw [hp]; simp), List.filter_nil, List.append_nil]
theorem selL_full {p : Nat → Bool} {m i : Nat} (h : ¬ (selL p m i).length < m) : selL p m (i + 1) = selL p m i := by
  unfold selL at h ⊢
  rw [List.length_take] at h
  rw [List.range_succ, List.filter_append, List.take_append_of_le_length (by omega)]
theorem selL_mem {p : Nat → Bool} {m i j : Nat} (h : j ∈ selL p m i) : j < i ∧ p j = true := by
  have := List.mem_filter.1 (List.mem_of_mem_take h)
  exact ⟨List.mem_range.1 this.1, this.2⟩
theorem selL_nodup (p : Nat → Bool) (m i : Nat) : (selL p m i).Nodup := List.nodup_range.sublist ((List.take_sublist _ _).trans List.filter_sublist)
theorem selL_none {p : Nat → Bool} {m i : Nat} (h : ∀ j, j < i → p j = false) : selL p m i = [] := by
  unfold selL
  rw [List.filter_eq_nil_iff.2 fun j hj => by rw [h j (List.mem_range.1 hj)]; simp]; simp
theorem selL_first {p : Nat → Bool} {i n : Nat} (hi : i < n) (h : ∀ j, j < i → p j = false) (hp : p i = true) : selL p 1 n = [i] := by
  have e : selL p 1 (i + 1) = [i] := by rw [selL_T (by rw [selL_none h]; simp) hp, selL_none h]; rfl
  obtain ⟨k, rfl⟩ := Nat.le.dest (Nat.succ_le_of_lt hi)
  clear hi
  induction k with
  | zero => exact e
  | succ k ih => rw [← Nat.add_assoc, selL_full (by rw [ih]; simp), ih]
def selV (r : Nat → Option Addr) (cs : List Con) (l : List Nat) : List Value := l.flatMap fun j => (cs.getD j .z).cells ⟨r j⟩
theorem selV_snoc {r : Nat → Option Addr} {cs : List Con} {l : List Nat} {i : Nat} : selV r cs (l ++ [i]) = selV r cs l ++ (cs.getD i .z).cells ⟨r i⟩ := by simp [selV]
@[simp] theorem length_selV (r : Nat → Option Addr) (cs : List Con) (l : List Nat) : (selV r cs l).length = l.length * 2 := by
  unfold selV
  induction l with
  | nil => rfl
  | cons x l ih => rw [List.flatMap_cons, List.length_append, ih]; simp [Con.cells]; omega
theorem range_getD (l : List Nat) : (List.range l.length).map (fun i => l.getD i 0) = l := by
  apply List.ext_getElem (by simp)
  intro i h1 h2
  simp [List.getD_eq_getElem?_getD, h2]
theorem selV_eq (r : Nat → Option Addr) (cs : List Con) (l : List Nat) : conV (fun k => r (l.getD k 0)) (l.map fun j => cs.getD j .z) = selV r cs l := by
  unfold conV selV
  conv => rhs; rw [← range_getD l]
  rw [List.flatMap_map, List.length_map]
  refine flatMap_congr' fun i hi => ?_
  have := List.mem_range.1 hi
  simp [List.getD_eq_getElem?_getD, this]
theorem OwnL.sel {b : Nat} {H : GHeap} {e : TypeId} {r : Nat → Option Addr} {cs : List Con} {l : List Nat} (h : OwnL b H e r (cs.map Con.lg)) (hn : l.Nodup) (hl : ∀ j ∈ l, j < cs.length) : OwnL b H e (fun k => r (l.getD k 0)) ((l.map fun j => cs.getD j .z).map Con.lg) := by
  have hm : ∀ k, k < ((l.map fun j => cs.getD j .z).map Con.lg).length → ∃ hk : k < l.length, l.getD k 0 = l[k] ∧ l[k] < cs.length := fun k hk => by
    rw [List.length_map, List.length_map] at hk
    exact ⟨hk, by simp [List.getD_eq_getElem?_getD, hk], hl _ (List.getElem_mem hk)⟩
  refine ⟨fun k hk => ?_, fun j k hj hk e => ?_⟩
  · obtain ⟨h1, h2, h3⟩ := hm k hk
    obtain ⟨g, g1, g2, g3⟩ := h.row l[k] (by rw [List.length_map]; exact h3)
    refine ⟨g, by rw [h2]; exact g1, g2, ?_⟩
    rw [getD_lg] at g3
    rw [getD_lg, g3, List.getD_eq_getElem?_getD (l := l.map _), List.getElem?_map, List.getElem?_eq_getElem h1]; rfl
  · obtain ⟨h1, h2, h3⟩ := hm j hj
    obtain ⟨k1, k2, k3⟩ := hm k hk
    have := h.inj l[j] l[k] (by rw [List.length_map]; exact h3) (by rw [List.length_map]; exact k3) (by rw [← h2, ← k2]; exact e)
    exact (List.getElem_inj hn).1 this
structure ConsB (T e : TypeId) (b : Nat) (H : GHeap) (g : Nat) (r : Nat → Option Addr) (cs : List Con) : Prop where
  ge : b ≤ g
  a : ConsAt T e b H g r cs
theorem ConsB.keep {T e : TypeId} {b b' g : Nat} {H H' : GHeap} {r : Nat → Option Addr} {cs : List Con} (h : ConsB T e b H g r cs) (k : Keep b' H H') (hb : b' ≤ b) : ConsB T e b' H' g r cs := ⟨by have := h.ge; omega, k g _ (by have := h.ge; omega) h.a.hd, h.a.rows.keepK k hb⟩
theorem ConsB.c {T e : TypeId} {b g : Nat} {H : GHeap} {r : Nat → Option Addr} {cs : List Con} (h : ConsB T e b H g r cs) : ConsIn T b H g r cs := h.a.cin h.ge
theorem ConsB.sl {T e : TypeId} {b g : Nat} {H : GHeap} {r : Nat → Option Addr} {cs : List Con} (h : ConsB T e b H g r cs) : SlA H (some ⟨g, 0, none⟩) (cs.length * 2) (fun i => (conV r cs).getD i (.bool false)) := h.c.sl
theorem ConsR.at0 {T e : TypeId} {b g : Nat} {H : GHeap} {r : Nat → Option Addr} {cs : List Con} (h : ConsR T e b H (some ⟨g, 0, none⟩) r cs) (hl : 0 < cs.length) : SlA H (some ⟨g, 0, none⟩) (cs.length * 2) (fun i => (conV r cs).getD i (.bool false)) ∧ MemN H g (0 + (0 : Int).toNat * 2) 2 ((cs.getD 0 .z).cells ⟨r 0⟩) ∧ IntsAt b H (r 0) (cs.getD 0 .z).lg := by
  rcases h with ⟨rfl, _⟩ | ⟨g', e1, h1, h2⟩
  · simp at hl
  · cases e1
    have hc := h2.cin h1
    exact ⟨hc.sl, hc.mem 0 hl, hc.2.2 0 hl⟩
noncomputable def Fun.limP (d : Fun) (j : Nat) : Bool := d.univ ((d.coneL d.t.obj.toNat).getD j .z)
noncomputable def Fun.selc (d : Fun) (m : Nat) : List Con := (selL d.limP m (d.coneL d.t.obj.toNat).length).map fun j => (d.coneL d.t.obj.toNat).getD j .z
theorem Fun.selc_len (d : Fun) (m : Nat) : (d.selc m).length = (selL d.limP m (d.coneL d.t.obj.toNat).length).length := by unfold selc; rw [List.length_map]
noncomputable def Fun.liR (d : Fun) : Con := bif B (d.Is ∧ (d.coneL d.t.obj.toNat).length ≤ 400 ∧ d.selc 1 ≠ []) then (d.selc 1).getD 0 .z else Con.zero
noncomputable def Fun.liC (d : Fun) : Int := bif B d.Is then (bif decide ((d.coneL d.t.obj.toNat).length ≤ 400) then (bif B (d.selc 1 ≠ []) then 0 else 4) else 3) else 1
theorem Fun.li_1 {d : Fun} (h : ¬ d.Is) : d.liR = Con.zero ∧ d.liC = 1 := by unfold liR liC; rw [B_false h, B_false fun hh => h hh.1]; exact ⟨rfl, rfl⟩
theorem Fun.li_2 {d : Fun} (h : d.Is) (hb : ¬ (d.coneL d.t.obj.toNat).length ≤ 400) : d.liR = Con.zero ∧ d.liC = 3 := by unfold liR liC; rw [B_true h, decide_eq_false hb, B_false fun hh => hb hh.2.1]; exact ⟨rfl, rfl⟩
theorem Fun.li_3 {d : Fun} (h : d.Is) (hb : (d.coneL d.t.obj.toNat).length ≤ 400) (hn : d.selc 1 = []) : d.liR = Con.zero ∧ d.liC = 4 := by unfold liR liC; rw [B_true h, decide_eq_true hb, B_false fun hh => hh.2.2 hn, B_false fun hh => hh hn]; exact ⟨rfl, rfl⟩
theorem Fun.li_4 {d : Fun} (h : d.Is) (hb : (d.coneL d.t.obj.toNat).length ≤ 400) (hn : d.selc 1 ≠ []) : d.liR = (d.selc 1).getD 0 .z ∧ d.liC = 0 := by unfold liR liC; rw [B_true h, decide_eq_true hb, B_true ⟨h, hb, hn⟩, B_true hn]; exact ⟨rfl, rfl⟩
end Go.GL
namespace Go.GL
def zP : CatP := ⟨none, none, none, none, fun _ => none⟩
def eP (p : CatP) : FunP := ⟨zP, p, none, none⟩
end Go.GL
namespace Go.GL
def sh2 : Cat := ⟨2, [0, 1], [0, 1], [0, 1], [[0, -1], [-1, 1]]⟩
theorem two {i : Nat} (h : i < 2) : i = 0 ∨ i = 1 := by omega
theorem sh2_is : sh2.Is := by
  refine ⟨⟨by decide, by decide, rfl, fun i h => ?_, fun i h => ?_, rfl, fun i h => ?_, rfl, fun i h => ?_, fun i h => ?_, fun i h j h2 => ?_⟩, ⟨fun i h => ?_, fun i h j h2 e k h3 e2 => ?_⟩⟩
  · rcases two h with rfl | rfl <;> decide
  · rcases two h with rfl | rfl <;> decide
  · rcases two h with rfl | rfl <;> decide
  · rcases two h with rfl | rfl <;> decide
  · rcases two h with rfl | rfl <;> rfl
  · rcases two h with rfl | rfl <;> rcases two h2 with rfl | rfl <;> (unfold Cat.Cell; decide)
  · rcases two h with rfl | rfl <;> (unfold Cat.IdOk; decide)
  · rcases two h with rfl | rfl <;> rcases two h2 with rfl | rfl <;> rcases two h3 with rfl | rfl <;> first | rfl | (exact absurd e (by decide)) | (exact absurd e2 (by decide))
def pFun (c : Cat) (x y : Int) : Fun := ⟨sh2, c, [x, y], [c.idn.getD x.toNat 0, c.idn.getD y.toNat 0]⟩
theorem Cat.Shape.idx {c : Cat} (hS : c.Shape) {x : Int} (h0 : 0 ≤ x) (h1 : x < c.obj) : (0 ≤ c.idn.getD x.toNat 0 ∧ c.idn.getD x.toNat 0 < c.src.length) ∧ c.src.getD (c.idn.getD x.toNat 0).toNat 0 = x ∧ c.tgt.getD (c.idn.getD x.toNat 0).toNat 0 = x := by
  have a := hS.il
  have b := hS.idn x.toNat (by omega)
  have d := hS.ids x.toNat (by omega)
  exact ⟨b, by rw [d.1]; omega, by rw [d.2]; omega⟩
theorem Cat.Is.idH {c : Cat} (hI : c.Is) {w x a : Int} (h : a ∈ c.hom w x) : c.th a (c.idn.getD x.toNat 0) = a := by
  obtain ⟨A, a1, a2, a3, rfl⟩ := Cat.mem_hom.1 h
  have := (hI.2.ids A a1).2
  rwa [a3] at this
theorem Cat.Is.idG {c : Cat} (hI : c.Is) {w x a : Int} (h : a ∈ c.hom w x) : c.th (c.idn.getD w.toNat 0) a = a := by
  obtain ⟨A, a1, a2, a3, rfl⟩ := Cat.mem_hom.1 h
  have := (hI.2.ids A a1).1
  rwa [a2] at this
theorem pFun_is {c : Cat} (hI : c.Is) {x y : Int} (hx : 0 ≤ x ∧ x < c.obj) (hy : 0 ≤ y ∧ y < c.obj) : (pFun c x y).Is := by
  obtain ⟨p1, p2, p3⟩ := hI.1.idx hx.1 hx.2
  obtain ⟨q1, q2, q3⟩ := hI.1.idx hy.1 hy.2
  have hp : c.idn.getD x.toNat 0 ∈ c.hom x x := Cat.mem_hom.2 ⟨(c.idn.getD x.toNat 0).toNat, by omega, p2, p3, by omega⟩
  have hq : c.idn.getD y.toNat 0 ∈ c.hom y y := Cat.mem_hom.2 ⟨(c.idn.getD y.toNat 0).toNat, by omega, q2, q3, by omega⟩
  refine ⟨sh2_is, hI, ⟨rfl, rfl, fun i h => ?_, fun i h => ?_, fun i h => ?_, fun i h => ?_, fun i h j h2 e => ?_⟩⟩
  · rcases two h with rfl | rfl <;> assumption
  · rcases two h with rfl | rfl <;> assumption
  · rcases two h with rfl | rfl
    · exact ⟨p2, p3⟩
    · exact ⟨q2, q3⟩
  · rcases two h with rfl | rfl <;> rfl
  · rcases two h with rfl | rfl <;> rcases two h2 with rfl | rfl
    · exact (hI.idH hp).symm
    · exact absurd (show (0 : Int) = 1 from e) (by decide)
    · exact absurd (show (1 : Int) = 0 from e) (by decide)
    · exact (hI.idH hq).symm
theorem flatMap_one {α β : Type} {f : α → β} (l : List α) : (l.flatMap fun x => [f x]) = l.map f := by
  induction l with
  | nil => rfl
  | cons a l ih => rw [List.flatMap_cons, ih]; rfl
def pr2 (p : Int × Int) : List Int := [p.1, p.2]
theorem pFun_sols {c : Cat} (hI : c.Is) {x y w : Int} : ((pFun c x y).cnet w).sols 2 = (c.spL (.prod x y) w).map pr2 := by
  unfold Net.sols searchL Cat.spL
  rw [if_neg (show ¬ (Spn.prod x y).alone = true from Bool.false_ne_true), List.map_flatMap]
  refine flatMap_congr' fun a ha => ?_
  have ha' : a ∈ c.hom w x := ha
  have o0 : ((pFun c x y).cnet w).ok ([] : List Int).length ([] ++ [a]) = true := by
    refine allN_iff.2 fun i hi => ?_
    rcases two hi with rfl | rfl
    · show (!(max 0 0 == 0) || decide (c.th a (c.idn.getD x.toNat 0) = a)) = true
      rw [decide_eq_true (hI.idH ha')]; rfl
    · rfl
  rw [o0]
  show searchL _ _ 1 [a] = _
  unfold searchL
  rw [List.map_map]
  have h1 : ∀ b ∈ ((pFun c x y).cnet w).cand [a].length, (bif ((pFun c x y).cnet w).ok [a].length ([a] ++ [b]) then searchL ((pFun c x y).cnet w).cand ((pFun c x y).cnet w).ok 0 ([a] ++ [b]) else []) = [[a, b]] := fun b hb => by
    have hb' : b ∈ c.hom w y := hb
    have o1 : ((pFun c x y).cnet w).ok [a].length ([a] ++ [b]) = true := by
      refine allN_iff.2 fun i hi => ?_
      rcases two hi with rfl | rfl
      · rfl
      · show (!(max 1 1 == 1) || decide (c.th b (c.idn.getD y.toNat 0) = b)) = true
        rw [decide_eq_true (hI.idH hb')]; rfl
    rw [o1]; rfl
  rw [flatMap_congr' h1, flatMap_one]
  have hfe : (c.hom w y).filter (fun b => (Spn.prod x y).fits a b) = c.hom w y := List.filter_eq_self.2 fun _ _ => rfl
  show (c.hom w y).map (fun b => [a, b]) = ((c.hom w y).filter fun b => (Spn.prod x y).fits a b).map (pr2 ∘ fun b => (a, b))
  rw [hfe]
  rfl
def toCon (t : List Int) : Con := ⟨t.getD 0 0, [t.getD 1 0, t.getD 2 0]⟩
theorem pFun_cones {c : Cat} (hI : c.Is) {x y : Int} : (pFun c x y).coneL (pFun c x y).t.obj.toNat = (c.sqL (.prod x y)).map toCon := by
  unfold Fun.coneL Cat.sqL objsL
  rw [List.map_flatMap]
  refine flatMap_congr' fun w _ => ?_
  show (((pFun c x y).cnet (w : Int)).sols 2).map _ = _
  rw [pFun_sols hI, List.map_map, List.map_map]
  rfl
theorem pFun_maps {c : Cat} {x y : Int} {w z : Nat} {p q : Int × Int} : ((pFun c x y).coneMaps (toCon (row3 w q)) (toCon (row3 z p))).length = (c.mapsL (row3 w q) (row3 z p)).length := by
  show _ = (c.mapsL [(w : Int), q.1, q.2] [(z : Int), p.1, p.2]).length
  rw [Cat.maps3]
  unfold Fun.coneMaps Cat.spN
  congr 1
  refine List.filter_congr fun u _ => ?_
  show allN 2 (fun j => c.th u ([p.1, p.2].getD j 0) == [q.1, q.2].getD j 0) = _
  rw [Bool.eq_iff_iff, allN_iff, decide_eq_true_eq]
  constructor
  · intro h
    exact Prod.ext (beq_iff_eq.1 (h 0 (by omega))) (beq_iff_eq.1 (h 1 (by omega)))
  · intro h i hi
    have h1 : c.th u p.1 = q.1 := congrArg Prod.fst h
    have h2 : c.th u p.2 = q.2 := congrArg Prod.snd h
    rcases two hi with rfl | rfl
    · exact beq_iff_eq.2 h1
    · exact beq_iff_eq.2 h2
theorem getD_map_con {L : List (List Int)} {i : Nat} (h : i < L.length) : (L.map toCon).getD i .z = toCon (L.getD i []) := by
  rw [List.getD_eq_getElem?_getD, List.getElem?_map, List.getD_eq_getElem?_getD, List.getElem?_eq_getElem h]; rfl
theorem sq_row {c : Cat} {s : Spn} {i : Nat} (h : i < (c.sqL s).length) : ∃ (z : Nat) (p : Int × Int), (c.sqL s).getD i [] = row3 z p := by
  obtain ⟨z, hz, h2⟩ := mem_objsL.1 (getD_mem_list (d := ([] : List Int)) h)
  obtain ⟨p, hp, e⟩ := List.mem_map.1 h2
  exact ⟨z, p, e.symm⟩
theorem pFun_lim {c : Cat} (hI : c.Is) {x y : Int} {i : Nat} (h : i < (c.sqL (.prod x y)).length) : (pFun c x y).limP i = c.okL (c.sqL (.prod x y)) ((c.sqL (.prod x y)).getD i []) := by
  unfold Fun.limP Fun.univ Cat.okL
  rw [pFun_cones hI, getD_map_con h, List.length_map]
  refine B_congr ⟨fun hh t ht => ?_, fun hh j hj => ?_⟩
  · obtain ⟨j, hj, rfl⟩ := mem_iff_getD.1 ht
    have := hh j hj
    rw [getD_map_con hj] at this
    obtain ⟨w, q, e1⟩ := sq_row hj
    obtain ⟨z, p, e2⟩ := sq_row h
    rw [e1, e2] at this ⊢
    rwa [pFun_maps] at this
  · have := hh _ (getD_mem_list (d := ([] : List Int)) hj)
    rw [getD_map_con hj]
    obtain ⟨w, q, e1⟩ := sq_row hj
    obtain ⟨z, p, e2⟩ := sq_row h
    rw [e1, e2] at this ⊢
    rwa [pFun_maps]
theorem pFun_sel {c : Cat} (hI : c.Is) {x y : Int} : (pFun c x y).selc 1 = if c.fstL (.prod x y) = [] then [] else [toCon (c.fstL (.prod x y))] := by
  have hl : ((pFun c x y).coneL (pFun c x y).t.obj.toNat).length = (c.sqL (.prod x y)).length := by rw [pFun_cones hI, List.length_map]
  unfold Fun.selc
  rw [hl]
  unfold Cat.fstL Cat.firstL
  cases e : (c.sqL (.prod x y)).find? (c.okL (c.sqL (.prod x y))) with
  | none =>
    rw [List.find?_eq_none] at e
    rw [selL_none fun j hj => by
      rw [pFun_lim hI hj]
      exact Bool.eq_false_iff.2 (e _ (getD_mem_list hj))]
    rfl
  | some t =>
    have hne : t ≠ [] := by
      obtain ⟨z, hz, h2⟩ := mem_objsL.1 (List.mem_of_find?_eq_some e)
      obtain ⟨q, hq, rfl⟩ := List.mem_map.1 h2
      exact List.cons_ne_nil _ _
    obtain ⟨h1, i, hi, h2, h3⟩ := List.find?_eq_some_iff_getElem.1 e
    have gi : (c.sqL (.prod x y)).getD i [] = t := by rw [List.getD_eq_getElem?_getD, List.getElem?_eq_getElem hi]; exact h2
    rw [selL_first hi (fun j hj => by
      rw [pFun_lim hI (by omega)]
      have := h3 j hj
      rw [List.getD_eq_getElem?_getD, List.getElem?_eq_getElem (by omega)]
      simpa using this) (by rw [pFun_lim hI hi, gi]; exact h1)]
    rw [if_neg (show ¬ (some t).getD [] = [] from hne)]
    show [((pFun c x y).coneL (pFun c x y).t.obj.toNat).getD i .z] = [toCon t]
    rw [pFun_cones hI, getD_map_con hi, gi]
theorem pFun_li {c : Cat} (hI : c.Is) {x y : Int} (hx : 0 ≤ x ∧ x < c.obj) (hy : 0 ≤ y ∧ y < c.obj) : (pFun c x y).liC = 3 ∨ ((pFun c x y).liC = tripC (c.fstL (.prod x y)) ∧ (c.fstL (.prod x y) ≠ [] → (pFun c x y).liR = toCon (c.fstL (.prod x y)))) := by
  have hd := pFun_is hI hx hy
  by_cases hb : ((pFun c x y).coneL (pFun c x y).t.obj.toNat).length ≤ 400
  · refine .inr ?_
    by_cases hn : c.fstL (.prod x y) = []
    · have hs := pFun_sel hI (x := x) (y := y)
      rw [if_pos hn] at hs
      refine ⟨?_, fun h => absurd hn h⟩
      rw [(Fun.li_3 hd hb hs).2, hn]; rfl
    · have hs := pFun_sel hI (x := x) (y := y)
      rw [if_neg hn] at hs
      obtain ⟨h1, h2⟩ := Fun.li_4 hd hb (by rw [hs]; exact List.cons_ne_nil _ _)
      refine ⟨?_, fun _ => ?_⟩
      · rw [h2, (tripC_0 (t := c.fstL (.prod x y))).2 hn]
      · rw [h1, hs]; rfl
  · exact .inl (Fun.li_2 hd hb).2
theorem prod_mem {c : Cat} {x y w : Int} {p : Int × Int} : p ∈ c.spL (.prod x y) w ↔ p.1 ∈ c.hom w x ∧ p.2 ∈ c.hom w y := by
  rw [Cat.mem_spL, if_neg (show ¬ (Spn.prod x y).alone = true from Bool.false_ne_true)]
  exact ⟨fun h => ⟨h.1, h.2.2⟩, fun h => ⟨h.1, rfl, h.2⟩⟩
theorem Cat.prod_law {c : Cat} (hI : c.Is) {x y : Int} (h : c.fstL (.prod x y) ≠ []) : ∃ z P Q : Nat, c.fstL (.prod x y) = [(z : Int), (P : Int), (Q : Int)] ∧ (z : Int) < c.obj ∧ c.code [(P : Int), (Q : Int)] = 0 ∧
    c.src.getD P 0 = z ∧ c.src.getD Q 0 = z ∧ c.tgt.getD P 0 = x ∧ c.tgt.getD Q 0 = y ∧ c.idn.getD z 0 ∈ c.hom z z ∧ c.th (c.idn.getD z 0) P = P ∧ c.th (c.idn.getD z 0) Q = Q ∧ ∀ u ∈ c.hom z z, c.th u P = P → c.th u Q = Q → u = c.idn.getD z 0 := by
  obtain ⟨z, p, hz, hp, e, hU⟩ := Cat.fst_is (Cat.prod_go hI.1 x y) h
  obtain ⟨p1, p2⟩ := prod_mem.1 hp
  have i1 := hI.idG p1
  have i2 := hI.idG p2
  rw [Int.toNat_natCast] at i1 i2
  obtain ⟨P, P1, P2, P3, hP⟩ := Cat.mem_hom.1 p1
  obtain ⟨Q, Q1, Q2, Q3, hQ⟩ := Cat.mem_hom.1 p2
  have hpe : p = ((P : Int), (Q : Int)) := Prod.ext hP hQ
  rw [hP] at i1
  rw [hQ] at i2
  obtain ⟨q1, q2, q3⟩ := hI.1.idx (x := (z : Int)) (by omega) hz
  rw [Int.toNat_natCast] at q1 q2 q3
  have him : c.idn.getD z 0 ∈ c.hom z z := Cat.mem_hom.2 ⟨(c.idn.getD z 0).toNat, by omega, q2, q3, by omega⟩
  refine ⟨z, P, Q, by rw [e, hpe]; rfl, hz, Cat.code_two.2 ⟨hI, ⟨by omega, by omega⟩, by omega, by omega⟩, P2, Q2, P3, Q3, him, i1, i2, fun u hu e1 e2 => ?_⟩
  have hpi : c.spM p (c.idn.getD z 0) = p := by unfold Cat.spM; rw [hpe]; exact Prod.ext i1 i2
  have hpu : c.spM p u = p := by unfold Cat.spM; rw [hpe]; exact Prod.ext e1 e2
  exact (hU.un hz (by rw [hpi]; exact hp) him hu (by rw [hpu, hpi])).symm
noncomputable def Cat.pdC (c : Cat) (x y : Int) : Int := if c.codeO [x, y] = 0 then tripC (c.fstL (.prod x y)) else c.codeO [x, y]
noncomputable def Cat.pdL (c : Cat) (x y : Int) : List Int := if c.codeO [x, y] = 0 then c.fstL (.prod x y) else []
theorem Cat.pd_err {c : Cat} {x y : Int} (h : c.codeO [x, y] ≠ 0) : c.pdC x y = c.codeO [x, y] ∧ c.pdL x y = [] := by
  unfold Cat.pdC Cat.pdL
  rw [if_neg h, if_neg h]
  exact ⟨rfl, rfl⟩
theorem Cat.pd_ok {c : Cat} {x y : Int} (h : c.codeO [x, y] = 0) : c.pdC x y = tripC (c.fstL (.prod x y)) ∧ c.pdL x y = c.fstL (.prod x y) := by
  unfold Cat.pdC Cat.pdL
  rw [if_pos h, if_pos h]
  exact ⟨rfl, rfl⟩
theorem Cat.codeO_cases (c : Cat) (xs : List Int) : c.codeO xs = 0 ∨ c.codeO xs = 1 ∨ c.codeO xs = 2 := by
  unfold Cat.codeO
  split
  · split
    · exact .inl rfl
    · exact .inr (.inr rfl)
  · exact .inr (.inl rfl)
theorem Cat.pd_in {c : Cat} {x y : Int} (h : c.pdC x y = 0 ∨ c.pdC x y = 4) : c.codeO [x, y] = 0 := by
  by_cases h1 : c.codeO [x, y] = 0
  · exact h1
  · have := (Cat.pd_err h1).1
    have := c.codeO_cases [x, y]
    omega
end Go.GL
namespace Go.Proofs.Ytjdedelneppnlaa
open Go Go.GL Go.RowKit Go.Proofs
theorem l02Objects_c {c : Cat} {p : CatP} {a : Option Addr} {xs : List Int} {H : GHeap} (hin : c.In H p := by assumption) (hs : c.Small := by assumption) (hx : Ints H a xs := by assumption) (hl : xs.length ≤ 1048576 := by omega) :
    GCalls Try.prog 57 [.agg (c.cells p).toArray, .slice a xs.length xs.length] H (Ret (.int .i64 (c.codeO xs)) H) := by
  refine GCalls.ret rfl ?_
  refine GCalls.body (N := 13) (rs := [.tmp 4]) Try.func57 rfl rfl rfl rfl (fun Qx e hend => ?_)
  refine .fg [0, 1] rfl ?_
  have f := GHeap.Le.refl H
  have b := hin
  have d := hx
  refine .seq (fun K1 s => .region ?_)
  refine .R rfl (.boxR rfl sz_29_D rfl) ?_
  rintro _ H2 ⟨g2, rfl, l, ge2, h⟩
  replace f := f.trans l
  replace hin := b.mono f
  replace hx := d.mono f
  have i : Cat.At _ g2 0 c p := ⟨Mem.of_get h, hin⟩
  obtain ⟨c02, -, -, -, -, -, -, -, -⟩ := i.get
  have hi2 := i.2
  refine .mv rfl (.nil (s _ _ (.seq (fun K2 n => .seq (fun K3 k => .region ?_)))))
  refine .q rfl (.loadM ag_29_D rfl ⟨rfl, Mem.of_get h⟩) ?_
  refine .callQ rfl rfl rfl rfl @Try.call41 rfl (l02Is_c) ?_
  refine .q rfl (.not rfl) (.nil (k _ _ ?_))
  refine .cond rfl (fun h7 => ?_) (fun h7 => ?_)
  ·
   simp only [sps] at h7
   refine .seq (fun K4 j => .region (.mv rfl (.nil (j _ _ ?_))))
   refine .ret ?_
   refine e _ _ ?_
   refine ⟨_, rfl, ?_⟩
   exact ⟨congrArg _ (Cat.codeO_not h7), f⟩
  simp only [sps] at h7
  refine .skip ?_
  refine n _ _ (.seq (fun K5 t => .seq (fun K6 r => .region (.q rfl (.fieldAddr fo_29_0_B rfl) ?_))))
  refine .q rfl (.load on_2_A rfl (by first | assumption | exact Mem.of_get h 0 _ rfl)) ?_
  refine .mv rfl ?_
  refine .callQ rfl rfl rfl rfl @Try.call106 rfl (l01Map_c) ?_
  refine .q rfl (.not rfl) (.nil (r _ _ ?_))
  refine .cond rfl (fun g => ?_) (fun g => ?_)
  ·
   simp only [sps, Bool.not_eq_true] at g
   refine .seq (fun K7 m => .region (.mv rfl (.nil (m _ _ ?_))))
   refine .ret ?_
   refine e _ _ ?_
   refine ⟨_, rfl, ?_⟩
   exact ⟨congrArg _ (Cat.codeO_out h7 (by rw [g]; decide)), f⟩
  simp only [sps] at g
  refine .skip ?_
  refine t _ _ (.seq (fun K8 o => .region (.mv rfl (.nil (o _ _ ?_)))))
  refine .ret ?_
  refine e _ _ ?_
  refine ⟨_, rfl, ?_⟩
  exact ⟨congrArg _ (Cat.codeO_ok.2 ⟨h7, allIn_iff.2 g⟩), f⟩
theorem specProductOf_c {c : Cat} {p : CatP} {x y : Int} {H : GHeap} (hin : c.In H p := by assumption) (hs : c.Small := by assumption) :
    GCalls Try.prog 19 [.agg (c.cells p).toArray, .int .i64 x, .int .i64 y] H (fun v H' => H.Le H' ∧ v = trip (c.pdL x y) (c.pdC x y)) := by
  refine GCalls.body (N := 37) (rs := [.tmp 6, .tmp 7, .tmp 8, .tmp 9]) Try.func19 rfl rfl rfl rfl (fun Qx f hend => ?_)
  refine .fg [0, 1, 2] rfl ?_
  have b := GHeap.Le.refl H
  have a := hin
  refine .seq (fun K1 s => .region ?_)
  refine .R rfl (.boxR rfl sz_29_D rfl) ?_
  rintro _ H3 ⟨g3, rfl, l, ge3, d⟩
  replace b := b.trans l
  replace hin := a.mono b
  have g : Cat.At _ g3 0 c p := ⟨Mem.of_get d, hin⟩
  refine .mv rfl (.mv rfl (.mv rfl (.mv rfl (.nil (s _ _ (.seq (fun K2 o => .region ?_)))))))
  refine .q rfl (.loadM ag_29_D rfl ⟨rfl, Mem.of_get d⟩) ?_
  refine .mv rfl (.mv rfl ?_)
  refine .R rfl (.litA rfl sl_22_A ze_2_L rfl rfl rfl rfl) ?_
  rintro _ H18 ⟨g18, rfl, i, ge18, at18⟩
  replace b := b.trans i
  replace d := i.2 _ _ d
  replace hin := a.mono b
  clear g
  have g : Cat.At _ g3 0 c p := ⟨Mem.of_get d, hin⟩
  have u := g.2
  refine .callQ rfl rfl rfl rfl @Try.call57 rfl (l02Objects_c (xs := [x, y]) (hx := Ints.of_get (by assumption)) (hl := by simp)) ?_
  refine .mv rfl (.nil (o _ _ (.seq (fun K3 m => .seq (fun K4 k => .region (.mv rfl (.q rfl (.cmp rfl rfl rfl) (.nil (k _ _ ?_)))))))))
  refine .cond rfl (fun e => ?_) (fun e => ?_)
  ·
   simp only [sps] at e
   refine .seq (fun K5 t => .region (.mv rfl (.mv rfl (.mv rfl (.mv rfl (.mv rfl (.nil (t _ _ ?_))))))))
   refine .ret ?_
   refine f _ _ ?_
   refine ⟨_, _, _, _, rfl, rfl, rfl, rfl, ?_⟩
   rw [(Cat.pd_err e).1, (Cat.pd_err e).2]; exact ⟨b, rfl⟩
  simp only [sps] at e
  have hS := (Cat.codeO_ok.1 e).1.1
  refine .skip ?_
  refine m _ _ (.seq (fun K6 r => .region ?_))
  refine .q rfl (.loadM ag_29_D rfl ⟨rfl, Mem.of_get d⟩) ?_
  refine .mv rfl (.mv rfl ?_)
  refine .call rfl rfl rfl rfl @Try.call59 rfl (l13Product_c) ?_
  rintro _ H27 ⟨h, a27, rfl, j⟩
  replace b := b.trans h
  replace d := h.2 _ _ d
  replace hin := a.mono b
  clear g u
  have g : Cat.At _ g3 0 c p := ⟨Mem.of_get d, hin⟩
  refine .callQ rfl rfl rfl rfl @Try.call58 rfl (l13Triple_c (hx := j) (h3 := Cat.fst_len c _)) ?_
  refine .mv rfl (.q rfl (.extract rfl rfl) (.q rfl (.extract rfl rfl) (.q rfl (.extract rfl rfl) (.q rfl (.extract rfl rfl) (.mv rfl (.mv rfl (.mv rfl (.mv rfl (.nil (r _ _ (.seq (fun K7 n => .region (.mv rfl (.mv rfl (.mv rfl ?_)))))))))))))))
  refine .mv rfl (.mv rfl (.mv rfl (.mv rfl (.mv rfl (.nil (n _ _ ?_))))))
  refine .ret ?_
  refine f _ _ ?_
  refine ⟨_, _, _, _, rfl, rfl, rfl, rfl, ?_⟩
  rw [(Cat.pd_ok e).1, (Cat.pd_ok e).2]; exact ⟨b, rfl⟩
theorem implProductOf_c {c : Cat} {p : CatP} {x y : Int} {H : GHeap} (hin : c.In H p := by assumption) (hs : c.Small := by assumption) :
    GCalls Try.prog 18 [.agg (c.cells p).toArray, .int .i64 x, .int .i64 y] H (fun v H' => H.Le H' ∧ v = trip (c.pdL x y) (c.pdC x y)) := by
  refine GCalls.body (N := 26) (rs := [.tmp 6, .tmp 7, .tmp 8, .tmp 9]) Try.func18 rfl rfl rfl rfl (fun Qx h hend => ?_)
  refine .fg [0, 1, 2] rfl ?_
  have b := GHeap.Le.refl H
  have a := hin
  refine .seq (fun K1 s => .region ?_)
  refine .R rfl (.boxR rfl sz_29_D rfl) ?_
  rintro _ H3 ⟨g3, rfl, m, ge3, d⟩
  replace b := b.trans m
  replace hin := a.mono b
  have f : Cat.At _ g3 0 c p := ⟨Mem.of_get d, hin⟩
  refine .mv rfl (.mv rfl (.mv rfl (.mv rfl (.nil (s _ _ (.seq (fun K2 o => .seq (fun K3 n => .region (.mv rfl (.mv rfl ?_))))))))))
  refine .R rfl (.litA rfl sl_22_A ze_2_L rfl rfl rfl rfl) ?_
  rintro _ H13 ⟨g13, rfl, g, ge13, at13⟩
  replace b := b.trans g
  replace d := g.2 _ _ d
  replace hin := a.mono b
  clear f
  have f : Cat.At _ g3 0 c p := ⟨Mem.of_get d, hin⟩
  refine .callQ rfl rfl rfl rfl @Try.call54 rfl (objectCode_c (xs := [x, y]) (hx := Ints.of_get (by assumption)) (hl := by simp)) ?_
  refine .mv rfl (.nil (n _ _ (.seq (fun K4 l => .region (.mv rfl (.q rfl (.cmp rfl rfl rfl) (.nil (l _ _ ?_))))))))
  refine .cond rfl (fun e => ?_) (fun e => ?_)
  ·
   simp only [sps] at e
   refine .seq (fun K5 t => .region (.mv rfl (.mv rfl (.mv rfl (.mv rfl (.mv rfl (.nil (t _ _ ?_))))))))
   refine .ret ?_
   refine h _ _ ?_
   refine ⟨_, _, _, _, rfl, rfl, rfl, rfl, ?_⟩
   rw [(Cat.pd_err e).1, (Cat.pd_err e).2]; exact ⟨b, rfl⟩
  simp only [sps] at e
  have hS := (Cat.codeO_ok.1 e).1.1
  refine .skip ?_
  refine o _ _ (.seq (fun K6 r => .region (.mv rfl (.mv rfl ?_))))
  refine .call rfl rfl rfl rfl @Try.call55 rfl (products_c) ?_
  rintro _ H20 ⟨j, g20, rfl, ge20, k⟩
  replace b := b.trans j
  replace d := j.2 _ _ d
  replace hin := a.mono b
  clear f
  have f : Cat.At _ g3 0 c p := ⟨Mem.of_get d, hin⟩
  refine .call rfl rfl rfl rfl @Try.call56 rfl (tripleS_c (hs := k) (hc := Cat.prod_go hS _ _)) ?_
  rintro _ H21 ⟨i, rfl⟩
  replace b := b.trans i
  replace d := i.2 _ _ d
  replace hin := a.mono b
  clear f
  have f : Cat.At _ g3 0 c p := ⟨Mem.of_get d, hin⟩
  refine .q rfl (.extract rfl rfl) (.q rfl (.extract rfl rfl) (.q rfl (.extract rfl rfl) (.q rfl (.extract rfl rfl) (.mv rfl (.mv rfl (.mv rfl (.mv rfl (.nil (r _ _ ?_)))))))))
  refine .ret ?_
  refine h _ _ ?_
  refine ⟨_, _, _, _, rfl, rfl, rfl, rfl, ?_⟩
  rw [(Cat.pd_ok e).1, (Cat.pd_ok e).2]; exact ⟨b, rfl⟩
set_option maxHeartbeats 4000000 in
theorem pairSelf_c {c : Cat} {p : CatP} {z P Q : Nat} {x y : Int} {H : GHeap} (hin : c.In H p := by assumption) (hs : c.Small := by assumption) (hk : c.code [(P : Int), (Q : Int)] = 0) (hf : c.fstL (.prod x y) = [(z : Int), (P : Int), (Q : Int)])
    (s1 : c.src.getD P 0 = z) (s2 : c.src.getD Q 0 = z) (t1 : c.tgt.getD P 0 = x) (t2 : c.tgt.getD Q 0 = y) (hid : c.idn.getD z 0 ∈ c.hom z z) (i1 : c.th (c.idn.getD z 0) P = P) (i2 : c.th (c.idn.getD z 0) Q = Q) (hun : ∀ u ∈ c.hom z z, c.th u P = P → c.th u Q = Q → u = c.idn.getD z 0) :
    GCalls Try.prog 21 [.agg (c.cells p).toArray, .int .i64 (P : Int), .int .i64 (Q : Int)] H (fun v H' => H.Le H' ∧ v = .tuple #[.int .i64 (c.idn.getD z 0), .int .i64 0]) := by
  obtain ⟨hI, ⟨f0, f1⟩, g0, g1⟩ := Cat.code_two.1 hk
  have hS := hI.1
  have htl := hS.tl
  have hn := hS.n40
  have q1 := c.hom_le z z
  refine GCalls.body (N := 79) (rs := [.tmp 6, .tmp 7]) Try.func21 rfl rfl rfl rfl (fun Qx n hend => ?_)
  refine .fg [0, 1, 2] rfl ?_
  have d := GHeap.Le.refl H
  have a := hin
  refine .seq (fun K1 c7 => .region ?_)
  refine .R rfl (.boxR rfl sz_29_D rfl) ?_
  rintro _ H3 ⟨g3, rfl, c8, ge3, b⟩
  replace d := d.trans c8
  replace hin := a.mono d
  have f : Cat.At _ g3 0 c p := ⟨Mem.of_get b, hin⟩
  refine .mv rfl (.mv rfl (.nil (c7 _ _ (.seq (fun K2 c2 => .seq (fun K3 c5 => .region (.mv rfl (.mv rfl ?_))))))))
  refine .R rfl (.litA rfl sl_22_A ze_2_L rfl rfl rfl rfl) ?_
  rintro _ H17 ⟨g17, rfl, s, ge17, at17⟩
  replace d := d.trans s
  replace b := s.2 _ _ b
  replace hin := a.mono d
  clear f
  have f : Cat.At _ g3 0 c p := ⟨Mem.of_get b, hin⟩
  obtain ⟨-, a5, b8, -, -, a9, c1, -, -⟩ := f.get
  refine .callQ rfl rfl rfl rfl @Try.call62 rfl (arrowCode_c (xs := [(P : Int), (Q : Int)]) (hx := Ints.of_get (by assumption)) (hl := by simp)) ?_
  refine .mv rfl (.nil (c5 _ _ (.seq (fun K4 c0 => .region (.mv rfl (.q rfl (.cmp rfl rfl rfl) (.nil (c0 _ _ ?_))))))))
  refine .cond rfl (fun a2 => ?_) (fun a2 => ?_)
  ·
   simp only [sps] at a2; exact absurd hk a2
  try simp only [sps] at a2
  refine .skip ?_
  refine c2 _ _ (.seq (fun K5 b9 => .seq (fun K6 c6 => ?_)))
  refine .regionD mo_B (.q 0 (.q 1 (.q 2 (.q 3 (.q 4 (.q 5 (.q 6 (.q 7 (.q 8 (.q 9 (.q 10 (.done)))))))))))) (by kernel_rfl) ?_
  refine .q rfl (.fieldAddr fo_29_1_B rfl) ?_
  refine .q rfl (.load on_22_B rfl (by first | assumption | exact Mem.of_get b 1 _ rfl)) ?_
  refine .mv rfl rfl ?_
  refine .q rfl (.idxN sl_22_A (by assumption) rfl rfl (by omega)) ?_
  refine .q rfl (.loadI on_2_A (by assumption) rfl (by omega)) ?_
  refine .q rfl (.fieldAddr fo_29_1_B rfl) ?_
  refine .q rfl (.load on_22_B rfl (by first | assumption | exact Mem.of_get b 1 _ rfl)) ?_
  refine .mv rfl rfl ?_
  refine .q rfl (.idxN sl_22_A (by assumption) rfl rfl (by omega)) ?_
  refine .q rfl (.loadI on_2_A (by assumption) rfl (by omega)) ?_
  refine .q rfl (.cmp rfl rfl rfl) ?_
  refine .done ?_
  refine c6 _ _ ?_
  refine .cond rfl (fun a3 => ?_) (fun a3 => ?_)
  ·
   simp only [sps] at a3; exact absurd (s1.trans s2.symm) a3
  try simp only [sps] at a3
  refine .skip ?_
  refine b9 _ _ (.seq (fun K7 b6 => ?_))
  refine .regionD mo_B (.q 0 (.q 1 (.q 2 (.q 3 (.q 4 (.q 5 (.q 6 (.q 7 (.q 8 (.q 9 (.c 10 0 (.c 11 0 (.q 12 (.q 13 (.q 14 (.q 15 (.q 16 (.q 17 (.q 18 (.q 19 (.q 20 (.done)))))))))))))))))))))) (by kernel_rfl) ?_
  refine .q rfl (.fieldAddr fo_29_2_B rfl) ?_
  refine .q rfl (.load on_22_B rfl (by first | assumption | exact Mem.of_get b 2 _ rfl)) ?_
  refine .mv rfl rfl ?_
  refine .q rfl (.idxN sl_22_A (by assumption) rfl rfl (by omega)) ?_
  refine .q rfl (.loadI on_2_A (by assumption) rfl (by omega)) ?_
  rw [t1]
  refine .q rfl (.fieldAddr fo_29_2_B rfl) ?_
  refine .q rfl (.load on_22_B rfl (by first | assumption | exact Mem.of_get b 2 _ rfl)) ?_
  refine .mv rfl rfl ?_
  refine .q rfl (.idxN sl_22_A (by assumption) rfl rfl (by omega)) ?_
  refine .q rfl (.loadI on_2_A (by assumption) rfl (by omega)) ?_
  rw [t2]
  refine .call0 rfl rfl rfl rfl rfl @Try.call55 rfl (products_c) ?_
  rintro _ H44 ⟨t, g44, rfl, ge44, a7⟩
  replace d := d.trans t
  replace b := t.2 _ _ b
  replace hin := a.mono d
  clear f a5 b8 a9 c1
  have f : Cat.At _ g3 0 c p := ⟨Mem.of_get b, hin⟩
  refine .call0 rfl rfl rfl rfl rfl @Try.call56 rfl (tripleS_c (hs := a7) (hc := Cat.prod_go hS _ _)) ?_
  rintro _ H45 ⟨r, rfl⟩
  rw [show trip (c.fstL (.prod x y)) (tripC (c.fstL (.prod x y))) = .tuple #[.int .i64 (z : Int), .int .i64 (P : Int), .int .i64 (Q : Int), .int .i64 0] from by rw [hf]; rfl]
  replace d := d.trans r
  replace b := r.2 _ _ b
  replace hin := a.mono d
  clear f
  have f : Cat.At _ g3 0 c p := ⟨Mem.of_get b, hin⟩
  obtain ⟨-, a5, -, -, -, a9, -, -, -⟩ := f.get
  refine .mv rfl rfl (.q rfl (.extract rfl rfl) (.q rfl (.extract rfl rfl) (.q rfl (.extract rfl rfl) (.q rfl (.extract rfl rfl) (.mv rfl rfl (.mv rfl rfl (.mv rfl rfl (.mv rfl rfl ?_))))))))
  refine .done ?_
  refine b6 _ _ (.seq (fun K8 b7 => .seq (fun K9 c3 => .region (.mv rfl (.q rfl (.cmp rfl rfl rfl) (.nil (c3 _ _ ?_)))))))
  refine .cond rfl (fun a8 => ?_) (fun a8 => ?_)
  ·
   simp at a8
  try simp only [sps] at a8
  refine .skip ?_
  refine b7 _ _ (.seq (fun K10 b5 => .seq (fun K11 b2 => .region (.q rfl (.fieldAddr fo_29_1_B rfl) ?_))))
  refine .q rfl (.load on_22_B rfl (by first | assumption | exact Mem.of_get b 1 _ rfl)) ?_
  refine .mv rfl ?_
  refine .q rfl (.idxN sl_22_A (by assumption) rfl rfl (by omega)) ?_
  refine .q rfl (.loadI on_2_A (by assumption) rfl (by omega)) ?_
  rw [s1]
  refine .mv rfl ?_
  refine .call rfl rfl rfl rfl @Try.call63 rfl (hom_c) ?_
  rintro _ c4 ⟨a1, g59, rfl, h, ge59⟩
  replace d := d.trans a1
  replace b := a1.2 _ _ b
  replace hin := a.mono d
  clear f a5 a9
  have f : Cat.At _ g3 0 c p := ⟨Mem.of_get b, hin⟩
  refine .q rfl (.len sl_22_A rfl) (.mv rfl (.nil (b2 _ _ ?_)))
  refine .block ?_
  refine .loopR (σ := Nat) [(1, some _), (2, some _), (3, some _), (10, some _), (11, some _), (59, some _), (60, some _)] (fun i => [(61, some (.int .i64 (i : Int)))]) (fun i H' => St [] c4 H' ∧ i ≤ (c.hom z z).length ∧ ∀ j, j < i → (c.hom z z).getD j 0 ≠ c.idn.getD z 0) (fun i => (c.hom z z).length - i) (0) ⟨rfl, rfl, rfl, rfl, rfl, rfl, rfl, trivial⟩ ⟨rfl, trivial⟩ ?_ ?_
  ·
   refine ⟨.refl _ _, ?_⟩
   exact ⟨by omega, fun j hj => by omega⟩
  rintro i HL1 ⟨g, hI⟩ KL1 w
  refine .forget (fr' := [(61, some (.int .i64 (i : Int))), (1, some _), (2, some _), (3, some _), (10, some _), (11, some _), (59, some _), (60, some _)]) ⟨rfl, rfl, rfl, rfl, rfl, rfl, rfl, rfl, trivial⟩ ?_
  replace d := d.st g (fun k hk => trivial)
  replace b := g.same _ _ trivial b
  replace h := g.same _ _ trivial h
  replace hin := a.mono d
  clear f
  have f : Cat.At _ g3 0 c p := ⟨Mem.of_get b, hin⟩
  have i59 := Ints.of_get h
  obtain ⟨hi, hno⟩ := hI
  refine .seq (fun K12 b0 => .region (.q rfl (.cmp rfl rfl rfl) (.nil (b0 _ _ (.seq (fun K13 a6 => ?_))))))
  refine .cond rfl (fun b3 => ?_) (fun b3 => ?_)
  ·
   simp only [sps] at b3
   obtain ⟨u, u1, -, -, u4⟩ := Cat.hom_get (c := c) (x := z) (y := z) (i := i) (by omega)
   refine .skip ?_
   refine a6 _ _ (.seq (fun K14 o => ?_))
   refine .block ?_
   refine .seq (fun K15 a4 => .region ?_)
   refine .q rfl (.idxN sl_22_A (by first | assumption | exact SlA.of_row h (by first | rfl | (simp; done) | (simp <;> omega))) rfl rfl (by omega)) ?_
   refine .q rfl (.loadI on_2_A (by first | assumption | exact Ints.of_get h) rfl (by omega)) ?_
   refine .mv rfl (.nil (a4 _ _ (.seq (fun K16 a0 => .region (.mv rfl (.mv rfl ?_))))))
   refine .callQ rfl rfl rfl rfl @Try.call64 rfl (then_s) ?_
   refine .mv rfl (.q rfl (.cmp rfl rfl rfl) (.mv rfl ?_))
   refine .split (fun l => ?_) (fun l => ?_)
   ·
    simp only [sps] at l
    refine .qg rfl (.move rfl) (.qg rfl (.move rfl) ?_)
    refine .callQg rfl rfl rfl rfl rfl rfl @Try.call64 rfl (then_s) ?_
    refine .qg rfl (.move rfl) (.qg rfl (.cmp rfl rfl rfl) (.q rfl (.pickT rfl rfl) (.nil (a0 _ _ ?_))))
    refine .cond rfl (fun m => ?_) (fun m => ?_)
    ·
     simp only [sps] at m
     refine .seq (fun K17 b4 => .region (.mv rfl (.mv rfl (.mv rfl (.nil (b4 _ _ ?_))))))
     refine .ret ?_
     refine n _ _ ?_
     refine ⟨_, _, rfl, rfl, ?_⟩
     rw [hun _ (getD_mem_list (by omega)) l m]; exact ⟨d, rfl⟩
    simp only [sps] at m
    refine .skip ?_
    refine o _ _ (.region ?_)
    refine .q rfl (.add rfl rfl rfl (by omega) (by omega)) ?_
    refine .mv rfl (.nil ?_)
    refine w (i + 1) _ _ ?_ ?_ ⟨rfl, rfl, rfl, rfl, rfl, rfl, rfl, rfl, trivial⟩
    ·
     refine ⟨g, ?_⟩
     refine ⟨by omega, fun j hj => ?_⟩
     by_cases e : j < i
     · exact hno j e
     · obtain rfl : j = i := by omega
       first | exact fun e => l (by rw [e]; exact i1) | exact fun e => m (by rw [e]; exact i2)
    omega
   simp only [sps] at l
   refine .z rfl (.z rfl (.z rfl (.z rfl (.z rfl (.q rfl (.pickF rfl rfl) (.nil (a0 _ _ ?_)))))))
   refine .condF rfl ?_
   refine .skip ?_
   refine o _ _ (.region ?_)
   refine .q rfl (.add rfl rfl rfl (by omega) (by omega)) ?_
   refine .mv rfl (.nil ?_)
   refine w (i + 1) _ _ ?_ ?_ ⟨rfl, rfl, rfl, rfl, rfl, rfl, rfl, rfl, trivial⟩
   ·
    refine ⟨g, ?_⟩
    refine ⟨by omega, fun j hj => ?_⟩
    by_cases e : j < i
    · exact hno j e
    · obtain rfl : j = i := by omega
      first | exact fun e => l (by rw [e]; exact i1) | exact fun e => m (by rw [e]; exact i2)
   omega
  try simp only [sps] at b3
  refine .exit ?_
  refine b5 _ _ (.seq (fun K18 b1 => .region (.mv rfl (.mv rfl (.nil (b1 _ _ ?_))))))
  refine .ret ?_
  refine n _ _ ?_
  refine ⟨_, _, rfl, rfl, ?_⟩
  obtain ⟨j, hj, e⟩ := List.mem_iff_getElem.1 hid
  exact absurd (by rw [List.getD_eq_getElem?_getD, List.getElem?_eq_getElem hj]; exact e) (hno j (by omega))
set_option maxHeartbeats 8000000 in
theorem drawProductOf_c {a : Option Addr} {xs : List Int} {H : GHeap} (hb : Bytes H a xs := by assumption) (hlt : ∀ b o t, a = some ⟨b, o, t⟩ → b < H.next := by assumption) (hx : xs.length ≤ 4096 := by omega) :
    GCalls Try.prog 17 [.slice a xs.length xs.length] H (NewT H) := by
  refine GCalls.body (N := 20) (rs := [.cell 2 29, .tmp 3, .tmp 4]) Try.func17 rfl rfl rfl rfl (fun Qx a4 hend => ?_)
  refine .fg [0] rfl ?_
  have j := GHeap.Le.refl H
  have p := hb
  refine .seq (fun K1 b7 => .region ?_)
  refine .R rfl (.allocR rfl ze_29_Hj rfl) ?_
  rintro _ H2 ⟨g2, rfl, b0, ge2, l⟩
  replace j := j.trans b0
  have lt_at2 := GHeap.ltg l
  replace hb := p.mono j
  refine .mv rfl (.mv rfl (.nil (b7 _ _ (.seq (fun K2 b1 => .region (.mv rfl ?_))))))
  refine .call rfl rfl rfl rfl @Try.call51 rfl (l01From_c (hlt := fun b o t e => by have := hlt b o t e; omega)) ?_
  rintro _ H8 ⟨a2, gS, rfl, ge8, hs⟩
  have hlS := hs.lt
  have nx_H8 := a2.1
  replace j := j.trans a2
  replace l := a2.2 _ _ l
  refine .mv rfl (.nil (b1 _ _ (.seq (fun K3 b4 => .region (.mv rfl ?_)))))
  refine .call rfl rfl rfl rfl @Try.call52 rfl (l13Draw_c) ?_
  rintro _ a6 ⟨b2, b3, rfl, w, a3, y, hs⟩
  have nx_H10 := y.nx
  replace j := j.st y (fun k hk => ⟨by omega, trivial⟩)
  have f : NE g2 gS := .a
  replace l := y.s l f.ne
  have a0 := a3
  have d : Keep H8.next a6 a6 := fun _ _ _ h => h
  refine .R rfl (.allocR rfl ze_29_Hj rfl) ?_
  rintro _ H6 ⟨g6, rfl, a1, ge6, at6⟩
  replace j := j.trans a1
  replace hs := hs.le a1
  replace l := a1.2 _ _ l
  replace d := Keep.le d a1
  refine .r0 rfl rfl (.fillA rfl sz_29_D rfl rfl rfl rfl) ?_
  rintro _ v ⟨rfl, i, z⟩
  replace j := j.st i (fun k hk => ⟨by omega, trivial⟩)
  replace hs := hs.sA i
  replace l := i.s l
  replace d := Keep.st d i (fun k hb hk => ⟨(by omega), trivial⟩)
  refine .nil (b4 _ _ (.seq (fun K4 a9 => ?_)))
  refine .regionDB mo_B (.q 0 (.q 1 (.q 2 (.q 3 (.q 5 (.q 6 (.q 7 (.c 4 1 (.c 8 1 (.c 9 0 (.q 10 (.q 11 (.done))))))))))))) (by kernel_rfl) (GHeap.le_erase v gS) ?_
  have m := GHeap.le_erase v gS
  have a5 := GHeap.get_erase_of (g := gS) z (by omega)
  refine .qB rfl m (.loadM ag_29_D rfl ⟨rfl, Mem.of_get a5⟩) ?_
  refine .qB rfl m (.move rfl) (.qB rfl m (.fieldAddr fo_29_0_B rfl) (.qB rfl m (.load on_2_A rfl (Mem.of_get a5 0 _ rfl)) (.qB rfl m (.move rfl) (.qB rfl m (.fieldAddr fo_29_0_B rfl) (.qB rfl m (.load on_2_A rfl (Mem.of_get a5 0 _ rfl)) ?_)))))
  refine .call1 rfl rfl rfl rfl rfl @Try.call53 rfl (l02Number_c (hn := by obtain ⟨_, _, _, _, _, n6⟩ := id w; exact n6)) ?_
  rintro _ H15 ⟨b6, rfl, b5, r, hs⟩
  replace m := m.erase_st r
  refine ⟨m, ?_⟩
  replace j := j.st r (fun k hk => ⟨by omega, trivial⟩)
  replace l := r.s l f.ne
  replace d := Keep.st d r (fun k hb hk => ⟨(by omega), trivial⟩)
  refine .call1 rfl rfl rfl rfl rfl @Try.call53 rfl (l02Number_c (hn := by obtain ⟨_, _, _, _, _, n6⟩ := id w; exact n6)) ?_
  rintro _ H19 ⟨a7, rfl, a8, u, hs⟩
  replace m := m.erase_st u
  refine ⟨m, ?_⟩
  replace j := j.st u (fun k hk => ⟨by omega, trivial⟩)
  replace l := u.s l f.ne
  replace d := Keep.st d u (fun k hb hk => ⟨(by omega), trivial⟩)
  refine .r0 rfl rfl rfl (.fillA rfl sz_29_D rfl rfl rfl rfl) ?_
  rintro _ H3009 ⟨rfl, n, x⟩
  replace j := j.st n (fun k hk => ⟨by omega, trivial⟩)
  replace d := Keep.st d n (fun k hb hk => ⟨(by omega), trivial⟩)
  replace a3 := a0.keep d (Nat.le_refl _)
  refine .qB rfl (.refl _) (.assign rfl) (.qB rfl (.refl _) (.assign rfl) ?_)
  refine .done ?_
  refine a9 _ _ ?_
  refine .ret ?_
  refine a4 _ _ ?_
  refine ⟨_, _, _, _, _, _, rfl, ag_29_D, (by rfl), (Mem.of_get x), rfl, rfl, ?_⟩
  exact ⟨j, b2, b3, b6, a7, rfl, w, a3.keep (.of_le (.refl _)) (by omega), b5, a8⟩
end Go.Proofs.Ytjdedelneppnlaa
namespace Go.Proofs.Ytjdedelneppnlaa
open Go Go.GL Go.RowKit Go.Proofs
end Go.Proofs.Ytjdedelneppnlaa
namespace Go.Proofs.Ytjdedelneppnlaa
open Go Go.GL Go.RowKit Go.Proofs
end Go.Proofs.Ytjdedelneppnlaa
namespace Go.Proofs.Ytjdedelneppnlaa
open Go Go.GL Go.RowKit Go.Proofs
end Go.Proofs.Ytjdedelneppnlaa
namespace Go.Proofs.Ytjdedelneppnlaa
open Go Go.GL Go.RowKit Go.Proofs
theorem sz_45_Cm : (Try.prog.info? 45).map (·.size) = some 2 := by kernel_rfl
theorem fo_45_0_Cm : fieldOff Try.prog 45 0 = some 0 := by kernel_rfl
theorem fo_45_1_Cm : fieldOff Try.prog 45 1 = some 1 := by kernel_rfl
set_option maxHeartbeats 4000000 in
theorem coneMaps_c {g o : Nat} {d : Fun} {p : FunP} {m m' : Con} {q q' : ConP} {H : GHeap} (h : Fun.At H g o d p := by assumption) (hin1 : m.In H q := by assumption) (hin2 : m'.In H q' := by assumption) (hI : d.Is := by assumption) (hc : d.Cone m := by assumption) (hc' : d.Cone m' := by assumption) :
    GCalls Try.prog 146 [.pointer (some ⟨g, o, none⟩), .agg (m.cells q).toArray, .agg (m'.cells q').toArray] H (NewInts 2 H (d.coneMaps m m')) := by
  have hS := hI.2.1.1
  have b1 := hS.n40
  have b2 := hc.ll
  have b3 := hc'.ll
  have b4 := hI.2.2.ol
  have b5 := hI.1.1.obj
  have hlh := d.t.hom_le m.ap m'.ap
  refine GCalls.body (N := 53) (rs := [.tmp 6]) Try.func146 rfl rfl rfl rfl (fun Qx b6 hend => ?_)
  refine .fg [0, 1, 2] rfl ?_
  have e := GHeap.Le.refl H
  have l := h
  have a := hin1
  have b := hin2
  refine .seq (fun K1 e9 => .region ?_)
  refine .R rfl (.boxR rfl sz_45_Cm rfl) ?_
  rintro _ H4 ⟨g4, rfl, e6, ge4, r⟩
  replace e := e.trans e6
  have lt_at4 := GHeap.ltg r
  replace h := l.mono e
  replace hin1 := a.mono e
  have v : Con.At _ g4 0 m q := ⟨Mem.of_get r, hin1⟩
  refine .R rfl (.boxR rfl sz_45_Cm rfl) ?_
  rintro _ H5 ⟨g5, rfl, d3, ge5, u⟩
  replace e := e.trans d3
  replace r := d3.2 _ _ r
  have lt_at5 := GHeap.ltg u
  replace h := l.mono e
  replace hin1 := a.mono e
  replace hin2 := b.mono e
  clear v
  have v : Con.At _ g4 0 m q := ⟨Mem.of_get r, hin1⟩
  have a0 : Con.At _ g5 0 m' q' := ⟨Mem.of_get u, hin2⟩
  refine .mv rfl (.nil (e9 _ _ ?_))
  refine .scope ?_
  refine .seq (fun K2 e3 => .region (.mv rfl (.q rfl (.nilCheck rfl) (.q rfl (.fieldAddr fo_43_1_G rfl) (.mv rfl (.nil (e3 _ _ (.seq (fun K3 e7 => .region ?_)))))))))
  refine .R rfl (.litA rfl sl_22_A ze_2_L rfl rfl rfl rfl) ?_
  rintro _ f0 ⟨c8, rfl, a8, ge16, a1⟩
  replace e := e.trans a8
  replace r := a8.2 _ _ r
  replace u := a8.2 _ _ u
  have lt_at16 := GHeap.ltg a1
  replace h := l.mono e
  replace hin1 := a.mono e
  replace hin2 := b.mono e
  obtain ⟨-, ft, -, -, -, -⟩ := h.get
  clear v
  have v : Con.At _ g4 0 m q := ⟨Mem.of_get r, hin1⟩
  obtain ⟨e2, -, -⟩ := v.get
  clear a0
  have a0 : Con.At _ g5 0 m' q' := ⟨Mem.of_get u, hin2⟩
  obtain ⟨d8, -, -⟩ := a0.get
  replace a1 : GHeap.get f0 c8 = some (.row (ints []) 2 true) := a1
  refine .mv rfl (.nil (e7 _ _ (.seq (fun K4 e1 => ?_))))
  refine .label ?_
  refine e1 _ _ (.seq (fun K5 d9 => .seq (fun K6 e8 => .region (.mv rfl (.q rfl (.fieldAddr fo_45_0_Cm rfl) ?_)))))
  refine .q rfl (.load on_2_A rfl (by first | assumption | exact Mem.of_get r 0 _ rfl)) ?_
  refine .q rfl (.fieldAddr fo_45_0_Cm rfl) ?_
  refine .q rfl (.load on_2_A rfl (by first | assumption | exact Mem.of_get u 0 _ rfl)) ?_
  refine .call rfl rfl rfl rfl @Try.call63 rfl (hom_c) ?_
  rintro _ d1 ⟨a3, g22, rfl, z, ge22⟩
  replace e := e.trans a3
  replace r := a3.2 _ _ r
  replace u := a3.2 _ _ u
  replace a1 := a3.2 _ _ a1
  have lt_at22 := GHeap.ltg z
  replace h := l.mono e
  replace hin1 := a.mono e
  replace hin2 := b.mono e
  clear ft
  clear v e2
  have v : Con.At _ g4 0 m q := ⟨Mem.of_get r, hin1⟩
  clear a0 d8
  have a0 : Con.At _ g5 0 m' q' := ⟨Mem.of_get u, hin2⟩
  refine .q rfl (.len sl_22_A rfl) (.mv rfl (.nil (e8 _ _ ?_)))
  refine .block ?_
  refine .loopR (σ := Nat × Nat × Nat) [(4, some _), (5, some _), (7, some _), (22, some _), (23, some _)] (fun (i, a5, a7) => [(24, some (.int .i64 (i : Int))), (8, some (.slice (some ⟨a5, 0, none⟩) a7 a7))]) (fun (i, a5, a7) H' => St [c8] d1 H' ∧ H'.get a5 = some (.row (ints (((d.t.hom m.ap m'.ap).take i).filter (d.coneFit m m'))) 2 true) ∧ (a5 = c8 ∨ d1.next ≤ a5) ∧ a7 = (((d.t.hom m.ap m'.ap).take i).filter (d.coneFit m m')).length ∧ i ≤ (d.t.hom m.ap m'.ap).length) (fun (i, a5, a7) => (d.t.hom m.ap m'.ap).length - i) ((0, _, _)) ⟨rfl, rfl, rfl, rfl, rfl, trivial⟩ ⟨rfl, rfl, trivial⟩ ?_ ?_
  ·
   refine ⟨.refl _ _, by assumption, .inl rfl, by rfl, ?_⟩
   omega
  rintro ⟨i, a5, a7⟩ HL1 ⟨n, w, pl_L8, a6, hI⟩ KL1 a9
  refine .forget (fr' := [(24, some (.int .i64 (i : Int))), (8, some (.slice (some ⟨a5, 0, none⟩) a7 a7)), (4, some _), (5, some _), (7, some _), (22, some _), (23, some _)]) ⟨rfl, rfl, rfl, rfl, rfl, rfl, rfl, trivial⟩ ?_
  have ge_L8 : H.next ≤ a5 := by omega
  have nx_HL1 := n.nx
  replace e := e.st n (fun k hk => ⟨by omega, trivial⟩)
  replace r := n.s r
  replace u := n.s u
  replace z := n.s z
  replace h := l.mono e
  replace hin1 := a.mono e
  replace hin2 := b.mono e
  obtain ⟨-, ft, -, -, -, -⟩ := h.get
  clear v
  have v : Con.At _ g4 0 m q := ⟨Mem.of_get r, hin1⟩
  obtain ⟨-, e4, -⟩ := v.get
  have e5 := v.2
  clear a0
  have a0 : Con.At _ g5 0 m' q' := ⟨Mem.of_get u, hin2⟩
  obtain ⟨-, e0, -⟩ := a0.get
  have d5 := a0.2
  have d4 := Ints.of_get z
  have hfl := filtTake_le (xs := d.t.hom m.ap m'.ap) (P := d.coneFit m m') (i := i)
  refine .seq (fun K7 d6 => .region (.q rfl (.cmp rfl rfl rfl) (.nil (d6 _ _ (.seq (fun K8 d7 => ?_))))))
  refine .cond rfl (fun c4 => ?_) (fun c4 => ?_)
  ·
   simp only [sps] at c4
   obtain ⟨f, hf1, -, -, hf4⟩ := Cat.hom_get (c := d.t) (x := m.ap) (y := m'.ap) (i := i) (by omega)
   refine .skip ?_
   refine d7 _ _ (.seq (fun K9 d2 => ?_))
   refine .block ?_
   refine .seq (fun K10 c6 => .region ?_)
   refine .q rfl (.idxN sl_22_A (by first | assumption | exact SlA.of_row z (by first | rfl | (simp; done) | (simp <;> omega))) rfl rfl (by omega)) ?_
   refine .q rfl (.loadI on_2_A (by first | assumption | exact Ints.of_get z) rfl (by omega)) ?_
   refine .mv rfl (.nil (c6 _ _ (.seq (fun K11 c3 => .seq (fun K12 c0 => .region (.q rfl (.fieldAddr fo_45_1_Cm rfl) ?_))))))
   refine .q rfl (.load on_22_B rfl (by first | assumption | exact Mem.of_get u 1 _ rfl)) ?_
   refine .q rfl (.len sl_22_A rfl) (.mv rfl (.nil (c0 _ _ ?_)))
   refine .block ?_
   refine .loopR (σ := Nat) [(4, some _), (5, some _), (7, some _), (8, some _), (10, some _), (22, some _), (23, some _), (24, some _), (29, some _), (30, some _)] (fun j => [(31, some (.int .i64 (j : Int)))]) (fun j H' => HL1 = H' ∧ j ≤ m'.lg.length ∧ allN j (fun j => d.t.th ((d.t.hom m.ap m'.ap).getD i 0) (m'.lg.getD j 0) == m.lg.getD j 0) = true) (fun j => m'.lg.length - j) (0) ⟨rfl, rfl, rfl, rfl, rfl, rfl, rfl, rfl, rfl, rfl, trivial⟩ ⟨rfl, trivial⟩ ?_ ?_
   ·
    refine ⟨rfl, ?_⟩
    exact ⟨by omega, rfl⟩
   rintro j _ ⟨rfl, hI⟩ KL2 d0
   refine .forget (fr' := [(31, some (.int .i64 (j : Int))), (4, some _), (5, some _), (7, some _), (8, some _), (10, some _), (22, some _), (23, some _), (24, some _), (29, some _), (30, some _)]) ⟨rfl, rfl, rfl, rfl, rfl, rfl, rfl, rfl, rfl, rfl, rfl, trivial⟩ ?_
   obtain ⟨hj, hb⟩ := hI
   refine .seq (fun K13 b9 => .region (.q rfl (.cmp rfl rfl rfl) (.nil (b9 _ _ (.seq (fun K14 b7 => ?_))))))
   refine .cond rfl (fun c9 => ?_) (fun c9 => ?_)
   ·
    simp only [sps] at c9
    have w1 := hc'.lg j (by omega)
    refine .skip ?_
    refine b7 _ _ (.seq (fun K15 b8 => ?_))
    refine .block ?_
    refine .seq (fun K16 c5 => .region (.mv rfl ?_))
    refine .q rfl (.idxN sl_22_A (by assumption) rfl rfl (by omega)) ?_
    refine .q rfl (.loadI on_2_A (by assumption) rfl (by omega)) ?_
    refine .mv rfl (.mv rfl (.nil (c5 _ _ (.seq (fun K17 c7 => ?_)))))
    refine .regionD mo_B (.q 0 (.q 1 (.q 2 (.q 4 (.q 5 (.q 6 (.q 7 (.q 8 (.c 3 1 (.q 9 (.done))))))))))) (by kernel_rfl) ?_
    refine .mv rfl rfl (.mv rfl rfl (.mv rfl rfl (.q rfl (.fieldAddr fo_45_1_Cm rfl) ?_)))
    refine .q rfl (.load on_22_B rfl (by first | assumption | exact Mem.of_get r 1 _ rfl)) ?_
    refine .mv rfl rfl ?_
    refine .q rfl (.idxN sl_22_A (by assumption) rfl rfl (by omega)) ?_
    refine .q rfl (.loadI on_2_A (by assumption) rfl (by omega)) ?_
    refine .callQ1 rfl rfl rfl rfl rfl @Try.call64 rfl (then_s) (.refl _) ?_
    refine .q rfl (.cmp rfl rfl rfl) ?_
    refine .done ?_
    refine c7 _ _ ?_
    refine .cond rfl (fun b0 => ?_) (fun b0 => ?_)
    ·
     simp only [sps] at b0
     have hfit : d.coneFit m m' ((d.t.hom m.ap m'.ap).getD i 0) = false := by
       unfold Fun.coneFit
       refine allN_early (k := j + 1) ?_ (by omega)
       rw [allN_succ, hb]
       simpa using b0
     refine .exit ?_
     refine d2 _ _ (.region ?_)
     refine .q rfl (.add rfl rfl rfl (by omega) (by omega)) ?_
     refine .mv rfl (.nil ?_)
     refine a9 ((i + 1, _, _)) _ _ ?_ ?_ ⟨rfl, rfl, rfl, rfl, rfl, rfl, rfl, trivial⟩
     ·
      refine ⟨n, by (rw [filtTake_F (by omega) hfit]; assumption), by omega, by (rw [filtTake_F (by omega) hfit] <;> (first | omega | (simp only [List.length_append, List.length_cons, List.length_nil] <;> omega))), ?_⟩
      omega
     (dsimp only; omega)
    simp only [sps] at b0
    refine .skip ?_
    refine b8 _ _ (.region ?_)
    refine .q rfl (.add rfl rfl rfl (by omega) (by omega)) ?_
    refine .mv rfl (.nil ?_)
    refine d0 (j + 1) _ _ ?_ ?_ ⟨rfl, rfl, rfl, rfl, rfl, rfl, rfl, rfl, rfl, rfl, rfl, trivial⟩
    ·
     refine ⟨rfl, ?_⟩
     exact ⟨by omega, by rw [allN_succ, hb]; simpa using b0⟩
    omega
   try simp only [sps] at c9
   refine .exit ?_
   refine c3 _ _ (.region ?_)
   have hfit : d.coneFit m m' ((d.t.hom m.ap m'.ap).getD i 0) = true := by
     unfold Fun.coneFit
     rw [show m.lg.length = j by omega]
     exact hb
   refine .mv rfl (.mv rfl ?_)
   refine .R rfl (.litA rfl sl_22_A ze_2_L rfl rfl rfl rfl) ?_
   rintro _ H49 ⟨g49, rfl, a2, ge49, c2⟩
   replace e := e.trans a2
   replace n := n.le a2
   replace r := a2.2 _ _ r
   replace u := a2.2 _ _ u
   replace w := a2.2 _ _ w
   have lt_at49 := GHeap.ltg c2
   replace h := l.mono e
   replace hin1 := a.mono e
   replace hin2 := b.mono e
   clear ft
   clear v e4 e5
   have v : Con.At _ g4 0 m q := ⟨Mem.of_get r, hin1⟩
   clear a0 e0 d5
   have a0 : Con.At _ g5 0 m' q' := ⟨Mem.of_get u, hin2⟩
   clear d4
   refine .R rfl (.appendI rfl sl_22_A ze_2_L rfl by_2_L sl_22_A rfl rfl (by assumption) (by assumption) (by first | omega | (simp <;> omega)) (by omega) (by omega)) ?_
   rintro _ H50 ⟨g50, rfl, a4, ge50, at50⟩
   replace e := e.st a4 (fun k hk => ⟨by omega, trivial⟩)
   replace n := n.sA a4
   replace r := a4.s r
   replace u := a4.s u
   replace h := l.mono e
   replace hin1 := a.mono e
   replace hin2 := b.mono e
   clear v
   have v : Con.At _ g4 0 m q := ⟨Mem.of_get r, hin1⟩
   clear a0
   have a0 : Con.At _ g5 0 m' q' := ⟨Mem.of_get u, hin2⟩
   refine .mv rfl (.nil (d2 _ _ (.region ?_)))
   refine .q rfl (.add rfl rfl rfl (by omega) (by omega)) ?_
   refine .mv rfl (.nil ?_)
   refine a9 ((i + 1, _, _)) _ _ ?_ ?_ ⟨rfl, rfl, rfl, rfl, rfl, rfl, rfl, trivial⟩
   ·
    refine ⟨n, by (rw [filtTake_T (by omega) hfit]; assumption), by omega, by (rw [filtTake_T (by omega) hfit] <;> (first | omega | (simp only [List.length_append, List.length_cons, List.length_nil] <;> omega))), ?_⟩
    omega
   (dsimp only; omega)
  try simp only [sps] at c4
  refine .exit ?_
  refine d9 _ _ (.seq (fun K18 c1 => .region (.mv rfl (.mv rfl (.nil (c1 _ _ ?_))))))
  refine .ret ?_
  refine b6 _ _ ?_
  refine ⟨_, rfl, ?_⟩
  obtain rfl : i = (d.t.hom m.ap m'.ap).length := by omega
  rw [List.take_length] at w a6
  exact ⟨e, _, by rw [a6]; rfl, w, by omega⟩
end Go.Proofs.Ytjdedelneppnlaa
namespace Go.Proofs.Ytjdedelneppnlaa
open Go Go.GL Go.RowKit Go.Proofs
end Go.Proofs.Ytjdedelneppnlaa
namespace Go.Proofs.Ytjdedelneppnlaa
open Go Go.GL Go.RowKit Go.Proofs
end Go.Proofs.Ytjdedelneppnlaa
namespace Go.Proofs.Ytjdedelneppnlaa
open Go Go.GL Go.RowKit Go.Proofs
end Go.Proofs.Ytjdedelneppnlaa
namespace Go.Proofs.Ytjdedelneppnlaa
open Go Go.GL Go.RowKit Go.Proofs
end Go.Proofs.Ytjdedelneppnlaa
namespace Go.Proofs.Ytjdedelneppnlaa
open Go Go.GL Go.RowKit Go.Proofs
theorem on_153_Hh : oneT Try.prog 153 = true := by kernel_rfl
theorem on_86_Hh : oneT Try.prog 86 = true := by kernel_rfl
theorem sz_2_Hh : (Try.prog.info? 2).map (·.size) = some 1 := by kernel_rfl
theorem on_91_Hh : oneT Try.prog 91 = true := by kernel_rfl
theorem sz_86_Hh : (Try.prog.info? 86).map (·.size) = some 1 := by kernel_rfl
theorem sz_153_Hh : (Try.prog.info? 153).map (·.size) = some 1 := by kernel_rfl
theorem sz_69_Hh : (Try.prog.info? 69).map (·.size) = some 1 := by kernel_rfl
theorem ze_22_Hh : zeroT Try.prog 22 = some ([.slice none 0 0], 1) := by kernel_rfl
theorem sz_22_Hh : (Try.prog.info? 22).map (·.size) = some 1 := by kernel_rfl
theorem ze_91_Hh : zeroT Try.prog 91 = some ([.nilFunc], 1) := by kernel_rfl
theorem sz_91_Hh : (Try.prog.info? 91).map (·.size) = some 1 := by kernel_rfl
structure LgBox (gf of gc N fn fc : Nat) (w : Int) (cap : Array Value) (b1 b2 b3 b4 b5 b6 b7 : Nat) (H : GHeap) : Prop where
  k1 : H.get b1 = some (.row [.pointer (some ⟨gf, of + 0, none⟩)] 69 true)
  k2 : H.get b2 = some (.row [.func (.func fn) #[] cap] 153 true)
  k3 : H.get b3 = some (.row [.slice (some ⟨gc, 0, none⟩) N N] 22 true)
  k4 : H.get b4 = some (.row [.pointer (some ⟨gf, of + 5, none⟩)] 69 true)
  k5 : H.get b5 = some (.row [.int .i64 w] 2 true)
  k6 : H.get b6 = some (.row [.pointer (some ⟨gf, of, none⟩)] 86 true)
  k7 : H.get b7 = some (.row [.func (.func fc) #[] #[.pointer (some ⟨b1, 0, none⟩), .pointer (some ⟨b2, 0, none⟩), .pointer (some ⟨b3, 0, none⟩), .pointer (some ⟨b4, 0, none⟩), .pointer (some ⟨b5, 0, none⟩), .pointer (some ⟨b6, 0, none⟩), .pointer (some ⟨b7, 0, none⟩)]] 91 true)
def lgCap (b1 b2 b3 b4 b5 b6 b7 : Nat) : List Value := [.pointer (some ⟨b1, 0, none⟩), .pointer (some ⟨b2, 0, none⟩), .pointer (some ⟨b3, 0, none⟩), .pointer (some ⟨b4, 0, none⟩), .pointer (some ⟨b5, 0, none⟩), .pointer (some ⟨b6, 0, none⟩), .pointer (some ⟨b7, 0, none⟩)]
def LgSpec (f : Fun) (w : Int) (A : Nat → List (List Int) → Nat → GHeap → Prop) (most e0 g1 b gf of gc fn : Nat) (cap : Array Value) (b1 b2 b3 b4 b5 b6 b7 : Nat) (H0 : GHeap) (r : Nat) : Prop :=
  ∀ (x gF : Nat) (co : List Int) (fs : List (List Int)) (H : GHeap), x + r = f.ob.length → H0.Le H → LgBox gf of gc f.ob.length fn 152 w cap b1 b2 b3 b4 b5 b6 b7 H → H.get gc = some (.row (ints co) 2 true) → co.length = f.ob.length →
    (∀ i, i < x → 0 ≤ co.getD i 0 ∧ co.getD i 0 < f.t.src.length) → A b fs gF H → fs.length ≤ most → gF < H.next → H0.next ≤ gF → (gF < e0 ∨ b ≤ gF) → b ≤ H.next →
    GCalls Try.prog 152 (.int .i64 (x : Int) :: lgCap b1 b2 b3 b4 b5 b6 b7) H (fun v H' => ∃ gF' co', v = .bool (decide (fs.length + (searchL (f.cnet w).cand (f.cnet w).ok r (co.take x)).length ≤ most)) ∧ (gF' = gF ∨ H.next ≤ gF') ∧ gF' < H'.next ∧ St [gc, g1, gF] H H' ∧
      H'.get gc = some (.row (ints co') 2 true) ∧ co'.length = f.ob.length ∧ co'.take x = co.take x ∧ A b ((fs ++ searchL (f.cnet w).cand (f.cnet w).ok r (co.take x)).take (most + 1)) gF' H')
set_option maxHeartbeats 4000000 in
theorem legs0_c {f : Fun} {p : FunP} {w : Int} {A : Nat → List (List Int) → Nat → GHeap → Prop} {most e0 g1 b gf of gc fn : Nat} {cap : Array Value} {b1 b2 b3 b4 b5 b6 b7 : Nat} {H0 : GHeap} (hf : Fun.At H0 gf of f p) (hP : f.Is)
    (hH : Hears Try.prog fn cap e0 g1 most 2 A)
    (he0 : H0.next ≤ e0) (hg1 : H0.next ≤ g1) (hg2 : g1 < e0) (c0 : e0 ≤ gc ∧ gc < b) (c1 : e0 ≤ b1 ∧ b1 < b ∧ b1 ≠ gc) (c2 : e0 ≤ b2 ∧ b2 < b ∧ b2 ≠ gc) (c3 : e0 ≤ b3 ∧ b3 < b ∧ b3 ≠ gc) (c4 : e0 ≤ b4 ∧ b4 < b ∧ b4 ≠ gc) (c5 : e0 ≤ b5 ∧ b5 < b ∧ b5 ≠ gc) (c6 : e0 ≤ b6 ∧ b6 < b ∧ b6 ≠ gc) (c7 : e0 ≤ b7 ∧ b7 < b ∧ b7 ≠ gc) :
    LgSpec f w A most e0 g1 b gf of gc fn cap b1 b2 b3 b4 b5 b6 b7 H0 0 := by
  have hs := hP.1.1
  have hol := hP.2.2.ol
  have hob := hs.obj
  intro x gF co fs H hx hle0 hB hgc hl hr hA hfs hF hF0 hF1 hb
  obtain ⟨k1, k2, k3, -, -, -, -⟩ := hB
  refine GCalls.body (N := 94) (rs := [.tmp 9]) Try.func152 rfl rfl rfl rfl (fun Qx hret hend => ?_)
  refine .fg [0, 1, 2, 3, 4, 5, 6, 7] rfl ?_
  have hfo := St.refl [gc, g1, gF] H
  have hz := hle0.st hfo (fun k hk => ⟨by omega, by omega, by omega, trivial⟩)
  have hF2 := hf.mono hz
  obtain ⟨fsf, -, -, -, -, -⟩ := hF2.get
  obtain ⟨s0, -, -, -, -, -, -, -, -⟩ := fsf.get
  refine .seq (fun K1 hK1 => .region (.mv rfl (.nil (hK1 _ _ ?_))))
  refine .scope ?_
  refine .seq (fun K2 hK2 => .seq (fun K3 hK3 => .region (.mv rfl ?_)))
  refine .q rfl (.load on_69_F rfl (by first | assumption | exact Mem.of_get k1 0 _ rfl)) ?_
  refine .q rfl (.nilCheck rfl) (.q rfl (.fieldAddr fo_29_0_B rfl) ?_)
  refine .q rfl (.load on_2_A rfl (by assumption)) ?_
  refine .q rfl (.cmp rfl rfl rfl) (.nil (hK3 _ _ ?_))
  refine .cond rfl (fun h21 => ?_) (fun h21 => ?_)
  ·
   try simp only [sps] at h21
   refine .seq (fun K4 hK4 => .region ?_)
   refine .q rfl (.load on_153_Hh rfl (by first | assumption | exact Mem.of_get k2 0 _ rfl)) ?_
   refine .q rfl (.load on_22_B rfl (by first | assumption | exact Mem.of_get k3 0 _ rfl)) ?_
   refine .callV rfl rfl rfl rfl rfl hH.code rfl ((show GCalls _ fn ([.slice (some ⟨gc, 0, none⟩) f.ob.length f.ob.length] ++ cap.toList) _ _ from hl ▸ hH.run hA c0.1 c0.2 (by omega) hb hgc hfs (by omega) hF)) ?_
   rintro _ H24 ⟨rfl, gF24, hg24, hl24, st24, hA24⟩
   replace hfo := hfo.sA st24
   replace hgc := st24.same _ _ ⟨(by first | assumption | omega), (by first | assumption | omega), trivial⟩ hgc
   clear hz hF2 fsf s0
   have hz := hle0.st hfo (fun k hk => ⟨by omega, by omega, by omega, trivial⟩)
   have hF2 := hf.mono hz
   obtain ⟨fsf, -, -, -, -, -⟩ := hF2.get
   refine .mv rfl (.nil (hK4 _ _ ?_))
   refine .ret ?_
   refine hret _ _ ?_
   refine ⟨_, rfl, ?_⟩
   have hx0 : co.take x = co := List.take_of_length_le (by omega)
   refine ⟨gF24, co, ?_, hg24, hl24, hfo, hgc, hl, rfl, ?_⟩
   · rw [hx0]; rfl
   · rw [hx0, show searchL (f.cnet w).cand (f.cnet w).ok 0 co = [co] from rfl, List.take_of_length_le (by simp; omega)]
     exact hA24
  simp only [sps] at h21; omega
set_option maxHeartbeats 4000000 in
theorem legsS_c {f : Fun} {p : FunP} {w : Int} {A : Nat → List (List Int) → Nat → GHeap → Prop} {most e0 g1 b gf of gc fn : Nat} {cap : Array Value} {b1 b2 b3 b4 b5 b6 b7 : Nat} {H0 : GHeap} (hf : Fun.At H0 gf of f p) (hP : f.Is)
    (hH : Hears Try.prog fn cap e0 g1 most 2 A)
    (he0 : H0.next ≤ e0) (hg1 : H0.next ≤ g1) (hg2 : g1 < e0) (c0 : e0 ≤ gc ∧ gc < b) (c1 : e0 ≤ b1 ∧ b1 < b ∧ b1 ≠ gc) (c2 : e0 ≤ b2 ∧ b2 < b ∧ b2 ≠ gc) (c3 : e0 ≤ b3 ∧ b3 < b ∧ b3 ≠ gc) (c4 : e0 ≤ b4 ∧ b4 < b ∧ b4 ≠ gc) (c5 : e0 ≤ b5 ∧ b5 < b ∧ b5 ≠ gc) (c6 : e0 ≤ b6 ∧ b6 < b ∧ b6 ≠ gc) (c7 : e0 ≤ b7 ∧ b7 < b ∧ b7 ≠ gc) {r : Nat} (ih : LgSpec f w A most e0 g1 b gf of gc fn cap b1 b2 b3 b4 b5 b6 b7 H0 r) :
    LgSpec f w A most e0 g1 b gf of gc fn cap b1 b2 b3 b4 b5 b6 b7 H0 (r + 1) := by
  have hs := hP.1.1
  have n40 := hs.n40
  have hol := hP.2.2.ol
  have hob := hs.obj
  have htl := hs.tl
  have hal2 := hP.2.2.al
  have ht40 := hP.2.1.1.n40
  have hTS := hP.2.1.1
  have hcl0 := hTS.cl
  intro x gF co fs H hx hle0 hB hgc hl hr hA hfs hF hF0 hF1 hb
  obtain ⟨k1, k2, k3, k4, k5, k6, k7⟩ := hB
  refine GCalls.body (N := 94) (rs := [.tmp 9]) Try.func152 rfl rfl rfl rfl (fun Qx hret hend => ?_)
  refine .fg [0, 1, 2, 3, 4, 5, 6, 7] rfl ?_
  have lt_hgc := GHeap.ltg hgc
  have hfo := St.refl [gc, g1, gF] H
  have hz := hle0.st hfo (fun k hk => ⟨by omega, by omega, by omega, trivial⟩)
  have hF2 := hf.mono hz
  obtain ⟨fsf, ftf, c10f, -, j1f, -⟩ := hF2.get
  obtain ⟨s0, -, -, -, -, -, -, -, -⟩ := fsf.get
  refine .seq (fun K1 hK1 => .region (.mv rfl (.nil (hK1 _ _ ?_))))
  refine .scope ?_
  refine .seq (fun K2 hK2 => .seq (fun K3 hK3 => .region (.mv rfl ?_)))
  refine .q rfl (.load on_69_F rfl (by first | assumption | exact Mem.of_get k1 0 _ rfl)) ?_
  refine .q rfl (.nilCheck rfl) (.q rfl (.fieldAddr fo_29_0_B rfl) ?_)
  refine .q rfl (.load on_2_A rfl (by assumption)) ?_
  refine .q rfl (.cmp rfl rfl rfl) (.nil (hK3 _ _ ?_))
  refine .cond rfl (fun h21 => ?_) (fun h21 => ?_)
  ·
   simp only [sps] at h21; omega
  try simp only [sps] at h21
  refine .skip ?_
  refine hK2 _ _ (.seq (fun K4 hK4 => ?_))
  refine .label ?_
  refine hK4 _ _ (.seq (fun K5 hK5 => .seq (fun K6 hK6 => ?_)))
  refine .regionD mo_B (.q 0 (.q 1 (.q 2 (.q 3 (.q 4 (.q 5 (.q 6 (.q 7 (.q 8 (.q 11 (.c 9 1 (.q 10 (.done))))))))))))) (by kernel_rfl) ?_
  refine .q rfl (.load on_69_F rfl (by first | assumption | exact Mem.of_get k4 0 _ rfl)) ?_
  refine .q rfl (.load on_2_A rfl (by first | assumption | exact Mem.of_get k5 0 _ rfl)) ?_
  refine .q rfl (.load on_86_Hh rfl (by first | assumption | exact Mem.of_get k6 0 _ rfl)) ?_
  refine .q rfl (.nilCheck rfl) (.q rfl (.fieldAddr fo_43_2_G rfl) ?_)
  refine .q rfl (.load on_22_B rfl (by assumption)) ?_
  refine .mv rfl rfl ?_
  refine .q rfl (.idxN sl_22_A (by assumption) rfl rfl (by omega)) ?_
  refine .q rfl (.loadI on_2_A (by assumption) rfl (by omega)) ?_
  refine .mv rfl rfl ?_
  refine .call1 rfl rfl rfl rfl rfl @Try.call63 rfl (hom_c (c := f.t)) ?_
  rintro _ H34 ⟨le34, g34, rfl, at34, ge34⟩
  have hbl := le34
  refine ⟨hbl, ?_⟩
  replace hfo := hfo.le le34
  replace k1 := le34.2 _ _ k1
  replace k2 := le34.2 _ _ k2
  replace k3 := le34.2 _ _ k3
  replace k4 := le34.2 _ _ k4
  replace k5 := le34.2 _ _ k5
  replace k6 := le34.2 _ _ k6
  replace k7 := le34.2 _ _ k7
  replace hgc := le34.2 _ _ hgc
  have lt_at34 := GHeap.ltg at34
  clear hz hF2 fsf ftf c10f j1f s0
  have hz := hle0.st hfo (fun k hk => ⟨by omega, by omega, by omega, trivial⟩)
  have hF2 := hf.mono hz
  obtain ⟨fsf, -, -, -, -, -⟩ := hF2.get
  have hhl := Cat.hom_le f.t w (f.ob.getD x 0)
  refine .m rfl rfl rfl rfl hbl (.len sl_22_A rfl) ?_
  refine .done ?_
  refine hK6 _ _ ?_
  refine .block ?_
  refine .loopR (σ := Nat × Nat × List Int) [(0, some _), (1, some _), (3, some _), (4, some _), (6, some _), (7, some _), (34, some _), (35, some _)] (fun (j, gV, co') => [(36, some (.int .i64 (j : Int)))]) (fun (j, gV, co') H' => St [gc, g1, gF] H34 H' ∧ H'.get gc = some (.row (ints co') 2 true) ∧ j ≤ (f.t.hom w (f.ob.getD x 0)).length ∧ co'.length = f.ob.length ∧ co'.take x = co.take x ∧ (gV = gF ∨ H34.next ≤ gV) ∧ gV < H'.next ∧ A b (fs ++ chP (f.cnet w) (fun _ => true) r (co.take x) (f.t.hom w (f.ob.getD x 0)) j) gV H' ∧ (fs ++ chP (f.cnet w) (fun _ => true) r (co.take x) (f.t.hom w (f.ob.getD x 0)) j).length ≤ most) (fun (j, gV, co') => (f.t.hom w (f.ob.getD x 0)).length - j) ((0, gF, co)) ⟨rfl, rfl, rfl, rfl, rfl, rfl, rfl, rfl, trivial⟩ ⟨rfl, trivial⟩ ?_ ?_
  ·
   refine ⟨.refl _ _, by first | assumption | exact hgc | simpa using hgc, ?_⟩
   rw [chP_zero, List.append_nil]
   exact ⟨by omega, hl, rfl, .inl rfl, by omega, hH.le hA le34, hfs⟩
  rintro ⟨j, gV, co'⟩ HL1 ⟨lst1, at_Lgc, hI⟩ KL1 hKL1
  refine .forget (fr' := [(36, some (.int .i64 (j : Int))), (0, some _), (1, some _), (3, some _), (4, some _), (6, some _), (7, some _), (34, some _), (35, some _)]) ⟨rfl, rfl, rfl, rfl, rfl, rfl, rfl, rfl, rfl, trivial⟩ ?_
  have nx_HL1 := lst1.nx
  replace hfo := hfo.sA lst1
  have ne_b1_gc : NE b1 gc := .a
  replace k1 := lst1.same _ _ ⟨ne_b1_gc.ne, (by first | assumption | omega), (by first | assumption | omega), trivial⟩ k1
  have ne_b2_gc : NE b2 gc := .a
  replace k2 := lst1.same _ _ ⟨ne_b2_gc.ne, (by first | assumption | omega), (by first | assumption | omega), trivial⟩ k2
  have ne_b3_gc : NE b3 gc := .a
  replace k3 := lst1.same _ _ ⟨ne_b3_gc.ne, (by first | assumption | omega), (by first | assumption | omega), trivial⟩ k3
  have ne_b4_gc : NE b4 gc := .a
  replace k4 := lst1.same _ _ ⟨ne_b4_gc.ne, (by first | assumption | omega), (by first | assumption | omega), trivial⟩ k4
  have ne_b5_gc : NE b5 gc := .a
  replace k5 := lst1.same _ _ ⟨ne_b5_gc.ne, (by first | assumption | omega), (by first | assumption | omega), trivial⟩ k5
  have ne_b6_gc : NE b6 gc := .a
  replace k6 := lst1.same _ _ ⟨ne_b6_gc.ne, (by first | assumption | omega), (by first | assumption | omega), trivial⟩ k6
  have ne_b7_gc : NE b7 gc := .a
  replace k7 := lst1.same _ _ ⟨ne_b7_gc.ne, (by first | assumption | omega), (by first | assumption | omega), trivial⟩ k7
  replace at34 := lst1.same _ _ ⟨(by first | assumption | omega), (by first | assumption | omega), (by first | assumption | omega), trivial⟩ at34
  clear hz hF2 fsf
  have hz := hle0.st hfo (fun k hk => ⟨by omega, by omega, by omega, trivial⟩)
  have hF2 := hf.mono hz
  obtain ⟨fsf, -, -, -, -, -⟩ := hF2.get
  have i34 := Ints.of_get at34
  obtain ⟨hj, hcl, hct, hgV, hgl, hAL, hfl⟩ := hI
  refine .seq (fun K7 hK7 => .region (.q rfl (.cmp rfl rfl rfl) (.nil (hK7 _ _ (.seq (fun K8 hK8 => ?_))))))
  refine .cond rfl (fun h37 => ?_) (fun h37 => ?_)
  ·
   simp only [sps] at h37
   obtain ⟨v, v1, -, -, v4⟩ := Cat.hom_get (c := f.t) (x := w) (y := f.ob.getD x 0) (i := j) (by omega)
   refine .skip ?_
   refine hK8 _ _ (.seq (fun K9 hK9 => ?_))
   refine .block ?_
   refine .seq (fun K10 hK10 => .region ?_)
   refine .q rfl (.idxN sl_22_A (by first | assumption | exact SlA.of_row at34 (by first | rfl | (simp; done) | (simp <;> omega))) rfl rfl (by omega)) ?_
   refine .q rfl (.loadI on_2_A (by first | assumption | exact Ints.of_get at34) rfl (by omega)) ?_
   refine .mv rfl (.nil (hK10 _ _ (.seq (fun K11 hK11 => .region ?_))))
   refine .q rfl (.load on_22_B rfl (by first | assumption | exact Mem.of_get k3 0 _ rfl)) ?_
   refine .mv rfl (.mv rfl ?_)
   refine .q rfl (.idxN sl_22_A (by first | assumption | exact SlA.of_row at_Lgc (by first | rfl | (simp; done) | (simp <;> omega))) rfl rfl (by omega)) ?_
   refine .r0 rfl rfl (.storeI rfl sz_2_Hh rfl rfl (by assumption) (by first | omega | (simp <;> omega))) ?_
   rintro _ H6004 ⟨rfl, st6004, at6004⟩
   have nx_H6004 := st6004.nx
   replace hfo := hfo.sA st6004
   replace lst1 := lst1.sA st6004
   replace k1 := st6004.s k1 ne_b1_gc.ne
   replace k2 := st6004.s k2 ne_b2_gc.ne
   replace k3 := st6004.s k3 ne_b3_gc.ne
   replace k4 := st6004.s k4 ne_b4_gc.ne
   replace k5 := st6004.s k5 ne_b5_gc.ne
   replace k6 := st6004.s k6 ne_b6_gc.ne
   replace k7 := st6004.s k7 ne_b7_gc.ne
   clear hz hF2 fsf
   have hz := hle0.st hfo (fun k hk => ⟨by omega, by omega, by omega, trivial⟩)
   have hF2 := hf.mono hz
   obtain ⟨fsf, ftf, -, c11f, -, j2f⟩ := hF2.get
   obtain ⟨-, s1, s2, -, -, u1, u2, -, -⟩ := fsf.get
   clear i34
   rw [Nat.zero_add] at at6004
   refine .nil (hK11 _ _ (.seq (fun K12 hK12 => .seq (fun K13 hK13 => .region ?_))))
   have hv : ∀ i, i ≤ x → 0 ≤ (co'.set x ((f.t.hom w (f.ob.getD x 0)).getD j 0)).getD i 0 ∧ (co'.set x ((f.t.hom w (f.ob.getD x 0)).getD j 0)).getD i 0 < f.t.src.length ∧ (co'.set x ((f.t.hom w (f.ob.getD x 0)).getD j 0)).getD i 0 = (co.take x ++ [(f.t.hom w (f.ob.getD x 0)).getD j 0]).getD i 0 := fun i hi => by
     refine ⟨?_, ?_, by rw [take_set_getD (by omega) hi, hct]⟩
     · rw [getD_set (by omega)]
       split
       · omega
       · rw [takeD hct (by omega)]; exact (hr i (by omega)).1
     · rw [getD_set (by omega)]
       split
       · omega
       · rw [takeD hct (by omega)]; exact (hr i (by omega)).2
   have hpl : (co.take x).length = x := by rw [List.length_take]; omega
   have hsl : (co'.set x ((f.t.hom w (f.ob.getD x 0)).getD j 0)).length = f.ob.length := by rw [List.length_set]; exact hcl
   refine .q rfl (.load on_86_Hh rfl (by first | assumption | exact Mem.of_get k6 0 _ rfl)) ?_
   refine .q rfl (.nilCheck rfl) (.q rfl (.fieldAddr fo_43_3_G rfl) ?_)
   refine .q rfl (.load on_22_B rfl (by assumption)) ?_
   refine .q rfl (.len sl_22_A rfl) (.mv rfl (.nil (hK13 _ _ ?_)))
   refine .block ?_
   refine .loopR (σ := Nat) [(0, some _), (1, some _), (3, some _), (4, some _), (6, some _), (7, some _), (34, some _), (35, some _), (36, some _), (47, some _), (48, some _)] (fun a => [(49, some (.int .i64 (a : Int)))]) (fun a H' => H6004 = H' ∧ a ≤ f.ar.length ∧ allN a ((f.cnet w).okAt (co.take x ++ [(f.t.hom w (f.ob.getD x 0)).getD j 0]) x) = true) (fun a => f.ar.length - a) (0) ⟨rfl, rfl, rfl, rfl, rfl, rfl, rfl, rfl, rfl, rfl, rfl, trivial⟩ ⟨rfl, trivial⟩ ?_ ?_
   ·
    refine ⟨rfl, ?_⟩
    exact ⟨by omega, rfl⟩
   rintro a _ ⟨rfl, hI⟩ KL2 hKL2
   refine .forget (fr' := [(49, some (.int .i64 (a : Int))), (0, some _), (1, some _), (3, some _), (4, some _), (6, some _), (7, some _), (34, some _), (35, some _), (36, some _), (47, some _), (48, some _)]) ⟨rfl, rfl, rfl, rfl, rfl, rfl, rfl, rfl, rfl, rfl, rfl, rfl, trivial⟩ ?_
   obtain ⟨ha, hb1⟩ := hI
   refine .seq (fun K14 hK14 => .region (.q rfl (.cmp rfl rfl rfl) (.nil (hK14 _ _ (.seq (fun K15 hK15 => ?_))))))
   refine .cond rfl (fun h50 => ?_) (fun h50 => ?_)
   ·
    simp only [sps] at h50
    have a1 := hs.src a (by omega)
    have a2 := hs.tgt a (by omega)
    have a3 := hP.2.2.ar a (by omega)
    refine .skip ?_
    refine hK15 _ _ (.seq (fun K16 hK16 => ?_))
    refine .block ?_
    refine .seq (fun K17 hK17 => .region (.mv rfl ?_))
    refine .q rfl (.idxN sl_22_A (by assumption) rfl rfl (by omega)) ?_
    refine .q rfl (.loadI on_2_A (by assumption) rfl (by omega)) ?_
    refine .mv rfl (.mv rfl (.nil (hK17 _ _ (.seq (fun K18 hK18 => ?_)))))
    refine .regionD mo_B (.q 0 (.q 1 (.q 2 (.q 3 (.q 4 (.q 5 (.q 6 (.q 7 (.q 8 (.q 9 (.q 10 (.q 11 (.q 12 (.q 13 (.q 14 (.q 15 (.done))))))))))))))))) (by kernel_rfl) ?_
    refine .q rfl (.load on_69_F rfl (by first | assumption | exact Mem.of_get k1 0 _ rfl)) ?_
    refine .q rfl (.nilCheck rfl) (.q rfl (.fieldAddr fo_29_1_B rfl) ?_)
    refine .q rfl (.load on_22_B rfl (by assumption)) ?_
    refine .mv rfl rfl ?_
    refine .q rfl (.idxN sl_22_A (by assumption) rfl rfl (by omega)) ?_
    refine .q rfl (.loadI on_2_A (by assumption) rfl (by omega)) ?_
    refine .q rfl (.load on_69_F rfl (by first | assumption | exact Mem.of_get k1 0 _ rfl)) ?_
    refine .q rfl (.nilCheck rfl) (.q rfl (.fieldAddr fo_29_2_B rfl) ?_)
    refine .q rfl (.load on_22_B rfl (by assumption)) ?_
    refine .mv rfl rfl ?_
    refine .q rfl (.idxN sl_22_A (by assumption) rfl rfl (by omega)) ?_
    refine .q rfl (.loadI on_2_A (by assumption) rfl (by omega)) ?_
    refine .mv rfl rfl (.mv rfl rfl ?_)
    refine .done ?_
    refine hK18 _ _ (.seq (fun K19 hK19 => ?_))
    refine .regionD mo_B (.q 0 (.q 1 (.q 2 (.q 3 (.q 4 (.q 5 (.q 6 (.q 7 (.q 8 (.q 9 (.q 10 (.q 11 (.q 13 (.q 14 (.q 15 (.q 16 (.c 12 1 (.q 17 (.q 18 (.done)))))))))))))))))))) (by kernel_rfl) ?_
    refine .cut [(0, some _), (1, some _), (3, some _), (4, some _), (6, some _), (7, some _), (12, some _), (13, some _), (14, some _), (15, some _), (34, some _), (35, some _), (36, some _), (47, some _), (48, some _), (49, some _), (50, some _), (51, some _), (52, some _), (53, some _), (54, some _), (55, some _), (56, some _), (57, some _), (58, some _), (59, some _), (60, some _), (61, some _), (62, some _), (63, some _), (64, some _), (65, some _), (66, some _), (67, some _)] ⟨rfl, rfl, rfl, rfl, rfl, rfl, rfl, rfl, rfl, rfl, rfl, rfl, rfl, rfl, rfl, rfl, rfl, rfl, rfl, rfl, rfl, rfl, rfl, rfl, rfl, rfl, rfl, rfl, rfl, rfl, rfl, rfl, rfl, rfl, trivial⟩ (fun rest fr' H' => ∃ b' : Bool, Sub ((86, some (.bool b')) :: rest) fr' ∧ H6004 = H' ∧ b' = !((f.cnet w).okAt (co.take x ++ [(f.t.hom w (f.ob.getD x 0)).getD j 0]) x a)) ?_ ?_
    ·
     refine .mv rfl rfl (.mv rfl rfl (.q rfl (.max2 rfl rfl) (.mv rfl rfl (.q rfl (.cmp rfl rfl rfl) (.mv rfl rfl ?_)))))
     refine .split (fun h73 => ?_) (fun h73 => ?_)
     ·
      simp only [sps] at h73
      refine .qg rfl (.load on_69_F rfl (by first | assumption | exact Mem.of_get k4 0 _ rfl)) ?_
      refine .qg rfl (.load on_22_B rfl (by first | assumption | exact Mem.of_get k3 0 _ rfl)) ?_
      refine .qg rfl (.move rfl) ?_
      refine .qg rfl (.idx1 sl_22_A (by first | assumption | exact SlA.of_row at6004 (by first | rfl | (simp; done) | (simp <;> omega))) rfl rfl (by omega) (by omega)) ?_
      refine .qg rfl (.loadI on_2_A (by first | assumption | exact Ints.of_get at6004) rfl (by omega)) ?_
      refine .qg rfl (.move rfl) ?_
      refine .qg rfl (.load on_22_B rfl (by first | assumption | exact Mem.of_get k3 0 _ rfl)) ?_
      refine .qg rfl (.move rfl) ?_
      refine .qg rfl (.idx1 sl_22_A (by first | assumption | exact SlA.of_row at6004 (by first | rfl | (simp; done) | (simp <;> omega))) rfl rfl (by omega) (by omega)) ?_
      refine .qg rfl (.loadI on_2_A (by first | assumption | exact Ints.of_get at6004) rfl (by omega)) ?_
      have w1 := hv (f.s.src.getD a 0).toNat (by omega)
      have w3 := hTS.row ((co'.set x ((f.t.hom w (f.ob.getD x 0)).getD j 0)).getD (f.s.src.getD a 0).toNat 0).toNat (by omega)
      have hcc := then_c (c := f.t) (f := (co'.set x ((f.t.hom w (f.ob.getD x 0)).getD j 0)).getD (f.s.src.getD a 0).toNat 0) (k := f.ar.getD a 0) ftf w1.1 (by omega) a3.1 (by omega)
      refine .callQ1g rfl rfl rfl rfl rfl rfl rfl @Try.call64 rfl (hcc) (.refl _) ?_
      refine .qg rfl (.cmp rfl rfl rfl) (.q rfl (.pickT rfl rfl) ?_)
      refine .done ?_
      refine ⟨_, ⟨rfl, rfl, rfl, rfl, rfl, rfl, rfl, rfl, rfl, rfl, rfl, rfl, rfl, rfl, rfl, rfl, rfl, rfl, rfl, rfl, rfl, rfl, rfl, rfl, rfl, rfl, rfl, rfl, rfl, rfl, rfl, rfl, rfl, rfl, rfl, trivial⟩, rfl, ?_⟩
      rw [Net.okAt_2 (show max (f.s.src.getD a 0).toNat (f.s.tgt.getD a 0).toNat = x by omega)]; exact cnet_ne (hv (f.s.src.getD a 0).toNat (by omega)).2.2 (hv (f.s.tgt.getD a 0).toNat (by omega)).2.2
     simp only [sps] at h73
     refine .z rfl (.z rfl (.z rfl (.z rfl (.z rfl (.z rfl (.z rfl (.z rfl (.z rfl (.z rfl (.sgc rfl rfl rfl rfl rfl rfl (.z rfl (.q rfl (.pickF rfl rfl) ?_))))))))))))
     refine .done ?_
     refine ⟨_, ⟨rfl, rfl, rfl, rfl, rfl, rfl, rfl, rfl, rfl, rfl, rfl, rfl, rfl, rfl, rfl, rfl, rfl, rfl, rfl, rfl, rfl, rfl, rfl, rfl, rfl, rfl, rfl, rfl, rfl, rfl, rfl, rfl, rfl, rfl, rfl, trivial⟩, rfl, ?_⟩
     rw [Net.okAt_1 (show ¬ max (f.s.src.getD a 0).toNat (f.s.tgt.getD a 0).toNat = x by omega)]; rfl
    rintro frJ11 _ ⟨b', hsubJ11, rfl, hJ11⟩
    refine hK19 _ _ ?_
    refine .forget hsubJ11 ?_
    refine .cond rfl (fun h86 => ?_) (fun h86 => ?_)
    ·
     have hG0 : chG (f.cnet w) (fun _ => true) r (co.take x) ((f.t.hom w (f.ob.getD x 0)).getD j 0) = [] := chG_bad (by rw [hpl, Net.ok_eq]; exact allN_early (k := a + 1) (by rw [allN_succ, hb1, bnot_T (hJ11.symm.trans h86)]; rfl) (show a + 1 ≤ f.ar.length by omega))
     obtain ⟨coX, hcX⟩ : ∃ z, z = co'.set x ((f.t.hom w (f.ob.getD x 0)).getD j 0) := ⟨_, rfl⟩
     obtain ⟨gX, hgX⟩ : ∃ z, z = gV := ⟨_, rfl⟩
     refine .exit ?_
     refine hK9 _ _ (.region ?_)
     refine .q rfl (.add rfl rfl rfl (by omega) (by omega)) ?_
     refine .mv rfl (.nil ?_)
     refine hKL1 ((j + 1, gX, coX)) _ _ ?_ ?_ ⟨rfl, rfl, rfl, rfl, rfl, rfl, rfl, rfl, rfl, trivial⟩
     ·
      refine ⟨lst1, by first | assumption | (rw [hcX]; assumption), ?_⟩
      subst hcX
      subst hgX
      first
      | exact ⟨by omega, by rw [List.length_set]; exact hcl, by rw [take_set_lt]; exact hct, hgV, by omega, by rw [chP_no (by omega) hG0]; exact hH.st hAL c0.1 c0.2 (by omega) st6004, by rw [chP_no (by omega) hG0]; exact hfl⟩
      | exact ⟨by omega, hlc91, htk2, by omega, hl91, hA92, hfl2⟩
     (dsimp only; omega)
    have hok := bnot_f (hJ11.symm.trans h86)
    refine .skip ?_
    refine hK16 _ _ (.region ?_)
    refine .q rfl (.add rfl rfl rfl (by omega) (by omega)) ?_
    refine .mv rfl (.nil ?_)
    refine hKL2 (a + 1) _ _ ?_ ?_ ⟨rfl, rfl, rfl, rfl, rfl, rfl, rfl, rfl, rfl, rfl, rfl, rfl, trivial⟩
    ·
     refine ⟨rfl, ?_⟩
     exact ⟨by omega, by rw [allN_succ, hb1, hok]; rfl⟩
    omega
   try simp only [sps] at h50
   refine .exit ?_
   refine hK12 _ _ (.seq (fun K20 hK20 => .region ?_))
   refine .q rfl (.load on_91_Hh rfl (by first | assumption | exact Mem.of_get k7 0 _ rfl)) ?_
   refine .mv rfl ?_
   refine .q rfl (.add rfl rfl rfl (by omega) (by omega)) ?_
   obtain rfl : a = f.ar.length := by omega
   have hok1 : (f.cnet w).ok (co.take x).length (co.take x ++ [(f.t.hom w (f.ob.getD x 0)).getD j 0]) = true := by rw [hpl, Net.ok_eq]; exact hb1
   have hts : (co'.set x ((f.t.hom w (f.ob.getD x 0)).getD j 0)).take (x + 1) = co.take x ++ [(f.t.hom w (f.ob.getD x 0)).getD j 0] := by rw [take_set_succ (by omega), hct]
   have hG1 : chG (f.cnet w) (fun _ => true) r (co.take x) ((f.t.hom w (f.ob.getD x 0)).getD j 0) = searchL (f.cnet w).cand (f.cnet w).ok r ((co'.set x ((f.t.hom w (f.ob.getD x 0)).getD j 0)).take (x + 1)) := by rw [hts]; exact chG_yes rfl hok1
   have hrr : ∀ i, i < x + 1 → 0 ≤ (co'.set x ((f.t.hom w (f.ob.getD x 0)).getD j 0)).getD i 0 ∧ (co'.set x ((f.t.hom w (f.ob.getD x 0)).getD j 0)).getD i 0 < f.t.src.length := fun i hi => ⟨(hv i (by omega)).1, (hv i (by omega)).2.1⟩
   have hA7 := hH.st hAL c0.1 c0.2 (by omega) st6004
   refine .callV rfl rfl rfl rfl rfl @Try.call152 rfl ((ih (x + 1) gV (co'.set x ((f.t.hom w (f.ob.getD x 0)).getD j 0)) (fs ++ chP (f.cnet w) (fun _ => true) r (co.take x) (f.t.hom w (f.ob.getD x 0)) j) _ (by omega) hz ⟨k1, k2, k3, k4, k5, k6, k7⟩ at6004 hsl hrr hA7 hfl (by omega) (by omega) (by omega) (by omega))) ?_
   rintro _ H91 ⟨gF91, co91, rfl, hg91, hl91, st91, at91, hlc91, htk91, hA91⟩
   replace hfo := hfo.sA st91
   replace lst1 := lst1.sA st91
   clear hz hF2 fsf ftf c11f j2f s1 s2 u1 u2
   have hz := hle0.st hfo (fun k hk => ⟨by omega, by omega, by omega, trivial⟩)
   have hF2 := hf.mono hz
   obtain ⟨fsf, -, -, -, -, -⟩ := hF2.get
   refine .q rfl (.not rfl) (.nil (hK20 _ _ ?_))
   refine .cond rfl (fun h92 => ?_) (fun h92 => ?_)
   ·
    have hbig := of_decide_eq_false (bnot_T h92)
    refine .seq (fun K21 hK21 => .region (.mv rfl (.nil (hK21 _ _ ?_))))
    refine .ret ?_
    refine hret _ _ ?_
    refine ⟨_, rfl, ?_⟩
    have hcd : (f.cnet w).cand (co.take x).length = (f.t.hom w (f.ob.getD x 0)).filter (fun _ => true) := by rw [hpl]; exact (List.filter_eq_self.2 (fun _ _ => rfl)).symm
    have hcs := chP_succ (n := f.cnet w) (al := fun _ => true) (r := r) (p := co.take x) (hs := (f.t.hom w (f.ob.getD x 0))) (j := j) (by omega)
    rw [← hG1] at hbig hA91
    have hbl : most + 1 ≤ (fs ++ chP (f.cnet w) (fun _ => true) r (co.take x) (f.t.hom w (f.ob.getD x 0)) (j + 1)).length := by rw [hcs, ← List.append_assoc, List.length_append]; omega
    obtain ⟨f1, f2⟩ := chP_full (M := most + 1) hcd (by omega) hbl
    refine ⟨gF91, co91, ?_, by omega, hl91, hfo, at91, hlc91, by rw [take_le_eq htk91 (by omega), take_set_lt]; exact hct, ?_⟩
    · rw [decide_eq_false (by omega)]
    · rw [f1, hcs, ← List.append_assoc]
      exact hA91
   have hsm := of_decide_eq_true (bnot_f h92)
   obtain ⟨coX, hcX⟩ : ∃ z, z = co91 := ⟨_, rfl⟩
   obtain ⟨gX, hgX⟩ : ∃ z, z = gF91 := ⟨_, rfl⟩
   have hcs := chP_succ (n := f.cnet w) (al := fun _ => true) (r := r) (p := co.take x) (hs := (f.t.hom w (f.ob.getD x 0))) (j := j) (by omega)
   have htk2 : co91.take x = co.take x := by rw [take_le_eq htk91 (by omega), take_set_lt]; exact hct
   rw [← hG1] at hsm hA91
   have hfl2 : (fs ++ chP (f.cnet w) (fun _ => true) r (co.take x) (f.t.hom w (f.ob.getD x 0)) (j + 1)).length ≤ most := by rw [hcs, ← List.append_assoc, List.length_append]; exact hsm
   have hA92 := hA91
   rw [List.append_assoc, ← hcs, List.take_of_length_le (by omega)] at hA92
   refine .skip ?_
   refine hK9 _ _ (.region ?_)
   refine .q rfl (.add rfl rfl rfl (by omega) (by omega)) ?_
   refine .mv rfl (.nil ?_)
   refine hKL1 ((j + 1, gX, coX)) _ _ ?_ ?_ ⟨rfl, rfl, rfl, rfl, rfl, rfl, rfl, rfl, rfl, trivial⟩
   ·
    refine ⟨lst1, by first | assumption | (rw [hcX]; assumption), ?_⟩
    subst hcX
    subst hgX
    first
    | exact ⟨by omega, by rw [List.length_set]; exact hcl, by rw [take_set_lt]; exact hct, hgV, by omega, by rw [chP_no (by omega) hG0]; exact hH.st hAL c0.1 c0.2 (by omega) st6004, by rw [chP_no (by omega) hG0]; exact hfl⟩
    | exact ⟨by omega, hlc91, htk2, by omega, hl91, hA92, hfl2⟩
   (dsimp only; omega)
  try simp only [sps] at h37
  refine .exit ?_
  refine hK5 _ _ (.seq (fun K22 hK22 => .region (.mv rfl (.nil (hK22 _ _ ?_)))))
  refine .ret ?_
  refine hret _ _ ?_
  refine ⟨_, rfl, ?_⟩
  have hpl : (co.take x).length = x := by rw [List.length_take]; omega
  have hcd : (f.cnet w).cand (co.take x).length = (f.t.hom w (f.ob.getD x 0)).filter (fun _ => true) := by rw [hpl]; exact (List.filter_eq_self.2 (fun _ _ => rfl)).symm
  have hj2 : j = (f.t.hom w (f.ob.getD x 0)).length := by omega
  have e9 := chP_all (r := r) hcd
  rw [← hj2] at e9
  refine ⟨gV, co', ?_, by omega, hgl, hfo, at_Lgc, hcl, hct, ?_⟩
  · rw [e9, decide_eq_true (by rw [← List.length_append]; exact hfl)]
  · rw [e9, List.take_of_length_le (by omega)]
    exact hAL
theorem legsC_c {f : Fun} {p : FunP} {w : Int} {A : Nat → List (List Int) → Nat → GHeap → Prop} {most e0 g1 b gf of gc fn : Nat} {cap : Array Value} {b1 b2 b3 b4 b5 b6 b7 : Nat} {H0 : GHeap} (hf : Fun.At H0 gf of f p) (hP : f.Is)
    (hH : Hears Try.prog fn cap e0 g1 most 2 A)
    (he0 : H0.next ≤ e0) (hg1 : H0.next ≤ g1) (hg2 : g1 < e0) (c0 : e0 ≤ gc ∧ gc < b) (c1 : e0 ≤ b1 ∧ b1 < b ∧ b1 ≠ gc) (c2 : e0 ≤ b2 ∧ b2 < b ∧ b2 ≠ gc) (c3 : e0 ≤ b3 ∧ b3 < b ∧ b3 ≠ gc) (c4 : e0 ≤ b4 ∧ b4 < b ∧ b4 ≠ gc) (c5 : e0 ≤ b5 ∧ b5 < b ∧ b5 ≠ gc) (c6 : e0 ≤ b6 ∧ b6 < b ∧ b6 ≠ gc) (c7 : e0 ≤ b7 ∧ b7 < b ∧ b7 ≠ gc) (r : Nat) : LgSpec f w A most e0 g1 b gf of gc fn cap b1 b2 b3 b4 b5 b6 b7 H0 r := by
  induction r with
  | zero => exact legs0_c hf hP hH he0 hg1 hg2 c0 c1 c2 c3 c4 c5 c6 c7
  | succ r ih => exact legsS_c hf hP hH he0 hg1 hg2 c0 c1 c2 c3 c4 c5 c6 c7 ih
set_option maxHeartbeats 4000000 in
theorem legs_c {f : Fun} {p : FunP} {w : Int} {A : Nat → List (List Int) → Nat → GHeap → Prop} {most g1 gF gf of fn : Nat} {cap : Array Value} {H0 H : GHeap} (hf0 : Fun.At H0 gf of f p) (hP : f.Is)
    (hH : Hears Try.prog fn cap H.next g1 most 2 A)
    (hle0 : H0.Le H) (hg1 : H0.next ≤ g1) (hg2 : g1 < H.next) (hF0 : H0.next ≤ gF) (hF : gF < H.next) {fs : List (List Int)} (hfs : fs.length ≤ most) (hA : ∀ b, A b fs gF H) :
    GCalls Try.prog 144 [.pointer (some ⟨gf, of, none⟩), .int .i64 w, .func (.func fn) #[] cap] H (fun v H' => ∃ gF' b, v = .bool (decide (fs.length + ((f.cnet w).sols f.ob.length).length ≤ most)) ∧ H.next ≤ b ∧ b ≤ H'.next ∧ (gF' = gF ∨ H.next ≤ gF') ∧ gF' < H'.next ∧ St [g1, gF] H H' ∧ A b ((fs ++ (f.cnet w).sols f.ob.length).take (most + 1)) gF' H') := by
  have hol := hP.2.2.ol
  have hob := hP.1.1.obj
  have hf := hf0.mono hle0
  refine GCalls.body (N := 26) (rs := [.tmp 6]) Try.func144 rfl rfl rfl rfl (fun Qx d4 hend => ?_)
  refine .fg [0, 1, 2] rfl ?_
  have j := GHeap.Le.refl H
  have d := hf
  refine .seq (fun K1 f0 => .region ?_)
  refine .R rfl (.boxR rfl sz_86_Hh rfl) ?_
  rintro _ H3 ⟨g3, rfl, e4, ge3, u⟩
  replace j := j.trans e4
  have lt_at3 := GHeap.ltg u
  replace hf := d.mono j
  refine .R rfl (.boxR rfl sz_2_Hh rfl) ?_
  rintro _ H4 ⟨g4, rfl, e1, ge4, a3⟩
  replace j := j.trans e1
  replace u := e1.2 _ _ u
  have lt_at4 := GHeap.ltg a3
  replace hf := d.mono j
  refine .R rfl (.boxR rfl sz_153_Hh rfl) ?_
  rintro _ H5 ⟨g5, rfl, d7, ge5, a6⟩
  replace j := j.trans d7
  replace u := d7.2 _ _ u
  replace a3 := d7.2 _ _ a3
  have lt_at5 := GHeap.ltg a6
  replace hf := d.mono j
  refine .mv rfl (.nil (f0 _ _ (.seq (fun K2 e5 => ?_))))
  refine .regionD mo_B (.q 0 (.q 1 (.q 2 (.q 3 (.q 4 (.q 5 (.or (.c 6 1 (.c 7 1 (.c 8 1 (.c 9 1 (.done))))) (.c 7 1 (.c 6 1 (.c 8 1 (.c 9 1 (.done)))))))))))) (by kernel_rfl) ?_
  refine .cut [(0, some _), (1, some _), (2, some _), (3, some _), (4, some _), (5, some _), (6, some _)] ⟨rfl, rfl, rfl, rfl, rfl, rfl, rfl, trivial⟩ (fun rest fr' H' => ∃ g7 g8, Sub ((7, some (.pointer (some ⟨g7, 0, none⟩))) :: (8, some (.pointer (some ⟨g8, 0, none⟩))) :: rest) fr' ∧ H5.Le H' ∧ H5.next ≤ g7 ∧ H5.next ≤ g8 ∧ H'.get g7 = some (.row ([.pointer (some ⟨gf, of + 5, none⟩)]) 69 true) ∧ H'.get g8 = some (.row ([.pointer (some ⟨gf, of + 0, none⟩)]) 69 true) ∧ g7 ≠ g8) ?_ ?_
  ·
   have hf0 := GHeap.Le.refl H5
   refine .q rfl (.load on_86_Hh rfl (by first | assumption | exact Mem.of_get u 0 _ rfl)) ?_
   refine .qB rfl (.refl _) (.nilCheck rfl) (.qB rfl (.refl _) (.fieldAddr fo_43_1_G rfl) ?_)
   refine .q rfl (.load on_86_Hh rfl (by first | assumption | exact Mem.of_get u 0 _ rfl)) ?_
   refine .qB rfl (.refl _) (.nilCheck rfl) (.qB rfl (.refl _) (.fieldAddr fo_43_0_G rfl) ?_)
   refine .orI ?_ ?_
   ·
    refine .c1 rfl rfl rfl rfl (.allocR rfl ze_69_G rfl) ?_
    rintro _ H7x2 ⟨d2, rfl, c4, ge7x2, b0⟩
    have x := c4
    refine ⟨x, ?_⟩
    have lt_at7x2 := GHeap.ltg b0
    replace hf0 := hf0.trans c4
    refine .c1 rfl rfl rfl rfl (.allocR rfl ze_69_G rfl) ?_
    rintro _ H8x2 ⟨c8, rfl, c0, ge8x2, c3⟩
    replace x := x.trans c0
    refine ⟨x, ?_⟩
    replace b0 := c0.2 _ _ b0
    replace hf0 := hf0.trans c0
    refine .r1 rfl rfl rfl (.storeR rfl sz_69_Hh rfl rfl rfl (by assumption) (by first | exact Nat.le_of_ble_eq_true rfl | (simp; done) | (simp <;> omega))) ?_
    rintro _ H1008 ⟨rfl, a4, a0⟩
    replace x := x.st a4 (fun k hk => ⟨by omega, trivial⟩)
    refine ⟨x, ?_⟩
    have n : NE c8 d2 := .a
    replace c3 := a4.s c3 n.ne
    try simp only [Nat.zero_add, List.set_cons_succ, List.set_cons_zero] at a0
    replace hf0 := hf0.st a4 (fun k hk => ⟨by omega, trivial⟩)
    refine .r1 rfl rfl rfl (.storeR rfl sz_69_Hh rfl rfl rfl (by assumption) (by first | exact Nat.le_of_ble_eq_true rfl | (simp; done) | (simp <;> omega))) ?_
    rintro _ H1009 ⟨rfl, a5, b8⟩
    replace x := x.st a5 (fun k hk => ⟨by omega, trivial⟩)
    refine ⟨x, ?_⟩
    replace a0 := a5.s a0 (Ne.symm n.ne)
    try simp only [Nat.zero_add, List.set_cons_succ, List.set_cons_zero] at b8
    replace hf0 := hf0.st a5 (fun k hk => ⟨by omega, trivial⟩)
    refine .done ?_
    exact ⟨d2, c8, ⟨rfl, rfl, rfl, rfl, rfl, rfl, rfl, rfl, rfl, trivial⟩, hf0, by omega, by omega, by first | assumption | simpa using a0, by first | assumption | simpa using b8, by omega⟩
   refine .c1 rfl rfl rfl rfl (.allocR rfl ze_69_G rfl) ?_
   rintro _ H8x3 ⟨c7, rfl, c5, ge8x3, a1⟩
   have x := c5
   refine ⟨x, ?_⟩
   have lt_at8x3 := GHeap.ltg a1
   replace hf0 := hf0.trans c5
   refine .c1 rfl rfl rfl rfl (.allocR rfl ze_69_G rfl) ?_
   rintro _ H7x3 ⟨d0, rfl, c2, ge7x3, at7x3⟩
   replace x := x.trans c2
   refine ⟨x, ?_⟩
   replace a1 := c2.2 _ _ a1
   replace hf0 := hf0.trans c2
   refine .r1 rfl rfl rfl (.storeR rfl sz_69_Hh rfl rfl rfl (by assumption) (by first | exact Nat.le_of_ble_eq_true rfl | (simp; done) | (simp <;> omega))) ?_
   rintro _ H1008x2 ⟨rfl, r, l⟩
   replace x := x.st r (fun k hk => ⟨by omega, trivial⟩)
   refine ⟨x, ?_⟩
   have m : NE c7 d0 := .a
   replace a1 := r.s a1 m.ne
   try simp only [Nat.zero_add, List.set_cons_succ, List.set_cons_zero] at l
   replace hf0 := hf0.st r (fun k hk => ⟨by omega, trivial⟩)
   refine .r1 rfl rfl rfl (.storeR rfl sz_69_Hh rfl rfl rfl (by assumption) (by first | exact Nat.le_of_ble_eq_true rfl | (simp; done) | (simp <;> omega))) ?_
   rintro _ H1009x2 ⟨rfl, o, a2⟩
   replace x := x.st o (fun k hk => ⟨by omega, trivial⟩)
   refine ⟨x, ?_⟩
   replace l := o.s l (Ne.symm m.ne)
   try simp only [Nat.zero_add, List.set_cons_succ, List.set_cons_zero] at a2
   replace hf0 := hf0.st o (fun k hk => ⟨by omega, trivial⟩)
   refine .done ?_
   exact ⟨d0, c7, ⟨rfl, rfl, rfl, rfl, rfl, rfl, rfl, rfl, rfl, trivial⟩, hf0, by omega, by omega, by first | assumption | simpa using l, by first | assumption | simpa using a2, by omega⟩
  rintro fr8 H8 ⟨g7, g8, c9, d3, ge7, ge8, a8, a9, ne8_0⟩
  replace j := j.trans d3
  replace u := d3.2 _ _ u
  replace a3 := d3.2 _ _ a3
  replace a6 := d3.2 _ _ a6
  have lt_at7 := GHeap.ltg a8
  have lt_at8 := GHeap.ltg a9
  replace hf := d.mono j
  obtain ⟨-, -, d6, -, -, -⟩ := hf.get
  refine e5 _ _ ?_
  refine .forget c9 ?_
  refine .seq (fun K3 e7 => .region ?_)
  refine .q rfl (.load on_86_Hh rfl (by first | assumption | exact Mem.of_get u 0 _ rfl)) ?_
  refine .q rfl (.nilCheck rfl) (.q rfl (.fieldAddr fo_43_2_G rfl) ?_)
  refine .q rfl (.load on_22_B rfl (by assumption)) ?_
  refine .q rfl (.len sl_22_A rfl) ?_
  refine .R rfl (.makeIN rfl sl_22_A ze_2_L by_2_L rfl rfl (by omega) (by omega) (by omega)) ?_
  rintro _ H22 ⟨e6, rfl, a7, ge22, t⟩
  replace j := j.trans a7
  replace u := a7.2 _ _ u
  replace a3 := a7.2 _ _ a3
  replace a6 := a7.2 _ _ a6
  replace a8 := a7.2 _ _ a8
  replace a9 := a7.2 _ _ a9
  have lt_at22 := GHeap.ltg t
  replace hf := d.mono j
  clear d6
  refine .R rfl (.allocR rfl ze_22_Hh rfl) ?_
  rintro _ H9 ⟨g9, rfl, c6, ge9, at9⟩
  replace j := j.trans c6
  replace u := c6.2 _ _ u
  replace a3 := c6.2 _ _ a3
  replace a6 := c6.2 _ _ a6
  replace a8 := c6.2 _ _ a8
  replace a9 := c6.2 _ _ a9
  replace t := c6.2 _ _ t
  replace hf := d.mono j
  refine .r0 rfl rfl (.storeR rfl sz_22_Hh rfl rfl rfl (by assumption) (by first | exact Nat.le_of_ble_eq_true rfl | (simp; done) | (simp <;> omega))) ?_
  rintro _ H2007 ⟨rfl, g, h⟩
  replace j := j.st g (fun k hk => ⟨by omega, trivial⟩)
  replace u := g.s u
  replace a3 := g.s a3
  replace a6 := g.s a6
  replace a8 := g.s a8
  replace a9 := g.s a9
  replace t := g.s t
  have lt_at2007 := GHeap.ltg h
  replace hf := d.mono j
  try simp only [Nat.zero_add, List.set_cons_succ, List.set_cons_zero] at h
  refine .nil (e7 _ _ (.seq (fun K4 e3 => .region ?_)))
  refine .R rfl (.allocR rfl ze_91_Hh rfl) ?_
  rintro _ H10 ⟨e9, rfl, z, ge10, at10⟩
  have nx_H10 := z.1
  replace j := j.trans z
  replace u := z.2 _ _ u
  replace a3 := z.2 _ _ a3
  replace a6 := z.2 _ _ a6
  replace a8 := z.2 _ _ a8
  replace a9 := z.2 _ _ a9
  replace t := z.2 _ _ t
  replace h := z.2 _ _ h
  replace hf := d.mono j
  refine .nil (e3 _ _ (.seq (fun K5 e2 => .region (.q rfl (.makeFunc rfl) ?_))))
  refine .r0 rfl rfl (.storeR rfl sz_91_Hh rfl rfl rfl (by assumption) (by first | exact Nat.le_of_ble_eq_true rfl | (simp; done) | (simp <;> omega))) ?_
  rintro _ b9 ⟨rfl, e, y⟩
  have nx_H4001 := e.nx
  replace j := j.st e (fun k hk => ⟨by omega, trivial⟩)
  replace u := e.s u
  replace a3 := e.s a3
  replace a6 := e.s a6
  replace a8 := e.s a8
  replace a9 := e.s a9
  replace t := e.s t
  replace h := e.s h
  have lt_at4001 := GHeap.ltg y
  replace hf := d.mono j
  try simp only [Nat.zero_add, List.set_cons_succ, List.set_cons_zero] at y
  refine .nil (e2 _ _ (.seq (fun K6 e8 => .region ?_)))
  refine .q rfl (.load on_91_Hh rfl (by first | assumption | exact Mem.of_get y 0 _ rfl)) ?_
  refine .callV rfl rfl rfl rfl rfl @Try.call152 rfl ((legsC_c (b := b9.next) (gc := e6) (b1 := g8) (b2 := g5) (b3 := g9) (b4 := g7) (b5 := g4) (b6 := g3) (b7 := e9) (e0 := H.next) hf0 hP hH hle0.1 hg1 hg2 (by omega) (by omega) (by omega) (by omega) (by omega) (by omega) (by omega) (by omega) f.ob.length 0 gF (List.replicate f.ob.length 0) fs b9 (by omega) (hle0.trans j) ⟨a9, a6, h, a8, a3, u, y⟩ t (by simp) (fun i hi => by omega) (hH.le (hA _) j) hfs (by omega) hF0 (.inl hF) (Nat.le_refl _))) ?_
  rintro _ H25 ⟨d5, co25, rfl, hg25, d9, d1, at25, hlc25, htk25, d8⟩
  refine .mv rfl (.nil (e8 _ _ ?_))
  refine .ret ?_
  refine d4 _ _ ?_
  refine ⟨_, rfl, ?_⟩
  exact ⟨d5, b9.next, rfl, by omega, d1.nx, by omega, d9, (St.of_le (bs := [g1, gF]) j).st d1 (fun k hk ho => ⟨by omega, ho.1, ho.2.1, trivial⟩), d8⟩
end Go.Proofs.Ytjdedelneppnlaa
namespace Go.Proofs.Ytjdedelneppnlaa
open Go Go.GL Go.RowKit Go.Proofs
theorem on_130_Hi : oneT Try.prog 130 = true := by kernel_rfl
theorem bt_45_Hi : buildT Try.prog 45 = some ([.int .i64 0, .slice none 0 0], [(0, 1), (1, 1)]) := by kernel_rfl
theorem sl_130_Hi : sliceT Try.prog 130 = some (45, 2) := by kernel_rfl
theorem ze_45_Hi : zeroT Try.prog 45 = some ([.int .i64 0, .slice none 0 0], 2) := by kernel_rfl
theorem by_45_Hi : (Try.prog.info? 45).map (·.bytes) = some 32 := by kernel_rfl
theorem sz_130_Hi : (Try.prog.info? 130).map (·.size) = some 1 := by kernel_rfl
theorem ze_130_Hi : zeroT Try.prog 130 = some ([.slice none 0 0], 1) := by kernel_rfl
theorem allCones1_c {go gx gF gc b0 e0 b : Nat} {x : Int} {pre : List Con} {q : List Int} {fs : List (List Int)} {H : GHeap} (hA : GathC 130 45 2 2 go gx b0 e0 x pre b fs gF H) (hgc : H.get gc = some (.row (ints q) 2 true)) (n1 : gc ≠ go) (n2 : gc ≠ gF) (n6 : go ≠ gx) (hb : b ≤ H.next) (hb0 : b0 ≤ b) (hfs : pre.length + fs.length ≤ 400) (hq : q.length ≤ 8) :
    GCalls Try.prog 145 [.slice (some ⟨gc, 0, none⟩) q.length q.length, .pointer (some ⟨go, 0, none⟩), .pointer (some ⟨gx, 0, none⟩)] H (fun v H' => v = .bool (decide (fs.length + 1 ≤ 400 - pre.length)) ∧ ∃ gF', (gF' = gF ∨ H.next ≤ gF') ∧ gF' < H'.next ∧ St [go, gF] H H' ∧ GathC 130 45 2 2 go gx b0 e0 x pre b (fs ++ [q]) gF' H') := by
  obtain ⟨hd, hmo, r, hgF, hR, hside⟩ := hA
  have a2 := hd
  have p := hgF
  have n3 := row_ne hd hgF rfl
  have n4 := row_ne hmo hgF rfl
  have hln : (pre ++ fs.map fun l => (⟨x, l⟩ : Con)).length = pre.length + fs.length := by simp
  have hfl := length_conV r (pre ++ fs.map fun l => (⟨x, l⟩ : Con))
  refine GCalls.body (N := 15) (rs := [.tmp 4]) Try.func145 rfl rfl rfl rfl (fun Qx t hend => ?_)
  refine .fg [0, 1, 2] rfl ?_
  have lt_hd := GHeap.ltg hd
  have lt_hgF := GHeap.ltg hgF
  have hfo := St.refl [go, gF] H
  refine .seq (fun K1 z => .region (.mv rfl (.nil (z _ _ (.seq (fun K2 y => ?_))))))
  refine .regionD mo_B (.q 0 (.q 1 (.q 2 (.c 3 1 (.q 4 (.c 5 1 (.c 6 0 (.c 7 0 (.done))))))))) (by kernel_rfl) ?_
  refine .q rfl (.load on_130_Hi rfl (by first | assumption | exact Mem.of_get hd 0 _ rfl)) ?_
  refine .q rfl (.load on_2_A rfl (by first | assumption | exact Mem.of_get hmo 0 _ rfl)) ?_
  refine .mv rfl rfl ?_
  refine .call1 rfl rfl rfl rfl rfl @Try.call95 rfl (clone_c (Ints.of_get hgc)) ?_
  rintro _ H8 ⟨n, g8, rfl, k, ge8⟩
  have o := n
  refine ⟨o, ?_⟩
  replace hfo := hfo.le n
  replace hd := n.2 _ _ hd
  replace hmo := n.2 _ _ hmo
  replace hgF := n.2 _ _ hgF
  have lt_at8 := GHeap.ltg k
  refine .m rfl rfl rfl rfl o (.build bt_45_Hi rfl rfl rfl) ?_
  refine .c1 rfl rfl rfl rfl (.litA rfl sl_130_Hi ze_45_Hi rfl rfl rfl rfl) ?_
  rintro _ H10 ⟨g10, rfl, f, ge10, u⟩
  have o := f
  refine ⟨o, ?_⟩
  replace hfo := hfo.le f
  replace hd := f.2 _ _ hd
  replace hmo := f.2 _ _ hmo
  replace hgF := f.2 _ _ hgF
  replace k := f.2 _ _ k
  have lt_at10 := GHeap.ltg u
  refine .c0 rfl rfl rfl rfl (.appendV rfl sl_130_Hi ze_45_Hi rfl by_45_Hi sl_130_Hi rfl rfl (by assumption) (by assumption) (by first | omega | (simp <;> omega)) rfl rfl (by omega) (by omega)) ?_
  rintro _ H11 ⟨a0, rfl, j, ge11, h⟩
  replace hfo := hfo.sA j
  replace hd := j.s hd
  replace hmo := j.s hmo
  replace k := j.s k
  have lt_at11 := GHeap.ltg h
  refine .r0 rfl rfl rfl (.storeR rfl sz_130_Hi rfl rfl rfl (by assumption) (by first | exact Nat.le_of_ble_eq_true rfl | (simp; done) | (simp <;> omega))) ?_
  rintro _ H1007 ⟨rfl, a, d⟩
  have nx_H1007 := a.nx
  replace hfo := hfo.sA a
  replace hmo := a.s hmo
  replace k := a.s k
  replace h := a.s h
  try simp only [Nat.zero_add, List.set_cons_succ, List.set_cons_zero] at d
  refine .done ?_
  refine y _ _ (.seq (fun K3 w => .region ?_))
  refine .q rfl (.load on_130_Hi rfl (by first | assumption | exact Mem.of_get d 0 _ rfl)) ?_
  refine .q rfl (.len sl_130_Hi rfl) (.q rfl (.cmp rfl rfl rfl) (.mv rfl (.nil (w _ _ ?_))))
  refine .ret ?_
  refine t _ _ ?_
  refine ⟨_, rfl, ?_⟩
  have hsn : pre ++ (fs ++ [q]).map (fun l => (⟨x, l⟩ : Con)) = (pre ++ fs.map fun l => (⟨x, l⟩ : Con)) ++ [⟨x, q⟩] := by simp
  have a1 := hR.st hfo (.cons (hR.neT a2 rfl) (.cons (hR.neT p rfl) (.nil _ _)))
  have hw := a1.snoc2 (x := q) k (hR.ne (by omega)) (by omega)
  rw [List.length_map] at hw
  refine ⟨congrArg _ (decide_eq_decide.2 (by omega)), a0, .inr (by omega), by omega, hfo, ?_, hmo, ⟨upd r (pre ++ fs.map fun l => (⟨x, l⟩ : Con)).length (some ⟨g8, 0, none⟩), ?_, ?_, fun i hi g hg => ?_⟩⟩
  · rw [hsn, List.length_append]; exact d
  · rw [hsn, conV_snoc]; exact h
  · rw [hsn, List.map_append]; exact hw
  · by_cases e : i = (pre ++ fs.map fun l => (⟨x, l⟩ : Con)).length
    · subst e
      rw [upd_eq] at hg
      cases hg
      right; omega
    · rw [upd_ne e] at hg
      rw [hsn, List.length_append, List.length_singleton] at hi
      exact hside i (by omega) g hg
set_option maxHeartbeats 4000000 in
theorem allCones_c {g o : Nat} {d : Fun} {p : FunP} {H : GHeap} (h : Fun.At H g o d p := by assumption) (hP : d.Is) :
    GCalls Try.prog 134 [.pointer (some ⟨g, o, none⟩)] H (fun v H' => H.Le H' ∧ ((400 < (d.coneL d.t.obj.toNat).length ∧ v = .tuple #[.slice none 0 0, .bool false]) ∨ ((d.coneL d.t.obj.toNat).length ≤ 400 ∧ ∃ gL r, v = .tuple #[.slice (some ⟨gL, 0, none⟩) (d.coneL d.t.obj.toNat).length (d.coneL d.t.obj.toNat).length, .bool true] ∧ H.next ≤ gL ∧ ConsAt 45 2 H.next H' gL r (d.coneL d.t.obj.toNat)))) := by
  have hob := hP.2.1.1.obj
  refine GCalls.body (N := 25) (rs := [.tmp 2, .tmp 3]) Try.func134 rfl rfl rfl rfl (fun Qx b2 hend => ?_)
  refine .fg [0] rfl ?_
  have e := GHeap.Le.refl H
  have c := h
  obtain ⟨-, ft, -, -, -, -⟩ := h.get
  refine .seq (fun K1 d9 => .region (.mv rfl (.mv rfl (.nil (d9 _ _ (.seq (fun K2 d1 => .region ?_)))))))
  refine .R rfl (.litA rfl sl_130_Hi ze_45_Hi rfl rfl rfl rfl) ?_
  rintro _ H7 ⟨g7, rfl, d2, ge7, a9⟩
  replace e := e.trans d2
  have lt_at7 := GHeap.ltg a9
  replace h := c.mono e
  clear ft
  obtain ⟨-, ft, -, -, -, -⟩ := h.get
  refine .R rfl (.allocR rfl ze_130_Hi rfl) ?_
  rintro _ H4 ⟨g4, rfl, c6, ge4, at4⟩
  replace e := e.trans c6
  replace a9 := c6.2 _ _ a9
  replace h := c.mono e
  clear ft
  obtain ⟨-, ft, -, -, -, -⟩ := h.get
  refine .r0 rfl rfl (.storeR rfl sz_130_Hi rfl rfl rfl (by assumption) (by first | exact Nat.le_of_ble_eq_true rfl | (simp; done) | (simp <;> omega))) ?_
  rintro _ H1002 ⟨rfl, a7, f⟩
  replace e := e.st a7 (fun k hk => ⟨by omega, trivial⟩)
  replace a9 := a7.s a9
  have lt_at1002 := GHeap.ltg f
  replace h := c.mono e
  clear ft
  obtain ⟨-, ft, -, -, -, -⟩ := h.get
  try simp only [Nat.zero_add, List.set_cons_succ, List.set_cons_zero] at f
  refine .nil (d1 _ _ (.seq (fun K3 d7 => .seq (fun K4 d0 => .region ?_))))
  refine .R rfl (.allocR rfl ze_2_L rfl) ?_
  rintro _ H5 ⟨g5, rfl, b6, ge5, at5⟩
  have nx_H5 := b6.1
  replace e := e.trans b6
  replace a9 := b6.2 _ _ a9
  replace f := b6.2 _ _ f
  replace h := c.mono e
  clear ft
  obtain ⟨-, ft, -, -, -, -⟩ := h.get
  refine .r0 rfl rfl (.storeR rfl sz_2_Hh rfl rfl rfl (by assumption) (by first | exact Nat.le_of_ble_eq_true rfl | (simp; done) | (simp <;> omega))) ?_
  rintro _ a8 ⟨rfl, a1, a4⟩
  have nx_H2001 := a1.nx
  replace e := e.st a1 (fun k hk => ⟨by omega, trivial⟩)
  replace a9 := a1.s a9
  replace f := a1.s f
  have lt_at2001 := GHeap.ltg a4
  replace h := c.mono e
  clear ft
  obtain ⟨-, ft, -, -, -, -⟩ := h.get
  try simp only [Nat.zero_add, List.set_cons_succ, List.set_cons_zero] at a4
  refine .nil (d0 _ _ ?_)
  refine .block ?_
  refine .loopR (σ := Nat × Nat × Nat) [(0, some _), (4, some _)] (fun (x, gx, gV) => [(5, some (.pointer (some ⟨gx, 0, none⟩)))]) (fun (x, gx, gV) H' => St [g4, g7] a8 H' ∧ x ≤ d.t.obj.toNat ∧ (d.coneL x).length ≤ 400 ∧ (gx = g5 ∨ a8.next ≤ gx) ∧ gx < H'.next ∧ (gV = g7 ∨ a8.next ≤ gV) ∧ gV < H'.next ∧ gx ≠ gV ∧ H'.get gx = some (.row [.int .i64 (x : Int)] 2 true) ∧ H'.get g4 = some (.row [.slice (some ⟨gV, 0, none⟩) (d.coneL x).length (d.coneL x).length] 130 true) ∧ ∃ r, H'.get gV = some (.row (conV r (d.coneL x)) 45 true) ∧ OwnL H.next H' 2 r ((d.coneL x).map Con.lg)) (fun (x, gx, gV) => d.t.obj.toNat - x) ((0, g5, g7)) ⟨rfl, rfl, trivial⟩ ⟨rfl, trivial⟩ ?_ ?_
  ·
   refine ⟨.refl _ _, ?_⟩
   exact ⟨by omega, by simp [Fun.coneL], .inl rfl, by omega, .inl rfl, by omega, by omega, a4, f, fun _ => none, a9, .nil _ _ _ _⟩
  rintro ⟨x, gx, gV⟩ HL1 ⟨y, hI⟩ KL1 c0
  refine .forget (fr' := [(5, some (.pointer (some ⟨gx, 0, none⟩))), (0, some _), (4, some _)]) ⟨rfl, rfl, rfl, trivial⟩ ?_
  have nx_HL1 := y.nx
  replace e := e.st y (fun k hk => ⟨by omega, by omega, trivial⟩)
  replace h := c.mono e
  clear ft
  obtain ⟨fs, ft, d3, d5, j1, j2⟩ := h.get
  have hm : MemN _ _ _ _ _ := ⟨rfl, h.1⟩
  have hi := h.2
  have hms : MemN _ _ _ _ _ := ⟨rfl, fs.1⟩
  have his := fs.2
  have hmt : MemN _ _ _ _ _ := ⟨rfl, ft.1⟩
  have hit := ft.2
  obtain ⟨s0, s1, s2, s3, s4, u1, u2, u3, u4⟩ := ft.get
  obtain ⟨hx, hcl, hgx, hgxl, hgV, hgVl, hxv, hix, hd, r, hgc, hR⟩ := hI
  have c5 := Mem.of_get hix 0 _ rfl
  refine .seq (fun K5 c9 => .seq (fun K6 d8 => ?_))
  refine .regionD mo_B (.q 0 (.q 1 (.q 2 (.q 3 (.q 4 (.q 5 (.q 6 (.done)))))))) (by kernel_rfl) ?_
  refine .q rfl (.load on_2_A rfl (by assumption)) ?_
  refine .mv rfl rfl (.q rfl (.nilCheck rfl) (.q rfl (.fieldAddr fo_43_1_G rfl) (.q rfl (.fieldAddr fo_29_0_B rfl) ?_)))
  refine .q rfl (.load on_2_A rfl (by assumption)) ?_
  refine .q rfl (.cmp rfl rfl rfl) ?_
  refine .done ?_
  refine d8 _ _ ?_
  refine .cond rfl (fun c2 => ?_) (fun c2 => ?_)
  ·
   simp only [sps] at c2
   refine .skip ?_
   refine c9 _ _ (.seq (fun K7 c7 => ?_))
   refine .block ?_
   refine .seq (fun K8 c8 => .region (.mv rfl ?_))
   refine .q rfl (.load on_2_A rfl (by assumption)) ?_
   refine .q rfl (.makeFunc rfl) ?_
   have hears : Hears Try.prog 145 #[.pointer (some ⟨g4, 0, none⟩), .pointer (some ⟨gx, 0, none⟩)] HL1.next g4 (400 - (d.coneL x).length) 2 (fun b fs gF H' => GathC 130 45 2 2 g4 gx H.next HL1.next (x : Int) (d.coneL x) b fs gF H') := ⟨@Try.call145, fun h s => h.le s, fun h h1 h2 h3 s => h.st s (by omega) (by omega) h3 h1 h2, fun hA h1 h2 h3 h4 h5 h6 h7 _ => allCones1_c hA h5 (by omega) h3 (by omega) h4 (by omega) (by omega) h7⟩
   refine .call rfl rfl rfl rfl @Try.call144 rfl ((legs_c (H0 := H) (w := (x : Int)) (gF := gV) (g1 := g4) (fs := []) c hP hears e (by omega) (by omega) (by omega) (by omega) (by simp) (fun b => ⟨by simpa using hd, hix, r, by simpa using hgc, by simpa using hR, fun i hi g hg => .inl (hR.side i (by simpa using hi) g hg)⟩))) ?_
   rintro _ d6 ⟨b5, b20, rfl, hb20, hbb20, hg20, hl20, b1, b9⟩
   obtain ⟨a2, b4, e0, u, b3, -⟩ := b9
   have a3 := St.refl [] d6
   have nx_H20 := b1.nx
   replace e := e.st b1 (fun k hk => ⟨by omega, by omega, trivial⟩)
   replace y := y.sA b1
   have lt_hd20 := GHeap.ltg a2
   replace h := c.mono e
   clear fs ft d3 d5 j1 j2 hm hi hms his hmt hit s0 s1 s2 s3 s4 u1 u2 u3 u4
   obtain ⟨-, ft, -, -, -, -⟩ := h.get
   refine .mv rfl (.nil (c8 _ _ (.seq (fun K9 d4 => .region (.mv rfl (.q rfl (.not rfl) (.nil (d4 _ _ ?_))))))))
   refine .cond rfl (fun c3 => ?_) (fun c3 => ?_)
   ·
    have hbig := Fun.coneL_big (d := d) (x := x) (n := d.t.obj.toNat) (by omega) (by have := of_decide_eq_false (bnot_T c3); rw [List.length_nil, Nat.zero_add] at this; exact this) hcl
    refine .seq (fun K10 c4 => .region (.mv rfl (.mv rfl (.nil (c4 _ _ ?_)))))
    refine .ret ?_
    refine b2 _ _ ?_
    refine ⟨_, _, rfl, rfl, ?_⟩
    exact ⟨e, .inl ⟨hbig, rfl⟩⟩
   have hsm := of_decide_eq_true (bnot_f c3)
   rw [List.length_nil, Nat.zero_add] at hsm
   have hE := Fun.coneL_next hsm
   have hlen : (d.coneL (x + 1)).length ≤ 400 := by rw [Fun.coneL_succ, List.length_append, List.length_map]; omega
   rw [hE] at a2 u b3
   refine .skip ?_
   refine c7 _ _ (.seq (fun K11 c1 => .seq (fun K12 b8 => .region ?_)))
   have c5b := Mem.of_get b4 0 _ rfl
   refine .q rfl (.load on_2_A rfl (by assumption)) ?_
   refine .nil (b8 _ _ (.region ?_))
   refine .R rfl (.allocR rfl ze_2_L rfl) ?_
   rintro _ H5x2 ⟨b0, rfl, a0, ge5x2, at5x2⟩
   have nx_H5x2 := a0.1
   replace e := e.trans a0
   replace y := y.le a0
   replace a3 := a3.le a0
   replace a2 := a0.2 _ _ a2
   replace u := a0.2 _ _ u
   replace h := c.mono e
   clear ft
   obtain ⟨-, ft, -, -, -, -⟩ := h.get
   refine .r0 rfl rfl (.storeR rfl sz_2_Hh rfl rfl rfl (by assumption) (by first | exact Nat.le_of_ble_eq_true rfl | (simp; done) | (simp <;> omega))) ?_
   rintro _ H9001 ⟨rfl, m, a6⟩
   have nx_H9001 := m.nx
   replace e := e.st m (fun k hk => ⟨by omega, trivial⟩)
   replace y := y.sA m
   replace a3 := a3.sA m
   have z : NE g4 b0 := .a
   replace a2 := m.s a2 z.ne
   have j : NE b5 b0 := .a
   replace u := m.s u j.ne
   replace h := c.mono e
   clear ft
   obtain ⟨-, ft, -, -, -, -⟩ := h.get
   try simp only [Nat.zero_add, List.set_cons_succ, List.set_cons_zero] at a6
   refine .nil (c1 _ _ (.region ?_))
   refine .q rfl (.load on_2_A rfl (by first | assumption | exact Mem.of_get a6 0 _ rfl)) ?_
   refine .q rfl (.add rfl rfl rfl (by omega) (by omega)) ?_
   refine .r0 rfl rfl (.storeR rfl sz_2_Hh rfl rfl rfl (by assumption) (by first | exact Nat.le_of_ble_eq_true rfl | (simp; done) | (simp <;> omega))) ?_
   rintro _ H4002 ⟨rfl, l, a5⟩
   have nx_H4002 := l.nx
   replace e := e.st l (fun k hk => ⟨by omega, trivial⟩)
   replace y := y.sA l
   replace a3 := a3.sA l
   replace a2 := l.s a2 z.ne
   replace u := l.s u j.ne
   have lt_at4002 := GHeap.ltg a5
   replace h := c.mono e
   clear ft
   obtain ⟨-, ft, -, -, -, -⟩ := h.get
   try simp only [Nat.zero_add, List.set_cons_succ, List.set_cons_zero] at a5
   refine .nil ?_
   refine c0 ((x + 1, b0, b5)) _ _ ?_ ?_ ⟨rfl, rfl, rfl, trivial⟩
   ·
    refine ⟨y, ?_⟩
    exact ⟨by omega, hlen, .inr (by omega), by omega, by omega, by omega, by omega, a5, a2, e0, u, b3.mono (a3.le_of_nil)⟩
   (dsimp only; omega)
  simp only [sps] at c2
  refine .exit ?_
  refine d7 _ _ (.seq (fun K13 b7 => .region ?_))
  have c44 := Mem.of_get hd 0 _ rfl
  refine .q rfl (.load on_130_Hi rfl (by assumption)) ?_
  refine .mv rfl (.mv rfl (.nil (b7 _ _ ?_)))
  refine .ret ?_
  refine b2 _ _ ?_
  refine ⟨_, _, rfl, rfl, ?_⟩
  obtain rfl : x = d.t.obj.toNat := by omega
  exact ⟨e, .inr ⟨hcl, gV, r, rfl, by omega, hgc, hR⟩⟩
end Go.Proofs.Ytjdedelneppnlaa
namespace Go.Proofs.Ytjdedelneppnlaa
open Go Go.GL Go.RowKit Go.Proofs
theorem ag_45_Hl : aggT Try.prog 45 = some 2 := by kernel_rfl
set_option maxHeartbeats 4000000 in
theorem isUniversal_c {g o k n : Nat} {d : Fun} {p : FunP} {m : Con} {q : ConP} {C : Nat → Con} {P : Nat → ConP} {f : Nat → Value} {H : GHeap} (h : Fun.At H g o d p) (hI : d.Is) (hm : m.In H q) (hcm : d.Cone m) (hn : n ≤ 1000) (hsl : SlA H (some ⟨k, 0, none⟩) (n * 2) f)
    (hmem : ∀ i, i < n → MemN H k (0 + (i : Int).toNat * 2) 2 ((C i).cells (P i))) (hins : ∀ i, i < n → (C i).In H (P i)) (hcs : ∀ i, i < n → d.Cone (C i)) :
    GCalls Try.prog 135 [.pointer (some ⟨g, o, none⟩), .slice (some ⟨k, 0, none⟩) n n, .agg (m.cells q).toArray] H (Ret (.bool (B (∀ i, i < n → (d.coneMaps (C i) m).length = 1))) H) := by
  refine GCalls.ret rfl ?_
  have b0 := hI
  refine GCalls.body (N := 22) (rs := [.tmp 6]) Try.func135 rfl rfl rfl rfl (fun Qx z hend => ?_)
  refine .fg [0, 1, 2] rfl ?_
  have c := GHeap.Le.refl H
  have y := h
  have a := hm
  have v := hsl
  refine .seq (fun K1 b8 => .region ?_)
  refine .R rfl (.boxR rfl sz_45_Cm rfl) ?_
  rintro _ H5 ⟨g5, rfl, b5, ge5, r⟩
  replace c := c.trans b5
  have lt_at5 := GHeap.ltg r
  replace hm := a.mono c
  have x : Con.At _ g5 0 m q := ⟨Mem.of_get r, hm⟩
  refine .mv rfl (.nil (b8 _ _ (.seq (fun K2 b3 => .seq (fun K3 b6 => .region (.mv rfl (.q rfl (.len sl_130_Hi rfl) (.mv rfl (.nil (b6 _ _ ?_))))))))))
  refine .block ?_
  refine .loopR (σ := Nat) [(0, some _), (5, some _), (9, some _), (10, some _)] (fun i => [(11, some (.int .i64 (i : Int)))]) (fun i H' => St [] H5 H' ∧ i ≤ n ∧ ∀ j, j < i → (d.coneMaps (C j) m).length = 1) (fun i => n - i) (0) ⟨rfl, rfl, rfl, rfl, trivial⟩ ⟨rfl, trivial⟩ ?_ ?_
  ·
   refine ⟨.refl _ _, ?_⟩
   exact ⟨by omega, fun j hj => by omega⟩
  rintro i HL1 ⟨l, hI⟩ KL1 a3
  refine .forget (fr' := [(11, some (.int .i64 (i : Int))), (0, some _), (5, some _), (9, some _), (10, some _)]) ⟨rfl, rfl, rfl, rfl, rfl, trivial⟩ ?_
  have nx_HL1 := l.nx
  replace c := c.st l (fun k hk => trivial)
  replace r := l.same _ _ trivial r
  replace hm := a.mono c
  replace hsl := v.mono c
  clear x
  have x : Con.At _ g5 0 m q := ⟨Mem.of_get r, hm⟩
  obtain ⟨hi, ha⟩ := hI
  refine .seq (fun K4 b2 => .region (.q rfl (.cmp rfl rfl rfl) (.nil (b2 _ _ (.seq (fun K5 b1 => ?_))))))
  refine .cond rfl (fun a6 => ?_) (fun a6 => ?_)
  ·
   simp only [sps] at a6
   have a7 : MemN _ _ _ _ _ := ⟨(hmem i (by omega)).1, (hmem i (by omega)).2.mono c⟩
   refine .skip ?_
   refine b1 _ _ (.seq (fun K6 b7 => ?_))
   refine .block ?_
   refine .seq (fun K7 a8 => .region ?_)
   refine .q rfl (.idx sl_130_Hi (by assumption) (by omega) rfl rfl (by omega) (by omega) rfl) ?_
   refine .q rfl (.loadM ag_45_Hl rfl (by assumption)) ?_
   refine .R rfl (.allocR rfl ze_45_Hi rfl) ?_
   rintro _ H8 ⟨g8, rfl, a2, ge8, at8⟩
   replace c := c.trans a2
   replace l := l.le a2
   replace r := a2.2 _ _ r
   replace hm := a.mono c
   clear x
   have x : Con.At _ g5 0 m q := ⟨Mem.of_get r, hm⟩
   clear a7
   refine .r0 rfl rfl (.fillA rfl sz_45_Cm rfl rfl rfl rfl) ?_
   rintro _ H3003 ⟨rfl, t, b⟩
   replace c := c.st t (fun k hk => ⟨by omega, trivial⟩)
   replace l := l.sA t
   replace r := t.s r
   replace h := y.mono c
   replace hm := a.mono c
   clear x
   have x : Con.At _ g5 0 m q := ⟨Mem.of_get r, hm⟩
   have u := (hins i (by omega)).mono c
   have a0 : Con.At _ g8 0 (C i) (P i) := ⟨Mem.of_get b, u⟩
   refine .nil (a8 _ _ (.seq (fun K8 a9 => .region (.mv rfl ?_))))
   refine .q rfl (.loadM ag_45_Hl rfl ⟨rfl, Mem.of_get b⟩) ?_
   refine .q rfl (.loadM ag_45_Hl rfl ⟨rfl, Mem.of_get r⟩) ?_
   refine .call rfl rfl rfl rfl @Try.call146 rfl (coneMaps_c (m := C i) (m' := m) h u hm b0 (hcs i (by omega)) hcm) ?_
   rintro _ H18 ⟨w, g18, rfl, a4, ge18⟩
   replace c := c.trans w
   replace l := l.le w
   replace r := w.2 _ _ r
   replace b := w.2 _ _ b
   replace hm := a.mono c
   clear x
   have x : Con.At _ g5 0 m q := ⟨Mem.of_get r, hm⟩
   clear u
   have a7 : MemN _ _ _ _ _ := ⟨(hmem i (by omega)).1, (hmem i (by omega)).2.mono c⟩
   have u := (hins i (by omega)).mono c
   have mm3003 : MemN _ _ _ _ _ := ⟨rfl, Mem.of_get b⟩
   clear a0
   have a0 : Con.At _ g8 0 (C i) (P i) := ⟨Mem.of_get b, u⟩
   obtain ⟨c08, c18, b9⟩ := a0.get
   have hm8 : MemN _ _ _ _ _ := ⟨rfl, a0.1⟩
   have hi8 := a0.2
   have b9 := Ints.of_get a4
   refine .q rfl (.len sl_22_A rfl) (.q rfl (.cmp rfl rfl rfl) (.nil (a9 _ _ ?_)))
   refine .cond rfl (fun a1 => ?_) (fun a1 => ?_)
   ·
    simp only [sps] at a1
    refine .seq (fun K9 b4 => .region (.mv rfl (.nil (b4 _ _ ?_))))
    refine .ret ?_
    refine z _ _ ?_
    refine ⟨_, rfl, ?_⟩
    exact ⟨by rw [B_false fun hh => a1 (by have := hh i (by omega); omega)], c⟩
   simp only [sps] at a1
   refine .skip ?_
   refine b7 _ _ (.region ?_)
   refine .q rfl (.add rfl rfl rfl (by omega) (by omega)) ?_
   refine .mv rfl (.nil ?_)
   refine a3 (i + 1) _ _ ?_ ?_ ⟨rfl, rfl, rfl, rfl, rfl, trivial⟩
   ·
    refine ⟨l, ?_⟩
    refine ⟨by omega, fun j hj => ?_⟩
    by_cases e : j < i
    · exact ha j e
    · obtain rfl : j = i := by omega
      omega
   omega
  try simp only [sps] at a6
  refine .exit ?_
  refine b3 _ _ (.seq (fun K10 a5 => .region (.mv rfl (.nil (a5 _ _ ?_)))))
  refine .ret ?_
  refine z _ _ ?_
  refine ⟨_, rfl, ?_⟩
  exact ⟨by rw [B_true fun j hj => ha j (by omega)], c⟩
end Go.Proofs.Ytjdedelneppnlaa
namespace Go.Proofs.Ytjdedelneppnlaa
open Go Go.GL Go.RowKit Go.Proofs
theorem allCones1b_c {g o : Nat} {d : Fun} {p : FunP} {H : GHeap} (h : Fun.At H g o d p) (hP : d.Is) (hb : ¬ (d.coneL d.t.obj.toNat).length ≤ 400) :
    GCalls Try.prog 134 [.pointer (some ⟨g, o, none⟩)] H (fun v H' => H.Le H' ∧ v = .tuple #[.slice none 0 0, .bool false]) :=
  (allCones_c h hP).mono fun v H' ⟨h1, h2⟩ => by
    rcases h2 with ⟨_, h4⟩ | ⟨h3, _⟩
    · exact ⟨h1, h4⟩
    · omega
end Go.Proofs.Ytjdedelneppnlaa
namespace Go.Proofs.Ytjdedelneppnlaa
open Go Go.GL Go.RowKit Go.Proofs
end Go.Proofs.Ytjdedelneppnlaa
namespace Go.Proofs.Ytjdedelneppnlaa
open Go Go.GL Go.RowKit Go.Proofs
theorem allCones0r_c {g o : Nat} {d : Fun} {p : FunP} {H : GHeap} (h : Fun.At H g o d p) (hP : d.Is) (hb : (d.coneL d.t.obj.toNat).length ≤ 400) :
    GCalls Try.prog 134 [.pointer (some ⟨g, o, none⟩)] H (fun v H' => H.Le H' ∧ ∃ gL r, v = .tuple #[.slice (some ⟨gL, 0, none⟩) (d.coneL d.t.obj.toNat).length (d.coneL d.t.obj.toNat).length, .bool true] ∧ ConsB 45 2 H.next H' gL r (d.coneL d.t.obj.toNat)) :=
  (allCones_c h hP).mono fun v H' ⟨h1, h2⟩ => by
    rcases h2 with ⟨h3, _⟩ | ⟨_, gL, r, h4, h5, h6⟩
    · omega
    · exact ⟨h1, gL, r, h4, h5, h6⟩
set_option maxHeartbeats 4000000 in
theorem limits_c {g o most : Nat} {d : Fun} {p : FunP} {H : GHeap} (h : Fun.At H g o d p) (hI : d.Is) (hb : (d.coneL d.t.obj.toNat).length ≤ 400) (hm : most ≤ 400) :
    GCalls Try.prog 109 [.pointer (some ⟨g, o, none⟩), .int .i64 (most : Int)] H (fun v H' => H.Le H' ∧ ∃ gL r, v = .tuple #[.slice (some ⟨gL, 0, none⟩) (d.selc most).length (d.selc most).length, .bool true] ∧ ConsR 45 2 H.next H' (some ⟨gL, 0, none⟩) r (d.selc most)) := by
  have b7 := hI
  have hob := hI.2.1.1.obj
  refine GCalls.body (N := 41) (rs := [.tmp 4, .tmp 5]) Try.func109 rfl rfl rfl rfl (fun Qx b9 hend => ?_)
  refine .fg [0, 1] rfl ?_
  have a0 := GHeap.Le.refl H
  have a6 := h
  refine .seq (fun K1 d9 => .region (.mv rfl (.mv rfl (.nil (d9 _ _ (.seq (fun K2 d5 => .region (.mv rfl ?_))))))))
  refine .call rfl rfl rfl rfl @Try.call134 rfl (allCones0r_c h b7 hb) ?_
  rintro _ c7 ⟨b6, g13, a8, rfl, y⟩
  have nx_H13 := b6.1
  replace a0 := a0.trans b6
  have u := y
  have b : Keep H.next c7 c7 := fun _ _ _ h => h
  refine .mv rfl (.q rfl (.extract rfl rfl) (.q rfl (.extract rfl rfl) (.mv rfl (.mv rfl (.nil (d5 _ _ (.seq (fun K3 d7 => .seq (fun K4 d4 => .region (.mv rfl (.q rfl (.not rfl) (.nil (d4 _ _ ?_)))))))))))))
  refine .cond rfl (fun c5 => ?_) (fun c5 => ?_)
  ·
   simp at c5
  try simp only [sps] at c5
  refine .skip ?_
  refine d7 _ _ (.seq (fun K5 d3 => .region ?_))
  refine .R rfl (.litA rfl sl_130_Hi ze_45_Hi rfl rfl rfl rfl) ?_
  rintro _ c8 ⟨c9, rfl, b3, ge18, b0⟩
  replace a0 := a0.trans b3
  replace b := Keep.le b b3
  have lt_at18 := GHeap.ltg b0
  refine .mv rfl (.nil (d3 _ _ (.seq (fun K6 d8 => .seq (fun K7 d1 => .region (.mv rfl (.q rfl (.len sl_130_Hi rfl) (.mv rfl (.nil (d1 _ _ ?_))))))))))
  refine .block ?_
  have hz : (selL d.limP most 0).length = 0 := by rw [selL_zero]; rfl
  refine .loopR (σ := Nat × Nat × Nat) [(0, some _), (1, some _), (6, some _), (19, some _), (20, some _)] (fun (i, a1, a5) => [(21, some (.int .i64 (i : Int))), (8, some (.slice (some ⟨a1, 0, none⟩) a5 a5))]) (fun (i, a1, a5) H' => St [c9] c8 H' ∧ H'.get a1 = some (.row (selV a8 (d.coneL d.t.obj.toNat) (selL d.limP most i)) 45 true) ∧ (a1 = c9 ∨ c8.next ≤ a1) ∧ a5 = (selL d.limP most i).length ∧ i ≤ (d.coneL d.t.obj.toNat).length) (fun (i, a1, a5) => (d.coneL d.t.obj.toNat).length - i) ((0, _, _)) ⟨rfl, rfl, rfl, rfl, rfl, trivial⟩ ⟨rfl, rfl, trivial⟩ ?_ ?_
  ·
   refine ⟨.refl _ _, by (rw [selL_zero]; first | exact b0 | simpa [selV] using b0), .inl rfl, by first | rfl | assumption | simp | omega, ?_⟩
   omega
  rintro ⟨i, a1, a5⟩ HL1 ⟨f, l, pl_L8, b2, hI⟩ KL1 a9
  refine .forget (fr' := [(21, some (.int .i64 (i : Int))), (8, some (.slice (some ⟨a1, 0, none⟩) a5 a5)), (0, some _), (1, some _), (6, some _), (19, some _), (20, some _)]) ⟨rfl, rfl, rfl, rfl, rfl, rfl, rfl, trivial⟩ ?_
  have ge_L8 : H.next ≤ a1 := by omega
  have nx_HL1 := f.nx
  replace a0 := a0.st f (fun k hk => ⟨by omega, trivial⟩)
  replace b := Keep.st b f (fun k hb hk => ⟨by omega, trivial⟩)
  replace y := u.keep b (Nat.le_refl _)
  have lt_at_L8 := GHeap.ltg l
  have b5 := y.sl
  have hsv := length_selV a8 (d.coneL d.t.obj.toNat) (selL d.limP most i)
  have hcap := selL_cap d.limP most i
  refine .seq (fun K8 d2 => .region (.q rfl (.cmp rfl rfl rfl) (.nil (d2 _ _ (.seq (fun K9 d6 => ?_))))))
  refine .cond rfl (fun c4 => ?_) (fun c4 => ?_)
  ·
   simp only [sps] at c4
   have hci := Fun.coneL_cone b7 (n := d.t.obj.toNat) (by omega) _ (getD_mem_list (d := Con.z) (i := i) (by omega))
   have d0 := y.c.mem i (by omega)
   refine .skip ?_
   refine d6 _ _ (.seq (fun K10 b1 => ?_))
   refine .block ?_
   refine .seq (fun K11 c3 => .region ?_)
   refine .q rfl (.idx sl_130_Hi b5 (by omega) rfl rfl (by omega) (by omega) rfl) ?_
   refine .q rfl (.loadM ag_45_Hl rfl d0) ?_
   refine .R rfl (.allocR rfl ze_45_Hi rfl) ?_
   rintro _ H10 ⟨b8, rfl, a4, ge10, at10⟩
   replace a0 := a0.trans a4
   replace f := f.le a4
   replace l := a4.2 _ _ l
   replace b := Keep.le b a4
   clear b5
   clear d0
   refine .r0 rfl rfl (.fillA rfl sz_45_Cm rfl rfl rfl rfl) ?_
   rintro _ H7003 ⟨rfl, w, e⟩
   replace a0 := a0.st w (fun k hk => ⟨by omega, trivial⟩)
   replace f := f.sA w
   have m : NE a1 b8 := .a
   replace l := w.s l m.ne
   replace b := Keep.st b w (fun k hb hk => ⟨by omega, trivial⟩)
   replace y := u.keep b (Nat.le_refl _)
   have lt_at7003 := GHeap.ltg e
   replace h := a6.mono a0
   have x := y.c.inn i (by omega)
   have a3 : Con.At _ b8 0 ((d.coneL d.t.obj.toNat).getD i .z) ⟨a8 i⟩ := ⟨Mem.of_get e, x⟩
   refine .nil (c3 _ _ (.seq (fun K12 b4 => .region (.mv rfl (.q rfl (.len sl_130_Hi rfl) (.mv rfl (.q rfl (.cmp rfl rfl rfl) (.mv rfl ?_))))))))
   refine .split (fun c6 => ?_) (fun c6 => ?_)
   ·
    simp only [sps] at c6
    refine .qg rfl (.move rfl) (.qg rfl (.move rfl) ?_)
    refine .qg rfl (.loadM ag_45_Hl rfl ⟨rfl, Mem.of_get e⟩) ?_
    refine .callQg rfl rfl rfl rfl rfl rfl @Try.call135 rfl (isUniversal_c (C := fun i => (d.coneL d.t.obj.toNat).getD i .z) (P := fun i => ⟨a8 i⟩) h b7 x hci (by omega) y.c.sl y.c.mem y.c.inn (fun i hi => Fun.coneL_cone b7 (by omega) _ (getD_mem_list hi))) ?_
    refine .q rfl (.pickT rfl rfl) (.nil (b4 _ _ ?_))
    refine .cond rfl (fun c2 => ?_) (fun c2 => ?_)
    ·
     have hE : selL d.limP most (i + 1) = selL d.limP most i ++ [i] := selL_T (by omega) c2
     refine .region (.mv rfl ?_)
     refine .q rfl (.loadM ag_45_Hl rfl ⟨rfl, Mem.of_get e⟩) ?_
     refine .R rfl (.litA rfl sl_130_Hi ze_45_Hi rfl rfl rfl rfl) ?_
     rintro _ H37 ⟨g37, rfl, a2, ge37, c1⟩
     replace f := f.le a2
     replace l := a2.2 _ _ l
     replace e := a2.2 _ _ e
     replace b := Keep.le b a2
     replace y := u.keep b (Nat.le_refl _)
     have lt_at37 := GHeap.ltg c1
     clear x
     have x := y.c.inn i (by omega)
     clear a3
     have a3 : Con.At _ b8 0 ((d.coneL d.t.obj.toNat).getD i .z) ⟨a8 i⟩ := ⟨Mem.of_get e, x⟩
     refine .R rfl (.appendV rfl sl_130_Hi ze_45_Hi rfl by_45_Hi sl_130_Hi rfl rfl (by assumption) (by assumption) (by first | omega | (simp <;> omega)) rfl rfl (by omega) (by omega)) ?_
     rintro _ H38 ⟨g38, rfl, a7, ge38, at38⟩
     replace f := f.sA a7
     replace e := a7.s e (Ne.symm m.ne)
     replace b := Keep.st b a7 (fun k hb hk => ⟨by omega, trivial⟩)
     replace y := u.keep b (Nat.le_refl _)
     clear x
     have x := y.c.inn i (by omega)
     clear a3
     have a3 : Con.At _ b8 0 ((d.coneL d.t.obj.toNat).getD i .z) ⟨a8 i⟩ := ⟨Mem.of_get e, x⟩
     refine .mv rfl (.nil (b1 _ _ (.region ?_)))
     refine .q rfl (.add rfl rfl rfl (by omega) (by omega)) ?_
     refine .mv rfl (.nil ?_)
     refine a9 ((i + 1, _, _)) _ _ ?_ ?_ ⟨rfl, rfl, rfl, rfl, rfl, rfl, rfl, trivial⟩
     ·
      refine ⟨f, by first | assumption | (rw [hE, selV_snoc]; assumption) | (rw [hE]; assumption), by omega, by first | omega | (simp only [List.length_append, List.length_cons, List.length_nil] <;> omega) | (rw [hE, selV_snoc] <;> (first | omega | (simp only [List.length_append, List.length_cons, List.length_nil] <;> omega))) | (rw [hE] <;> (first | omega | (simp only [List.length_append, List.length_cons, List.length_nil] <;> omega))), ?_⟩
      omega
     (dsimp only; omega)
    have hE : selL d.limP most (i + 1) = selL d.limP most i := selL_F c2
    refine .skip ?_
    refine b1 _ _ (.region ?_)
    refine .q rfl (.add rfl rfl rfl (by omega) (by omega)) ?_
    refine .mv rfl (.nil ?_)
    refine a9 ((i + 1, _, _)) _ _ ?_ ?_ ⟨rfl, rfl, rfl, rfl, rfl, rfl, rfl, trivial⟩
    ·
     refine ⟨f, by first | assumption | (rw [hE, selV_snoc]; assumption) | (rw [hE]; assumption), by omega, by first | omega | (simp only [List.length_append, List.length_cons, List.length_nil] <;> omega) | (rw [hE, selV_snoc] <;> (first | omega | (simp only [List.length_append, List.length_cons, List.length_nil] <;> omega))) | (rw [hE] <;> (first | omega | (simp only [List.length_append, List.length_cons, List.length_nil] <;> omega))), ?_⟩
     omega
    (dsimp only; omega)
   simp only [sps] at c6
   have hE : selL d.limP most (i + 1) = selL d.limP most i := selL_full (by omega)
   refine .z rfl (.z rfl (.z rfl (.z rfl (.q rfl (.pickF rfl rfl) (.nil (b4 _ _ ?_))))))
   refine .condF rfl ?_
   refine .skip ?_
   refine b1 _ _ (.region ?_)
   refine .q rfl (.add rfl rfl rfl (by omega) (by omega)) ?_
   refine .mv rfl (.nil ?_)
   refine a9 ((i + 1, _, _)) _ _ ?_ ?_ ⟨rfl, rfl, rfl, rfl, rfl, rfl, rfl, trivial⟩
   ·
    refine ⟨f, by first | assumption | (rw [hE, selV_snoc]; assumption) | (rw [hE]; assumption), by omega, by first | omega | (simp only [List.length_append, List.length_cons, List.length_nil] <;> omega) | (rw [hE, selV_snoc] <;> (first | omega | (simp only [List.length_append, List.length_cons, List.length_nil] <;> omega))) | (rw [hE] <;> (first | omega | (simp only [List.length_append, List.length_cons, List.length_nil] <;> omega))), ?_⟩
    omega
   (dsimp only; omega)
  try simp only [sps] at c4
  refine .exit ?_
  refine d8 _ _ (.seq (fun K13 c0 => .region (.mv rfl (.mv rfl (.mv rfl (.nil (c0 _ _ ?_)))))))
  refine .ret ?_
  refine b9 _ _ ?_
  refine ⟨_, _, rfl, rfl, ?_⟩
  obtain rfl : i = (d.coneL d.t.obj.toNat).length := by omega
  refine ⟨a0, a1, fun k => a8 ((selL d.limP most (d.coneL d.t.obj.toNat).length).getD k 0), by rw [b2, Fun.selc_len], .inr ⟨a1, rfl, by omega, ?_, ?_⟩⟩
  · rw [show d.selc most = _ from rfl, Fun.selc, selV_eq]; exact l
  · exact (y.a.rows.sel (selL_nodup _ _ _) fun j hj => (selL_mem hj).1).keepK (.of_le (.refl _)) (by omega)
set_option maxHeartbeats 4000000 in
theorem limits1_c {g o most : Nat} {d : Fun} {p : FunP} {H : GHeap} (h : Fun.At H g o d p) (hI : d.Is) (hb : ¬ (d.coneL d.t.obj.toNat).length ≤ 400) :
    GCalls Try.prog 109 [.pointer (some ⟨g, o, none⟩), .int .i64 (most : Int)] H (Ret (.tuple #[.slice none 0 0, .bool false]) H) := by
  refine GCalls.ret rfl ?_
  refine GCalls.body (N := 41) (rs := [.tmp 4, .tmp 5]) Try.func109 rfl rfl rfl rfl (fun Qx b hend => ?_)
  refine .fg [0, 1] rfl ?_
  have c := GHeap.Le.refl H
  refine .seq (fun K1 j => .region (.mv rfl (.mv rfl (.nil (j _ _ (.seq (fun K2 i => .region (.mv rfl ?_))))))))
  refine .call rfl rfl rfl rfl @Try.call134 rfl (allCones1b_c h hI hb) ?_
  rintro _ H13 ⟨a, rfl⟩
  replace c := c.trans a
  refine .mv rfl (.q rfl (.extract rfl rfl) (.q rfl (.extract rfl rfl) (.mv rfl (.mv rfl (.nil (i _ _ (.seq (fun K3 hK3 => .seq (fun K4 f => .region (.mv rfl (.q rfl (.not rfl) (.nil (f _ _ ?_)))))))))))))
  refine .cond rfl (fun e => ?_) (fun e => ?_)
  ·
   try simp only [sps] at e
   refine .seq (fun K5 k => .region (.mv rfl (.mv rfl (.nil (k _ _ ?_)))))
   refine .ret ?_
   refine b _ _ ?_
   refine ⟨_, _, rfl, rfl, ?_⟩
   exact ⟨rfl, c⟩
  simp at e
end Go.Proofs.Ytjdedelneppnlaa
namespace Go.Proofs.Ytjdedelneppnlaa
open Go Go.GL Go.RowKit Go.Proofs
theorem sz_43_Hr : (Try.prog.info? 43).map (·.size) = some 12 := by kernel_rfl
set_option maxHeartbeats 4000000 in
theorem limit_c {g o : Nat} {d : Fun} {p : FunP} {H : GHeap} (h : Fun.At H g o d p) (hI : d.Is) :
    GCalls Try.prog 61 [.pointer (some ⟨g, o, none⟩)] H (fun v H' => H.Le H' ∧ ∃ r, v = .tuple #[.agg (d.liR.cells r).toArray, .int .i64 d.liC] ∧ ConR H.next H' d.liR r) := by
  have u := hI
  by_cases hb : (d.coneL d.t.obj.toNat).length ≤ 400
  refine GCalls.body (N := 23) (rs := [.cell 2 45, .tmp 3]) Try.func61 rfl rfl rfl rfl (fun Qx f a1 => ?_)
  refine .fg [0] rfl ?_
  have a := GHeap.Le.refl H
  have b := h
  refine .seq (fun K1 a4 => .region ?_)
  refine .R rfl (.allocR rfl ze_45_Hi rfl) ?_
  rintro _ H2 ⟨g2, rfl, y, a9, x⟩
  have nx_H2 := y.1
  replace a := a.trans y
  have lt_at2 := GHeap.ltg x
  replace h := b.mono a
  refine .mv rfl (.nil (a4 _ _ (.seq (fun K2 a2 => .region (.mv rfl ?_)))))
  refine .call rfl rfl rfl rfl @Try.call109 rfl ((limits_c (most := 1) h u hb (by omega))) ?_
  rintro _ H8 ⟨a5, g8, r8, rfl, v8⟩
  replace a := a.trans a5
  replace x := a5.2 _ _ x
  have w := v8
  have e : Keep H2.next H8 H8 := fun _ _ _ h => h
  refine .mv rfl (.q rfl (.extract rfl rfl) (.q rfl (.extract rfl rfl) (.mv rfl (.mv rfl (.nil (a2 _ _ (.seq (fun K3 a6 => ?_))))))))
  refine .block ?_
  refine .seq (fun K4 a0 => .region (.mv rfl (.q rfl (.not rfl) (.mv rfl (.nil (a0 _ _ ?_))))))
  refine .cond rfl (fun n => ?_) (fun n => ?_)
  ·
   simp at n
  ·
   try simp only [sps] at n
   refine .seq (fun K5 z => .region (.mv rfl (.q rfl (.len sl_130_Hi rfl) (.q rfl (.cmp rfl rfl rfl) (.mv rfl (.nil (z _ _ ?_)))))))
   refine .cond rfl (fun a3 => ?_) (fun a3 => ?_)
   ·
    simp only [sps] at a3
    refine .seq (fun K6 b1 => .region (.q rfl (.build bt_45_Hi rfl rfl rfl) ?_))
    refine .r0 rfl rfl (.fillA rfl sz_45_Cm rfl rfl rfl rfl) ?_
    rintro _ H5001 ⟨rfl, j, m⟩
    replace a := a.st j (fun k hk => ⟨by omega, trivial⟩)
    refine .mv rfl (.nil (b1 _ _ ?_))
    refine .ret ?_
    refine f _ _ ?_
    refine ⟨_, _, _, _, _, rfl, ag_45_Hl, (by rfl), (Mem.of_get m), rfl, ?_⟩
    obtain ⟨e1, e2⟩ := Fun.li_3 u hb (List.eq_nil_of_length_eq_zero (by omega))
    rw [e1, e2]
    exact ⟨a, ⟨none⟩, rfl, .inl ⟨rfl, rfl⟩⟩
   simp only [sps] at a3
   have hlp : 0 < (d.selc 1).length := by omega
   obtain ⟨a8, b2, -⟩ := ConsR.at0 v8 hlp
   refine .skip ?_
   refine a6 _ _ (.seq (fun K7 a7 => .region (.mv rfl ?_)))
   refine .q rfl (.idx sl_130_Hi a8 (by omega) rfl rfl (by omega) (by omega) rfl) ?_
   refine .q rfl (.loadM ag_45_Hl rfl b2) ?_
   refine .r0 rfl rfl (.fillA rfl sz_45_Cm rfl rfl rfl rfl) ?_
   rintro _ H6003 ⟨rfl, c, l⟩
   replace a := a.st c (fun k hk => ⟨by omega, trivial⟩)
   replace e := Keep.st e c (fun k hb hk => ⟨by omega, trivial⟩)
   replace v8 := w.keep e (Nat.le_refl _)
   refine .mv rfl (.nil (a7 _ _ ?_))
   refine .ret ?_
   refine f _ _ ?_
   refine ⟨_, _, _, _, _, rfl, ag_45_Hl, (by rfl), (Mem.of_get l), rfl, ?_⟩
   obtain ⟨e1, e2⟩ := Fun.li_4 u hb (List.length_pos_iff.1 hlp)
   obtain ⟨_, _, b0⟩ := ConsR.at0 v8 hlp
   rw [e1, e2]
   exact ⟨a, ⟨r8 0⟩, rfl, .inr (IntsAt.keep b0 (.of_le (.refl _)) (by omega))⟩
  refine GCalls.body (N := 23) (rs := [.cell 2 45, .tmp 3]) Try.func61 rfl rfl rfl rfl (fun Qx f a1 => ?_)
  refine .fg [0] rfl ?_
  have a := GHeap.Le.refl H
  have b := h
  refine .seq (fun K1 a4 => .region ?_)
  refine .R rfl (.allocR rfl ze_45_Hi rfl) ?_
  rintro _ H2 ⟨g2, rfl, y, a9, x⟩
  replace a := a.trans y
  replace h := b.mono a
  refine .mv rfl (.nil (a4 _ _ (.seq (fun K2 a2 => .region (.mv rfl ?_)))))
  refine .callQ rfl rfl rfl rfl @Try.call109 rfl ((limits1_c (most := 1) h u hb)) ?_
  refine .mv rfl (.q rfl (.extract rfl rfl) (.q rfl (.extract rfl rfl) (.mv rfl (.mv rfl (.nil (a2 _ _ (.seq (fun K3 a6 => ?_))))))))
  refine .block ?_
  refine .seq (fun K4 a0 => .region (.mv rfl (.q rfl (.not rfl) (.mv rfl (.nil (a0 _ _ ?_))))))
  refine .cond rfl (fun n => ?_) (fun n => ?_)
  ·
   try simp only [sps] at n
   refine .seq (fun K5 z => .region (.q rfl (.build bt_45_Hi rfl rfl rfl) ?_))
   refine .r0 rfl rfl (.fillA rfl sz_45_Cm rfl rfl rfl rfl) ?_
   rintro _ H3001 ⟨rfl, i, s⟩
   replace a := a.st i (fun k hk => ⟨by omega, trivial⟩)
   refine .mv rfl (.nil (z _ _ ?_))
   refine .ret ?_
   refine f _ _ ?_
   refine ⟨_, _, _, _, _, rfl, ag_45_Hl, (by rfl), (Mem.of_get s), rfl, ?_⟩
   obtain ⟨e1, e2⟩ := Fun.li_2 u hb
   rw [e1, e2]
   exact ⟨a, ⟨none⟩, rfl, .inl ⟨rfl, rfl⟩⟩
  simp at n
set_option maxHeartbeats 4000000 in
theorem implLimitOf_c {d : Fun} {p : FunP} {H : GHeap} (hin : d.In H p := by assumption) (hs : d.Small := by assumption) :
    GCalls Try.prog 20 [.agg (d.cells p).toArray] H (fun v H' => H.Le H' ∧ ∃ r, v = .tuple #[.agg (d.liR.cells r).toArray, .int .i64 d.liC] ∧ ConR H.next H' d.liR r) := by
  refine GCalls.body (N := 10) (rs := [.cell 2 45, .tmp 3]) Try.func20 rfl rfl rfl rfl (fun Qx o hend => ?_)
  refine .fg [0] rfl ?_
  have e := GHeap.Le.refl H
  have b := hin
  refine .seq (fun K1 a3 => .region ?_)
  refine .R rfl (.boxR rfl sz_43_Hr rfl) ?_
  rintro _ H1 ⟨g1, rfl, a1, ge1, g⟩
  replace e := e.trans a1
  have lt_at1 := GHeap.ltg g
  replace hin := b.mono e
  have l : Fun.At _ g1 0 d p := ⟨Mem.of_get g, hin⟩
  refine .R rfl (.allocR rfl ze_45_Hi rfl) ?_
  rintro _ H2 ⟨g2, rfl, w, ge2, u⟩
  have nx_H2 := w.1
  replace e := e.trans w
  replace g := w.2 _ _ g
  have lt_at2 := GHeap.ltg u
  replace hin := b.mono e
  clear l
  have l : Fun.At _ g1 0 d p := ⟨Mem.of_get g, hin⟩
  refine .mv rfl (.nil (a3 _ _ (.seq (fun K2 a0 => .seq (fun K3 a2 => .region ?_)))))
  refine .callQ rfl rfl rfl rfl @Try.call60 rfl (isFunctor_c) ?_
  refine .q rfl (.not rfl) (.nil (a2 _ _ ?_))
  refine .cond rfl (fun h5 => ?_) (fun h5 => ?_)
  ·
   simp only [sps] at h5
   refine .seq (fun K4 z => .region (.q rfl (.build bt_45_Hi rfl rfl rfl) ?_))
   refine .r0 rfl rfl (.fillA rfl sz_45_Cm rfl rfl rfl rfl) ?_
   rintro _ H2001 ⟨rfl, j, m⟩
   replace e := e.st j (fun k hk => ⟨by omega, trivial⟩)
   have c : NE g1 g2 := .a
   replace g := j.s g c.ne
   replace hin := b.mono e
   clear l
   have l : Fun.At _ g1 0 d p := ⟨Mem.of_get g, hin⟩
   refine .mv rfl (.nil (z _ _ ?_))
   refine .ret ?_
   refine o _ _ ?_
   refine ⟨_, _, _, _, _, rfl, ag_45_Hl, (by rfl), (Mem.of_get m), rfl, ?_⟩
   obtain ⟨e1, e2⟩ := Fun.li_1 h5
   rw [e1, e2]
   exact ⟨e, ⟨none⟩, rfl, .inl ⟨rfl, rfl⟩⟩
  simp only [sps] at h5
  refine .skip ?_
  refine a0 _ _ (.seq (fun K5 y => .region ?_))
  refine .call rfl rfl rfl rfl @Try.call61 rfl (limit_c l (by assumption)) ?_
  rintro _ H7 ⟨x, p7, rfl, v7⟩
  replace e := e.trans x
  replace g := x.2 _ _ g
  replace u := x.2 _ _ u
  have t := v7
  have i : Keep H2.next H7 H7 := fun _ _ _ h => h
  replace hin := b.mono e
  clear l
  have l : Fun.At _ g1 0 d p := ⟨Mem.of_get g, hin⟩
  refine .q rfl (.extract rfl rfl) (.q rfl (.extract rfl rfl) ?_)
  refine .r0 rfl rfl (.fillA rfl sz_45_Cm rfl rfl rfl rfl) ?_
  rintro _ H3003 ⟨rfl, f, n⟩
  replace e := e.st f (fun k hk => ⟨by omega, trivial⟩)
  have c : NE g1 g2 := .a
  replace g := f.s g c.ne
  replace i := Keep.st i f (fun k hb hk => ⟨by omega, trivial⟩)
  replace v7 := t.keep i (Nat.le_refl _)
  replace hin := b.mono e
  clear l
  have l : Fun.At _ g1 0 d p := ⟨Mem.of_get g, hin⟩
  refine .mv rfl (.nil (y _ _ ?_))
  refine .ret ?_
  refine o _ _ ?_
  refine ⟨_, _, _, _, _, rfl, ag_45_Hl, (by rfl), (Mem.of_get n), rfl, ?_⟩
  exact ⟨e, _, rfl, v7.keep (.of_le (.refl _)) (by omega)⟩
end Go.Proofs.Ytjdedelneppnlaa
namespace Go.Proofs.Ytjdedelneppnlaa
open Go Go.GL Go.RowKit Go.Proofs
theorem bt_43_LFnProducts : buildT Try.prog 43 = some ([.int .i64 0, .slice none 0 0, .slice none 0 0, .slice none 0 0, .slice none 0 0, .int .i64 0, .slice none 0 0, .slice none 0 0, .slice none 0 0, .slice none 0 0, .slice none 0 0, .slice none 0 0], [(0, 5), (5, 5), (10, 1), (11, 1)]) := by kernel_rfl
theorem ze_43_LFnProducts : zeroT Try.prog 43 = some ([.int .i64 0, .slice none 0 0, .slice none 0 0, .slice none 0 0, .slice none 0 0, .int .i64 0, .slice none 0 0, .slice none 0 0, .slice none 0 0, .slice none 0 0, .slice none 0 0, .slice none 0 0], 12) := by kernel_rfl
theorem ag_43_LFnProducts : aggT Try.prog 43 = some 12 := by kernel_rfl
set_option maxHeartbeats 40000000 in
set_option maxRecDepth 4000 in
theorem lawFnProducts_c {a : Option Addr} {xs : List Int} {H : GHeap} (hb : Bytes H a xs) (hl : xs.length ≤ 9223372036854775807) (hlt : ∀ b o t, a = some ⟨b, o, t⟩ → b < H.next) :
    GCalls Try.prog 4 [.slice a xs.length xs.length] H (fun v _ => v = .bool true) := by
  refine GCalls.body (N := 138) (rs := [.tmp 2]) Try.func4 rfl rfl rfl rfl (fun Qx g0 hend => ?_)
  refine .fg [0] rfl ?_
  have base_hb := hb
  refine .seq (fun K1 p4 => .region (.mv rfl (.nil (p4 _ _ (.seq (fun K2 o6 => .seq (fun K3 p3 => .region (.mv rfl ?_))))))))
  refine .callQ rfl rfl rfl rfl @Try.call16 rfl (big_c) ?_
  refine .nil (p3 _ _ ?_)
  refine .cond rfl (fun l1 => ?_) (fun l1 => ?_)
  ·
   try simp only [sps] at l1
   refine .seq (fun K4 o4 => .region (.mv rfl (.nil (o4 _ _ ?_))))
   refine .ret ?_
   refine g0 _ _ ?_
   refine ⟨_, rfl, ?_⟩
   first | rfl | exact congrArg Value.bool (beq_iff_eq.2 rfl)
  simp only [sps] at l1
  refine .skip ?_
  refine o6 _ _ (.seq (fun K5 o3 => .region (.mv rfl ?_)))
  refine .call rfl rfl rfl rfl @Try.call17 rfl (drawProductOf_c) ?_
  rintro _ o0 ⟨le24, g1, o2, g5, f8, rfl, l2, e5, bf24, bk24⟩
  have a7 := e5
  have e : Keep H.next o0 o0 := fun _ _ _ h => h
  refine .mv rfl (.q rfl (.extract rfl rfl) (.q rfl (.extract rfl rfl) (.q rfl (.extract rfl rfl) ?_)))
  refine .R rfl (.allocR rfl ze_29_Hj rfl) ?_
  rintro _ H3 ⟨g3, rfl, o8, ge3, at3⟩
  replace e := Keep.le e o8
  refine .r0 rfl rfl (.fillA rfl sz_29_D rfl rfl rfl rfl) ?_
  rintro _ H3007 ⟨rfl, h8, f⟩
  replace e := Keep.st e h8 (fun k hb hk => ⟨by omega, trivial⟩)
  replace e5 := a7.keep e (Nat.le_refl _)
  have lt_at3007 := GHeap.ltg f
  have e4 := e5.inn
  refine .mv rfl (.mv rfl (.nil (o3 _ _ (.seq (fun K6 o7 => .region ?_)))))
  refine .q rfl (.loadM ag_29_D rfl ⟨rfl, Mem.of_get f⟩) ?_
  refine .mv rfl (.mv rfl ?_)
  refine .call rfl rfl rfl rfl @Try.call18 rfl (implProductOf_c) ?_
  rintro _ H32 ⟨h9, rfl⟩
  have nx_H32 := h9.1
  replace f := h9.2 _ _ f
  replace e := Keep.le e h9
  replace e5 := a7.keep e (Nat.le_refl _)
  clear e4
  have e4 := e5.inn
  refine .mv rfl (.q rfl (.extract rfl rfl) (.q rfl (.extract rfl rfl) (.q rfl (.extract rfl rfl) (.q rfl (.extract rfl rfl) (.mv rfl (.mv rfl (.mv rfl (.mv rfl (.nil (o7 _ _ (.seq (fun K7 p5 => .region ?_))))))))))))
  refine .q rfl (.loadM ag_29_D rfl ⟨rfl, Mem.of_get f⟩) ?_
  refine .mv rfl (.mv rfl ?_)
  refine .call rfl rfl rfl rfl @Try.call19 rfl (specProductOf_c) ?_
  rintro _ p2 ⟨i3, rfl⟩
  have nx_H41 := i3.1
  replace f := i3.2 _ _ f
  replace e := Keep.le e i3
  clear e4
  refine .mv rfl (.q rfl (.extract rfl rfl) (.q rfl (.extract rfl rfl) (.q rfl (.extract rfl rfl) (.q rfl (.extract rfl rfl) (.mv rfl (.mv rfl (.mv rfl (.mv rfl (.nil (p5 _ _ (.seq (fun K8 o9 => .seq (fun K9 p1 => .region (.mv rfl (.mv rfl ?_)))))))))))))))
  refine .q rfl (.cmp rfl rfl rfl) (.mv rfl ?_)
  refine .split (fun m9 => ?_) (fun m9 => ?_)
  ·
   simp at m9
  try simp only [sps] at m9
  refine .qg rfl (.move rfl) (.qg rfl (.move rfl) (.qg rfl (.cmp rfl rfl rfl) (.q rfl (.pickF rfl rfl) (.mv rfl ?_))))
  refine .split (fun k9 => ?_) (fun k9 => ?_)
  ·
   simp at k9
  try simp only [sps] at k9
  refine .qg rfl (.move rfl) (.qg rfl (.move rfl) (.qg rfl (.cmp rfl rfl rfl) (.q rfl (.pickF rfl rfl) (.mv rfl ?_))))
  refine .split (fun m5 => ?_) (fun m5 => ?_)
  ·
   simp at m5
  try simp only [sps] at m5
  refine .qg rfl (.move rfl) (.qg rfl (.move rfl) (.qg rfl (.cmp rfl rfl rfl) (.q rfl (.pickF rfl rfl) (.nil (p1 _ _ ?_)))))
  refine .cond rfl (fun l3 => ?_) (fun l3 => ?_)
  ·
   simp at l3
  try simp only [sps] at l3
  refine .skip ?_
  refine o9 _ _ ?_
  refine .seqM (rest := [(3, some _), (4, some _), (5, some _), (6, some _), (7, some _), (8, some _), (9, some _)]) (M := fun rest fr' H' =>  Sub rest fr' ∧ p2 = H' ∧ (g1.pdC g5 f8 = 0 ∨ g1.pdC g5 f8 = 4)) ⟨rfl, rfl, rfl, rfl, rfl, rfl, rfl, trivial⟩ ?_ ?_
  ·
   rintro fr810 _ ⟨g7, rfl, hcd⟩
   refine .forget g7 ?_
   refine .seq (fun K10 m3 => .region ?_)
   have n7 := Cat.pd_in hcd
   obtain ⟨hI, hxy⟩ := Cat.codeO_ok.1 n7
   obtain ⟨hx, hy⟩ := allIn_two.1 hxy
   have hS := hI.1
   have hil := hS.il
   have hob := hS.obj
   obtain ⟨c1, c2⟩ := Cat.pd_ok n7
   refine .R rfl (.litA rfl sl_22_A ze_2_L rfl rfl rfl rfl) ?_
   rintro _ p7 ⟨l4, rfl, j9, ge70, r⟩
   replace f := j9.2 _ _ f
   replace e := Keep.le e j9
   have lt_at70 := GHeap.ltg r
   replace r : GHeap.get p7 l4 = some (.row (ints [0, 1]) 2 true) := r
   refine .R rfl (.litA rfl sl_22_A ze_2_L rfl rfl rfl rfl) ?_
   rintro _ p0 ⟨m2, rfl, i7, ge71, w⟩
   replace f := i7.2 _ _ f
   replace r := i7.2 _ _ r
   replace e := Keep.le e i7
   have lt_at71 := GHeap.ltg w
   replace w : GHeap.get p0 m2 = some (.row (ints [0, 1]) 2 true) := w
   refine .R rfl (.litA rfl sl_22_A ze_2_L rfl rfl rfl rfl) ?_
   rintro _ p6 ⟨l7, rfl, g9, ge72, a5⟩
   replace f := g9.2 _ _ f
   replace r := g9.2 _ _ r
   replace w := g9.2 _ _ w
   replace e := Keep.le e g9
   have lt_at72 := GHeap.ltg a5
   replace a5 : GHeap.get p6 l7 = some (.row (ints [0, 1]) 2 true) := a5
   refine .R rfl (.litA rfl sl_22_A ze_2_L rfl rfl rfl rfl) ?_
   rintro _ H73 ⟨o1, rfl, g2, ge73, b2⟩
   replace f := g2.2 _ _ f
   replace r := g2.2 _ _ r
   replace w := g2.2 _ _ w
   replace a5 := g2.2 _ _ a5
   replace e := Keep.le e g2
   have lt_at73 := GHeap.ltg b2
   refine .R rfl (.litA rfl sl_22_A ze_2_L rfl rfl rfl rfl) ?_
   rintro _ H74 ⟨n8, rfl, f0, ge74, b6⟩
   replace f := f0.2 _ _ f
   replace r := f0.2 _ _ r
   replace w := f0.2 _ _ w
   replace a5 := f0.2 _ _ a5
   replace b2 := f0.2 _ _ b2
   replace e := Keep.le e f0
   have lt_at74 := GHeap.ltg b6
   refine .R rfl (.litA rfl sl_23_B ze_22_Hj rfl rfl rfl rfl) ?_
   rintro _ H75 ⟨n6, rfl, d5, ge75, c7⟩
   replace f := d5.2 _ _ f
   replace r := d5.2 _ _ r
   replace w := d5.2 _ _ w
   replace a5 := d5.2 _ _ a5
   replace b2 := d5.2 _ _ b2
   replace b6 := d5.2 _ _ b6
   replace e := Keep.le e d5
   have lt_at75 := GHeap.ltg c7
   refine .q rfl (.build bt_29_Hj rfl rfl rfl) ?_
   refine .R rfl (.allocR rfl ze_29_Hj rfl) ?_
   rintro _ H14 ⟨g14, rfl, c8, ge14, at14⟩
   replace f := c8.2 _ _ f
   replace r := c8.2 _ _ r
   replace w := c8.2 _ _ w
   replace a5 := c8.2 _ _ a5
   replace b2 := c8.2 _ _ b2
   replace b6 := c8.2 _ _ b6
   replace c7 := c8.2 _ _ c7
   replace e := Keep.le e c8
   refine .r0 rfl rfl (.fillA rfl sz_29_D rfl rfl rfl rfl) ?_
   rintro _ b5 ⟨rfl, n, e2⟩
   replace f := n.s f
   replace r := n.s r
   replace w := n.s w
   replace a5 := n.s a5
   replace b2 := n.s b2
   replace b6 := n.s b6
   replace c7 := n.s c7
   replace e := Keep.st e n (fun k hb hk => ⟨by omega, trivial⟩)
   replace e5 := a7.keep e (Nat.le_refl _)
   have lt_at10008 := GHeap.ltg e2
   have e4 := e5.inn
   refine .nil (m3 _ _ (.seq (fun K11 m7 => ?_)))
   refine .regionD mo_B (.q 0 (.q 1 (.q 2 (.q 3 (.q 5 (.q 6 (.q 7 (.q 8 (.q 9 (.q 10 (.q 11 (.q 12 (.q 13 (.q 14 (.or (.c 4 1 (.or (.c 15 1 (.q 16 (.c 17 1 (.c 18 1 (.done))))) (.c 17 1 (.c 15 1 (.q 16 (.c 18 1 (.done))))))) (.or (.c 15 1 (.or (.c 4 1 (.q 16 (.c 17 1 (.c 18 1 (.done))))) (.c 17 1 (.c 4 1 (.q 16 (.c 18 1 (.done))))))) (.c 17 1 (.or (.c 4 1 (.c 15 1 (.q 16 (.c 18 1 (.done))))) (.c 15 1 (.c 4 1 (.q 16 (.c 18 1 (.done))))))))))))))))))))))) (by kernel_rfl) ?_
   refine .cut [(3, some _), (4, some _), (5, some _), (6, some _), (7, some _), (8, some _), (9, some _), (14, some _), (70, some _), (71, some _), (72, some _), (73, some _), (74, some _), (75, some _), (76, some _)] ⟨rfl, rfl, rfl, rfl, rfl, rfl, rfl, rfl, rfl, rfl, rfl, rfl, rfl, rfl, rfl, trivial⟩ (fun rest fr' H' => ∃ h4 h3 i8, Sub ((81, some (.slice (some ⟨h4, 0, none⟩) 2 2)) :: (92, some (.slice (some ⟨h3, 0, none⟩) 2 2)) :: (15, some (.pointer (some ⟨i8, 0, none⟩))) :: rest) fr' ∧ b5.Le H' ∧ b5.next ≤ h4 ∧ b5.next ≤ h3 ∧ b5.next ≤ i8 ∧ H'.get h4 = some (.row (ints [g5, f8]) 2 true) ∧ H'.get h3 = some (.row (ints [g1.idn.getD g5.toNat 0, g1.idn.getD f8.toNat 0]) 2 true) ∧ H'.get i8 = some (.row ([.int .i64 2, .slice (some ⟨l4, 0, none⟩) 2 2, .slice (some ⟨m2, 0, none⟩) 2 2, .slice (some ⟨l7, 0, none⟩) 2 2, .slice (some ⟨n6, 0, none⟩) 2 2] ++ (g1.cells o2 ++ [.slice (some ⟨h4, 0, none⟩) 2 2, .slice (some ⟨h3, 0, none⟩) 2 2])) 43 true) ∧ h4 ≠ h3 ∧ h4 ≠ i8 ∧ h3 ≠ i8) ?_ ?_
   ·
    have m := GHeap.Le.refl b5
    refine .q rfl (.loadM ag_29_D rfl ⟨rfl, Mem.of_get e2⟩) ?_
    refine .q rfl (.loadM ag_29_D rfl ⟨rfl, Mem.of_get f⟩) ?_
    refine .qB rfl (.refl _) (.move rfl) (.qB rfl (.refl _) (.move rfl) (.qB rfl (.refl _) (.fieldAddr fo_29_3_B rfl) ?_))
    refine .q rfl (.load on_22_B rfl (by first | assumption | exact Mem.of_get f 3 _ rfl)) ?_
    refine .qB rfl (.refl _) (.move rfl) ?_
    obtain ⟨-, -, u3, -⟩ := id e4
    refine .q rfl (.idx1 sl_22_A (by assumption) rfl rfl (by omega) (by omega)) ?_
    refine .q rfl (.loadI on_2_A (by assumption) rfl (by omega)) ?_
    refine .qB rfl (.refl _) (.fieldAddr fo_29_3_B rfl) ?_
    refine .q rfl (.load on_22_B rfl (by first | assumption | exact Mem.of_get f 3 _ rfl)) ?_
    refine .qB rfl (.refl _) (.move rfl) ?_
    obtain ⟨-, -, u3, -⟩ := id e4
    refine .q rfl (.idx1 sl_22_A (by assumption) rfl rfl (by omega) (by omega)) ?_
    refine .q rfl (.loadI on_2_A (by assumption) rfl (by omega)) ?_
    refine .orI ?_ ?_
    ·
     refine .c1 rfl rfl rfl rfl (.litA rfl sl_22_A ze_2_L rfl rfl rfl rfl) ?_
     rintro _ H81x2 ⟨h1, rfl, g4, ge81x2, j⟩
     have g := g4
     refine ⟨g, ?_⟩
     have lt_at81x2 := GHeap.ltg j
     replace m := m.trans g4
     refine .orI ?_ ?_
     ·
      refine .c1 rfl rfl rfl rfl (.litA rfl sl_22_A ze_2_L rfl rfl rfl rfl) ?_
      rintro _ H92x2 ⟨j0, rfl, d8, ge92x2, b1⟩
      replace g := g.trans d8
      refine ⟨g, ?_⟩
      replace j := d8.2 _ _ j
      have lt_at92x2 := GHeap.ltg b1
      replace m := m.trans d8
      refine .qB rfl g (.build bt_43_LFnProducts rfl rfl rfl) ?_
      refine .c1 rfl rfl rfl rfl (.allocR rfl ze_43_LFnProducts rfl) ?_
      rintro _ H15x2 ⟨k7, rfl, c5, ge15x2, at15x2⟩
      replace g := g.trans c5
      refine ⟨g, ?_⟩
      replace j := c5.2 _ _ j
      replace b1 := c5.2 _ _ b1
      replace m := m.trans c5
      refine .r1 rfl rfl rfl (.fillA rfl sz_43_Hr rfl rfl rfl rfl) ?_
      rintro _ H11018 ⟨rfl, b3, h0⟩
      replace g := g.st b3 (fun k hk => ⟨by omega, trivial⟩)
      refine ⟨g, ?_⟩
      replace j := b3.s j
      replace b1 := b3.s b1
      replace m := m.st b3 (fun k hk => ⟨by omega, trivial⟩)
      refine .done ?_
      exact ⟨h1, j0, k7, ⟨rfl, rfl, rfl, rfl, rfl, rfl, rfl, rfl, rfl, rfl, rfl, rfl, rfl, rfl, rfl, rfl, rfl, rfl, trivial⟩, m, by omega, by omega, by omega, by first | assumption | simpa using j, by first | assumption | simpa using b1, by first | assumption | simpa using h0, by omega, by omega, by omega⟩
     refine .c1 rfl rfl rfl rfl (.allocR rfl ze_43_LFnProducts rfl) ?_
     rintro _ H15x3 ⟨j3, rfl, d3, ge15x3, d0⟩
     replace g := g.trans d3
     refine ⟨g, ?_⟩
     replace j := d3.2 _ _ j
     have lt_at15x3 := GHeap.ltg d0
     replace m := m.trans d3
     refine .c1 rfl rfl rfl rfl (.litA rfl sl_22_A ze_2_L rfl rfl rfl rfl) ?_
     rintro _ H92x3 ⟨k3, rfl, b7, ge92x3, d1⟩
     replace g := g.trans b7
     refine ⟨g, ?_⟩
     replace j := b7.2 _ _ j
     replace d0 := b7.2 _ _ d0
     replace m := m.trans b7
     refine .qB rfl g (.build bt_43_LFnProducts rfl rfl rfl) ?_
     refine .r1 rfl rfl rfl (.fillA rfl sz_43_Hr rfl rfl rfl rfl) ?_
     rintro _ H11018x2 ⟨rfl, a4, f4⟩
     replace g := g.st a4 (fun k hk => ⟨by omega, trivial⟩)
     refine ⟨g, ?_⟩
     replace j := a4.s j
     replace d1 := a4.s d1
     replace m := m.st a4 (fun k hk => ⟨by omega, trivial⟩)
     refine .done ?_
     exact ⟨h1, k3, j3, ⟨rfl, rfl, rfl, rfl, rfl, rfl, rfl, rfl, rfl, rfl, rfl, rfl, rfl, rfl, rfl, rfl, rfl, rfl, trivial⟩, m, by omega, by omega, by omega, by first | assumption | simpa using j, by first | assumption | simpa using d1, by first | assumption | simpa using f4, by omega, by omega, by omega⟩
    refine .orI ?_ ?_
    ·
     refine .c1 rfl rfl rfl rfl (.litA rfl sl_22_A ze_2_L rfl rfl rfl rfl) ?_
     rintro _ H92x4 ⟨h5, rfl, f5, ge92x4, l⟩
     have g := f5
     refine ⟨g, ?_⟩
     have lt_at92x4 := GHeap.ltg l
     replace m := m.trans f5
     refine .orI ?_ ?_
     ·
      refine .c1 rfl rfl rfl rfl (.litA rfl sl_22_A ze_2_L rfl rfl rfl rfl) ?_
      rintro _ H81x3 ⟨k4, rfl, e1, ge81x3, a8⟩
      replace g := g.trans e1
      refine ⟨g, ?_⟩
      replace l := e1.2 _ _ l
      have lt_at81x3 := GHeap.ltg a8
      replace m := m.trans e1
      refine .qB rfl g (.build bt_43_LFnProducts rfl rfl rfl) ?_
      refine .c1 rfl rfl rfl rfl (.allocR rfl ze_43_LFnProducts rfl) ?_
      rintro _ H15x4 ⟨i9, rfl, c0, ge15x4, at15x4⟩
      replace g := g.trans c0
      refine ⟨g, ?_⟩
      replace l := c0.2 _ _ l
      replace a8 := c0.2 _ _ a8
      replace m := m.trans c0
      refine .r1 rfl rfl rfl (.fillA rfl sz_43_Hr rfl rfl rfl rfl) ?_
      rintro _ H11018x3 ⟨rfl, a0, e9⟩
      replace g := g.st a0 (fun k hk => ⟨by omega, trivial⟩)
      refine ⟨g, ?_⟩
      replace l := a0.s l
      replace a8 := a0.s a8
      replace m := m.st a0 (fun k hk => ⟨by omega, trivial⟩)
      refine .done ?_
      exact ⟨k4, h5, i9, ⟨rfl, rfl, rfl, rfl, rfl, rfl, rfl, rfl, rfl, rfl, rfl, rfl, rfl, rfl, rfl, rfl, rfl, rfl, trivial⟩, m, by omega, by omega, by omega, by first | assumption | simpa using a8, by first | assumption | simpa using l, by first | assumption | simpa using e9, by omega, by omega, by omega⟩
     refine .c1 rfl rfl rfl rfl (.allocR rfl ze_43_LFnProducts rfl) ?_
     rintro _ H15x5 ⟨k6, rfl, d7, ge15x5, d6⟩
     replace g := g.trans d7
     refine ⟨g, ?_⟩
     replace l := d7.2 _ _ l
     have lt_at15x5 := GHeap.ltg d6
     replace m := m.trans d7
     refine .c1 rfl rfl rfl rfl (.litA rfl sl_22_A ze_2_L rfl rfl rfl rfl) ?_
     rintro _ H81x4 ⟨k1, rfl, c4, ge81x4, d2⟩
     replace g := g.trans c4
     refine ⟨g, ?_⟩
     replace l := c4.2 _ _ l
     replace d6 := c4.2 _ _ d6
     replace m := m.trans c4
     refine .qB rfl g (.build bt_43_LFnProducts rfl rfl rfl) ?_
     refine .r1 rfl rfl rfl (.fillA rfl sz_43_Hr rfl rfl rfl rfl) ?_
     rintro _ H11018x4 ⟨rfl, a2, f2⟩
     replace g := g.st a2 (fun k hk => ⟨by omega, trivial⟩)
     refine ⟨g, ?_⟩
     replace l := a2.s l
     replace d2 := a2.s d2
     replace m := m.st a2 (fun k hk => ⟨by omega, trivial⟩)
     refine .done ?_
     exact ⟨k1, h5, k6, ⟨rfl, rfl, rfl, rfl, rfl, rfl, rfl, rfl, rfl, rfl, rfl, rfl, rfl, rfl, rfl, rfl, rfl, rfl, trivial⟩, m, by omega, by omega, by omega, by first | assumption | simpa using d2, by first | assumption | simpa using l, by first | assumption | simpa using f2, by omega, by omega, by omega⟩
    refine .c1 rfl rfl rfl rfl (.allocR rfl ze_43_LFnProducts rfl) ?_
    rintro _ H15x6 ⟨h2, rfl, f9, ge15x6, u⟩
    have g := f9
    refine ⟨g, ?_⟩
    have lt_at15x6 := GHeap.ltg u
    replace m := m.trans f9
    refine .orI ?_ ?_
    ·
     refine .c1 rfl rfl rfl rfl (.litA rfl sl_22_A ze_2_L rfl rfl rfl rfl) ?_
     rintro _ H81x5 ⟨j8, rfl, c9, ge81x5, a9⟩
     replace g := g.trans c9
     refine ⟨g, ?_⟩
     replace u := c9.2 _ _ u
     have lt_at81x5 := GHeap.ltg a9
     replace m := m.trans c9
     refine .c1 rfl rfl rfl rfl (.litA rfl sl_22_A ze_2_L rfl rfl rfl rfl) ?_
     rintro _ H92x5 ⟨k2, rfl, b8, ge92x5, d9⟩
     replace g := g.trans b8
     refine ⟨g, ?_⟩
     replace u := b8.2 _ _ u
     replace a9 := b8.2 _ _ a9
     replace m := m.trans b8
     refine .qB rfl g (.build bt_43_LFnProducts rfl rfl rfl) ?_
     refine .r1 rfl rfl rfl (.fillA rfl sz_43_Hr rfl rfl rfl rfl) ?_
     rintro _ H11018x5 ⟨rfl, a1, f1⟩
     replace g := g.st a1 (fun k hk => ⟨by omega, trivial⟩)
     refine ⟨g, ?_⟩
     replace a9 := a1.s a9
     replace d9 := a1.s d9
     replace m := m.st a1 (fun k hk => ⟨by omega, trivial⟩)
     refine .done ?_
     exact ⟨j8, k2, h2, ⟨rfl, rfl, rfl, rfl, rfl, rfl, rfl, rfl, rfl, rfl, rfl, rfl, rfl, rfl, rfl, rfl, rfl, rfl, trivial⟩, m, by omega, by omega, by omega, by first | assumption | simpa using a9, by first | assumption | simpa using d9, by first | assumption | simpa using f1, by omega, by omega, by omega⟩
    refine .c1 rfl rfl rfl rfl (.litA rfl sl_22_A ze_2_L rfl rfl rfl rfl) ?_
    rintro _ H92x6 ⟨k5, rfl, d4, ge92x6, b0⟩
    replace g := g.trans d4
    refine ⟨g, ?_⟩
    replace u := d4.2 _ _ u
    have lt_at92x6 := GHeap.ltg b0
    replace m := m.trans d4
    refine .c1 rfl rfl rfl rfl (.litA rfl sl_22_A ze_2_L rfl rfl rfl rfl) ?_
    rintro _ H81x6 ⟨j4, rfl, b9, ge81x6, e0⟩
    replace g := g.trans b9
    refine ⟨g, ?_⟩
    replace u := b9.2 _ _ u
    replace b0 := b9.2 _ _ b0
    replace m := m.trans b9
    refine .qB rfl g (.build bt_43_LFnProducts rfl rfl rfl) ?_
    refine .r1 rfl rfl rfl (.fillA rfl sz_43_Hr rfl rfl rfl rfl) ?_
    rintro _ H11018x6 ⟨rfl, a3, f3⟩
    replace g := g.st a3 (fun k hk => ⟨by omega, trivial⟩)
    refine ⟨g, ?_⟩
    replace b0 := a3.s b0
    replace e0 := a3.s e0
    replace m := m.st a3 (fun k hk => ⟨by omega, trivial⟩)
    refine .done ?_
    exact ⟨j4, k5, h2, ⟨rfl, rfl, rfl, rfl, rfl, rfl, rfl, rfl, rfl, rfl, rfl, rfl, rfl, rfl, rfl, rfl, rfl, rfl, trivial⟩, m, by omega, by omega, by omega, by first | assumption | simpa using e0, by first | assumption | simpa using b0, by first | assumption | simpa using f3, by omega, by omega, by omega⟩
   rintro fr15 o5 ⟨h4, h3, i8, i5, c6, ge81, ge92, ge15, j5, l8, k8, ne15_0, ne15_1, ne15_2⟩
   replace f := c6.2 _ _ f
   replace r := c6.2 _ _ r
   replace w := c6.2 _ _ w
   replace a5 := c6.2 _ _ a5
   replace b2 := c6.2 _ _ b2
   replace b6 := c6.2 _ _ b6
   replace c7 := c6.2 _ _ c7
   replace e := Keep.le e c6
   replace e5 := a7.keep e (Nat.le_refl _)
   have lt_at81 := GHeap.ltg j5
   clear e4
   have e4 := e5.inn
   refine m7 _ _ ?_
   refine .forget i5 ?_
   refine .seq (fun K12 m1 => .region ?_)
   refine .q rfl (.loadM ag_43_LFnProducts rfl ⟨rfl, Mem.of_get k8⟩) ?_
   have n2 := ((lit_own (gs := [o1, n8]) (T := [[0, -1], [-1, 1]]) (by simp only [LitAt]; exact ⟨⟨Nat.zero_le _, b2⟩, ⟨Nat.zero_le _, b6⟩, trivial⟩) (by simp <;> omega)).done (by exact c7) (Nat.zero_le _)).intss
   refine .call rfl rfl rfl rfl @Try.call20 rfl (implLimitOf_c (d := pFun g1 g5 f8) (p := ⟨⟨some ⟨l4, 0, none⟩, some ⟨m2, 0, none⟩, some ⟨l7, 0, none⟩, some ⟨n6, 0, none⟩, fun i => some ⟨[o1, n8].getD i 0, 0, none⟩⟩, o2, some ⟨h4, 0, none⟩, some ⟨h3, 0, none⟩⟩) (hin := ⟨⟨Ints.of_get r, Ints.of_get w, Ints.of_get a5, n2⟩, e4, Ints.of_get j5, Ints.of_get l8⟩) (hs := ⟨sh2_is.1.small, l2, Nat.le_of_ble_eq_true rfl, Nat.le_of_ble_eq_true rfl⟩)) ?_
   rintro _ n9 ⟨h6, pL, rfl, vL⟩
   have nx_H96 := h6.1
   replace f := h6.2 _ _ f
   replace e := Keep.le e h6
   have k0 := vL
   have a6 : Keep o5.next n9 n9 := fun _ _ _ h => h
   clear e4
   refine .mv rfl (.q rfl (.extract rfl rfl) (.q rfl (.extract rfl rfl) ?_))
   refine .R rfl (.allocR rfl ze_45_Hi rfl) ?_
   rintro _ H16 ⟨g16, rfl, i4, ge16, at16⟩
   replace f := i4.2 _ _ f
   replace e := Keep.le e i4
   replace a6 := Keep.le a6 i4
   refine .r0 rfl rfl (.fillA rfl sz_45_Cm rfl rfl rfl rfl) ?_
   rintro _ H12006 ⟨rfl, c3, b4⟩
   replace f := c3.s f
   replace e := Keep.st e c3 (fun k hb hk => ⟨by omega, trivial⟩)
   replace e5 := a7.keep e (Nat.le_refl _)
   replace a6 := Keep.st a6 c3 (fun k hb hk => ⟨by omega, trivial⟩)
   have e4 := e5.inn
   refine .mv rfl (.nil (m1 _ _ (.seq (fun K13 l9 => .seq (fun K14 n1 => .region ?_)))))
   have hli := pFun_li hI hx hy
   refine .mv rfl (.q rfl (.cmp rfl rfl rfl) (.nil (n1 _ _ ?_)))
   refine .cond rfl (fun f7 => ?_) (fun f7 => ?_)
   ·
    try simp only [sps] at f7
    refine .seq (fun K15 m4 => .region (.mv rfl (.nil (m4 _ _ ?_))))
    refine .ret ?_
    refine g0 _ _ ?_
    refine ⟨_, rfl, ?_⟩
    first | rfl | exact congrArg Value.bool (beq_iff_eq.2 rfl)
   simp only [sps] at f7
   refine .skip ?_
   refine l9 _ _ (.seq (fun K16 n4 => .seq (fun K17 n0 => .region (.mv rfl (.mv rfl (.q rfl (.cmp rfl rfl rfl) (.nil (n0 _ _ ?_))))))))
   refine .cond rfl (fun f6 => ?_) (fun f6 => ?_)
   ·
    simp only [sps] at f6
    rw [c1] at f6
    rcases hli with q | q
    · exact absurd q f7
    · exact absurd q.1 f6
   try simp only [sps] at f6
   refine .skip ?_
   refine n4 _ _ (.seq (fun K18 m6 => .seq (fun K19 l5 => .region (.mv rfl (.q rfl (.cmp rfl rfl rfl) (.nil (l5 _ _ ?_)))))))
   refine .cond rfl (fun g8 => ?_) (fun g8 => ?_)
   ·
    try simp only [sps] at g8
    refine .seq (fun K20 m8 => .region (.mv rfl (.nil (m8 _ _ ?_))))
    refine .ret ?_
    refine g0 _ _ ?_
    refine ⟨_, rfl, ?_⟩
    first | rfl | exact congrArg Value.bool (beq_iff_eq.2 rfl)
   simp only [sps] at g8
   have hne : g1.fstL (.prod g5 f8) ≠ [] := tripC_0.1 (by rw [← c1]; exact g8)
   obtain ⟨z, P, Q, hfz, hz, hkk, s1, s2, t1, t2, hid, j1, j2, hun⟩ := Cat.prod_law hI hne
   have e6 : (g1.pdL g5 f8).getD 0 0 = (z : Int) := by rw [c2, hfz]; rfl
   have e7 : (g1.pdL g5 f8).getD 1 0 = (P : Int) := by rw [c2, hfz]; rfl
   have e8 : (g1.pdL g5 f8).getD 2 0 = (Q : Int) := by rw [c2, hfz]; rfl
   have hR : (pFun g1 g5 f8).liR = ⟨(z : Int), [(P : Int), (Q : Int)]⟩ := by
     rcases hli with q | q
     · exact absurd q f7
     · rw [q.2 hne, hfz]; rfl
   rw [e6, e7, e8]
   refine .skip ?_
   refine m6 _ _ (.seq (fun K21 m0 => .region ?_))
   refine .q rfl (.loadM ag_29_D rfl ⟨rfl, Mem.of_get f⟩) ?_
   refine .mv rfl (.mv rfl ?_)
   refine .call rfl rfl rfl rfl @Try.call21 rfl (pairSelf_c (x := g5) (y := f8) (z := z) (P := P) (Q := Q) (hk := hkk) (hf := hfz) (s1 := s1) (s2 := s2) (t1 := t1) (t2 := t2) (hid := hid) (i1 := j1) (i2 := j2) (hun := hun)) ?_
   rintro _ H110 ⟨e3, rfl⟩
   replace f := e3.2 _ _ f
   replace b4 := e3.2 _ _ b4
   replace e := Keep.le e e3
   replace a6 := Keep.le a6 e3
   clear e4
   refine .mv rfl (.q rfl (.extract rfl rfl) (.q rfl (.extract rfl rfl) (.mv rfl (.mv rfl (.nil (m0 _ _ (.seq (fun K22 n3 => .region (.mv rfl (.q rfl (.cmp rfl rfl rfl) (.mv rfl ?_)))))))))))
   refine .split (fun i6 => ?_) (fun i6 => ?_)
   ·
    try simp only [sps] at i6
    refine .qg rfl (.fieldAddr fo_45_0_Cm rfl) ?_
    refine .qg rfl (.load on_2_A rfl (by first | assumption | exact Mem.of_get b4 0 _ rfl)) ?_
    rw [hR]
    refine .qg rfl (.move rfl) (.qg rfl (.cmp rfl rfl rfl) (.q rfl (.pickT rfl rfl) (.mv rfl ?_)))
    refine .split (fun i0 => ?_) (fun i0 => ?_)
    ·
     try simp only [sps] at i0
     refine .qg rfl (.fieldAddr fo_45_1_Cm rfl) ?_
     refine .qg rfl (.load on_22_B rfl (by first | assumption | exact Mem.of_get b4 1 _ rfl)) ?_
     rw [hR]
     refine .qg rfl (.move rfl) (.qg rfl (.move rfl) ?_)
     refine .rg rfl rfl rfl rfl rfl (.litA rfl sl_22_A ze_2_L rfl rfl rfl rfl) ?_
     rintro _ H126 ⟨g126, rfl, g6, ge126, j6⟩
     replace f := g6.2 _ _ f
     replace e := Keep.le e g6
     replace e5 := a7.keep e (Nat.le_refl _)
     replace a6 := Keep.le a6 g6
     replace vL := k0.keep a6 (Nat.le_refl _)
     have e4 := e5.inn
     have hlg := IntsR.ints vL
     rw [hR] at hlg
     refine .callQg rfl rfl rfl rfl rfl rfl @Try.call22 rfl (likeInts_c (xs := [(P : Int), (Q : Int)]) (ys := [(P : Int), (Q : Int)]) (h := hlg) (h' := Ints.of_get j6) (hx := by simp) (hy := by simp)) ?_
     refine .q rfl (.pickT rfl rfl) (.mv rfl ?_)
     refine .split (fun h7 => ?_) (fun h7 => ?_)
     ·
      try simp only [sps] at h7
      refine .qg rfl (.move rfl) (.qg rfl (.fieldAddr fo_29_3_B rfl) ?_)
      refine .qg rfl (.load on_22_B rfl (by first | assumption | exact Mem.of_get f 3 _ rfl)) ?_
      refine .qg rfl (.move rfl) ?_
      obtain ⟨-, -, u3, -⟩ := id e4
      refine .qg rfl (.idx1 sl_22_A (by assumption) rfl rfl (by omega) (by omega)) ?_
      refine .qg rfl (.loadI on_2_A (by assumption) rfl (by omega)) ?_
      refine .qg rfl (.cmp rfl rfl rfl) (.q rfl (.pickT rfl rfl) (.mv rfl (.nil (n3 _ _ ?_))))
      refine .ret ?_
      refine g0 _ _ ?_
      refine ⟨_, rfl, ?_⟩
      first | rfl | exact congrArg Value.bool (beq_iff_eq.2 rfl)
     simp at h7
    simp at i0
   simp at i6
  refine .seq (fun K23 j7 => .region (.mv rfl (.q rfl (.cmp rfl rfl rfl) (.mv rfl ?_))))
  refine .split (fun l6 => ?_) (fun l6 => ?_)
  ·
   simp only [sps] at l6
   refine .qg rfl (.move rfl) (.qg rfl (.cmp rfl rfl rfl) (.q rfl (.pickT rfl rfl) (.nil (j7 _ _ ?_))))
   refine .cond rfl (fun n5 => ?_) (fun n5 => ?_)
   ·
    simp only [sps] at n5
    refine .seq (fun K24 l0 => .region (.mv rfl (.nil (l0 _ _ ?_))))
    refine .ret ?_
    refine g0 _ _ ?_
    refine ⟨_, rfl, ?_⟩
    first | rfl | exact congrArg Value.bool (beq_iff_eq.2 rfl)
   simp only [sps] at n5
   refine .skip ?_
   exact ⟨⟨rfl, rfl, rfl, rfl, rfl, rfl, rfl, trivial⟩, rfl, by omega⟩
  simp only [sps] at l6
  refine .z rfl (.z rfl (.q rfl (.pickF rfl rfl) (.nil (j7 _ _ ?_))))
  refine .condF rfl ?_
  refine .skip ?_
  exact ⟨⟨rfl, rfl, rfl, rfl, rfl, rfl, rfl, trivial⟩, rfl, by omega⟩
end Go.Proofs.Ytjdedelneppnlaa
