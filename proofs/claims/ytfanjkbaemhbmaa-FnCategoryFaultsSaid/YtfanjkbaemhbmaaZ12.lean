/- Categories of which one composite is changed. No condition but those of each statement. -/
import Derived.Test.YtfanjkbaemhbmaaZ11
namespace Go.Proofs.Ytfanjkbaemhbmaa
open Go Go.GL Go.RowKit Go.Proofs
theorem l02HomG_c {c : Cat} {p : CatP} {x y : Int} {H : GHeap} (hin : c.In H p := by assumption) (q1 : c.tgt.length = c.src.length) (q2 : c.src.length ≤ 100000) :
    GCalls Try.prog 84 [.agg (c.cells p).toArray, .int .i64 x, .int .i64 y] H (NewInts 2 H (c.hom x y)) := by
  refine GCalls.body (N := 38) (rs := [.tmp 6]) Try.func84 rfl rfl rfl rfl (fun Qx b1 hend => ?_)
  refine .fg [0, 1, 2] rfl ?_
  have g := GHeap.Le.refl H
  have a := hin
  refine .seq (fun K1 b8 => .region ?_)
  refine .R rfl (.boxR rfl sz_27_D rfl) ?_
  rintro _ H3 ⟨g3, rfl, b7, ge3, e⟩
  have nx_H3 := b7.1
  replace g := g.trans b7
  have lt_at3 := GHeap.ltg e
  replace hin := a.mono g
  have b : Cat.At _ g3 0 c p := ⟨Mem.of_get e, hin⟩
  obtain ⟨w, n, a2, m, r, a3, u, o, a0⟩ := b.get
  have v : MemN _ _ _ _ _ := ⟨rfl, b.1⟩
  have a1 := b.2
  refine .mv rfl (.nil (b8 _ _ (.seq (fun K2 c0 => .region ?_))))
  refine .R rfl (.litA rfl sl_24_A ze_2_N rfl rfl rfl rfl) ?_
  rintro _ H9 ⟨g9, rfl, b2, ge9, a8⟩
  have nx_H9 := b2.1
  replace g := g.trans b2
  replace e := b2.2 _ _ e
  have lt_at9 := GHeap.ltg a8
  replace hin := a.mono g
  clear b w n a2 m r a3 u o a0 v a1
  have b : Cat.At _ g3 0 c p := ⟨Mem.of_get e, hin⟩
  obtain ⟨w, n, a2, m, r, a3, u, o, a0⟩ := b.get
  have v : MemN _ _ _ _ _ := ⟨rfl, b.1⟩
  have a1 := b.2
  replace a8 : GHeap.get H9 g9 = some (.row (ints []) 2 true) := a8
  refine .mv rfl (.nil (c0 _ _ (.seq (fun K3 c1 => .seq (fun K4 c2 => .region (.mv rfl (.nil (c2 _ _ ?_))))))))
  refine .block ?_
  refine .loopR (σ := Nat × Nat × Nat) [(1, some _), (2, some _), (3, some _)] (fun (k, l, t) => [(8, some (.int .i64 (k : Int))), (7, some (.slice (some ⟨l, 0, none⟩) t t))]) (fun (k, l, t) H' => St [g9] H9 H' ∧ H'.get l = some (.row (ints (filtN k fun f => decide (c.src.getD f 0 = x) && decide (c.tgt.getD f 0 = y))) 2 true) ∧ (l = g9 ∨ H9.next ≤ l) ∧ t = (filtN k fun f => decide (c.src.getD f 0 = x) && decide (c.tgt.getD f 0 = y)).length ∧ k ≤ c.src.length) (fun (k, l, t) => c.src.length - k) ((0, _, _)) ⟨rfl, rfl, rfl, trivial⟩ ⟨rfl, rfl, trivial⟩ ?_ ?_
  ·
   refine ⟨.refl _ _, by first | assumption | exact a8 | simpa using a8, .inl rfl, by first | rfl | assumption | simp | omega, ?_⟩
   omega
  rintro ⟨k, l, t⟩ HL1 ⟨d, h, pl_L7, a7, hI⟩ KL1 a5
  refine .forget (fr' := [(8, some (.int .i64 (k : Int))), (7, some (.slice (some ⟨l, 0, none⟩) t t)), (1, some _), (2, some _), (3, some _)]) ⟨rfl, rfl, rfl, rfl, rfl, trivial⟩ ?_
  have a6 : H.next ≤ l := by omega
  have nx_HL1 := d.nx
  replace g := g.st d (fun k hk => ⟨by omega, trivial⟩)
  replace e := d.s e
  have lt_at_L7 := GHeap.ltg h
  replace hin := a.mono g
  clear b w n a2 m r a3 u o a0 v a1
  have b : Cat.At _ g3 0 c p := ⟨Mem.of_get e, hin⟩
  obtain ⟨w, n, a2, m, r, a3, u, o, a0⟩ := b.get
  have v : MemN _ _ _ _ _ := ⟨rfl, b.1⟩
  have a1 := b.2
  have hfl := filtN_le k fun f => decide (c.src.getD f 0 = x) && decide (c.tgt.getD f 0 = y)
  refine .seq (fun K5 c4 => .seq (fun K6 b9 => .region (.mv rfl (.q rfl (.fieldAddr fo_27_1_B rfl) ?_))))
  refine .q rfl (.load on_24_B rfl (by first | assumption | exact Mem.of_get e 1 _ rfl)) ?_
  refine .q rfl (.len sl_24_A rfl) (.q rfl (.cmp rfl rfl rfl) (.nil (b9 _ _ ?_)))
  refine .cond rfl (fun a9 => ?_) (fun a9 => ?_)
  ·
   try simp only [sps] at a9
   refine .skip ?_
   refine c4 _ _ (.seq (fun K7 b5 => ?_))
   refine .block ?_
   refine .seq (fun K8 b6 => .region (.q rfl (.fieldAddr fo_27_1_B rfl) ?_))
   refine .q rfl (.load on_24_B rfl (by first | assumption | exact Mem.of_get e 1 _ rfl)) ?_
   refine .mv rfl ?_
   refine .q rfl (.idxN sl_24_A (by assumption) rfl rfl (by omega)) ?_
   refine .q rfl (.loadI on_2_A (by assumption) rfl (by omega)) ?_
   refine .mv rfl (.q rfl (.cmp rfl rfl rfl) (.mv rfl ?_))
   refine .split (fun b3 => ?_) (fun b3 => ?_)
   ·
    try simp only [sps] at b3
    refine .qg rfl (.fieldAddr fo_27_2_B rfl) ?_
    refine .qg rfl (.load on_24_B rfl (by first | assumption | exact Mem.of_get e 2 _ rfl)) ?_
    refine .qg rfl (.move rfl) ?_
    refine .qg rfl (.idxN sl_24_A (by assumption) rfl rfl (by omega)) ?_
    refine .qg rfl (.loadI on_2_A (by assumption) rfl (by omega)) ?_
    refine .qg rfl (.move rfl) (.qg rfl (.cmp rfl rfl rfl) (.q rfl (.pickT rfl rfl) (.nil (b6 _ _ ?_))))
    refine .cond rfl (fun b0 => ?_) (fun b0 => ?_)
    ·
     try simp only [sps] at b0
     refine .region (.mv rfl (.mv rfl ?_))
     refine .R rfl (.litA rfl sl_24_A ze_2_N rfl rfl rfl rfl) ?_
     rintro _ H35 ⟨g35, rfl, i, ge35, a4⟩
     have nx_H35 := i.1
     replace g := g.trans i
     replace d := d.le i
     replace e := i.2 _ _ e
     replace h := i.2 _ _ h
     have lt_at35 := GHeap.ltg a4
     replace hin := a.mono g
     clear b w n a2 m r a3 u o a0 v a1
     have b : Cat.At _ g3 0 c p := ⟨Mem.of_get e, hin⟩
     obtain ⟨w, n, a2, m, r, a3, u, o, a0⟩ := b.get
     have v : MemN _ _ _ _ _ := ⟨rfl, b.1⟩
     have a1 := b.2
     refine .R rfl (.appendI rfl sl_24_A ze_2_N rfl by_2_N sl_24_A rfl rfl (by assumption) (by assumption) (by first | omega | (simp <;> omega)) (by omega) (by omega)) ?_
     rintro _ H36 ⟨g36, rfl, j, ge36, b4⟩
     have nx_H36 := j.nx
     replace g := g.st j (fun k hk => ⟨by omega, trivial⟩)
     replace d := d.sA j
     replace e := j.s e
     replace a4 := j.s a4
     have lt_at36 := GHeap.ltg b4
     replace hin := a.mono g
     clear b w n a2 m r a3 u o a0 v a1
     have b : Cat.At _ g3 0 c p := ⟨Mem.of_get e, hin⟩
     obtain ⟨w, n, a2, m, r, a3, u, o, a0⟩ := b.get
     have v : MemN _ _ _ _ _ := ⟨rfl, b.1⟩
     have a1 := b.2
     refine .mv rfl (.nil (b5 _ _ (.region (.mv rfl ?_))))
     refine .q rfl (.add rfl rfl rfl (by omega) (by omega)) ?_
     refine .mv rfl (.nil ?_)
     refine a5 ((k + 1, _, _)) _ _ ?_ ?_ ⟨rfl, rfl, rfl, rfl, rfl, trivial⟩
     ·
      refine ⟨d, by first | assumption | (rw [filtN_T (by simp only [sps]; omega)]; assumption) | (rw [filtN_F (by simp only [sps]; omega)]; assumption), by omega, by first | omega | (simp only [List.length_append, List.length_cons, List.length_nil] <;> omega) | (rw [filtN_T (by simp only [sps]; omega)] <;> (first | omega | (simp only [List.length_append, List.length_cons, List.length_nil] <;> omega))) | (rw [filtN_F (by simp only [sps]; omega)] <;> (first | omega | (simp only [List.length_append, List.length_cons, List.length_nil] <;> omega))), ?_⟩
      omega
     (dsimp only; omega)
    try simp only [sps] at b0
    refine .skip ?_
    refine b5 _ _ (.region (.mv rfl ?_))
    refine .q rfl (.add rfl rfl rfl (by omega) (by omega)) ?_
    refine .mv rfl (.nil ?_)
    refine a5 ((k + 1, _, _)) _ _ ?_ ?_ ⟨rfl, rfl, rfl, rfl, rfl, trivial⟩
    ·
     refine ⟨d, by first | assumption | (rw [filtN_T (by simp only [sps]; omega)]; assumption) | (rw [filtN_F (by simp only [sps]; omega)]; assumption), by omega, by first | omega | (simp only [List.length_append, List.length_cons, List.length_nil] <;> omega) | (rw [filtN_T (by simp only [sps]; omega)] <;> (first | omega | (simp only [List.length_append, List.length_cons, List.length_nil] <;> omega))) | (rw [filtN_F (by simp only [sps]; omega)] <;> (first | omega | (simp only [List.length_append, List.length_cons, List.length_nil] <;> omega))), ?_⟩
     omega
    (dsimp only; omega)
   try simp only [sps] at b3
   refine .z rfl (.z rfl (.z rfl (.z rfl (.z rfl (.z rfl (.z rfl (.q rfl (.pickF rfl rfl) (.nil (b6 _ _ ?_)))))))))
   refine .condF rfl ?_
   refine .skip ?_
   refine b5 _ _ (.region (.mv rfl ?_))
   refine .q rfl (.add rfl rfl rfl (by omega) (by omega)) ?_
   refine .mv rfl (.nil ?_)
   refine a5 ((k + 1, _, _)) _ _ ?_ ?_ ⟨rfl, rfl, rfl, rfl, rfl, trivial⟩
   ·
    refine ⟨d, by first | assumption | (rw [filtN_T (by simp only [sps]; omega)]; assumption) | (rw [filtN_F (by simp only [sps]; omega)]; assumption), by omega, by first | omega | (simp only [List.length_append, List.length_cons, List.length_nil] <;> omega) | (rw [filtN_T (by simp only [sps]; omega)] <;> (first | omega | (simp only [List.length_append, List.length_cons, List.length_nil] <;> omega))) | (rw [filtN_F (by simp only [sps]; omega)] <;> (first | omega | (simp only [List.length_append, List.length_cons, List.length_nil] <;> omega))), ?_⟩
    omega
   (dsimp only; omega)
  try simp only [sps] at a9
  refine .exit ?_
  refine c1 _ _ (.seq (fun K9 c3 => .region (.mv rfl (.mv rfl (.nil (c3 _ _ ?_))))))
  refine .ret ?_
  refine b1 _ _ ?_
  refine ⟨_, rfl, ?_⟩
  obtain rfl : k = c.src.length := by omega
  exact ⟨g, _, by rw [a7]; rfl, h, a6⟩
set_option maxHeartbeats 8000000 in
theorem l02Turned_c {a : Option Addr} {xs : List Int} {H : GHeap} (hb : Bytes H a xs := by assumption) (hlt : ∀ b o t, a = some ⟨b, o, t⟩ → b < H.next := by assumption) (hx : xs.length ≤ 4096 := by omega) :
    GCalls Try.prog 50 [.slice a xs.length xs.length] H (NewK H) := by
  refine GCalls.body (N := 76) (rs := [.cell 2 27]) Try.func50 rfl rfl rfl rfl (fun Qx h9 hend => ?_)
  refine .fg [0] rfl ?_
  have w := GHeap.Le.refl H
  have n := hb
  refine .seq (fun K1 p5 => .region ?_)
  refine .R rfl (.allocR rfl ze_27_Hj rfl) ?_
  rintro _ H2 ⟨g2, rfl, o9, ge2, e2⟩
  have nx_H2 := o9.1
  replace w := w.trans o9
  have lt_at2 := GHeap.ltg e2
  replace hb := n.mono w
  refine .nil (p5 _ _ (.seq (fun K2 r7 => .region (.mv rfl ?_))))
  refine .call rfl rfl rfl rfl @Try.call29 rfl (l01From_c (hlt := fun b o t e => by have := hlt b o t e; omega)) ?_
  rintro _ q4 ⟨j5, gS, rfl, ge10, hs⟩
  have hlS := hs.lt
  have nx_H10 := j5.1
  replace w := w.trans j5
  replace e2 := j5.2 _ _ e2
  replace hb := n.mono w
  refine .mv rfl (.nil (r7 _ _ (.seq (fun K3 q3 => .region (.mv rfl ?_)))))
  refine .call rfl rfl rfl rfl @Try.call70 rfl (l02SomeG_c) ?_
  rintro _ p2 ⟨e9, p4, rfl, j4, c7, j7, hs⟩
  have j8 := j4.r
  have hsm := j8.small (by omega)
  obtain ⟨a1, a2, a3, a4, a5, a6, a7, a8, a9, a10⟩ := id j8
  obtain ⟨n1, n2, n3, n4, n5, n6⟩ := id hsm
  have nx_H12 := j7.nx
  replace w := w.st j7 (fun k hk => ⟨by omega, trivial⟩)
  have c5 : NE g2 gS := .a
  replace e2 := j7.s e2 c5.ne
  replace hb := n.mono w
  have u := c7
  have d : Keep q4.next p2 p2 := fun _ _ _ h => h
  have c8 := c7.inn
  refine .R rfl (.allocR rfl ze_27_Hj rfl) ?_
  rintro _ H4 ⟨g4, rfl, k1, ge4, s0⟩
  have nx_H4 := k1.1
  replace w := w.trans k1
  replace hs := hs.le k1
  replace e2 := k1.2 _ _ e2
  replace d := Keep.le d k1
  replace c7 := u.keep d (Nat.le_refl _)
  have lt_at4 := GHeap.ltg s0
  replace hb := n.mono w
  clear c8
  have c8 := c7.inn
  refine .r0 rfl rfl (.fillA rfl sz_27_D rfl rfl rfl rfl) ?_
  rintro _ H2003 ⟨rfl, g8, m⟩
  have nx_H2003 := g8.nx
  replace w := w.st g8 (fun k hk => ⟨by omega, trivial⟩)
  replace hs := hs.sA g8
  have a0 : NE g2 g4 := .a
  replace e2 := g8.s e2 a0.ne
  replace d := Keep.st d g8 (fun k hb hk => ⟨(by omega), trivial⟩)
  replace c7 := u.keep d (Nat.le_refl _)
  have lt_at2003 := GHeap.ltg m
  replace hb := n.mono w
  clear c8
  have c8 := c7.inn
  have l : MemN _ _ _ _ _ := ⟨rfl, Mem.of_get m⟩
  refine .nil (q3 _ _ (.seq (fun K4 j1 => .seq (fun K5 r4 => .region (.mv rfl ?_)))))
  refine .call rfl rfl rfl rfl @Try.call30 rfl (l01Next_c) ?_
  rintro _ q1 ⟨k14, rfl, ka14, kb14, kc14, i6, hs⟩
  have nx_H14 := i6.nx
  replace w := w.st i6 (fun k hk => ⟨by omega, trivial⟩)
  replace e2 := i6.s e2 c5.ne
  have d1 : NE g4 gS := .a
  replace m := i6.s m d1.ne
  replace d := Keep.st d i6 (fun k hb hk => ⟨(by omega), trivial⟩)
  replace c7 := u.keep d (Nat.le_refl _)
  replace hb := n.mono w
  clear c8
  have c8 := c7.inn
  clear l
  have l : MemN _ _ _ _ _ := ⟨rfl, Mem.of_get m⟩
  refine .nil (r4 _ _ ?_)
  refine .block ?_
  refine .seq (fun K6 p6 => .region (.q rfl (.cmp rfl rfl rfl) (.mv rfl (.nil (p6 _ _ ?_)))))
  refine .cond rfl (fun l7 => ?_) (fun l7 => ?_)
  ·
   try simp only [sps] at l7
   refine .seq (fun K7 p9 => .region (.mv rfl ?_))
   refine .q rfl (.loadM ag_27_Hj rfl ⟨rfl, Mem.of_get m⟩) ?_
   refine .call rfl rfl rfl rfl @Try.call71 rfl (l02Bend_c (hin := c8) (hr := j8)) ?_
   rintro _ p1 ⟨r8, q5, rfl, m7, l9, i7, hs⟩
   have nx_H19 := i7.nx
   replace w := w.st i7 (fun k hk => ⟨by omega, trivial⟩)
   replace e2 := i7.s e2 c5.ne
   replace m := i7.s m d1.ne
   replace d := Keep.st d i7 (fun k hb hk => ⟨(by omega), trivial⟩)
   replace c7 := u.keep d (Nat.le_refl _)
   replace hb := n.mono w
   clear c8
   have c8 := c7.inn
   clear l
   have l : MemN _ _ _ _ _ := ⟨rfl, Mem.of_get m⟩
   have j3 := l9
   have i3 : Keep q1.next p1 p1 := fun _ _ _ h => h
   refine .r0 rfl rfl (.fillA rfl sz_27_D rfl rfl rfl rfl) ?_
   rintro _ H5003 ⟨rfl, g9, i2⟩
   have nx_H5003 := g9.nx
   replace w := w.st g9 (fun k hk => ⟨by omega, trivial⟩)
   replace m := g9.s m (Ne.symm a0.ne)
   replace d := Keep.st d g9 (fun k hb hk => ⟨(by omega), trivial⟩)
   replace c7 := u.keep d (Nat.le_refl _)
   replace i3 := Keep.st i3 g9 (fun k hb hk => ⟨(by omega), trivial⟩)
   replace l9 := j3.keep i3 (Nat.le_refl _)
   have lt_at5003 := GHeap.ltg i2
   replace hb := n.mono w
   clear c8
   have c8 := c7.inn
   clear l
   have l : MemN _ _ _ _ _ := ⟨rfl, Mem.of_get m⟩
   have mm5003 : MemN _ _ _ _ _ := ⟨rfl, Mem.of_get i2⟩
   refine .nil (p9 _ _ ?_)
   refine .ret ?_
   refine h9 _ _ ?_
   refine ⟨_, _, _, _, rfl, ag_27_Hj, (by rfl), (Mem.of_get i2), ?_⟩
   exact ⟨w, r8, q5, rfl, m7, l9.keep (.of_le (.refl _)) (by omega)⟩
  try simp only [sps] at l7
  refine .seq (fun K8 p0 => .seq (fun K9 r9 => .region (.q rfl (.cmp rfl rfl rfl) (.mv rfl (.nil (r9 _ _ ?_))))))
  refine .cond rfl (fun i5 => ?_) (fun i5 => ?_)
  ·
   try simp only [sps] at i5
   refine .skip ?_
   refine p0 _ _ ?_
   refine .cond rfl (fun i5 => ?_) (fun i5 => ?_)
   ·
    try simp only [sps] at i5
    refine .seq (fun K10 m8 => .region ?_)
    refine .q rfl (.loadM ag_27_Hj rfl ⟨rfl, Mem.of_get m⟩) ?_
    refine .call rfl rfl rfl rfl @Try.call83 rfl (l02OwnO_c (hin := c8) (hs := hsm)) ?_
    rintro _ q0 ⟨i4, gF, gT, gI, gC, rr, rfl, i1⟩
    have aF := i1.a1
    have aT := i1.a2
    have aI := i1.a3
    have aC := i1.a4
    have bF := i1.b1
    have bT := i1.b2
    have bI := i1.b3
    have bC := i1.b4
    have q6 := i1.n12
    have q9 := i1.n13
    have p8 := i1.n23
    have r5 := row_ne aC aF rfl
    have q8 := row_ne aC aT rfl
    have r6 := row_ne aC aI rfl
    have hRR := i1.rows
    have l4 := i1.r1
    have k4 := i1.r2
    have k5 := i1.r3
    have o1 := i1.a4
    have e8 := St.refl [g4, gS, gF, gT, gI, gC] q0
    have nx_H24 := i4.1
    replace w := w.trans i4
    replace hs := hs.le i4
    replace e2 := i4.2 _ _ e2
    replace m := i4.2 _ _ m
    replace d := Keep.le d i4
    replace c7 := u.keep d (Nat.le_refl _)
    have k8 := GHeap.ltg aF
    have k6 := GHeap.ltg aT
    have k7 := GHeap.ltg aI
    have k3 := GHeap.ltg aC
    replace hb := n.mono w
    clear c8
    have c8 := c7.inn
    clear l
    have l : MemN _ _ _ _ _ := ⟨rfl, Mem.of_get m⟩
    refine .r0 rfl rfl (.fillA rfl sz_27_D rfl rfl rfl rfl) ?_
    rintro _ H8002 ⟨rfl, e1, p⟩
    have nx_H8002 := e1.nx
    replace w := w.st e1 (fun k hk => ⟨by omega, trivial⟩)
    replace hs := hs.sA e1
    replace e8 := e8.sA e1
    replace e2 := e1.s e2 a0.ne
    have g7 : NE gF g4 := .a
    replace aF := e1.s aF g7.ne
    have h1 : NE gT g4 := .a
    replace aT := e1.s aT h1.ne
    have g3 : NE gI g4 := .a
    replace aI := e1.s aI g3.ne
    have h2 : NE gC g4 := .a
    replace aC := e1.s aC h2.ne
    replace d := Keep.st d e1 (fun k hb hk => ⟨(by omega), trivial⟩)
    replace c7 := u.keep d (Nat.le_refl _)
    have lt_at8002 := GHeap.ltg p
    replace hb := n.mono w
    clear c8
    have c8 := c7.inn
    clear l
    have l : MemN _ _ _ _ _ := ⟨rfl, Mem.of_get m⟩
    have c2 : MemN _ _ _ _ _ := ⟨rfl, Mem.of_get p⟩
    refine .nil (m8 _ _ (.seq (fun K11 o6 => .region ?_)))
    have offA : Off rr e9.comp.length [g4, gS, gF, gT, gI, gC] := .cons (hRR.lowNe (by omega)) (.cons (hRR.lowNe (by omega)) (.cons l4 (.cons k4 (.cons k5 (.cons (hRR.neT o1 rfl) (.nil _ _))))))
    refine .q rfl (.fieldAddr fo_27_1_B rfl) ?_
    refine .q rfl (.load on_24_B rfl (by first | assumption | exact Mem.of_get p 1 _ rfl)) ?_
    refine .q rfl (.len sl_24_A rfl) (.mv rfl (.nil (o6 _ _ (.seq (fun K12 l8 => .region (.mv rfl (.mv rfl ?_)))))))
    refine .call rfl rfl rfl rfl @Try.call30 rfl (l01Next_c) ?_
    rintro _ H30 ⟨kF, rfl, ka30, kb30, kc30, h6, hs⟩
    have nx_H30 := h6.nx
    replace w := w.st h6 (fun k hk => ⟨by omega, trivial⟩)
    replace e8 := e8.sA h6
    replace e2 := h6.s e2 c5.ne
    have d4 : NE gF gS := .a
    replace aF := h6.s aF d4.ne
    have d7 : NE gT gS := .a
    replace aT := h6.s aT d7.ne
    have d6 : NE gI gS := .a
    replace aI := h6.s aI d6.ne
    have d5 : NE gC gS := .a
    replace aC := h6.s aC d5.ne
    replace p := h6.s p d1.ne
    replace d := Keep.st d h6 (fun k hb hk => ⟨(by omega), trivial⟩)
    replace c7 := u.keep d (Nat.le_refl _)
    replace hb := n.mono w
    clear c8
    have c8 := c7.inn
    clear l
    have l : MemN _ _ _ _ _ := ⟨rfl, Mem.of_get m⟩
    clear c2
    have c2 : MemN _ _ _ _ _ := ⟨rfl, Mem.of_get p⟩
    refine .mv rfl (.mv rfl ?_)
    refine .call rfl rfl rfl rfl @Try.call30 rfl (l01Next_c) ?_
    rintro _ H33 ⟨kG, rfl, ka33, kb33, kc33, h7, hs⟩
    have nx_H33 := h7.nx
    replace w := w.st h7 (fun k hk => ⟨by omega, trivial⟩)
    replace e8 := e8.sA h7
    replace e2 := h7.s e2 c5.ne
    replace aF := h7.s aF d4.ne
    replace aT := h7.s aT d7.ne
    replace aI := h7.s aI d6.ne
    replace aC := h7.s aC d5.ne
    replace p := h7.s p d1.ne
    replace d := Keep.st d h7 (fun k hb hk => ⟨(by omega), trivial⟩)
    replace c7 := u.keep d (Nat.le_refl _)
    replace hb := n.mono w
    clear c8
    have c8 := c7.inn
    clear l
    have l : MemN _ _ _ _ _ := ⟨rfl, Mem.of_get m⟩
    clear c2
    have c2 : MemN _ _ _ _ _ := ⟨rfl, Mem.of_get p⟩
    refine .mv rfl (.mv rfl (.nil (l8 _ _ (.seq (fun K13 l0 => ?_)))))
    refine .regionD mo_B (.q 0 (.q 1 (.q 2 (.q 3 (.q 4 (.q 5 (.q 6 (.q 7 (.q 8 (.q 9 (.q 10 (.q 11 (.q 12 (.q 13 (.q 14 (.done)))))))))))))))) (by kernel_rfl) ?_
    refine .mv rfl rfl (.q rfl (.cmp rfl rfl rfl) (.mv rfl rfl ?_))
    refine .split (fun j6 => ?_) (fun j6 => ?_)
    ·
     simp only [sps] at j6
     refine .qg rfl (.fieldAddr fo_27_2_B rfl) ?_
     refine .qg rfl (.load on_24_B rfl (by first | assumption | exact Mem.of_get p 2 _ rfl)) ?_
     refine .qg rfl (.move rfl) ?_
     refine .qg rfl (.idx1 sl_24_A (by first | assumption | exact SlA.of_row aT (by first | rfl | (simp; done) | (simp <;> omega))) rfl rfl (by omega) (by omega)) ?_
     refine .qg rfl (.loadI on_2_A (by first | assumption | exact Ints.of_get aT) rfl (by omega)) ?_
     refine .qg rfl (.fieldAddr fo_27_1_B rfl) ?_
     refine .qg rfl (.load on_24_B rfl (by first | assumption | exact Mem.of_get p 1 _ rfl)) ?_
     refine .qg rfl (.move rfl) ?_
     refine .qg rfl (.idx1 sl_24_A (by first | assumption | exact SlA.of_row aF (by first | rfl | (simp; done) | (simp <;> omega))) rfl rfl (by omega) (by omega)) ?_
     refine .qg rfl (.loadI on_2_A (by first | assumption | exact Ints.of_get aF) rfl (by omega)) ?_
     refine .qg rfl (.cmp rfl rfl rfl) (.q rfl (.pickT rfl rfl) ?_)
     refine .done ?_
     refine l0 _ _ ?_
     refine .cond rfl (fun i8 => ?_) (fun i8 => ?_)
     ·
      simp only [sps] at i8
      refine .seq (fun K14 n9 => ?_)
      refine .regionD mo_B (.q 0 (.q 1 (.q 2 (.q 3 (.q 4 (.q 5 (.q 6 (.q 7 (.q 8 (.q 9 (.q 10 (.c 11 0 (.q 12 (.done)))))))))))))) (by kernel_rfl) ?_
      refine .q rfl (.loadM ag_27_Hj rfl ⟨rfl, Mem.of_get p⟩) ?_
      refine .q rfl (.fieldAddr fo_27_1_B rfl) ?_
      refine .q rfl (.load on_24_B rfl (by first | assumption | exact Mem.of_get p 1 _ rfl)) ?_
      refine .mv rfl rfl ?_
      refine .q rfl (.idx1 sl_24_A (by first | assumption | exact SlA.of_row aF (by first | rfl | (simp; done) | (simp <;> omega))) rfl rfl (by omega) (by omega)) ?_
      refine .q rfl (.loadI on_2_A (by first | assumption | exact Ints.of_get aF) rfl (by omega)) ?_
      refine .q rfl (.fieldAddr fo_27_2_B rfl) ?_
      refine .q rfl (.load on_24_B rfl (by first | assumption | exact Mem.of_get p 2 _ rfl)) ?_
      refine .mv rfl rfl ?_
      refine .q rfl (.idx1 sl_24_A (by first | assumption | exact SlA.of_row aT (by first | rfl | (simp; done) | (simp <;> omega))) rfl rfl (by omega) (by omega)) ?_
      refine .q rfl (.loadI on_2_A (by first | assumption | exact Ints.of_get aT) rfl (by omega)) ?_
      refine .call0 rfl rfl rfl rfl rfl @Try.call84 rfl (l02HomG_c (hin := (KIn.own aF bF aT bT aI bI aC bC (hRR.st e8 offA)).inn) (by omega) (by omega)) ?_
      rintro _ p3 ⟨g5, g60, rfl, f2, ge60⟩
      have nx_H60 := g5.1
      replace w := w.trans g5
      replace e8 := e8.le g5
      replace hs := hs.le g5
      replace e2 := g5.2 _ _ e2
      replace aF := g5.2 _ _ aF
      replace aT := g5.2 _ _ aT
      replace aI := g5.2 _ _ aI
      replace aC := g5.2 _ _ aC
      replace p := g5.2 _ _ p
      replace d := Keep.le d g5
      replace c7 := u.keep d (Nat.le_refl _)
      have lt_at60 := GHeap.ltg f2
      replace hb := n.mono w
      clear c8
      have c8 := c7.inn
      clear l
      have l : MemN _ _ _ _ _ := ⟨rfl, Mem.of_get m⟩
      clear c2
      have c2 : MemN _ _ _ _ _ := ⟨rfl, Mem.of_get p⟩
      have k0 := Ints.of_get f2
      refine .mv rfl rfl ?_
      refine .done ?_
      refine n9 _ _ ?_
      refine .regionDB mo_B (.q 0 (.q 1 (.q 2 (.q 3 (.q 4 (.q 5 (.q 6 (.q 7 (.q 8 (.q 9 (.c 10 1 (.q 11 (.q 12 (.q 13 (.c 14 0 (.done)))))))))))))))) (by kernel_rfl) (GHeap.le_erase p3 gS) ?_
      have e7 := GHeap.le_erase p3 gS
      first
        | have hatM := c9
        | have hatM := f2
      have m5 := GHeap.get_erase_of (g := gS) (by first | exact p | exact j) (by omega)
      have aCB := GHeap.get_erase_of (g := gS) aC (by omega)
      have hMB := GHeap.get_erase_of (g := gS) hatM (by omega)
      obtain ⟨gi, hgi, hbi, hati⟩ := (hRR.st e8 offA).row kF.toNat (by omega)
      obtain ⟨o0, l1, _, j9⟩ := hRR.row kF.toNat (by omega)
      have ltg := GHeap.ltg j9
      have e0 : o0 = gi := by
        rw [hgi] at l1
        cases l1
        rfl
      rw [e0] at ltg
      have atiB := GHeap.get_erase_of (g := gS) hati (by omega)
      have cC := slsL_cell aCB (i := kF.toNat) (by omega)
      rw [hgi] at cC
      have m1 : gF ≠ gi := fun e => l4 kF.toNat (by omega) (by rw [hgi, e])
      have m2 : gT ≠ gi := fun e => k4 kF.toNat (by omega) (by rw [hgi, e])
      have m3 : gI ≠ gi := fun e => k5 kF.toNat (by omega) (by rw [hgi, e])
      have m4 := row_ne aC hati rfl
      have q7 := a9 kF.toNat (by omega)
      have q2 := j4.s.hom_pos (f := kF.toNat) (g := kG.toNat) (by omega) (by omega) i8
      have p7 := e9.hom_le (e9.src.getD kF.toNat 0) (e9.tgt.getD kG.toNat 0)
      refine .qB rfl e7 (.fieldAddr fo_27_4_B rfl) (.qB rfl e7 (.load on_25_B rfl (Mem.of_get m5 4 _ rfl)) (.qB rfl e7 (.move rfl) ?_))
      refine .qB rfl e7 (.idx1 sl_25_B (SlA.of_row aCB (by first | rfl | (simp; done) | (simp <;> omega))) rfl rfl (by omega) (by omega)) ?_
      refine .qB rfl e7 (.load on_24_B rfl cC) ?_
      have i9 := GHeap.ltg hati
      refine .qB rfl e7 (.move rfl) (.qB rfl e7 (.move rfl) (.qB rfl e7 (.move rfl) (.qB rfl e7 (.move rfl) (.qB rfl e7 (.len sl_24_A rfl) ?_))))
      refine .call1 rfl rfl rfl rfl rfl @Try.call30 rfl (l01Next_c) ?_
      rintro _ H71 ⟨k71, rfl, ka71, kb71, kc71, f4, hs⟩
      replace e7 := e7.erase_st f4
      refine ⟨e7, ?_⟩
      have nx_H71 := f4.nx
      replace w := w.st f4 (fun k hk => ⟨by omega, trivial⟩)
      replace e8 := e8.sA f4
      replace e2 := f4.s e2 c5.ne
      replace aF := f4.s aF d4.ne
      replace aT := f4.s aT d7.ne
      replace aI := f4.s aI d6.ne
      replace aC := f4.s aC d5.ne
      replace p := f4.s p d1.ne
      replace f2 := f4.s f2
      have g1 : NE gi gS := .a
      replace hati := f4.s hati g1.ne
      replace d := Keep.st d f4 (fun k hb hk => ⟨(by omega), trivial⟩)
      replace c7 := u.keep d (Nat.le_refl _)
      replace hb := n.mono w
      clear c8
      have c8 := c7.inn
      clear l
      have l : MemN _ _ _ _ _ := ⟨rfl, Mem.of_get m⟩
      clear c2
      have c2 : MemN _ _ _ _ _ := ⟨rfl, Mem.of_get p⟩
      clear k0
      have k0 := Ints.of_get f2
      refine .qB rfl e7 (.idx1 sl_24_A (SlA.of_row hMB (by first | rfl | (simp; done) | (simp <;> omega))) rfl rfl (by omega) (by omega)) ?_
      refine .qB rfl e7 (.loadI on_2_A (Ints.of_get hMB) rfl (by omega)) ?_
      refine .qB rfl e7 (.idx1 sl_24_A (SlA.of_row atiB (by first | rfl | (simp; done) | (simp <;> omega))) rfl rfl (by omega) (by omega)) ?_
      refine .r0 rfl rfl rfl (.storeI rfl sz_2_Ch rfl rfl (by assumption) (by first | omega | (simp <;> omega))) ?_
      rintro _ H13014 ⟨rfl, c4, f0⟩
      have nx_H13014 := c4.nx
      replace w := w.st c4 (fun k hk => ⟨by omega, trivial⟩)
      replace hs := hs.sA c4
      have e4 : NE g2 gi := .a
      replace e2 := c4.s e2 e4.ne
      have h5 : NE gF gi := .a
      replace aF := c4.s aF h5.ne
      have h3 : NE gT gi := .a
      replace aT := c4.s aT h3.ne
      have h4 : NE gI gi := .a
      replace aI := c4.s aI h4.ne
      have g6 : NE gC gi := .a
      replace aC := c4.s aC g6.ne
      have h0 : NE g4 gi := .a
      replace p := c4.s p h0.ne
      replace f2 := c4.s f2
      replace d := Keep.st d c4 (fun k hb hk => ⟨(by omega), trivial⟩)
      replace c7 := u.keep d (Nat.le_refl _)
      have lt_at13014 := GHeap.ltg f0
      replace hb := n.mono w
      clear c8
      have c8 := c7.inn
      clear l
      have l : MemN _ _ _ _ _ := ⟨rfl, Mem.of_get m⟩
      clear c2
      have c2 : MemN _ _ _ _ _ := ⟨rfl, Mem.of_get p⟩
      clear k0
      have k0 := Ints.of_get f2
      rw [Nat.zero_add] at f0
      have j2 := bend_set (hRR.st e8 offA) c4 (by omega) hgi f0 (by rw [List.length_set])
      refine .done ?_
      refine j1 _ _ (.seq (fun K15 m6 => .region ?_))
      refine .q rfl (.loadM ag_27_Hj rfl ⟨rfl, Mem.of_get p⟩) ?_
      refine .r0 rfl rfl (.fillA rfl sz_27_D rfl rfl rfl rfl) ?_
      rintro _ H14001 ⟨rfl, c6, i0⟩
      have nx_H14001 := c6.nx
      replace w := w.st c6 (fun k hk => ⟨by omega, trivial⟩)
      have b5 : NE gF g2 := .a
      replace aF := c6.s aF b5.ne
      have b0 : NE gT g2 := .a
      replace aT := c6.s aT b0.ne
      have b6 : NE gI g2 := .a
      replace aI := c6.s aI b6.ne
      have b7 : NE gC g2 := .a
      replace aC := c6.s aC b7.ne
      replace p := c6.s p (Ne.symm a0.ne)
      replace f2 := c6.s f2
      replace f0 := c6.s f0 (Ne.symm e4.ne)
      replace d := Keep.st d c6 (fun k hb hk => ⟨(by omega), trivial⟩)
      replace c7 := u.keep d (Nat.le_refl _)
      have lt_at14001 := GHeap.ltg i0
      replace hb := n.mono w
      clear c8
      have c8 := c7.inn
      clear l
      have l : MemN _ _ _ _ _ := ⟨rfl, Mem.of_get m⟩
      clear c2
      have c2 : MemN _ _ _ _ _ := ⟨rfl, Mem.of_get p⟩
      clear k0
      have k0 := Ints.of_get f2
      have mm14001 : MemN _ _ _ _ _ := ⟨rfl, Mem.of_get i0⟩
      refine .nil (m6 _ _ ?_)
      refine .ret ?_
      refine h9 _ _ ?_
      refine ⟨_, _, _, _, rfl, ag_27_Hj, (by rfl), (Mem.of_get i0), ?_⟩
      obtain ⟨T, o8, l3, o2, k9⟩ := j2
      have hR' := k9.st c6 (.cons (k9.lowNe (by omega)) (.nil _ _))
      rw [← o8] at aC
      exact ⟨w, ⟨e9.obj, e9.src, e9.tgt, e9.idn, T⟩, ownP gF gT gI gC rr, by simp [Cat.cells, ownP, l3], ⟨n1, n2, n3, (by rw [l3]; exact n4), fun i => Nat.le_trans (Nat.le_of_eq (o2 i)) (n5 i), n6⟩, (KIn.own (c := ⟨e9.obj, e9.src, e9.tgt, e9.idn, T⟩) aF bF aT bT aI bI aC bC hR').keep (.of_le (.refl _)) (by omega)⟩
     try simp only [sps] at i8
     refine .skip ?_
     refine j1 _ _ (.seq (fun K16 n8 => .region ?_))
     refine .q rfl (.loadM ag_27_Hj rfl ⟨rfl, Mem.of_get p⟩) ?_
     refine .r0 rfl rfl (.fillA rfl sz_27_D rfl rfl rfl rfl) ?_
     rintro _ H14001x2 ⟨rfl, b9, f9⟩
     have nx_H14001x2 := b9.nx
     replace w := w.st b9 (fun k hk => ⟨by omega, trivial⟩)
     have b5 : NE gF g2 := .a
     replace aF := b9.s aF b5.ne
     have b0 : NE gT g2 := .a
     replace aT := b9.s aT b0.ne
     have b6 : NE gI g2 := .a
     replace aI := b9.s aI b6.ne
     have b7 : NE gC g2 := .a
     replace aC := b9.s aC b7.ne
     replace p := b9.s p (Ne.symm a0.ne)
     replace d := Keep.st d b9 (fun k hb hk => ⟨(by omega), trivial⟩)
     replace c7 := u.keep d (Nat.le_refl _)
     have lt_at14001x2 := GHeap.ltg f9
     replace hb := n.mono w
     clear c8
     have c8 := c7.inn
     clear l
     have l : MemN _ _ _ _ _ := ⟨rfl, Mem.of_get m⟩
     clear c2
     have c2 : MemN _ _ _ _ _ := ⟨rfl, Mem.of_get p⟩
     have mm14001x2 : MemN _ _ _ _ _ := ⟨rfl, Mem.of_get f9⟩
     refine .nil (n8 _ _ ?_)
     refine .ret ?_
     refine h9 _ _ ?_
     refine ⟨_, _, _, _, rfl, ag_27_Hj, (by rfl), (Mem.of_get f9), ?_⟩
     have hR' := (hRR.st e8 offA).st b9 (.cons (hRR.lowNe (by omega)) (.nil _ _))
     exact ⟨w, e9, ownP gF gT gI gC rr, rfl, hsm, (KIn.own aF bF aT bT aI bI aC bC hR').keep (.of_le (.refl _)) (by omega)⟩
    try simp only [sps] at j6
    refine .z rfl (.z rfl (.z rfl (.z rfl (.z rfl (.z rfl (.z rfl (.z rfl (.z rfl (.z rfl (.z rfl (.q rfl (.pickF rfl rfl) ?_)))))))))))
    refine .done ?_
    refine l0 _ _ ?_
    refine .condF rfl ?_
    refine .skip ?_
    refine j1 _ _ (.seq (fun K17 m0 => .region ?_))
    refine .q rfl (.loadM ag_27_Hj rfl ⟨rfl, Mem.of_get p⟩) ?_
    refine .r0 rfl rfl (.fillA rfl sz_27_D rfl rfl rfl rfl) ?_
    rintro _ H14001x3 ⟨rfl, c0, f5⟩
    have nx_H14001x3 := c0.nx
    replace w := w.st c0 (fun k hk => ⟨by omega, trivial⟩)
    have b5 : NE gF g2 := .a
    replace aF := c0.s aF b5.ne
    have b0 : NE gT g2 := .a
    replace aT := c0.s aT b0.ne
    have b6 : NE gI g2 := .a
    replace aI := c0.s aI b6.ne
    have b7 : NE gC g2 := .a
    replace aC := c0.s aC b7.ne
    replace p := c0.s p (Ne.symm a0.ne)
    replace d := Keep.st d c0 (fun k hb hk => ⟨(by omega), trivial⟩)
    replace c7 := u.keep d (Nat.le_refl _)
    have lt_at14001x3 := GHeap.ltg f5
    replace hb := n.mono w
    clear c8
    have c8 := c7.inn
    clear l
    have l : MemN _ _ _ _ _ := ⟨rfl, Mem.of_get m⟩
    clear c2
    have c2 : MemN _ _ _ _ _ := ⟨rfl, Mem.of_get p⟩
    have mm14001x3 : MemN _ _ _ _ _ := ⟨rfl, Mem.of_get f5⟩
    refine .nil (m0 _ _ ?_)
    refine .ret ?_
    refine h9 _ _ ?_
    refine ⟨_, _, _, _, rfl, ag_27_Hj, (by rfl), (Mem.of_get f5), ?_⟩
    have hR' := (hRR.st e8 offA).st c0 (.cons (hRR.lowNe (by omega)) (.nil _ _))
    exact ⟨w, e9, ownP gF gT gI gC rr, rfl, hsm, (KIn.own aF bF aT bT aI bI aC bC hR').keep (.of_le (.refl _)) (by omega)⟩
   try simp only [sps] at i5
   refine .skip ?_
   refine j1 _ _ (.seq (fun K18 o4 => .region ?_))
   refine .q rfl (.loadM ag_27_Hj rfl ⟨rfl, Mem.of_get m⟩) ?_
   refine .r0 rfl rfl (.fillA rfl sz_27_D rfl rfl rfl rfl) ?_
   rintro _ H14001x4 ⟨rfl, e5, f7⟩
   have nx_H14001x4 := e5.nx
   replace w := w.st e5 (fun k hk => ⟨by omega, trivial⟩)
   replace m := e5.s m (Ne.symm a0.ne)
   replace d := Keep.st d e5 (fun k hb hk => ⟨(by omega), trivial⟩)
   replace c7 := u.keep d (Nat.le_refl _)
   have lt_at14001x4 := GHeap.ltg f7
   replace hb := n.mono w
   clear c8
   have c8 := c7.inn
   clear l
   have l : MemN _ _ _ _ _ := ⟨rfl, Mem.of_get m⟩
   have mm14001x4 : MemN _ _ _ _ _ := ⟨rfl, Mem.of_get f7⟩
   refine .nil (o4 _ _ ?_)
   refine .ret ?_
   refine h9 _ _ ?_
   refine ⟨_, _, _, _, rfl, ag_27_Hj, (by rfl), (Mem.of_get f7), ?_⟩
   exact ⟨w, e9, p4, rfl, hsm, c7.kin.keep (.of_le (.refl _)) (by omega)⟩
  try simp only [sps] at i5
  refine .region (.q rfl (.cmp rfl rfl rfl) (.mv rfl (.nil (p0 _ _ ?_))))
  refine .cond rfl (fun i5 => ?_) (fun i5 => ?_)
  ·
   try simp only [sps] at i5
   refine .seq (fun K19 l6 => .region ?_)
   refine .q rfl (.loadM ag_27_Hj rfl ⟨rfl, Mem.of_get m⟩) ?_
   refine .call rfl rfl rfl rfl @Try.call83 rfl (l02OwnO_c (hin := c8) (hs := hsm)) ?_
   rintro _ l2 ⟨f3, gF, gT, gI, gC, rr, rfl, d2⟩
   have aF := d2.a1
   have aT := d2.a2
   have aI := d2.a3
   have aC := d2.a4
   have bF := d2.b1
   have bT := d2.b2
   have bI := d2.b3
   have bC := d2.b4
   have q6 := d2.n12
   have q9 := d2.n13
   have p8 := d2.n23
   have r5 := row_ne aC aF rfl
   have q8 := row_ne aC aT rfl
   have r6 := row_ne aC aI rfl
   have hRR := d2.rows
   have l4 := d2.r1
   have k4 := d2.r2
   have k5 := d2.r3
   have o1 := d2.a4
   have e8 := St.refl [g4, gS, gF, gT, gI, gC] l2
   have nx_H24x2 := f3.1
   replace w := w.trans f3
   replace hs := hs.le f3
   replace e2 := f3.2 _ _ e2
   replace m := f3.2 _ _ m
   replace d := Keep.le d f3
   replace c7 := u.keep d (Nat.le_refl _)
   have k8 := GHeap.ltg aF
   have k6 := GHeap.ltg aT
   have k7 := GHeap.ltg aI
   have k3 := GHeap.ltg aC
   replace hb := n.mono w
   clear c8
   have c8 := c7.inn
   clear l
   have l : MemN _ _ _ _ _ := ⟨rfl, Mem.of_get m⟩
   refine .r0 rfl rfl (.fillA rfl sz_27_D rfl rfl rfl rfl) ?_
   rintro _ H8002x2 ⟨rfl, c3, j⟩
   have nx_H8002x2 := c3.nx
   replace w := w.st c3 (fun k hk => ⟨by omega, trivial⟩)
   replace hs := hs.sA c3
   replace e8 := e8.sA c3
   replace e2 := c3.s e2 a0.ne
   have g7 : NE gF g4 := .a
   replace aF := c3.s aF g7.ne
   have h1 : NE gT g4 := .a
   replace aT := c3.s aT h1.ne
   have g3 : NE gI g4 := .a
   replace aI := c3.s aI g3.ne
   have h2 : NE gC g4 := .a
   replace aC := c3.s aC h2.ne
   replace d := Keep.st d c3 (fun k hb hk => ⟨(by omega), trivial⟩)
   replace c7 := u.keep d (Nat.le_refl _)
   have lt_at8002x2 := GHeap.ltg j
   replace hb := n.mono w
   clear c8
   have c8 := c7.inn
   clear l
   have l : MemN _ _ _ _ _ := ⟨rfl, Mem.of_get m⟩
   have v : MemN _ _ _ _ _ := ⟨rfl, Mem.of_get j⟩
   refine .nil (l6 _ _ (.seq (fun K20 n0 => .region ?_)))
   have offA : Off rr e9.comp.length [g4, gS, gF, gT, gI, gC] := .cons (hRR.lowNe (by omega)) (.cons (hRR.lowNe (by omega)) (.cons l4 (.cons k4 (.cons k5 (.cons (hRR.neT o1 rfl) (.nil _ _))))))
   refine .q rfl (.fieldAddr fo_27_1_B rfl) ?_
   refine .q rfl (.load on_24_B rfl (by first | assumption | exact Mem.of_get j 1 _ rfl)) ?_
   refine .q rfl (.len sl_24_A rfl) (.mv rfl (.nil (n0 _ _ (.seq (fun K21 m9 => .region (.mv rfl (.mv rfl ?_)))))))
   refine .call rfl rfl rfl rfl @Try.call30 rfl (l01Next_c) ?_
   rintro _ H30x2 ⟨kF, rfl, ka30x2, kb30x2, kc30x2, d9, hs⟩
   have nx_H30x2 := d9.nx
   replace w := w.st d9 (fun k hk => ⟨by omega, trivial⟩)
   replace e8 := e8.sA d9
   replace e2 := d9.s e2 c5.ne
   have d4 : NE gF gS := .a
   replace aF := d9.s aF d4.ne
   have d7 : NE gT gS := .a
   replace aT := d9.s aT d7.ne
   have d6 : NE gI gS := .a
   replace aI := d9.s aI d6.ne
   have d5 : NE gC gS := .a
   replace aC := d9.s aC d5.ne
   replace j := d9.s j d1.ne
   replace d := Keep.st d d9 (fun k hb hk => ⟨(by omega), trivial⟩)
   replace c7 := u.keep d (Nat.le_refl _)
   replace hb := n.mono w
   clear c8
   have c8 := c7.inn
   clear l
   have l : MemN _ _ _ _ _ := ⟨rfl, Mem.of_get m⟩
   clear v
   have v : MemN _ _ _ _ _ := ⟨rfl, Mem.of_get j⟩
   refine .mv rfl (.mv rfl ?_)
   refine .call rfl rfl rfl rfl @Try.call30 rfl (l01Next_c) ?_
   rintro _ H33x2 ⟨kG, rfl, ka33x2, kb33x2, kc33x2, d8, hs⟩
   have nx_H33x2 := d8.nx
   replace w := w.st d8 (fun k hk => ⟨by omega, trivial⟩)
   replace e8 := e8.sA d8
   replace e2 := d8.s e2 c5.ne
   replace aF := d8.s aF d4.ne
   replace aT := d8.s aT d7.ne
   replace aI := d8.s aI d6.ne
   replace aC := d8.s aC d5.ne
   replace j := d8.s j d1.ne
   replace d := Keep.st d d8 (fun k hb hk => ⟨(by omega), trivial⟩)
   replace c7 := u.keep d (Nat.le_refl _)
   replace hb := n.mono w
   clear c8
   have c8 := c7.inn
   clear l
   have l : MemN _ _ _ _ _ := ⟨rfl, Mem.of_get m⟩
   clear v
   have v : MemN _ _ _ _ _ := ⟨rfl, Mem.of_get j⟩
   refine .mv rfl (.mv rfl (.nil (m9 _ _ (.seq (fun K22 k2 => ?_)))))
   refine .regionD mo_B (.q 0 (.q 1 (.q 2 (.q 3 (.q 4 (.q 5 (.q 6 (.q 7 (.q 8 (.q 9 (.q 10 (.q 11 (.q 12 (.q 13 (.q 14 (.done)))))))))))))))) (by kernel_rfl) ?_
   refine .mv rfl rfl (.q rfl (.cmp rfl rfl rfl) (.mv rfl rfl ?_))
   refine .split (fun j6 => ?_) (fun j6 => ?_)
   ·
    simp only [sps] at j6
    refine .qg rfl (.fieldAddr fo_27_2_B rfl) ?_
    refine .qg rfl (.load on_24_B rfl (by first | assumption | exact Mem.of_get j 2 _ rfl)) ?_
    refine .qg rfl (.move rfl) ?_
    refine .qg rfl (.idx1 sl_24_A (by first | assumption | exact SlA.of_row aT (by first | rfl | (simp; done) | (simp <;> omega))) rfl rfl (by omega) (by omega)) ?_
    refine .qg rfl (.loadI on_2_A (by first | assumption | exact Ints.of_get aT) rfl (by omega)) ?_
    refine .qg rfl (.fieldAddr fo_27_1_B rfl) ?_
    refine .qg rfl (.load on_24_B rfl (by first | assumption | exact Mem.of_get j 1 _ rfl)) ?_
    refine .qg rfl (.move rfl) ?_
    refine .qg rfl (.idx1 sl_24_A (by first | assumption | exact SlA.of_row aF (by first | rfl | (simp; done) | (simp <;> omega))) rfl rfl (by omega) (by omega)) ?_
    refine .qg rfl (.loadI on_2_A (by first | assumption | exact Ints.of_get aF) rfl (by omega)) ?_
    refine .qg rfl (.cmp rfl rfl rfl) (.q rfl (.pickT rfl rfl) ?_)
    refine .done ?_
    refine k2 _ _ ?_
    refine .cond rfl (fun i8 => ?_) (fun i8 => ?_)
    ·
     simp only [sps] at i8
     refine .seq (fun K23 n7 => ?_)
     refine .regionD mo_B (.q 0 (.q 1 (.q 2 (.q 3 (.q 4 (.q 5 (.q 6 (.q 7 (.q 8 (.q 9 (.q 10 (.c 11 0 (.q 12 (.done)))))))))))))) (by kernel_rfl) ?_
     refine .q rfl (.loadM ag_27_Hj rfl ⟨rfl, Mem.of_get j⟩) ?_
     refine .q rfl (.fieldAddr fo_27_1_B rfl) ?_
     refine .q rfl (.load on_24_B rfl (by first | assumption | exact Mem.of_get j 1 _ rfl)) ?_
     refine .mv rfl rfl ?_
     refine .q rfl (.idx1 sl_24_A (by first | assumption | exact SlA.of_row aF (by first | rfl | (simp; done) | (simp <;> omega))) rfl rfl (by omega) (by omega)) ?_
     refine .q rfl (.loadI on_2_A (by first | assumption | exact Ints.of_get aF) rfl (by omega)) ?_
     refine .q rfl (.fieldAddr fo_27_2_B rfl) ?_
     refine .q rfl (.load on_24_B rfl (by first | assumption | exact Mem.of_get j 2 _ rfl)) ?_
     refine .mv rfl rfl ?_
     refine .q rfl (.idx1 sl_24_A (by first | assumption | exact SlA.of_row aT (by first | rfl | (simp; done) | (simp <;> omega))) rfl rfl (by omega) (by omega)) ?_
     refine .q rfl (.loadI on_2_A (by first | assumption | exact Ints.of_get aT) rfl (by omega)) ?_
     refine .call0 rfl rfl rfl rfl rfl @Try.call84 rfl (l02HomG_c (hin := (KIn.own aF bF aT bT aI bI aC bC (hRR.st e8 offA)).inn) (by omega) (by omega)) ?_
     rintro _ j0 ⟨d3, g60x2, rfl, c9, ge60x2⟩
     have nx_H60x2 := d3.1
     replace w := w.trans d3
     replace e8 := e8.le d3
     replace hs := hs.le d3
     replace e2 := d3.2 _ _ e2
     replace aF := d3.2 _ _ aF
     replace aT := d3.2 _ _ aT
     replace aI := d3.2 _ _ aI
     replace aC := d3.2 _ _ aC
     replace j := d3.2 _ _ j
     replace d := Keep.le d d3
     replace c7 := u.keep d (Nat.le_refl _)
     have lt_at60x2 := GHeap.ltg c9
     replace hb := n.mono w
     clear c8
     have c8 := c7.inn
     clear l
     have l : MemN _ _ _ _ _ := ⟨rfl, Mem.of_get m⟩
     clear v
     have v : MemN _ _ _ _ _ := ⟨rfl, Mem.of_get j⟩
     have h8 := Ints.of_get c9
     refine .mv rfl rfl ?_
     refine .done ?_
     refine n7 _ _ ?_
     refine .regionDB mo_B (.q 0 (.q 1 (.q 2 (.q 3 (.q 4 (.q 5 (.q 6 (.q 7 (.q 8 (.q 9 (.c 10 1 (.q 11 (.q 12 (.q 13 (.c 14 0 (.done)))))))))))))))) (by kernel_rfl) (GHeap.le_erase j0 gS) ?_
     have e7 := GHeap.le_erase j0 gS
     first
       | have hatM := c9
       | have hatM := f2
     have m5 := GHeap.get_erase_of (g := gS) (by first | exact p | exact j) (by omega)
     have aCB := GHeap.get_erase_of (g := gS) aC (by omega)
     have hMB := GHeap.get_erase_of (g := gS) hatM (by omega)
     obtain ⟨gi, hgi, hbi, hati⟩ := (hRR.st e8 offA).row kF.toNat (by omega)
     obtain ⟨o0, l1, _, j9⟩ := hRR.row kF.toNat (by omega)
     have ltg := GHeap.ltg j9
     have e0 : o0 = gi := by
       rw [hgi] at l1
       cases l1
       rfl
     rw [e0] at ltg
     have atiB := GHeap.get_erase_of (g := gS) hati (by omega)
     have cC := slsL_cell aCB (i := kF.toNat) (by omega)
     rw [hgi] at cC
     have m1 : gF ≠ gi := fun e => l4 kF.toNat (by omega) (by rw [hgi, e])
     have m2 : gT ≠ gi := fun e => k4 kF.toNat (by omega) (by rw [hgi, e])
     have m3 : gI ≠ gi := fun e => k5 kF.toNat (by omega) (by rw [hgi, e])
     have m4 := row_ne aC hati rfl
     have q7 := a9 kF.toNat (by omega)
     have q2 := j4.s.hom_pos (f := kF.toNat) (g := kG.toNat) (by omega) (by omega) i8
     have p7 := e9.hom_le (e9.src.getD kF.toNat 0) (e9.tgt.getD kG.toNat 0)
     refine .qB rfl e7 (.fieldAddr fo_27_4_B rfl) (.qB rfl e7 (.load on_25_B rfl (Mem.of_get m5 4 _ rfl)) (.qB rfl e7 (.move rfl) ?_))
     refine .qB rfl e7 (.idx1 sl_25_B (SlA.of_row aCB (by first | rfl | (simp; done) | (simp <;> omega))) rfl rfl (by omega) (by omega)) ?_
     refine .qB rfl e7 (.load on_24_B rfl cC) ?_
     have i9 := GHeap.ltg hati
     refine .qB rfl e7 (.move rfl) (.qB rfl e7 (.move rfl) (.qB rfl e7 (.move rfl) (.qB rfl e7 (.move rfl) (.qB rfl e7 (.len sl_24_A rfl) ?_))))
     refine .call1 rfl rfl rfl rfl rfl @Try.call30 rfl (l01Next_c) ?_
     rintro _ H71x2 ⟨k71x2, rfl, ka71x2, kb71x2, kc71x2, d0, hs⟩
     replace e7 := e7.erase_st d0
     refine ⟨e7, ?_⟩
     have nx_H71x2 := d0.nx
     replace w := w.st d0 (fun k hk => ⟨by omega, trivial⟩)
     replace e8 := e8.sA d0
     replace e2 := d0.s e2 c5.ne
     replace aF := d0.s aF d4.ne
     replace aT := d0.s aT d7.ne
     replace aI := d0.s aI d6.ne
     replace aC := d0.s aC d5.ne
     replace j := d0.s j d1.ne
     replace c9 := d0.s c9
     have g1 : NE gi gS := .a
     replace hati := d0.s hati g1.ne
     replace d := Keep.st d d0 (fun k hb hk => ⟨(by omega), trivial⟩)
     replace c7 := u.keep d (Nat.le_refl _)
     replace hb := n.mono w
     clear c8
     have c8 := c7.inn
     clear l
     have l : MemN _ _ _ _ _ := ⟨rfl, Mem.of_get m⟩
     clear v
     have v : MemN _ _ _ _ _ := ⟨rfl, Mem.of_get j⟩
     clear h8
     have h8 := Ints.of_get c9
     refine .qB rfl e7 (.idx1 sl_24_A (SlA.of_row hMB (by first | rfl | (simp; done) | (simp <;> omega))) rfl rfl (by omega) (by omega)) ?_
     refine .qB rfl e7 (.loadI on_2_A (Ints.of_get hMB) rfl (by omega)) ?_
     refine .qB rfl e7 (.idx1 sl_24_A (SlA.of_row atiB (by first | rfl | (simp; done) | (simp <;> omega))) rfl rfl (by omega) (by omega)) ?_
     refine .r0 rfl rfl rfl (.storeI rfl sz_2_Ch rfl rfl (by assumption) (by first | omega | (simp <;> omega))) ?_
     rintro _ H13014x2 ⟨rfl, x, e3⟩
     have nx_H13014x2 := x.nx
     replace w := w.st x (fun k hk => ⟨by omega, trivial⟩)
     replace hs := hs.sA x
     have e4 : NE g2 gi := .a
     replace e2 := x.s e2 e4.ne
     have h5 : NE gF gi := .a
     replace aF := x.s aF h5.ne
     have h3 : NE gT gi := .a
     replace aT := x.s aT h3.ne
     have h4 : NE gI gi := .a
     replace aI := x.s aI h4.ne
     have g6 : NE gC gi := .a
     replace aC := x.s aC g6.ne
     have h0 : NE g4 gi := .a
     replace j := x.s j h0.ne
     replace c9 := x.s c9
     replace d := Keep.st d x (fun k hb hk => ⟨(by omega), trivial⟩)
     replace c7 := u.keep d (Nat.le_refl _)
     have lt_at13014x2 := GHeap.ltg e3
     replace hb := n.mono w
     clear c8
     have c8 := c7.inn
     clear l
     have l : MemN _ _ _ _ _ := ⟨rfl, Mem.of_get m⟩
     clear v
     have v : MemN _ _ _ _ _ := ⟨rfl, Mem.of_get j⟩
     clear h8
     have h8 := Ints.of_get c9
     rw [Nat.zero_add] at e3
     have j2 := bend_set (hRR.st e8 offA) x (by omega) hgi e3 (by rw [List.length_set])
     refine .done ?_
     refine j1 _ _ (.seq (fun K24 l5 => .region ?_))
     refine .q rfl (.loadM ag_27_Hj rfl ⟨rfl, Mem.of_get j⟩) ?_
     refine .r0 rfl rfl (.fillA rfl sz_27_D rfl rfl rfl rfl) ?_
     rintro _ H14001x5 ⟨rfl, y, f6⟩
     have nx_H14001x5 := y.nx
     replace w := w.st y (fun k hk => ⟨by omega, trivial⟩)
     have b5 : NE gF g2 := .a
     replace aF := y.s aF b5.ne
     have b0 : NE gT g2 := .a
     replace aT := y.s aT b0.ne
     have b6 : NE gI g2 := .a
     replace aI := y.s aI b6.ne
     have b7 : NE gC g2 := .a
     replace aC := y.s aC b7.ne
     replace j := y.s j (Ne.symm a0.ne)
     replace c9 := y.s c9
     replace e3 := y.s e3 (Ne.symm e4.ne)
     replace d := Keep.st d y (fun k hb hk => ⟨(by omega), trivial⟩)
     replace c7 := u.keep d (Nat.le_refl _)
     have lt_at14001x5 := GHeap.ltg f6
     replace hb := n.mono w
     clear c8
     have c8 := c7.inn
     clear l
     have l : MemN _ _ _ _ _ := ⟨rfl, Mem.of_get m⟩
     clear v
     have v : MemN _ _ _ _ _ := ⟨rfl, Mem.of_get j⟩
     clear h8
     have h8 := Ints.of_get c9
     have mm14001x5 : MemN _ _ _ _ _ := ⟨rfl, Mem.of_get f6⟩
     refine .nil (l5 _ _ ?_)
     refine .ret ?_
     refine h9 _ _ ?_
     refine ⟨_, _, _, _, rfl, ag_27_Hj, (by rfl), (Mem.of_get f6), ?_⟩
     obtain ⟨T, o8, l3, o2, k9⟩ := j2
     have hR' := k9.st y (.cons (k9.lowNe (by omega)) (.nil _ _))
     rw [← o8] at aC
     exact ⟨w, ⟨e9.obj, e9.src, e9.tgt, e9.idn, T⟩, ownP gF gT gI gC rr, by simp [Cat.cells, ownP, l3], ⟨n1, n2, n3, (by rw [l3]; exact n4), fun i => Nat.le_trans (Nat.le_of_eq (o2 i)) (n5 i), n6⟩, (KIn.own (c := ⟨e9.obj, e9.src, e9.tgt, e9.idn, T⟩) aF bF aT bT aI bI aC bC hR').keep (.of_le (.refl _)) (by omega)⟩
    try simp only [sps] at i8
    refine .skip ?_
    refine j1 _ _ (.seq (fun K25 o3 => .region ?_))
    refine .q rfl (.loadM ag_27_Hj rfl ⟨rfl, Mem.of_get j⟩) ?_
    refine .r0 rfl rfl (.fillA rfl sz_27_D rfl rfl rfl rfl) ?_
    rintro _ H14001x6 ⟨rfl, c1, f1⟩
    have nx_H14001x6 := c1.nx
    replace w := w.st c1 (fun k hk => ⟨by omega, trivial⟩)
    have b5 : NE gF g2 := .a
    replace aF := c1.s aF b5.ne
    have b0 : NE gT g2 := .a
    replace aT := c1.s aT b0.ne
    have b6 : NE gI g2 := .a
    replace aI := c1.s aI b6.ne
    have b7 : NE gC g2 := .a
    replace aC := c1.s aC b7.ne
    replace j := c1.s j (Ne.symm a0.ne)
    replace d := Keep.st d c1 (fun k hb hk => ⟨(by omega), trivial⟩)
    replace c7 := u.keep d (Nat.le_refl _)
    have lt_at14001x6 := GHeap.ltg f1
    replace hb := n.mono w
    clear c8
    have c8 := c7.inn
    clear l
    have l : MemN _ _ _ _ _ := ⟨rfl, Mem.of_get m⟩
    clear v
    have v : MemN _ _ _ _ _ := ⟨rfl, Mem.of_get j⟩
    have mm14001x6 : MemN _ _ _ _ _ := ⟨rfl, Mem.of_get f1⟩
    refine .nil (o3 _ _ ?_)
    refine .ret ?_
    refine h9 _ _ ?_
    refine ⟨_, _, _, _, rfl, ag_27_Hj, (by rfl), (Mem.of_get f1), ?_⟩
    have hR' := (hRR.st e8 offA).st c1 (.cons (hRR.lowNe (by omega)) (.nil _ _))
    exact ⟨w, e9, ownP gF gT gI gC rr, rfl, hsm, (KIn.own aF bF aT bT aI bI aC bC hR').keep (.of_le (.refl _)) (by omega)⟩
   try simp only [sps] at j6
   refine .z rfl (.z rfl (.z rfl (.z rfl (.z rfl (.z rfl (.z rfl (.z rfl (.z rfl (.z rfl (.z rfl (.q rfl (.pickF rfl rfl) ?_)))))))))))
   refine .done ?_
   refine k2 _ _ ?_
   refine .condF rfl ?_
   refine .skip ?_
   refine j1 _ _ (.seq (fun K26 o7 => .region ?_))
   refine .q rfl (.loadM ag_27_Hj rfl ⟨rfl, Mem.of_get j⟩) ?_
   refine .r0 rfl rfl (.fillA rfl sz_27_D rfl rfl rfl rfl) ?_
   rintro _ H14001x7 ⟨rfl, b8, f8⟩
   have nx_H14001x7 := b8.nx
   replace w := w.st b8 (fun k hk => ⟨by omega, trivial⟩)
   have b5 : NE gF g2 := .a
   replace aF := b8.s aF b5.ne
   have b0 : NE gT g2 := .a
   replace aT := b8.s aT b0.ne
   have b6 : NE gI g2 := .a
   replace aI := b8.s aI b6.ne
   have b7 : NE gC g2 := .a
   replace aC := b8.s aC b7.ne
   replace j := b8.s j (Ne.symm a0.ne)
   replace d := Keep.st d b8 (fun k hb hk => ⟨(by omega), trivial⟩)
   replace c7 := u.keep d (Nat.le_refl _)
   have lt_at14001x7 := GHeap.ltg f8
   replace hb := n.mono w
   clear c8
   have c8 := c7.inn
   clear l
   have l : MemN _ _ _ _ _ := ⟨rfl, Mem.of_get m⟩
   clear v
   have v : MemN _ _ _ _ _ := ⟨rfl, Mem.of_get j⟩
   have mm14001x7 : MemN _ _ _ _ _ := ⟨rfl, Mem.of_get f8⟩
   refine .nil (o7 _ _ ?_)
   refine .ret ?_
   refine h9 _ _ ?_
   refine ⟨_, _, _, _, rfl, ag_27_Hj, (by rfl), (Mem.of_get f8), ?_⟩
   have hR' := (hRR.st e8 offA).st b8 (.cons (hRR.lowNe (by omega)) (.nil _ _))
   exact ⟨w, e9, ownP gF gT gI gC rr, rfl, hsm, (KIn.own aF bF aT bT aI bI aC bC hR').keep (.of_le (.refl _)) (by omega)⟩
  try simp only [sps] at i5
  refine .skip ?_
  refine j1 _ _ (.seq (fun K27 o5 => .region ?_))
  refine .q rfl (.loadM ag_27_Hj rfl ⟨rfl, Mem.of_get m⟩) ?_
  refine .r0 rfl rfl (.fillA rfl sz_27_D rfl rfl rfl rfl) ?_
  rintro _ H14001x8 ⟨rfl, e6, g0⟩
  have nx_H14001x8 := e6.nx
  replace w := w.st e6 (fun k hk => ⟨by omega, trivial⟩)
  replace m := e6.s m (Ne.symm a0.ne)
  replace d := Keep.st d e6 (fun k hb hk => ⟨(by omega), trivial⟩)
  replace c7 := u.keep d (Nat.le_refl _)
  have lt_at14001x8 := GHeap.ltg g0
  replace hb := n.mono w
  clear c8
  have c8 := c7.inn
  clear l
  have l : MemN _ _ _ _ _ := ⟨rfl, Mem.of_get m⟩
  have mm14001x8 : MemN _ _ _ _ _ := ⟨rfl, Mem.of_get g0⟩
  refine .nil (o5 _ _ ?_)
  refine .ret ?_
  refine h9 _ _ ?_
  refine ⟨_, _, _, _, rfl, ag_27_Hj, (by rfl), (Mem.of_get g0), ?_⟩
  exact ⟨w, e9, p4, rfl, hsm, c7.kin.keep (.of_le (.refl _)) (by omega)⟩
end Go.Proofs.Ytfanjkbaemhbmaa
namespace Go.GL
inductive Flt (c : Cat) : Int → Int → Int → Int → Prop
  | fine (h : c.Laws) : Flt c 0 0 0 0
  | unit (k : Nat) (hk : k < c.src.length) (h : ¬ c.IdOk k) (hb : ∀ x, x < k → c.IdOk x) : Flt c 1 k 0 0
  | assoc (f g h : Nat) (hf : f < c.src.length) (hg : g < c.src.length) (hh : h < c.src.length) (hid : ∀ x, x < c.src.length → c.IdOk x)
      (b2 : ∀ f', f' < f → ∀ g, g < c.src.length → c.tgt.getD f' 0 = c.src.getD g 0 → ∀ h, h < c.src.length → c.tgt.getD g 0 = c.src.getD h 0 → c.th (c.th f' g) h = c.th f' (c.th g h))
      (b3 : ∀ g', g' < g → c.tgt.getD f 0 = c.src.getD g' 0 → ∀ h, h < c.src.length → c.tgt.getD g' 0 = c.src.getD h 0 → c.th (c.th f g') h = c.th f (c.th g' h))
      (b4 : ∀ h', h' < h → c.tgt.getD g 0 = c.src.getD h' 0 → c.th (c.th f g) h' = c.th f (c.th g h'))
      (e : c.tgt.getD f 0 = c.src.getD g 0) (e' : c.tgt.getD g 0 = c.src.getD h 0) (hne : ¬ c.th (c.th f g) h = c.th f (c.th g h)) : Flt c 2 f g h
theorem Flt.laws {c : Cat} {k x y z : Int} (h : Flt c k x y z) : k = 0 ↔ c.Laws := by
  cases h with
  | fine h => exact ⟨fun _ => h, fun _ => rfl⟩
  | unit k hk h hb => exact ⟨fun e => by omega, fun hL => absurd (hL.ids k hk) h⟩
  | assoc f g h hf hg hh hid b2 b3 b4 e e' hne => exact ⟨fun e => by omega, fun hL => absurd (hL.as f hf g hg e h hh e') hne⟩
theorem Flt.uniq {c : Cat} {k x y z k' x' y' z' : Int} (h : Flt c k x y z) (h' : Flt c k' x' y' z') : k = k' ∧ x = x' ∧ y = y' ∧ z = z' := by
  cases h with
  | fine h =>
    have := h'.laws.2 h
    cases h' with
    | fine => exact ⟨rfl, rfl, rfl, rfl⟩
    | unit => omega
    | assoc => omega
  | unit k hk h hb =>
    cases h' with
    | fine h2 => exact absurd (h2.ids k hk) h
    | unit k2 hk2 h2 hb2 =>
      have : k = k2 := by
        rcases Nat.lt_trichotomy k k2 with e | e | e
        · exact absurd (hb2 k e) h
        · exact e
        · exact absurd (hb k2 e) h2
      subst this
      exact ⟨rfl, rfl, rfl, rfl⟩
    | assoc _ _ _ _ _ _ hid => exact absurd (hid k hk) h
  | assoc f g h hf hg hh hid b2 b3 b4 e e' hne =>
    cases h' with
    | fine h2 => exact absurd (h2.as f hf g hg e h hh e') hne
    | unit k2 hk2 h2 => exact absurd (hid k2 hk2) h2
    | assoc f2 g2 h2 hf2 hg2 hh2 hid2 c2 c3 c4 e2 e2' hne2 =>
      have e5 : f = f2 := by
        rcases Nat.lt_trichotomy f f2 with q | q | q
        · exact absurd (c2 f q g hg e h hh e') hne
        · exact q
        · exact absurd (b2 f2 q g2 hg2 e2 h2 hh2 e2') hne2
      subst e5
      have e6 : g = g2 := by
        rcases Nat.lt_trichotomy g g2 with q | q | q
        · exact absurd (c3 g q e h hh e') hne
        · exact q
        · exact absurd (b3 g2 q e2 h2 hh2 e2') hne2
      subst e6
      have e7 : h = h2 := by
        rcases Nat.lt_trichotomy h h2 with q | q | q
        · exact absurd (c4 h q e') hne
        · exact q
        · exact absurd (b4 h2 q e2') hne2
      subst e7
      exact ⟨rfl, rfl, rfl, rfl⟩
inductive FFa (c : Cat) : Int → Int → Int → Int → Int → Prop
  | bad (h : ¬ c.Shape) : FFa c 0 0 0 0 1
  | ok (h : c.Shape) {k x y z : Int} (hf : Flt c k x y z) : FFa c k x y z 0
theorem FFa.uniq {c : Cat} {k x y z e k' x' y' z' e' : Int} (h : FFa c k x y z e) (h' : FFa c k' x' y' z' e') : e = e' ∧ k = k' ∧ x = x' ∧ y = y' ∧ z = z' := by
  cases h with
  | bad h =>
    cases h' with
    | bad => exact ⟨rfl, rfl, rfl, rfl, rfl⟩
    | ok h2 => exact absurd h2 h
  | ok h hf =>
    cases h' with
    | bad h2 => exact absurd h h2
    | ok _ hf2 => exact ⟨rfl, hf.uniq hf2⟩
theorem FFa.err {c : Cat} {k x y z e : Int} (h : FFa c k x y z e) (he : ¬ e = 0) : ¬ c.Shape := by
  cases h with
  | bad h => exact h
  | ok => exact absurd rfl he
theorem FFa.fine {c : Cat} {k x y z : Int} (h : FFa c k x y z 0) : c.Shape ∧ (k = 0 ↔ c.Is) := by
  cases h with
  | ok h hf => exact ⟨h, hf.laws.trans ⟨fun l => ⟨h, l⟩, fun l => l.2⟩⟩
theorem FFa.two {c : Cat} {x y z : Int} (h : FFa c 2 x y z 0) : ∃ f g k : Nat, x = f ∧ y = g ∧ z = k ∧ f < c.src.length ∧ g < c.src.length ∧ k < c.src.length ∧ c.tgt.getD f 0 = c.src.getD g 0 ∧ c.tgt.getD g 0 = c.src.getD k 0 ∧ ¬ c.th (c.th f g) k = c.th f (c.th g k) := by
  cases h with
  | ok h hf =>
    cases hf with
    | assoc f g h hf hg hh hid b2 b3 b4 e e' hne => exact ⟨f, g, h, rfl, rfl, rfl, hf, hg, hh, e, e', hne⟩
end Go.GL
namespace Go.Proofs.Ytfanjkbaemhbmaa
open Go Go.GL Go.RowKit Go.Proofs
theorem ag_27_Yn : aggT Try.prog 27 = some 5 := by kernel_rfl
def FaultT (c : Cat) (H : GHeap) : Value → GHeap → Prop := fun v H' => H = H' ∧ ∃ kd b1 b2 b3 : Int, v = .tuple #[.int .i64 kd, .int .i64 b1, .int .i64 b2, .int .i64 b3] ∧ Flt c kd b1 b2 b3
def FaultTN (c : Cat) (H : GHeap) : Value → GHeap → Prop := fun v H' => H.Le H' ∧ ∃ kd b1 b2 b3 : Int, v = .tuple #[.int .i64 kd, .int .i64 b1, .int .i64 b2, .int .i64 b3] ∧ Flt c kd b1 b2 b3
def FirstF (c : Cat) (H : GHeap) : Value → GHeap → Prop := fun v H' => H.Le H' ∧ ∃ kd b1 b2 b3 e : Int, v = .tuple #[.int .i64 kd, .int .i64 b1, .int .i64 b2, .int .i64 b3, .int .i64 e] ∧ FFa c kd b1 b2 b3 e
theorem faultT_c {g o : Nat} {c : Cat} {p : CatP} {H : GHeap} (h : Cat.At H g o c p := by assumption) (hS : c.Shape := by assumption) : GCalls Try.prog 52 [.pointer (some ⟨g, o, none⟩)] H (FaultT c H) := by
  refine GCalls.body (N := 102) (rs := [.tmp 2, .tmp 3, .tmp 4, .tmp 5]) Try.func52 rfl rfl rfl rfl (fun Qx a hend => ?_)
  refine .fg [0] rfl ?_
  obtain ⟨c0, c1, c2, c3, c4, i1, i2, i3, i4⟩ := h.get
  have e1 := hS.tl
  have e2 := hS.n40
  have e3 := hS.il
  have e4 := hS.obj
  refine .seq (fun K1 d0 => .region (.mv rfl (.mv rfl (.mv rfl (.mv rfl (.nil (d0 _ _ (.seq (fun K2 d2 => .region (.mv rfl ?_))))))))))
  refine .callQ rfl rfl rfl rfl @Try.call67 rfl (arrows_c) ?_
  refine .mv rfl (.nil (d2 _ _ (.seq (fun K3 d3 => .seq (fun K4 d4 => .region (.mv rfl (.nil (d4 _ _ ?_))))))))
  refine .block ?_
  refine .loopR (σ := Nat) [(0, some _), (6, some _)] (fun k => [(7, some (.int .i64 (k : Int)))]) (fun k H' => H = H' ∧ k ≤ c.src.length ∧ ∀ x, x < k → c.IdOk x) (fun k => c.src.length - k) (0) ⟨rfl, rfl, trivial⟩ ⟨rfl, trivial⟩ ?_ ?_
  ·
   refine ⟨rfl, ?_⟩
   exact ⟨by omega, fun x hx => by omega⟩
  rintro k _ ⟨rfl, hI⟩ KL1 a9
  refine .forget (fr' := [(7, some (.int .i64 (k : Int))), (0, some _), (6, some _)]) ⟨rfl, rfl, rfl, trivial⟩ ?_
  obtain ⟨hk1, d⟩ := hI
  refine .seq (fun K5 d6 => .seq (fun K6 d1 => .region (.mv rfl (.mv rfl (.q rfl (.cmp rfl rfl rfl) (.nil (d1 _ _ ?_)))))))
  refine .cond rfl (fun b2 => ?_) (fun b2 => ?_)
  ·
   simp only [decide_eq_true_eq] at b2
   have q1 := hS.src k (by omega)
   have q2 := hS.tgt k (by omega)
   have q3 := hS.idn_lt q1.1 q1.2
   have q4 := hS.idn_lt q2.1 q2.2
   refine .skip ?_
   refine d6 _ _ (.seq (fun K7 d7 => ?_))
   refine .block ?_
   refine .seq (fun K8 c9 => ?_)
   refine .regionD mo_B (.q 0 (.q 1 (.q 2 (.q 3 (.q 4 (.q 5 (.q 6 (.q 7 (.q 8 (.q 9 (.q 10 (.q 11 (.q 12 (.q 13 (.q 14 (.q 16 (.c 15 1 (.q 17 (.q 18 (.q 19 (.q 20 (.q 21 (.q 22 (.q 23 (.q 24 (.q 25 (.q 26 (.q 27 (.q 28 (.q 29 (.q 30 (.q 31 (.q 32 (.q 33 (.q 35 (.c 34 1 (.q 36 (.q 37 (.done))))))))))))))))))))))))))))))))))))))) (by kernel_rfl) ?_
   refine .mv rfl rfl (.mv rfl rfl (.q rfl (.nilCheck rfl) (.q rfl (.fieldAddr fo_27_3_B rfl) ?_)))
   refine .q rfl (.load on_24_B rfl (by assumption)) ?_
   refine .mv rfl rfl (.q rfl (.nilCheck rfl) (.q rfl (.fieldAddr fo_27_1_B rfl) ?_))
   refine .q rfl (.load on_24_B rfl (by assumption)) ?_
   refine .mv rfl rfl ?_
   refine .q rfl (.idxN sl_24_A (by assumption) rfl rfl (by omega)) ?_
   refine .q rfl (.loadI on_2_A (by assumption) rfl (by omega)) ?_
   refine .q rfl (.idx1 sl_24_A (by assumption) rfl rfl (by omega) (by omega)) ?_
   refine .q rfl (.loadI on_2_A (by assumption) rfl (by omega)) ?_
   refine .mv rfl rfl (.mv rfl rfl ?_)
   refine .callQ1 rfl rfl rfl rfl rfl @Try.call79 rfl (then_s) (.refl _) ?_
   refine .q rfl (.cmp rfl rfl rfl) (.mv rfl rfl ?_)
   refine .split (fun s => ?_) (fun s => ?_)
   ·
    try simp only [sps] at s
    refine .z rfl (.z rfl (.z rfl (.z rfl (.z rfl (.z rfl (.z rfl (.z rfl (.z rfl (.z rfl (.z rfl (.z rfl (.z rfl (.z rfl (.z rfl (.z rfl ?_)))))))))))))))
    refine .sgc rfl rfl rfl rfl rfl rfl (.z rfl (.q rfl (.pickT rfl rfl) ?_))
    refine .done ?_
    refine c9 _ _ ?_
    refine .condT rfl ?_
    refine .seq (fun K9 d5 => .region (.mv rfl (.mv rfl (.mv rfl (.mv rfl (.mv rfl (.nil (d5 _ _ ?_))))))))
    refine .ret ?_
    refine a _ _ ?_
    refine ⟨_, _, _, _, rfl, rfl, rfl, rfl, ?_⟩
    exact ⟨rfl, _, _, _, _, rfl, .unit k (by omega) (fun h => s h.1) d⟩
   try simp only [sps] at s
   refine .qg rfl (.move rfl) (.qg rfl (.move rfl) (.qg rfl (.move rfl) (.qg rfl (.nilCheck rfl) (.qg rfl (.fieldAddr fo_27_3_B rfl) ?_))))
   refine .qg rfl (.load on_24_B rfl (by assumption)) ?_
   refine .qg rfl (.move rfl) (.qg rfl (.nilCheck rfl) (.qg rfl (.fieldAddr fo_27_2_B rfl) ?_))
   refine .qg rfl (.load on_24_B rfl (by assumption)) ?_
   refine .qg rfl (.move rfl) ?_
   refine .qg rfl (.idxN sl_24_A (by assumption) rfl rfl (by omega)) ?_
   refine .qg rfl (.loadI on_2_A (by assumption) rfl (by omega)) ?_
   refine .qg rfl (.idx1 sl_24_A (by assumption) rfl rfl (by omega) (by omega)) ?_
   refine .qg rfl (.loadI on_2_A (by assumption) rfl (by omega)) ?_
   refine .qg rfl (.move rfl) ?_
   refine .callQ1g rfl rfl rfl rfl rfl rfl rfl @Try.call79 rfl (then_s) (.refl _) ?_
   refine .qg rfl (.cmp rfl rfl rfl) (.q rfl (.pickF rfl rfl) ?_)
   refine .done ?_
   refine c9 _ _ ?_
   refine .cond rfl (fun m => ?_) (fun m => ?_)
   ·
    try simp only [sps] at m
    refine .seq (fun K10 b0 => .region (.mv rfl (.mv rfl (.mv rfl (.mv rfl (.mv rfl (.nil (b0 _ _ ?_))))))))
    refine .ret ?_
    refine a _ _ ?_
    refine ⟨_, _, _, _, rfl, rfl, rfl, rfl, ?_⟩
    exact ⟨rfl, _, _, _, _, rfl, .unit k (by omega) (fun h => m h.2) d⟩
   try simp only [sps] at m
   refine .skip ?_
   refine d7 _ _ (.region (.mv rfl ?_))
   refine .q rfl (.add rfl rfl rfl (by omega) (by omega)) ?_
   refine .mv rfl (.nil ?_)
   refine a9 (k + 1) _ _ ?_ ?_ ⟨rfl, rfl, rfl, trivial⟩
   ·
    refine ⟨rfl, ?_⟩
    refine ⟨by omega, fun x hx => ?_⟩
    by_cases e : x < k
    · exact d x e
    · obtain rfl : x = k := by omega
      exact ⟨s, m⟩
   omega
  try simp only [sps] at b2
  refine .exit ?_
  refine d3 _ _ (.seq (fun K11 a0 => .seq (fun K12 b7 => .region (.mv rfl (.nil (b7 _ _ ?_))))))
  refine .block ?_
  refine .loopR (σ := Nat) [(0, some _), (6, some _)] (fun k => [(8, some (.int .i64 (k : Int)))]) (fun k H' => H = H' ∧ k ≤ c.src.length ∧ ∀ f, f < k → ∀ g, g < c.src.length → c.tgt.getD f 0 = c.src.getD g 0 → ∀ h, h < c.src.length → c.tgt.getD g 0 = c.src.getD h 0 → c.th (c.th f g) h = c.th f (c.th g h)) (fun k => c.src.length - k) (0) ⟨rfl, rfl, trivial⟩ ⟨rfl, trivial⟩ ?_ ?_
  ·
   refine ⟨rfl, ?_⟩
   exact ⟨by omega, fun x hx => by omega⟩
  rintro k _ ⟨rfl, hI⟩ KL2 c8
  refine .forget (fr' := [(8, some (.int .i64 (k : Int))), (0, some _), (6, some _)]) ⟨rfl, rfl, rfl, trivial⟩ ?_
  obtain ⟨hk2, c5⟩ := hI
  refine .seq (fun K13 y => .seq (fun K14 a8 => .region (.mv rfl (.mv rfl (.q rfl (.cmp rfl rfl rfl) (.nil (a8 _ _ ?_)))))))
  refine .cond rfl (fun b5 => ?_) (fun b5 => ?_)
  ·
   try simp only [sps] at b5
   refine .skip ?_
   refine y _ _ (.seq (fun K15 a4 => ?_))
   refine .block ?_
   refine .seq (fun K16 a6 => .region (.mv rfl (.nil (a6 _ _ ?_))))
   refine .block ?_
   refine .loopR (σ := Nat) [(0, some _), (6, some _), (8, some _)] (fun j => [(9, some (.int .i64 (j : Int)))]) (fun j H' => H = H' ∧ j ≤ c.src.length ∧ ∀ g, g < j → c.tgt.getD k 0 = c.src.getD g 0 → ∀ h, h < c.src.length → c.tgt.getD g 0 = c.src.getD h 0 → c.th (c.th k g) h = c.th k (c.th g h)) (fun j => c.src.length - j) (0) ⟨rfl, rfl, rfl, trivial⟩ ⟨rfl, trivial⟩ ?_ ?_
   ·
    refine ⟨rfl, ?_⟩
    exact ⟨by omega, fun x hx => by omega⟩
   rintro j _ ⟨rfl, hI⟩ KL3 t
   refine .forget (fr' := [(9, some (.int .i64 (j : Int))), (0, some _), (6, some _), (8, some _)]) ⟨rfl, rfl, rfl, rfl, trivial⟩ ?_
   obtain ⟨hk3, w⟩ := hI
   refine .seq (fun K17 a3 => .seq (fun K18 c6 => .region (.mv rfl (.mv rfl (.q rfl (.cmp rfl rfl rfl) (.nil (c6 _ _ ?_)))))))
   refine .cond rfl (fun b1 => ?_) (fun b1 => ?_)
   ·
    try simp only [sps] at b1
    refine .skip ?_
    refine a3 _ _ (.seq (fun K19 n => ?_))
    refine .block ?_
    refine .seq (fun K20 b9 => .seq (fun K21 b8 => .region (.mv rfl (.mv rfl (.mv rfl ?_)))))
    refine .callQ rfl rfl rfl rfl @Try.call79 rfl (then_s) ?_
    refine .q rfl (.cmp rfl rfl rfl) (.nil (b8 _ _ ?_))
    refine .cond rfl (fun a5 => ?_) (fun a5 => ?_)
    ·
     try simp only [sps] at a5
     refine .exit ?_
     refine n _ _ (.region (.mv rfl ?_))
     refine .q rfl (.add rfl rfl rfl (by omega) (by omega)) ?_
     refine .mv rfl (.nil ?_)
     refine t (j + 1) _ _ ?_ ?_ ⟨rfl, rfl, rfl, rfl, trivial⟩
     ·
      refine ⟨rfl, ?_⟩
      refine ⟨by omega, fun x hx => ?_⟩
      by_cases e : x < j
      · exact w x e
      · obtain rfl : x = j := by omega
        first
          | exact fun e => absurd ((hS.th_ge (by omega) (by omega)).2 e) (by omega)
          | exact fun _ h hh => r h (by omega)
     omega
    simp only [decide_eq_false_iff_not] at a5
    have q5 := hS.th_lt (f := k) (g := j) (by omega) (by omega)
    have q6 := (hS.th_ge (f := k) (g := j) (by omega) (by omega)).1 (by omega)
    refine .skip ?_
    refine b9 _ _ (.seq (fun K22 b6 => .region (.mv rfl (.nil (b6 _ _ ?_)))))
    refine .block ?_
    refine .loopR (σ := Nat) [(0, some _), (6, some _), (8, some _), (9, some _)] (fun i => [(10, some (.int .i64 (i : Int)))]) (fun i H' => H = H' ∧ i ≤ c.src.length ∧ ∀ h, h < i → c.tgt.getD j 0 = c.src.getD h 0 → c.th (c.th k j) h = c.th k (c.th j h)) (fun i => c.src.length - i) (0) ⟨rfl, rfl, rfl, rfl, trivial⟩ ⟨rfl, trivial⟩ ?_ ?_
    ·
     refine ⟨rfl, ?_⟩
     exact ⟨by omega, fun x hx => by omega⟩
    rintro i _ ⟨rfl, hI⟩ KL4 v
    refine .forget (fr' := [(10, some (.int .i64 (i : Int))), (0, some _), (6, some _), (8, some _), (9, some _)]) ⟨rfl, rfl, rfl, rfl, rfl, trivial⟩ ?_
    obtain ⟨hk4, r⟩ := hI
    refine .seq (fun K23 a2 => .seq (fun K24 a7 => .region (.mv rfl (.mv rfl (.q rfl (.cmp rfl rfl rfl) (.nil (a7 _ _ ?_)))))))
    refine .cond rfl (fun b3 => ?_) (fun b3 => ?_)
    ·
     try simp only [sps] at b3
     refine .skip ?_
     refine a2 _ _ (.seq (fun K25 u => ?_))
     refine .block ?_
     refine .seq (fun K26 l => .region (.mv rfl (.mv rfl (.mv rfl ?_))))
     refine .callQ rfl rfl rfl rfl @Try.call79 rfl (then_s) ?_
     refine .q rfl (.cmp rfl rfl rfl) (.mv rfl ?_)
     refine .split (fun a1 => ?_) (fun a1 => ?_)
     ·
      simp only [decide_eq_true_eq, ge_iff_le] at a1
      have q7 := hS.th_lt (f := j) (g := i) (by omega) (by omega)
      have q8 := (hS.th_ge (f := j) (g := i) (by omega) (by omega)).1 (by omega)
      refine .qg rfl (.move rfl) (.qg rfl (.move rfl) (.qg rfl (.move rfl) (.qg rfl (.move rfl) ?_)))
      refine .callQg rfl rfl rfl rfl rfl rfl @Try.call79 rfl (then_s) ?_
      refine .qg rfl (.move rfl) ?_
      refine .callQg rfl rfl rfl rfl rfl rfl @Try.call79 rfl (then_s) ?_
      refine .qg rfl (.move rfl) (.qg rfl (.move rfl) (.qg rfl (.move rfl) (.qg rfl (.move rfl) (.qg rfl (.move rfl) ?_))))
      refine .callQg rfl rfl rfl rfl rfl rfl @Try.call79 rfl (then_s) ?_
      refine .callQg rfl rfl rfl rfl rfl rfl @Try.call79 rfl (then_s) ?_
      refine .qg rfl (.cmp rfl rfl rfl) (.q rfl (.pickT rfl rfl) (.nil (l _ _ ?_)))
      refine .cond rfl (fun b => ?_) (fun b => ?_)
      ·
       try simp only [sps] at b
       refine .seq (fun K27 c7 => .region (.mv rfl (.mv rfl (.mv rfl (.mv rfl (.mv rfl (.mv rfl (.mv rfl (.nil (c7 _ _ ?_))))))))))
       refine .ret ?_
       refine a _ _ ?_
       refine ⟨_, _, _, _, rfl, rfl, rfl, rfl, ?_⟩
       exact ⟨rfl, _, _, _, _, rfl, .assoc k j i (by omega) (by omega) (by omega) (fun x hx => d x (by omega)) (fun f hf => c5 f hf) (fun g hg => w g hg) (fun h hh => r h hh) q6 q8 b⟩
      try simp only [sps] at b
      refine .skip ?_
      refine u _ _ (.region (.mv rfl ?_))
      refine .q rfl (.add rfl rfl rfl (by omega) (by omega)) ?_
      refine .mv rfl (.nil ?_)
      refine v (i + 1) _ _ ?_ ?_ ⟨rfl, rfl, rfl, rfl, rfl, trivial⟩
      ·
       refine ⟨rfl, ?_⟩
       refine ⟨by omega, fun x hx => ?_⟩
       by_cases e : x < i
       · exact r x e
       · obtain rfl : x = i := by omega
         first
           | exact fun e => absurd ((hS.th_ge (by omega) (by omega)).2 e) (by omega)
           | exact fun _ => b
      omega
     try simp only [sps] at a1
     refine .z rfl (.z rfl (.z rfl (.z rfl (.z rfl (.z rfl (.z rfl (.z rfl (.z rfl (.z rfl (.z rfl (.z rfl (.z rfl (.z rfl (.z rfl (.q rfl (.pickF rfl rfl) ?_)))))))))))))))
     refine .nil (l _ _ ?_)
     refine .condF rfl ?_
     refine .skip ?_
     refine u _ _ (.region (.mv rfl ?_))
     refine .q rfl (.add rfl rfl rfl (by omega) (by omega)) ?_
     refine .mv rfl (.nil ?_)
     refine v (i + 1) _ _ ?_ ?_ ⟨rfl, rfl, rfl, rfl, rfl, trivial⟩
     ·
      refine ⟨rfl, ?_⟩
      refine ⟨by omega, fun x hx => ?_⟩
      by_cases e : x < i
      · exact r x e
      · obtain rfl : x = i := by omega
        first
          | exact fun e => absurd ((hS.th_ge (by omega) (by omega)).2 e) (by omega)
          | exact fun _ => b
     omega
    try simp only [sps] at b3
    refine .exit ?_
    refine n _ _ (.region (.mv rfl ?_))
    refine .q rfl (.add rfl rfl rfl (by omega) (by omega)) ?_
    refine .mv rfl (.nil ?_)
    refine t (j + 1) _ _ ?_ ?_ ⟨rfl, rfl, rfl, rfl, trivial⟩
    ·
     refine ⟨rfl, ?_⟩
     refine ⟨by omega, fun x hx => ?_⟩
     by_cases e : x < j
     · exact w x e
     · obtain rfl : x = j := by omega
       first
         | exact fun e => absurd ((hS.th_ge (by omega) (by omega)).2 e) (by omega)
         | exact fun _ h hh => r h (by omega)
    omega
   try simp only [sps] at b1
   refine .exit ?_
   refine a4 _ _ (.region (.mv rfl ?_))
   refine .q rfl (.add rfl rfl rfl (by omega) (by omega)) ?_
   refine .mv rfl (.nil ?_)
   refine c8 (k + 1) _ _ ?_ ?_ ⟨rfl, rfl, rfl, trivial⟩
   ·
    refine ⟨rfl, ?_⟩
    refine ⟨by omega, fun x hx => ?_⟩
    by_cases e : x < k
    · exact c5 x e
    · obtain rfl : x = k := by omega
      exact fun g hg => w g (by omega)
   omega
  try simp only [sps] at b5
  refine .exit ?_
  refine a0 _ _ (.seq (fun K28 b4 => .region (.mv rfl (.mv rfl (.mv rfl (.mv rfl (.nil (b4 _ _ ?_))))))))
  refine .ret ?_
  refine a _ _ ?_
  refine ⟨_, _, _, _, rfl, rfl, rfl, rfl, ?_⟩
  exact ⟨rfl, _, _, _, _, rfl, .fine ⟨fun f hf => d f (by omega), fun f hf => c5 f (by omega)⟩⟩
theorem l02FaultT_c {c : Cat} {p : CatP} {H : GHeap} (hin : c.In H p := by assumption) (hS : c.Shape := by assumption) : GCalls Try.prog 54 [.agg (c.cells p).toArray] H (FaultT c H) := by
  refine (GCalls.quiet (φ := fun v => ∃ kd b1 b2 b3 : Int, v = .tuple #[.int .i64 kd, .int .i64 b1, .int .i64 b2, .int .i64 b3] ∧ Flt c kd b1 b2 b3) (GCalls.mono (Q := FaultTN c H) ?_ fun v H' ⟨h1, kd, b1, b2, b3, h2, h3⟩ => ⟨⟨kd, b1, b2, b3, h2, h3⟩, by rw [h2]; rfl, h1⟩)).mono fun v H' ⟨h1, h2⟩ => ⟨h2.symm, h1⟩
  refine GCalls.body (N := 131) (rs := [.tmp 2, .tmp 3, .tmp 4, .tmp 5]) Try.func54 rfl rfl rfl rfl (fun Qx b hend => ?_)
  refine .fg [0] rfl ?_
  refine .seq (fun K1 d5 => .region (.d rfl rfl rfl (.box rfl sz_27_D rfl CIs.mk) ?_))
  show GRun _ _ _ _ _ _ (H.push (.row (c.cells p) 27 true))
  have a0 := GHeap.le_push H (.row (c.cells p) 27 true)
  have hb : Cat.At (H.push (.row (c.cells p) 27 true)) H.next 0 c p := ⟨Mem.new _ _ _ _, hin.mono a0⟩
  generalize H.push (.row (c.cells p) 27 true) = H1 at *
  generalize H.next = g at *
  obtain ⟨c0, c1, c2, c3, c4, i1, i2, i3, i4⟩ := hb.get
  have hm : MemN _ _ _ _ _ := ⟨rfl, hb.1⟩
  have hin1 := hb.2
  have e1 := hS.tl
  have e2 := hS.n40
  have e3 := hS.il
  have e4 := hS.obj
  have e5 := hS.cl
  refine .mv rfl (.mv rfl (.mv rfl (.mv rfl (.nil (d5 _ _ (.seq (fun K2 d7 => .region (.q rfl (.fieldAddr fo_27_1_B rfl) ?_))))))))
  refine .q rfl (.load on_24_B rfl (by assumption)) ?_
  refine .q rfl (.len sl_24_A rfl) (.mv rfl (.nil (d7 _ _ (.seq (fun K3 d8 => .seq (fun K4 d9 => .region (.mv rfl (.nil (d9 _ _ ?_)))))))))
  refine .block ?_
  refine .loopR (σ := Nat) [(1, some _), (6, some _)] (fun k => [(7, some (.int .i64 (k : Int)))]) (fun k H' => H1 = H' ∧ k ≤ c.src.length ∧ ∀ x, x < k → c.IdOk x) (fun k => c.src.length - k) (0) ⟨rfl, rfl, trivial⟩ ⟨rfl, trivial⟩ ?_ ?_
  ·
   refine ⟨rfl, ?_⟩
   exact ⟨by omega, fun x hx => by omega⟩
  rintro k _ ⟨rfl, hI⟩ KL1 b5
  refine .forget (fr' := [(7, some (.int .i64 (k : Int))), (1, some _), (6, some _)]) ⟨rfl, rfl, rfl, trivial⟩ ?_
  obtain ⟨hk1, o⟩ := hI
  refine .seq (fun K5 e6 => .seq (fun K6 d6 => .region (.mv rfl (.mv rfl (.q rfl (.cmp rfl rfl rfl) (.nil (d6 _ _ ?_)))))))
  refine .cond rfl (fun b8 => ?_) (fun b8 => ?_)
  ·
   simp only [decide_eq_true_eq] at b8
   have q1 := hS.src k (by omega)
   have q2 := hS.tgt k (by omega)
   have q3 := hS.idn_lt q1.1 q1.2
   have q4 := hS.idn_lt q2.1 q2.2
   have r1 := i4.2 (c.idn.getD (c.src.getD k 0).toNat 0).toNat (by omega)
   have r1l := hS.row (c.idn.getD (c.src.getD k 0).toNat 0).toNat (by omega)
   have r2 := i4.2 k (by omega)
   have r2l := hS.row k (by omega)
   refine .skip ?_
   refine e6 _ _ (.seq (fun K7 e7 => ?_))
   refine .block ?_
   refine .seq (fun K8 d4 => ?_)
   refine .regionD mo_B (.q 0 (.q 1 (.q 2 (.q 3 (.q 4 (.q 5 (.q 6 (.q 7 (.q 8 (.q 9 (.q 10 (.q 11 (.q 12 (.q 13 (.q 14 (.q 15 (.q 16 (.q 17 (.q 18 (.q 19 (.q 20 (.q 21 (.q 22 (.q 23 (.q 24 (.q 25 (.q 26 (.q 27 (.q 28 (.q 29 (.q 30 (.q 31 (.q 32 (.q 33 (.q 34 (.q 35 (.q 36 (.q 37 (.done))))))))))))))))))))))))))))))))))))))) (by kernel_rfl) ?_
   refine .q rfl (.fieldAddr fo_27_4_B rfl) ?_
   refine .q rfl (.load on_25_B rfl (by assumption)) ?_
   refine .q rfl (.fieldAddr fo_27_3_B rfl) ?_
   refine .q rfl (.load on_24_B rfl (by assumption)) ?_
   refine .q rfl (.fieldAddr fo_27_1_B rfl) ?_
   refine .q rfl (.load on_24_B rfl (by assumption)) ?_
   refine .mv rfl rfl ?_
   refine .q rfl (.idxN sl_24_A (by assumption) rfl rfl (by omega)) ?_
   refine .q rfl (.loadI on_2_A (by assumption) rfl (by omega)) ?_
   refine .q rfl (.idx1 sl_24_A (by assumption) rfl rfl (by omega) (by omega)) ?_
   refine .q rfl (.loadI on_2_A (by assumption) rfl (by omega)) ?_
   refine .q rfl (.idx1 sl_25_B (Intss.sl (by assumption)) rfl rfl (by omega) (by omega)) ?_
   refine .q rfl (.loadR on_24_B (by assumption) rfl (by omega)) ?_
   refine .mv rfl rfl ?_
   refine .q rfl (.idxN sl_24_A (by assumption) rfl rfl (by omega)) ?_
   refine .q rfl (.loadI on_2_A (by assumption) rfl (by omega)) ?_
   refine .mv rfl rfl (.q rfl (.cmp rfl rfl rfl) (.mv rfl rfl ?_))
   refine .split (fun n => ?_) (fun n => ?_)
   ·
    try simp only [sps] at n
    refine .z rfl (.z rfl (.z rfl (.z rfl (.z rfl (.z rfl (.z rfl (.z rfl (.z rfl (.z rfl (.z rfl (.z rfl (.z rfl (.z rfl (.z rfl (.z rfl ?_)))))))))))))))
    refine .z rfl (.z rfl (.q rfl (.pickT rfl rfl) ?_))
    refine .done ?_
    refine d4 _ _ ?_
    refine .condT rfl ?_
    refine .seq (fun K9 e0 => .region (.mv rfl (.mv rfl (.mv rfl (.mv rfl (.mv rfl (.nil (e0 _ _ ?_))))))))
    refine .ret ?_
    refine b _ _ ?_
    refine ⟨_, _, _, _, rfl, rfl, rfl, rfl, ?_⟩
    exact ⟨a0, _, _, _, _, rfl, .unit k (by omega) (fun h => n h.1) o⟩
   try simp only [sps] at n
   refine .qg rfl (.fieldAddr fo_27_4_B rfl) ?_
   refine .qg rfl (.load on_25_B rfl (by assumption)) ?_
   refine .qg rfl (.move rfl) ?_
   refine .qg rfl (.idxN sl_25_B (Intss.sl (by assumption)) rfl rfl (by omega)) ?_
   refine .qg rfl (.loadR on_24_B (by assumption) rfl (by omega)) ?_
   refine .qg rfl (.fieldAddr fo_27_3_B rfl) ?_
   refine .qg rfl (.load on_24_B rfl (by assumption)) ?_
   refine .qg rfl (.fieldAddr fo_27_2_B rfl) ?_
   refine .qg rfl (.load on_24_B rfl (by assumption)) ?_
   refine .qg rfl (.move rfl) ?_
   refine .qg rfl (.idxN sl_24_A (by assumption) rfl rfl (by omega)) ?_
   refine .qg rfl (.loadI on_2_A (by assumption) rfl (by omega)) ?_
   refine .qg rfl (.idx1 sl_24_A (by assumption) rfl rfl (by omega) (by omega)) ?_
   refine .qg rfl (.loadI on_2_A (by assumption) rfl (by omega)) ?_
   refine .qg rfl (.idx1 sl_24_A (by assumption) rfl rfl (by omega) (by omega)) ?_
   refine .qg rfl (.loadI on_2_A (by assumption) rfl (by omega)) ?_
   refine .qg rfl (.move rfl) (.qg rfl (.cmp rfl rfl rfl) (.q rfl (.pickF rfl rfl) ?_))
   refine .done ?_
   refine d4 _ _ ?_
   refine .cond rfl (fun y => ?_) (fun y => ?_)
   ·
    try simp only [sps] at y
    refine .seq (fun K10 b6 => .region (.mv rfl (.mv rfl (.mv rfl (.mv rfl (.mv rfl (.nil (b6 _ _ ?_))))))))
    refine .ret ?_
    refine b _ _ ?_
    refine ⟨_, _, _, _, rfl, rfl, rfl, rfl, ?_⟩
    exact ⟨a0, _, _, _, _, rfl, .unit k (by omega) (fun h => y h.2) o⟩
   try simp only [sps] at y
   refine .skip ?_
   refine e7 _ _ (.region (.mv rfl ?_))
   refine .q rfl (.add rfl rfl rfl (by omega) (by omega)) ?_
   refine .mv rfl (.nil ?_)
   refine b5 (k + 1) _ _ ?_ ?_ ⟨rfl, rfl, rfl, trivial⟩
   ·
    refine ⟨rfl, ?_⟩
    refine ⟨by omega, fun x hx => ?_⟩
    by_cases e : x < k
    · exact o x e
    · obtain rfl : x = k := by omega
      exact ⟨n, y⟩
   omega
  try simp only [sps] at b8
  refine .exit ?_
  refine d8 _ _ (.seq (fun K11 a4 => .seq (fun K12 c7 => .region (.mv rfl (.nil (c7 _ _ ?_))))))
  refine .block ?_
  refine .loopR (σ := Nat) [(1, some _), (6, some _)] (fun k => [(8, some (.int .i64 (k : Int)))]) (fun k H' => H1 = H' ∧ k ≤ c.src.length ∧ ∀ f, f < k → ∀ g, g < c.src.length → c.tgt.getD f 0 = c.src.getD g 0 → ∀ h, h < c.src.length → c.tgt.getD g 0 = c.src.getD h 0 → c.th (c.th f g) h = c.th f (c.th g h)) (fun k => c.src.length - k) (0) ⟨rfl, rfl, trivial⟩ ⟨rfl, trivial⟩ ?_ ?_
  ·
   refine ⟨rfl, ?_⟩
   exact ⟨by omega, fun x hx => by omega⟩
  rintro k _ ⟨rfl, hI⟩ KL2 d3
  refine .forget (fr' := [(8, some (.int .i64 (k : Int))), (1, some _), (6, some _)]) ⟨rfl, rfl, rfl, trivial⟩ ?_
  obtain ⟨hk2, d0⟩ := hI
  refine .seq (fun K13 a3 => .seq (fun K14 b4 => .region (.mv rfl (.mv rfl (.q rfl (.cmp rfl rfl rfl) (.nil (b4 _ _ ?_)))))))
  refine .cond rfl (fun a7 => ?_) (fun a7 => ?_)
  ·
   try simp only [sps] at a7
   refine .skip ?_
   refine a3 _ _ (.seq (fun K15 a8 => ?_))
   refine .block ?_
   refine .seq (fun K16 a9 => .region (.mv rfl (.nil (a9 _ _ ?_))))
   refine .block ?_
   refine .loopR (σ := Nat) [(1, some _), (6, some _), (8, some _)] (fun j => [(9, some (.int .i64 (j : Int)))]) (fun j H' => H1 = H' ∧ j ≤ c.src.length ∧ ∀ g, g < j → c.tgt.getD k 0 = c.src.getD g 0 → ∀ h, h < c.src.length → c.tgt.getD g 0 = c.src.getD h 0 → c.th (c.th k g) h = c.th k (c.th g h)) (fun j => c.src.length - j) (0) ⟨rfl, rfl, rfl, trivial⟩ ⟨rfl, trivial⟩ ?_ ?_
   ·
    refine ⟨rfl, ?_⟩
    exact ⟨by omega, fun x hx => by omega⟩
   rintro j _ ⟨rfl, hI⟩ KL3 u
   refine .forget (fr' := [(9, some (.int .i64 (j : Int))), (1, some _), (6, some _), (8, some _)]) ⟨rfl, rfl, rfl, rfl, trivial⟩ ?_
   obtain ⟨hk3, a2⟩ := hI
   refine .seq (fun K17 a6 => .seq (fun K18 d1 => .region (.mv rfl (.mv rfl (.q rfl (.cmp rfl rfl rfl) (.nil (d1 _ _ ?_)))))))
   refine .cond rfl (fun b7 => ?_) (fun b7 => ?_)
   ·
    try simp only [sps] at b7
    refine .skip ?_
    refine a6 _ _ (.seq (fun K19 s => ?_))
    refine .block ?_
    refine .seq (fun K20 c9 => .seq (fun K21 c8 => ?_))
    refine .regionD mo_B (.q 0 (.q 1 (.q 2 (.q 3 (.q 4 (.q 5 (.q 6 (.q 7 (.q 8 (.q 9 (.q 10 (.done)))))))))))) (by kernel_rfl) ?_
    refine .q rfl (.fieldAddr fo_27_2_B rfl) ?_
    refine .q rfl (.load on_24_B rfl (by assumption)) ?_
    refine .mv rfl rfl ?_
    refine .q rfl (.idxN sl_24_A (by assumption) rfl rfl (by omega)) ?_
    refine .q rfl (.loadI on_2_A (by assumption) rfl (by omega)) ?_
    refine .q rfl (.fieldAddr fo_27_1_B rfl) ?_
    refine .q rfl (.load on_24_B rfl (by assumption)) ?_
    refine .mv rfl rfl ?_
    refine .q rfl (.idxN sl_24_A (by assumption) rfl rfl (by omega)) ?_
    refine .q rfl (.loadI on_2_A (by assumption) rfl (by omega)) ?_
    refine .q rfl (.cmp rfl rfl rfl) ?_
    refine .done ?_
    refine c8 _ _ ?_
    refine .cond rfl (fun m => ?_) (fun m => ?_)
    ·
     try simp only [sps] at m
     refine .exit ?_
     refine s _ _ (.region (.mv rfl ?_))
     refine .q rfl (.add rfl rfl rfl (by omega) (by omega)) ?_
     refine .mv rfl (.nil ?_)
     refine u (j + 1) _ _ ?_ ?_ ⟨rfl, rfl, rfl, rfl, trivial⟩
     ·
      refine ⟨rfl, ?_⟩
      refine ⟨by omega, fun x hx => ?_⟩
      by_cases e : x < j
      · exact a2 x e
      · obtain rfl : x = j := by omega
        first
          | exact fun e => absurd e m
          | exact fun _ h hh => t h (by omega)
     omega
    simp only [bne_eq_false_iff_eq] at m
    have q5 := (Cat.Cell.pos m).1 (hS.cell k (by omega) j (by omega))
    have r3 := i4.2 k (by omega)
    have r3l := hS.row k (by omega)
    have r4 := i4.2 j (by omega)
    have r4l := hS.row j (by omega)
    have r5 := i4.2 ((c.comp.getD k []).getD j 0).toNat (by omega)
    have r5l := hS.row ((c.comp.getD k []).getD j 0).toNat (by omega)
    refine .skip ?_
    refine c9 _ _ (.seq (fun K22 c6 => .region (.mv rfl (.nil (c6 _ _ ?_)))))
    refine .block ?_
    refine .loopR (σ := Nat) [(1, some _), (6, some _), (8, some _), (9, some _)] (fun i => [(10, some (.int .i64 (i : Int)))]) (fun i H' => H1 = H' ∧ i ≤ c.src.length ∧ ∀ h, h < i → c.tgt.getD j 0 = c.src.getD h 0 → c.th (c.th k j) h = c.th k (c.th j h)) (fun i => c.src.length - i) (0) ⟨rfl, rfl, rfl, rfl, trivial⟩ ⟨rfl, trivial⟩ ?_ ?_
    ·
     refine ⟨rfl, ?_⟩
     exact ⟨by omega, fun x hx => by omega⟩
    rintro i _ ⟨rfl, hI⟩ KL4 a1
    refine .forget (fr' := [(10, some (.int .i64 (i : Int))), (1, some _), (6, some _), (8, some _), (9, some _)]) ⟨rfl, rfl, rfl, rfl, rfl, trivial⟩ ?_
    obtain ⟨hk4, t⟩ := hI
    refine .seq (fun K23 a5 => .seq (fun K24 b0 => .region (.mv rfl (.mv rfl (.q rfl (.cmp rfl rfl rfl) (.nil (b0 _ _ ?_)))))))
    refine .cond rfl (fun b9 => ?_) (fun b9 => ?_)
    ·
     try simp only [sps] at b9
     refine .skip ?_
     refine a5 _ _ (.seq (fun K25 w => ?_))
     refine .block ?_
     refine .seq (fun K26 r => ?_)
     refine .regionD mo_B (.q 0 (.q 1 (.q 2 (.q 3 (.q 4 (.q 5 (.q 6 (.q 7 (.q 8 (.q 9 (.q 10 (.q 11 (.q 12 (.q 13 (.q 14 (.q 15 (.q 16 (.q 17 (.q 18 (.q 19 (.q 20 (.q 21 (.q 22 (.q 23 (.q 24 (.q 25 (.q 26 (.q 27 (.q 28 (.q 29 (.q 30 (.q 31 (.q 32 (.q 33 (.q 34 (.q 35 (.q 36 (.q 37 (.q 38 (.q 39 (.q 40 (.q 41 (.q 42 (.q 43 (.done))))))))))))))))))))))))))))))))))))))))))))) (by kernel_rfl) ?_
     refine .q rfl (.fieldAddr fo_27_2_B rfl) ?_
     refine .q rfl (.load on_24_B rfl (by assumption)) ?_
     refine .mv rfl rfl ?_
     refine .q rfl (.idxN sl_24_A (by assumption) rfl rfl (by omega)) ?_
     refine .q rfl (.loadI on_2_A (by assumption) rfl (by omega)) ?_
     refine .q rfl (.fieldAddr fo_27_1_B rfl) ?_
     refine .q rfl (.load on_24_B rfl (by assumption)) ?_
     refine .mv rfl rfl ?_
     refine .q rfl (.idxN sl_24_A (by assumption) rfl rfl (by omega)) ?_
     refine .q rfl (.loadI on_2_A (by assumption) rfl (by omega)) ?_
     refine .q rfl (.cmp rfl rfl rfl) (.mv rfl rfl ?_)
     refine .split (fun l => ?_) (fun l => ?_)
     ·
      simp only [beq_iff_eq] at l
      have q6 := (Cat.Cell.pos l).1 (hS.cell j (by omega) i (by omega))
      refine .qg rfl (.fieldAddr fo_27_4_B rfl) ?_
      refine .qg rfl (.load on_25_B rfl (by assumption)) ?_
      refine .qg rfl (.fieldAddr fo_27_4_B rfl) ?_
      refine .qg rfl (.load on_25_B rfl (by assumption)) ?_
      refine .qg rfl (.move rfl) ?_
      refine .qg rfl (.idxN sl_25_B (Intss.sl (by assumption)) rfl rfl (by omega)) ?_
      refine .qg rfl (.loadR on_24_B (by assumption) rfl (by omega)) ?_
      refine .qg rfl (.move rfl) ?_
      refine .qg rfl (.idxN sl_24_A (by assumption) rfl rfl (by omega)) ?_
      refine .qg rfl (.loadI on_2_A (by assumption) rfl (by omega)) ?_
      refine .qg rfl (.idx1 sl_25_B (Intss.sl (by assumption)) rfl rfl (by omega) (by omega)) ?_
      refine .qg rfl (.loadR on_24_B (by assumption) rfl (by omega)) ?_
      refine .qg rfl (.move rfl) ?_
      refine .qg rfl (.idxN sl_24_A (by assumption) rfl rfl (by omega)) ?_
      refine .qg rfl (.loadI on_2_A (by assumption) rfl (by omega)) ?_
      refine .qg rfl (.fieldAddr fo_27_4_B rfl) ?_
      refine .qg rfl (.load on_25_B rfl (by assumption)) ?_
      refine .qg rfl (.move rfl) ?_
      refine .qg rfl (.idxN sl_25_B (Intss.sl (by assumption)) rfl rfl (by omega)) ?_
      refine .qg rfl (.loadR on_24_B (by assumption) rfl (by omega)) ?_
      refine .qg rfl (.fieldAddr fo_27_4_B rfl) ?_
      refine .qg rfl (.load on_25_B rfl (by assumption)) ?_
      refine .qg rfl (.move rfl) ?_
      refine .qg rfl (.idxN sl_25_B (Intss.sl (by assumption)) rfl rfl (by omega)) ?_
      refine .qg rfl (.loadR on_24_B (by assumption) rfl (by omega)) ?_
      refine .qg rfl (.move rfl) ?_
      refine .qg rfl (.idxN sl_24_A (by assumption) rfl rfl (by omega)) ?_
      refine .qg rfl (.loadI on_2_A (by assumption) rfl (by omega)) ?_
      refine .qg rfl (.idx1 sl_24_A (by assumption) rfl rfl (by omega) (by omega)) ?_
      refine .qg rfl (.loadI on_2_A (by assumption) rfl (by omega)) ?_
      refine .qg rfl (.cmp rfl rfl rfl) (.q rfl (.pickT rfl rfl) ?_)
      refine .done ?_
      refine r _ _ ?_
      refine .cond rfl (fun a => ?_) (fun a => ?_)
      ·
       try simp only [sps] at a
       refine .seq (fun K27 d2 => .region (.mv rfl (.mv rfl (.mv rfl (.mv rfl (.mv rfl (.mv rfl (.mv rfl (.nil (d2 _ _ ?_))))))))))
       refine .ret ?_
       refine b _ _ ?_
       refine ⟨_, _, _, _, rfl, rfl, rfl, rfl, ?_⟩
       exact ⟨a0, _, _, _, _, rfl, .assoc k j i (by omega) (by omega) (by omega) (fun x hx => o x (by omega)) (fun f hf => d0 f hf) (fun g hg => a2 g hg) (fun h hh => t h hh) m l a⟩
      try simp only [sps] at a
      refine .skip ?_
      refine w _ _ (.region (.mv rfl ?_))
      refine .q rfl (.add rfl rfl rfl (by omega) (by omega)) ?_
      refine .mv rfl (.nil ?_)
      refine a1 (i + 1) _ _ ?_ ?_ ⟨rfl, rfl, rfl, rfl, rfl, trivial⟩
      ·
       refine ⟨rfl, ?_⟩
       refine ⟨by omega, fun x hx => ?_⟩
       by_cases e : x < i
       · exact t x e
       · obtain rfl : x = i := by omega
         first
           | exact fun e => absurd e l
           | exact fun _ => a
      omega
     try simp only [sps] at l
     refine .z rfl (.z rfl (.z rfl (.z rfl (.z rfl (.z rfl (.z rfl (.z rfl (.z rfl (.z rfl (.z rfl (.z rfl (.z rfl (.z rfl (.z rfl (.z rfl ?_)))))))))))))))
     refine .z rfl (.z rfl (.z rfl (.z rfl (.z rfl (.z rfl (.z rfl (.z rfl (.z rfl (.z rfl (.z rfl (.z rfl (.z rfl (.z rfl (.z rfl (.q rfl (.pickF rfl rfl) ?_)))))))))))))))
     refine .done ?_
     refine r _ _ ?_
     refine .condF rfl ?_
     refine .skip ?_
     refine w _ _ (.region (.mv rfl ?_))
     refine .q rfl (.add rfl rfl rfl (by omega) (by omega)) ?_
     refine .mv rfl (.nil ?_)
     refine a1 (i + 1) _ _ ?_ ?_ ⟨rfl, rfl, rfl, rfl, rfl, trivial⟩
     ·
      refine ⟨rfl, ?_⟩
      refine ⟨by omega, fun x hx => ?_⟩
      by_cases e : x < i
      · exact t x e
      · obtain rfl : x = i := by omega
        first
          | exact fun e => absurd e l
          | exact fun _ => a
     omega
    try simp only [sps] at b9
    refine .exit ?_
    refine s _ _ (.region (.mv rfl ?_))
    refine .q rfl (.add rfl rfl rfl (by omega) (by omega)) ?_
    refine .mv rfl (.nil ?_)
    refine u (j + 1) _ _ ?_ ?_ ⟨rfl, rfl, rfl, rfl, trivial⟩
    ·
     refine ⟨rfl, ?_⟩
     refine ⟨by omega, fun x hx => ?_⟩
     by_cases e : x < j
     · exact a2 x e
     · obtain rfl : x = j := by omega
       first
         | exact fun e => absurd e m
         | exact fun _ h hh => t h (by omega)
    omega
   try simp only [sps] at b7
   refine .exit ?_
   refine a8 _ _ (.region (.mv rfl ?_))
   refine .q rfl (.add rfl rfl rfl (by omega) (by omega)) ?_
   refine .mv rfl (.nil ?_)
   refine d3 (k + 1) _ _ ?_ ?_ ⟨rfl, rfl, rfl, trivial⟩
   ·
    refine ⟨rfl, ?_⟩
    refine ⟨by omega, fun x hx => ?_⟩
    by_cases e : x < k
    · exact d0 x e
    · obtain rfl : x = k := by omega
      exact fun g hg => a2 g (by omega)
   omega
  try simp only [sps] at a7
  refine .exit ?_
  refine a4 _ _ (.seq (fun K28 c5 => .region (.mv rfl (.mv rfl (.mv rfl (.mv rfl (.nil (c5 _ _ ?_))))))))
  refine .ret ?_
  refine b _ _ ?_
  refine ⟨_, _, _, _, rfl, rfl, rfl, rfl, ?_⟩
  exact ⟨a0, _, _, _, _, rfl, .fine ⟨fun f hf => o f (by omega), fun f hf => d0 f (by omega)⟩⟩
theorem implIsShape_c {c : Cat} {p : CatP} {H : GHeap} (hin : c.In H p := by assumption) (hs : c.Small := by assumption) :
    GCalls Try.prog 19 [.agg (c.cells p).toArray] H (Ret (.bool (B c.Shape)) H) := by
  refine GCalls.ret rfl ?_
  refine GCalls.body (N := 4) (rs := [.tmp 2]) Try.func19 rfl rfl rfl rfl (fun Qx e hend => ?_)
  refine .fg [0] rfl ?_
  have b := GHeap.Le.refl H
  have a := hin
  refine .seq (fun K1 h => .region ?_)
  refine .R rfl (.boxR rfl sz_27_D rfl) ?_
  rintro _ H1 ⟨g1, rfl, f, ge1, g⟩
  have nx_H1 := f.1
  replace b := b.trans f
  have lt_at1 := GHeap.ltg g
  replace hin := a.mono b
  have d : Cat.At _ g1 0 c p := ⟨Mem.of_get g, hin⟩
  obtain ⟨c01, c11, c21, c31, c41, i11, i21, i31, i41⟩ := d.get
  have hm1 : MemN _ _ _ _ _ := ⟨rfl, d.1⟩
  have hi1 := d.2
  refine .mv rfl (.nil (h _ _ (.seq (fun K2 i => .region ?_))))
  refine .callQ rfl rfl rfl rfl @Try.call51 rfl (isShape_c) ?_
  refine .mv rfl (.nil (i _ _ ?_))
  refine .ret ?_
  refine e _ _ ?_
  refine ⟨_, rfl, ?_⟩
  exact ⟨rfl, b⟩
theorem implIsCategoryT_c {c : Cat} {p : CatP} {H : GHeap} (hin : c.In H p := by assumption) (hs : c.Small := by assumption) :
    GCalls Try.prog 20 [.agg (c.cells p).toArray] H (Ret (.bool (B c.Is)) H) := by
  refine GCalls.ret rfl ?_
  refine GCalls.body (N := 4) (rs := [.tmp 2]) Try.func20 rfl rfl rfl rfl (fun Qx e hend => ?_)
  refine .fg [0] rfl ?_
  have b := GHeap.Le.refl H
  have a := hin
  refine .seq (fun K1 h => .region ?_)
  refine .R rfl (.boxR rfl sz_27_D rfl) ?_
  rintro _ H1 ⟨g1, rfl, f, ge1, g⟩
  have nx_H1 := f.1
  replace b := b.trans f
  have lt_at1 := GHeap.ltg g
  replace hin := a.mono b
  have d : Cat.At _ g1 0 c p := ⟨Mem.of_get g, hin⟩
  obtain ⟨c01, c11, c21, c31, c41, i11, i21, i31, i41⟩ := d.get
  have hm1 : MemN _ _ _ _ _ := ⟨rfl, d.1⟩
  have hi1 := d.2
  refine .mv rfl (.nil (h _ _ (.seq (fun K2 i => .region ?_))))
  refine .callQ rfl rfl rfl rfl @Try.call34 rfl (isCategory_c) ?_
  refine .mv rfl (.nil (i _ _ ?_))
  refine .ret ?_
  refine e _ _ ?_
  refine ⟨_, rfl, ?_⟩
  exact ⟨rfl, b⟩
theorem implFirstFault_c {c : Cat} {p : CatP} {H : GHeap} (hin : c.In H p := by assumption) (hs : c.Small := by assumption) :
    GCalls Try.prog 17 [.agg (c.cells p).toArray] H (FirstF c H) := by
  refine GCalls.body (N := 23) (rs := [.tmp 2, .tmp 3, .tmp 4, .tmp 5, .tmp 6]) Try.func17 rfl rfl rfl rfl (fun Qx d hend => ?_)
  refine .fg [0] rfl ?_
  have b := GHeap.Le.refl H
  have a := hin
  refine .seq (fun K1 i => .region ?_)
  refine .R rfl (.boxR rfl sz_27_D rfl) ?_
  rintro _ H1 ⟨g1, rfl, g, ge1, h⟩
  have nx_H1 := g.1
  replace b := b.trans g
  have lt_at1 := GHeap.ltg h
  replace hin := a.mono b
  have e : Cat.At _ g1 0 c p := ⟨Mem.of_get h, hin⟩
  obtain ⟨c01, c11, c21, c31, c41, i11, i21, i31, i41⟩ := e.get
  have hm1 : MemN _ _ _ _ _ := ⟨rfl, e.1⟩
  have hi1 := e.2
  refine .mv rfl (.mv rfl (.mv rfl (.mv rfl (.mv rfl (.nil (i _ _ (.seq (fun K2 l => .seq (fun K3 n => .region ?_)))))))))
  refine .callQ rfl rfl rfl rfl @Try.call51 rfl (isShape_c) ?_
  refine .q rfl (.not rfl) (.nil (n _ _ ?_))
  refine .cond rfl (fun f => ?_) (fun f => ?_)
  ·
   try simp only [sps] at f
   refine .seq (fun K4 m => .region (.mv rfl (.mv rfl (.mv rfl (.mv rfl (.mv rfl (.nil (m _ _ ?_))))))))
   refine .ret ?_
   refine d _ _ ?_
   refine ⟨_, _, _, _, _, rfl, rfl, rfl, rfl, rfl, ?_⟩
   exact ⟨b, _, _, _, _, _, rfl, .bad (by assumption)⟩
  try simp only [sps] at f
  refine .skip ?_
  refine l _ _ (.seq (fun K5 j => .region ?_))
  refine .call rfl rfl rfl rfl @Try.call52 rfl (faultT_c) ?_
  rintro _ _ ⟨rfl, kd, b1, b2, b3, rfl, hkd⟩
  refine .mv rfl (.q rfl (.extract rfl rfl) (.q rfl (.extract rfl rfl) (.q rfl (.extract rfl rfl) (.q rfl (.extract rfl rfl) (.mv rfl (.mv rfl (.mv rfl (.mv rfl (.nil (j _ _ (.seq (fun K6 k => .region (.mv rfl (.mv rfl (.mv rfl ?_)))))))))))))))
  refine .mv rfl (.mv rfl (.mv rfl (.mv rfl (.mv rfl (.mv rfl (.nil (k _ _ ?_)))))))
  refine .ret ?_
  refine d _ _ ?_
  refine ⟨_, _, _, _, _, rfl, rfl, rfl, rfl, rfl, ?_⟩
  exact ⟨b, _, _, _, _, _, rfl, .ok (by assumption) hkd⟩
theorem specFirstFault_c {c : Cat} {p : CatP} {H : GHeap} (hin : c.In H p := by assumption) (hs : c.Small := by assumption) :
    GCalls Try.prog 18 [.agg (c.cells p).toArray] H (FirstF c H) := by
  refine GCalls.body (N := 25) (rs := [.tmp 2, .tmp 3, .tmp 4, .tmp 5, .tmp 6]) Try.func18 rfl rfl rfl rfl (fun Qx d hend => ?_)
  refine .fg [0] rfl ?_
  have b := GHeap.Le.refl H
  have a := hin
  refine .seq (fun K1 i => .region ?_)
  refine .R rfl (.boxR rfl sz_27_D rfl) ?_
  rintro _ H1 ⟨g1, rfl, h, ge1, e⟩
  have nx_H1 := h.1
  replace b := b.trans h
  have lt_at1 := GHeap.ltg e
  replace hin := a.mono b
  have f : Cat.At _ g1 0 c p := ⟨Mem.of_get e, hin⟩
  obtain ⟨c01, c11, c21, c31, c41, i11, i21, i31, i41⟩ := f.get
  have hm1 : MemN _ _ _ _ _ := ⟨rfl, f.1⟩
  have hi1 := f.2
  refine .mv rfl (.mv rfl (.mv rfl (.mv rfl (.mv rfl (.nil (i _ _ (.seq (fun K2 l => .seq (fun K3 n => .region ?_)))))))))
  refine .q rfl (.loadM ag_27_Yn rfl ⟨rfl, Mem.of_get e⟩) ?_
  refine .callQ rfl rfl rfl rfl @Try.call53 rfl (specShape_c) ?_
  refine .q rfl (.not rfl) (.nil (n _ _ ?_))
  refine .cond rfl (fun g => ?_) (fun g => ?_)
  ·
   try simp only [sps] at g
   refine .seq (fun K4 m => .region (.mv rfl (.mv rfl (.mv rfl (.mv rfl (.mv rfl (.nil (m _ _ ?_))))))))
   refine .ret ?_
   refine d _ _ ?_
   refine ⟨_, _, _, _, _, rfl, rfl, rfl, rfl, rfl, ?_⟩
   exact ⟨b, _, _, _, _, _, rfl, .bad (by assumption)⟩
  try simp only [sps] at g
  refine .skip ?_
  refine l _ _ (.seq (fun K5 j => .region ?_))
  refine .q rfl (.loadM ag_27_Yn rfl ⟨rfl, Mem.of_get e⟩) ?_
  refine .call rfl rfl rfl rfl @Try.call54 rfl (l02FaultT_c) ?_
  rintro _ _ ⟨rfl, kd, b1, b2, b3, rfl, hkd⟩
  refine .mv rfl (.q rfl (.extract rfl rfl) (.q rfl (.extract rfl rfl) (.q rfl (.extract rfl rfl) (.q rfl (.extract rfl rfl) (.mv rfl (.mv rfl (.mv rfl (.mv rfl (.nil (j _ _ (.seq (fun K6 k => .region (.mv rfl (.mv rfl (.mv rfl ?_)))))))))))))))
  refine .mv rfl (.mv rfl (.mv rfl (.mv rfl (.mv rfl (.mv rfl (.nil (k _ _ ?_)))))))
  refine .ret ?_
  refine d _ _ ?_
  refine ⟨_, _, _, _, _, rfl, rfl, rfl, rfl, rfl, ?_⟩
  exact ⟨b, _, _, _, _, _, rfl, .ok (by assumption) hkd⟩
end Go.Proofs.Ytfanjkbaemhbmaa
namespace Go.GL
noncomputable def Cat.code (c : Cat) (xs : List Int) : Int := if B c.Is = true then (if allIn xs c.src.length = true then 0 else 2) else 1
def Cat.ext (c : Cat) (f g : Int) : List Int := (c.hom (c.T g) (c.T f)).filter fun h => decide (c.th g h = f)
end Go.GL
namespace Go.Proofs.Ytfanjkbaemhbmaa
open Go Go.GL Go.RowKit Go.Proofs
theorem sl_22_Fa : sliceT Try.prog 22 = some (5, 1) := by kernel_rfl
theorem big_c {a : Option Addr} {xs : List Int} {H : GHeap} : GCalls Try.prog 6 [.slice a xs.length xs.length] H (Ret (.bool (decide (4096 < (xs.length : Int)))) H) := by
  refine GCalls.body (N := 6) (rs := [.tmp 2]) Try.func6 rfl rfl rfl rfl (fun Qx b hend => ?_)
  refine .fg [0] rfl ?_
  refine .seq (fun K1 d => .region (.mv rfl (.nil (d _ _ (.seq (fun K2 c => .region (.mv rfl (.q rfl (.len sl_22_Fa rfl) (.q rfl (.cmp rfl rfl rfl) (.mv rfl (.nil (c _ _ ?_))))))))))))
  refine .ret ?_
  refine b _ _ ?_
  refine ⟨_, rfl, ?_⟩
  exact .mk
end Go.Proofs.Ytfanjkbaemhbmaa
namespace Go.Proofs.Ytfanjkbaemhbmaa
open Go Go.GL Go.RowKit Go.Proofs
theorem bo_4_LFnCategoryFaults : isBoolT Try.prog 4 = true := by kernel_rfl
theorem drawFirstFault_c {a : Option Addr} {xs : List Int} {H : GHeap} (hb : Bytes H a xs := by assumption) (hlt : ∀ b o t, a = some ⟨b, o, t⟩ → b < H.next := by assumption) (hx : xs.length ≤ 4096 := by omega) :
    GCalls Try.prog 16 [.slice a xs.length xs.length] H (NewK H) := by
  refine GCalls.body (N := 5) (rs := [.cell 2 27]) Try.func16 rfl rfl rfl rfl (fun Qx n hend => ?_)
  refine .fg [0] rfl ?_
  have i := GHeap.Le.refl H
  have c := hb
  refine .seq (fun K1 q => .region ?_)
  refine .R rfl (.allocR rfl ze_27_Hj rfl) ?_
  rintro _ H2 ⟨g2, rfl, p, ge2, l⟩
  have nx_H2 := p.1
  replace i := i.trans p
  have lt_at2 := GHeap.ltg l
  replace hb := c.mono i
  refine .nil (q _ _ (.seq (fun K2 s => .region (.mv rfl ?_))))
  refine .call rfl rfl rfl rfl @Try.call50 rfl (l02Turned_c (hlt := fun b o t e => by have := hlt b o t e; omega)) ?_
  rintro _ H4 ⟨m, c4, p4, rfl, r, v4⟩
  have nx_H4 := m.1
  replace i := i.trans m
  replace l := m.2 _ _ l
  have j := v4
  have g : Keep H2.next H4 H4 := fun _ _ _ h => h
  replace hb := c.mono i
  have i4 := v4.inn
  refine .r0 rfl rfl (.fillA rfl sz_27_D rfl rfl rfl rfl) ?_
  rintro _ H1002 ⟨rfl, f, d⟩
  have nx_H1002 := f.nx
  replace i := i.st f (fun k hk => ⟨by omega, trivial⟩)
  replace g := Keep.st g f (fun k hb hk => ⟨(by omega), trivial⟩)
  replace v4 := j.keep g (Nat.le_refl _)
  have lt_at1002 := GHeap.ltg d
  replace hb := c.mono i
  clear i4
  have i4 := v4.inn
  have mm1002 : MemN _ _ _ _ _ := ⟨rfl, Mem.of_get d⟩
  refine .nil (s _ _ ?_)
  refine .ret ?_
  refine n _ _ ?_
  refine ⟨_, _, _, _, rfl, ag_27_Hj, (by rfl), (Mem.of_get d), ?_⟩
  exact ⟨i, c4, p4, rfl, r, v4.keep (.of_le (.refl _)) (by omega)⟩
set_option maxHeartbeats 40000000 in
theorem lawFnCategoryFaults_c {a : Option Addr} {xs : List Int} {H : GHeap} (hb : Bytes H a xs) (hl : xs.length ≤ 9223372036854775807) (hlt : ∀ b o t, a = some ⟨b, o, t⟩ → b < H.next) :
    GCalls Try.prog 4 [.slice a xs.length xs.length] H (fun v _ => v = .bool true) := by
  refine GCalls.body (N := 105) (rs := [.tmp 2]) Try.func4 rfl rfl rfl rfl (fun Qx u hend => ?_)
  refine .fg [0] rfl ?_
  have m := GHeap.Le.refl H
  have e := hb
  refine .seq (fun K1 c1 => .region (.mv rfl (.nil (c1 _ _ (.seq (fun K2 c4 => .seq (fun K3 c5 => .region (.mv rfl ?_))))))))
  refine .callQ rfl rfl rfl rfl @Try.call6 rfl (big_c) ?_
  refine .nil (c5 _ _ ?_)
  refine .cond rfl (fun b4 => ?_) (fun b4 => ?_)
  ·
   try simp only [sps] at b4
   refine .seq (fun K4 c6 => .region (.mv rfl (.nil (c6 _ _ ?_))))
   refine .ret ?_
   refine u _ _ ?_
   refine ⟨_, rfl, ?_⟩
   first
   | rfl
   | exact congrArg Value.bool (by rw [B_false fun h => hns h.1]; rfl)
   | exact congrArg Value.bool (bne_iff_ne.2 hne)
  simp only [sps] at b4
  refine .skip ?_
  refine c4 _ _ (.seq (fun K5 c8 => .region (.mv rfl ?_)))
  refine .call rfl rfl rfl rfl @Try.call16 rfl (drawFirstFault_c) ?_
  rintro _ c0 ⟨y, x, p17, rfl, sm17, n⟩
  have nx_H17 := y.1
  replace m := m.trans y
  have j := n
  have d : Keep H.next c0 c0 := fun _ _ _ h => h
  replace hb := e.mono m
  have r := n.inn
  refine .R rfl (.allocR rfl ze_27_Hj rfl) ?_
  rintro _ H3 ⟨g3, rfl, b3, ge3, d0⟩
  have nx_H3 := b3.1
  replace m := m.trans b3
  replace d := Keep.le d b3
  replace n := j.keep d (Nat.le_refl _)
  have lt_at3 := GHeap.ltg d0
  replace hb := e.mono m
  clear r
  have r := n.inn
  refine .r0 rfl rfl (.fillA rfl sz_27_D rfl rfl rfl rfl) ?_
  rintro _ H3003 ⟨rfl, l, c⟩
  have nx_H3003 := l.nx
  replace m := m.st l (fun k hk => ⟨by omega, trivial⟩)
  replace d := Keep.st d l (fun k hb hk => ⟨by omega, trivial⟩)
  replace n := j.keep d (Nat.le_refl _)
  have lt_at3003 := GHeap.ltg c
  replace hb := e.mono m
  clear r
  have r := n.inn
  have i : MemN _ _ _ _ _ := ⟨rfl, Mem.of_get c⟩
  refine .nil (c8 _ _ (.seq (fun K6 c2 => .region ?_)))
  refine .q rfl (.loadM ag_27_Hj rfl ⟨rfl, Mem.of_get c⟩) ?_
  refine .call rfl rfl rfl rfl @Try.call17 rfl (implFirstFault_c) ?_
  rintro _ H20 ⟨w, a20, b20, c20, d20, e20, rfl, s⟩
  have nx_H20 := w.1
  replace m := m.trans w
  replace c := w.2 _ _ c
  replace d := Keep.le d w
  replace n := j.keep d (Nat.le_refl _)
  replace hb := e.mono m
  clear r
  have r := n.inn
  clear i
  have i : MemN _ _ _ _ _ := ⟨rfl, Mem.of_get c⟩
  refine .mv rfl (.q rfl (.extract rfl rfl) (.q rfl (.extract rfl rfl) (.q rfl (.extract rfl rfl) (.q rfl (.extract rfl rfl) (.q rfl (.extract rfl rfl) (.mv rfl (.mv rfl (.mv rfl (.mv rfl (.mv rfl (.nil (c2 _ _ (.seq (fun K7 c9 => .region ?_))))))))))))))
  refine .q rfl (.loadM ag_27_Hj rfl ⟨rfl, Mem.of_get c⟩) ?_
  refine .call rfl rfl rfl rfl @Try.call18 rfl (specFirstFault_c) ?_
  rintro _ H28 ⟨p, a28, b28, c28, d28, e28, rfl, a6⟩
  have nx_H28 := p.1
  replace m := m.trans p
  replace c := p.2 _ _ c
  replace d := Keep.le d p
  replace n := j.keep d (Nat.le_refl _)
  replace hb := e.mono m
  clear r
  have r := n.inn
  clear i
  have i : MemN _ _ _ _ _ := ⟨rfl, Mem.of_get c⟩
  refine .mv rfl (.q rfl (.extract rfl rfl) (.q rfl (.extract rfl rfl) (.q rfl (.extract rfl rfl) (.q rfl (.extract rfl rfl) (.q rfl (.extract rfl rfl) (.mv rfl (.mv rfl (.mv rfl (.mv rfl (.mv rfl (.nil (c9 _ _ (.seq (fun K8 c3 => .seq (fun K9 c7 => .region ?_)))))))))))))))
  obtain ⟨rfl, rfl, rfl, rfl, rfl⟩ := s.uniq a6
  refine .mv rfl (.mv rfl (.q rfl (.cmp rfl rfl rfl) (.mv rfl ?_)))
  refine .split (fun a8 => ?_) (fun a8 => ?_)
  ·
   simp at a8
  try simp only [sps] at a8
  refine .qg rfl (.move rfl) (.qg rfl (.move rfl) (.qg rfl (.cmp rfl rfl rfl) (.q rfl (.pickF rfl rfl) (.mv rfl ?_))))
  refine .split (fun b5 => ?_) (fun b5 => ?_)
  ·
   simp at b5
  try simp only [sps] at b5
  refine .qg rfl (.move rfl) (.qg rfl (.move rfl) (.qg rfl (.cmp rfl rfl rfl) (.q rfl (.pickF rfl rfl) (.mv rfl ?_))))
  refine .split (fun b7 => ?_) (fun b7 => ?_)
  ·
   simp at b7
  try simp only [sps] at b7
  refine .qg rfl (.move rfl) (.qg rfl (.move rfl) (.qg rfl (.cmp rfl rfl rfl) (.q rfl (.pickF rfl rfl) (.mv rfl ?_))))
  refine .split (fun b1 => ?_) (fun b1 => ?_)
  ·
   simp at b1
  try simp only [sps] at b1
  refine .qg rfl (.move rfl) (.qg rfl (.move rfl) (.qg rfl (.cmp rfl rfl rfl) (.q rfl (.pickF rfl rfl) (.nil (c7 _ _ ?_)))))
  refine .cond rfl (fun b8 => ?_) (fun b8 => ?_)
  ·
   simp at b8
  try simp only [sps] at b8
  refine .skip ?_
  refine c3 _ _ (.seq (fun K10 b2 => .seq (fun K11 a4 => .region (.mv rfl (.q rfl (.cmp rfl rfl rfl) (.nil (a4 _ _ ?_)))))))
  refine .cond rfl (fun z => ?_) (fun z => ?_)
  ·
   simp only [sps] at z
   have hns := s.err z
   refine .seq (fun K12 b6 => .region ?_)
   refine .q rfl (.loadM ag_27_Hj rfl ⟨rfl, Mem.of_get c⟩) ?_
   refine .callQ rfl rfl rfl rfl @Try.call19 rfl (implIsShape_c) ?_
   refine .q rfl (.not rfl) (.mv rfl ?_)
   refine .split (fun a2 => ?_) (fun a2 => ?_)
   ·
    try simp only [sps] at a2
    refine .qg rfl (.loadM ag_27_Hj rfl ⟨rfl, Mem.of_get c⟩) ?_
    refine .callQg rfl rfl rfl rfl rfl rfl @Try.call20 rfl (implIsCategoryT_c) ?_
    refine .qg rfl (.not rfl) (.q rfl (.pickT rfl rfl) (.mv rfl (.nil (b6 _ _ ?_))))
    refine .ret ?_
    refine u _ _ ?_
    refine ⟨_, rfl, ?_⟩
    first
    | rfl
    | exact congrArg Value.bool (by rw [B_false fun h => hns h.1]; rfl)
    | exact congrArg Value.bool (bne_iff_ne.2 hne)
   exact absurd (B_iff.1 (by simpa using a2)) hns
  simp only [sps] at z
  subst z
  obtain ⟨hS, hIs⟩ := s.fine
  refine .skip ?_
  refine b2 _ _ (.seq (fun K13 a3 => .seq (fun K14 b0 => .region ?_)))
  refine .q rfl (.loadM ag_27_Hj rfl ⟨rfl, Mem.of_get c⟩) ?_
  refine .callQ rfl rfl rfl rfl @Try.call20 rfl (implIsCategoryT_c) ?_
  refine .mv rfl (.q rfl (.cmp rfl rfl rfl) (.q rfl (.boolNe bo_4_LFnCategoryFaults rfl rfl) (.nil (b0 _ _ ?_))))
  refine .cond rfl (fun a0 => ?_) (fun a0 => ?_)
  ·
   simp only [sps] at a0
   exact absurd (by rw [Bool.eq_iff_iff, B_iff, beq_iff_eq]; exact hIs.symm) a0
  try simp only [sps] at a0
  refine .skip ?_
  refine a3 _ _ (.seq (fun K15 a7 => .seq (fun K16 a9 => .region (.mv rfl (.q rfl (.cmp rfl rfl rfl) (.nil (a9 _ _ ?_)))))))
  refine .cond rfl (fun a1 => ?_) (fun a1 => ?_)
  ·
   simp only [sps] at a1
   subst a1
   obtain ⟨f, g, k, rfl, rfl, rfl, hf, hg, hk, e1, e2, hne⟩ := s.two
   obtain ⟨_, _, _, i4⟩ := id r
   have q5 := (Cat.Cell.pos e1).1 (hS.cell f (by have := hS.cl; omega) g hg)
   have q6 := (Cat.Cell.pos e2).1 (hS.cell g (by have := hS.cl; omega) k hk)
   have hcl := hS.cl
   have q5' : 0 ≤ (x.comp.getD f []).getD (g : Int).toNat 0 ∧ (x.comp.getD f []).getD (g : Int).toNat 0 < x.src.length := ⟨q5.1, q5.2.1⟩
   have q6' : 0 ≤ (x.comp.getD g []).getD (k : Int).toNat 0 ∧ (x.comp.getD g []).getD (k : Int).toNat 0 < x.src.length := ⟨q6.1, q6.2.1⟩
   have r1 := i4.2 f (by omega)
   have r1l := hS.row f (by omega)
   have r2 := i4.2 g (by omega)
   have r2l := hS.row g (by omega)
   have r3 := i4.2 ((x.comp.getD f []).getD g 0).toNat (by omega)
   have r3l := hS.row ((x.comp.getD f []).getD g 0).toNat (by omega)
   refine .seq (fun K17 a5 => ?_)
   refine .regionD mo_B (.q 0 (.q 1 (.q 2 (.q 3 (.q 4 (.q 5 (.q 6 (.q 7 (.q 8 (.q 9 (.q 10 (.q 11 (.q 12 (.q 13 (.q 14 (.q 15 (.q 16 (.q 17 (.q 18 (.q 19 (.q 20 (.q 21 (.q 22 (.q 23 (.q 24 (.q 25 (.q 26 (.q 27 (.q 28 (.q 29 (.q 30 (.q 31 (.done))))))))))))))))))))))))))))))))) (by kernel_rfl) ?_
   refine .q rfl (.fieldAddr fo_27_4_B rfl) ?_
   refine .q rfl (.load on_25_B rfl (by first | assumption | exact Mem.of_get c 4 _ rfl)) ?_
   refine .q rfl (.fieldAddr fo_27_4_B rfl) ?_
   refine .q rfl (.load on_25_B rfl (by first | assumption | exact Mem.of_get c 4 _ rfl)) ?_
   refine .mv rfl rfl ?_
   refine .q rfl (.idx1 sl_25_B (Intss.sl (by assumption)) rfl rfl (by omega) (by omega)) ?_
   refine .q rfl (.loadR on_24_B (by assumption) rfl (by omega)) ?_
   refine .mv rfl rfl ?_
   refine .q rfl (.idx1 sl_24_A r1 rfl rfl (by omega) (by omega)) ?_
   refine .q rfl (.loadI on_2_A r1 rfl (by omega)) ?_
   refine .q rfl (.idx1 sl_25_B (Intss.sl (by assumption)) rfl rfl (by omega) (by omega)) ?_
   refine .q rfl (.loadR on_24_B (by assumption) rfl (by omega)) ?_
   refine .mv rfl rfl ?_
   refine .q rfl (.idx1 sl_24_A r3 rfl rfl (by omega) (by omega)) ?_
   refine .q rfl (.loadI on_2_A r3 rfl (by omega)) ?_
   refine .q rfl (.fieldAddr fo_27_4_B rfl) ?_
   refine .q rfl (.load on_25_B rfl (by first | assumption | exact Mem.of_get c 4 _ rfl)) ?_
   refine .mv rfl rfl ?_
   refine .q rfl (.idx1 sl_25_B (Intss.sl (by assumption)) rfl rfl (by omega) (by omega)) ?_
   refine .q rfl (.loadR on_24_B (by assumption) rfl (by omega)) ?_
   refine .q rfl (.fieldAddr fo_27_4_B rfl) ?_
   refine .q rfl (.load on_25_B rfl (by first | assumption | exact Mem.of_get c 4 _ rfl)) ?_
   refine .mv rfl rfl ?_
   refine .q rfl (.idx1 sl_25_B (Intss.sl (by assumption)) rfl rfl (by omega) (by omega)) ?_
   refine .q rfl (.loadR on_24_B (by assumption) rfl (by omega)) ?_
   refine .mv rfl rfl ?_
   refine .q rfl (.idx1 sl_24_A r2 rfl rfl (by omega) (by omega)) ?_
   refine .q rfl (.loadI on_2_A r2 rfl (by omega)) ?_
   refine .q rfl (.idx1 sl_24_A r1 rfl rfl (by omega) (by omega)) ?_
   refine .q rfl (.loadI on_2_A r1 rfl (by omega)) ?_
   refine .q rfl (.cmp rfl rfl rfl) (.mv rfl rfl ?_)
   refine .done ?_
   refine a5 _ _ ?_
   refine .ret ?_
   refine u _ _ ?_
   refine ⟨_, rfl, ?_⟩
   first
   | rfl
   | exact congrArg Value.bool (by rw [B_false fun h => hns h.1]; rfl)
   | exact congrArg Value.bool (bne_iff_ne.2 hne)
  try simp only [sps] at a1
  refine .skip ?_
  refine a7 _ _ (.seq (fun K18 b9 => .region (.mv rfl (.nil (b9 _ _ ?_)))))
  refine .ret ?_
  refine u _ _ ?_
  refine ⟨_, rfl, ?_⟩
  first
  | rfl
  | exact congrArg Value.bool (by rw [B_false fun h => hns h.1]; rfl)
  | exact congrArg Value.bool (bne_iff_ne.2 hne)
end Go.Proofs.Ytfanjkbaemhbmaa
