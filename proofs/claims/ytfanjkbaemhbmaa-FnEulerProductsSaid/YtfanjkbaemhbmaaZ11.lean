/- Sums and products of categories: the answers. No condition but those of each statement. -/
import Derived.Test.YtfanjkbaemhbmaaZ10
namespace Go.Proofs.Ytfanjkbaemhbmaa
open Go Go.GL Go.RowKit Go.Proofs
theorem ze_58_Ex : zeroT Try.prog 58 = some ([.pointer none], 1) := by kernel_rfl
set_option maxHeartbeats 4000000 in
theorem product1_c {gc gm gd g0 o0 g1 o1 f k : Nat} {c d : Cat} {p q : CatP} {e1 e2 e3 : TypeId} {H : GHeap} (hgc : H.get gc = some (.row [.pointer (some ⟨g0, o0, none⟩)] e2 true)) (hm : H.get gm = some (.row [.int .i64 (d.src.length : Int)] e1 true))
    (hgd : H.get gd = some (.row [.pointer (some ⟨g1, o1, none⟩)] e3 true)) (h0 : Cat.At H g0 o0 c p) (h1 : Cat.At H g1 o1 d q) (sc : c.Shape) (sd : d.Shape)
    (hf : f < c.src.length * d.src.length) (hk : k < c.src.length * d.src.length) :
    GCalls Try.prog 82 [.int .i64 (f : Int), .int .i64 (k : Int), .pointer (some ⟨gc, 0, none⟩), .pointer (some ⟨gm, 0, none⟩), .pointer (some ⟨gd, 0, none⟩)] H (fun v H' => H.Le H' ∧ v = .int .i64 (c.prX d f k)) := by
  have m1 := sc.n40
  have m2 := sd.n40
  have m3 : 0 < d.src.length := Nat.pos_of_ne_zero fun e => by rw [e, Nat.mul_zero] at hf; omega
  have m4 : c.src.length * d.src.length ≤ 40 * 40 := Nat.mul_le_mul m1 m2
  have a1 : f / d.src.length < c.src.length := Nat.div_lt_of_lt_mul (by rw [Nat.mul_comm]; exact hf)
  have a2 : k / d.src.length < c.src.length := Nat.div_lt_of_lt_mul (by rw [Nat.mul_comm]; exact hk)
  have a3 : f % d.src.length < d.src.length := Nat.mod_lt _ m3
  have a4 : k % d.src.length < d.src.length := Nat.mod_lt _ m3
  have t1 := sc.th_lt a1 a2
  have t2 := sd.th_lt a3 a4
  have t3 := mulE_bd1 (x := c.th ((f / d.src.length : Nat) : Int) ((k / d.src.length : Nat) : Int)) (y := (d.src.length : Int)) (A := 40) (B := 40) t1.2 (by omega) (by omega) (by omega) (by omega)
  refine GCalls.body (N := 27) (rs := [.tmp 7]) Try.func82 rfl rfl rfl rfl (fun Qx a hend => ?_)
  refine .fg [0, 1, 2, 3, 4] rfl ?_
  have i := GHeap.Le.refl H
  refine .seq (fun K1 j => .region (.mv rfl (.nil (j _ _ (.seq (fun K2 b => ?_))))))
  refine .regionD mo_B (.q 0 (.q 1 (.q 2 (.q 3 (.q 4 (.q 5 (.q 6 (.q 8 (.q 10 (.q 11 (.q 12 (.q 13 (.q 14 (.q 15 (.q 16 (.c 7 1 (.q 9 (.c 17 1 (.q 18 (.q 19 (.done))))))))))))))))))))) (by kernel_rfl) ?_
  refine .q rfl (.load on_58_F rfl (by first | assumption | exact Mem.of_get hgc 0 _ rfl)) ?_
  refine .mv rfl rfl ?_
  refine .q rfl (.load on_2_A rfl (by first | assumption | exact Mem.of_get hm 0 _ rfl)) ?_
  refine .q rfl (.quoE rfl rfl (by omega) (by omega) (by omega)) ?_
  refine .mv rfl rfl ?_
  refine .q rfl (.load on_2_A rfl (by first | assumption | exact Mem.of_get hm 0 _ rfl)) ?_
  refine .q rfl (.quoE rfl rfl (by omega) (by omega) (by omega)) ?_
  refine .q rfl (.load on_2_A rfl (by first | assumption | exact Mem.of_get hm 0 _ rfl)) ?_
  refine .q rfl (.load on_58_F rfl (by first | assumption | exact Mem.of_get hgd 0 _ rfl)) ?_
  refine .mv rfl rfl ?_
  refine .q rfl (.load on_2_A rfl (by first | assumption | exact Mem.of_get hm 0 _ rfl)) ?_
  refine .q rfl (.remE rfl rfl (by omega) (by omega)) ?_
  refine .mv rfl rfl ?_
  refine .q rfl (.load on_2_A rfl (by first | assumption | exact Mem.of_get hm 0 _ rfl)) ?_
  refine .q rfl (.remE rfl rfl (by omega) (by omega)) ?_
  refine .callQ1 rfl rfl rfl rfl rfl @Try.call79 rfl (then_s (g := g0) (o := o0) (c := c) (p := p) (f := ((f / d.src.length : Nat) : Int)) (k := ((k / d.src.length : Nat) : Int)) (h := h0) (hS := sc) (h0 := Int.natCast_nonneg _) (h1 := Int.ofNat_lt.2 a1) (h2 := Int.natCast_nonneg _) (h3 := Int.ofNat_lt.2 a2)) (.refl _) ?_
  refine .q rfl (.mul rfl rfl rfl (by omega) (by omega)) ?_
  refine .callQ1 rfl rfl rfl rfl rfl @Try.call79 rfl (then_s (g := g1) (o := o1) (c := d) (p := q) (f := ((f % d.src.length : Nat) : Int)) (k := ((k % d.src.length : Nat) : Int)) (h := h1) (hS := sd) (h0 := Int.natCast_nonneg _) (h1 := Int.ofNat_lt.2 a3) (h2 := Int.natCast_nonneg _) (h3 := Int.ofNat_lt.2 a4)) (.refl _) ?_
  refine .q rfl (.add rfl rfl rfl (by omega) (by omega)) ?_
  refine .mv rfl rfl ?_
  refine .done ?_
  refine b _ _ ?_
  refine .ret ?_
  refine a _ _ ?_
  refine ⟨_, rfl, ?_⟩
  exact ⟨i, rfl⟩
set_option maxHeartbeats 16000000 in
theorem product_c {g0 o0 g1 o1 : Nat} {c d : Cat} {p q : CatP} {H : GHeap} (h : Cat.At H g0 o0 c p := by assumption) (h' : Cat.At H g1 o1 d q := by assumption) (sc : c.Shape) (sd : d.Shape) :
    GCalls Try.prog 49 [.pointer (some ⟨g0, o0, none⟩), .pointer (some ⟨g1, o1, none⟩)] H (NewCB (B (c.PrF d)) (c.prR d) H) := by
  have q1 := sc.tl
  have q2 := sc.n40
  have q3 := sc.obj
  have q4 := sc.il
  have q5 := sd.tl
  have q6 := sd.n40
  have q7 := sd.obj
  have q8 := sd.il
  have w1 := mulE_bd (x := c.obj) (y := d.obj) (A := 8) (B := 8) q3.1 q3.2 q7.1 q7.2
  have w2 := mulE_bd (x := (c.src.length : Int)) (y := (d.src.length : Int)) (A := 40) (B := 40) (by omega) (by omega) (by omega) (by omega)
  have w3 : d.idn.length * c.idn.length ≤ 8 * 8 := Nat.mul_le_mul (by omega) (by omega)
  have w4 : d.src.length * c.src.length ≤ 40 * 40 := Nat.mul_le_mul q6 q2
  refine GCalls.body (N := 138) (rs := [.cell 4 27, .tmp 5]) Try.func49 rfl rfl rfl rfl (fun Qx j4 hend => ?_)
  refine .fg [0, 1] rfl ?_
  have r := GHeap.Le.refl H
  have o := h
  have l := h'
  refine .seq (fun K1 s8 => .region ?_)
  refine .R rfl (.boxR rfl sz_58_Fd rfl) ?_
  rintro _ H2 ⟨g2, rfl, s6, ge2, a4⟩
  replace r := r.trans s6
  have lt_at2 := GHeap.ltg a4
  replace h := o.mono r
  replace h' := l.mono r
  refine .R rfl (.boxR rfl sz_58_Fd rfl) ?_
  rintro _ H3 ⟨g3, rfl, r7, ge3, a7⟩
  replace r := r.trans r7
  replace a4 := r7.2 _ _ a4
  have lt_at3 := GHeap.ltg a7
  replace h := o.mono r
  replace h' := l.mono r
  refine .R rfl (.allocR rfl ze_27_Hj rfl) ?_
  rintro _ H4 ⟨g4, rfl, r2, ge4, e7⟩
  replace r := r.trans r2
  replace a4 := r2.2 _ _ a4
  replace a7 := r2.2 _ _ a7
  have lt_at4 := GHeap.ltg e7
  replace h := o.mono r
  replace h' := l.mono r
  obtain ⟨c0, c1, c2, c3, c4, i1, i2, i3, i4⟩ := h.get
  have hm : MemN _ _ _ _ _ := ⟨rfl, h.1⟩
  have hi := h.2
  obtain ⟨m6, j0, m7, j8, m3, k0, m4, j9, m2⟩ := h'.get
  have hmb : MemN _ _ _ _ _ := ⟨rfl, h'.1⟩
  have hib := h'.2
  refine .mv rfl (.nil (s8 _ _ (.seq (fun K2 t0 => ?_))))
  refine .regionD mo_B (.q 0 (.q 1 (.q 2 (.q 3 (.q 4 (.or (.c 5 1 (.c 6 1 (.q 7 (.c 8 1 (.done))))) (.c 6 1 (.c 5 1 (.q 7 (.c 8 1 (.done))))))))))) (by kernel_rfl) ?_
  refine .cut [(0, some _), (1, some _), (2, some _), (3, some _), (4, some _), (5, some _)] ⟨rfl, rfl, rfl, rfl, rfl, rfl, trivial⟩ (fun rest fr' H' => ∃ g7, Sub ((7, some (.pointer (some ⟨g7, 0, none⟩))) :: (6, some (.int .i64 d.obj)) :: rest) fr' ∧ H4.Le H' ∧ H4.next ≤ g7 ∧ H'.get g7 = some (.row ([.int .i64 (d.src.length:Int)]) 2 true)) ?_ ?_
  ·
   have h9 := GHeap.Le.refl H4
   refine .q rfl (.load on_58_F rfl (by first | assumption | exact Mem.of_get a7 0 _ rfl)) ?_
   refine .qB rfl (.refl _) (.nilCheck rfl) (.qB rfl (.refl _) (.fieldAddr fo_27_0_B rfl) ?_)
   refine .q rfl (.load on_2_A rfl (by assumption)) ?_
   refine .q rfl (.load on_58_F rfl (by first | assumption | exact Mem.of_get a7 0 _ rfl)) ?_
   refine .orI ?_ ?_
   ·
    refine .callQ1 rfl rfl rfl rfl rfl @Try.call67 rfl (arrows_c) (.refl _) ?_
    refine .c1 rfl rfl rfl rfl (.allocR rfl ze_2_Pa rfl) ?_
    rintro _ H7x2 ⟨p4, rfl, j2, ge7x2, at7x2⟩
    have f5 := j2
    refine ⟨f5, ?_⟩
    replace h9 := h9.trans j2
    refine .qB rfl f5 (.assign rfl) ?_
    refine .r1 rfl rfl rfl (.storeR rfl sz_2_Tb rfl rfl rfl (by assumption) (by first | exact Nat.le_of_ble_eq_true rfl | (simp; done) | (simp <;> omega))) ?_
    rintro _ H1008 ⟨rfl, h8, h0⟩
    replace f5 := f5.st h8 (fun k hk => ⟨by omega, trivial⟩)
    refine ⟨f5, ?_⟩
    try simp only [Nat.zero_add, List.set_cons_succ, List.set_cons_zero] at h0
    replace h9 := h9.st h8 (fun k hk => ⟨by omega, trivial⟩)
    refine .done ?_
    exact ⟨p4, ⟨rfl, rfl, rfl, rfl, rfl, rfl, rfl, rfl, trivial⟩, h9, by omega, by first | assumption | simpa using h0⟩
   refine .c1 rfl rfl rfl rfl (.allocR rfl ze_2_Pa rfl) ?_
   rintro _ H7x3 ⟨n6, rfl, h3, ge7x3, at7x3⟩
   have f5 := h3
   refine ⟨f5, ?_⟩
   replace r := r.trans h3
   replace h9 := h9.trans h3
   replace h := o.mono r
   replace h' := l.mono r
   clear c0 c1 c2 c3 c4 i1 i2 i3 i4 hm hi m6 j0 m7 j8 m3 k0 m4 j9 m2 hmb hib
   refine .callQ1 rfl rfl rfl rfl rfl @Try.call67 rfl (arrows_c) f5 ?_
   refine .qB rfl f5 (.assign rfl) ?_
   refine .r1 rfl rfl rfl (.storeR rfl sz_2_Tb rfl rfl rfl (by assumption) (by first | exact Nat.le_of_ble_eq_true rfl | (simp; done) | (simp <;> omega))) ?_
   rintro _ H1008x2 ⟨rfl, f2, f4⟩
   replace f5 := f5.st f2 (fun k hk => ⟨by omega, trivial⟩)
   refine ⟨f5, ?_⟩
   try simp only [Nat.zero_add, List.set_cons_succ, List.set_cons_zero] at f4
   replace h9 := h9.st f2 (fun k hk => ⟨by omega, trivial⟩)
   refine .done ?_
   exact ⟨n6, ⟨rfl, rfl, rfl, rfl, rfl, rfl, rfl, rfl, trivial⟩, h9, by omega, by first | assumption | simpa using f4⟩
  rintro fr7 H7 ⟨g7, l6, m0, ge7, d7⟩
  replace r := r.trans m0
  replace a4 := m0.2 _ _ a4
  replace a7 := m0.2 _ _ a7
  replace e7 := m0.2 _ _ e7
  have lt_at7 := GHeap.ltg d7
  replace h := o.mono r
  replace h' := l.mono r
  obtain ⟨c0, -, -, -, -, -, -, -, -⟩ := h.get
  refine t0 _ _ ?_
  refine .forget l6 ?_
  refine .seq (fun K3 t3 => .seq (fun K4 r6 => ?_))
  refine .regionD mo_B (.q 0 (.q 1 (.q 2 (.q 3 (.q 4 (.q 5 (.q 6 (.q 7 (.q 8 (.q 10 (.c 9 1 (.q 11 (.q 12 (.q 13 (.done))))))))))))))) (by kernel_rfl) ?_
  refine .q rfl (.load on_58_F rfl (by first | assumption | exact Mem.of_get a4 0 _ rfl)) ?_
  refine .q rfl (.nilCheck rfl) (.q rfl (.fieldAddr fo_27_0_B rfl) ?_)
  refine .q rfl (.load on_2_A rfl (by assumption)) ?_
  refine .mv rfl rfl ?_
  refine .q rfl (.mul rfl rfl rfl (by omega) (by omega)) ?_
  refine .q rfl (.cmp rfl rfl rfl) (.mv rfl rfl ?_)
  refine .split (fun m1 => ?_) (fun m1 => ?_)
  ·
   try simp only [sps] at m1
   refine .z rfl (.z rfl (.sgc rfl rfl rfl rfl rfl rfl (.z rfl (.z rfl (.q rfl (.pickT rfl rfl) ?_)))))
   refine .done ?_
   refine r6 _ _ ?_
   refine .condT rfl ?_
   refine .seq (fun K5 s3 => .region (.q rfl (.build bt_27_Hj rfl rfl rfl) ?_))
   refine .r0 rfl rfl (.fillA rfl sz_27_D rfl rfl rfl rfl) ?_
   rintro _ H3001 ⟨rfl, j3, j6⟩
   replace r := r.st j3 (fun k hk => ⟨by omega, trivial⟩)
   replace h := o.mono r
   replace h' := l.mono r
   clear c0
   refine .mv rfl (.nil (s3 _ _ ?_))
   refine .ret ?_
   refine j4 _ _ ?_
   refine ⟨_, _, _, _, _, rfl, ag_27_D, (by rfl), (Mem.of_get j6), rfl, ?_⟩
   have hn : ¬ c.PrF d := fun q => by have := q.1; omega
   rw [B_false hn, Cat.prR_no hn]
   exact ⟨r, .zero, rfl, .zero _ _⟩
  try simp only [sps] at m1
  refine .qg rfl (.load on_58_F rfl (by first | assumption | exact Mem.of_get a4 0 _ rfl)) ?_
  refine .qg rfl (.load on_2_A rfl (by first | assumption | exact Mem.of_get d7 0 _ rfl)) ?_
  refine .callQ1g rfl rfl rfl rfl rfl rfl rfl @Try.call67 rfl (arrows_c) (.refl _) ?_
  refine .qg rfl (.mul rfl rfl rfl (by omega) (by omega)) ?_
  refine .qg rfl (.cmp rfl rfl rfl) (.q rfl (.pickF rfl rfl) ?_)
  refine .done ?_
  refine r6 _ _ ?_
  refine .cond rfl (fun m5 => ?_) (fun m5 => ?_)
  ·
   try simp only [sps] at m5
   refine .seq (fun K6 s5 => .region (.q rfl (.build bt_27_Hj rfl rfl rfl) ?_))
   refine .r0 rfl rfl (.fillA rfl sz_27_D rfl rfl rfl rfl) ?_
   rintro _ H3001x2 ⟨rfl, h5, h4⟩
   replace r := r.st h5 (fun k hk => ⟨by omega, trivial⟩)
   replace h := o.mono r
   replace h' := l.mono r
   refine .mv rfl (.nil (s5 _ _ ?_))
   refine .ret ?_
   refine j4 _ _ ?_
   refine ⟨_, _, _, _, _, rfl, ag_27_D, (by rfl), (Mem.of_get h4), rfl, ?_⟩
   have hn : ¬ c.PrF d := fun q => by have := q.2; omega
   rw [B_false hn, Cat.prR_no hn]
   exact ⟨r, .zero, rfl, .zero _ _⟩
  try simp only [sps] at m5
  refine .skip ?_
  refine t3 _ _ (.seq (fun K7 s9 => .region ?_))
  refine .q rfl (.load on_58_F rfl (by first | assumption | exact Mem.of_get a4 0 _ rfl)) ?_
  refine .q rfl (.nilCheck rfl) (.q rfl (.fieldAddr fo_27_0_B rfl) ?_)
  refine .q rfl (.load on_2_A rfl (by assumption)) ?_
  refine .mv rfl ?_
  refine .q rfl (.mul rfl rfl rfl (by omega) (by omega)) ?_
  refine .q rfl (.build bt_27_Hj rfl rfl rfl) ?_
  refine .R rfl (.allocR rfl ze_27_Hj rfl) ?_
  rintro _ H8 ⟨g8, rfl, k1, ge8, at8⟩
  have nx_H8 := k1.1
  replace r := r.trans k1
  replace a4 := k1.2 _ _ a4
  replace a7 := k1.2 _ _ a7
  replace e7 := k1.2 _ _ e7
  replace d7 := k1.2 _ _ d7
  replace h := o.mono r
  replace h' := l.mono r
  refine .r0 rfl rfl (.fillA rfl sz_27_D rfl rfl rfl rfl) ?_
  rintro _ l0 ⟨rfl, b4, a8⟩
  have nx_H4008 := b4.nx
  replace r := r.st b4 (fun k hk => ⟨by omega, trivial⟩)
  have a5 : NE g2 g8 := .a
  replace a4 := b4.s a4 a5.ne
  have a6 : NE g3 g8 := .a
  replace a7 := b4.s a7 a6.ne
  have b0 : NE g4 g8 := .a
  replace e7 := b4.s e7 b0.ne
  have a9 : NE g7 g8 := .a
  replace d7 := b4.s d7 a9.ne
  have lt_at4008 := GHeap.ltg a8
  replace h := o.mono r
  replace h' := l.mono r
  obtain ⟨-, c1, -, -, -, -, -, -, -⟩ := h.get
  refine .nil (s9 _ _ (.seq (fun K8 s0 => .seq (fun K9 s7 => .region ?_))))
  refine .q rfl (.load on_58_F rfl (by first | assumption | exact Mem.of_get a4 0 _ rfl)) ?_
  refine .q rfl (.nilCheck rfl) (.q rfl (.fieldAddr fo_27_1_B rfl) ?_)
  refine .q rfl (.load on_24_B rfl (by assumption)) ?_
  refine .q rfl (.len sl_24_A rfl) (.mv rfl (.nil (s7 _ _ ?_)))
  refine .block ?_
  refine .hold (fun HhF lehF nxhF => ?_)
  obtain ⟨ghF, hghF⟩ : ∃ g, g = GHeap.next l0 := ⟨_, rfl⟩
  have j1 : NO HhF ghF [] 2 0 := NO.start (by omega) rfl rfl
  replace r := r.trans lehF
  replace a4 := lehF.2 _ _ a4
  replace a7 := lehF.2 _ _ a7
  replace e7 := lehF.2 _ _ e7
  replace d7 := lehF.2 _ _ d7
  replace a8 := lehF.2 _ _ a8
  replace h := o.mono r
  replace h' := l.mono r
  clear c1
  refine .hold (fun HhT lehT nxhT => ?_)
  obtain ⟨ghT, hghT⟩ : ∃ g, g = GHeap.next HhF := ⟨_, rfl⟩
  have no_hT : NO HhT ghT [] 2 0 := NO.start (by omega) rfl rfl
  replace r := r.trans lehT
  replace a4 := lehT.2 _ _ a4
  replace a7 := lehT.2 _ _ a7
  replace e7 := lehT.2 _ _ e7
  replace d7 := lehT.2 _ _ d7
  replace a8 := lehT.2 _ _ a8
  replace j1 := j1.le lehT
  replace h := o.mono r
  replace h' := l.mono r
  refine .loopR (σ := Nat × Nat × Nat) [(2, some _), (3, some _), (4, some _), (6, some _), (7, some _), (8, some _), (47, some _)] (fun (f, gLF, gLT) => [(48, some (.int .i64 (f : Int)))]) (fun (f, gLF, gLT) H' => St [ghF, ghT, g8] HhT H' ∧ NO H' gLF (ints (Cat.prL c.src d.src d.obj (d.src.length * f))) 2 ((d.src.length * f)) ∧ PL gLF ghF HhT.next ∧ NO H' gLT (ints (Cat.prL c.tgt d.tgt d.obj (d.src.length * f))) 2 ((d.src.length * f)) ∧ PL gLT ghT HhT.next ∧ H'.get g8 = some (.row ([.int .i64 (c.obj * d.obj), .slice (nz (d.src.length * f) gLF) (d.src.length * f) (d.src.length * f), .slice (nz (d.src.length * f) gLT) (d.src.length * f) (d.src.length * f), .slice none 0 0, .slice none 0 0]) 27 true) ∧ gLF ≠ gLT ∧ gLF ≠ g8 ∧ gLT ≠ g8 ∧ f ≤ c.src.length) (fun (f, gLF, gLT) => c.src.length - f) ((0, ghF, ghT)) ⟨rfl, rfl, rfl, rfl, rfl, rfl, rfl, trivial⟩ ⟨rfl, trivial⟩ ?_ ?_
  ·
   refine ⟨.refl _ _, by first | assumption | exact NO.start (by omega) (by first | rfl | (simp; done) | omega) (by first | rfl | (simp; done)), ⟨.inl rfl⟩, by first | assumption | exact NO.start (by omega) (by first | rfl | (simp; done) | omega) (by first | rfl | (simp; done)), ⟨.inl rfl⟩, by first | assumption | exact a8 | simpa using a8, by omega, by omega, by omega, ?_⟩
   omega
  rintro ⟨f, gLF, gLT⟩ HL1 ⟨e9, a2, d0, a1, d8, t, k9, g6, h7, hI⟩ KL1 n9
  refine .forget (fr' := [(48, some (.int .i64 (f : Int))), (2, some _), (3, some _), (4, some _), (6, some _), (7, some _), (8, some _), (47, some _)]) ⟨rfl, rfl, rfl, rfl, rfl, rfl, rfl, rfl, trivial⟩ ?_
  have l7 : H.next ≤ gLF := d0.ge (by omega) (by omega)
  have k5 : H.next ≤ gLT := d8.ge (by omega) (by omega)
  have nx_HL1 := e9.nx
  replace r := r.st e9 (fun k hk => ⟨by omega, by omega, by omega, trivial⟩)
  have e3 : NE g2 ghF := .a
  have d2 : NE g2 ghT := .a
  replace a4 := e9.same _ _ ⟨e3.ne, d2.ne, a5.ne, trivial⟩ a4
  have e4 : NE g3 ghF := .a
  have d9 : NE g3 ghT := .a
  replace a7 := e9.same _ _ ⟨e4.ne, d9.ne, a6.ne, trivial⟩ a7
  have e1 : NE g4 ghF := .a
  have e0 : NE g4 ghT := .a
  replace e7 := e9.same _ _ ⟨e1.ne, e0.ne, b0.ne, trivial⟩ e7
  replace d7 := e9.same _ _ ⟨(by first | assumption | omega), (by first | assumption | omega), a9.ne, trivial⟩ d7
  have lt_no_LF := a2.lt
  have lt_no_LT := a1.lt
  have d3 := GHeap.ltg t
  replace h := o.mono r
  replace h' := l.mono r
  obtain ⟨-, -, -, c3, -, -, -, -, -⟩ := h.get
  obtain ⟨-, j0, -, -, -, -, -, -, -⟩ := h'.get
  refine .seq (fun K10 n2 => .region (.q rfl (.cmp rfl rfl rfl) (.nil (n2 _ _ (.seq (fun K11 o8 => ?_))))))
  refine .cond rfl (fun q9 => ?_) (fun q9 => ?_)
  ·
   simp only [sps] at q9
   have s1 := sc.src f (by omega)
   have t1 := sc.tgt f (by omega)
   have hw := mul_leN (m := d.src.length) (g := d.src.length) (show f < c.src.length by omega) (Nat.le_refl _)
   refine .skip ?_
   refine o8 _ _ (.seq (fun K12 o5 => ?_))
   refine .block ?_
   refine .seq (fun K13 p0 => .region (.mv rfl (.mv rfl (.nil (p0 _ _ (.seq (fun K14 p6 => .region ?_)))))))
   refine .q rfl (.load on_58_F rfl (by first | assumption | exact Mem.of_get a7 0 _ rfl)) ?_
   refine .q rfl (.nilCheck rfl) (.q rfl (.fieldAddr fo_27_1_B rfl) ?_)
   refine .q rfl (.load on_24_B rfl (by assumption)) ?_
   refine .q rfl (.len sl_24_A rfl) (.mv rfl (.nil (p6 _ _ ?_)))
   refine .block ?_
   refine .loopR (σ := Nat × Nat × Nat) [(2, some _), (3, some _), (4, some _), (6, some _), (7, some _), (8, some _), (9, some _), (47, some _), (48, some _), (55, some _)] (fun (g, c7, c8) => [(56, some (.int .i64 (g : Int)))]) (fun (g, c7, c8) H' => St [gLF, gLT, g8] HL1 H' ∧ NO H' c7 (ints (Cat.prL c.src d.src d.obj (d.src.length * f + g))) 2 ((d.src.length * f + g)) ∧ PL c7 gLF HL1.next ∧ NO H' c8 (ints (Cat.prL c.tgt d.tgt d.obj (d.src.length * f + g))) 2 ((d.src.length * f + g)) ∧ PL c8 gLT HL1.next ∧ H'.get g8 = some (.row ([.int .i64 (c.obj * d.obj), .slice (nz (d.src.length * f + g) c7) (d.src.length * f + g) (d.src.length * f + g), .slice (nz (d.src.length * f + g) c8) (d.src.length * f + g) (d.src.length * f + g), .slice none 0 0, .slice none 0 0]) 27 true) ∧ c7 ≠ c8 ∧ c7 ≠ g8 ∧ c8 ≠ g8 ∧ g ≤ d.src.length) (fun (g, c7, c8) => d.src.length - g) ((0, gLF, gLT)) ⟨rfl, rfl, rfl, rfl, rfl, rfl, rfl, rfl, rfl, rfl, trivial⟩ ⟨rfl, trivial⟩ ?_ ?_
   ·
    refine ⟨.refl _ _, by first | assumption | exact NO.start (by omega) (by first | rfl | (simp; done) | omega) (by first | rfl | (simp; done)), ⟨.inl rfl⟩, by first | assumption | exact NO.start (by omega) (by first | rfl | (simp; done) | omega) (by first | rfl | (simp; done)), ⟨.inl rfl⟩, by first | assumption | exact t | simpa using t, by omega, by omega, by omega, ?_⟩
    omega
   rintro ⟨g, c7, c8⟩ HL2 ⟨a3, f6, e5, u, h2, t, k4, l5, i9, hI⟩ KL2 o4
   refine .forget (fr' := [(56, some (.int .i64 (g : Int))), (2, some _), (3, some _), (4, some _), (6, some _), (7, some _), (8, some _), (9, some _), (47, some _), (48, some _), (55, some _)]) ⟨rfl, rfl, rfl, rfl, rfl, rfl, rfl, rfl, rfl, rfl, rfl, trivial⟩ ?_
   have ge_LF2 : H.next ≤ c7 := e5.ge (by omega) (by omega)
   have ge_LT2 : H.next ≤ c8 := h2.ge (by omega) (by omega)
   have nx_HL2 := a3.nx
   replace r := r.st a3 (fun k hk => ⟨by omega, by omega, by omega, trivial⟩)
   replace e9 := e9.st a3 (fun k hk ho => by simp only [out, and_true] at ho ⊢ <;> exact ⟨by first | exact ho | exact ho.1 | exact ho.2 | exact ho.2.1 | exact ho.2.2 | exact ho.2.2.1 | exact ho.2.2.2 | exact d0.ne (by first | exact ho | exact ho.1 | exact ho.2 | exact ho.2.1 | exact ho.2.2 | exact ho.2.2.1 | exact ho.2.2.2 | omega) (by omega) | omega, by first | exact ho | exact ho.1 | exact ho.2 | exact ho.2.1 | exact ho.2.2 | exact ho.2.2.1 | exact ho.2.2.2 | exact d8.ne (by first | exact ho | exact ho.1 | exact ho.2 | exact ho.2.1 | exact ho.2.2 | exact ho.2.2.1 | exact ho.2.2.2 | omega) (by omega) | omega, by first | exact ho | exact ho.1 | exact ho.2 | exact ho.2.1 | exact ho.2.2 | exact ho.2.2.1 | exact ho.2.2.2 | omega⟩)
   have d5 : NE g2 gLF := ⟨d0.ne e3.ne (by omega)⟩
   replace a4 := a3.same _ _ ⟨d5.ne, (d8.ne d2.ne (by omega)), a5.ne, trivial⟩ a4
   have c9 : NE g3 gLF := ⟨d0.ne e4.ne (by omega)⟩
   replace a7 := a3.same _ _ ⟨c9.ne, (d8.ne d9.ne (by omega)), a6.ne, trivial⟩ a7
   have lt_no_LT2 := u.lt
   have d3 := GHeap.ltg t
   replace h := o.mono r
   replace h' := l.mono r
   clear c3 j0
   obtain ⟨-, c1, -, -, -, i1, -, -, -⟩ := h.get
   obtain ⟨-, j0, -, -, -, k0, -, -, -⟩ := h'.get
   have l1 := Cat.prL_len c.src d.src d.obj (d.src.length * f + g)
   have l2 := Cat.prL_len c.tgt d.tgt d.obj (d.src.length * f + g)
   have hn40 : d.src.length * f + g ≤ 1600 := by omega
   refine .seq (fun K15 m8 => .region (.q rfl (.cmp rfl rfl rfl) (.nil (m8 _ _ (.seq (fun K16 p8 => ?_))))))
   refine .cond rfl (fun p7 => ?_) (fun p7 => ?_)
   ·
    simp only [sps] at p7
    have s2 := sd.src g (by omega)
    have t2 := sd.tgt g (by omega)
    have b1 := mulE_bd (x := c.src.getD f 0) (y := d.obj) (A := 8) (B := 8) s1.1 (by omega) q7.1 q7.2
    have b2 := mulE_bd (x := c.tgt.getD f 0) (y := d.obj) (A := 8) (B := 8) t1.1 (by omega) q7.1 q7.2
    have eS := Cat.prL_step (xs := c.src) (ys := d.src) (k := d.obj) (f := f) (g := g) (by omega)
    have eT := Cat.prL_step (xs := c.tgt) (ys := d.tgt) (k := d.obj) (f := f) (g := g) (by omega)
    rw [q5] at eT
    refine .skip ?_
    refine p8 _ _ (.seq (fun K17 p2 => ?_))
    refine .block ?_
    refine .seq (fun K18 r5 => .region (.mv rfl (.mv rfl (.nil (r5 _ _ (.seq (fun K19 q0 => ?_)))))))
    refine .regionD mo_B (.q 0 (.q 1 (.q 2 (.q 3 (.q 4 (.q 5 (.q 6 (.q 7 (.q 8 (.q 9 (.q 10 (.q 11 (.q 12 (.q 13 (.q 14 (.q 15 (.q 16 (.q 17 (.q 18 (.c 19 1 (.c 20 0 (.q 21 (.c 22 0 (.done)))))))))))))))))))))))) (by kernel_rfl) ?_
    refine .q rfl (.fieldAddr fo_27_1_B rfl) ?_
    refine .q rfl (.load on_24_B rfl (by first | assumption | exact Mem.of_get t 1 _ rfl)) ?_
    refine .q rfl (.load on_58_F rfl (by first | assumption | exact Mem.of_get a4 0 _ rfl)) ?_
    refine .q rfl (.nilCheck rfl) (.q rfl (.fieldAddr fo_27_1_B rfl) ?_)
    refine .q rfl (.load on_24_B rfl (by assumption)) ?_
    refine .mv rfl rfl ?_
    refine .q rfl (.idxN sl_24_A (by assumption) rfl rfl (by omega)) ?_
    refine .q rfl (.loadI on_2_A (by assumption) rfl (by omega)) ?_
    refine .mv rfl rfl ?_
    refine .q rfl (.mul rfl rfl rfl (by omega) (by omega)) ?_
    refine .q rfl (.load on_58_F rfl (by first | assumption | exact Mem.of_get a7 0 _ rfl)) ?_
    refine .q rfl (.nilCheck rfl) (.q rfl (.fieldAddr fo_27_1_B rfl) ?_)
    refine .q rfl (.load on_24_B rfl (by assumption)) ?_
    refine .mv rfl rfl ?_
    refine .q rfl (.idxN sl_24_A (by assumption) rfl rfl (by omega)) ?_
    refine .q rfl (.loadI on_2_A (by assumption) rfl (by omega)) ?_
    refine .q rfl (.add rfl rfl rfl (by omega) (by omega)) ?_
    refine .c1 rfl rfl rfl rfl (.litA rfl sl_24_A ze_2_Pa rfl rfl rfl rfl) ?_
    rintro _ H78 ⟨g78, rfl, f3, ge78, o3⟩
    have f5 := f3
    refine ⟨f5, ?_⟩
    replace r := r.trans f3
    replace a3 := a3.le f3
    replace a4 := f3.2 _ _ a4
    replace a7 := f3.2 _ _ a7
    replace f6 := f6.le f3
    replace u := u.le f3
    replace t := f3.2 _ _ t
    have lt_at78 := GHeap.ltg o3
    replace h := o.mono r
    replace h' := l.mono r
    clear c1 i1 j0 k0
    refine .c0 rfl rfl rfl rfl (.appendNOI rfl sl_24_A ze_2_Pa rfl by_2_Pa sl_24_A rfl rfl f6 (by assumption) (by first | omega | (simp <;> omega)) (by omega) (by omega)) ?_
    rintro _ H79 ⟨r8, rfl, g5, ge79, e8⟩
    replace r := r.st g5 (fun k hk => ⟨by omega, trivial⟩)
    replace a3 := a3.sQ g5
    replace a4 := g5.same _ _ ⟨(e5.ne d5.ne (by omega)), trivial⟩ a4
    replace a7 := g5.same _ _ ⟨(e5.ne c9.ne (by omega)), trivial⟩ a7
    replace u := u.st g5 ⟨(Ne.symm k4), trivial⟩
    replace t := g5.same _ _ ⟨(Ne.symm l5), trivial⟩ t
    have lt_at79 := GHeap.ltg e8
    replace h := o.mono r
    replace h' := l.mono r
    clear c0
    refine .q rfl (.fieldAddr fo_27_1_B rfl) ?_
    refine .r0 rfl rfl rfl (.storeR rfl sz_24_Tb rfl rfl rfl (by assumption) (by first | exact Nat.le_of_ble_eq_true rfl | (simp; done) | (simp <;> omega))) ?_
    rintro _ H11022 ⟨rfl, a0, w⟩
    have nx_H11022 := a0.nx
    replace r := r.st a0 (fun k hk => ⟨by omega, trivial⟩)
    replace a3 := a3.sA a0
    replace a4 := a0.s a4 a5.ne
    replace a7 := a0.s a7 a6.ne
    replace u := u.st a0 ⟨i9, trivial⟩
    have d1 : NE r8 g8 := .a
    replace e8 := a0.s e8 d1.ne
    have lt_at11022 := GHeap.ltg w
    replace h := o.mono r
    replace h' := l.mono r
    obtain ⟨c0, c1, c2, c3, c4, i1, i2, i3, i4⟩ := h.get
    have hm : MemN _ _ _ _ _ := ⟨rfl, h.1⟩
    have hi := h.2
    obtain ⟨m6, j0, m7, j8, m3, k0, m4, j9, m2⟩ := h'.get
    have hmb : MemN _ _ _ _ _ := ⟨rfl, h'.1⟩
    have hib := h'.2
    try simp only [Nat.zero_add, List.set_cons_succ, List.set_cons_zero] at w
    refine .done ?_
    refine q0 _ _ ?_
    refine .regionD mo_B (.q 0 (.q 1 (.q 2 (.q 3 (.q 4 (.q 5 (.q 6 (.q 7 (.q 8 (.q 9 (.q 10 (.q 11 (.q 12 (.q 13 (.q 14 (.q 15 (.q 16 (.q 17 (.q 18 (.c 19 1 (.c 20 0 (.q 21 (.c 22 0 (.done)))))))))))))))))))))))) (by kernel_rfl) ?_
    refine .q rfl (.fieldAddr fo_27_2_B rfl) ?_
    refine .q rfl (.load on_24_B rfl (by first | assumption | exact Mem.of_get w 2 _ rfl)) ?_
    refine .q rfl (.load on_58_F rfl (by first | assumption | exact Mem.of_get a4 0 _ rfl)) ?_
    refine .q rfl (.nilCheck rfl) (.q rfl (.fieldAddr fo_27_2_B rfl) ?_)
    refine .q rfl (.load on_24_B rfl (by assumption)) ?_
    refine .mv rfl rfl ?_
    refine .q rfl (.idxN sl_24_A (by assumption) rfl rfl (by omega)) ?_
    refine .q rfl (.loadI on_2_A (by assumption) rfl (by omega)) ?_
    refine .mv rfl rfl ?_
    refine .q rfl (.mul rfl rfl rfl (by omega) (by omega)) ?_
    refine .q rfl (.load on_58_F rfl (by first | assumption | exact Mem.of_get a7 0 _ rfl)) ?_
    refine .q rfl (.nilCheck rfl) (.q rfl (.fieldAddr fo_27_2_B rfl) ?_)
    refine .q rfl (.load on_24_B rfl (by assumption)) ?_
    refine .mv rfl rfl ?_
    refine .q rfl (.idxN sl_24_A (by assumption) rfl rfl (by omega)) ?_
    refine .q rfl (.loadI on_2_A (by assumption) rfl (by omega)) ?_
    refine .q rfl (.add rfl rfl rfl (by omega) (by omega)) ?_
    refine .c1 rfl rfl rfl rfl (.litA rfl sl_24_A ze_2_Pa rfl rfl rfl rfl) ?_
    rintro _ H100 ⟨g100, rfl, d6, ge100, k2⟩
    have f5 := d6
    refine ⟨f5, ?_⟩
    replace r := r.trans d6
    replace a3 := a3.le d6
    replace u := u.le d6
    replace e8 := d6.2 _ _ e8
    replace w := d6.2 _ _ w
    have lt_at100 := GHeap.ltg k2
    replace h := o.mono r
    replace h' := l.mono r
    clear c0 c1 c2 c3 c4 i1 i2 i3 i4 hm hi m6 j0 m7 j8 m3 k0 m4 j9 m2 hmb hib
    refine .c0 rfl rfl rfl rfl (.appendNOI rfl sl_24_A ze_2_Pa rfl by_2_Pa sl_24_A rfl rfl u (by assumption) (by first | omega | (simp <;> omega)) (by omega) (by omega)) ?_
    rintro _ H101 ⟨o6, rfl, f9, ge101, i8⟩
    replace r := r.st f9 (fun k hk => ⟨by omega, trivial⟩)
    replace a3 := a3.sQ f9
    replace e8 := f9.s e8
    replace w := f9.same _ _ ⟨(Ne.symm i9), trivial⟩ w
    replace h := o.mono r
    replace h' := l.mono r
    clear c0
    refine .q rfl (.fieldAddr fo_27_2_B rfl) ?_
    refine .r0 rfl rfl rfl (.storeR rfl sz_24_Tb rfl rfl rfl (by assumption) (by first | exact Nat.le_of_ble_eq_true rfl | (simp; done) | (simp <;> omega))) ?_
    rintro _ H12022 ⟨rfl, b5, i6⟩
    replace r := r.st b5 (fun k hk => ⟨by omega, trivial⟩)
    replace a3 := a3.sA b5
    replace e8 := b5.s e8 d1.ne
    replace i8 := b5.s i8
    replace h := o.mono r
    replace h' := l.mono r
    try simp only [Nat.zero_add, List.set_cons_succ, List.set_cons_zero] at i6
    refine .done ?_
    refine p2 _ _ (.region ?_)
    refine .q rfl (.add rfl rfl rfl (by omega) (by omega)) ?_
    refine .mv rfl (.nil ?_)
    refine o4 ((g + 1, r8, o6)) _ _ ?_ ?_ ⟨rfl, rfl, rfl, rfl, rfl, rfl, rfl, rfl, rfl, rfl, rfl, trivial⟩
    ·
     refine ⟨a3, by first | (first | assumption | (rw [eS]; assumption) | (rw [eT]; assumption)) | exact NO.of (by first | assumption | (rw [eS]; assumption) | (rw [eT]; assumption)) (by omega), by first | assumption | exact ⟨.inr (by omega)⟩ | exact ⟨.inl rfl⟩, by first | (first | assumption | (rw [eS]; assumption) | (rw [eT]; assumption)) | exact NO.of (by first | assumption | (rw [eS]; assumption) | (rw [eT]; assumption)) (by omega), by first | assumption | exact ⟨.inr (by omega)⟩ | exact ⟨.inl rfl⟩, by first | assumption | (rw [eS]; assumption) | (rw [eT]; assumption), by first | assumption | omega, by first | assumption | omega, by first | assumption | omega, ?_⟩
     omega
    (dsimp only; omega)
   try simp only [sps] at p7
   refine .exit ?_
   refine o5 _ _ (.region ?_)
   refine .q rfl (.add rfl rfl rfl (by omega) (by omega)) ?_
   refine .mv rfl (.nil ?_)
   obtain rfl : g = d.src.length := by omega
   refine n9 ((f + 1, c7, c8)) _ _ ?_ ?_ ⟨rfl, rfl, rfl, rfl, rfl, rfl, rfl, rfl, trivial⟩
   ·
    refine ⟨e9, by first | (first | assumption | (rw [hmf]; assumption)) | exact NO.of (by first | assumption | (rw [hmf]; assumption)) (by omega), by first | assumption | exact e5.trans d0 (by omega) | exact ⟨.inr (by omega)⟩ | exact ⟨.inl rfl⟩, by first | (first | assumption | (rw [hmf]; assumption)) | exact NO.of (by first | assumption | (rw [hmf]; assumption)) (by omega), by first | assumption | exact h2.trans d8 (by omega) | exact ⟨.inr (by omega)⟩ | exact ⟨.inl rfl⟩, by first | assumption | (rw [hmf]; assumption), by first | assumption | omega, by first | assumption | omega, by first | assumption | omega, ?_⟩
    omega
   (dsimp only; omega)
  try simp only [sps] at q9
  refine .exit ?_
  refine s0 _ _ (.seq (fun K20 p3 => .seq (fun K21 m9 => .region ?_)))
  refine .q rfl (.load on_58_F rfl (by first | assumption | exact Mem.of_get a4 0 _ rfl)) ?_
  refine .q rfl (.nilCheck rfl) (.q rfl (.fieldAddr fo_27_3_B rfl) ?_)
  refine .q rfl (.load on_24_B rfl (by assumption)) ?_
  refine .q rfl (.len sl_24_A rfl) (.mv rfl (.nil (m9 _ _ ?_)))
  refine .block ?_
  refine .hold (fun HhI lehI nxhI => ?_)
  obtain ⟨ghI, hghI⟩ : ∃ g, g = GHeap.next HL1 := ⟨_, rfl⟩
  have no_hI : NO HhI ghI [] 2 0 := NO.start (by omega) rfl rfl
  replace r := r.trans lehI
  replace a4 := lehI.2 _ _ a4
  replace a7 := lehI.2 _ _ a7
  replace e7 := lehI.2 _ _ e7
  replace d7 := lehI.2 _ _ d7
  replace a2 := a2.le lehI
  replace a1 := a1.le lehI
  replace t := lehI.2 _ _ t
  replace h := o.mono r
  replace h' := l.mono r
  refine .loopR (σ := Nat × Nat) [(2, some _), (3, some _), (4, some _), (7, some _), (8, some _), (108, some _), (109, some _)] (fun (x, gLI) => [(110, some (.int .i64 (x : Int)))]) (fun (x, gLI) H' => St [ghI, g8] HhI H' ∧ NO H' gLI (ints (Cat.prL c.idn d.idn d.src.length (d.idn.length * x))) 2 ((d.idn.length * x)) ∧ PL gLI ghI HhI.next ∧ H'.get g8 = some (.row ([.int .i64 (c.obj * d.obj), .slice (nz (d.src.length * f) gLF) (d.src.length * f) (d.src.length * f), .slice (nz (d.src.length * f) gLT) (d.src.length * f) (d.src.length * f), .slice (nz (d.idn.length * x) gLI) (d.idn.length * x) (d.idn.length * x), .slice none 0 0]) 27 true) ∧ gLI ≠ g8 ∧ x ≤ c.idn.length) (fun (x, gLI) => c.idn.length - x) ((0, ghI)) ⟨rfl, rfl, rfl, rfl, rfl, rfl, rfl, trivial⟩ ⟨rfl, trivial⟩ ?_ ?_
  ·
   refine ⟨.refl _ _, by first | assumption | exact NO.start (by omega) (by first | rfl | (simp; done) | omega) (by first | rfl | (simp; done)), ⟨.inl rfl⟩, by first | assumption | exact t | simpa using t, by omega, ?_⟩
   omega
  rintro ⟨x, gLI⟩ HL3 ⟨b9, b6, b8, t, l4, hI⟩ KL3 n4
  refine .forget (fr' := [(110, some (.int .i64 (x : Int))), (2, some _), (3, some _), (4, some _), (7, some _), (8, some _), (108, some _), (109, some _)]) ⟨rfl, rfl, rfl, rfl, rfl, rfl, rfl, rfl, trivial⟩ ?_
  have l8 : H.next ≤ gLI := b8.ge (by omega) (by omega)
  have nx_HL3 := b9.nx
  replace r := r.st b9 (fun k hk => ⟨by omega, by omega, trivial⟩)
  replace a4 := b9.same _ _ ⟨(by first | assumption | omega), a5.ne, trivial⟩ a4
  replace a7 := b9.same _ _ ⟨(by first | assumption | omega), a6.ne, trivial⟩ a7
  have e2 : NE g4 ghI := .a
  replace e7 := b9.same _ _ ⟨e2.ne, b0.ne, trivial⟩ e7
  have d4 : NE g7 ghI := .a
  replace d7 := b9.same _ _ ⟨d4.ne, a9.ne, trivial⟩ d7
  have c6 : NE gLF ghI := .a
  replace a2 := a2.st b9 ⟨c6.ne, g6, trivial⟩
  have b7 : NE gLT ghI := .a
  replace a1 := a1.st b9 ⟨b7.ne, h7, trivial⟩
  have lt_no_LI := b6.lt
  replace h := o.mono r
  replace h' := l.mono r
  obtain ⟨-, -, -, -, -, -, -, i3, -⟩ := h.get
  obtain ⟨-, -, -, j8, -, -, -, -, -⟩ := h'.get
  refine .seq (fun K22 n8 => .region (.q rfl (.cmp rfl rfl rfl) (.nil (n8 _ _ (.seq (fun K23 n5 => ?_))))))
  refine .cond rfl (fun j5 => ?_) (fun j5 => ?_)
  ·
   simp only [sps] at j5
   have s1 := sc.idn x (by omega)
   have hw := mul_leN (m := d.idn.length) (g := d.idn.length) (show x < c.idn.length by omega) (Nat.le_refl _)
   refine .skip ?_
   refine n5 _ _ (.seq (fun K24 n3 => ?_))
   refine .block ?_
   refine .seq (fun K25 n0 => .region ?_)
   refine .q rfl (.idxN sl_24_A (by assumption) rfl rfl (by omega)) ?_
   refine .q rfl (.loadI on_2_A (by assumption) rfl (by omega)) ?_
   refine .mv rfl (.nil (n0 _ _ (.seq (fun K26 r4 => .region ?_))))
   refine .q rfl (.load on_58_F rfl (by first | assumption | exact Mem.of_get a7 0 _ rfl)) ?_
   refine .q rfl (.nilCheck rfl) (.q rfl (.fieldAddr fo_27_3_B rfl) ?_)
   refine .q rfl (.load on_24_B rfl (by assumption)) ?_
   refine .q rfl (.len sl_24_A rfl) (.mv rfl (.nil (r4 _ _ ?_)))
   refine .block ?_
   refine .loopR (σ := Nat × Nat) [(2, some _), (3, some _), (4, some _), (7, some _), (8, some _), (12, some _), (108, some _), (109, some _), (110, some _), (117, some _), (118, some _)] (fun (y, f0) => [(119, some (.int .i64 (y : Int)))]) (fun (y, f0) H' => St [gLI, g8] HL3 H' ∧ NO H' f0 (ints (Cat.prL c.idn d.idn d.src.length (d.idn.length * x + y))) 2 ((d.idn.length * x + y)) ∧ PL f0 gLI HL3.next ∧ H'.get g8 = some (.row ([.int .i64 (c.obj * d.obj), .slice (nz (d.src.length * f) gLF) (d.src.length * f) (d.src.length * f), .slice (nz (d.src.length * f) gLT) (d.src.length * f) (d.src.length * f), .slice (nz (d.idn.length * x + y) f0) (d.idn.length * x + y) (d.idn.length * x + y), .slice none 0 0]) 27 true) ∧ f0 ≠ g8 ∧ y ≤ d.idn.length) (fun (y, f0) => d.idn.length - y) ((0, gLI)) ⟨rfl, rfl, rfl, rfl, rfl, rfl, rfl, rfl, rfl, rfl, rfl, trivial⟩ ⟨rfl, trivial⟩ ?_ ?_
   ·
    refine ⟨.refl _ _, by first | assumption | exact NO.start (by omega) (by first | rfl | (simp; done) | omega) (by first | rfl | (simp; done)), ⟨.inl rfl⟩, by first | assumption | exact t | simpa using t, by omega, ?_⟩
    omega
   rintro ⟨y, f0⟩ HL4 ⟨c5, f7, h6, t, k7, hI⟩ KL4 r3
   refine .forget (fr' := [(119, some (.int .i64 (y : Int))), (2, some _), (3, some _), (4, some _), (7, some _), (8, some _), (12, some _), (108, some _), (109, some _), (110, some _), (117, some _), (118, some _)]) ⟨rfl, rfl, rfl, rfl, rfl, rfl, rfl, rfl, rfl, rfl, rfl, rfl, trivial⟩ ?_
   have ge_LI2 : H.next ≤ f0 := h6.ge (by omega) (by omega)
   have nx_HL4 := c5.nx
   replace r := r.st c5 (fun k hk => ⟨by omega, by omega, trivial⟩)
   replace b9 := b9.st c5 (fun k hk ho => by simp only [out, and_true] at ho ⊢ <;> exact ⟨by first | exact ho | exact ho.1 | exact ho.2 | exact ho.2.1 | exact ho.2.2 | exact ho.2.2.1 | exact ho.2.2.2 | exact b8.ne (by first | exact ho | exact ho.1 | exact ho.2 | exact ho.2.1 | exact ho.2.2 | exact ho.2.2.1 | exact ho.2.2.2 | omega) (by omega) | omega, by first | exact ho | exact ho.1 | exact ho.2 | exact ho.2.1 | exact ho.2.2 | exact ho.2.2.1 | exact ho.2.2.2 | omega⟩)
   replace d7 := c5.same _ _ ⟨(b8.ne d4.ne (by omega)), a9.ne, trivial⟩ d7
   have d3 := GHeap.ltg t
   replace h := o.mono r
   replace h' := l.mono r
   clear i3 j8
   obtain ⟨-, -, -, -, -, -, -, j9, -⟩ := h'.get
   have l3 := Cat.prL_len c.idn d.idn d.src.length (d.idn.length * x + y)
   have hk64 : d.idn.length * x + y ≤ 64 := by omega
   refine .seq (fun K27 o2 => .region (.q rfl (.cmp rfl rfl rfl) (.nil (o2 _ _ (.seq (fun K28 n7 => ?_))))))
   refine .cond rfl (fun j7 => ?_) (fun j7 => ?_)
   ·
    simp only [sps] at j7
    have s2 := sd.idn y (by omega)
    have b1 := mulE_bd (x := c.idn.getD x 0) (y := (d.src.length : Int)) (A := 40) (B := 40) s1.1 (by omega) (by omega) (by omega)
    have eI := Cat.prL_step (xs := c.idn) (ys := d.idn) (k := (d.src.length : Int)) (f := x) (g := y) (by omega)
    refine .skip ?_
    refine n7 _ _ (.seq (fun K29 n1 => ?_))
    refine .block ?_
    refine .seq (fun K30 p5 => .region ?_)
    refine .q rfl (.idxN sl_24_A (by assumption) rfl rfl (by omega)) ?_
    refine .q rfl (.loadI on_2_A (by assumption) rfl (by omega)) ?_
    refine .mv rfl (.nil (p5 _ _ (.region (.q rfl (.fieldAddr fo_27_3_B rfl) ?_))))
    refine .q rfl (.load on_24_B rfl (by first | assumption | exact Mem.of_get t 3 _ rfl)) ?_
    refine .mv rfl ?_
    refine .q rfl (.load on_2_A rfl (by first | assumption | exact Mem.of_get d7 0 _ rfl)) ?_
    refine .q rfl (.mul rfl rfl rfl (by omega) (by omega)) ?_
    refine .mv rfl ?_
    refine .q rfl (.add rfl rfl rfl (by omega) (by omega)) ?_
    refine .R rfl (.litA rfl sl_24_A ze_2_Pa rfl rfl rfl rfl) ?_
    rintro _ H130 ⟨g130, rfl, f8, ge130, k3⟩
    replace r := r.trans f8
    replace c5 := c5.le f8
    replace f7 := f7.le f8
    replace t := f8.2 _ _ t
    have lt_at130 := GHeap.ltg k3
    replace h := o.mono r
    replace h' := l.mono r
    clear j9
    refine .R rfl (.appendNOI rfl sl_24_A ze_2_Pa rfl by_2_Pa sl_24_A rfl rfl f7 (by assumption) (by first | omega | (simp <;> omega)) (by omega) (by omega)) ?_
    rintro _ H131 ⟨p1, rfl, g9, ge131, i7⟩
    replace r := r.st g9 (fun k hk => ⟨by omega, trivial⟩)
    replace c5 := c5.sQ g9
    replace t := g9.same _ _ ⟨(Ne.symm k7), trivial⟩ t
    replace h := o.mono r
    replace h' := l.mono r
    refine .q rfl (.fieldAddr fo_27_3_B rfl) ?_
    refine .r0 rfl rfl (.storeR rfl sz_24_Tb rfl rfl rfl (by assumption) (by first | exact Nat.le_of_ble_eq_true rfl | (simp; done) | (simp <;> omega))) ?_
    rintro _ H21010 ⟨rfl, e6, i5⟩
    replace r := r.st e6 (fun k hk => ⟨by omega, trivial⟩)
    replace c5 := c5.sA e6
    replace i7 := e6.s i7
    replace h := o.mono r
    replace h' := l.mono r
    obtain ⟨c0, c1, c2, c3, c4, i1, i2, i3, i4⟩ := h.get
    have hm : MemN _ _ _ _ _ := ⟨rfl, h.1⟩
    have hi := h.2
    obtain ⟨m6, j0, m7, j8, m3, k0, m4, j9, m2⟩ := h'.get
    have hmb : MemN _ _ _ _ _ := ⟨rfl, h'.1⟩
    have hib := h'.2
    try simp only [Nat.zero_add, List.set_cons_succ, List.set_cons_zero] at i5
    refine .nil (n1 _ _ (.region ?_))
    refine .q rfl (.add rfl rfl rfl (by omega) (by omega)) ?_
    refine .mv rfl (.nil ?_)
    refine r3 ((y + 1, p1)) _ _ ?_ ?_ ⟨rfl, rfl, rfl, rfl, rfl, rfl, rfl, rfl, rfl, rfl, rfl, rfl, trivial⟩
    ·
     refine ⟨c5, by first | (first | assumption | (rw [eI]; assumption)) | exact NO.of (by first | assumption | (rw [eI]; assumption)) (by omega), by first | assumption | exact ⟨.inr (by omega)⟩ | exact ⟨.inl rfl⟩, by first | assumption | (rw [eI]; assumption), by first | assumption | omega, ?_⟩
     omega
    (dsimp only; omega)
   try simp only [sps] at j7
   refine .exit ?_
   refine n3 _ _ (.region ?_)
   refine .q rfl (.add rfl rfl rfl (by omega) (by omega)) ?_
   refine .mv rfl (.nil ?_)
   obtain rfl : y = d.idn.length := by omega
   refine n4 ((x + 1, f0)) _ _ ?_ ?_ ⟨rfl, rfl, rfl, rfl, rfl, rfl, rfl, rfl, trivial⟩
   ·
    refine ⟨b9, by first | (first | assumption | (rw [hmf]; assumption)) | exact NO.of (by first | assumption | (rw [hmf]; assumption)) (by omega), by first | assumption | exact h6.trans b8 (by omega) | exact ⟨.inr (by omega)⟩ | exact ⟨.inl rfl⟩, by first | assumption | (rw [hmf]; assumption), by first | assumption | omega, ?_⟩
    omega
   (dsimp only; omega)
  try simp only [sps] at j5
  refine .exit ?_
  refine p3 _ _ (.seq (fun K31 o7 => .region ?_))
  obtain rfl : f = c.src.length := by omega
  obtain rfl : x = c.idn.length := by omega
  have r9 : d.src.length * c.src.length = c.src.length * d.src.length := Nat.mul_comm _ _
  have s4 : d.idn.length * c.idn.length = c.idn.length * d.idn.length := Nat.mul_comm _ _
  rw [r9] at a2 a1 t
  rw [s4] at b6 t
  have hfit : c.PrF d := ⟨m1, m5⟩
  have nFI : gLF ≠ gLI := b8.ne c6.ne (by omega)
  have nTI : gLT ≠ gLI := b8.ne b7.ne (by omega)
  have hSl : (c.prd d).src.length = c.src.length * d.src.length := Cat.prL_len ..
  have hTl : (c.prd d).tgt.length = c.src.length * d.src.length := Cat.prL_len ..
  have hIl : (c.prd d).idn.length = c.idn.length * d.idn.length := Cat.prL_len ..
  have hCl : (c.prd d).comp.length = c.src.length * d.src.length := by show (tabL _ _ _ _).length = _; unfold tabL; rw [length_rowsOf]; exact hSl
  refine .q rfl (.makeFunc rfl) ?_
  refine .call rfl rfl rfl rfl @Try.call44 rfl (tableO_c (src := (c.prd d).src) (tgt := (c.prd d).tgt) (n := c.src.length * d.src.length) (X := c.prX d) t hSl hTl (by omega) (fun H' s => (a2.st s ⟨g6, trivial⟩).isV (by first | exact hSl | exact hSl.symm)) (fun H' s => (a1.st s ⟨h7, trivial⟩).isV (by first | exact hTl | exact hTl.symm)) @Try.call82 (fun H' v s hrow i j hi hj e => product1_c (s.same _ _ ⟨by omega, trivial⟩ a4) (s.same _ _ ⟨by omega, trivial⟩ d7) (s.same _ _ ⟨by omega, trivial⟩ a7) (o.mono (r.st s (fun k hk => ⟨by omega, trivial⟩))) (l.mono (r.st s (fun k hk => ⟨by omega, trivial⟩))) sc sd hi hj)) ?_
  rintro _ H136 ⟨f1, k8, k6, l9, ge136, p9, h1⟩
  replace r := r.st f1 (fun k hk => ⟨by omega, trivial⟩)
  replace e7 := f1.s e7 b0.ne
  replace a2 := a2.st f1 ⟨g6, trivial⟩
  replace a1 := a1.st f1 ⟨h7, trivial⟩
  replace b6 := b6.st f1 ⟨l4, trivial⟩
  replace h := o.mono r
  replace h' := l.mono r
  clear hi
  refine .nil (o7 _ _ (.seq (fun K32 o9 => .region ?_)))
  refine .q rfl (.loadM ag_27_D rfl ⟨rfl, Mem.of_get l9⟩) ?_
  refine .r0 rfl rfl (.fillA rfl sz_27_D rfl rfl rfl rfl) ?_
  rintro _ H25001 ⟨rfl, b3, i0⟩
  replace r := r.st b3 (fun k hk => ⟨by omega, trivial⟩)
  replace a2 := a2.st b3 ⟨(Ne.symm (d0.ne e1.ne (by omega))), trivial⟩
  replace a1 := a1.st b3 ⟨(Ne.symm (d8.ne e0.ne (by omega))), trivial⟩
  replace b6 := b6.st b3 ⟨(Ne.symm (b8.ne e2.ne (by omega))), trivial⟩
  replace h := o.mono r
  replace h' := l.mono r
  refine .mv rfl (.nil (o9 _ _ ?_))
  refine .ret ?_
  refine j4 _ _ ?_
  refine ⟨_, _, _, _, _, rfl, ag_27_D, (by rfl), (Mem.of_get i0), rfl, ?_⟩
  rw [B_true hfit, Cat.prR_ok hfit]
  have hv := p9.keep (b3.keep (b := HL3.next) (fun k hk => ⟨by omega, trivial⟩)) (Nat.le_refl _)
  refine ⟨r, ⟨nz (c.src.length * d.src.length) gLF, nz (c.src.length * d.src.length) gLT, nz (c.idn.length * d.idn.length) gLI, some ⟨k8, 0, none⟩, k6⟩, by unfold Cat.cells; rw [hSl, hTl, hIl, hCl]; rfl, ?_⟩
  refine .mk (a2.isR (by first | exact hSl | exact hSl.symm) l7) (a1.isR (by first | exact hTl | exact hTl.symm) k5) (b6.isR (by first | exact hIl | exact hIl.symm) l8) (by rw [← hSl] at hv; exact hv.keep (.of_le (.refl _)) (by omega)) (g1 := gLF) (g2 := gLT) (g3 := gLI) (nz_or _ _) (nz_or _ _) (nz_or _ _) k9 nFI nTI (fun i hi => ?_)
  rw [hCl] at hi
  exact ⟨fun e => by have := h1 i hi _ e; omega, fun e => by have := h1 i hi _ e; omega, fun e => by have := h1 i hi _ e; omega⟩
set_option maxHeartbeats 4000000 in
theorem addedCode_c {g0 o0 g1 o1 : Nat} {c d : Cat} {p q : CatP} {H : GHeap} (h : Cat.At H g0 o0 c p := by assumption) (h' : Cat.At H g1 o1 d q := by assumption) (hs : c.Small) (hs' : d.Small) (ic : c.Is) (jd : d.Is) :
    GCalls Try.prog 47 [.pointer (some ⟨g0, o0, none⟩), .pointer (some ⟨g1, o1, none⟩), .bool false] H (NewCR (fitC (B (c.PlF d))) (c.plR d) H) := by
  refine GCalls.body (N := 27) (rs := [.cell 6 27, .tmp 7]) Try.func47 rfl rfl rfl rfl (fun Qx w hend => ?_)
  refine .fg [0, 1, 2] rfl ?_
  have b := GHeap.Le.refl H
  have r := h
  have i := h'
  refine .seq (fun K1 a9 => .region ?_)
  refine .R rfl (.allocR rfl ze_27_Hj rfl) ?_
  rintro _ H6 ⟨g6, rfl, a2, ge6, g⟩
  replace b := b.trans a2
  have lt_at6 := GHeap.ltg g
  refine .mv rfl (.nil (a9 _ _ (.seq (fun K2 a8 => .seq (fun K3 b1 => .region (.mv rfl (.mv rfl ?_)))))))
  refine .R rfl (.litA rfl sl_95_F ze_58_Ex rfl rfl rfl rfl) ?_
  rintro _ b0 ⟨g12, rfl, j, ge12, a0⟩
  have nx_H12 := j.1
  replace b := b.trans j
  replace g := j.2 _ _ g
  have lt_at12 := GHeap.ltg a0
  replace h := r.mono b
  replace h' := i.mono b
  refine .callQ rfl rfl rfl rfl @Try.call48 rfl (areCategories2_c) ?_
  refine .q rfl (.not rfl) (.nil (b1 _ _ ?_))
  refine .cond rfl (fun y => ?_) (fun y => ?_)
  ·
   exact absurd y (by rw [B_true ⟨ic, jd⟩]; exact Bool.false_ne_true)
  try simp only [sps] at y
  refine .skip ?_
  refine a8 _ _ (.seq (fun K4 a5 => .region (.mv rfl (.mv rfl (.mv rfl ?_)))))
  refine .call rfl rfl rfl rfl @Try.call81 rfl (added_c (sc := ic.1) (sd := jd.1)) ?_
  rintro _ a1 ⟨l, b2, rfl, x⟩
  have nx_H20 := l.1
  replace b := b.trans l
  replace g := l.2 _ _ g
  have u := x
  have a : Keep b0.next a1 a1 := fun _ _ _ h => h
  refine .mv rfl (.q rfl (.extract rfl rfl) (.q rfl (.extract rfl rfl) ?_))
  refine .R rfl (.allocR rfl ze_27_Hj rfl) ?_
  rintro _ H8 ⟨g8, rfl, z, ge8, at8⟩
  replace b := b.trans z
  replace g := z.2 _ _ g
  replace a := Keep.le a z
  refine .r0 rfl rfl (.fillA rfl sz_27_D rfl rfl rfl rfl) ?_
  rintro _ H3008 ⟨rfl, e, m⟩
  replace b := b.st e (fun k hk => ⟨by omega, trivial⟩)
  replace g := e.s g
  replace a := Keep.st a e (fun k hb hk => ⟨by omega, trivial⟩)
  refine .mv rfl (.nil (a5 _ _ (.seq (fun K5 a7 => .seq (fun K6 a6 => .region (.mv rfl (.q rfl (.not rfl) (.nil (a6 _ _ ?_)))))))))
  refine .cond rfl (fun v => ?_) (fun v => ?_)
  ·
   try simp only [sps] at v
   refine .seq (fun K7 a3 => .region (.q rfl (.build bt_27_Hj rfl rfl rfl) ?_))
   refine .r0 rfl rfl (.fillA rfl sz_27_D rfl rfl rfl rfl) ?_
   rintro _ H5001 ⟨rfl, n, t⟩
   replace b := b.st n (fun k hk => ⟨by omega, trivial⟩)
   refine .mv rfl (.nil (a3 _ _ ?_))
   refine .ret ?_
   refine w _ _ ?_
   refine ⟨_, _, _, _, _, rfl, ag_27_D, (by rfl), (Mem.of_get t), rfl, ?_⟩
   rw [B_false v, Cat.plR_no v]
   exact ⟨b, .zero, rfl, .zero _ _⟩
  try simp only [sps] at v
  refine .skip ?_
  refine a7 _ _ (.seq (fun K8 a4 => .region ?_))
  refine .q rfl (.loadM ag_27_D rfl ⟨rfl, Mem.of_get m⟩) ?_
  refine .r0 rfl rfl (.fillA rfl sz_27_D rfl rfl rfl rfl) ?_
  rintro _ H6001 ⟨rfl, f, o⟩
  replace b := b.st f (fun k hk => ⟨by omega, trivial⟩)
  replace a := Keep.st a f (fun k hb hk => ⟨by omega, trivial⟩)
  replace x := u.keep a (Nat.le_refl _)
  refine .mv rfl (.nil (a4 _ _ ?_))
  refine .ret ?_
  refine w _ _ ?_
  refine ⟨_, _, _, _, _, rfl, ag_27_D, (by rfl), (Mem.of_get o), rfl, ?_⟩
  rw [B_true v]
  exact ⟨b, b2, rfl, x.keep (.of_le (.refl _)) (by omega)⟩
theorem sumCategory_c {c d : Cat} {p q : CatP} {H : GHeap} (hin : c.In H p := by assumption) (hin' : d.In H q := by assumption) (hs : c.Small) (hs' : d.Small) (ic : c.Is) (jd : d.Is) :
    GCalls Try.prog 14 [.agg (c.cells p).toArray, .agg (d.cells q).toArray] H (NewCR (fitC (B (c.PlF d))) (c.plR d) H) := by
  refine GCalls.body (N := 9) (rs := [.cell 4 27, .tmp 5]) Try.func14 rfl rfl rfl rfl (fun Qx v hend => ?_)
  refine .fg [0, 1] rfl ?_
  have e := GHeap.Le.refl H
  have a := hin
  have b := hin'
  refine .seq (fun K1 z => .region ?_)
  refine .R rfl (.boxR rfl sz_27_D rfl) ?_
  rintro _ H2 ⟨g2, rfl, y, ge2, g⟩
  replace e := e.trans y
  have lt_at2 := GHeap.ltg g
  replace hin := a.mono e
  have l : Cat.At _ g2 0 c p := ⟨Mem.of_get g, hin⟩
  refine .R rfl (.boxR rfl sz_27_D rfl) ?_
  rintro _ H3 ⟨g3, rfl, w, ge3, i⟩
  replace e := e.trans w
  replace g := w.2 _ _ g
  have lt_at3 := GHeap.ltg i
  replace hin := a.mono e
  replace hin' := b.mono e
  clear l
  have l : Cat.At _ g2 0 c p := ⟨Mem.of_get g, hin⟩
  have n : Cat.At _ g3 0 d q := ⟨Mem.of_get i, hin'⟩
  refine .R rfl (.allocR rfl ze_27_Hj rfl) ?_
  rintro _ H4 ⟨g4, rfl, t, ge4, u⟩
  have nx_H4 := t.1
  replace e := e.trans t
  replace g := t.2 _ _ g
  replace i := t.2 _ _ i
  have lt_at4 := GHeap.ltg u
  replace hin := a.mono e
  replace hin' := b.mono e
  clear l
  have l : Cat.At _ g2 0 c p := ⟨Mem.of_get g, hin⟩
  clear n
  have n : Cat.At _ g3 0 d q := ⟨Mem.of_get i, hin'⟩
  refine .mv rfl (.nil (z _ _ (.seq (fun K2 x => .region ?_))))
  refine .call rfl rfl rfl rfl @Try.call47 rfl (addedCode_c (c := c) (d := d) (p := p) (q := q) (g0 := g2) (g1 := g3) (hs := hs) (hs' := hs') (ic := ic) (jd := jd)) ?_
  rintro _ H6 ⟨r, p6, rfl, v6⟩
  replace e := e.trans r
  replace g := r.2 _ _ g
  replace i := r.2 _ _ i
  replace u := r.2 _ _ u
  have o := v6
  have j : Keep H4.next H6 H6 := fun _ _ _ h => h
  replace hin := a.mono e
  replace hin' := b.mono e
  clear l
  have l : Cat.At _ g2 0 c p := ⟨Mem.of_get g, hin⟩
  clear n
  have n : Cat.At _ g3 0 d q := ⟨Mem.of_get i, hin'⟩
  refine .q rfl (.extract rfl rfl) (.q rfl (.extract rfl rfl) ?_)
  refine .r0 rfl rfl (.fillA rfl sz_27_D rfl rfl rfl rfl) ?_
  rintro _ H1003 ⟨rfl, f, m⟩
  replace e := e.st f (fun k hk => ⟨by omega, trivial⟩)
  replace g := f.s g
  replace i := f.s i
  replace j := Keep.st j f (fun k hb hk => ⟨by omega, trivial⟩)
  replace v6 := o.keep j (Nat.le_refl _)
  replace hin := a.mono e
  replace hin' := b.mono e
  clear l
  have l : Cat.At _ g2 0 c p := ⟨Mem.of_get g, hin⟩
  clear n
  have n : Cat.At _ g3 0 d q := ⟨Mem.of_get i, hin'⟩
  refine .mv rfl (.nil (x _ _ ?_))
  refine .ret ?_
  refine v _ _ ?_
  refine ⟨_, _, _, _, _, rfl, ag_27_D, (by rfl), (Mem.of_get m), rfl, ?_⟩
  exact ⟨e, p6, rfl, v6.keep (.of_le (.refl _)) (by omega)⟩
set_option maxHeartbeats 4000000 in
theorem productCategory_c {c d : Cat} {p q : CatP} {H : GHeap} (hin : c.In H p := by assumption) (hin' : d.In H q := by assumption) (hs : c.Small) (hs' : d.Small) (ic : c.Is) (jd : d.Is) :
    GCalls Try.prog 15 [.agg (c.cells p).toArray, .agg (d.cells q).toArray] H (NewCR (fitC (B (c.PrF d))) (c.prR d) H) := by
  refine GCalls.body (N := 20) (rs := [.cell 4 27, .tmp 5]) Try.func15 rfl rfl rfl rfl (fun Qx a3 hend => ?_)
  refine .fg [0, 1] rfl ?_
  have f := GHeap.Le.refl H
  have e := hin
  have b := hin'
  refine .seq (fun K1 c0 => .region ?_)
  refine .R rfl (.boxR rfl sz_27_D rfl) ?_
  rintro _ H2 ⟨g2, rfl, b8, ge2, i⟩
  replace f := f.trans b8
  have lt_at2 := GHeap.ltg i
  replace hin := e.mono f
  have r : Cat.At _ g2 0 c p := ⟨Mem.of_get i, hin⟩
  refine .R rfl (.boxR rfl sz_27_D rfl) ?_
  rintro _ H3 ⟨g3, rfl, a8, ge3, l⟩
  replace f := f.trans a8
  replace i := a8.2 _ _ i
  have lt_at3 := GHeap.ltg l
  replace hin := e.mono f
  replace hin' := b.mono f
  clear r
  have r : Cat.At _ g2 0 c p := ⟨Mem.of_get i, hin⟩
  have u : Cat.At _ g3 0 d q := ⟨Mem.of_get l, hin'⟩
  refine .R rfl (.allocR rfl ze_27_Hj rfl) ?_
  rintro _ H4 ⟨g4, rfl, a6, ge4, w⟩
  replace f := f.trans a6
  replace i := a6.2 _ _ i
  replace l := a6.2 _ _ l
  have lt_at4 := GHeap.ltg w
  replace hin := e.mono f
  replace hin' := b.mono f
  clear r
  have r : Cat.At _ g2 0 c p := ⟨Mem.of_get i, hin⟩
  clear u
  have u : Cat.At _ g3 0 d q := ⟨Mem.of_get l, hin'⟩
  refine .mv rfl (.nil (c0 _ _ (.seq (fun K2 b7 => .seq (fun K3 b9 => .region ?_)))))
  refine .R rfl (.litA rfl sl_95_F ze_58_Ex rfl rfl rfl rfl) ?_
  rintro _ H8 ⟨g8, rfl, a4, ge8, b4⟩
  have nx_H8 := a4.1
  replace f := f.trans a4
  replace i := a4.2 _ _ i
  replace l := a4.2 _ _ l
  replace w := a4.2 _ _ w
  have lt_at8 := GHeap.ltg b4
  replace hin := e.mono f
  replace hin' := b.mono f
  clear r
  have r : Cat.At _ g2 0 c p := ⟨Mem.of_get i, hin⟩
  clear u
  have u : Cat.At _ g3 0 d q := ⟨Mem.of_get l, hin'⟩
  refine .callQ rfl rfl rfl rfl @Try.call48 rfl (areCategories2_c) ?_
  refine .q rfl (.not rfl) (.nil (b9 _ _ ?_))
  refine .cond rfl (fun a5 => ?_) (fun a5 => ?_)
  ·
   exact absurd a5 (by rw [B_true ⟨ic, jd⟩]; exact Bool.false_ne_true)
  try simp only [sps] at a5
  refine .skip ?_
  refine b7 _ _ (.seq (fun K4 b3 => .region ?_))
  refine .call rfl rfl rfl rfl @Try.call49 rfl (product_c (c := c) (d := d) (p := p) (q := q) (g0 := g2) (g1 := g3) (sc := ic.1) (sd := jd.1)) ?_
  rintro _ a9 ⟨v, b2, rfl, a7⟩
  have nx_H13 := v.1
  replace f := f.trans v
  replace i := v.2 _ _ i
  replace l := v.2 _ _ l
  replace w := v.2 _ _ w
  have z := a7
  have g : Keep H8.next a9 a9 := fun _ _ _ h => h
  replace hin := e.mono f
  replace hin' := b.mono f
  clear r
  have r : Cat.At _ g2 0 c p := ⟨Mem.of_get i, hin⟩
  clear u
  have u : Cat.At _ g3 0 d q := ⟨Mem.of_get l, hin'⟩
  refine .mv rfl (.q rfl (.extract rfl rfl) (.q rfl (.extract rfl rfl) ?_))
  refine .R rfl (.allocR rfl ze_27_Hj rfl) ?_
  rintro _ H6 ⟨g6, rfl, a2, ge6, at6⟩
  replace f := f.trans a2
  replace i := a2.2 _ _ i
  replace l := a2.2 _ _ l
  replace w := a2.2 _ _ w
  replace g := Keep.le g a2
  replace hin := e.mono f
  replace hin' := b.mono f
  clear r
  have r : Cat.At _ g2 0 c p := ⟨Mem.of_get i, hin⟩
  clear u
  have u : Cat.At _ g3 0 d q := ⟨Mem.of_get l, hin'⟩
  refine .r0 rfl rfl (.fillA rfl sz_27_D rfl rfl rfl rfl) ?_
  rintro _ H3005 ⟨rfl, n, x⟩
  replace f := f.st n (fun k hk => ⟨by omega, trivial⟩)
  replace i := n.s i
  replace l := n.s l
  replace w := n.s w
  replace g := Keep.st g n (fun k hb hk => ⟨by omega, trivial⟩)
  replace hin := e.mono f
  replace hin' := b.mono f
  clear r
  have r : Cat.At _ g2 0 c p := ⟨Mem.of_get i, hin⟩
  clear u
  have u : Cat.At _ g3 0 d q := ⟨Mem.of_get l, hin'⟩
  refine .mv rfl (.nil (b3 _ _ (.seq (fun K5 b6 => .seq (fun K6 b5 => .region (.mv rfl (.q rfl (.not rfl) (.nil (b5 _ _ ?_)))))))))
  refine .cond rfl (fun a1 => ?_) (fun a1 => ?_)
  ·
   try simp only [sps] at a1
   refine .seq (fun K7 b0 => .region (.q rfl (.build bt_27_Hj rfl rfl rfl) ?_))
   refine .r0 rfl rfl (.fillA rfl sz_27_D rfl rfl rfl rfl) ?_
   rintro _ H5001 ⟨rfl, t, a0⟩
   replace f := f.st t (fun k hk => ⟨by omega, trivial⟩)
   have m : NE g2 g4 := .a
   replace i := t.s i m.ne
   have j : NE g3 g4 := .a
   replace l := t.s l j.ne
   replace hin := e.mono f
   replace hin' := b.mono f
   clear r
   have r : Cat.At _ g2 0 c p := ⟨Mem.of_get i, hin⟩
   clear u
   have u : Cat.At _ g3 0 d q := ⟨Mem.of_get l, hin'⟩
   refine .mv rfl (.nil (b0 _ _ ?_))
   refine .ret ?_
   refine a3 _ _ ?_
   refine ⟨_, _, _, _, _, rfl, ag_27_D, (by rfl), (Mem.of_get a0), rfl, ?_⟩
   rw [B_false a1, Cat.prR_no a1]
   exact ⟨f, .zero, rfl, .zero _ _⟩
  try simp only [sps] at a1
  refine .skip ?_
  refine b6 _ _ (.seq (fun K8 b1 => .region ?_))
  refine .q rfl (.loadM ag_27_D rfl ⟨rfl, Mem.of_get x⟩) ?_
  refine .r0 rfl rfl (.fillA rfl sz_27_D rfl rfl rfl rfl) ?_
  rintro _ H6001 ⟨rfl, o, y⟩
  replace f := f.st o (fun k hk => ⟨by omega, trivial⟩)
  have m : NE g2 g4 := .a
  replace i := o.s i m.ne
  have j : NE g3 g4 := .a
  replace l := o.s l j.ne
  replace g := Keep.st g o (fun k hb hk => ⟨by omega, trivial⟩)
  replace a7 := z.keep g (Nat.le_refl _)
  replace hin := e.mono f
  replace hin' := b.mono f
  have r : Cat.At _ g2 0 c p := ⟨Mem.of_get i, hin⟩
  have u : Cat.At _ g3 0 d q := ⟨Mem.of_get l, hin'⟩
  refine .mv rfl (.nil (b1 _ _ ?_))
  refine .ret ?_
  refine a3 _ _ ?_
  refine ⟨_, _, _, _, _, rfl, ag_27_D, (by rfl), (Mem.of_get y), rfl, ?_⟩
  rw [B_true a1]
  exact ⟨f, b2, rfl, a7.keep (.of_le (.refl _)) (by omega)⟩
end Go.Proofs.Ytfanjkbaemhbmaa
namespace Go.Proofs.Ytfanjkbaemhbmaa
open Go Go.GL Go.RowKit Go.Proofs
theorem sz_127_Dg : (Try.prog.info? 127).map (·.size) = some 3 := by kernel_rfl
theorem fo_127_0_Dg : fieldOff Try.prog 127 0 = some 0 := by kernel_rfl
theorem fo_127_1_Dg : fieldOff Try.prog 127 1 = some 1 := by kernel_rfl
theorem fo_127_2_Dg : fieldOff Try.prog 127 2 = some 2 := by kernel_rfl
theorem l01Less_c {a b : Option Addr} {xs ys : List Int} {H : GHeap} (ha : Ints H a xs := by assumption) (hb : Ints H b ys := by assumption) (hx : xs.length ≤ 1048576 := by omega) :
    GCalls Try.prog 136 [.slice a xs.length xs.length, .slice b ys.length ys.length] H (fun v H' => H.Le H' ∧ ∃ q, v = .bool q) := by
  refine GCalls.body (N := 41) (rs := [.tmp 4]) Try.func136 rfl rfl rfl rfl (fun Qx c hend => ?_)
  refine .fg [0, 1] rfl ?_
  have j := GHeap.Le.refl H
  have base_ha := ha
  have base_hb := hb
  refine .seq (fun K1 r => .region (.mv rfl (.nil (r _ _ (.seq (fun K2 l => .seq (fun K3 s => .region (.mv rfl (.nil (s _ _ ?_))))))))))
  refine .block ?_
  refine .loopR (σ := Nat) [(0, some _), (1, some _)] (fun i => [(5, some (.int .i64 (i : Int)))]) (fun i H' => H = H' ∧ i ≤ xs.length) (fun i => xs.length - i) (0) ⟨rfl, rfl, trivial⟩ ⟨rfl, trivial⟩ ?_ ?_
  ·
   refine ⟨rfl, ?_⟩
   omega
  rintro i _ ⟨rfl, hI⟩ KL1 d
  refine .forget (fr' := [(5, some (.int .i64 (i : Int))), (0, some _), (1, some _)]) ⟨rfl, rfl, rfl, trivial⟩ ?_
  refine .seq (fun K4 p => .seq (fun K5 k => .region (.mv rfl (.mv rfl (.q rfl (.len sl_24_A rfl) (.q rfl (.cmp rfl rfl rfl) (.mv rfl ?_)))))))
  refine .split (fun f => ?_) (fun f => ?_)
  ·
   simp only [sps] at f
   refine .qg rfl (.move rfl) (.qg rfl (.move rfl) (.qg rfl (.len sl_24_A rfl) (.qg rfl (.cmp rfl rfl rfl) (.q rfl (.pickT rfl rfl) (.nil (k _ _ ?_))))))
   refine .cond rfl (fun e => ?_) (fun e => ?_)
   ·
    simp only [sps] at e
    refine .skip ?_
    refine p _ _ (.seq (fun K6 t => ?_))
    refine .block ?_
    refine .seq (fun K7 n => ?_)
    refine .regionD mo_B (.q 0 (.q 1 (.q 2 (.q 3 (.q 4 (.q 5 (.q 6 (.q 7 (.q 8 (.done)))))))))) (by kernel_rfl) ?_
    refine .mv rfl rfl (.mv rfl rfl ?_)
    refine .q rfl (.idxN sl_24_A (by assumption) rfl rfl (by omega)) ?_
    refine .q rfl (.loadI on_2_A (by assumption) rfl (by omega)) ?_
    refine .mv rfl rfl (.mv rfl rfl ?_)
    refine .q rfl (.idxN sl_24_A (by assumption) rfl rfl (by omega)) ?_
    refine .q rfl (.loadI on_2_A (by assumption) rfl (by omega)) ?_
    refine .q rfl (.cmp rfl rfl rfl) ?_
    refine .done ?_
    refine n _ _ ?_
    refine .cond rfl (fun g => ?_) (fun g => ?_)
    ·
     try simp only [sps] at g
     refine .seq (fun K8 o => ?_)
     refine .regionD mo_B (.q 0 (.q 1 (.q 2 (.q 3 (.q 4 (.q 5 (.q 6 (.q 7 (.q 8 (.q 9 (.done))))))))))) (by kernel_rfl) ?_
     refine .mv rfl rfl (.mv rfl rfl ?_)
     refine .q rfl (.idxN sl_24_A (by assumption) rfl rfl (by omega)) ?_
     refine .q rfl (.loadI on_2_A (by assumption) rfl (by omega)) ?_
     refine .mv rfl rfl (.mv rfl rfl ?_)
     refine .q rfl (.idxN sl_24_A (by assumption) rfl rfl (by omega)) ?_
     refine .q rfl (.loadI on_2_A (by assumption) rfl (by omega)) ?_
     refine .q rfl (.cmp rfl rfl rfl) (.mv rfl rfl ?_)
     refine .done ?_
     refine o _ _ ?_
     refine .ret ?_
     refine c _ _ ?_
     refine ⟨_, rfl, ?_⟩
     exact ⟨j, _, rfl⟩
    try simp only [sps] at g
    refine .skip ?_
    refine t _ _ (.region (.mv rfl ?_))
    refine .q rfl (.add rfl rfl rfl (by omega) (by omega)) ?_
    refine .mv rfl (.nil ?_)
    refine d (i + 1) _ _ ?_ ?_ ⟨rfl, rfl, rfl, trivial⟩
    ·
     refine ⟨rfl, ?_⟩
     omega
    omega
   simp only [sps] at e
   refine .exit ?_
   refine l _ _ (.seq (fun K9 m => .region (.mv rfl (.q rfl (.len sl_24_A rfl) (.mv rfl (.q rfl (.len sl_24_A rfl) (.q rfl (.cmp rfl rfl rfl) (.mv rfl (.nil (m _ _ ?_))))))))))
   refine .ret ?_
   refine c _ _ ?_
   refine ⟨_, rfl, ?_⟩
   exact ⟨j, _, rfl⟩
  simp only [sps] at f
  refine .z rfl (.z rfl (.z rfl (.z rfl (.q rfl (.pickF rfl rfl) (.nil (k _ _ ?_))))))
  refine .condF rfl ?_
  refine .exit ?_
  refine l _ _ (.seq (fun K10 h => .region (.mv rfl (.q rfl (.len sl_24_A rfl) (.mv rfl (.q rfl (.len sl_24_A rfl) (.q rfl (.cmp rfl rfl rfl) (.mv rfl (.nil (h _ _ ?_))))))))))
  refine .ret ?_
  refine c _ _ ?_
  refine ⟨_, rfl, ?_⟩
  exact ⟨j, _, rfl⟩
theorem l03Before_c {a b : Option Addr} {xs ys : List Int} {x1 x2 y1 y2 : Int} {H : GHeap} (ha : Ints H a xs := by assumption) (hb : Ints H b ys := by assumption) (hx : xs.length ≤ 1048576 := by omega) :
    GCalls Try.prog 134 [.agg #[.int .i64 x1, .int .i64 y1, .slice a xs.length xs.length], .agg #[.int .i64 x2, .int .i64 y2, .slice b ys.length ys.length]] H (fun v H' => H.Le H' ∧ ∃ q, v = .bool q) := by
  refine GCalls.body (N := 30) (rs := [.tmp 4]) Try.func134 rfl rfl rfl rfl (fun Qx f hend => ?_)
  refine .fg [0, 1] rfl ?_
  have c := GHeap.Le.refl H
  have d := ha
  have e := hb
  refine .seq (fun K1 t => .region ?_)
  refine .R rfl (.boxR rfl sz_127_Dg rfl) ?_
  rintro _ H2 ⟨g2, rfl, s, ge2, g⟩
  replace c := c.trans s
  refine .R rfl (.boxR rfl sz_127_Dg rfl) ?_
  rintro _ H3 ⟨g3, rfl, k, ge3, h⟩
  replace c := c.trans k
  replace g := k.2 _ _ g
  replace ha := d.mono c
  replace hb := e.mono c
  refine .mv rfl (.nil (t _ _ (.seq (fun K2 n => .seq (fun K3 l => .region (.q rfl (.fieldAddr fo_127_0_Dg rfl) ?_))))))
  refine .q rfl (.load on_2_A rfl (by first | assumption | exact Mem.of_get g 0 _ rfl)) ?_
  refine .q rfl (.fieldAddr fo_127_0_Dg rfl) ?_
  refine .q rfl (.load on_2_A rfl (by first | assumption | exact Mem.of_get h 0 _ rfl)) ?_
  refine .q rfl (.cmp rfl rfl rfl) (.nil (l _ _ ?_))
  refine .cond rfl (fun h9 => ?_) (fun h9 => ?_)
  ·
   try simp only [sps] at h9
   refine .seq (fun K4 r => .region (.q rfl (.fieldAddr fo_127_0_Dg rfl) ?_))
   refine .q rfl (.load on_2_A rfl (by first | assumption | exact Mem.of_get g 0 _ rfl)) ?_
   refine .q rfl (.fieldAddr fo_127_0_Dg rfl) ?_
   refine .q rfl (.load on_2_A rfl (by first | assumption | exact Mem.of_get h 0 _ rfl)) ?_
   refine .q rfl (.cmp rfl rfl rfl) (.mv rfl (.nil (r _ _ ?_)))
   refine .ret ?_
   refine f _ _ ?_
   refine ⟨_, rfl, ?_⟩
   exact ⟨c, _, rfl⟩
  try simp only [sps] at h9
  refine .skip ?_
  refine n _ _ (.seq (fun K5 m => .seq (fun K6 u => .region (.q rfl (.fieldAddr fo_127_1_Dg rfl) ?_))))
  refine .q rfl (.load on_2_A rfl (by first | assumption | exact Mem.of_get g 1 _ rfl)) ?_
  refine .q rfl (.fieldAddr fo_127_1_Dg rfl) ?_
  refine .q rfl (.load on_2_A rfl (by first | assumption | exact Mem.of_get h 1 _ rfl)) ?_
  refine .q rfl (.cmp rfl rfl rfl) (.nil (u _ _ ?_))
  refine .cond rfl (fun j => ?_) (fun j => ?_)
  ·
   try simp only [sps] at j
   refine .seq (fun K7 o => .region (.q rfl (.fieldAddr fo_127_1_Dg rfl) ?_))
   refine .q rfl (.load on_2_A rfl (by first | assumption | exact Mem.of_get g 1 _ rfl)) ?_
   refine .q rfl (.fieldAddr fo_127_1_Dg rfl) ?_
   refine .q rfl (.load on_2_A rfl (by first | assumption | exact Mem.of_get h 1 _ rfl)) ?_
   refine .q rfl (.cmp rfl rfl rfl) (.mv rfl (.nil (o _ _ ?_)))
   refine .ret ?_
   refine f _ _ ?_
   refine ⟨_, rfl, ?_⟩
   exact ⟨c, _, rfl⟩
  try simp only [sps] at j
  refine .skip ?_
  refine m _ _ (.seq (fun K8 p => .region (.q rfl (.fieldAddr fo_127_2_Dg rfl) ?_)))
  refine .q rfl (.load on_24_B rfl (by first | assumption | exact Mem.of_get g 2 _ rfl)) ?_
  refine .q rfl (.fieldAddr fo_127_2_Dg rfl) ?_
  refine .q rfl (.load on_24_B rfl (by first | assumption | exact Mem.of_get h 2 _ rfl)) ?_
  refine .call rfl rfl rfl rfl @Try.call136 rfl (l01Less_c) ?_
  rintro _ H29 ⟨i, q29, rfl⟩
  replace c := c.trans i
  refine .mv rfl (.nil (p _ _ ?_))
  refine .ret ?_
  refine f _ _ ?_
  refine ⟨_, rfl, ?_⟩
  exact ⟨c, _, rfl⟩
end Go.Proofs.Ytfanjkbaemhbmaa
namespace Go.Proofs.Ytfanjkbaemhbmaa
open Go Go.GL Go.RowKit Go.Proofs
theorem sl_124_Di : sliceT Try.prog 124 = some (127, 3) := by kernel_rfl
theorem ze_127_Di : zeroT Try.prog 127 = some ([.int .i64 0, .int .i64 0, .slice none 0 0], 3) := by kernel_rfl
theorem bt_127_Di : buildT Try.prog 127 = some ([.int .i64 0, .int .i64 0, .slice none 0 0], [(0, 1), (1, 1), (2, 1)]) := by kernel_rfl
theorem by_127_Di : (Try.prog.info? 127).map (·.bytes) = some 40 := by kernel_rfl
theorem ag_127_Di : aggT Try.prog 127 = some 3 := by kernel_rfl
set_option maxHeartbeats 8000000 in
theorem l03All_c {a b : Option Addr} {xs ys : List Int} {n : Nat} {H : GHeap} (ha : Ints H a xs := by assumption) (hb : Ints H b ys := by assumption) (hl : ys.length = xs.length) (hx : xs.length ≤ 3) (hn : n ≤ 3) (hy : Bd 0 ((n : Int) - 1) ys) (hup : ∀ e, e < xs.length → xs.getD e 0 < ys.getD e 0) :
    GCalls Try.prog 130 [.int .i64 (n : Int), .slice a xs.length xs.length, .slice b ys.length ys.length] H (NewPaths 2 127 ((n : Int) - 1) H) := by
  refine GCalls.body (N := 117) (rs := [.tmp 6]) Try.func130 rfl rfl rfl rfl (fun Qx h0 hend => ?_)
  refine .fg [0, 1, 2] rfl ?_
  have c5 := GHeap.Le.refl H
  have f1 := ha
  have e7 := hb
  refine .seq (fun K1 o7 => .region (.mv rfl (.nil (o7 _ _ (.seq (fun K2 p0 => .region ?_))))))
  refine .R rfl (.litA rfl sl_124_Di ze_127_Di rfl rfl rfl rfl) ?_
  rintro _ n5 ⟨n3, rfl, i6, ge14, k0⟩
  have nx_H14 := i6.1
  replace c5 := c5.trans i6
  have lt_at14 := GHeap.ltg k0
  refine .mv rfl (.nil (p0 _ _ (.seq (fun K3 p1 => .seq (fun K4 n7 => .region (.mv rfl (.nil (n7 _ _ ?_))))))))
  refine .block ?_
  refine .loopR (σ := Nat × List Pth × Nat × Nat) [(0, some _), (1, some _), (2, some _)] (fun (x, ps, d9, f6) => [(8, some (.int .i64 (x : Int))), (7, some (.slice (some ⟨d9, 0, none⟩) f6 f6))]) (fun (x, ps, d9, f6) H' => St [n3] n5 H' ∧ H'.get d9 = some (.row (pcells ps) 127 true) ∧ PL d9 n3 n5.next ∧ f6 = ps.length ∧ (x ≤ n ∧ ps.length = x ∧ pws ps ≤ pwn x) ∧ PthOk H.next 2 ((n : Int) - 1) H' ps) (fun (x, ps, d9, f6) => n - x) ((0, [], _, _)) ⟨rfl, rfl, rfl, trivial⟩ ⟨rfl, rfl, trivial⟩ ?_ ?_
  ·
   refine ⟨.refl _ _, by assumption, ⟨.inl rfl⟩, by rfl, ?_⟩
   exact ⟨⟨by omega, rfl, Nat.le_refl _⟩, .nil _ _ _ _⟩
  rintro ⟨x, ps, d9, f6⟩ HL1 ⟨c2, d, h4, ln_L7, hI⟩ KL1 k7
  refine .forget (fr' := [(8, some (.int .i64 (x : Int))), (7, some (.slice (some ⟨d9, 0, none⟩) f6 f6)), (0, some _), (1, some _), (2, some _)]) ⟨rfl, rfl, rfl, rfl, rfl, trivial⟩ ?_
  have ge_L7 : H.next ≤ d9 := h4.ge (by omega) (by omega)
  have nx_HL1 := c2.nx
  replace c5 := c5.st c2 (fun k hk => ⟨by omega, trivial⟩)
  have e5 := GHeap.ltg d
  have rk := St.refl [d9] HL1
  obtain ⟨⟨hxn, hpl, hw⟩, hP⟩ := hI
  have htl := pcells_len ps
  have b6 := d
  refine .seq (fun K5 n8 => .seq (fun K6 o1 => .region (.mv rfl (.mv rfl (.q rfl (.cmp rfl rfl rfl) (.nil (o1 _ _ ?_)))))))
  refine .cond rfl (fun m7 => ?_) (fun m7 => ?_)
  ·
   simp only [sps] at m7
   refine .skip ?_
   refine n8 _ _ (.seq (fun K7 o8 => ?_))
   refine .block ?_
   refine .region (.mv rfl (.mv rfl (.mv rfl ?_)))
   refine .R rfl (.litA rfl sl_24_A ze_2_Pa rfl rfl rfl rfl) ?_
   rintro _ o0 ⟨n4, rfl, g0, ge23, c9⟩
   replace c2 := c2.le g0
   replace rk := rk.le g0
   replace d := g0.2 _ _ d
   have lt_at23 := GHeap.ltg c9
   replace c9 : GHeap.get o0 n4 = some (.row (ints []) 2 true) := c9
   refine .q rfl (.build bt_127_Di rfl rfl rfl) ?_
   refine .R rfl (.litA rfl sl_124_Di ze_127_Di rfl rfl rfl rfl) ?_
   rintro _ H25 ⟨g25, rfl, e6, ge25, m2⟩
   replace c2 := c2.le e6
   replace rk := rk.le e6
   replace d := e6.2 _ _ d
   replace c9 := e6.2 _ _ c9
   have lt_at25 := GHeap.ltg m2
   refine .R rfl (.appendV rfl sl_124_Di ze_127_Di rfl by_127_Di sl_124_Di rfl rfl (by assumption) (by assumption) (by first | omega | (simp <;> omega)) rfl rfl (by omega) (by omega)) ?_
   rintro _ H26 ⟨g26, rfl, f8, ge26, at26⟩
   replace c2 := c2.sP f8
   replace rk := rk.sP f8
   replace c9 := f8.s c9
   refine .mv rfl (.nil (o8 _ _ (.region (.mv rfl ?_))))
   refine .q rfl (.add rfl rfl rfl (by omega) (by omega)) ?_
   refine .mv rfl (.nil ?_)
   refine k7 ((x + 1, ps ++ [⟨(x : Int), (x : Int), [], n4⟩], _, _)) _ _ ?_ ?_ ⟨rfl, rfl, rfl, rfl, rfl, trivial⟩
   ·
    refine ⟨c2, by (rw [pcells_snoc]; assumption), by exact ⟨.inr (by omega)⟩, by (simp only [List.length_append, List.length_cons, List.length_nil] <;> omega), ?_⟩
    exact ⟨⟨by omega, by simp; omega, by rw [pws_snoc, ← pwn_succ (by omega)]; exact Nat.add_le_add_right hw _⟩, (hP.keep (rk.lasts1 b6 rfl)).snoc ⟨by simp, by simp; omega⟩ ⟨by simp, by simp; omega⟩ (by simp) (by simp; omega) (by assumption)⟩
   (dsimp only; omega)
  try simp only [sps] at m7
  refine .exit ?_
  refine p1 _ _ (.seq (fun K8 n2 => .seq (fun K9 o4 => .region (.mv rfl (.nil (o4 _ _ ?_))))))
  refine .block ?_
  refine .loopR (σ := Nat × List Pth × Nat × Nat) [(1, some _), (2, some _)] (fun (k, ps, l, a6) => [(9, some (.int .i64 (k : Int))), (7, some (.slice (some ⟨l, 0, none⟩) a6 a6))]) (fun (k, ps, l, a6) H' => St [d9] HL1 H' ∧ H'.get l = some (.row (pcells ps) 127 true) ∧ PL l d9 HL1.next ∧ a6 = ps.length ∧ (k ≤ ps.length ∧ k + pws (ps.drop k) ≤ 18) ∧ PthOk H.next 2 ((n : Int) - 1) H' ps) (fun (k, ps, l, a6) => 60 - k) ((0, ps, _, _)) ⟨rfl, rfl, trivial⟩ ⟨rfl, rfl, trivial⟩ ?_ ?_
  ·
   refine ⟨.refl _ _, by assumption, ⟨.inl rfl⟩, by assumption, ?_⟩
   exact ⟨⟨by omega, by have := pwn_le x; rw [List.drop_zero]; omega⟩, hP⟩
  rintro ⟨k, ps, l, a6⟩ HL2 ⟨e2, at_L7v2, d4, d3, hI⟩ KL2 l0
  refine .forget (fr' := [(9, some (.int .i64 (k : Int))), (7, some (.slice (some ⟨l, 0, none⟩) a6 a6)), (1, some _), (2, some _)]) ⟨rfl, rfl, rfl, rfl, trivial⟩ ?_
  have ge_L7v2 : H.next ≤ l := d4.ge (by omega) (by omega)
  have nx_HL2 := e2.nx
  replace c5 := c5.st e2 (fun k hk => ⟨by omega, trivial⟩)
  obtain ⟨⟨hk, hwk⟩, hP⟩ := hI
  have hpl := pws_len hk hwk
  refine .seq (fun K10 j5 => .seq (fun K11 i1 => .region (.mv rfl (.mv rfl (.q rfl (.len sl_124_Di rfl) (.q rfl (.cmp rfl rfl rfl) (.mv rfl ?_)))))))
  refine .split (fun l3 => ?_) (fun l3 => ?_)
  ·
   simp only [sps] at l3
   refine .qg rfl (.move rfl) (.qg rfl (.len sl_124_Di rfl) (.qg rfl (.cmp rfl rfl rfl) (.q rfl (.pickT rfl rfl) (.nil (i1 _ _ ?_)))))
   refine .cond rfl (fun k5 => ?_) (fun k5 => ?_)
   ·
    simp only [sps] at k5
    refine .skip ?_
    refine j5 _ _ (.seq (fun K12 l2 => ?_))
    refine .block ?_
    refine .seq (fun K13 l7 => .region (.mv rfl (.nil (l7 _ _ ?_))))
    refine .block ?_
    refine .loopR (σ := Nat × List Pth × Nat × Nat) [(1, some _), (2, some _), (9, some _), (32, some _), (33, some _), (34, some _)] (fun (e, p2, a0, a5) => [(10, some (.int .i64 (e : Int))), (7, some (.slice (some ⟨a0, 0, none⟩) a5 a5))]) (fun (e, p2, a0, a5) H' => St [l] HL2 H' ∧ H'.get a0 = some (.row (pcells p2) 127 true) ∧ PL a0 l HL2.next ∧ a5 = p2.length ∧ (e ≤ xs.length ∧ ps.length ≤ p2.length ∧ p2.getD k pz = ps.getD k pz ∧ k + 1 + pws (p2.drop (k + 1)) + 3 * ((pw (ps.getD k pz).t - 1) / 3) ≤ 18 + e * ((pw (ps.getD k pz).t - 1) / 3)) ∧ PthOk H.next 2 ((n : Int) - 1) H' p2) (fun (e, p2, a0, a5) => xs.length - e) ((0, ps, _, _)) ⟨rfl, rfl, rfl, rfl, rfl, rfl, trivial⟩ ⟨rfl, rfl, trivial⟩ ?_ ?_
    ·
     refine ⟨.refl _ _, by assumption, ⟨.inl rfl⟩, by assumption, ?_⟩
     have hd := pws_drop (ps := ps) (k := k) (by omega)
     have h1 := pw_pos (ps.getD k pz).t
     exact ⟨⟨by omega, by omega, rfl, by omega⟩, hP⟩
    rintro ⟨e, p2, a0, a5⟩ HL3 ⟨d2, g, f4, e9, hI⟩ KL3 h6
    refine .forget (fr' := [(10, some (.int .i64 (e : Int))), (7, some (.slice (some ⟨a0, 0, none⟩) a5 a5)), (1, some _), (2, some _), (9, some _), (32, some _), (33, some _), (34, some _)]) ⟨rfl, rfl, rfl, rfl, rfl, rfl, rfl, rfl, trivial⟩ ?_
    have nx_HL3 := d2.nx
    replace c5 := c5.st d2 (fun k hk => ⟨by omega, trivial⟩)
    replace e2 := e2.sQ d2
    have lt_at_L7v3 := GHeap.ltg g
    replace ha := f1.mono c5
    replace hb := e7.mono c5
    obtain ⟨⟨he, hp1, i7, hwe⟩, hP⟩ := hI
    have hl18 : p2.length ≤ 18 := by
      have hB := Nat.mul_le_mul_right ((pw (ps.getD k pz).t - 1) / 3) (show e ≤ 3 by omega)
      exact pws_len (k := k + 1) (by omega) (by omega)
    have htl := pcells_len p2
    refine .seq (fun K14 m4 => .seq (fun K15 i8 => .region (.mv rfl (.mv rfl (.q rfl (.len sl_24_A rfl) (.q rfl (.cmp rfl rfl rfl) (.nil (i8 _ _ ?_))))))))
    refine .cond rfl (fun j9 => ?_) (fun j9 => ?_)
    ·
     simp only [sps] at j9
     refine .skip ?_
     refine m4 _ _ (.seq (fun K16 i5 => ?_))
     refine .block ?_
     refine .seq (fun K17 l9 => ?_)
     refine .regionD mo_B (.q 0 (.q 1 (.q 2 (.q 3 (.q 4 (.q 5 (.q 6 (.q 7 (.q 8 (.q 9 (.done))))))))))) (by kernel_rfl) ?_
     obtain rfl := e9
     have sA := pcells_slA g
     have mk := pcells_mem g (i := k) (by omega)
     refine .mv rfl rfl (.mv rfl rfl ?_)
     refine .q rfl (.idxN sl_24_A (by assumption) rfl rfl (by omega)) ?_
     refine .q rfl (.loadI on_2_A (by assumption) rfl (by omega)) ?_
     refine .mv rfl rfl (.mv rfl rfl ?_)
     refine .q rfl (.idx sl_124_Di (by assumption) (by omega) rfl rfl (by omega) (by omega) rfl) ?_
     refine .q rfl (.fieldAddr fo_127_1_Dg rfl) (.q rfl (.load on_2_A rfl (mk.2 1 _ rfl)) (.q rfl (.cmp rfl rfl rfl) ?_))
     refine .done ?_
     refine l9 _ _ ?_
     refine .cond rfl (fun n6 => ?_) (fun n6 => ?_)
     ·
      simp only [sps] at n6
      have pk := hP.at (i := k) (by omega)
      have iE := Ints.of_get pk.2.2.2.2
      have yb := hy e (by omega)
      have o5 := pk.1
      have hh : ((p2.getD k pz).e ++ [(e : Int)]).length = (p2.getD k pz).e.length + 1 := by rw [List.length_append]; rfl
      refine .regionD mo_B (.q 0 (.q 1 (.q 2 (.q 3 (.q 4 (.q 5 (.q 6 (.q 7 (.q 8 (.q 9 (.q 10 (.q 11 (.q 12 (.q 13 (.q 14 (.q 16 (.or (.c 15 1 (.c 17 1 (.c 18 1 (.q 19 (.c 20 1 (.c 21 0 (.c 22 0 (.done)))))))) (.c 17 1 (.c 15 1 (.c 18 1 (.q 19 (.c 20 1 (.c 21 0 (.c 22 0 (.done))))))))))))))))))))))))) (by kernel_rfl) ?_
      refine .cut [(1, some _), (2, some _), (9, some _), (10, some _), (32, some _), (33, some _), (34, some _), (38, some _), (39, some _), (40, some _), (41, some _), (44, some _), (45, some _), (46, some _), (47, some _), (48, some _), (49, some _), (50, some _), (51, some _), (52, some _), (53, some _)] ⟨rfl, rfl, rfl, rfl, rfl, rfl, rfl, rfl, rfl, rfl, rfl, rfl, rfl, rfl, rfl, rfl, rfl, rfl, rfl, rfl, rfl, trivial⟩ (fun rest fr' H' => ∃ (gE : Nat) (gV : Nat), Sub ((7, some (.slice (some ⟨gV, 0, none⟩) (p2.length + 1) (p2.length + 1))) :: rest) fr' ∧ St [a0] HL3 H' ∧ H'.get gE = some (.row (ints ((p2.getD k pz).e ++ [(e : Int)])) 2 true) ∧ HL3.next ≤ gE ∧ H'.get gV = some (.row (pcells (p2 ++ [⟨(p2.getD k pz).f, ys.getD e 0, (p2.getD k pz).e ++ [(e : Int)], gE⟩])) 127 true) ∧ HL3.next ≤ gV) ?_ ?_
      ·
       have b0 := St.refl [a0] HL3
       refine .qB rfl (.refl _) (.move rfl) (.qB rfl (.refl _) (.move rfl) (.qB rfl (.refl _) (.move rfl) ?_))
       refine .q rfl (.idx sl_124_Di (by assumption) (by omega) rfl rfl (by omega) (by omega) rfl) ?_
       refine .qB rfl (.refl _) (.fieldAddr fo_127_0_Dg rfl) (.q rfl (.load on_2_A rfl (mk.2 0 _ rfl)) (.qB rfl (.refl _) (.move rfl) (.qB rfl (.refl _) (.move rfl) ?_)))
       refine .q rfl (.idxN sl_24_A (by assumption) rfl rfl (by omega)) ?_
       refine .q rfl (.loadI on_2_A (by assumption) rfl (by omega)) ?_
       refine .qB rfl (.refl _) (.move rfl) (.qB rfl (.refl _) (.move rfl) ?_)
       refine .q rfl (.idx sl_124_Di (by assumption) (by omega) rfl rfl (by omega) (by omega) rfl) ?_
       refine .qB rfl (.refl _) (.fieldAddr fo_127_2_Dg rfl) (.q rfl (.load on_24_B rfl (mk.2 2 _ rfl)) (.qB rfl (.refl _) (.move rfl) ?_))
       refine .orI ?_ ?_
       ·
        refine .call1 rfl rfl rfl rfl rfl @Try.call108 rfl (l01Own_c (by first | exact iE | exact Ints.mono iE (by assumption))) ?_
        rintro _ H69 ⟨f7, g69, rfl, g7, ge69⟩
        have a7 := f7
        refine ⟨a7, ?_⟩
        replace b0 := b0.le f7
        replace g := f7.2 _ _ g
        have lt_at69 := GHeap.ltg g7
        refine .c1 rfl rfl rfl rfl (.litA rfl sl_24_A ze_2_Pa rfl rfl rfl rfl) ?_
        rintro _ H71 ⟨g71, rfl, f3, ge71, n0⟩
        replace a7 := a7.trans f3
        refine ⟨a7, ?_⟩
        replace b0 := b0.le f3
        replace g := f3.2 _ _ g
        replace g7 := f3.2 _ _ g7
        have lt_at71 := GHeap.ltg n0
        refine .c1 rfl rfl rfl rfl (.appendI rfl sl_24_A ze_2_Pa rfl by_2_Pa sl_24_A rfl rfl (by assumption) (by assumption) (by first | omega | (simp <;> omega)) (by omega) (by omega)) ?_
        rintro _ H72 ⟨g72, rfl, g1, ge72, d7⟩
        replace a7 := a7.st g1 (fun k hk => ⟨by omega, trivial⟩)
        refine ⟨a7, ?_⟩
        replace b0 := b0.sA g1
        replace g := g1.s g
        have lt_at72 := GHeap.ltg d7
        refine .qB rfl a7 (.build bt_127_Di rfl rfl rfl) ?_
        refine .c1 rfl rfl rfl rfl (.litA rfl sl_124_Di ze_127_Di rfl rfl rfl rfl) ?_
        rintro _ H74 ⟨g74, rfl, f2, ge74, m8⟩
        replace a7 := a7.trans f2
        refine ⟨a7, ?_⟩
        replace b0 := b0.le f2
        replace g := f2.2 _ _ g
        replace d7 := f2.2 _ _ d7
        have lt_at74 := GHeap.ltg m8
        refine .c0 rfl rfl rfl rfl (.appendV rfl sl_124_Di ze_127_Di rfl by_127_Di sl_124_Di rfl rfl (by assumption) (by assumption) (by first | omega | (simp <;> omega)) rfl rfl (by omega) (by omega)) ?_
        rintro _ H75 ⟨g75, rfl, h5, ge75, at75⟩
        replace b0 := b0.sQ h5
        replace d7 := h5.s d7
        refine .d0 rfl rfl rfl rfl (.quiet (.assign rfl) CIs.mk) ?_
        refine .done ?_
        exact ⟨_, _, ⟨rfl, rfl, rfl, rfl, rfl, rfl, rfl, rfl, rfl, rfl, rfl, rfl, rfl, rfl, rfl, rfl, rfl, rfl, rfl, rfl, rfl, rfl, trivial⟩, b0, by assumption, by omega, by (rw [pcells_snoc]; unfold Pth.cs; dsimp only; rw [hh]; assumption), by omega⟩
       refine .c1 rfl rfl rfl rfl (.litA rfl sl_24_A ze_2_Pa rfl rfl rfl rfl) ?_
       rintro _ H71x2 ⟨g71x2, rfl, c7, ge71x2, d1⟩
       have a7 := c7
       refine ⟨a7, ?_⟩
       replace b0 := b0.le c7
       replace g := c7.2 _ _ g
       have lt_at71x2 := GHeap.ltg d1
       refine .call1 rfl rfl rfl rfl rfl @Try.call108 rfl (l01Own_c (by first | exact iE | exact Ints.mono iE (by assumption))) ?_
       rintro _ H69x2 ⟨b4, g69x2, rfl, g3, ge69x2⟩
       replace a7 := a7.trans b4
       refine ⟨a7, ?_⟩
       replace b0 := b0.le b4
       replace g := b4.2 _ _ g
       replace d1 := b4.2 _ _ d1
       have lt_at69x2 := GHeap.ltg g3
       refine .c1 rfl rfl rfl rfl (.appendI rfl sl_24_A ze_2_Pa rfl by_2_Pa sl_24_A rfl rfl (by assumption) (by assumption) (by first | omega | (simp <;> omega)) (by omega) (by omega)) ?_
       rintro _ H72x2 ⟨g72x2, rfl, c8, ge72x2, a8⟩
       replace a7 := a7.st c8 (fun k hk => ⟨by omega, trivial⟩)
       refine ⟨a7, ?_⟩
       replace b0 := b0.sA c8
       replace g := c8.s g
       have lt_at72x2 := GHeap.ltg a8
       refine .qB rfl a7 (.build bt_127_Di rfl rfl rfl) ?_
       refine .c1 rfl rfl rfl rfl (.litA rfl sl_124_Di ze_127_Di rfl rfl rfl rfl) ?_
       rintro _ H74x2 ⟨g74x2, rfl, b5, ge74x2, g4⟩
       replace a7 := a7.trans b5
       refine ⟨a7, ?_⟩
       replace b0 := b0.le b5
       replace g := b5.2 _ _ g
       replace a8 := b5.2 _ _ a8
       have lt_at74x2 := GHeap.ltg g4
       refine .c0 rfl rfl rfl rfl (.appendV rfl sl_124_Di ze_127_Di rfl by_127_Di sl_124_Di rfl rfl (by assumption) (by assumption) (by first | omega | (simp <;> omega)) rfl rfl (by omega) (by omega)) ?_
       rintro _ H75x2 ⟨g75x2, rfl, d8, ge75x2, at75x2⟩
       replace b0 := b0.sQ d8
       replace a8 := d8.s a8
       refine .d0 rfl rfl rfl rfl (.quiet (.assign rfl) CIs.mk) ?_
       refine .done ?_
       exact ⟨_, _, ⟨rfl, rfl, rfl, rfl, rfl, rfl, rfl, rfl, rfl, rfl, rfl, rfl, rfl, rfl, rfl, rfl, rfl, rfl, rfl, rfl, rfl, rfl, trivial⟩, b0, by assumption, by omega, by (rw [pcells_snoc]; unfold Pth.cs; dsimp only; rw [hh]; assumption), by omega⟩
      rintro fr913 k6 ⟨h7, gV13, f0, f5, aE, ge913, i0, gv913⟩
      have hpu := pw_up (t := (ps.getD k pz).t) (u := ys.getD e 0) (by rw [← i7]; exact pk.2.1.1) (by rw [← i7]; have := hup e (by omega); omega) (by omega)
      obtain ⟨p3, k1, o9, j1, n9, l6⟩ : ∃ p3, p3 = p2 ++ [⟨(p2.getD k pz).f, ys.getD e 0, (p2.getD k pz).e ++ [(e : Int)], h7⟩] ∧ p3.length = p2.length + 1 ∧ p3.getD k pz = p2.getD k pz ∧ pws (p3.drop (k + 1)) ≤ pws (p2.drop (k + 1)) + (pw (ps.getD k pz).t - 1) / 3 ∧ PthOk H.next 2 ((n : Int) - 1) k6 p3 := ⟨_, rfl, by simp, by rw [getD_snoc, if_pos (by omega)], by rw [pws_drop_snoc (by omega)]; dsimp only; omega, PthOk.snoc (p := ⟨(p2.getD k pz).f, ys.getD e 0, (p2.getD k pz).e ++ [(e : Int)], h7⟩) (hP.keep (f5.lasts1 g rfl)) o5 yb (by dsimp only; omega) (by dsimp only; omega) aE⟩
      rw [← k1] at i0
      replace d2 := d2.sQ f5
      refine i5 _ _ ?_
      refine .forget f0 ?_
      refine .region (.mv rfl ?_)
      refine .q rfl (.add rfl rfl rfl (by omega) (by omega)) ?_
      refine .mv rfl (.nil ?_)
      refine h6 ((e + 1, p3, _, _)) _ _ ?_ ?_ ⟨rfl, rfl, rfl, rfl, rfl, rfl, rfl, rfl, trivial⟩
      ·
       refine ⟨d2, by assumption, by exact ⟨.inr (by omega)⟩, by omega, ?_⟩
       have e1 := sm e ((pw (ps.getD k pz).t - 1) / 3)
       exact ⟨⟨by omega, by omega, by rw [j1, i7], by omega⟩, l6⟩
      (dsimp only; omega)
     obtain ⟨p3, k1, o9, j1, n9, l6⟩ : ∃ p3, p3 = p2 ∧ p3.length = p2.length ∧ p3.getD k pz = p2.getD k pz ∧ pws (p3.drop (k + 1)) ≤ pws (p2.drop (k + 1)) + (pw (ps.getD k pz).t - 1) / 3 ∧ PthOk H.next 2 ((n : Int) - 1) HL3 p3 := ⟨_, rfl, rfl, rfl, by omega, hP⟩
     refine .skip ?_
     refine i5 _ _ (.region (.mv rfl ?_))
     refine .q rfl (.add rfl rfl rfl (by omega) (by omega)) ?_
     refine .mv rfl (.nil ?_)
     refine h6 ((e + 1, p3, _, _)) _ _ ?_ ?_ ⟨rfl, rfl, rfl, rfl, rfl, rfl, rfl, rfl, trivial⟩
     ·
      refine ⟨d2, by (rw [k1]; assumption), by assumption, by omega, ?_⟩
      have e1 := sm e ((pw (ps.getD k pz).t - 1) / 3)
      exact ⟨⟨by omega, by omega, by rw [j1, i7], by omega⟩, l6⟩
     (dsimp only; omega)
    try simp only [sps] at j9
    refine .exit ?_
    refine l2 _ _ (.region (.mv rfl ?_))
    refine .q rfl (.add rfl rfl rfl (by omega) (by omega)) ?_
    refine .mv rfl (.nil ?_)
    refine l0 ((k + 1, p2, _, _)) _ _ ?_ ?_ ⟨rfl, rfl, rfl, rfl, trivial⟩
    ·
     refine ⟨e2, by assumption, by exact f4.trans d4 (by omega), by omega, ?_⟩
     have hB := Nat.mul_le_mul_right ((pw (ps.getD k pz).t - 1) / 3) (show e ≤ 3 by omega)
     exact ⟨⟨by omega, by omega⟩, hP⟩
    (dsimp only; omega)
   try simp only [sps] at k5
   refine .exit ?_
   refine n2 _ _ (.seq (fun K18 n1 => .seq (fun K19 m6 => .region ?_)))
   obtain rfl := d3
   refine .mv rfl (.nil (m6 _ _ ?_))
   refine .block ?_
   refine .loopR (σ := Nat × List Pth) [(7, some _)] (fun (i, q4) => [(11, some (.int .i64 (i : Int)))]) (fun (i, q4) H' => St [l] HL2 H' ∧ H'.get l = some (.row (pcells q4) 127 true) ∧ (i ≤ 44 ∧ q4.length = ps.length) ∧ PthOk H.next 2 ((n : Int) - 1) H' q4) (fun (i, q4) => 60 - i) ((1, ps)) ⟨rfl, trivial⟩ ⟨rfl, trivial⟩ ?_ ?_
   ·
    refine ⟨.refl _ _, by assumption, ?_⟩
    exact ⟨⟨by omega, by omega⟩, hP⟩
   rintro ⟨i, q4⟩ HL4 ⟨v, d, hI⟩ KL4 e4
   refine .forget (fr' := [(11, some (.int .i64 (i : Int))), (7, some _)]) ⟨rfl, rfl, trivial⟩ ?_
   replace c5 := c5.st v (fun k hk => ⟨by omega, trivial⟩)
   obtain ⟨⟨o6, hpl⟩, hP⟩ := hI
   refine .seq (fun K20 m0 => .seq (fun K21 j3 => .region (.mv rfl (.mv rfl (.q rfl (.len sl_124_Di rfl) (.q rfl (.cmp rfl rfl rfl) (.nil (j3 _ _ ?_))))))))
   refine .cond rfl (fun g9 => ?_) (fun g9 => ?_)
   ·
    simp only [sps] at g9
    refine .skip ?_
    refine m0 _ _ (.seq (fun K22 h8 => ?_))
    refine .block ?_
    refine .seq (fun K23 j8 => .region (.mv rfl (.mv rfl (.nil (j8 _ _ ?_)))))
    refine .block ?_
    refine .loopR (σ := Nat × List Pth) [(7, some _), (11, some _)] (fun (z, qs) => [(12, some (.int .i64 (z : Int)))]) (fun (z, qs) H' => St [l] HL4 H' ∧ H'.get l = some (.row (pcells qs) 127 true) ∧ (z < qs.length ∧ qs.length = ps.length) ∧ PthOk H.next 2 ((n : Int) - 1) H' qs) (fun (z, qs) => z) ((i, q4)) ⟨rfl, rfl, trivial⟩ ⟨rfl, trivial⟩ ?_ ?_
    ·
     refine ⟨.refl _ _, by assumption, ?_⟩
     exact ⟨⟨by omega, by omega⟩, hP⟩
    rintro ⟨z, qs⟩ HL5 ⟨m, d, hI⟩ KL5 g8
    refine .forget (fr' := [(12, some (.int .i64 (z : Int))), (7, some _), (11, some _)]) ⟨rfl, rfl, rfl, trivial⟩ ?_
    replace v := v.sQ m
    have rk := St.refl [l] HL5
    obtain ⟨⟨hz, hql⟩, hP⟩ := hI
    have b6 := d
    refine .seq (fun K24 j6 => .seq (fun K25 h3 => ?_))
    refine .regionD mo_B (.q 0 (.q 1 (.q 2 (.q 3 (.q 4 (.q 5 (.q 6 (.q 7 (.q 8 (.q 9 (.q 10 (.q 11 (.c 12 0 (.q 13 (.done))))))))))))))) (by kernel_rfl) ?_
    refine .mv rfl rfl (.q rfl (.cmp rfl rfl rfl) (.mv rfl rfl ?_))
    refine .split (fun g6 => ?_) (fun g6 => ?_)
    ·
     simp only [sps] at g6
     obtain ⟨w, rfl⟩ : ∃ w, z = w + 1 := ⟨z - 1, by omega⟩
     have sA := pcells_slA d
     rw [hql] at sA
     have mz := pcells_mem d (i := w + 1) (by omega)
     have mw := pcells_mem d (i := w) (by omega)
     have m5 := hP.at (i := w + 1) (by omega)
     have j0 := hP.at (i := w) (by omega)
     refine .qg rfl (.move rfl) (.qg rfl (.move rfl) ?_)
     refine .qg rfl (.idx sl_124_Di (by assumption) (by omega) rfl rfl (by omega) (by omega) rfl) ?_
     refine .qg rfl (.loadM ag_127_Di rfl (by assumption)) ?_
     refine .qg rfl (.move rfl) (.qg rfl (.move rfl) ?_)
     refine .qg rfl (.sub (r := (w : Int)) rfl rfl (by omega) (by omega) (by omega)) ?_
     refine .qg rfl (.idx sl_124_Di (by assumption) (by omega) rfl rfl (by omega) (by omega) rfl) ?_
     refine .qg rfl (.loadM ag_127_Di rfl (by assumption)) ?_
     refine .call0g rfl rfl rfl rfl rfl rfl rfl @Try.call134 rfl (l03Before_c (Ints.of_get m5.2.2.2.2) (Ints.of_get j0.2.2.2.2) (by omega)) ?_
     rintro _ H95 ⟨e8, q95, rfl⟩
     replace v := v.le e8
     replace m := m.le e8
     replace rk := rk.le e8
     replace d := e8.2 _ _ d
     refine .q rfl (.pickT rfl rfl) ?_
     refine .done ?_
     refine h3 _ _ ?_
     refine .cond rfl (fun g2 => ?_) (fun g2 => ?_)
     ·
      try simp only [sps] at g2
      refine .skip ?_
      refine j6 _ _ (.seq (fun K26 m9 => ?_))
      refine .block ?_
      refine .seq (fun K27 k8 => .region ?_)
      have mz := pcells_mem d (i := w + 1) (by omega)
      have sA := pcells_slA d
      rw [hql] at sA
      refine .mv rfl (.mv rfl ?_)
      refine .q rfl (.idx sl_124_Di (by assumption) (by omega) rfl rfl (by omega) (by omega) rfl) ?_
      refine .q rfl (.loadM ag_127_Di rfl (by assumption)) ?_
      refine .R rfl (.allocR rfl ze_127_Di rfl) ?_
      rintro _ H13 ⟨o2, rfl, g5, ge13, at13⟩
      replace m := m.le g5
      replace rk := rk.le g5
      replace d := g5.2 _ _ d
      refine .r0 rfl rfl (.fillA rfl sz_127_Dg rfl rfl rfl rfl) ?_
      rintro _ H20005 ⟨rfl, b8, b9⟩
      replace m := m.sA b8
      replace rk := rk.sA b8
      have y : NE l o2 := .a
      replace d := b8.s d y.ne
      refine .nil (k8 _ _ (.seq (fun K28 k3 => .region ?_)))
      have mw := pcells_mem d (i := w) (by omega)
      have sA := pcells_slA d
      rw [hql] at sA
      refine .mv rfl (.mv rfl (.mv rfl (.mv rfl ?_)))
      refine .q rfl (.sub (r := (w : Int)) rfl rfl (by omega) (by omega) (by omega)) ?_
      refine .q rfl (.idx sl_124_Di (by assumption) (by omega) rfl rfl (by omega) (by omega) rfl) ?_
      refine .q rfl (.loadM ag_127_Di rfl (by assumption)) ?_
      refine .q rfl (.idx sl_124_Di (by assumption) (by omega) rfl rfl (by omega) (by omega) rfl) ?_
      refine .r0 rfl rfl (.storeNR rfl sz_127_Dg rfl rfl rfl rfl (by assumption) (by rw [pcells_len]; simp; omega)) ?_
      rintro _ e3 ⟨rfl, b7, b3⟩
      replace m := m.sQ b7
      replace rk := rk.sQ b7
      replace b9 := b7.s b9 (Ne.symm y.ne)
      obtain ⟨q5, i3, f9, p4⟩ : ∃ q5, q5 = qs.set (w + 1) (qs.getD w pz) ∧ q5.length = qs.length ∧ PthOk H.next 2 ((n : Int) - 1) e3 q5 := ⟨_, rfl, by simp, (hP.keep (rk.lasts1 b6 rfl)).set (by omega)⟩
      replace b3 : GHeap.get e3 l = some (.row (pcells q5) 127 true) := by
        have hx := b3
        simp only [Int.toNat_natCast, Nat.zero_add] at hx
        rw [i3, ← pcells_set _ (by omega)]
        exact hx
      have sA := pcells_slA b3
      rw [f9, hql] at sA
      refine .nil (k3 _ _ (.region (.mv rfl (.mv rfl ?_))))
      refine .q rfl (.sub (r := (w : Int)) rfl rfl (by omega) (by omega) (by omega)) ?_
      refine .q rfl (.loadM ag_127_Di rfl ⟨rfl, Mem.of_get b9⟩) ?_
      refine .q rfl (.idx sl_124_Di (by assumption) (by omega) rfl rfl (by omega) (by omega) rfl) ?_
      refine .r0 rfl rfl (.storeNR rfl sz_127_Dg rfl rfl rfl rfl (by assumption) (by rw [pcells_len]; simp; omega)) ?_
      rintro _ e0 ⟨rfl, d6, d5⟩
      replace m := m.sQ d6
      replace rk := rk.sQ d6
      obtain ⟨q6, j2, o3, k4⟩ : ∃ q6, q6 = q5.set w (qs.getD (w + 1) pz) ∧ q6.length = qs.length ∧ PthOk H.next 2 ((n : Int) - 1) e0 q6 := ⟨_, rfl, by simp; omega, fun p hp => by
        rcases List.mem_or_eq_of_mem_set hp with h | rfl
        · have h9 := (hP.keep (rk.lasts1 b6 rfl)).set (i := w + 1) (j := w) (by omega) p (by rw [← i3]; exact h)
          rw [List.length_set] at h9 ⊢
          rw [f9]
          exact h9
        · have h9 := (hP.keep (rk.lasts1 b6 rfl)).at (i := w + 1) (by omega)
          rw [List.length_set, f9]
          exact h9⟩
      replace d5 : GHeap.get e0 l = some (.row (pcells q6) 127 true) := by
        have hx := d5
        simp only [Int.toNat_natCast, Nat.zero_add] at hx
        rw [j2, ← pcells_set _ (by omega)]
        exact hx
      refine .nil (m9 _ _ (.region (.mv rfl ?_)))
      refine .q rfl (.sub (r := (w : Int)) rfl rfl (by omega) (by omega) (by omega)) ?_
      refine .mv rfl (.nil ?_)
      refine g8 ((w, q6)) _ _ ?_ ?_ ⟨rfl, rfl, rfl, trivial⟩
      ·
       refine ⟨m, by assumption, ?_⟩
       exact ⟨⟨by omega, by omega⟩, k4⟩
      (dsimp only; omega)
     try simp only [sps] at g2
     refine .exit ?_
     refine h8 _ _ (.region (.mv rfl ?_))
     refine .q rfl (.add rfl rfl rfl (by omega) (by omega)) ?_
     refine .mv rfl (.nil ?_)
     refine e4 ((i + 1, qs)) _ _ ?_ ?_ ⟨rfl, rfl, trivial⟩
     ·
      refine ⟨v, by assumption, ?_⟩
      exact ⟨⟨by omega, by omega⟩, by first | exact hP | exact hP.keep (.of_le (by assumption))⟩
     (dsimp only; omega)
    try simp only [sps] at g6
    refine .z rfl (.z rfl (.z rfl (.z rfl (.z rfl (.z rfl (.z rfl (.z rfl (.z rfl (.sgc rfl rfl rfl rfl rfl rfl (.q rfl (.pickF rfl rfl) ?_))))))))))
    refine .done ?_
    refine h3 _ _ ?_
    refine .condF rfl ?_
    refine .exit ?_
    refine h8 _ _ (.region (.mv rfl ?_))
    refine .q rfl (.add rfl rfl rfl (by omega) (by omega)) ?_
    refine .mv rfl (.nil ?_)
    refine e4 ((i + 1, qs)) _ _ ?_ ?_ ⟨rfl, rfl, trivial⟩
    ·
     refine ⟨v, by assumption, ?_⟩
     exact ⟨⟨by omega, by omega⟩, by first | exact hP | exact hP.keep (.of_le (by assumption))⟩
    (dsimp only; omega)
   try simp only [sps] at g9
   refine .exit ?_
   refine n1 _ _ (.seq (fun K29 j4 => .region (.mv rfl (.mv rfl (.nil (j4 _ _ ?_))))))
   refine .ret ?_
   refine h0 _ _ ?_
   refine ⟨_, rfl, ?_⟩
   exact ⟨c5, l, q4, by rw [‹q4.length = _›], by omega, by assumption, hP, by omega⟩
  try simp only [sps] at l3
  refine .z rfl (.z rfl (.z rfl (.q rfl (.pickF rfl rfl) (.nil (i1 _ _ ?_)))))
  refine .condF rfl ?_
  refine .exit ?_
  refine n2 _ _ (.seq (fun K30 m3 => .seq (fun K31 l4 => .region ?_)))
  obtain rfl := d3
  refine .mv rfl (.nil (l4 _ _ ?_))
  refine .block ?_
  refine .loopR (σ := Nat × List Pth) [(7, some _)] (fun (i, q4) => [(11, some (.int .i64 (i : Int)))]) (fun (i, q4) H' => St [l] HL2 H' ∧ H'.get l = some (.row (pcells q4) 127 true) ∧ (i ≤ 44 ∧ q4.length = ps.length) ∧ PthOk H.next 2 ((n : Int) - 1) H' q4) (fun (i, q4) => 60 - i) ((1, ps)) ⟨rfl, trivial⟩ ⟨rfl, trivial⟩ ?_ ?_
  ·
   refine ⟨.refl _ _, by assumption, ?_⟩
   exact ⟨⟨by omega, by omega⟩, hP⟩
  rintro ⟨i, q4⟩ HL4 ⟨v, d, hI⟩ KL4 e4
  refine .forget (fr' := [(11, some (.int .i64 (i : Int))), (7, some _)]) ⟨rfl, rfl, trivial⟩ ?_
  replace c5 := c5.st v (fun k hk => ⟨by omega, trivial⟩)
  obtain ⟨⟨o6, hpl⟩, hP⟩ := hI
  refine .seq (fun K32 l5 => .seq (fun K33 l8 => .region (.mv rfl (.mv rfl (.q rfl (.len sl_124_Di rfl) (.q rfl (.cmp rfl rfl rfl) (.nil (l8 _ _ ?_))))))))
  refine .cond rfl (fun g9 => ?_) (fun g9 => ?_)
  ·
   simp only [sps] at g9
   refine .skip ?_
   refine l5 _ _ (.seq (fun K34 i2 => ?_))
   refine .block ?_
   refine .seq (fun K35 m1 => .region (.mv rfl (.mv rfl (.nil (m1 _ _ ?_)))))
   refine .block ?_
   refine .loopR (σ := Nat × List Pth) [(7, some _), (11, some _)] (fun (z, qs) => [(12, some (.int .i64 (z : Int)))]) (fun (z, qs) H' => St [l] HL4 H' ∧ H'.get l = some (.row (pcells qs) 127 true) ∧ (z < qs.length ∧ qs.length = ps.length) ∧ PthOk H.next 2 ((n : Int) - 1) H' qs) (fun (z, qs) => z) ((i, q4)) ⟨rfl, rfl, trivial⟩ ⟨rfl, trivial⟩ ?_ ?_
   ·
    refine ⟨.refl _ _, by assumption, ?_⟩
    exact ⟨⟨by omega, by omega⟩, hP⟩
   rintro ⟨z, qs⟩ HL5 ⟨m, d, hI⟩ KL5 g8
   refine .forget (fr' := [(12, some (.int .i64 (z : Int))), (7, some _), (11, some _)]) ⟨rfl, rfl, rfl, trivial⟩ ?_
   have nx_HL5 := m.nx
   replace v := v.sQ m
   have e5 := GHeap.ltg d
   have rk := St.refl [l] HL5
   obtain ⟨⟨hz, hql⟩, hP⟩ := hI
   have b6 := d
   refine .seq (fun K36 k9 => .seq (fun K37 i4 => ?_))
   refine .regionD mo_B (.q 0 (.q 1 (.q 2 (.q 3 (.q 4 (.q 5 (.q 6 (.q 7 (.q 8 (.q 9 (.q 10 (.q 11 (.c 12 0 (.q 13 (.done))))))))))))))) (by kernel_rfl) ?_
   refine .mv rfl rfl (.q rfl (.cmp rfl rfl rfl) (.mv rfl rfl ?_))
   refine .split (fun g6 => ?_) (fun g6 => ?_)
   ·
    simp only [sps] at g6
    obtain ⟨w, rfl⟩ : ∃ w, z = w + 1 := ⟨z - 1, by omega⟩
    have sA := pcells_slA d
    rw [hql] at sA
    have mz := pcells_mem d (i := w + 1) (by omega)
    have mw := pcells_mem d (i := w) (by omega)
    have m5 := hP.at (i := w + 1) (by omega)
    have j0 := hP.at (i := w) (by omega)
    refine .qg rfl (.move rfl) (.qg rfl (.move rfl) ?_)
    refine .qg rfl (.idx sl_124_Di (by assumption) (by omega) rfl rfl (by omega) (by omega) rfl) ?_
    refine .qg rfl (.loadM ag_127_Di rfl (by assumption)) ?_
    refine .qg rfl (.move rfl) (.qg rfl (.move rfl) ?_)
    refine .qg rfl (.sub (r := (w : Int)) rfl rfl (by omega) (by omega) (by omega)) ?_
    refine .qg rfl (.idx sl_124_Di (by assumption) (by omega) rfl rfl (by omega) (by omega) rfl) ?_
    refine .qg rfl (.loadM ag_127_Di rfl (by assumption)) ?_
    refine .call0g rfl rfl rfl rfl rfl rfl rfl @Try.call134 rfl (l03Before_c (Ints.of_get m5.2.2.2.2) (Ints.of_get j0.2.2.2.2) (by omega)) ?_
    rintro _ H95x2 ⟨a9, q95x2, rfl⟩
    have nx_H95x2 := a9.1
    replace v := v.le a9
    replace m := m.le a9
    replace rk := rk.le a9
    replace d := a9.2 _ _ d
    refine .q rfl (.pickT rfl rfl) ?_
    refine .done ?_
    refine i4 _ _ ?_
    refine .cond rfl (fun g2 => ?_) (fun g2 => ?_)
    ·
     try simp only [sps] at g2
     refine .skip ?_
     refine k9 _ _ (.seq (fun K38 l1 => ?_))
     refine .block ?_
     refine .seq (fun K39 i9 => .region ?_)
     have mz := pcells_mem d (i := w + 1) (by omega)
     have sA := pcells_slA d
     rw [hql] at sA
     refine .mv rfl (.mv rfl ?_)
     refine .q rfl (.idx sl_124_Di (by assumption) (by omega) rfl rfl (by omega) (by omega) rfl) ?_
     refine .q rfl (.loadM ag_127_Di rfl (by assumption)) ?_
     refine .R rfl (.allocR rfl ze_127_Di rfl) ?_
     rintro _ H13x2 ⟨h2, rfl, c6, ge13x2, at13x2⟩
     replace m := m.le c6
     replace rk := rk.le c6
     replace d := c6.2 _ _ d
     refine .r0 rfl rfl (.fillA rfl sz_127_Dg rfl rfl rfl rfl) ?_
     rintro _ H20005x2 ⟨rfl, a4, a1⟩
     replace m := m.sA a4
     replace rk := rk.sA a4
     have o : NE l h2 := .a
     replace d := a4.s d o.ne
     refine .nil (i9 _ _ (.seq (fun K40 k2 => .region ?_)))
     have mw := pcells_mem d (i := w) (by omega)
     have sA := pcells_slA d
     rw [hql] at sA
     refine .mv rfl (.mv rfl (.mv rfl (.mv rfl ?_)))
     refine .q rfl (.sub (r := (w : Int)) rfl rfl (by omega) (by omega) (by omega)) ?_
     refine .q rfl (.idx sl_124_Di (by assumption) (by omega) rfl rfl (by omega) (by omega) rfl) ?_
     refine .q rfl (.loadM ag_127_Di rfl (by assumption)) ?_
     refine .q rfl (.idx sl_124_Di (by assumption) (by omega) rfl rfl (by omega) (by omega) rfl) ?_
     refine .r0 rfl rfl (.storeNR rfl sz_127_Dg rfl rfl rfl rfl (by assumption) (by rw [pcells_len]; simp; omega)) ?_
     rintro _ c4 ⟨rfl, a3, a2⟩
     replace m := m.sQ a3
     replace rk := rk.sQ a3
     replace a1 := a3.s a1 (Ne.symm o.ne)
     obtain ⟨q5, i3, f9, p4⟩ : ∃ q5, q5 = qs.set (w + 1) (qs.getD w pz) ∧ q5.length = qs.length ∧ PthOk H.next 2 ((n : Int) - 1) c4 q5 := ⟨_, rfl, by simp, (hP.keep (rk.lasts1 b6 rfl)).set (by omega)⟩
     replace a2 : GHeap.get c4 l = some (.row (pcells q5) 127 true) := by
       have hx := a2
       simp only [Int.toNat_natCast, Nat.zero_add] at hx
       rw [i3, ← pcells_set _ (by omega)]
       exact hx
     have sA := pcells_slA a2
     rw [f9, hql] at sA
     refine .nil (k2 _ _ (.region (.mv rfl (.mv rfl ?_))))
     refine .q rfl (.sub (r := (w : Int)) rfl rfl (by omega) (by omega) (by omega)) ?_
     refine .q rfl (.loadM ag_127_Di rfl ⟨rfl, Mem.of_get a1⟩) ?_
     refine .q rfl (.idx sl_124_Di (by assumption) (by omega) rfl rfl (by omega) (by omega) rfl) ?_
     refine .r0 rfl rfl (.storeNR rfl sz_127_Dg rfl rfl rfl rfl (by assumption) (by rw [pcells_len]; simp; omega)) ?_
     rintro _ c3 ⟨rfl, b2, b1⟩
     replace m := m.sQ b2
     replace rk := rk.sQ b2
     obtain ⟨q6, j2, o3, k4⟩ : ∃ q6, q6 = q5.set w (qs.getD (w + 1) pz) ∧ q6.length = qs.length ∧ PthOk H.next 2 ((n : Int) - 1) c3 q6 := ⟨_, rfl, by simp; omega, fun p hp => by
       rcases List.mem_or_eq_of_mem_set hp with h | rfl
       · have h9 := (hP.keep (rk.lasts1 b6 rfl)).set (i := w + 1) (j := w) (by omega) p (by rw [← i3]; exact h)
         rw [List.length_set] at h9 ⊢
         rw [f9]
         exact h9
       · have h9 := (hP.keep (rk.lasts1 b6 rfl)).at (i := w + 1) (by omega)
         rw [List.length_set, f9]
         exact h9⟩
     replace b1 : GHeap.get c3 l = some (.row (pcells q6) 127 true) := by
       have hx := b1
       simp only [Int.toNat_natCast, Nat.zero_add] at hx
       rw [j2, ← pcells_set _ (by omega)]
       exact hx
     refine .nil (l1 _ _ (.region (.mv rfl ?_)))
     refine .q rfl (.sub (r := (w : Int)) rfl rfl (by omega) (by omega) (by omega)) ?_
     refine .mv rfl (.nil ?_)
     refine g8 ((w, q6)) _ _ ?_ ?_ ⟨rfl, rfl, rfl, trivial⟩
     ·
      refine ⟨m, by assumption, ?_⟩
      exact ⟨⟨by omega, by omega⟩, k4⟩
     (dsimp only; omega)
    try simp only [sps] at g2
    refine .exit ?_
    refine i2 _ _ (.region (.mv rfl ?_))
    refine .q rfl (.add rfl rfl rfl (by omega) (by omega)) ?_
    refine .mv rfl (.nil ?_)
    refine e4 ((i + 1, qs)) _ _ ?_ ?_ ⟨rfl, rfl, trivial⟩
    ·
     refine ⟨v, by assumption, ?_⟩
     exact ⟨⟨by omega, by omega⟩, by first | exact hP | exact hP.keep (.of_le (by assumption))⟩
    (dsimp only; omega)
   try simp only [sps] at g6
   refine .z rfl (.z rfl (.z rfl (.z rfl (.z rfl (.z rfl (.z rfl (.z rfl (.z rfl (.sgc rfl rfl rfl rfl rfl rfl (.q rfl (.pickF rfl rfl) ?_))))))))))
   refine .done ?_
   refine i4 _ _ ?_
   refine .condF rfl ?_
   refine .exit ?_
   refine i2 _ _ (.region (.mv rfl ?_))
   refine .q rfl (.add rfl rfl rfl (by omega) (by omega)) ?_
   refine .mv rfl (.nil ?_)
   refine e4 ((i + 1, qs)) _ _ ?_ ?_ ⟨rfl, rfl, trivial⟩
   ·
    refine ⟨v, by assumption, ?_⟩
    exact ⟨⟨by omega, by omega⟩, by first | exact hP | exact hP.keep (.of_le (by assumption))⟩
   (dsimp only; omega)
  try simp only [sps] at g9
  refine .exit ?_
  refine m3 _ _ (.seq (fun K41 j7 => .region (.mv rfl (.mv rfl (.nil (j7 _ _ ?_))))))
  refine .ret ?_
  refine h0 _ _ ?_
  refine ⟨_, rfl, ?_⟩
  exact ⟨c5, l, q4, by rw [‹q4.length = _›], by omega, by assumption, hP, by omega⟩
end Go.Proofs.Ytfanjkbaemhbmaa
namespace Go.Proofs.Ytfanjkbaemhbmaa
open Go Go.GL Go.RowKit Go.Proofs
set_option maxHeartbeats 8000000 in
theorem l03Paths_c {a b : Option Addr} {xs ys : List Int} {n : Nat} {H : GHeap} (ha : Ints H a xs := by assumption) (hb : Ints H b ys := by assumption) (hl : ys.length = xs.length) (hx : xs.length ≤ 3) (hn : n ≤ 3) (hy : Bd 0 ((n : Int) - 1) ys) (hup : ∀ e, e < xs.length → xs.getD e 0 < ys.getD e 0) :
    GCalls Try.prog 121 [.int .i64 (n : Int), .slice a xs.length xs.length, .slice b ys.length ys.length] H (NewRc 2 24 18 H) := by
  refine GCalls.body (N := 147) (rs := [.cell 6 27]) Try.func121 rfl rfl rfl rfl (fun Qx k5 hend => ?_)
  refine .fg [0, 1, 2] rfl ?_
  have b0 := GHeap.Le.refl H
  have g3 := ha
  have f9 := hb
  refine .seq (fun K1 q1 => .region ?_)
  refine .R rfl (.allocR rfl ze_27_Hj rfl) ?_
  rintro _ H6 ⟨g6, rfl, p0, ge6, c3⟩
  replace b0 := b0.trans p0
  have lt_at6 := GHeap.ltg c3
  replace ha := g3.mono b0
  replace hb := f9.mono b0
  refine .nil (q1 _ _ (.seq (fun K2 q5 => .region (.mv rfl (.mv rfl (.mv rfl ?_))))))
  refine .call rfl rfl rfl rfl @Try.call130 rfl (l03All_c ha hb hl hx hn hy hup) ?_
  rintro _ n2 ⟨j9, gP, ps, rfl, bP, aP, q4, hp18⟩
  have hK : PthK _ _ _ n2 ps := ⟨q4⟩
  replace b0 := b0.trans j9
  replace c3 := j9.2 _ _ c3
  have lt_aP := GHeap.ltg aP
  have e8 := hK
  have m : Keep H6.next n2 n2 := fun _ _ _ h => h
  refine .mv rfl (.nil (q5 _ _ (.seq (fun K3 q7 => .region (.mv rfl ?_)))))
  refine .R rfl (.litA rfl sl_24_A ze_2_Pa rfl rfl rfl rfl) ?_
  rintro _ p3 ⟨h6, rfl, g4, ge21, a6⟩
  replace b0 := b0.trans g4
  replace c3 := g4.2 _ _ c3
  replace aP := g4.2 _ _ aP
  replace m := Keep.le m g4
  have lt_at21 := GHeap.ltg a6
  replace a6 : GHeap.get p3 h6 = some (.row (ints []) 2 true) := a6
  refine .R rfl (.litA rfl sl_24_A ze_2_Pa rfl rfl rfl rfl) ?_
  rintro _ q0 ⟨h8, rfl, f8, ge22, b4⟩
  replace b0 := b0.trans f8
  replace c3 := f8.2 _ _ c3
  replace aP := f8.2 _ _ aP
  replace a6 := f8.2 _ _ a6
  replace m := Keep.le m f8
  have lt_at22 := GHeap.ltg b4
  replace b4 : GHeap.get q0 h8 = some (.row (ints []) 2 true) := b4
  refine .mv rfl ?_
  refine .R rfl (.makeI rfl sl_24_A ze_2_Pa by_2_Pa rfl rfl (by omega) (by omega) (by omega) (by omega)) ?_
  rintro _ H24 ⟨d5, rfl, e2, ge24, e0⟩
  have nx_H24 := e2.1
  replace b0 := b0.trans e2
  replace c3 := e2.2 _ _ c3
  replace aP := e2.2 _ _ aP
  replace a6 := e2.2 _ _ a6
  replace b4 := e2.2 _ _ b4
  replace m := Keep.le m e2
  have lt_at24 := GHeap.ltg e0
  simp only [Int.toNat_natCast] at e0
  refine .R rfl (.litA rfl sl_25_B ze_24_Hj rfl rfl rfl rfl) ?_
  rintro _ H25 ⟨f4, rfl, e1, ge25, d8⟩
  replace b0 := b0.trans e1
  replace c3 := e1.2 _ _ c3
  replace aP := e1.2 _ _ aP
  replace a6 := e1.2 _ _ a6
  replace b4 := e1.2 _ _ b4
  replace e0 := e1.2 _ _ e0
  replace m := Keep.le m e1
  have lt_at25 := GHeap.ltg d8
  refine .q rfl (.build bt_27_Hj rfl rfl rfl) ?_
  refine .R rfl (.allocR rfl ze_27_Hj rfl) ?_
  rintro _ H8 ⟨g8, rfl, g7, ge8, at8⟩
  have nx_H8 := g7.1
  replace b0 := b0.trans g7
  replace c3 := g7.2 _ _ c3
  replace aP := g7.2 _ _ aP
  replace a6 := g7.2 _ _ a6
  replace b4 := g7.2 _ _ b4
  replace e0 := g7.2 _ _ e0
  replace d8 := g7.2 _ _ d8
  replace m := Keep.le m g7
  refine .r0 rfl rfl (.fillA rfl sz_27_D rfl rfl rfl rfl) ?_
  rintro _ f7 ⟨rfl, w, at2008⟩
  have nx_H2008 := w.nx
  replace b0 := b0.st w (fun k hk => ⟨by omega, trivial⟩)
  have a5 : NE g6 g8 := .a
  replace c3 := w.s c3 a5.ne
  have a2 : NE gP g8 := .a
  replace aP := w.s aP a2.ne
  replace a6 := w.s a6
  replace b4 := w.s b4
  replace e0 := w.s e0
  have c8 : NE f4 g8 := .a
  replace d8 := w.s d8 c8.ne
  replace m := Keep.st m w (fun k hb hk => ⟨(by omega), trivial⟩)
  refine .nil (q7 _ _ (.seq (fun K4 p1 => .seq (fun K5 p2 => .region (.mv rfl (.nil (p2 _ _ ?_)))))))
  refine .block ?_
  refine .loopR (σ := Nat × List Int × List Int × List Int × Nat × Nat) [(6, some _), (7, some _), (8, some _)] (fun (i, ss, ts, is, gLF, gLT) => [(9, some (.int .i64 (i : Int)))]) (fun (i, ss, ts, is, gLF, gLT) H' => St [h6, h8, d5, g8] f7 H' ∧ H'.get gLF = some (.row (ints ss) 2 true) ∧ PL gLF h6 f7.next ∧ H'.get gLT = some (.row (ints ts) 2 true) ∧ PL gLT h8 f7.next ∧ H'.get d5 = some (.row (ints is) 2 true) ∧ H'.get g8 = some (.row ([.int .i64 (n : Int), .slice (some ⟨gLF, 0, none⟩) i i, .slice (some ⟨gLT, 0, none⟩) i i, .slice (some ⟨d5, 0, none⟩) n n, .slice (some ⟨f4, 0, none⟩) 0 0]) 27 true) ∧ gLF ≠ gLT ∧ gLF ≠ d5 ∧ gLF ≠ g8 ∧ gLT ≠ d5 ∧ gLT ≠ g8 ∧ d5 ≠ g8 ∧ (i ≤ ps.length ∧ ss.length = i ∧ ts.length = i ∧ is.length = n) ∧ Bd 0 18 ss ∧ Bd 0 18 ts ∧ Bd 0 18 is) (fun (i, ss, ts, is, gLF, gLT) => ps.length - i) ((0, [], [], List.replicate n 0, h6, h8)) ⟨rfl, rfl, rfl, trivial⟩ ⟨rfl, trivial⟩ ?_ ?_
  ·
   refine ⟨.refl _ _, by assumption, ⟨.inl rfl⟩, by assumption, ⟨.inl rfl⟩, by assumption, by assumption, by omega, by omega, by omega, by omega, by omega, by omega, ?_⟩
   exact ⟨⟨by omega, rfl, rfl, by simp⟩, .nil _ _, .nil _ _, .rep _ (by omega) (by omega)⟩
  rintro ⟨i, ss, ts, is, gLF, gLT⟩ HL1 ⟨u, a4, b9, r, d0, d, l, j6, i5, h4, j2, f3, f0, hI⟩ KL1 j3
  refine .forget (fr' := [(9, some (.int .i64 (i : Int))), (6, some _), (7, some _), (8, some _)]) ⟨rfl, rfl, rfl, rfl, trivial⟩ ?_
  have ge_LF : H.next ≤ gLF := b9.ge (by omega) (by omega)
  have ge_LT : H.next ≤ gLT := d0.ge (by omega) (by omega)
  have nx_HL1 := u.nx
  replace b0 := b0.st u (fun k hk => ⟨by omega, by omega, by omega, by omega, trivial⟩)
  have d2 : NE g6 h6 := .a
  have c5 : NE g6 h8 := .a
  have d1 : NE g6 d5 := .a
  replace c3 := u.same _ _ ⟨d2.ne, c5.ne, d1.ne, a5.ne, trivial⟩ c3
  have c2 : NE gP h6 := .a
  have c7 : NE gP h8 := .a
  replace aP := u.same _ _ ⟨c2.ne, c7.ne, (by first | assumption | omega), a2.ne, trivial⟩ aP
  have b6 : NE f4 h6 := .a
  have b8 : NE f4 h8 := .a
  have b3 : NE f4 d5 := .a
  replace d8 := u.same _ _ ⟨b6.ne, b8.ne, b3.ne, c8.ne, trivial⟩ d8
  replace m := Keep.st m u (fun k hb hk => ⟨(by omega), (by omega), (by omega), (by omega), trivial⟩)
  replace hK := e8.keep m (Nat.le_refl _)
  have lt_at_LF := GHeap.ltg a4
  have lt_at_LT := GHeap.ltg r
  have lt_at_Lg24 := GHeap.ltg d
  have f2 := GHeap.ltg l
  have hP := hK.ok
  obtain ⟨⟨hi, hsl, htl, hil⟩, hS, hT, hI⟩ := hI
  refine .seq (fun K6 p6 => .seq (fun K7 q3 => .region (.mv rfl (.mv rfl (.q rfl (.len sl_124_Di rfl) (.q rfl (.cmp rfl rfl rfl) (.nil (q3 _ _ ?_))))))))
  refine .cond rfl (fun l0 => ?_) (fun l0 => ?_)
  ·
   simp only [sps] at l0
   have o8 := (hP.at (i := i) (by omega)).1
   have o4 := (hP.at (i := i) (by omega)).2.1
   refine .skip ?_
   refine p6 _ _ (.seq (fun K8 o2 => ?_))
   refine .block ?_
   refine .seq (fun K9 p9 => ?_)
   refine .regionD mo_B (.q 0 (.q 1 (.q 2 (.q 3 (.q 4 (.q 5 (.q 6 (.c 7 1 (.c 8 0 (.q 9 (.c 10 0 (.done)))))))))))) (by kernel_rfl) ?_
   have sA := pcells_slA aP
   have mk := pcells_mem aP (i := i) (by omega)
   refine .q rfl (.fieldAddr fo_27_1_B rfl) ?_
   refine .q rfl (.load on_24_B rfl (by first | assumption | exact Mem.of_get l 1 _ rfl)) ?_
   refine .mv rfl rfl (.mv rfl rfl ?_)
   refine .q rfl (.idx sl_124_Di (by assumption) (by omega) rfl rfl (by omega) (by omega) rfl) ?_
   refine .q rfl (.fieldAddr fo_127_0_Dg rfl) (.q rfl (.load on_2_A rfl (mk.2 0 _ rfl)) ?_)
   refine .c1 rfl rfl rfl rfl (.litA rfl sl_24_A ze_2_Pa rfl rfl rfl rfl) ?_
   rintro _ H40 ⟨g40, rfl, e4, ge40, m2⟩
   have i6 := e4
   refine ⟨i6, ?_⟩
   replace u := u.le e4
   replace aP := e4.2 _ _ aP
   replace a4 := e4.2 _ _ a4
   replace r := e4.2 _ _ r
   replace d := e4.2 _ _ d
   replace l := e4.2 _ _ l
   have lt_at40 := GHeap.ltg m2
   clear hP
   refine .c0 rfl rfl rfl rfl (.appendI rfl sl_24_A ze_2_Pa rfl by_2_Pa sl_24_A rfl rfl (by assumption) (by assumption) (by first | omega | (simp <;> omega)) (by omega) (by omega)) ?_
   rintro _ H41 ⟨m9, rfl, f6, ge41, b2⟩
   replace u := u.sP f6
   replace aP := f6.same _ _ ⟨(b9.ne c2.ne (by omega)), trivial⟩ aP
   replace r := f6.same _ _ ⟨(Ne.symm j6), trivial⟩ r
   replace d := f6.same _ _ ⟨(Ne.symm i5), trivial⟩ d
   replace l := f6.same _ _ ⟨(Ne.symm h4), trivial⟩ l
   have lt_at41 := GHeap.ltg b2
   refine .q rfl (.fieldAddr fo_27_1_B rfl) ?_
   refine .r0 rfl rfl rfl (.storeR rfl sz_24_Ch rfl rfl rfl (by assumption) (by first | exact Nat.le_of_ble_eq_true rfl | (simp; done) | (simp <;> omega))) ?_
   rintro _ H6010 ⟨rfl, a9, a7⟩
   have nx_H6010 := a9.nx
   replace u := u.sA a9
   replace aP := a9.s aP a2.ne
   replace r := a9.same _ _ ⟨f3, trivial⟩ r
   replace d := a9.same _ _ ⟨f0, trivial⟩ d
   have c4 : NE m9 g8 := .a
   replace b2 := a9.s b2 c4.ne
   try simp only [Nat.zero_add, List.set_cons_succ, List.set_cons_zero] at a7
   refine .done ?_
   refine p9 _ _ (.seq (fun K10 k9 => ?_))
   refine .regionD mo_B (.q 0 (.q 1 (.q 2 (.q 3 (.q 4 (.q 5 (.q 6 (.c 7 1 (.c 8 0 (.q 9 (.c 10 0 (.done)))))))))))) (by kernel_rfl) ?_
   have sA := pcells_slA aP
   have mk := pcells_mem aP (i := i) (by omega)
   refine .q rfl (.fieldAddr fo_27_2_B rfl) ?_
   refine .q rfl (.load on_24_B rfl (by first | assumption | exact Mem.of_get a7 2 _ rfl)) ?_
   refine .mv rfl rfl (.mv rfl rfl ?_)
   refine .q rfl (.idx sl_124_Di (by assumption) (by omega) rfl rfl (by omega) (by omega) rfl) ?_
   refine .q rfl (.fieldAddr fo_127_1_Dg rfl) (.q rfl (.load on_2_A rfl (mk.2 1 _ rfl)) ?_)
   refine .c1 rfl rfl rfl rfl (.litA rfl sl_24_A ze_2_Pa rfl rfl rfl rfl) ?_
   rintro _ H50 ⟨g50, rfl, e5, ge50, m8⟩
   have i6 := e5
   refine ⟨i6, ?_⟩
   replace u := u.le e5
   replace aP := e5.2 _ _ aP
   replace r := e5.2 _ _ r
   replace d := e5.2 _ _ d
   replace b2 := e5.2 _ _ b2
   replace a7 := e5.2 _ _ a7
   have lt_at50 := GHeap.ltg m8
   refine .c0 rfl rfl rfl rfl (.appendI rfl sl_24_A ze_2_Pa rfl by_2_Pa sl_24_A rfl rfl (by assumption) (by assumption) (by first | omega | (simp <;> omega)) (by omega) (by omega)) ?_
   rintro _ H51 ⟨o5, rfl, f5, ge51, g2⟩
   replace u := u.sP f5
   replace aP := f5.same _ _ ⟨(d0.ne c7.ne (by omega)), trivial⟩ aP
   replace d := f5.same _ _ ⟨(Ne.symm j2), trivial⟩ d
   replace b2 := f5.s b2
   replace a7 := f5.same _ _ ⟨(Ne.symm f3), trivial⟩ a7
   refine .q rfl (.fieldAddr fo_27_2_B rfl) ?_
   refine .r0 rfl rfl rfl (.storeR rfl sz_24_Ch rfl rfl rfl (by assumption) (by first | exact Nat.le_of_ble_eq_true rfl | (simp; done) | (simp <;> omega))) ?_
   rintro _ H7010 ⟨rfl, b5, d3⟩
   replace u := u.sA b5
   replace aP := b5.s aP a2.ne
   replace d := b5.same _ _ ⟨f0, trivial⟩ d
   replace b2 := b5.s b2 c4.ne
   replace g2 := b5.s g2
   try simp only [Nat.zero_add, List.set_cons_succ, List.set_cons_zero] at d3
   refine .done ?_
   refine k9 _ _ (.seq (fun K11 m3 => .region ?_))
   have sA := pcells_slA aP
   have mk := pcells_mem aP (i := i) (by omega)
   refine .mv rfl (.mv rfl ?_)
   refine .q rfl (.idx sl_124_Di (by assumption) (by omega) rfl rfl (by omega) (by omega) rfl) ?_
   refine .q rfl (.fieldAddr fo_127_2_Dg rfl) (.q rfl (.load on_24_B rfl (mk.2 2 _ rfl)) (.q rfl (.len sl_24_A rfl) (.q rfl (.cmp rfl rfl rfl) (.nil (m3 _ _ ?_)))))
   refine .cond rfl (fun q2 => ?_) (fun q2 => ?_)
   ·
    obtain ⟨i9, k7, p8, n6⟩ : ∃ i9, i9 = is.set (ps.getD i pz).f.toNat (i : Int) ∧ i9.length = is.length ∧ Bd 0 18 i9 := ⟨_, rfl, by simp, bd_iff.2 fun x hx => by
      rcases List.mem_or_eq_of_mem_set hx with h | rfl
      · exact bd_iff.1 hI x h
      · omega⟩
    refine .regionD mo_B (.q 0 (.q 1 (.q 2 (.q 3 (.q 4 (.q 5 (.q 6 (.q 7 (.q 8 (.c 9 0 (.done))))))))))) (by kernel_rfl) ?_
    refine .q rfl (.fieldAddr fo_27_3_B rfl) ?_
    refine .q rfl (.load on_24_B rfl (by first | assumption | exact Mem.of_get d3 3 _ rfl)) ?_
    refine .mv rfl rfl (.mv rfl rfl ?_)
    refine .q rfl (.idx sl_124_Di (by assumption) (by omega) rfl rfl (by omega) (by omega) rfl) ?_
    refine .q rfl (.fieldAddr fo_127_0_Dg rfl) (.q rfl (.load on_2_A rfl (mk.2 0 _ rfl)) (.mv rfl rfl ?_))
    refine .q rfl (.idx1 sl_24_A (by first | assumption | exact SlA.of_row d (by first | rfl | (simp; done) | (simp <;> omega))) rfl rfl (by omega) (by omega)) ?_
    refine .r0 rfl rfl rfl (.storeI rfl sz_2_Cg rfl rfl (by assumption) (by first | omega | (simp <;> omega))) ?_
    rintro _ H9009 ⟨rfl, d4, i0⟩
    replace u := u.sA d4
    replace b2 := d4.s b2
    replace g2 := d4.s g2
    replace d3 := d4.same _ _ ⟨(Ne.symm f0), trivial⟩ d3
    rw [Nat.zero_add] at i0
    refine .done ?_
    refine o2 _ _ (.region (.mv rfl ?_))
    refine .q rfl (.add rfl rfl rfl (by omega) (by omega)) ?_
    refine .mv rfl (.nil ?_)
    refine j3 ((i + 1, ss ++ [(ps.getD i pz).f], ts ++ [(ps.getD i pz).t], i9, m9, o5)) _ _ ?_ ?_ ⟨rfl, rfl, rfl, rfl, trivial⟩
    ·
     refine ⟨u, by assumption, by exact ⟨.inr (by omega)⟩, by assumption, by exact ⟨.inr (by omega)⟩, by (rw [k7]; assumption), by assumption, by omega, by omega, by omega, by omega, by omega, by assumption, ?_⟩
     exact ⟨⟨by omega, by simp; omega, by simp; omega, by omega⟩, hS.snoc o8.1 (by omega), hT.snoc o4.1 (by omega), n6⟩
    (dsimp only; omega)
   obtain ⟨i9, k7, p8, n6⟩ : ∃ i9, i9 = is ∧ i9.length = is.length ∧ Bd 0 18 i9 := ⟨_, rfl, rfl, hI⟩
   refine .skip ?_
   refine o2 _ _ (.region (.mv rfl ?_))
   refine .q rfl (.add rfl rfl rfl (by omega) (by omega)) ?_
   refine .mv rfl (.nil ?_)
   refine j3 ((i + 1, ss ++ [(ps.getD i pz).f], ts ++ [(ps.getD i pz).t], i9, m9, o5)) _ _ ?_ ?_ ⟨rfl, rfl, rfl, rfl, trivial⟩
   ·
    refine ⟨u, by assumption, by exact ⟨.inr (by omega)⟩, by assumption, by exact ⟨.inr (by omega)⟩, by (rw [k7]; assumption), by assumption, by omega, by omega, by omega, by omega, by omega, by assumption, ?_⟩
    exact ⟨⟨by omega, by simp; omega, by simp; omega, by omega⟩, hS.snoc o8.1 (by omega), hT.snoc o4.1 (by omega), n6⟩
   (dsimp only; omega)
  try simp only [sps] at l0
  refine .exit ?_
  refine p1 _ _ (.seq (fun K12 l8 => .seq (fun K13 m5 => .region ?_)))
  have q6 : gLF ≠ d5 := b9.ne' (by omega) (by omega)
  have p4 : gLT ≠ d5 := d0.ne' (by omega) (by omega)
  have l9 : (Cat.mk (n : Int) ss ts is []).In HL1 (ownP gLF gLT d5 f4 fun _ => none) := (OwnCat.catR (b := H.next) ⟨a4, r, d, d8, by omega, by omega, by omega, by omega, by omega, by omega, by omega, .nil _ _ _ _, fun _ h => by simp at h, fun _ h => by simp at h, fun _ h => by simp at h⟩).inn
  refine .q rfl (.loadM ag_27_D rfl ⟨rfl, Mem.of_get l⟩) ?_
  refine .callQ rfl rfl rfl rfl @Try.call105 rfl ((by have hh := l02Fits_c (c := Cat.mk (n : Int) ss ts is []) (p := ownP gLF gLT d5 f4 fun _ => none) l9; simp only [Cat.cells, ownP, hsl, htl, hil, List.length_nil] at hh; exact hh)) ?_
  refine .q rfl (.not rfl) (.nil (m5 _ _ ?_))
  refine .cond rfl (fun o0 => ?_) (fun o0 => ?_)
  ·
   exact absurd o0 (by simp [B]; omega)
  try simp only [sps] at o0
  refine .skip ?_
  refine l8 _ _ (.seq (fun K14 n5 => .seq (fun K15 k3 => .region ?_)))
  obtain rfl : i = ps.length := by omega
  refine .mv rfl (.nil (k3 _ _ ?_))
  refine .block ?_
  refine .loopR (σ := Nat × (Nat → Option Addr) × List (List Int) × Nat) [(6, some _), (7, some _), (8, some _)] (fun (f, rr, cs, gLC) => [(10, some (.int .i64 (f : Int)))]) (fun (f, rr, cs, gLC) H' => St [f4, g8] HL1 H' ∧ H'.get gLC = some (.row ((slsL rr cs)) 24 true) ∧ PL gLC f4 HL1.next ∧ H'.get g8 = some (.row ([.int .i64 (n : Int), .slice (some ⟨gLF, 0, none⟩) ps.length ps.length, .slice (some ⟨gLT, 0, none⟩) ps.length ps.length, .slice (some ⟨d5, 0, none⟩) n n, .slice (some ⟨gLC, 0, none⟩) f f]) 27 true) ∧ gLC ≠ g8 ∧ (f ≤ ps.length ∧ cs.length = f) ∧ Tb (-1) 18 ps.length cs ∧ OwnL H.next H' 2 rr cs ∧ (∀ j, j < cs.length → rr j ≠ some ⟨gLF, 0, none⟩) ∧ (∀ j, j < cs.length → rr j ≠ some ⟨gLT, 0, none⟩) ∧ ∀ j, j < cs.length → rr j ≠ some ⟨d5, 0, none⟩) (fun (f, rr, cs, gLC) => ps.length - f) ((0, fun _ => none, [], f4)) ⟨rfl, rfl, rfl, trivial⟩ ⟨rfl, trivial⟩ ?_ ?_
  ·
   refine ⟨.refl _ _, by assumption, ⟨.inl rfl⟩, by assumption, by omega, ?_⟩
   exact ⟨⟨by omega, rfl⟩, .nil _ _ _, .nil _ _ _ _, fun _ h => by simp at h, fun _ h => by simp at h, fun _ h => by simp at h⟩
  rintro ⟨f, rr, cs, gLC⟩ HL2 ⟨a0, a1, h0, l, i8, hI⟩ KL2 l6
  refine .forget (fr' := [(10, some (.int .i64 (f : Int))), (6, some _), (7, some _), (8, some _)]) ⟨rfl, rfl, rfl, rfl, trivial⟩ ?_
  have ge_LC : H.next ≤ gLC := h0.ge (by omega) (by omega)
  have nx_HL2 := a0.nx
  replace b0 := b0.st a0 (fun k hk => ⟨by omega, by omega, trivial⟩)
  have c9 : NE g6 f4 := .a
  replace c3 := a0.same _ _ ⟨c9.ne, a5.ne, trivial⟩ c3
  replace aP := a0.same _ _ ⟨(by first | assumption | omega), a2.ne, trivial⟩ aP
  replace a4 := a0.same _ _ ⟨(Ne.symm (b9.ne b6.ne (by omega))), h4, trivial⟩ a4
  replace r := a0.same _ _ ⟨(Ne.symm (d0.ne b8.ne (by omega))), f3, trivial⟩ r
  replace d := a0.same _ _ ⟨(Ne.symm b3.ne), f0, trivial⟩ d
  replace m := Keep.st m a0 (fun k hb hk => ⟨(by omega), (by omega), trivial⟩)
  have lt_at_LC := GHeap.ltg a1
  have f2 := GHeap.ltg l
  have rk := St.refl [gLC, g8] HL2
  obtain ⟨⟨hf, hcl⟩, hC, hR, o3, o7, o9⟩ := hI
  have hatC := a1
  have l7 := l
  have hfl : (slsL rr cs).length = cs.length := length_slsL _ _
  refine .seq (fun K16 n7 => .seq (fun K17 n0 => .region (.mv rfl (.mv rfl (.q rfl (.len sl_124_Di rfl) (.q rfl (.cmp rfl rfl rfl) (.nil (n0 _ _ ?_))))))))
  refine .cond rfl (fun k2 => ?_) (fun k2 => ?_)
  ·
   simp only [sps] at k2
   refine .skip ?_
   refine n7 _ _ (.seq (fun K18 o1 => ?_))
   refine .block ?_
   refine .seq (fun K19 n8 => .region ?_)
   refine .R rfl (.litA rfl sl_24_A ze_2_Pa rfl rfl rfl rfl) ?_
   rintro _ l4 ⟨j5, rfl, e3, ge79, i2⟩
   have nx_H79 := e3.1
   replace a0 := a0.le e3
   replace rk := rk.le e3
   replace aP := e3.2 _ _ aP
   replace a1 := e3.2 _ _ a1
   replace l := e3.2 _ _ l
   replace m := Keep.le m e3
   have lt_at79 := GHeap.ltg i2
   replace i2 : GHeap.get l4 j5 = some (.row (ints []) 2 true) := i2
   refine .mv rfl (.nil (n8 _ _ (.seq (fun K20 n1 => .seq (fun K21 k4 => .region (.mv rfl (.nil (k4 _ _ ?_))))))))
   refine .block ?_
   refine .loopR (σ := Nat × List Int × Nat × Nat) [(6, some _), (7, some _), (8, some _), (10, some _)] (fun (g, row, a8, d7) => [(12, some (.int .i64 (g : Int))), (11, some (.slice (some ⟨a8, 0, none⟩) d7 d7))]) (fun (g, row, a8, d7) H' => St [j5] l4 H' ∧ H'.get a8 = some (.row (ints row) 2 true) ∧ PL a8 j5 l4.next ∧ d7 = row.length ∧ (g ≤ ps.length ∧ row.length = g) ∧ Bd (-1) 18 row) (fun (g, row, a8, d7) => ps.length - g) ((0, [], _, _)) ⟨rfl, rfl, rfl, rfl, trivial⟩ ⟨rfl, rfl, trivial⟩ ?_ ?_
   ·
    refine ⟨.refl _ _, by assumption, ⟨.inl rfl⟩, by rfl, ?_⟩
    exact ⟨⟨by omega, rfl⟩, .nil _ _⟩
   rintro ⟨g, row, a8, d7⟩ HL3 ⟨v, o, a3, i3, hI⟩ KL3 j1
   refine .forget (fr' := [(12, some (.int .i64 (g : Int))), (11, some (.slice (some ⟨a8, 0, none⟩) d7 d7)), (6, some _), (7, some _), (8, some _), (10, some _)]) ⟨rfl, rfl, rfl, rfl, rfl, rfl, trivial⟩ ?_
   have ge_L11 : H.next ≤ a8 := a3.ge (by omega) (by omega)
   have nx_HL3 := v.nx
   replace a0 := a0.sA v
   replace rk := rk.sA v
   replace aP := v.s aP
   have b7 : NE gLC j5 := .a
   replace a1 := v.s a1 b7.ne
   have c6 : NE g8 j5 := .a
   replace l := v.s l c6.ne
   replace m := Keep.st m v (fun k hb hk => ⟨(by omega), trivial⟩)
   replace hK := e8.keep m (Nat.le_refl _)
   have lt_at_L11 := GHeap.ltg o
   have hP := hK.ok
   obtain ⟨⟨hg, hrl⟩, hW⟩ := hI
   refine .seq (fun K22 l3 => .seq (fun K23 l1 => .region (.mv rfl (.mv rfl (.q rfl (.len sl_124_Di rfl) (.q rfl (.cmp rfl rfl rfl) (.nil (l1 _ _ ?_))))))))
   refine .cond rfl (fun n9 => ?_) (fun n9 => ?_)
   ·
    simp only [sps] at n9
    refine .skip ?_
    refine l3 _ _ (.seq (fun K24 j0 => ?_))
    refine .block ?_
    refine .seq (fun K25 k6 => .region (.mv rfl (.nil (k6 _ _ (.seq (fun K26 k1 => .seq (fun K27 l5 => ?_)))))))
    refine .regionD mo_B (.q 0 (.q 1 (.q 2 (.q 3 (.q 4 (.q 5 (.q 6 (.q 7 (.q 8 (.q 9 (.q 10 (.done)))))))))))) (by kernel_rfl) ?_
    have sA := pcells_slA aP
    have mf := pcells_mem aP (i := f) (by omega)
    have mg := pcells_mem aP (i := g) (by omega)
    refine .mv rfl rfl (.mv rfl rfl ?_)
    refine .q rfl (.idx sl_124_Di (by assumption) (by omega) rfl rfl (by omega) (by omega) rfl) ?_
    refine .q rfl (.fieldAddr fo_127_1_Dg rfl) (.q rfl (.load on_2_A rfl (mf.2 1 _ rfl)) (.mv rfl rfl (.mv rfl rfl ?_)))
    refine .q rfl (.idx sl_124_Di (by assumption) (by omega) rfl rfl (by omega) (by omega) rfl) ?_
    refine .q rfl (.fieldAddr fo_127_0_Dg rfl) (.q rfl (.load on_2_A rfl (mg.2 0 _ rfl)) (.q rfl (.cmp rfl rfl rfl) ?_))
    refine .done ?_
    refine l5 _ _ ?_
    refine .cond rfl (fun o6 => ?_) (fun o6 => ?_)
    ·
     try simp only [sps] at o6
     refine .seq (fun K28 l2 => ?_)
     refine .regionD mo_B (.q 0 (.q 1 (.q 2 (.q 3 (.q 4 (.q 6 (.q 7 (.q 8 (.q 9 (.q 10 (.c 5 1 (.c 11 0 (.q 12 (.done)))))))))))))) (by kernel_rfl) ?_
     have pf := hP.at (i := f) (by omega)
     have pg := hP.at (i := g) (by omega)
     refine .mv rfl rfl (.mv rfl rfl ?_)
     refine .q rfl (.idx sl_124_Di (by assumption) (by omega) rfl rfl (by omega) (by omega) rfl) ?_
     refine .q rfl (.fieldAddr fo_127_2_Dg rfl) (.q rfl (.load on_24_B rfl (mf.2 2 _ rfl)) (.mv rfl rfl (.mv rfl rfl ?_)))
     refine .q rfl (.idx sl_124_Di (by assumption) (by omega) rfl rfl (by omega) (by omega) rfl) ?_
     refine .q rfl (.fieldAddr fo_127_2_Dg rfl) (.q rfl (.load on_24_B rfl (mg.2 2 _ rfl)) ?_)
     refine .call1 rfl rfl rfl rfl rfl @Try.call108 rfl (l01Own_c (Ints.of_get pf.2.2.2.2)) ?_
     rintro _ H102 ⟨d9, g102, rfl, i7, ge102⟩
     have i6 := d9
     refine ⟨i6, ?_⟩
     replace v := v.le d9
     replace aP := d9.2 _ _ aP
     replace o := d9.2 _ _ o
     replace m := Keep.le m d9
     replace hK := e8.keep m (Nat.le_refl _)
     have lt_at102 := GHeap.ltg i7
     clear hP
     have hP := hK.ok
     have iG := Ints.of_get (hP.at (i := g) (by omega)).2.2.2.2
     refine .c0 rfl rfl rfl rfl (.appendL rfl sl_24_A ze_2_Pa rfl by_2_Pa sl_24_A rfl rfl (by assumption) (by first | assumption | exact Ints.of_get (by assumption)) (by first | omega | (simp <;> omega)) (by omega) (by omega)) ?_
     rintro _ m4 ⟨g108, rfl, e6, ge108, g9⟩
     replace v := v.sA e6
     replace aP := e6.s aP
     replace o := e6.s o
     replace m := Keep.st m e6 (fun k hb hk => ⟨(by omega), trivial⟩)
     replace hK := e8.keep m (Nat.le_refl _)
     have lt_at108 := GHeap.ltg g9
     clear hP
     have hP := hK.ok
     refine .mv rfl rfl ?_
     refine .done ?_
     refine l2 _ _ (.seq (fun K29 k8 => .region (.mv rfl (.nil (k8 _ _ ?_)))))
     refine .block ?_
     refine .loopR (σ := Nat × Int) [(6, some _), (7, some _), (8, some _), (10, some _), (11, some _), (12, some _), (14, some _)] (fun (k, h3) => [(15, some (.int .i64 (k : Int))), (13, some (.int .i64 h3))]) (fun (k, h3) H' => m4 = H' ∧ k ≤ ps.length ∧ -1 ≤ h3 ∧ h3 ≤ 18) (fun (k, h3) => ps.length - k) ((0, -1)) ⟨rfl, rfl, rfl, rfl, rfl, rfl, rfl, trivial⟩ ⟨rfl, rfl, trivial⟩ ?_ ?_
     ·
      refine ⟨rfl, ?_⟩
      exact ⟨by omega, by omega, by omega⟩
     rintro ⟨k, h3⟩ _ ⟨rfl, hI⟩ KL4 i4
     refine .forget (fr' := [(15, some (.int .i64 (k : Int))), (13, some (.int .i64 h3)), (6, some _), (7, some _), (8, some _), (10, some _), (11, some _), (12, some _), (14, some _)]) ⟨rfl, rfl, rfl, rfl, rfl, rfl, rfl, rfl, rfl, trivial⟩ ?_
     obtain ⟨hk, n3⟩ := hI
     refine .seq (fun K30 n4 => .seq (fun K31 m0 => .region (.mv rfl (.mv rfl (.q rfl (.len sl_124_Di rfl) (.q rfl (.cmp rfl rfl rfl) (.nil (m0 _ _ ?_))))))))
     refine .cond rfl (fun h7 => ?_) (fun h7 => ?_)
     ·
      simp only [sps] at h7
      refine .skip ?_
      refine n4 _ _ (.seq (fun K32 h9 => ?_))
      refine .block ?_
      refine .seq (fun K33 j8 => ?_)
      refine .regionD mo_B (.q 0 (.q 1 (.q 2 (.q 3 (.q 4 (.q 5 (.q 6 (.q 7 (.q 8 (.q 9 (.q 10 (.q 11 (.q 12 (.q 13 (.q 14 (.q 15 (.q 16 (.q 17 (.c 18 0 (.q 19 (.done))))))))))))))))))))) (by kernel_rfl) ?_
      have sA := pcells_slA aP
      have mk := pcells_mem aP (i := k) (by omega)
      have mf := pcells_mem aP (i := f) (by omega)
      have pk := hP.at (i := k) (by omega)
      refine .mv rfl rfl (.mv rfl rfl ?_)
      refine .q rfl (.idx sl_124_Di (by assumption) (by omega) rfl rfl (by omega) (by omega) rfl) ?_
      refine .q rfl (.fieldAddr fo_127_0_Dg rfl) (.q rfl (.load on_2_A rfl (mk.2 0 _ rfl)) (.mv rfl rfl (.mv rfl rfl ?_)))
      refine .q rfl (.idx sl_124_Di (by assumption) (by omega) rfl rfl (by omega) (by omega) rfl) ?_
      refine .q rfl (.fieldAddr fo_127_0_Dg rfl) (.q rfl (.load on_2_A rfl (mf.2 0 _ rfl)) (.q rfl (.cmp rfl rfl rfl) (.mv rfl rfl ?_)))
      refine .split (fun h5 => ?_) (fun h5 => ?_)
      ·
       try simp only [sps] at h5
       refine .qg rfl (.move rfl) (.qg rfl (.move rfl) ?_)
       refine .qg rfl (.idx sl_124_Di (by assumption) (by omega) rfl rfl (by omega) (by omega) rfl) ?_
       refine .qg rfl (.fieldAddr fo_127_2_Dg rfl) (.qg rfl (.load on_24_B rfl (mk.2 2 _ rfl)) (.qg rfl (.move rfl) ?_))
       refine .callQ0g rfl rfl rfl rfl rfl rfl rfl @Try.call131 rfl ((by have hh := l01Same_c (h := Ints.of_get pk.2.2.2.2) (h' := Ints.of_get g9) (hy := by rw [List.length_append]; omega); rw [List.length_append] at hh; exact hh)) ?_
       refine .q rfl (.pickT rfl rfl) ?_
       refine .done ?_
       refine j8 _ _ ?_
       refine .cond rfl (fun i1 => ?_) (fun i1 => ?_)
       ·
        try simp only [sps] at i1
        refine .region (.mv rfl (.mv rfl (.nil (h9 _ _ (.region (.mv rfl ?_))))))
        refine .q rfl (.add rfl rfl rfl (by omega) (by omega)) ?_
        refine .mv rfl (.nil ?_)
        refine i4 ((k + 1, _)) _ _ ?_ ?_ ⟨rfl, rfl, rfl, rfl, rfl, rfl, rfl, rfl, rfl, trivial⟩
        ·
         refine ⟨rfl, ?_⟩
         exact ⟨by omega, by omega, by omega⟩
        (dsimp only; omega)
       try simp only [sps] at i1
       refine .skip ?_
       refine h9 _ _ (.region (.mv rfl ?_))
       refine .q rfl (.add rfl rfl rfl (by omega) (by omega)) ?_
       refine .mv rfl (.nil ?_)
       refine i4 ((k + 1, _)) _ _ ?_ ?_ ⟨rfl, rfl, rfl, rfl, rfl, rfl, rfl, rfl, rfl, trivial⟩
       ·
        refine ⟨rfl, ?_⟩
        exact ⟨by omega, by omega, by omega⟩
       (dsimp only; omega)
      try simp only [sps] at h5
      refine .z rfl (.z rfl (.z rfl (.z rfl (.z rfl (.z rfl (.sgc rfl rfl rfl rfl rfl rfl (.q rfl (.pickF rfl rfl) ?_)))))))
      refine .done ?_
      refine j8 _ _ ?_
      refine .condF rfl ?_
      refine .skip ?_
      refine h9 _ _ (.region (.mv rfl ?_))
      refine .q rfl (.add rfl rfl rfl (by omega) (by omega)) ?_
      refine .mv rfl (.nil ?_)
      refine i4 ((k + 1, _)) _ _ ?_ ?_ ⟨rfl, rfl, rfl, rfl, rfl, rfl, rfl, rfl, rfl, trivial⟩
      ·
       refine ⟨rfl, ?_⟩
       exact ⟨by omega, by omega, by omega⟩
      (dsimp only; omega)
     try simp only [sps] at h7
     refine .exit ?_
     refine k1 _ _ (.region (.mv rfl (.mv rfl ?_)))
     refine .R rfl (.litA rfl sl_24_A ze_2_Pa rfl rfl rfl rfl) ?_
     rintro _ H138 ⟨g138, rfl, h1, ge138, j7⟩
     replace v := v.le h1
     replace o := h1.2 _ _ o
     have lt_at138 := GHeap.ltg j7
     clear hP
     refine .R rfl (.appendI rfl sl_24_A ze_2_Pa rfl by_2_Pa sl_24_A rfl rfl (by assumption) (by assumption) (by first | omega | (simp <;> omega)) (by omega) (by omega)) ?_
     rintro _ H139 ⟨g139, rfl, j4, ge139, at139⟩
     replace v := v.sP j4
     refine .mv rfl (.nil (j0 _ _ (.region (.mv rfl ?_))))
     refine .q rfl (.add rfl rfl rfl (by omega) (by omega)) ?_
     refine .mv rfl (.nil ?_)
     refine j1 ((g + 1, row ++ [h3], _, _)) _ _ ?_ ?_ ⟨rfl, rfl, rfl, rfl, rfl, rfl, trivial⟩
     ·
      refine ⟨v, by assumption, by exact ⟨.inr (by omega)⟩, by (simp only [List.length_append, List.length_cons, List.length_nil] <;> omega), ?_⟩
      exact ⟨⟨by omega, by simp; omega⟩, hW.snoc (by omega) (by omega)⟩
     (dsimp only; omega)
    obtain ⟨h3, p7, n3⟩ : ∃ h3 : Int, h3 = -1 ∧ -1 ≤ h3 ∧ h3 ≤ 18 := ⟨_, rfl, by omega, by omega⟩
    refine .skip ?_
    refine k1 _ _ (.region (.mv rfl (.mv rfl ?_)))
    refine .R rfl (.litA rfl sl_24_A ze_2_Pa rfl rfl rfl rfl) ?_
    rintro _ H138x2 ⟨g138x2, rfl, e7, ge138x2, g5⟩
    replace v := v.le e7
    replace o := e7.2 _ _ o
    have lt_at138x2 := GHeap.ltg g5
    refine .R rfl (.appendI rfl sl_24_A ze_2_Pa rfl by_2_Pa sl_24_A rfl rfl (by assumption) (by assumption) (by first | omega | (simp <;> omega)) (by omega) (by omega)) ?_
    rintro _ H139x2 ⟨g139x2, rfl, g1, ge139x2, at139x2⟩
    replace v := v.sP g1
    refine .mv rfl (.nil (j0 _ _ (.region (.mv rfl ?_))))
    refine .q rfl (.add rfl rfl rfl (by omega) (by omega)) ?_
    refine .mv rfl (.nil ?_)
    refine j1 ((g + 1, row ++ [h3], _, _)) _ _ ?_ ?_ ⟨rfl, rfl, rfl, rfl, rfl, rfl, trivial⟩
    ·
     refine ⟨v, by (rw [p7]; assumption), by exact ⟨.inr (by omega)⟩, by (simp only [List.length_append, List.length_cons, List.length_nil] <;> omega), ?_⟩
     exact ⟨⟨by omega, by simp; omega⟩, hW.snoc (by omega) (by omega)⟩
    (dsimp only; omega)
   try simp only [sps] at n9
   refine .exit ?_
   refine n1 _ _ (.region ?_)
   obtain rfl : g = ps.length := by omega
   obtain rfl := i3
   refine .q rfl (.fieldAddr fo_27_4_B rfl) ?_
   refine .q rfl (.load on_25_B rfl (by first | assumption | exact Mem.of_get l 4 _ rfl)) ?_
   refine .mv rfl ?_
   refine .R rfl (.litA rfl sl_25_B ze_24_Hj rfl rfl rfl rfl) ?_
   rintro _ H143 ⟨g143, rfl, d6, ge143, k0⟩
   replace a0 := a0.le d6
   replace rk := rk.le d6
   replace a1 := d6.2 _ _ a1
   replace l := d6.2 _ _ l
   replace o := d6.2 _ _ o
   have lt_at143 := GHeap.ltg k0
   refine .R rfl (.appendV rfl sl_25_B ze_24_Hj rfl by_24_Hj sl_25_B rfl rfl (by assumption) (by assumption) (by first | omega | (simp <;> omega)) rfl rfl (by omega) (by omega)) ?_
   rintro _ H144 ⟨m1, rfl, f1, ge144, h2⟩
   replace a0 := a0.sP f1
   replace rk := rk.sP f1
   replace l := f1.same _ _ ⟨(Ne.symm i8), trivial⟩ l
   replace o := f1.same _ _ ⟨(Ne.symm (a3.ne b7.ne (by omega))), trivial⟩ o
   refine .q rfl (.fieldAddr fo_27_4_B rfl) ?_
   refine .r0 rfl rfl (.storeR rfl sz_25_Ch rfl rfl rfl (by assumption) (by first | exact Nat.le_of_ble_eq_true rfl | (simp; done) | (simp <;> omega))) ?_
   rintro _ H28006 ⟨rfl, b1, g0⟩
   replace a0 := a0.sA b1
   replace rk := rk.sA b1
   replace o := b1.same _ _ ⟨(Ne.symm (a3.ne c6.ne (by omega))), trivial⟩ o
   replace h2 := b1.s h2
   try simp only [Nat.zero_add, List.set_cons_succ, List.set_cons_zero] at g0
   refine .nil (o1 _ _ (.region (.mv rfl ?_)))
   refine .q rfl (.add rfl rfl rfl (by omega) (by omega)) ?_
   refine .mv rfl (.nil ?_)
   refine l6 ((f + 1, upd rr cs.length (some ⟨a8, 0, none⟩), cs ++ [row], m1)) _ _ ?_ ?_ ⟨rfl, rfl, rfl, rfl, trivial⟩
   ·
    refine ⟨a0, by (rw [slsL_snoc]; assumption), by exact ⟨.inr (by omega)⟩, by assumption, by omega, ?_⟩
    have hR' := hR.st rk (.cons (hR.neT hatC rfl) (.cons (hR.neT l7 rfl) (.nil _ _)))
    have p5 := hR.ne (g := a8) (a3.ge (by omega) (by omega))
    have hx1 : a8 ≠ gLF := a3.ne' (by omega) (by omega)
    have hx2 : a8 ≠ gLT := a3.ne' (by omega) (by omega)
    have hx3 : a8 ≠ d5 := a3.ne' (by omega) (by omega)
    exact ⟨⟨by omega, by simp; omega⟩, hC.snoc (by omega) hW, hR'.snoc2 (by assumption) p5 (by omega), ne_snoc o3 (by omega), ne_snoc o7 (by omega), ne_snoc o9 (by omega)⟩
   (dsimp only; omega)
  try simp only [sps] at k2
  refine .exit ?_
  refine n5 _ _ (.seq (fun K34 m6 => .region ?_))
  refine .q rfl (.loadM ag_27_D rfl ⟨rfl, Mem.of_get l⟩) ?_
  refine .r0 rfl rfl (.fillA rfl sz_27_D rfl rfl rfl rfl) ?_
  rintro _ H29001 ⟨rfl, y, e9⟩
  replace b0 := b0.st y (fun k hk => ⟨by omega, trivial⟩)
  replace a4 := y.same _ _ ⟨(Ne.symm (b9.ne d2.ne (by omega))), trivial⟩ a4
  replace r := y.same _ _ ⟨(Ne.symm (d0.ne c5.ne (by omega))), trivial⟩ r
  replace d := y.s d (Ne.symm d1.ne)
  replace a1 := y.same _ _ ⟨(Ne.symm (h0.ne c9.ne (by omega))), trivial⟩ a1
  replace l := y.s l (Ne.symm a5.ne)
  have mm29001 : MemN _ _ _ _ _ := ⟨rfl, Mem.of_get e9⟩
  refine .nil (m6 _ _ ?_)
  refine .ret ?_
  refine k5 _ _ ?_
  refine ⟨_, _, _, _, rfl, ag_27_D, (by rfl), (Mem.of_get e9), ?_⟩
  obtain rfl : f = ps.length := by omega
  have q6 : gLF ≠ d5 := b9.ne' (by omega) (by omega)
  have p4 : gLT ≠ d5 := d0.ne' (by omega) (by omega)
  have m7 := c3
  have hR' := hR.st y (.cons (hR.neT m7 rfl) (.nil _ _))
  exact ⟨⟨n, ss, ts, is, cs⟩, rect_mk (by omega) (by omega) (by omega) (hS.mono (by omega) (by omega)) (hT.mono (by omega) (by omega)) (by omega) (hI.mono (by omega) (by omega)) (by omega) (by rw [hsl]; exact hC.mono (by omega) (by omega)), b0, gLF, gLT, d5, gLC, rr, by simp [Cat.cells, ownP, hsl, htl, hil, hcl], ⟨a4, r, d, a1, by omega, by omega, by omega, by omega, by omega, by omega, by omega, hR', o3, o7, o9⟩⟩
end Go.Proofs.Ytfanjkbaemhbmaa
namespace Go.Proofs.Ytfanjkbaemhbmaa
open Go Go.GL Go.RowKit Go.Proofs
set_option maxHeartbeats 8000000 in
theorem l02Relation_c {gS n : Nat} {H : GHeap} (hs : DSrc 86 H gS := by assumption) (hn : n ≤ 8) :
    GCalls Try.prog 32 [.pointer (some ⟨gS, 0, none⟩), .int .i64 (n : Int)] H (NewRel 86 gS n H) := by
  have hlS := hs.lt
  refine GCalls.body (N := 95) (rs := [.tmp 4]) Try.func32 rfl rfl rfl rfl (fun Qx c0 hend => ?_)
  refine .fg [0, 1] rfl ?_
  have b := St.refl [gS] H
  refine .seq (fun K1 j5 => .region (.mv rfl (.nil (j5 _ _ (.seq (fun K2 j7 => .region ?_))))))
  refine .R rfl (.litA rfl sl_25_B ze_24_Hj rfl rfl rfl rfl) ?_
  rintro _ H12 ⟨j1, rfl, c6, ge12, f4⟩
  replace b := b.le c6
  refine .mv rfl (.nil (j7 _ _ (.seq (fun K3 j9 => .seq (fun K4 i8 => .region (.mv rfl (.nil (i8 _ _ ?_))))))))
  refine .block ?_
  refine .loopR (σ := Nat × Nat × List (List Int) × (Nat → Option Addr)) [(0, some _), (1, some _)] (fun (i, gV, T, rr) => [(6, some (.int .i64 (i : Int))), (5, some (.slice (some ⟨gV, 0, none⟩) i i))]) (fun (i, gV, T, rr) H' => i ≤ n ∧ RelSt 86 2 24 H H' gS gV n i rr T) (fun (i, gV, T, rr) => n - i) ((0, j1, [], fun _ => none)) ⟨rfl, rfl, trivial⟩ ⟨rfl, rfl, trivial⟩ ?_ ?_
  ·
   exact ⟨by omega, b, f4, by omega, .nil _ _ _ _, rfl, fun i hi => by simp at hi, hs.le c6⟩
  rintro ⟨i, gV, T, rr⟩ HL1 hI KL1 f3
  refine .forget (fr' := [(6, some (.int .i64 (i : Int))), (5, some (.slice (some ⟨gV, 0, none⟩) i i)), (0, some _), (1, some _)]) ⟨rfl, rfl, rfl, rfl, trivial⟩ ?_
  obtain ⟨hi, hS⟩ := hI
  obtain ⟨b, a5, b5, hR, hlen, hrow, hs⟩ := id hS
  have rk := St.refl [gS] HL1
  have hfl : (slsL rr T).length = T.length := length_slsL _ _
  have lt_a5 := GHeap.ltg a5
  refine .seq (fun K5 i9 => .seq (fun K6 j2 => .region (.mv rfl (.mv rfl (.q rfl (.cmp rfl rfl rfl) (.nil (j2 _ _ ?_)))))))
  refine .cond rfl (fun f5 => ?_) (fun f5 => ?_)
  ·
   simp only [sps] at f5
   refine .skip ?_
   refine i9 _ _ (.seq (fun K7 j6 => ?_))
   refine .block ?_
   refine .seq (fun K8 i7 => .region (.mv rfl ?_))
   refine .R rfl (.makeI rfl sl_24_A ze_2_Pa by_2_Pa rfl rfl (by omega) (by omega) (by omega) (by omega)) ?_
   rintro _ H19 ⟨c5, rfl, b3, ge19, c8⟩
   replace b := b.le b3
   replace hs := hs.le b3
   replace rk := rk.le b3
   replace a5 := b3.2 _ _ a5
   simp only [Int.toNat_natCast] at c8
   refine .mv rfl (.nil (i7 _ _ (.seq (fun K9 j3 => .region (.mv rfl (.mv rfl ?_))))))
   refine .q rfl (.idxN sl_24_A (by first | assumption | exact SlA.of_row c8 (by first | rfl | (simp; done) | (simp <;> omega))) rfl rfl (by omega)) ?_
   refine .r0 rfl rfl (.storeI rfl sz_2_Cg rfl rfl (by assumption) (by first | omega | (simp <;> omega))) ?_
   rintro _ H6003 ⟨rfl, m, a2⟩
   replace b := b.sA m
   replace hs := hs.sA m
   replace rk := rk.sA m
   have e : NE gV c5 := .a
   replace a5 := m.s a5 e.ne
   rw [Nat.zero_add] at a2
   refine .nil (j3 _ _ (.seq (fun K10 d8 => .seq (fun K11 g7 => .region (.mv rfl ?_)))))
   refine .q rfl (.add rfl rfl rfl (by omega) (by omega)) ?_
   refine .mv rfl (.nil (g7 _ _ ?_))
   refine .block ?_
   refine .loopR (σ := Nat × List Int) [(0, some _), (1, some _), (5, some _), (6, some _), (7, some _)] (fun (j, row) => [(8, some (.int .i64 (j : Int)))]) (fun (j, row) H' => (j ≤ n ∧ row.length = n) ∧ RelSt 86 2 24 H H' gS gV n i rr T ∧ H'.get c5 = some (.row (ints row) 2 true) ∧ ∀ j, j < T.length → rr j ≠ some ⟨c5, 0, none⟩) (fun (j, row) => n - j) ((i + 1, (List.replicate n 0).set i 1)) ⟨rfl, rfl, rfl, rfl, rfl, trivial⟩ ⟨rfl, trivial⟩ ?_ ?_
   ·
    exact ⟨⟨by omega, by simp⟩, ⟨b, a5, b5, hR.st rk (.cons (hR.lowNe hlS) (.nil _ _)), hlen, hrow, hs⟩, a2, hR.ne (by omega)⟩
   rintro ⟨j, row⟩ HL2 hI KL2 f9
   refine .forget (fr' := [(8, some (.int .i64 (j : Int))), (0, some _), (1, some _), (5, some _), (6, some _), (7, some _)]) ⟨rfl, rfl, rfl, rfl, rfl, rfl, trivial⟩ ?_
   obtain ⟨⟨hj, hrl⟩, hS, a7, h7⟩ := hI
   obtain ⟨b, a5, b5, hR, hlen, hrow, hs⟩ := id hS
   have rk := St.refl [gS, c5, gV] HL2
   have lt_a7 := GHeap.ltg a7
   refine .seq (fun K12 g3 => .seq (fun K13 g9 => .region (.mv rfl (.mv rfl (.q rfl (.cmp rfl rfl rfl) (.nil (g9 _ _ ?_)))))))
   refine .cond rfl (fun e5 => ?_) (fun e5 => ?_)
   ·
    try simp only [sps] at e5
    refine .skip ?_
    refine g3 _ _ (.seq (fun K14 h8 => ?_))
    refine .block ?_
    refine .region (.mv rfl (.mv rfl (.mv rfl ?_)))
    refine .call rfl rfl rfl rfl @Try.call30 rfl (l01Next_c) ?_
    rintro _ H33 ⟨j4, rfl, ka33, kb33, kc33, b0, hs⟩
    replace b := b.sA b0
    replace rk := rk.sA b0
    have d : NE gV gS := .a
    replace a5 := b0.s a5 d.ne
    replace a7 := b0.s a7
    refine .q rfl (.idxN sl_24_A (by first | assumption | exact SlA.of_row a7 (by first | rfl | (simp; done) | (simp <;> omega))) rfl rfl (by omega)) ?_
    refine .r0 rfl rfl (.storeI rfl sz_2_Cg rfl rfl (by assumption) (by first | omega | (simp <;> omega))) ?_
    rintro _ H10005 ⟨rfl, f, b4⟩
    replace b := b.sA f
    replace rk := rk.sA f
    replace hs := hs.sA f
    have e : NE gV c5 := .a
    replace a5 := f.s a5 e.ne
    rw [Nat.zero_add] at b4
    refine .nil (h8 _ _ (.region (.mv rfl ?_)))
    refine .q rfl (.add rfl rfl rfl (by omega) (by omega)) ?_
    refine .mv rfl (.nil ?_)
    refine f9 ((j + 1, row.set j j4)) _ _ ?_ ?_ ⟨rfl, rfl, rfl, rfl, rfl, rfl, trivial⟩
    ·
     exact ⟨⟨by omega, by simp; omega⟩, ⟨b, a5, b5, hR.st rk (.cons (hR.lowNe hlS) (.cons h7 (.cons (hR.neT hS.a5 rfl) (.nil _ _)))), hlen, hrow, hs⟩, by assumption, h7⟩
    (dsimp only; omega)
   try simp only [sps] at e5
   refine .exit ?_
   refine d8 _ _ (.region (.mv rfl (.mv rfl ?_)))
   refine .R rfl (.litA rfl sl_25_B ze_24_Hj rfl rfl rfl rfl) ?_
   rintro _ H37 ⟨g37, rfl, v, ge37, i1⟩
   replace b := b.le v
   replace hs := hs.le v
   replace rk := rk.le v
   replace a5 := v.2 _ _ a5
   replace a7 := v.2 _ _ a7
   have lt_at37 := GHeap.ltg i1
   refine .R rfl (.appendV rfl sl_25_B ze_24_Hj rfl by_24_Hj sl_25_B rfl rfl (by assumption) (by assumption) (by first | omega | (simp <;> omega)) rfl rfl (by omega) (by omega)) ?_
   rintro _ H38 ⟨j8, rfl, b2, ge38, at38⟩
   replace b := b.sA b2
   replace hs := hs.sA b2
   replace rk := rk.sA b2
   replace a7 := b2.s a7
   refine .mv rfl (.nil (j6 _ _ (.region (.mv rfl ?_))))
   refine .q rfl (.add rfl rfl rfl (by omega) (by omega)) ?_
   refine .mv rfl (.nil ?_)
   refine f3 ((i + 1, j8, T ++ [row], upd rr T.length (some ⟨c5, 0, none⟩))) _ _ ?_ ?_ ⟨rfl, rfl, rfl, rfl, trivial⟩
   ·
    exact ⟨by omega, b, by rw [slsL_snoc, hrl]; assumption, by omega, (hR.st rk (.cons (hR.lowNe hlS) (.cons h7 (.cons (hR.neT hS.a5 rfl) (.nil _ _))))).snoc2 a7 h7 (by omega), by simp; omega, rows_snoc hrow hrl, hs⟩
   (dsimp only; omega)
  try simp only [sps] at f5
  refine .exit ?_
  refine j9 _ _ (.seq (fun K15 b9 => .seq (fun K16 d1 => .region (.mv rfl (.q rfl (.cmp rfl rfl rfl) (.mv rfl ?_))))))
  refine .split (fun e6 => ?_) (fun e6 => ?_)
  ·
   try simp only [sps] at e6
   refine .qg rfl (.move rfl) ?_
   refine .callg rfl rfl rfl rfl rfl rfl @Try.call30 rfl (l01Next_c) ?_
   rintro _ i5 ⟨k43, rfl, ka43, kb43, kc43, c3, hs⟩
   replace b := b.sA c3
   replace rk := rk.sA c3
   have d : NE gV gS := .a
   replace a5 := c3.s a5 d.ne
   refine .qg rfl (.cmp rfl rfl rfl) (.q rfl (.pickT rfl rfl) (.nil (d1 _ _ ?_)))
   refine .cond rfl (fun d5 => ?_) (fun d5 => ?_)
   ·
    simp only [sps] at d5
    have j0 := hR.st rk (.cons (hR.lowNe hlS) (.nil _ _))
    obtain ⟨gi, hgi, hbi, hati⟩ := j0.row ((n : Int) - 1).toNat (by omega)
    have m3 := row_ne a5 hati rfl
    have hrw := hrow ((n : Int) - 1).toNat (by omega)
    refine .regionDB mo_B (.q 0 (.q 1 (.q 2 (.q 3 (.q 4 (.q 5 (.q 6 (.c 7 1 (.q 8 (.c 9 0 (.done))))))))))) (by kernel_rfl) (GHeap.le_erase i5 gS) ?_
    have u := GHeap.le_erase i5 gS
    have i6 := GHeap.get_erase_of (g := gS) a5 (by omega)
    have hatiB := GHeap.get_erase_of (g := gS) hati (by omega)
    have cC := slsL_cell i6 (i := ((n : Int) - 1).toNat) (by omega)
    rw [hgi] at cC
    refine .qB rfl u (.move rfl) (.qB rfl u (.move rfl) ?_)
    refine .qB rfl u (.sub rfl rfl rfl (by omega) (by omega)) ?_
    refine .qB rfl u (.idx1 sl_25_B (SlA.of_row i6 (by first | rfl | (simp; done) | (simp <;> omega))) rfl rfl (by omega) (by omega)) ?_
    refine .qB rfl u (.load on_24_B rfl cC) (.qB rfl u (.move rfl) (.qB rfl u (.move rfl) ?_))
    refine .call1 rfl rfl rfl rfl rfl @Try.call30 rfl (l01Next_c) ?_
    rintro _ H53 ⟨k53, rfl, ka53, kb53, kc53, a1, hs⟩
    replace u := u.erase_st a1
    refine ⟨u, ?_⟩
    replace b := b.sA a1
    replace rk := rk.sA a1
    replace a5 := a1.s a5 d.ne
    replace hati := a1.s hati
    refine .qB rfl u (.idx1 sl_24_A (SlA.of_row hatiB (by first | rfl | (simp; done) | (simp <;> omega))) rfl rfl (by omega) (by omega)) ?_
    have hSb := RelSt.mk b a5 b5 (hR.st rk (.cons (hR.lowNe hlS) (.nil _ _))) hlen hrow hs
    refine .r0 rfl rfl rfl (.storeI rfl sz_2_Cg rfl rfl (by assumption) (by first | omega | (simp <;> omega))) ?_
    rintro _ H13009 ⟨rfl, a8, b1⟩
    obtain ⟨T1, h⟩ := (hSb.set1 (by omega) hgi hbi a8 b1 (by rw [List.length_set]; exact hrw) m3 hlS).ex
    refine .done ?_
    refine b9 _ _ (.seq (fun K17 h2 => .seq (fun K18 i4 => .region (.mv rfl (.nil (i4 _ _ ?_))))))
    refine .block ?_
    refine .loopR (σ := Nat × List (List Int)) [(1, some _), (5, some _)] (fun (x, T) => [(9, some (.int .i64 (x : Int)))]) (fun (x, T) H' => x ≤ n ∧ RelSt 86 2 24 H H' gS gV n i rr T) (fun (x, T) => n - x) ((0, T1)) ⟨rfl, rfl, trivial⟩ ⟨rfl, trivial⟩ ?_ ?_
    ·
     exact ⟨by omega, h⟩
    rintro ⟨x, T⟩ HL3 hI KL3 a0
    refine .forget (fr' := [(9, some (.int .i64 (x : Int))), (1, some _), (5, some _)]) ⟨rfl, rfl, rfl, trivial⟩ ?_
    obtain ⟨-, hS⟩ := hI
    obtain ⟨b, a5, b5, hR, hlen, hrow, hs⟩ := id hS
    refine .seq (fun K19 i0 => .seq (fun K20 h3 => .region (.mv rfl (.mv rfl (.q rfl (.cmp rfl rfl rfl) (.nil (h3 _ _ ?_)))))))
    refine .cond rfl (fun a3 => ?_) (fun a3 => ?_)
    ·
     simp only [sps] at a3
     refine .skip ?_
     refine i0 _ _ (.seq (fun K21 d6 => ?_))
     refine .block ?_
     refine .seq (fun K22 f2 => .region (.mv rfl (.nil (f2 _ _ ?_))))
     refine .block ?_
     refine .loopR (σ := Nat × List (List Int)) [(1, some _), (5, some _), (9, some _)] (fun (y, T) => [(10, some (.int .i64 (y : Int)))]) (fun (y, T) H' => y ≤ n ∧ RelSt 86 2 24 H H' gS gV n i rr T) (fun (y, T) => n - y) ((0, T)) ⟨rfl, rfl, rfl, trivial⟩ ⟨rfl, trivial⟩ ?_ ?_
     ·
      exact ⟨by omega, hS⟩
     rintro ⟨y, T⟩ HL4 hI KL4 a6
     refine .forget (fr' := [(10, some (.int .i64 (y : Int))), (1, some _), (5, some _), (9, some _)]) ⟨rfl, rfl, rfl, rfl, trivial⟩ ?_
     obtain ⟨-, hS⟩ := hI
     obtain ⟨-, -, -, -, hlen, -, -⟩ := id hS
     refine .seq (fun K23 e1 => .seq (fun K24 d9 => .region (.mv rfl (.mv rfl (.q rfl (.cmp rfl rfl rfl) (.nil (d9 _ _ ?_)))))))
     refine .cond rfl (fun a4 => ?_) (fun a4 => ?_)
     ·
      simp only [sps] at a4
      refine .skip ?_
      refine e1 _ _ (.seq (fun K25 d7 => ?_))
      refine .block ?_
      refine .seq (fun K26 i3 => .region (.mv rfl (.nil (i3 _ _ ?_))))
      refine .block ?_
      refine .loopR (σ := Nat × List (List Int)) [(1, some _), (5, some _), (9, some _), (10, some _)] (fun (z, T) => [(11, some (.int .i64 (z : Int)))]) (fun (z, T) H' => z ≤ n ∧ RelSt 86 2 24 H H' gS gV n i rr T) (fun (z, T) => n - z) ((0, T)) ⟨rfl, rfl, rfl, rfl, trivial⟩ ⟨rfl, trivial⟩ ?_ ?_
      ·
       exact ⟨by omega, hS⟩
      rintro ⟨z, T⟩ HL5 hI KL5 l
      refine .forget (fr' := [(11, some (.int .i64 (z : Int))), (1, some _), (5, some _), (9, some _), (10, some _)]) ⟨rfl, rfl, rfl, rfl, rfl, trivial⟩ ?_
      obtain ⟨-, hS⟩ := hI
      obtain ⟨-, a5, b5, hR, hlen, hrow, -⟩ := id hS
      refine .seq (fun K27 f6 => .seq (fun K28 f0 => .region (.mv rfl (.mv rfl (.q rfl (.cmp rfl rfl rfl) (.nil (f0 _ _ ?_)))))))
      refine .cond rfl (fun w => ?_) (fun w => ?_)
      ·
       simp only [sps] at w
       have iT := hR.intss a5 b5
       have u1 := iT.2 y (by omega)
       have u2 := iT.2 x (by omega)
       have w1 := hrow y (by omega)
       have w2 := hrow x (by omega)
       refine .skip ?_
       refine f6 _ _ (.seq (fun K29 c1 => ?_))
       refine .block ?_
       refine .seq (fun K30 d0 => .region (.mv rfl (.mv rfl ?_)))
       refine .q rfl (.idxN sl_25_B (by first | exact (Intss.sl (by assumption)) | exact SlA.of_row a5 (by first | rfl | (simp; done) | (simp <;> omega))) rfl rfl (by omega)) ?_
       refine .q rfl (.loadR on_24_B (by assumption) rfl (by omega)) ?_
       refine .mv rfl ?_
       refine .q rfl (.idxN sl_24_A (by assumption) rfl rfl (by omega)) ?_
       refine .q rfl (.loadI on_2_A (by assumption) rfl (by omega)) ?_
       refine .q rfl (.cmp rfl rfl rfl) (.mv rfl ?_)
       refine .split (fun b7 => ?_) (fun b7 => ?_)
       ·
        try simp only [sps] at b7
        refine .qg rfl (.move rfl) (.qg rfl (.move rfl) ?_)
        refine .qg rfl (.idxN sl_25_B (by first | exact (Intss.sl (by assumption)) | exact SlA.of_row a5 (by first | rfl | (simp; done) | (simp <;> omega))) rfl rfl (by omega)) ?_
        refine .qg rfl (.loadR on_24_B (by assumption) rfl (by omega)) ?_
        refine .qg rfl (.move rfl) ?_
        refine .qg rfl (.idxN sl_24_A (by assumption) rfl rfl (by omega)) ?_
        refine .qg rfl (.loadI on_2_A (by assumption) rfl (by omega)) ?_
        refine .qg rfl (.cmp rfl rfl rfl) (.q rfl (.pickT rfl rfl) (.nil (d0 _ _ ?_)))
        refine .cond rfl (fun b8 => ?_) (fun b8 => ?_)
        ·
         try simp only [sps] at b8
         refine .region ?_
         obtain ⟨gi, hgi, hbi, hati⟩ := hR.row y (by omega)
         have m3 := row_ne a5 hati rfl
         have cC := slsL_cell a5 (i := y) (by omega)
         rw [hgi] at cC
         refine .mv rfl (.mv rfl ?_)
         refine .q rfl (.idxN sl_25_B (by first | exact (Intss.sl (by assumption)) | exact SlA.of_row a5 (by first | rfl | (simp; done) | (simp <;> omega))) rfl rfl (by omega)) ?_
         refine .q rfl (.load on_24_B rfl cC) (.mv rfl ?_)
         refine .q rfl (.idxN sl_24_A (by first | assumption | exact SlA.of_row hati (by first | rfl | (simp; done) | (simp <;> omega))) rfl rfl (by omega)) ?_
         refine .r0 rfl rfl (.storeI rfl sz_2_Cg rfl rfl (by assumption) (by first | omega | (simp <;> omega))) ?_
         rintro _ H24006 ⟨rfl, a9, b6⟩
         obtain ⟨T2, h⟩ := (hS.set1 (by omega) hgi hbi a9 b6 (by rw [List.length_set]; exact w1) m3 hlS).ex
         refine .nil (c1 _ _ (.region (.mv rfl ?_)))
         refine .q rfl (.add rfl rfl rfl (by omega) (by omega)) ?_
         refine .mv rfl (.nil ?_)
         refine l ((z + 1, T2)) _ _ ?_ ?_ ⟨rfl, rfl, rfl, rfl, rfl, trivial⟩
         ·
          exact ⟨by omega, h⟩
         (dsimp only; omega)
        obtain ⟨T2, h⟩ := hS.ex
        refine .skip ?_
        refine c1 _ _ (.region (.mv rfl ?_))
        refine .q rfl (.add rfl rfl rfl (by omega) (by omega)) ?_
        refine .mv rfl (.nil ?_)
        refine l ((z + 1, T2)) _ _ ?_ ?_ ⟨rfl, rfl, rfl, rfl, rfl, trivial⟩
        ·
         exact ⟨by omega, h⟩
        (dsimp only; omega)
       obtain ⟨T2, h⟩ := hS.ex
       refine .z rfl (.z rfl (.z rfl (.z rfl (.z rfl (.z rfl (.z rfl (.z rfl (.q rfl (.pickF rfl rfl) (.nil (d0 _ _ ?_))))))))))
       refine .condF rfl ?_
       refine .skip ?_
       refine c1 _ _ (.region (.mv rfl ?_))
       refine .q rfl (.add rfl rfl rfl (by omega) (by omega)) ?_
       refine .mv rfl (.nil ?_)
       refine l ((z + 1, T2)) _ _ ?_ ?_ ⟨rfl, rfl, rfl, rfl, rfl, trivial⟩
       ·
        exact ⟨by omega, h⟩
       (dsimp only; omega)
      try simp only [sps] at w
      refine .exit ?_
      refine d7 _ _ (.region (.mv rfl ?_))
      refine .q rfl (.add rfl rfl rfl (by omega) (by omega)) ?_
      refine .mv rfl (.nil ?_)
      refine a6 ((y + 1, T)) _ _ ?_ ?_ ⟨rfl, rfl, rfl, rfl, trivial⟩
      ·
       exact ⟨by omega, hS⟩
      (dsimp only; omega)
     try simp only [sps] at a4
     refine .exit ?_
     refine d6 _ _ (.region (.mv rfl ?_))
     refine .q rfl (.add rfl rfl rfl (by omega) (by omega)) ?_
     refine .mv rfl (.nil ?_)
     refine a0 ((x + 1, T)) _ _ ?_ ?_ ⟨rfl, rfl, rfl, trivial⟩
     ·
      exact ⟨by omega, hS⟩
     (dsimp only; omega)
    try simp only [sps] at a3
    refine .exit ?_
    refine h2 _ _ (.seq (fun K31 g5 => .region (.mv rfl (.mv rfl (.nil (g5 _ _ ?_))))))
    refine .ret ?_
    refine c0 _ _ ?_
    refine ⟨_, rfl, ?_⟩
    exact ⟨some ⟨gV, 0, none⟩, T, rr, by rw [hlen], hR.done a5 b5, by omega, fun k hk => by rw [hrow k hk]; omega, b, hs⟩
   simp only [sps] at d5
   obtain ⟨T1, h⟩ := (RelSt.mk b a5 b5 (hR.st rk (.cons (hR.lowNe hlS) (.nil _ _))) hlen hrow hs).ex
   refine .skip ?_
   refine b9 _ _ (.seq (fun K32 g8 => .seq (fun K33 h1 => .region (.mv rfl (.nil (h1 _ _ ?_))))))
   refine .block ?_
   refine .loopR (σ := Nat × List (List Int)) [(1, some _), (5, some _)] (fun (x, T) => [(9, some (.int .i64 (x : Int)))]) (fun (x, T) H' => x ≤ n ∧ RelSt 86 2 24 H H' gS gV n i rr T) (fun (x, T) => n - x) ((0, T1)) ⟨rfl, rfl, trivial⟩ ⟨rfl, trivial⟩ ?_ ?_
   ·
    exact ⟨by omega, h⟩
   rintro ⟨x, T⟩ HL3 hI KL3 a0
   refine .forget (fr' := [(9, some (.int .i64 (x : Int))), (1, some _), (5, some _)]) ⟨rfl, rfl, rfl, trivial⟩ ?_
   obtain ⟨-, hS⟩ := hI
   obtain ⟨b, a5, b5, hR, hlen, hrow, hs⟩ := id hS
   refine .seq (fun K34 h0 => .seq (fun K35 h4 => .region (.mv rfl (.mv rfl (.q rfl (.cmp rfl rfl rfl) (.nil (h4 _ _ ?_)))))))
   refine .cond rfl (fun a3 => ?_) (fun a3 => ?_)
   ·
    simp only [sps] at a3
    refine .skip ?_
    refine h0 _ _ (.seq (fun K36 f7 => ?_))
    refine .block ?_
    refine .seq (fun K37 h5 => .region (.mv rfl (.nil (h5 _ _ ?_))))
    refine .block ?_
    refine .loopR (σ := Nat × List (List Int)) [(1, some _), (5, some _), (9, some _)] (fun (y, T) => [(10, some (.int .i64 (y : Int)))]) (fun (y, T) H' => y ≤ n ∧ RelSt 86 2 24 H H' gS gV n i rr T) (fun (y, T) => n - y) ((0, T)) ⟨rfl, rfl, rfl, trivial⟩ ⟨rfl, trivial⟩ ?_ ?_
    ·
     exact ⟨by omega, hS⟩
    rintro ⟨y, T⟩ HL4 hI KL4 a6
    refine .forget (fr' := [(10, some (.int .i64 (y : Int))), (1, some _), (5, some _), (9, some _)]) ⟨rfl, rfl, rfl, rfl, trivial⟩ ?_
    obtain ⟨-, hS⟩ := hI
    obtain ⟨-, -, -, -, hlen, -, -⟩ := id hS
    refine .seq (fun K38 g1 => .seq (fun K39 d3 => .region (.mv rfl (.mv rfl (.q rfl (.cmp rfl rfl rfl) (.nil (d3 _ _ ?_)))))))
    refine .cond rfl (fun a4 => ?_) (fun a4 => ?_)
    ·
     simp only [sps] at a4
     refine .skip ?_
     refine g1 _ _ (.seq (fun K40 e7 => ?_))
     refine .block ?_
     refine .seq (fun K41 e0 => .region (.mv rfl (.nil (e0 _ _ ?_))))
     refine .block ?_
     refine .loopR (σ := Nat × List (List Int)) [(1, some _), (5, some _), (9, some _), (10, some _)] (fun (z, T) => [(11, some (.int .i64 (z : Int)))]) (fun (z, T) H' => z ≤ n ∧ RelSt 86 2 24 H H' gS gV n i rr T) (fun (z, T) => n - z) ((0, T)) ⟨rfl, rfl, rfl, rfl, trivial⟩ ⟨rfl, trivial⟩ ?_ ?_
     ·
      exact ⟨by omega, hS⟩
     rintro ⟨z, T⟩ HL5 hI KL5 l
     refine .forget (fr' := [(11, some (.int .i64 (z : Int))), (1, some _), (5, some _), (9, some _), (10, some _)]) ⟨rfl, rfl, rfl, rfl, rfl, trivial⟩ ?_
     obtain ⟨-, hS⟩ := hI
     obtain ⟨-, a5, b5, hR, hlen, hrow, -⟩ := id hS
     refine .seq (fun K42 d4 => .seq (fun K43 f1 => .region (.mv rfl (.mv rfl (.q rfl (.cmp rfl rfl rfl) (.nil (f1 _ _ ?_)))))))
     refine .cond rfl (fun w => ?_) (fun w => ?_)
     ·
      simp only [sps] at w
      have iT := hR.intss a5 b5
      have u1 := iT.2 y (by omega)
      have u2 := iT.2 x (by omega)
      have w1 := hrow y (by omega)
      have w2 := hrow x (by omega)
      refine .skip ?_
      refine d4 _ _ (.seq (fun K44 c2 => ?_))
      refine .block ?_
      refine .seq (fun K45 c7 => .region (.mv rfl (.mv rfl ?_)))
      refine .q rfl (.idxN sl_25_B (by first | exact (Intss.sl (by assumption)) | exact SlA.of_row a5 (by first | rfl | (simp; done) | (simp <;> omega))) rfl rfl (by omega)) ?_
      refine .q rfl (.loadR on_24_B (by assumption) rfl (by omega)) ?_
      refine .mv rfl ?_
      refine .q rfl (.idxN sl_24_A (by assumption) rfl rfl (by omega)) ?_
      refine .q rfl (.loadI on_2_A (by assumption) rfl (by omega)) ?_
      refine .q rfl (.cmp rfl rfl rfl) (.mv rfl ?_)
      refine .split (fun b7 => ?_) (fun b7 => ?_)
      ·
       try simp only [sps] at b7
       refine .qg rfl (.move rfl) (.qg rfl (.move rfl) ?_)
       refine .qg rfl (.idxN sl_25_B (by first | exact (Intss.sl (by assumption)) | exact SlA.of_row a5 (by first | rfl | (simp; done) | (simp <;> omega))) rfl rfl (by omega)) ?_
       refine .qg rfl (.loadR on_24_B (by assumption) rfl (by omega)) ?_
       refine .qg rfl (.move rfl) ?_
       refine .qg rfl (.idxN sl_24_A (by assumption) rfl rfl (by omega)) ?_
       refine .qg rfl (.loadI on_2_A (by assumption) rfl (by omega)) ?_
       refine .qg rfl (.cmp rfl rfl rfl) (.q rfl (.pickT rfl rfl) (.nil (c7 _ _ ?_)))
       refine .cond rfl (fun b8 => ?_) (fun b8 => ?_)
       ·
        try simp only [sps] at b8
        refine .region ?_
        obtain ⟨gi, hgi, hbi, hati⟩ := hR.row y (by omega)
        have m3 := row_ne a5 hati rfl
        have cC := slsL_cell a5 (i := y) (by omega)
        rw [hgi] at cC
        refine .mv rfl (.mv rfl ?_)
        refine .q rfl (.idxN sl_25_B (by first | exact (Intss.sl (by assumption)) | exact SlA.of_row a5 (by first | rfl | (simp; done) | (simp <;> omega))) rfl rfl (by omega)) ?_
        refine .q rfl (.load on_24_B rfl cC) (.mv rfl ?_)
        refine .q rfl (.idxN sl_24_A (by first | assumption | exact SlA.of_row hati (by first | rfl | (simp; done) | (simp <;> omega))) rfl rfl (by omega)) ?_
        refine .r0 rfl rfl (.storeI rfl sz_2_Cg rfl rfl (by assumption) (by first | omega | (simp <;> omega))) ?_
        rintro _ H24006x2 ⟨rfl, r, p⟩
        obtain ⟨T2, h⟩ := (hS.set1 (by omega) hgi hbi r p (by rw [List.length_set]; exact w1) m3 hlS).ex
        refine .nil (c2 _ _ (.region (.mv rfl ?_)))
        refine .q rfl (.add rfl rfl rfl (by omega) (by omega)) ?_
        refine .mv rfl (.nil ?_)
        refine l ((z + 1, T2)) _ _ ?_ ?_ ⟨rfl, rfl, rfl, rfl, rfl, trivial⟩
        ·
         exact ⟨by omega, h⟩
        (dsimp only; omega)
       obtain ⟨T2, h⟩ := hS.ex
       refine .skip ?_
       refine c2 _ _ (.region (.mv rfl ?_))
       refine .q rfl (.add rfl rfl rfl (by omega) (by omega)) ?_
       refine .mv rfl (.nil ?_)
       refine l ((z + 1, T2)) _ _ ?_ ?_ ⟨rfl, rfl, rfl, rfl, rfl, trivial⟩
       ·
        exact ⟨by omega, h⟩
       (dsimp only; omega)
      obtain ⟨T2, h⟩ := hS.ex
      refine .z rfl (.z rfl (.z rfl (.z rfl (.z rfl (.z rfl (.z rfl (.z rfl (.q rfl (.pickF rfl rfl) (.nil (c7 _ _ ?_))))))))))
      refine .condF rfl ?_
      refine .skip ?_
      refine c2 _ _ (.region (.mv rfl ?_))
      refine .q rfl (.add rfl rfl rfl (by omega) (by omega)) ?_
      refine .mv rfl (.nil ?_)
      refine l ((z + 1, T2)) _ _ ?_ ?_ ⟨rfl, rfl, rfl, rfl, rfl, trivial⟩
      ·
       exact ⟨by omega, h⟩
      (dsimp only; omega)
     try simp only [sps] at w
     refine .exit ?_
     refine e7 _ _ (.region (.mv rfl ?_))
     refine .q rfl (.add rfl rfl rfl (by omega) (by omega)) ?_
     refine .mv rfl (.nil ?_)
     refine a6 ((y + 1, T)) _ _ ?_ ?_ ⟨rfl, rfl, rfl, rfl, trivial⟩
     ·
      exact ⟨by omega, hS⟩
     (dsimp only; omega)
    try simp only [sps] at a4
    refine .exit ?_
    refine f7 _ _ (.region (.mv rfl ?_))
    refine .q rfl (.add rfl rfl rfl (by omega) (by omega)) ?_
    refine .mv rfl (.nil ?_)
    refine a0 ((x + 1, T)) _ _ ?_ ?_ ⟨rfl, rfl, rfl, trivial⟩
    ·
     exact ⟨by omega, hS⟩
    (dsimp only; omega)
   try simp only [sps] at a3
   refine .exit ?_
   refine g8 _ _ (.seq (fun K46 e8 => .region (.mv rfl (.mv rfl (.nil (e8 _ _ ?_))))))
   refine .ret ?_
   refine c0 _ _ ?_
   refine ⟨_, rfl, ?_⟩
   exact ⟨some ⟨gV, 0, none⟩, T, rr, by rw [hlen], hR.done a5 b5, by omega, fun k hk => by rw [hrow k hk]; omega, b, hs⟩
  simp only [sps] at e6
  obtain ⟨T1, h⟩ := hS.ex
  refine .z rfl (.z rfl (.z rfl (.q rfl (.pickF rfl rfl) (.nil (d1 _ _ ?_)))))
  refine .condF rfl ?_
  refine .skip ?_
  refine b9 _ _ (.seq (fun K47 i2 => .seq (fun K48 e9 => .region (.mv rfl (.nil (e9 _ _ ?_))))))
  refine .block ?_
  refine .loopR (σ := Nat × List (List Int)) [(1, some _), (5, some _)] (fun (x, T) => [(9, some (.int .i64 (x : Int)))]) (fun (x, T) H' => x ≤ n ∧ RelSt 86 2 24 H H' gS gV n i rr T) (fun (x, T) => n - x) ((0, T1)) ⟨rfl, rfl, trivial⟩ ⟨rfl, trivial⟩ ?_ ?_
  ·
   exact ⟨by omega, h⟩
  rintro ⟨x, T⟩ HL3 hI KL3 a0
  refine .forget (fr' := [(9, some (.int .i64 (x : Int))), (1, some _), (5, some _)]) ⟨rfl, rfl, rfl, trivial⟩ ?_
  obtain ⟨-, hS⟩ := hI
  obtain ⟨b, a5, b5, hR, hlen, hrow, hs⟩ := id hS
  refine .seq (fun K49 d2 => .seq (fun K50 h6 => .region (.mv rfl (.mv rfl (.q rfl (.cmp rfl rfl rfl) (.nil (h6 _ _ ?_)))))))
  refine .cond rfl (fun a3 => ?_) (fun a3 => ?_)
  ·
   simp only [sps] at a3
   refine .skip ?_
   refine d2 _ _ (.seq (fun K51 h9 => ?_))
   refine .block ?_
   refine .seq (fun K52 g2 => .region (.mv rfl (.nil (g2 _ _ ?_))))
   refine .block ?_
   refine .loopR (σ := Nat × List (List Int)) [(1, some _), (5, some _), (9, some _)] (fun (y, T) => [(10, some (.int .i64 (y : Int)))]) (fun (y, T) H' => y ≤ n ∧ RelSt 86 2 24 H H' gS gV n i rr T) (fun (y, T) => n - y) ((0, T)) ⟨rfl, rfl, rfl, trivial⟩ ⟨rfl, trivial⟩ ?_ ?_
   ·
    exact ⟨by omega, hS⟩
   rintro ⟨y, T⟩ HL4 hI KL4 a6
   refine .forget (fr' := [(10, some (.int .i64 (y : Int))), (1, some _), (5, some _), (9, some _)]) ⟨rfl, rfl, rfl, rfl, trivial⟩ ?_
   obtain ⟨-, hS⟩ := hI
   obtain ⟨-, -, -, -, hlen, -, -⟩ := id hS
   refine .seq (fun K53 e4 => .seq (fun K54 g4 => .region (.mv rfl (.mv rfl (.q rfl (.cmp rfl rfl rfl) (.nil (g4 _ _ ?_)))))))
   refine .cond rfl (fun a4 => ?_) (fun a4 => ?_)
   ·
    simp only [sps] at a4
    refine .skip ?_
    refine e4 _ _ (.seq (fun K55 g0 => ?_))
    refine .block ?_
    refine .seq (fun K56 f8 => .region (.mv rfl (.nil (f8 _ _ ?_))))
    refine .block ?_
    refine .loopR (σ := Nat × List (List Int)) [(1, some _), (5, some _), (9, some _), (10, some _)] (fun (z, T) => [(11, some (.int .i64 (z : Int)))]) (fun (z, T) H' => z ≤ n ∧ RelSt 86 2 24 H H' gS gV n i rr T) (fun (z, T) => n - z) ((0, T)) ⟨rfl, rfl, rfl, rfl, trivial⟩ ⟨rfl, trivial⟩ ?_ ?_
    ·
     exact ⟨by omega, hS⟩
    rintro ⟨z, T⟩ HL5 hI KL5 l
    refine .forget (fr' := [(11, some (.int .i64 (z : Int))), (1, some _), (5, some _), (9, some _), (10, some _)]) ⟨rfl, rfl, rfl, rfl, rfl, trivial⟩ ?_
    obtain ⟨-, hS⟩ := hI
    obtain ⟨-, a5, b5, hR, hlen, hrow, -⟩ := id hS
    refine .seq (fun K57 e3 => .seq (fun K58 e2 => .region (.mv rfl (.mv rfl (.q rfl (.cmp rfl rfl rfl) (.nil (e2 _ _ ?_)))))))
    refine .cond rfl (fun w => ?_) (fun w => ?_)
    ·
     simp only [sps] at w
     have iT := hR.intss a5 b5
     have u1 := iT.2 y (by omega)
     have u2 := iT.2 x (by omega)
     have w1 := hrow y (by omega)
     have w2 := hrow x (by omega)
     refine .skip ?_
     refine e3 _ _ (.seq (fun K59 c4 => ?_))
     refine .block ?_
     refine .seq (fun K60 c9 => .region (.mv rfl (.mv rfl ?_)))
     refine .q rfl (.idxN sl_25_B (by first | exact (Intss.sl (by assumption)) | exact SlA.of_row a5 (by first | rfl | (simp; done) | (simp <;> omega))) rfl rfl (by omega)) ?_
     refine .q rfl (.loadR on_24_B (by assumption) rfl (by omega)) ?_
     refine .mv rfl ?_
     refine .q rfl (.idxN sl_24_A (by assumption) rfl rfl (by omega)) ?_
     refine .q rfl (.loadI on_2_A (by assumption) rfl (by omega)) ?_
     refine .q rfl (.cmp rfl rfl rfl) (.mv rfl ?_)
     refine .split (fun b7 => ?_) (fun b7 => ?_)
     ·
      try simp only [sps] at b7
      refine .qg rfl (.move rfl) (.qg rfl (.move rfl) ?_)
      refine .qg rfl (.idxN sl_25_B (by first | exact (Intss.sl (by assumption)) | exact SlA.of_row a5 (by first | rfl | (simp; done) | (simp <;> omega))) rfl rfl (by omega)) ?_
      refine .qg rfl (.loadR on_24_B (by assumption) rfl (by omega)) ?_
      refine .qg rfl (.move rfl) ?_
      refine .qg rfl (.idxN sl_24_A (by assumption) rfl rfl (by omega)) ?_
      refine .qg rfl (.loadI on_2_A (by assumption) rfl (by omega)) ?_
      refine .qg rfl (.cmp rfl rfl rfl) (.q rfl (.pickT rfl rfl) (.nil (c9 _ _ ?_)))
      refine .cond rfl (fun b8 => ?_) (fun b8 => ?_)
      ·
       try simp only [sps] at b8
       refine .region ?_
       obtain ⟨gi, hgi, hbi, hati⟩ := hR.row y (by omega)
       have m3 := row_ne a5 hati rfl
       have cC := slsL_cell a5 (i := y) (by omega)
       rw [hgi] at cC
       refine .mv rfl (.mv rfl ?_)
       refine .q rfl (.idxN sl_25_B (by first | exact (Intss.sl (by assumption)) | exact SlA.of_row a5 (by first | rfl | (simp; done) | (simp <;> omega))) rfl rfl (by omega)) ?_
       refine .q rfl (.load on_24_B rfl cC) (.mv rfl ?_)
       refine .q rfl (.idxN sl_24_A (by first | assumption | exact SlA.of_row hati (by first | rfl | (simp; done) | (simp <;> omega))) rfl rfl (by omega)) ?_
       refine .r0 rfl rfl (.storeI rfl sz_2_Cg rfl rfl (by assumption) (by first | omega | (simp <;> omega))) ?_
       rintro _ H24006x3 ⟨rfl, o, t⟩
       obtain ⟨T2, h⟩ := (hS.set1 (by omega) hgi hbi o t (by rw [List.length_set]; exact w1) m3 hlS).ex
       refine .nil (c4 _ _ (.region (.mv rfl ?_)))
       refine .q rfl (.add rfl rfl rfl (by omega) (by omega)) ?_
       refine .mv rfl (.nil ?_)
       refine l ((z + 1, T2)) _ _ ?_ ?_ ⟨rfl, rfl, rfl, rfl, rfl, trivial⟩
       ·
        exact ⟨by omega, h⟩
       (dsimp only; omega)
      obtain ⟨T2, h⟩ := hS.ex
      refine .skip ?_
      refine c4 _ _ (.region (.mv rfl ?_))
      refine .q rfl (.add rfl rfl rfl (by omega) (by omega)) ?_
      refine .mv rfl (.nil ?_)
      refine l ((z + 1, T2)) _ _ ?_ ?_ ⟨rfl, rfl, rfl, rfl, rfl, trivial⟩
      ·
       exact ⟨by omega, h⟩
      (dsimp only; omega)
     obtain ⟨T2, h⟩ := hS.ex
     refine .z rfl (.z rfl (.z rfl (.z rfl (.z rfl (.z rfl (.z rfl (.z rfl (.q rfl (.pickF rfl rfl) (.nil (c9 _ _ ?_))))))))))
     refine .condF rfl ?_
     refine .skip ?_
     refine c4 _ _ (.region (.mv rfl ?_))
     refine .q rfl (.add rfl rfl rfl (by omega) (by omega)) ?_
     refine .mv rfl (.nil ?_)
     refine l ((z + 1, T2)) _ _ ?_ ?_ ⟨rfl, rfl, rfl, rfl, rfl, trivial⟩
     ·
      exact ⟨by omega, h⟩
     (dsimp only; omega)
    try simp only [sps] at w
    refine .exit ?_
    refine g0 _ _ (.region (.mv rfl ?_))
    refine .q rfl (.add rfl rfl rfl (by omega) (by omega)) ?_
    refine .mv rfl (.nil ?_)
    refine a6 ((y + 1, T)) _ _ ?_ ?_ ⟨rfl, rfl, rfl, rfl, trivial⟩
    ·
     exact ⟨by omega, hS⟩
    (dsimp only; omega)
   try simp only [sps] at a4
   refine .exit ?_
   refine h9 _ _ (.region (.mv rfl ?_))
   refine .q rfl (.add rfl rfl rfl (by omega) (by omega)) ?_
   refine .mv rfl (.nil ?_)
   refine a0 ((x + 1, T)) _ _ ?_ ?_ ⟨rfl, rfl, rfl, trivial⟩
   ·
    exact ⟨by omega, hS⟩
   (dsimp only; omega)
  try simp only [sps] at a3
  refine .exit ?_
  refine i2 _ _ (.seq (fun K61 g6 => .region (.mv rfl (.mv rfl (.nil (g6 _ _ ?_))))))
  refine .ret ?_
  refine c0 _ _ ?_
  refine ⟨_, rfl, ?_⟩
  exact ⟨some ⟨gV, 0, none⟩, T, rr, by rw [hlen], hR.done a5 b5, by omega, fun k hk => by rw [hrow k hk]; omega, b, hs⟩
end Go.Proofs.Ytfanjkbaemhbmaa
