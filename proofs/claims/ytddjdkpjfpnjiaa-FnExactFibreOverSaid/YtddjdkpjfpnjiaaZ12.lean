/- Parts of categories: the program's. No condition but those of each statement. -/
import Derived.Test.YtddjdkpjfpnjiaaZ11
set_option linter.unusedSectionVars false
namespace Go.Proofs.Ytddjdkpjfpnjiaa
open Go Go.GL Go.RowKit Go.Proofs
variable [MainFlag]
theorem sl_60_Kc : sliceT Try.prog 60 = some (4, 1) := by kernel_rfl
theorem ze_4_Kc : zeroT Try.prog 4 = some ([.bool false], 1) := by kernel_rfl
theorem by_4_Kc : (Try.prog.info? 4).map (·.bytes) = some 1 := by kernel_rfl
theorem sz_4_Kc : (Try.prog.info? 4).map (·.size) = some 1 := by kernel_rfl
theorem on_4_Kc : oneT Try.prog 4 = true := by kernel_rfl
theorem bt_31_Kc : buildT Try.prog 31 = some ([.int .i64 0, .slice none 0 0, .slice none 0 0, .slice none 0 0, .slice none 0 0], [(0, 1), (1, 1), (2, 1), (3, 1), (4, 1)]) := by kernel_rfl
theorem marks_c {g o : Nat} {c : Cat} {p : CatP} {a : Option Addr} {xs : List Int} {H : GHeap} (h : Cat.At H g o c p := by assumption) (hx : Ints H a xs := by assumption) (hS : c.Shape) (hC : c.Closed xs) :
    GCalls Try.prog 56 [.pointer (some ⟨g, o, none⟩), .slice a xs.length xs.length] H (fun v H' => H.Le H' ∧ ∃ gB, v = .slice (some ⟨gB, 0, none⟩) c.src.length c.src.length ∧ H'.get gB = some (.row (bools (tabB c.src.length fun f => xs.contains (f : Int))) 4 true) ∧ H.next ≤ gB) := by
  have _ := hS.n40
  have _ := hC.len
  refine GCalls.body (N := 22) (rs := [.tmp 4]) Try.func56 rfl rfl rfl rfl (fun Qx w hend => ?_)
  refine .fg [0, 1] rfl ?_
  have l := GHeap.Le.refl H
  have d := h
  have b := hx
  refine .seq (fun K1 a1 => .region (.mv rfl (.nil (a1 _ _ (.seq (fun K2 a5 => .region (.mv rfl ?_)))))))
  refine .callQ rfl rfl rfl rfl en55 rfl (arrows_c) ?_
  refine .R rfl (.makeB rfl sl_60_Kc ze_4_Kc by_4_Kc rfl rfl (by omega) (by omega) (by omega) (by omega)) ?_
  rintro _ a7 ⟨u, rfl, r, _, s⟩
  have _ := r.1
  replace l := l.trans r
  have _ := GHeap.ltg s
  replace h := d.mono l
  replace hx := b.mono l
  refine .mv rfl (.nil (a5 _ _ (.seq (fun K3 z => .seq (fun K4 a0 => .region (.mv rfl (.q rfl (.len sl_22_A rfl) (.mv rfl (.nil (a0 _ _ (.block ?_)))))))))))
  refine .loopF (σ := Nat) [5, 11, 12] (fun e => [(13, some (.int .i64 (e : Int)))]) (fun e H' => St [u] a7 H' ∧ H'.get u = some (.row (bools (tabB c.src.length (markP xs e))) 4 true) ∧ e ≤ xs.length) (fun e => xs.length - e) (0) rfl (.p rfl) ?_ ?_
  ·
   refine ⟨.refl _ _, by (rw [markP_zero, ← tabB_false]; simpa using s), ?_⟩
   omega
  rintro e _ ⟨n, j, _⟩ _ t
  dsimp only [cA, nA]
  have _ := n.nx
  replace l := l.st n (fun k hk => ⟨by omega, trivial⟩)
  have _ := GHeap.ltg j
  replace h := d.mono l
  replace hx := b.mono l
  have _ : (tabB c.src.length (markP xs e)).length = c.src.length := length_tabB _ _
  refine .seq (fun K5 y => .region (.q rfl (.cmp rfl rfl rfl) (.nil (y _ _ (.seq (fun K6 a3 => ?_))))))
  refine .cond rfl ?_ ?_ <;> intro x
  ·
   simp only [sps] at x
   have q0 := hC.lt (xs.getD e 0) (getD_mem (by omega))
   refine .skip (a3 _ _ (.seq (fun K7 a2 => .block (.seq (fun K8 a4 => .region (.q rfl (.iN sl_22_A rfl rfl) (.q rfl (.lI on_2_A rfl) (.mv rfl (.nil (a4 _ _ (.region (.mv rfl (.mv rfl ?_)))))))))))))
   refine .q rfl (.idx1 sl_60_Kc (by first | assumption | exact SlA.of_row j (by first | rfl | (simp; done) | (simp <;> omega))) rfl rfl (by omega) (by omega)) ?_
   refine .r0 rfl rfl (.storeB rfl sz_4_Kc rfl rfl (by assumption) (by first | omega | (simp <;> omega))) ?_
   rintro _ _ ⟨rfl, i, m⟩
   have _ := i.nx
   replace l := l.st i (fun k hk => ⟨by omega, trivial⟩)
   replace n := n.sA i
   have _ := GHeap.ltg m
   replace h := d.mono l
   replace hx := b.mono l
   rw [Nat.zero_add] at m
   refine .nil (a2 _ _ (.region (.q rfl (.aD rfl rfl rfl) (.mv rfl (.nil ?_)))))
   refine t (e + 1) _ _ ?_ ?_ (.p rfl)
   ·
    refine ⟨n, by first | assumption | (rw [markP_succ (by omega) q0.1]; assumption), ?_⟩
    omega
   omega
  try simp only [sps] at x
  refine .exit (z _ _ (.seq (fun K9 a6 => .region (.mv rfl (.mv rfl (.nil (a6 _ _ (.ret (w _ _ (⟨_, rfl, ?_⟩))))))))))
  obtain rfl : e = xs.length := by omega
  rw [markP_all] at j
  exact ⟨l, u, rfl, j, by omega⟩
set_option maxHeartbeats 4000000 in
theorem sub_c {g o : Nat} {c : Cat} {p : CatP} {a : Option Addr} {xs : List Int} {H : GHeap} (h : Cat.At H g o c p := by assumption) (hx : Ints H a xs := by assumption) (hS : c.Shape) (hC : c.Closed xs) :
    GCalls Try.prog 44 [.pointer (some ⟨g, o, none⟩), .slice a xs.length xs.length] H (fun v H' => H.Le H' ∧ ∃ q gO, v = .tuple #[.agg ((c.part xs).cells q).toArray, .slice (some ⟨gO, 0, none⟩) (c.partO xs).length (c.partO xs).length] ∧ CatR H.next H' (c.part xs) q ∧ H'.get gO = some (.row (ints (c.partO xs)) 2 true) ∧ H.next ≤ gO) := by
  have _ := hS.n40
  have _ := hS.tl
  have _ := hS.cl
  have _ := hS.il
  have _ := hS.obj
  have _ := hC.len
  have _ : (c.partO xs).length ≤ 8 := by have := c.partO_len xs; omega
  have hnd := hC.nodup
  obtain ⟨n, hn⟩ : ∃ n : Nat, c.obj = n := ⟨c.obj.toNat, by omega⟩
  have t4 : c.obj.toNat = n := by omega
  refine GCalls.body (N := 149) (rs := [.cell 4 31, .tmp 5]) Try.func44 rfl rfl rfl rfl (fun Qx w9 hend => ?_)
  refine .fg [0, 1] rfl ?_
  have z := GHeap.Le.refl H
  have y := h
  have t := hx
  obtain ⟨c0, c1, c2, c3, c4, i1, i2, i3, i4⟩ := h.get
  have hm : MemN _ _ _ _ _ := ⟨rfl, h.1⟩
  have hi := h.2
  refine .seq (fun K1 z2 => .region ?_)
  refine .R rfl (.allocR rfl ze_31_E rfl) ?_
  rintro _ _ ⟨g4, rfl, y7, _, c8⟩
  have _ := y7.1
  replace z := z.trans y7
  have _ := GHeap.ltg c8
  replace h := y.mono z
  replace hx := t.mono z
  clear c0 c1 c2 c3 c4 i1 i2 i3 i4 hm hi
  obtain ⟨c0, c1, c2, c3, c4, i1, i2, i3, i4⟩ := h.get
  have hm : MemN _ _ _ _ _ := ⟨rfl, h.1⟩
  have hi := h.2
  refine .mv rfl (.nil (z2 _ _ (.seq (fun K2 z8 => .region (.mv rfl ?_)))))
  refine .callQ rfl rfl rfl rfl en55 rfl (arrows_c) ?_
  refine .R rfl (.makeIN rfl sl_22_A ze_2_E by_2_E rfl rfl (by omega) (by omega) (by omega)) ?_
  rintro _ z0 ⟨q4, rfl, s8, _, r6⟩
  have _ := s8.1
  replace z := z.trans s8
  replace c8 := s8.2 _ _ c8
  have _ := GHeap.ltg r6
  replace h := y.mono z
  replace hx := t.mono z
  clear c0 c1 c2 c3 c4 i1 i2 i3 i4 hm hi
  obtain ⟨c0, c1, c2, c3, c4, i1, i2, i3, i4⟩ := h.get
  have hm : MemN _ _ _ _ _ := ⟨rfl, h.1⟩
  have hi := h.2
  refine .mv rfl (.nil (z8 _ _ (.seq (fun K3 z1 => .seq (fun K4 z6 => .region (.mv rfl (.q rfl (.len sl_22_A rfl) (.mv rfl (.nil (z6 _ _ (.block ?_)))))))))))
  rw [← numF_zero xs] at r6
  refine .loopF (σ := Nat) [0, 1, 4, 6, 24, 25] (fun i => [(26, some (.int .i64 (i : Int)))]) (fun i H' => St [q4] z0 H' ∧ H'.get q4 = some (.row (ints (numF xs c.src.length i)) 2 true) ∧ i ≤ xs.length) (fun i => xs.length - i) (0) rfl (.p rfl) ?_ ?_
  ·
   refine ⟨.refl _ _, by first | assumption | exact r6 | simpa using r6, ?_⟩
   omega
  rintro i _ ⟨a0, e, hI⟩ _ y0
  dsimp only [cA, nA]
  have _ := a0.nx
  replace z := z.st a0 (fun k hk => ⟨by omega, trivial⟩)
  have j4 : NE g4 q4 := .a
  replace c8 := a0.s c8 j4.ne
  have _ := GHeap.ltg e
  replace h := y.mono z
  replace hx := t.mono z
  clear c0 c1 c2 c3 c4 i1 i2 i3 i4 hm hi
  obtain ⟨c0, c1, c2, c3, c4, i1, i2, i3, i4⟩ := h.get
  have hm : MemN _ _ _ _ _ := ⟨rfl, h.1⟩
  have hi := h.2
  have hnl := length_numF xs c.src.length i
  refine .seq (fun K5 aF => .region (.q rfl (.cmp rfl rfl rfl) (.nil (aF _ _ (.seq (fun K6 z7 => ?_))))))
  refine .cond rfl ?_ ?_ <;> intro y6
  ·
   simp only [sps] at y6
   have q0 := hC.lt (xs.getD i 0) (getD_mem (by omega))
   refine .skip (z7 _ _ (.seq (fun K7 z3 => .block (.seq (fun K8 aA => .region (.mv rfl (.q rfl (.iN sl_22_A rfl rfl) (.q rfl (.lI on_2_A rfl) (.mv rfl (.mv rfl (.nil (aA _ _ (.region (.mv rfl (.mv rfl ?_)))))))))))))))
   refine .mv rfl ?_
   refine .q rfl (.idx1 sl_22_A (by first | assumption | exact SlA.of_row e (by first | rfl | (simp; done) | (simp <;> omega))) rfl rfl (by omega) (by omega)) ?_
   refine .r0 rfl rfl (.storeI rfl sz_2_E rfl rfl (by assumption) (by first | omega | (simp <;> omega))) ?_
   rintro _ _ ⟨rfl, o1, q6⟩
   have _ := o1.nx
   replace z := z.st o1 (fun k hk => ⟨by omega, trivial⟩)
   replace a0 := a0.sA o1
   replace c8 := o1.s c8 j4.ne
   have _ := GHeap.ltg q6
   replace h := y.mono z
   replace hx := t.mono z
   clear c0 c1 c2 c3 c4 i1 i2 i3 i4 hm hi
   obtain ⟨c0, c1, c2, c3, c4, i1, i2, i3, i4⟩ := h.get
   have hm : MemN _ _ _ _ _ := ⟨rfl, h.1⟩
   have hi := h.2
   rw [Nat.zero_add] at q6
   refine .nil (z3 _ _ (.region (.q rfl (.aD rfl rfl rfl) (.mv rfl (.nil ?_)))))
   refine y0 (i + 1) _ _ ?_ ?_ (.p rfl)
   ·
    refine ⟨a0, by first | assumption | (rw [numF_succ hnd (by omega) q0.1 q0.2]; assumption), ?_⟩
    omega
   omega
  try simp only [sps] at y6
  refine .exit (z1 _ _ (.seq (fun K9 aB => .region ?_)))
  obtain rfl : i = xs.length := by omega
  refine .mv rfl (.mv rfl ?_)
  refine .call rfl rfl rfl rfl en56 rfl (marks_c h hx hS hC) ?_
  rintro _ _ ⟨r2, r5, rfl, a1, _⟩
  have _ := r2.1
  replace z := z.trans r2
  replace a0 := a0.le r2
  replace c8 := r2.2 _ _ c8
  replace e := r2.2 _ _ e
  have _ := GHeap.ltg a1
  replace h := y.mono z
  replace hx := t.mono z
  clear c0 c1 c2 c3 c4 i1 i2 i3 i4 hm hi
  obtain ⟨c0, c1, c2, c3, c4, i1, i2, i3, i4⟩ := h.get
  have hm : MemN _ _ _ _ _ := ⟨rfl, h.1⟩
  have hi := h.2
  refine .mv rfl (.nil (aB _ _ (.seq (fun K10 x0 => .region ?_))))
  refine .R rfl (.litA rfl sl_22_A ze_2_E rfl rfl rfl rfl) ?_
  rintro _ aC ⟨t3, rfl, q3, _, j9⟩
  have _ := q3.1
  replace z := z.trans q3
  replace a0 := a0.le q3
  replace c8 := q3.2 _ _ c8
  replace e := q3.2 _ _ e
  replace a1 := q3.2 _ _ a1
  have _ := GHeap.ltg j9
  replace h := y.mono z
  replace hx := t.mono z
  clear c0 c1 c2 c3 c4 i1 i2 i3 i4 hm hi
  obtain ⟨c0, c1, c2, c3, c4, i1, i2, i3, i4⟩ := h.get
  have hm : MemN _ _ _ _ _ := ⟨rfl, h.1⟩
  have hi := h.2
  replace j9 : GHeap.get aC t3 = some (.row (ints []) 2 true) := j9
  refine .mv rfl (.nil (x0 _ _ (.seq (fun K11 x3 => .region (.mv rfl (.q rfl (.nilCheck rfl) (.q rfl (.fieldAddr fo_31_0_B rfl) (.q rfl (.lA on_2_A rfl) ?_))))))))
  refine .R rfl (.makeI rfl sl_22_A ze_2_E by_2_E rfl rfl (by omega) (by omega) (by omega) (by omega)) ?_
  rintro _ _ ⟨p9, rfl, p5, _, n6⟩
  have _ := p5.1
  replace z := z.trans p5
  replace a0 := a0.le p5
  replace c8 := p5.2 _ _ c8
  replace e := p5.2 _ _ e
  replace a1 := p5.2 _ _ a1
  replace j9 := p5.2 _ _ j9
  have _ := GHeap.ltg n6
  replace h := y.mono z
  replace hx := t.mono z
  clear c0 c1 c2 c3 c4 i1 i2 i3 i4 hm hi
  obtain ⟨c0, c1, c2, c3, c4, i1, i2, i3, i4⟩ := h.get
  have hm : MemN _ _ _ _ _ := ⟨rfl, h.1⟩
  have hi := h.2
  refine .mv rfl (.nil (x3 _ _ (.seq (fun K12 v4 => .region ?_))))
  rw [t4, ← Cat.plF_zero c xs n] at n6
  refine .q rfl (.build bt_31_Kc rfl rfl rfl) ?_
  refine .R rfl (.allocR rfl ze_31_E rfl) ?_
  rintro _ _ ⟨n5, rfl, o6, _, x9⟩
  have _ := o6.1
  replace z := z.trans o6
  replace a0 := a0.le o6
  replace c8 := o6.2 _ _ c8
  replace e := o6.2 _ _ e
  replace a1 := o6.2 _ _ a1
  replace j9 := o6.2 _ _ j9
  replace n6 := o6.2 _ _ n6
  have _ := GHeap.ltg x9
  replace h := y.mono z
  replace hx := t.mono z
  clear c0 c1 c2 c3 c4 i1 i2 i3 i4 hm hi
  obtain ⟨c0, c1, c2, c3, c4, i1, i2, i3, i4⟩ := h.get
  have hm : MemN _ _ _ _ _ := ⟨rfl, h.1⟩
  have hi := h.2
  refine .r0 rfl rfl (.fillA rfl sz_31_D rfl rfl rfl rfl) ?_
  rintro _ s7 ⟨rfl, f5, u⟩
  have _ := f5.nx
  replace z := z.st f5 (fun k hk => ⟨by omega, trivial⟩)
  replace a0 := a0.sA f5
  have d2 : NE g4 n5 := .a
  replace c8 := f5.s c8 d2.ne
  have c9 : NE q4 n5 := .a
  replace e := f5.s e c9.ne
  have d1 : NE r5 n5 := .a
  replace a1 := f5.s a1 d1.ne
  replace j9 := f5.s j9
  replace n6 := f5.s n6
  have _ := GHeap.ltg u
  replace h := y.mono z
  replace hx := t.mono z
  clear c0 c1 c2 c3 c4 i1 i2 i3 i4 hm hi
  obtain ⟨c0, c1, c2, c3, c4, i1, i2, i3, i4⟩ := h.get
  have hm : MemN _ _ _ _ _ := ⟨rfl, h.1⟩
  have hi := h.2
  have b : MemN _ _ _ _ _ := ⟨rfl, Mem.of_get u⟩
  refine .nil (v4 _ _ (.seq (fun K13 w8 => .seq (fun K14 w7 => .region (.mv rfl (.q rfl (.nilCheck rfl) (.q rfl (.fieldAddr fo_31_3_B rfl) (.q rfl (.lA on_22_B rfl) (.q rfl (.len sl_22_A rfl) (.mv rfl (.nil (w7 _ _ (.block ?_)))))))))))))
  refine .hold (fun HhI lehI nxhI => ?_)
  obtain ⟨ghI, hghI⟩ : ∃ g, g = GHeap.next s7 := ⟨_, rfl⟩
  have t8 : NO HhI ghI [] 2 0 := NO.start (by omega) rfl rfl
  have _ := lehI.1
  replace z := z.trans lehI
  replace a0 := a0.le lehI
  replace c8 := lehI.2 _ _ c8
  replace e := lehI.2 _ _ e
  replace a1 := lehI.2 _ _ a1
  replace j9 := lehI.2 _ _ j9
  replace n6 := lehI.2 _ _ n6
  replace u := lehI.2 _ _ u
  have _ := t8.lt
  replace h := y.mono z
  replace hx := t.mono z
  clear c0 c1 c2 c3 c4 i1 i2 i3 i4 hm hi
  obtain ⟨c0, c1, c2, c3, c4, i1, i2, i3, i4⟩ := h.get
  have hm : MemN _ _ _ _ _ := ⟨rfl, h.1⟩
  have hi := h.2
  clear b
  have b : MemN _ _ _ _ _ := ⟨rfl, Mem.of_get u⟩
  refine .loopF (σ := Nat × Nat × Nat × Nat) [0, 1, 4, 6, 9, 11, 12, 49, 50] (fun (x, g9, q5, gLI) => [(51, some (.int .i64 (x : Int))), (10, some (.slice (some ⟨g9, 0, none⟩) q5 q5))]) (fun (x, g9, q5, gLI) H' => St [t3, p9, ghI, n5] HhI H' ∧ H'.get g9 = some (.row (ints (filtN x (c.hasId xs))) 2 true) ∧ PL g9 t3 HhI.next ∧ q5 = (filtN x (c.hasId xs)).length ∧ H'.get p9 = some (.row (ints (c.plF xs n x)) 2 true) ∧ NO H' gLI (ints (c.partI xs x)) 2 ((c.partI xs x).length) ∧ PL gLI ghI HhI.next ∧ H'.get n5 = some (.row ([.int .i64 0, .slice none 0 0, .slice none 0 0, .slice (nz (c.partI xs x).length gLI) (c.partI xs x).length (c.partI xs x).length, .slice none 0 0]) 31 true) ∧ g9 ≠ p9 ∧ g9 ≠ gLI ∧ g9 ≠ n5 ∧ p9 ≠ gLI ∧ p9 ≠ n5 ∧ gLI ≠ n5 ∧ x ≤ n) (fun (x, g9, q5, gLI) => n - x) ((0, _, _, ghI)) rfl (.p rfl) ?_ ?_
  ·
   refine ⟨.refl _ _, by first | assumption | exact j9 | simpa using j9, ⟨.inl rfl⟩, by first | rfl | assumption | simp | omega, by first | assumption | exact n6 | simpa using n6, by first | assumption | exact NO.start (by omega) (by first | rfl | (simp; done) | omega) (by first | rfl | (simp; done)), ⟨.inl rfl⟩, by first | assumption | exact u | simpa using u, by omega, by omega, by omega, by omega, by omega, by omega, ?_⟩
   omega
  rintro ⟨x, g9, q5, gLI⟩ _ ⟨f8, l, n1, e8, r, w, o7, a3, s4, t7, n9, s1, l7, n8, hI⟩ _ u8
  dsimp only [cA, nA]
  have _ : H.next ≤ g9 := n1.ge (by omega) (by omega)
  have _ : H.next ≤ gLI := o7.ge (by omega) (by omega)
  have _ := f8.nx
  replace z := z.st f8 (fun k hk => ⟨by omega, by omega, by omega, by omega, trivial⟩)
  replace a0 := a0.st f8 (fun k hk ho => by simp only [out, and_true] at ho ⊢ <;> exact ⟨by first | exact ho | exact ho.1 | exact ho.2 | exact ho.2.1 | exact ho.2.2 | exact ho.2.2.1 | exact ho.2.2.2 | omega, by first | exact ho | exact ho.1 | exact ho.2 | exact ho.2.1 | exact ho.2.2 | exact ho.2.2.1 | exact ho.2.2.2 | omega, by first | exact ho | exact ho.1 | exact ho.2 | exact ho.2.1 | exact ho.2.2 | exact ho.2.2.1 | exact ho.2.2.2 | omega, by first | exact ho | exact ho.1 | exact ho.2 | exact ho.2.1 | exact ho.2.2 | exact ho.2.2.1 | exact ho.2.2.2 | omega⟩)
  have k4 : NE g4 t3 := .a
  have j8 : NE g4 p9 := .a
  have j2 : NE g4 ghI := .a
  replace c8 := f8.same _ _ ⟨k4.ne, j8.ne, j2.ne, d2.ne, trivial⟩ c8
  have m2 : NE q4 t3 := .a
  have m6 : NE q4 p9 := .a
  have l4 : NE q4 ghI := .a
  replace e := f8.same _ _ ⟨m2.ne, m6.ne, l4.ne, c9.ne, trivial⟩ e
  have m5 : NE r5 t3 := .a
  have m7 : NE r5 p9 := .a
  have m8 : NE r5 ghI := .a
  replace a1 := f8.same _ _ ⟨m5.ne, m7.ne, m8.ne, d1.ne, trivial⟩ a1
  have _ := GHeap.ltg l
  have _ := GHeap.ltg r
  have _ := w.lt
  have o9 := GHeap.ltg a3
  replace h := y.mono z
  replace hx := t.mono z
  clear c0 c1 c2 c3 c4 i1 i2 i3 i4 hm hi
  obtain ⟨c0, c1, c2, c3, c4, i1, i2, i3, i4⟩ := h.get
  have hm : MemN _ _ _ _ _ := ⟨rfl, h.1⟩
  have hi := h.2
  clear b
  have b : MemN _ _ _ _ _ := ⟨rfl, Mem.of_get u⟩
  have hfl := filtN_le x (c.hasId xs)
  have hpl := c.length_plF xs n x
  have hil := c.partI_len xs x
  have hnl := length_numF xs c.src.length xs.length
  refine .seq (fun K15 v5 => .region (.q rfl (.cmp rfl rfl rfl) (.nil (v5 _ _ (.seq (fun K16 y2 => ?_))))))
  refine .cond rfl ?_ ?_ <;> intro y9
  ·
   simp only [sps] at y9
   have r1 := hS.idn x (by omega)
   refine .skip (y2 _ _ (.seq (fun K17 u2 => .block (.seq (fun K18 w4 => .region (.mv rfl (.q rfl (.iN sl_22_A rfl rfl) (.q rfl (.lI on_2_A rfl) (.mv rfl (.mv rfl (.nil (w4 _ _ (.seq (fun K19 x5 => .region (.mv rfl ?_)))))))))))))))
   refine .mv rfl ?_
   refine .q rfl (.idx1 sl_60_Kc (SlA.of_row a1 (by simp)) rfl rfl (by omega) (by omega)) ?_
   refine .q rfl (.loadB on_4_Kc (Bools.of_get a1) rfl (by rw [length_tabB]; omega)) ?_
   refine .nil (x5 _ _ ?_)
   refine .cond rfl ?_ ?_ <;> intro r7
   ·
    rw [tabB_get (by omega), show (((c.idn.getD x 0).toNat : Nat) : Int) = c.idn.getD x 0 by omega] at r7
    have hE : filtN (x + 1) (c.hasId xs) = filtN x (c.hasId xs) ++ [(x : Int)] := filtN_T r7
    have hEl : (filtN (x + 1) (c.hasId xs)).length = (filtN x (c.hasId xs)).length + 1 := by rw [hE]; simp
    have _ := c.partI_len xs (x + 1)
    have hP := c.plF_T (xs := xs) (n := n) (k := x) (by omega) r7
    have hN := numF_all (xs := xs) (m := c.src.length) r1.1 r1.2 (List.contains_iff_mem.1 r7)
    have n7 : c.partI xs (x + 1) = c.partI xs x ++ [(numF xs c.src.length xs.length).getD (c.idn.getD x 0).toNat 0] := by rw [hN]; exact c.partI_T r7
    refine .seq (fun K20 y1 => .region (.mv rfl (.mv rfl (.mv rfl (.q rfl (.len sl_22_A rfl) ?_)))))
    refine .q rfl (.idxN sl_22_A (by first | assumption | exact SlA.of_row r (by first | rfl | (simp; done) | (simp <;> omega))) rfl rfl (by omega)) ?_
    refine .r0 rfl rfl (.storeI rfl sz_2_E rfl rfl (by assumption) (by first | omega | (simp <;> omega))) ?_
    rintro _ _ ⟨rfl, e2, d5⟩
    have _ := e2.nx
    replace z := z.st e2 (fun k hk => ⟨by omega, trivial⟩)
    replace a0 := a0.sA e2
    replace f8 := f8.sA e2
    replace c8 := e2.s c8 j8.ne
    replace e := e2.s e m6.ne
    replace a1 := e2.s a1 m7.ne
    replace l := e2.same _ _ ⟨s4, trivial⟩ l
    replace w := w.st e2 ⟨(Ne.symm s1), trivial⟩
    replace a3 := e2.same _ _ ⟨(Ne.symm l7), trivial⟩ a3
    have _ := GHeap.ltg d5
    replace h := y.mono z
    replace hx := t.mono z
    clear c0 c1 c2 c3 c4 i1 i2 i3 i4 hm hi
    obtain ⟨c0, c1, c2, c3, c4, i1, i2, i3, i4⟩ := h.get
    have hm : MemN _ _ _ _ _ := ⟨rfl, h.1⟩
    have hi := h.2
    clear b
    have b : MemN _ _ _ _ _ := ⟨rfl, Mem.of_get u⟩
    rw [Nat.zero_add] at d5
    refine .nil (y1 _ _ (.seq (fun K21 v3 => .region (.mv rfl (.mv rfl ?_)))))
    refine .R rfl (.litA rfl sl_22_A ze_2_E rfl rfl rfl rfl) ?_
    rintro _ _ ⟨_, rfl, n2, _, o3⟩
    have _ := n2.1
    replace z := z.trans n2
    replace a0 := a0.le n2
    replace f8 := f8.le n2
    replace c8 := n2.2 _ _ c8
    replace e := n2.2 _ _ e
    replace a1 := n2.2 _ _ a1
    replace l := n2.2 _ _ l
    replace w := w.le n2
    replace a3 := n2.2 _ _ a3
    replace d5 := n2.2 _ _ d5
    have _ := GHeap.ltg o3
    replace h := y.mono z
    replace hx := t.mono z
    clear c0 c1 c2 c3 c4 i1 i2 i3 i4 hm hi
    obtain ⟨c0, c1, c2, c3, c4, i1, i2, i3, i4⟩ := h.get
    have hm : MemN _ _ _ _ _ := ⟨rfl, h.1⟩
    have hi := h.2
    clear b
    have b : MemN _ _ _ _ _ := ⟨rfl, Mem.of_get u⟩
    refine .R rfl (.apI rfl sl_22_A ze_2_E rfl by_2_E sl_22_A rfl rfl) ?_
    rintro _ _ ⟨_, rfl, n0, _, p2⟩
    have _ := n0.nx
    replace z := z.st n0 (fun k hk => ⟨by omega, trivial⟩)
    replace a0 := a0.sP n0
    replace f8 := f8.sP n0
    have i9 : NE g4 g9 := ⟨n1.ne k4.ne (by omega)⟩
    replace c8 := n0.s c8 i9.ne
    replace e := n0.same _ _ ⟨(n1.ne m2.ne (by omega)), trivial⟩ e
    replace a1 := n0.same _ _ ⟨(n1.ne m5.ne (by omega)), trivial⟩ a1
    replace w := w.st n0 ⟨(Ne.symm t7), trivial⟩
    replace a3 := n0.same _ _ ⟨(Ne.symm n9), trivial⟩ a3
    replace d5 := n0.same _ _ ⟨(Ne.symm s4), trivial⟩ d5
    replace o3 := n0.s o3
    have _ := GHeap.ltg p2
    replace h := y.mono z
    replace hx := t.mono z
    clear c0 c1 c2 c3 c4 i1 i2 i3 i4 hm hi
    obtain ⟨c0, c1, c2, c3, c4, i1, i2, i3, i4⟩ := h.get
    have hm : MemN _ _ _ _ _ := ⟨rfl, h.1⟩
    have hi := h.2
    clear b
    have b : MemN _ _ _ _ _ := ⟨rfl, Mem.of_get u⟩
    refine .mv rfl (.nil (v3 _ _ ?_))
    refine .regionD mo_B (.qs [0, 1, 2, 3, 4, 5] (.c 6 1 (.c 7 0 (.q 8 (.c 9 0 (.done)))))) (by kernel_rfl) ?_
    refine .q rfl (.fieldAddr fo_31_3_B rfl) ?_
    refine .q rfl (.load on_22_B rfl (by first | assumption | exact Mem.of_get a3 3 _ rfl)) ?_
    refine .mv rfl rfl (.mv rfl rfl ?_)
    refine .q rfl (.idx1 sl_22_A (by first | assumption | exact SlA.of_row e (by first | rfl | (simp; done) | (simp <;> omega))) rfl rfl (by omega) (by omega)) ?_
    refine .q rfl (.loadI on_2_A (by first | assumption | exact Ints.of_get e) rfl (by omega)) ?_
    refine .c1 rfl rfl rfl rfl (.litA rfl sl_22_A ze_2_E rfl rfl rfl rfl) ?_
    rintro _ _ ⟨_, rfl, k0, _, q8⟩
    have u9 := k0
    refine ⟨u9, ?_⟩
    have _ := k0.1
    replace z := z.trans k0
    replace a0 := a0.le k0
    replace f8 := f8.le k0
    replace c8 := k0.2 _ _ c8
    replace e := k0.2 _ _ e
    replace a1 := k0.2 _ _ a1
    replace w := w.le k0
    replace a3 := k0.2 _ _ a3
    replace d5 := k0.2 _ _ d5
    replace o3 := k0.2 _ _ o3
    replace p2 := k0.2 _ _ p2
    have _ := GHeap.ltg q8
    replace h := y.mono z
    replace hx := t.mono z
    clear c0 c1 c2 c3 c4 i1 i2 i3 i4 hm hi
    obtain ⟨c0, c1, c2, c3, c4, i1, i2, i3, i4⟩ := h.get
    have hm : MemN _ _ _ _ _ := ⟨rfl, h.1⟩
    have hi := h.2
    clear b
    have b : MemN _ _ _ _ _ := ⟨rfl, Mem.of_get u⟩
    refine .c0 rfl rfl rfl rfl (.appendNOI rfl sl_22_A ze_2_E rfl by_2_E sl_22_A rfl rfl w (by assumption) (by first | omega | (simp <;> omega)) (by omega) (by omega)) ?_
    rintro _ _ ⟨z9, rfl, l2, _, t1⟩
    have _ := l2.nx
    replace z := z.st l2 (fun k hk => ⟨by omega, trivial⟩)
    replace a0 := a0.sP l2
    replace f8 := f8.sP l2
    have k2 : NE g4 gLI := ⟨o7.ne j2.ne (by omega)⟩
    replace c8 := l2.s c8 k2.ne
    replace e := l2.same _ _ ⟨(o7.ne l4.ne (by omega)), trivial⟩ e
    replace a1 := l2.same _ _ ⟨(o7.ne m8.ne (by omega)), trivial⟩ a1
    replace a3 := l2.same _ _ ⟨(Ne.symm n8), trivial⟩ a3
    replace d5 := l2.same _ _ ⟨s1, trivial⟩ d5
    replace o3 := l2.s o3
    replace p2 := l2.s p2
    replace q8 := l2.s q8
    have _ := GHeap.ltg t1
    replace h := y.mono z
    replace hx := t.mono z
    clear c0 c1 c2 c3 c4 i1 i2 i3 i4 hm hi
    obtain ⟨c0, c1, c2, c3, c4, i1, i2, i3, i4⟩ := h.get
    have hm : MemN _ _ _ _ _ := ⟨rfl, h.1⟩
    have hi := h.2
    clear b
    have b : MemN _ _ _ _ _ := ⟨rfl, Mem.of_get u⟩
    refine .q rfl (.fieldAddr fo_31_3_B rfl) ?_
    refine .r0 rfl rfl rfl (.storeR rfl sz_22_E rfl rfl rfl (by assumption) (by first | exact Nat.le_of_ble_eq_true rfl | (simp; done) | (simp <;> omega))) ?_
    rintro _ _ ⟨rfl, d6, p7⟩
    have _ := d6.nx
    replace z := z.st d6 (fun k hk => ⟨by omega, trivial⟩)
    replace a0 := a0.sA d6
    replace f8 := f8.sA d6
    replace c8 := d6.s c8 d2.ne
    replace e := d6.s e c9.ne
    replace a1 := d6.s a1 d1.ne
    replace d5 := d6.same _ _ ⟨l7, trivial⟩ d5
    replace o3 := d6.s o3
    replace p2 := d6.s p2
    replace q8 := d6.s q8
    replace t1 := d6.s t1
    have _ := GHeap.ltg p7
    replace h := y.mono z
    replace hx := t.mono z
    clear c0 c1 c2 c3 c4 i1 i2 i3 i4 hm hi
    obtain ⟨c0, c1, c2, c3, c4, i1, i2, i3, i4⟩ := h.get
    have hm : MemN _ _ _ _ _ := ⟨rfl, h.1⟩
    have hi := h.2
    clear b
    have b : MemN _ _ _ _ _ := ⟨rfl, Mem.of_get u⟩
    try simp only [Nat.zero_add, List.set_cons_succ, List.set_cons_zero] at p7
    refine .done (u2 _ _ (.region (.q rfl (.aD rfl rfl rfl) (.mv rfl (.nil ?_)))))
    refine u8 ((x + 1, _, _, z9)) _ _ ?_ ?_ (.p rfl)
    ·
     refine ⟨f8, by first | assumption | (rw [hE]; assumption) | (rw [hP, ← e8]; assumption) | (rw [hP]; assumption) | (rw [n7]; assumption) | (rw [n7, List.length_append, List.length_singleton]; assumption), by first | assumption | exact ⟨.inr (by omega)⟩ | exact ⟨.inl rfl⟩, by first | omega | (simp only [List.length_append, List.length_cons, List.length_nil] <;> omega), by first | assumption | (rw [hE]; assumption) | (rw [hP, ← e8]; assumption) | (rw [hP]; assumption) | (rw [n7]; assumption) | (rw [n7, List.length_append, List.length_singleton]; assumption), by first | (first | assumption | (rw [hE]; assumption) | (rw [hP, ← e8]; assumption) | (rw [hP]; assumption) | (rw [n7]; assumption) | (rw [n7, List.length_append, List.length_singleton]; assumption)) | exact NO.of (by first | assumption | (rw [hE]; assumption) | (rw [hP, ← e8]; assumption) | (rw [hP]; assumption) | (rw [n7]; assumption) | (rw [n7, List.length_append, List.length_singleton]; assumption)) (by omega), by first | assumption | exact ⟨.inr (by omega)⟩ | exact ⟨.inl rfl⟩, by first | assumption | (rw [hE]; assumption) | (rw [hP, ← e8]; assumption) | (rw [hP]; assumption) | (rw [n7]; assumption) | (rw [n7, List.length_append, List.length_singleton]; assumption), by first | assumption | omega, by first | assumption | omega, by first | assumption | omega, by first | assumption | omega, by first | assumption | omega, by first | assumption | omega, ?_⟩
     omega
    (dsimp only; omega)
   rw [tabB_get (by omega), show (((c.idn.getD x 0).toNat : Nat) : Int) = c.idn.getD x 0 by omega] at r7
   have hE : filtN (x + 1) (c.hasId xs) = filtN x (c.hasId xs) := filtN_F r7
   have hEl : (filtN (x + 1) (c.hasId xs)).length = (filtN x (c.hasId xs)).length := by rw [hE]
   have hP := c.plF_F (xs := xs) (n := n) (k := x) r7
   have n7 : c.partI xs (x + 1) = c.partI xs x := c.partI_F r7
   refine .skip (u2 _ _ (.region (.q rfl (.aD rfl rfl rfl) (.mv rfl (.nil ?_)))))
   refine u8 ((x + 1, _, _, gLI)) _ _ ?_ ?_ (.p rfl)
   ·
    refine ⟨f8, by first | assumption | (rw [hE]; assumption) | (rw [hP, ← e8]; assumption) | (rw [hP]; assumption) | (rw [n7]; assumption) | (rw [n7, List.length_append, List.length_singleton]; assumption), by first | assumption | exact ⟨.inr (by omega)⟩ | exact ⟨.inl rfl⟩, by first | omega | (simp only [List.length_append, List.length_cons, List.length_nil] <;> omega), by first | assumption | (rw [hE]; assumption) | (rw [hP, ← e8]; assumption) | (rw [hP]; assumption) | (rw [n7]; assumption) | (rw [n7, List.length_append, List.length_singleton]; assumption), by first | (first | assumption | (rw [hE]; assumption) | (rw [hP, ← e8]; assumption) | (rw [hP]; assumption) | (rw [n7]; assumption) | (rw [n7, List.length_append, List.length_singleton]; assumption)) | exact NO.of (by first | assumption | (rw [hE]; assumption) | (rw [hP, ← e8]; assumption) | (rw [hP]; assumption) | (rw [n7]; assumption) | (rw [n7, List.length_append, List.length_singleton]; assumption)) (by omega), by first | assumption | exact ⟨.inr (by omega)⟩ | exact ⟨.inl rfl⟩, by first | assumption | (rw [hE]; assumption) | (rw [hP, ← e8]; assumption) | (rw [hP]; assumption) | (rw [n7]; assumption) | (rw [n7, List.length_append, List.length_singleton]; assumption), by first | assumption | omega, by first | assumption | omega, by first | assumption | omega, by first | assumption | omega, by first | assumption | omega, by first | assumption | omega, ?_⟩
    omega
   (dsimp only; omega)
  try simp only [sps] at y9
  refine .exit (w8 _ _ (.seq (fun K22 x6 => .region ?_)))
  obtain rfl : x = n := by omega
  have hpo : filtN x (c.hasId xs) = c.partO xs := by rw [← t4]; rfl
  rw [hpo] at l e8
  have hil := c.partI_len xs x
  rw [hpo] at hil
  rw [hil] at w a3
  obtain rfl := e8
  refine .mv rfl (.q rfl (.len sl_22_A rfl) (.q rfl (.fieldAddr fo_31_0_B rfl) ?_))
  refine .r0 rfl rfl (.storeR rfl sz_2_E rfl rfl rfl (by assumption) (by first | exact Nat.le_of_ble_eq_true rfl | (simp; done) | (simp <;> omega))) ?_
  rintro _ t0 ⟨rfl, f2, e3⟩
  have _ := f2.nx
  replace z := z.st f2 (fun k hk => ⟨by omega, trivial⟩)
  replace a0 := a0.sA f2
  replace c8 := f2.s c8 d2.ne
  replace e := f2.s e c9.ne
  replace a1 := f2.s a1 d1.ne
  replace l := f2.same _ _ ⟨n9, trivial⟩ l
  replace r := f2.same _ _ ⟨l7, trivial⟩ r
  replace w := w.st f2 ⟨n8, trivial⟩
  have _ := GHeap.ltg e3
  replace h := y.mono z
  replace hx := t.mono z
  clear c0 c1 c2 c3 c4 i1 i2 i3 i4 hm hi
  obtain ⟨c0, c1, c2, c3, c4, i1, i2, i3, i4⟩ := h.get
  have hm : MemN _ _ _ _ _ := ⟨rfl, h.1⟩
  have hi := h.2
  clear b
  have b : MemN _ _ _ _ _ := ⟨rfl, Mem.of_get u⟩
  try simp only [Nat.zero_add, List.set_cons_succ, List.set_cons_zero] at e3
  refine .nil (x6 _ _ (.seq (fun K23 y5 => .seq (fun K24 x4 => .region (.mv rfl (.q rfl (.len sl_22_A rfl) (.mv rfl (.nil (x4 _ _ (.block ?_))))))))))
  refine .hold (fun HhF lehF nxhF => ?_)
  obtain ⟨ghF, hghF⟩ : ∃ g, g = GHeap.next t0 := ⟨_, rfl⟩
  have o5 : NO HhF ghF [] 2 0 := NO.start (by omega) rfl rfl
  have _ := lehF.1
  replace z := z.trans lehF
  replace a0 := a0.le lehF
  replace c8 := lehF.2 _ _ c8
  replace e := lehF.2 _ _ e
  replace a1 := lehF.2 _ _ a1
  replace l := lehF.2 _ _ l
  replace r := lehF.2 _ _ r
  replace w := w.le lehF
  replace e3 := lehF.2 _ _ e3
  have _ := o5.lt
  replace h := y.mono z
  replace hx := t.mono z
  clear c0 c1 c2 c3 c4 i1 i2 i3 i4 hm hi
  obtain ⟨c0, c1, c2, c3, c4, i1, i2, i3, i4⟩ := h.get
  have hm : MemN _ _ _ _ _ := ⟨rfl, h.1⟩
  have hi := h.2
  clear b
  have b : MemN _ _ _ _ _ := ⟨rfl, Mem.of_get u⟩
  refine .hold (fun HhT lehT nxhT => ?_)
  obtain ⟨ghT, hghT⟩ : ∃ g, g = GHeap.next HhF := ⟨_, rfl⟩
  have q9 : NO HhT ghT [] 2 0 := NO.start (by omega) rfl rfl
  have _ := lehT.1
  replace z := z.trans lehT
  replace a0 := a0.le lehT
  replace c8 := lehT.2 _ _ c8
  replace e := lehT.2 _ _ e
  replace a1 := lehT.2 _ _ a1
  replace l := lehT.2 _ _ l
  replace r := lehT.2 _ _ r
  replace w := w.le lehT
  replace e3 := lehT.2 _ _ e3
  replace o5 := o5.le lehT
  have _ := q9.lt
  replace h := y.mono z
  replace hx := t.mono z
  clear c0 c1 c2 c3 c4 i1 i2 i3 i4 hm hi
  obtain ⟨c0, c1, c2, c3, c4, i1, i2, i3, i4⟩ := h.get
  have hm : MemN _ _ _ _ _ := ⟨rfl, h.1⟩
  have hi := h.2
  clear b
  have b : MemN _ _ _ _ _ := ⟨rfl, Mem.of_get u⟩
  refine .hold (fun HhC lehC nxhC => ?_)
  obtain ⟨ghC, hghC⟩ : ∃ g, g = GHeap.next HhT := ⟨_, rfl⟩
  have t9 : NO HhC ghC [] 22 0 := NO.start (by omega) rfl rfl
  have _ := lehC.1
  replace z := z.trans lehC
  replace a0 := a0.le lehC
  replace c8 := lehC.2 _ _ c8
  replace e := lehC.2 _ _ e
  replace a1 := lehC.2 _ _ a1
  replace l := lehC.2 _ _ l
  replace r := lehC.2 _ _ r
  replace w := w.le lehC
  replace e3 := lehC.2 _ _ e3
  replace o5 := o5.le lehC
  replace q9 := q9.le lehC
  have _ := t9.lt
  replace h := y.mono z
  replace hx := t.mono z
  clear c0 c1 c2 c3 c4 i1 i2 i3 i4 hm hi
  obtain ⟨c0, c1, c2, c3, c4, i1, i2, i3, i4⟩ := h.get
  have hm : MemN _ _ _ _ _ := ⟨rfl, h.1⟩
  have hi := h.2
  clear b
  have b : MemN _ _ _ _ _ := ⟨rfl, Mem.of_get u⟩
  refine .loopF (σ := Nat × (Nat → Option Addr) × Nat × Nat × Nat) [0, 1, 4, 6, 10, 11, 12, 82, 83] (fun (i, rr, gLF, gLT, gLC) => [(84, some (.int .i64 (i : Int)))]) (fun (i, rr, gLF, gLT, gLC) H' => St [ghF, ghT, ghC, n5] HhC H' ∧ NO H' gLF (ints ((xs.take i).map fun f => idxL (c.partO xs) (c.src.getD f.toNat 0))) 2 (i) ∧ PL gLF ghF HhC.next ∧ NO H' gLT (ints ((xs.take i).map fun f => idxL (c.partO xs) (c.tgt.getD f.toNat 0))) 2 (i) ∧ PL gLT ghT HhC.next ∧ NO H' gLC (slsL rr (c.partL xs i)) 22 (i) ∧ PL gLC ghC HhC.next ∧ H'.get n5 = some (.row ([.int .i64 ((c.partO xs).length : Int), .slice (nz i gLF) i i, .slice (nz i gLT) i i, .slice (nz (c.partO xs).length gLI) (c.partO xs).length (c.partO xs).length, .slice (nz i gLC) i i]) 31 true) ∧ gLF ≠ gLT ∧ gLF ≠ gLC ∧ gLF ≠ n5 ∧ gLT ≠ gLC ∧ gLT ≠ n5 ∧ gLC ≠ n5 ∧ i ≤ xs.length ∧ OwnL H.next H' 2 rr (c.partL xs i) ∧ (∀ j, j < (c.partL xs i).length → rr j ≠ some ⟨gLF, 0, none⟩) ∧ (∀ j, j < (c.partL xs i).length → rr j ≠ some ⟨gLT, 0, none⟩) ∧ ∀ j, j < (c.partL xs i).length → rr j ≠ some ⟨gLI, 0, none⟩) (fun (i, rr, gLF, gLT, gLC) => xs.length - i) ((0, fun _ => none, ghF, ghT, ghC)) rfl (.p rfl) ?_ ?_
  ·
   refine ⟨.refl _ _, by first | assumption | exact NO.start (by omega) (by first | rfl | (simp; done) | omega) (by first | rfl | (simp; done)), ⟨.inl rfl⟩, by first | assumption | exact NO.start (by omega) (by first | rfl | (simp; done) | omega) (by first | rfl | (simp; done)), ⟨.inl rfl⟩, by first | assumption | exact NO.start (by omega) (by first | rfl | (simp; done) | omega) (by first | rfl | (simp; done)), ⟨.inl rfl⟩, by first | assumption | exact e3 | simpa using e3, by omega, by omega, by omega, by omega, by omega, by omega, ?_⟩
   rw [Cat.partL_zero]
   exact ⟨by omega, .nil _ _ _ _, fun _ h => by simp at h, fun _ h => by simp at h, fun _ h => by simp at h⟩
  rintro ⟨i, rr, gLF, gLT, gLC⟩ HL3 ⟨c5, l1, j1, f6, j0, a4, k7, a3, t5, u5, u6, u4, s2, r4, hI⟩ _ w6
  dsimp only [cA, nA]
  have _ : H.next ≤ gLF := j1.ge (by omega) (by omega)
  have _ : H.next ≤ gLT := j0.ge (by omega) (by omega)
  have _ : H.next ≤ gLC := k7.ge (by omega) (by omega)
  have _ := c5.nx
  replace z := z.st c5 (fun k hk => ⟨by omega, by omega, by omega, by omega, trivial⟩)
  replace a0 := a0.st c5 (fun k hk ho => by simp only [out, and_true] at ho ⊢ <;> exact ⟨by first | exact ho | exact ho.1 | exact ho.2 | exact ho.2.1 | exact ho.2.2 | exact ho.2.2.1 | exact ho.2.2.2 | omega, by first | exact ho | exact ho.1 | exact ho.2 | exact ho.2.1 | exact ho.2.2 | exact ho.2.2.1 | exact ho.2.2.2 | omega, by first | exact ho | exact ho.1 | exact ho.2 | exact ho.2.1 | exact ho.2.2 | exact ho.2.2.1 | exact ho.2.2.2 | omega, by first | exact ho | exact ho.1 | exact ho.2 | exact ho.2.1 | exact ho.2.2 | exact ho.2.2.1 | exact ho.2.2.2 | omega⟩)
  have k3 : NE g4 ghF := .a
  have j6 : NE g4 ghT := .a
  have k1 : NE g4 ghC := .a
  replace c8 := c5.same _ _ ⟨k3.ne, j6.ne, k1.ne, d2.ne, trivial⟩ c8
  have l5 : NE q4 ghF := .a
  have m0 : NE q4 ghT := .a
  have l9 : NE q4 ghC := .a
  replace e := c5.same _ _ ⟨l5.ne, m0.ne, l9.ne, c9.ne, trivial⟩ e
  have l6 : NE r5 ghF := .a
  have l3 : NE r5 ghT := .a
  have m1 : NE r5 ghC := .a
  replace a1 := c5.same _ _ ⟨l6.ne, l3.ne, m1.ne, d1.ne, trivial⟩ a1
  have k8 : NE g9 ghF := .a
  have k5 : NE g9 ghT := .a
  have l0 : NE g9 ghC := .a
  replace l := c5.same _ _ ⟨k8.ne, k5.ne, l0.ne, n9, trivial⟩ l
  have l8 : NE p9 ghF := .a
  have n3 : NE p9 ghT := .a
  have m4 : NE p9 ghC := .a
  replace r := c5.same _ _ ⟨l8.ne, n3.ne, m4.ne, l7, trivial⟩ r
  have m3 : NE gLI ghF := .a
  have n4 : NE gLI ghT := .a
  have m9 : NE gLI ghC := .a
  replace w := w.st c5 ⟨m3.ne, n4.ne, m9.ne, n8, trivial⟩
  have _ := l1.lt
  have _ := f6.lt
  have _ := a4.lt
  have o9 := GHeap.ltg a3
  replace h := y.mono z
  replace hx := t.mono z
  clear c0 c1 c2 c3 c4 i1 i2 i3 i4 hm hi
  obtain ⟨c0, c1, c2, c3, c4, i1, i2, i3, i4⟩ := h.get
  have hm : MemN _ _ _ _ _ := ⟨rfl, h.1⟩
  have hi := h.2
  clear b
  have b : MemN _ _ _ _ _ := ⟨rfl, Mem.of_get u⟩
  have rk := St.refl [gLF, gLT, gLC, n5] HL3
  obtain ⟨aE, hR, hF, hT, hId⟩ := hI
  have hatC := a4
  have u7 := a3
  have hql := Cat.partL_len (c := c) aE
  have hfl : (slsL rr (c.partL xs i)).length = (c.partL xs i).length := length_slsL _ _
  have hnl := length_numF xs c.src.length xs.length
  have hpl := c.length_plF xs x x
  refine .seq (fun K25 w2 => .region (.q rfl (.cmp rfl rfl rfl) (.nil (w2 _ _ (.seq (fun K26 v8 => ?_))))))
  refine .cond rfl ?_ ?_ <;> intro y8
  ·
   simp only [sps] at y8
   have hfm : xs.getD i 0 ∈ xs := getD_mem (by omega)
   have q0 := hC.lt (xs.getD i 0) hfm
   have q1 := hC.has hfm hS
   have s5 := c.plF_all (xs := xs) q1.1.1 q1.1.2.1 q1.1.2.2
   have s3 := c.plF_all (xs := xs) q1.2.1 q1.2.2.1 q1.2.2.2
   rw [t4] at s5 s3
   have _ := hS.row (xs.getD i 0).toNat (by omega)
   refine .skip (v8 _ _ (.seq (fun K27 v9 => .block (.seq (fun K28 y3 => .region (.q rfl (.iN sl_22_A rfl rfl) (.q rfl (.lI on_2_A rfl) (.mv rfl (.nil (y3 _ _ (.seq (fun K29 v2 => ?_))))))))))))
   refine .regionD mo_B (.qs [0, 1, 2, 3, 4, 5, 6, 7, 8, 9, 10, 11] (.c 12 1 (.c 13 0 (.q 14 (.c 15 0 (.done)))))) (by kernel_rfl) ?_
   refine .q rfl (.fieldAddr fo_31_1_B rfl) ?_
   refine .q rfl (.load on_22_B rfl (by first | assumption | exact Mem.of_get a3 1 _ rfl)) ?_
   refine .mv rfl rfl (.mv rfl rfl (.q rfl (.nilCheck rfl) (.q rfl (.fieldAddr fo_31_1_B rfl) (.q rfl (.lA on_22_B rfl) (.mv rfl rfl (.q rfl (.i1 sl_22_A rfl rfl) (.q rfl (.lI on_2_A rfl) ?_)))))))
   refine .q rfl (.idx1 sl_22_A (by first | assumption | exact SlA.of_row r (by first | rfl | (simp; done) | (simp <;> omega))) rfl rfl (by omega) (by omega)) ?_
   refine .q rfl (.loadI on_2_A (by first | assumption | exact Ints.of_get r) rfl (by omega)) ?_
   refine .c1 rfl rfl rfl rfl (.litA rfl sl_22_A ze_2_E rfl rfl rfl rfl) ?_
   rintro _ _ ⟨r8, rfl, f1, _, a9⟩
   have u9 := f1
   refine ⟨u9, ?_⟩
   have _ := f1.1
   replace z := z.trans f1
   replace a0 := a0.le f1
   replace c5 := c5.le f1
   replace rk := rk.le f1
   replace c8 := f1.2 _ _ c8
   replace e := f1.2 _ _ e
   replace a1 := f1.2 _ _ a1
   replace l := f1.2 _ _ l
   replace r := f1.2 _ _ r
   replace w := w.le f1
   replace l1 := l1.le f1
   replace f6 := f6.le f1
   replace a4 := a4.le f1
   replace a3 := f1.2 _ _ a3
   have _ := GHeap.ltg a9
   replace h := y.mono z
   replace hx := t.mono z
   clear c0 c1 c2 c3 c4 i1 i2 i3 i4 hm hi
   obtain ⟨c0, c1, c2, c3, c4, i1, i2, i3, i4⟩ := h.get
   have hm : MemN _ _ _ _ _ := ⟨rfl, h.1⟩
   have hi := h.2
   clear b
   have b : MemN _ _ _ _ _ := ⟨rfl, Mem.of_get u⟩
   refine .c0 rfl rfl rfl rfl (.appendNOI rfl sl_22_A ze_2_E rfl by_2_E sl_22_A rfl rfl l1 (by assumption) (by first | omega | (simp <;> omega)) (by omega) (by omega)) ?_
   rintro _ _ ⟨p3, rfl, f3, _, b8⟩
   have _ := f3.nx
   replace z := z.st f3 (fun k hk => ⟨by omega, trivial⟩)
   replace a0 := a0.sP f3
   replace c5 := c5.sP f3
   replace rk := rk.sP f3
   have j3 : NE g4 gLF := ⟨j1.ne k3.ne (by omega)⟩
   replace c8 := f3.s c8 j3.ne
   replace e := f3.same _ _ ⟨(j1.ne l5.ne (by omega)), trivial⟩ e
   replace a1 := f3.same _ _ ⟨(j1.ne l6.ne (by omega)), trivial⟩ a1
   replace l := f3.same _ _ ⟨(j1.ne k8.ne (by omega)), trivial⟩ l
   replace r := f3.same _ _ ⟨(j1.ne l8.ne (by omega)), trivial⟩ r
   replace w := w.st f3 ⟨(j1.ne m3.ne (by omega)), trivial⟩
   replace f6 := f6.st f3 ⟨(Ne.symm t5), trivial⟩
   replace a4 := a4.st f3 ⟨(Ne.symm u5), trivial⟩
   replace a3 := f3.same _ _ ⟨(Ne.symm u6), trivial⟩ a3
   replace a9 := f3.s a9
   have _ := GHeap.ltg b8
   replace h := y.mono z
   replace hx := t.mono z
   clear c0 c1 c2 c3 c4 i1 i2 i3 i4 hm hi
   obtain ⟨c0, c1, c2, c3, c4, i1, i2, i3, i4⟩ := h.get
   have hm : MemN _ _ _ _ _ := ⟨rfl, h.1⟩
   have hi := h.2
   clear b
   have b : MemN _ _ _ _ _ := ⟨rfl, Mem.of_get u⟩
   refine .q rfl (.fieldAddr fo_31_1_B rfl) ?_
   refine .r0 rfl rfl rfl (.storeR rfl sz_22_E rfl rfl rfl (by assumption) (by first | exact Nat.le_of_ble_eq_true rfl | (simp; done) | (simp <;> omega))) ?_
   rintro _ _ ⟨rfl, c6, f9⟩
   have _ := c6.nx
   replace z := z.st c6 (fun k hk => ⟨by omega, trivial⟩)
   replace a0 := a0.sA c6
   replace c5 := c5.sA c6
   replace rk := rk.sA c6
   replace c8 := c6.s c8 d2.ne
   replace e := c6.s e c9.ne
   replace a1 := c6.s a1 d1.ne
   replace l := c6.same _ _ ⟨n9, trivial⟩ l
   replace r := c6.same _ _ ⟨l7, trivial⟩ r
   replace w := w.st c6 ⟨n8, trivial⟩
   replace f6 := f6.st c6 ⟨s2, trivial⟩
   replace a4 := a4.st c6 ⟨r4, trivial⟩
   have h6 : NE r8 n5 := .a
   replace a9 := c6.s a9 h6.ne
   have h8 : NE p3 n5 := .a
   replace b8 := c6.s b8 h8.ne
   have _ := GHeap.ltg f9
   replace h := y.mono z
   replace hx := t.mono z
   clear c0 c1 c2 c3 c4 i1 i2 i3 i4 hm hi
   obtain ⟨c0, c1, c2, c3, c4, i1, i2, i3, i4⟩ := h.get
   have hm : MemN _ _ _ _ _ := ⟨rfl, h.1⟩
   have hi := h.2
   clear b
   have b : MemN _ _ _ _ _ := ⟨rfl, Mem.of_get u⟩
   try simp only [Nat.zero_add, List.set_cons_succ, List.set_cons_zero] at f9
   refine .done (v2 _ _ (.seq (fun K30 w0 => ?_)))
   refine .regionD mo_B (.qs [0, 1, 2, 3, 4, 5, 6, 7, 8, 9, 10, 11] (.c 12 1 (.c 13 0 (.q 14 (.c 15 0 (.done)))))) (by kernel_rfl) ?_
   refine .q rfl (.fieldAddr fo_31_2_B rfl) ?_
   refine .q rfl (.load on_22_B rfl (by first | assumption | exact Mem.of_get f9 2 _ rfl)) ?_
   refine .mv rfl rfl (.mv rfl rfl (.q rfl (.nilCheck rfl) (.q rfl (.fieldAddr fo_31_2_B rfl) (.q rfl (.lA on_22_B rfl) (.mv rfl rfl (.q rfl (.i1 sl_22_A rfl rfl) (.q rfl (.lI on_2_A rfl) ?_)))))))
   refine .q rfl (.idx1 sl_22_A (by first | assumption | exact SlA.of_row r (by first | rfl | (simp; done) | (simp <;> omega))) rfl rfl (by omega) (by omega)) ?_
   refine .q rfl (.loadI on_2_A (by first | assumption | exact Ints.of_get r) rfl (by omega)) ?_
   refine .c1 rfl rfl rfl rfl (.litA rfl sl_22_A ze_2_E rfl rfl rfl rfl) ?_
   rintro _ _ ⟨s0, rfl, e4, _, d0⟩
   have u9 := e4
   refine ⟨u9, ?_⟩
   have _ := e4.1
   replace z := z.trans e4
   replace a0 := a0.le e4
   replace c5 := c5.le e4
   replace rk := rk.le e4
   replace c8 := e4.2 _ _ c8
   replace e := e4.2 _ _ e
   replace a1 := e4.2 _ _ a1
   replace l := e4.2 _ _ l
   replace r := e4.2 _ _ r
   replace w := w.le e4
   replace f6 := f6.le e4
   replace a4 := a4.le e4
   replace a9 := e4.2 _ _ a9
   replace b8 := e4.2 _ _ b8
   replace f9 := e4.2 _ _ f9
   have _ := GHeap.ltg d0
   replace h := y.mono z
   replace hx := t.mono z
   clear c0 c1 c2 c3 c4 i1 i2 i3 i4 hm hi
   obtain ⟨c0, c1, c2, c3, c4, i1, i2, i3, i4⟩ := h.get
   have hm : MemN _ _ _ _ _ := ⟨rfl, h.1⟩
   have hi := h.2
   clear b
   have b : MemN _ _ _ _ _ := ⟨rfl, Mem.of_get u⟩
   refine .c0 rfl rfl rfl rfl (.appendNOI rfl sl_22_A ze_2_E rfl by_2_E sl_22_A rfl rfl f6 (by assumption) (by first | omega | (simp <;> omega)) (by omega) (by omega)) ?_
   rintro _ _ ⟨p6, rfl, f0, _, d3⟩
   have _ := f0.nx
   replace z := z.st f0 (fun k hk => ⟨by omega, trivial⟩)
   replace a0 := a0.sP f0
   replace c5 := c5.sP f0
   replace rk := rk.sP f0
   have j7 : NE g4 gLT := ⟨j0.ne j6.ne (by omega)⟩
   replace c8 := f0.s c8 j7.ne
   replace e := f0.same _ _ ⟨(j0.ne m0.ne (by omega)), trivial⟩ e
   replace a1 := f0.same _ _ ⟨(j0.ne l3.ne (by omega)), trivial⟩ a1
   replace l := f0.same _ _ ⟨(j0.ne k5.ne (by omega)), trivial⟩ l
   replace r := f0.same _ _ ⟨(j0.ne n3.ne (by omega)), trivial⟩ r
   replace w := w.st f0 ⟨(j0.ne n4.ne (by omega)), trivial⟩
   replace a4 := a4.st f0 ⟨(Ne.symm u4), trivial⟩
   replace a9 := f0.s a9
   replace b8 := f0.s b8
   replace f9 := f0.same _ _ ⟨(Ne.symm s2), trivial⟩ f9
   replace d0 := f0.s d0
   have _ := GHeap.ltg d3
   replace h := y.mono z
   replace hx := t.mono z
   clear c0 c1 c2 c3 c4 i1 i2 i3 i4 hm hi
   obtain ⟨c0, c1, c2, c3, c4, i1, i2, i3, i4⟩ := h.get
   have hm : MemN _ _ _ _ _ := ⟨rfl, h.1⟩
   have hi := h.2
   clear b
   have b : MemN _ _ _ _ _ := ⟨rfl, Mem.of_get u⟩
   refine .q rfl (.fieldAddr fo_31_2_B rfl) ?_
   refine .r0 rfl rfl rfl (.storeR rfl sz_22_E rfl rfl rfl (by assumption) (by first | exact Nat.le_of_ble_eq_true rfl | (simp; done) | (simp <;> omega))) ?_
   rintro _ _ ⟨rfl, b0, a7⟩
   have _ := b0.nx
   replace z := z.st b0 (fun k hk => ⟨by omega, trivial⟩)
   replace a0 := a0.sA b0
   replace c5 := c5.sA b0
   replace rk := rk.sA b0
   replace c8 := b0.s c8 d2.ne
   replace e := b0.s e c9.ne
   replace a1 := b0.s a1 d1.ne
   replace l := b0.same _ _ ⟨n9, trivial⟩ l
   replace r := b0.same _ _ ⟨l7, trivial⟩ r
   replace w := w.st b0 ⟨n8, trivial⟩
   replace a4 := a4.st b0 ⟨r4, trivial⟩
   replace a9 := b0.s a9 h6.ne
   replace b8 := b0.s b8 h8.ne
   have k9 : NE s0 n5 := .a
   replace d0 := b0.s d0 k9.ne
   have k6 : NE p6 n5 := .a
   replace d3 := b0.s d3 k6.ne
   have _ := GHeap.ltg a7
   replace h := y.mono z
   replace hx := t.mono z
   clear c0 c1 c2 c3 c4 i1 i2 i3 i4 hm hi
   obtain ⟨c0, c1, c2, c3, c4, i1, i2, i3, i4⟩ := h.get
   have hm : MemN _ _ _ _ _ := ⟨rfl, h.1⟩
   have hi := h.2
   clear b
   have b : MemN _ _ _ _ _ := ⟨rfl, Mem.of_get u⟩
   try simp only [Nat.zero_add, List.set_cons_succ, List.set_cons_zero] at a7
   refine .done (w0 _ _ (.seq (fun K31 w5 => .region ?_)))
   refine .R rfl (.litA rfl sl_22_A ze_2_E rfl rfl rfl rfl) ?_
   rintro _ t2 ⟨i7, rfl, e5, _, o4⟩
   have _ := e5.1
   replace z := z.trans e5
   replace a0 := a0.le e5
   replace c5 := c5.le e5
   replace rk := rk.le e5
   replace c8 := e5.2 _ _ c8
   replace e := e5.2 _ _ e
   replace a1 := e5.2 _ _ a1
   replace l := e5.2 _ _ l
   replace r := e5.2 _ _ r
   replace w := w.le e5
   replace a4 := a4.le e5
   replace a9 := e5.2 _ _ a9
   replace b8 := e5.2 _ _ b8
   replace d0 := e5.2 _ _ d0
   replace d3 := e5.2 _ _ d3
   replace a7 := e5.2 _ _ a7
   have _ := GHeap.ltg o4
   replace h := y.mono z
   replace hx := t.mono z
   clear c0 c1 c2 c3 c4 i1 i2 i3 i4 hm hi
   obtain ⟨c0, c1, c2, c3, c4, i1, i2, i3, i4⟩ := h.get
   have hm : MemN _ _ _ _ _ := ⟨rfl, h.1⟩
   have hi := h.2
   clear b
   have b : MemN _ _ _ _ _ := ⟨rfl, Mem.of_get u⟩
   replace o4 : GHeap.get t2 i7 = some (.row (ints []) 2 true) := o4
   refine .mv rfl (.nil (w5 _ _ (.seq (fun K32 y4 => .seq (fun K33 w3 => .region (.mv rfl (.q rfl (.len sl_22_A rfl) (.mv rfl (.nil (w3 _ _ (.block ?_)))))))))))
   refine .loopF (σ := Nat × Nat × Nat) [0, 1, 4, 6, 10, 11, 12, 16, 82, 83, 84, 119, 120] (fun (j, c7, p4) => [(121, some (.int .i64 (j : Int))), (17, some (.slice (some ⟨c7, 0, none⟩) p4 p4))]) (fun (j, c7, p4) H' => St [i7] t2 H' ∧ H'.get c7 = some (.row (ints ((xs.take j).map fun g => idxL xs (c.th (xs.getD i 0) g))) 2 true) ∧ PL c7 i7 t2.next ∧ p4 = ((xs.take j).map fun g => idxL xs (c.th (xs.getD i 0) g)).length ∧ j ≤ xs.length) (fun (j, c7, p4) => xs.length - j) ((0, _, _)) rfl (.p rfl) ?_ ?_
   ·
    refine ⟨.refl _ _, by first | assumption | exact o4 | simpa using o4, ⟨.inl rfl⟩, by first | rfl | assumption | simp | omega, ?_⟩
    omega
   rintro ⟨j, c7, p4⟩ _ ⟨e1, e9, a2, s6, hI⟩ _ t6
   dsimp only [cA, nA]
   have _ : H.next ≤ c7 := a2.ge (by omega) (by omega)
   have _ := e1.nx
   replace z := z.st e1 (fun k hk => ⟨by omega, trivial⟩)
   replace a0 := a0.sA e1
   replace c5 := c5.sA e1
   replace rk := rk.sA e1
   have i8 : NE g4 i7 := .a
   replace c8 := e1.s c8 i8.ne
   have h4 : NE q4 i7 := .a
   replace e := e1.s e h4.ne
   have i5 : NE r5 i7 := .a
   replace a1 := e1.s a1 i5.ne
   have g3 : NE g9 i7 := .a
   replace l := e1.s l g3.ne
   have h9 : NE p9 i7 := .a
   replace r := e1.s r h9.ne
   have h3 : NE gLI i7 := .a
   replace w := w.st e1 ⟨h3.ne, trivial⟩
   have f7 : NE gLC i7 := .a
   replace a4 := a4.st e1 ⟨f7.ne, trivial⟩
   have h0 : NE r8 i7 := .a
   replace a9 := e1.s a9 h0.ne
   have g1 : NE p3 i7 := .a
   replace b8 := e1.s b8 g1.ne
   have h1 : NE s0 i7 := .a
   replace d0 := e1.s d0 h1.ne
   have g2 : NE p6 i7 := .a
   replace d3 := e1.s d3 g2.ne
   have f4 : NE n5 i7 := .a
   replace a7 := e1.s a7 f4.ne
   have _ := GHeap.ltg e9
   replace h := y.mono z
   replace hx := t.mono z
   clear c0 c1 c2 c3 c4 i1 i2 i3 i4 hm hi
   obtain ⟨c0, c1, c2, c3, c4, i1, i2, i3, i4⟩ := h.get
   have hm : MemN _ _ _ _ _ := ⟨rfl, h.1⟩
   have hi := h.2
   clear b
   have b : MemN _ _ _ _ _ := ⟨rfl, Mem.of_get u⟩
   have _ : ((xs.take j).map fun g => idxL xs (c.th (xs.getD i 0) g)).length = j := by simp; omega
   refine .seq (fun K34 v7 => .region (.q rfl (.cmp rfl rfl rfl) (.nil (v7 _ _ (.seq (fun K35 w1 => ?_))))))
   refine .cond rfl ?_ ?_ <;> intro v0
   ·
    simp only [sps] at v0
    have hgm : xs.getD j 0 ∈ xs := getD_mem (by omega)
    have _ := hC.lt (xs.getD j 0) hgm
    have p1 := hC.num hfm hgm hS
    refine .skip (w1 _ _ (.seq (fun K36 u3 => .block (.seq (fun K37 x2 => .region (.q rfl (.iN sl_22_A rfl rfl) (.q rfl (.lI on_2_A rfl) (.mv rfl (.nil (x2 _ _ (.seq (fun K38 x8 => .region (.mv rfl (.mv rfl (.mv rfl ?_)))))))))))))))
    refine .callQ rfl rfl rfl rfl en57 rfl (then_s) ?_
    refine .mv rfl (.nil (x8 _ _ (.seq (fun K39 u1 => .seq (fun K40 v6 => .region (.mv rfl (.q rfl (.cmp rfl rfl rfl) (.nil (v6 _ _ ?_)))))))))
    refine .cond rfl ?_ ?_ <;> intro s9
    ·
     simp only [sps] at s9
     have hX := p1.1 s9
     refine .region (.mv rfl (.mv rfl ?_))
     refine .q rfl (.idx1 sl_22_A (by first | assumption | exact SlA.of_row e (by first | rfl | (simp; done) | (simp <;> omega))) rfl rfl (by omega) (by omega)) ?_
     refine .q rfl (.loadI on_2_A (by first | assumption | exact Ints.of_get e) rfl (by omega)) ?_
     refine .mv rfl (.nil (u1 _ _ (.region (.mv rfl (.mv rfl ?_)))))
     refine .R rfl (.litA rfl sl_22_A ze_2_E rfl rfl rfl rfl) ?_
     rintro _ _ ⟨_, rfl, d7, _, q7⟩
     have _ := d7.1
     replace z := z.trans d7
     replace a0 := a0.le d7
     replace c5 := c5.le d7
     replace rk := rk.le d7
     replace e1 := e1.le d7
     replace c8 := d7.2 _ _ c8
     replace e := d7.2 _ _ e
     replace a1 := d7.2 _ _ a1
     replace l := d7.2 _ _ l
     replace r := d7.2 _ _ r
     replace w := w.le d7
     replace a4 := a4.le d7
     replace a9 := d7.2 _ _ a9
     replace b8 := d7.2 _ _ b8
     replace d0 := d7.2 _ _ d0
     replace d3 := d7.2 _ _ d3
     replace a7 := d7.2 _ _ a7
     replace e9 := d7.2 _ _ e9
     have _ := GHeap.ltg q7
     replace h := y.mono z
     replace hx := t.mono z
     clear c0 c1 c2 c3 c4 i1 i2 i3 i4 hm hi
     obtain ⟨c0, c1, c2, c3, c4, i1, i2, i3, i4⟩ := h.get
     have hm : MemN _ _ _ _ _ := ⟨rfl, h.1⟩
     have hi := h.2
     clear b
     have b : MemN _ _ _ _ _ := ⟨rfl, Mem.of_get u⟩
     refine .R rfl (.apI rfl sl_22_A ze_2_E rfl by_2_E sl_22_A rfl rfl) ?_
     rintro _ _ ⟨_, rfl, d8, _, u0⟩
     have _ := d8.nx
     replace z := z.st d8 (fun k hk => ⟨by omega, trivial⟩)
     replace a0 := a0.sP d8
     replace c5 := c5.sP d8
     replace rk := rk.sP d8
     replace e1 := e1.sP d8
     have i6 : NE g4 c7 := ⟨a2.ne i8.ne (by omega)⟩
     replace c8 := d8.s c8 i6.ne
     have h2 : NE q4 c7 := ⟨a2.ne h4.ne (by omega)⟩
     replace e := d8.s e h2.ne
     have i0 : NE r5 c7 := ⟨a2.ne i5.ne (by omega)⟩
     replace a1 := d8.s a1 i0.ne
     have g5 : NE g9 c7 := ⟨a2.ne g3.ne (by omega)⟩
     replace l := d8.s l g5.ne
     have h5 : NE p9 c7 := ⟨a2.ne h9.ne (by omega)⟩
     replace r := d8.s r h5.ne
     have h7 : NE gLI c7 := ⟨a2.ne h3.ne (by omega)⟩
     replace w := w.st d8 ⟨h7.ne, trivial⟩
     have e7 : NE gLC c7 := ⟨a2.ne f7.ne (by omega)⟩
     replace a4 := a4.st d8 ⟨e7.ne, trivial⟩
     have g0 : NE r8 c7 := ⟨a2.ne h0.ne (by omega)⟩
     replace a9 := d8.s a9 g0.ne
     have g6 : NE p3 c7 := ⟨a2.ne g1.ne (by omega)⟩
     replace b8 := d8.s b8 g6.ne
     have g7 : NE s0 c7 := ⟨a2.ne h1.ne (by omega)⟩
     replace d0 := d8.s d0 g7.ne
     have g8 : NE p6 c7 := ⟨a2.ne g2.ne (by omega)⟩
     replace d3 := d8.s d3 g8.ne
     have e6 : NE n5 c7 := ⟨a2.ne f4.ne (by omega)⟩
     replace a7 := d8.s a7 e6.ne
     replace q7 := d8.s q7
     have _ := GHeap.ltg u0
     replace h := y.mono z
     replace hx := t.mono z
     clear c0 c1 c2 c3 c4 i1 i2 i3 i4 hm hi
     obtain ⟨c0, c1, c2, c3, c4, i1, i2, i3, i4⟩ := h.get
     have hm : MemN _ _ _ _ _ := ⟨rfl, h.1⟩
     have hi := h.2
     clear b
     have b : MemN _ _ _ _ _ := ⟨rfl, Mem.of_get u⟩
     refine .mv rfl (.nil (u3 _ _ (.region (.q rfl (.aD rfl rfl rfl) (.mv rfl (.nil ?_))))))
     refine t6 ((j + 1, _, _)) _ _ ?_ ?_ (.p rfl)
     ·
      refine ⟨e1, by first | assumption | (rw [take_map_snoc (d := 0) (by omega), ← hX]; assumption), by first | assumption | exact ⟨.inr (by omega)⟩ | exact ⟨.inl rfl⟩, by first | omega | (simp only [List.length_append, List.length_cons, List.length_nil] <;> omega) | (rw [take_map_snoc (d := 0) (by omega), ← hX] <;> (first | omega | (simp only [List.length_append, List.length_cons, List.length_nil] <;> omega))), ?_⟩
      omega
     (dsimp only; omega)
    simp only [sps] at s9
    have hX := p1.2.1 (by omega)
    refine .skip (u1 _ _ (.region (.mv rfl (.mv rfl ?_))))
    refine .R rfl (.litA rfl sl_22_A ze_2_E rfl rfl rfl rfl) ?_
    rintro _ _ ⟨_, rfl, a6, _, o0⟩
    have _ := a6.1
    replace z := z.trans a6
    replace a0 := a0.le a6
    replace c5 := c5.le a6
    replace rk := rk.le a6
    replace e1 := e1.le a6
    replace c8 := a6.2 _ _ c8
    replace e := a6.2 _ _ e
    replace a1 := a6.2 _ _ a1
    replace l := a6.2 _ _ l
    replace r := a6.2 _ _ r
    replace w := w.le a6
    replace a4 := a4.le a6
    replace a9 := a6.2 _ _ a9
    replace b8 := a6.2 _ _ b8
    replace d0 := a6.2 _ _ d0
    replace d3 := a6.2 _ _ d3
    replace a7 := a6.2 _ _ a7
    replace e9 := a6.2 _ _ e9
    have _ := GHeap.ltg o0
    replace h := y.mono z
    replace hx := t.mono z
    clear c0 c1 c2 c3 c4 i1 i2 i3 i4 hm hi
    obtain ⟨c0, c1, c2, c3, c4, i1, i2, i3, i4⟩ := h.get
    have hm : MemN _ _ _ _ _ := ⟨rfl, h.1⟩
    have hi := h.2
    clear b
    have b : MemN _ _ _ _ _ := ⟨rfl, Mem.of_get u⟩
    refine .R rfl (.apI rfl sl_22_A ze_2_E rfl by_2_E sl_22_A rfl rfl) ?_
    rintro _ _ ⟨_, rfl, a5, _, r9⟩
    have _ := a5.nx
    replace z := z.st a5 (fun k hk => ⟨by omega, trivial⟩)
    replace a0 := a0.sP a5
    replace c5 := c5.sP a5
    replace rk := rk.sP a5
    replace e1 := e1.sP a5
    have i6 : NE g4 c7 := ⟨a2.ne i8.ne (by omega)⟩
    replace c8 := a5.s c8 i6.ne
    have h2 : NE q4 c7 := ⟨a2.ne h4.ne (by omega)⟩
    replace e := a5.s e h2.ne
    have i0 : NE r5 c7 := ⟨a2.ne i5.ne (by omega)⟩
    replace a1 := a5.s a1 i0.ne
    have g5 : NE g9 c7 := ⟨a2.ne g3.ne (by omega)⟩
    replace l := a5.s l g5.ne
    have h5 : NE p9 c7 := ⟨a2.ne h9.ne (by omega)⟩
    replace r := a5.s r h5.ne
    have h7 : NE gLI c7 := ⟨a2.ne h3.ne (by omega)⟩
    replace w := w.st a5 ⟨h7.ne, trivial⟩
    have e7 : NE gLC c7 := ⟨a2.ne f7.ne (by omega)⟩
    replace a4 := a4.st a5 ⟨e7.ne, trivial⟩
    have g0 : NE r8 c7 := ⟨a2.ne h0.ne (by omega)⟩
    replace a9 := a5.s a9 g0.ne
    have g6 : NE p3 c7 := ⟨a2.ne g1.ne (by omega)⟩
    replace b8 := a5.s b8 g6.ne
    have g7 : NE s0 c7 := ⟨a2.ne h1.ne (by omega)⟩
    replace d0 := a5.s d0 g7.ne
    have g8 : NE p6 c7 := ⟨a2.ne g2.ne (by omega)⟩
    replace d3 := a5.s d3 g8.ne
    have e6 : NE n5 c7 := ⟨a2.ne f4.ne (by omega)⟩
    replace a7 := a5.s a7 e6.ne
    replace o0 := a5.s o0
    have _ := GHeap.ltg r9
    replace h := y.mono z
    replace hx := t.mono z
    clear c0 c1 c2 c3 c4 i1 i2 i3 i4 hm hi
    obtain ⟨c0, c1, c2, c3, c4, i1, i2, i3, i4⟩ := h.get
    have hm : MemN _ _ _ _ _ := ⟨rfl, h.1⟩
    have hi := h.2
    clear b
    have b : MemN _ _ _ _ _ := ⟨rfl, Mem.of_get u⟩
    refine .mv rfl (.nil (u3 _ _ (.region (.q rfl (.aD rfl rfl rfl) (.mv rfl (.nil ?_))))))
    refine t6 ((j + 1, _, _)) _ _ ?_ ?_ (.p rfl)
    ·
     refine ⟨e1, by first | assumption | (rw [take_map_snoc (d := 0) (by omega), ← hX]; assumption), by first | assumption | exact ⟨.inr (by omega)⟩ | exact ⟨.inl rfl⟩, by first | omega | (simp only [List.length_append, List.length_cons, List.length_nil] <;> omega) | (rw [take_map_snoc (d := 0) (by omega), ← hX] <;> (first | omega | (simp only [List.length_append, List.length_cons, List.length_nil] <;> omega))), ?_⟩
     omega
    (dsimp only; omega)
   try simp only [sps] at v0
   refine .exit (y4 _ _ (.region ?_))
   obtain rfl : j = xs.length := by omega
   have hrl : (c.partR xs (xs.getD i 0)).length = p4 := by rw [s6]; simp [Cat.partR]
   refine .q rfl (.fieldAddr fo_31_4_B rfl) ?_
   refine .q rfl (.load on_23_B rfl (by first | assumption | exact Mem.of_get a7 4 _ rfl)) ?_
   refine .mv rfl ?_
   refine .R rfl (.litA rfl sl_23_B ze_22_E rfl rfl rfl rfl) ?_
   rintro _ _ ⟨_, rfl, e0, _, o8⟩
   have _ := e0.1
   replace z := z.trans e0
   replace a0 := a0.le e0
   replace c5 := c5.le e0
   replace rk := rk.le e0
   replace c8 := e0.2 _ _ c8
   replace e := e0.2 _ _ e
   replace a1 := e0.2 _ _ a1
   replace l := e0.2 _ _ l
   replace r := e0.2 _ _ r
   replace w := w.le e0
   replace a4 := a4.le e0
   replace a9 := e0.2 _ _ a9
   replace b8 := e0.2 _ _ b8
   replace d0 := e0.2 _ _ d0
   replace d3 := e0.2 _ _ d3
   replace a7 := e0.2 _ _ a7
   replace e9 := e0.2 _ _ e9
   have _ := GHeap.ltg o8
   replace h := y.mono z
   replace hx := t.mono z
   clear c0 c1 c2 c3 c4 i1 i2 i3 i4 hm hi
   obtain ⟨c0, c1, c2, c3, c4, i1, i2, i3, i4⟩ := h.get
   have hm : MemN _ _ _ _ _ := ⟨rfl, h.1⟩
   have hi := h.2
   clear b
   have b : MemN _ _ _ _ _ := ⟨rfl, Mem.of_get u⟩
   refine .R rfl (.appendNO rfl sl_23_B ze_22_E rfl by_22_E sl_23_B rfl rfl a4 (by assumption) (by first | omega | (simp <;> omega)) rfl rfl (by omega) (by omega)) ?_
   rintro _ _ ⟨v1, rfl, d9, _, r3⟩
   have _ := d9.nx
   replace z := z.st d9 (fun k hk => ⟨by omega, trivial⟩)
   replace a0 := a0.sP d9
   replace c5 := c5.sP d9
   replace rk := rk.sP d9
   have j5 : NE g4 gLC := ⟨k7.ne k1.ne (by omega)⟩
   replace c8 := d9.s c8 j5.ne
   replace e := d9.same _ _ ⟨(k7.ne l9.ne (by omega)), trivial⟩ e
   replace a1 := d9.same _ _ ⟨(k7.ne m1.ne (by omega)), trivial⟩ a1
   replace l := d9.same _ _ ⟨(k7.ne l0.ne (by omega)), trivial⟩ l
   replace r := d9.same _ _ ⟨(k7.ne m4.ne (by omega)), trivial⟩ r
   replace w := w.st d9 ⟨(k7.ne m9.ne (by omega)), trivial⟩
   replace a9 := d9.s a9
   replace b8 := d9.s b8
   replace d0 := d9.s d0
   replace d3 := d9.s d3
   replace a7 := d9.same _ _ ⟨(Ne.symm r4), trivial⟩ a7
   have e7 : NE gLC c7 := ⟨a2.ne f7.ne (by omega)⟩
   replace e9 := d9.s e9 (Ne.symm e7.ne)
   replace o8 := d9.s o8
   have _ := GHeap.ltg r3
   replace h := y.mono z
   replace hx := t.mono z
   clear c0 c1 c2 c3 c4 i1 i2 i3 i4 hm hi
   obtain ⟨c0, c1, c2, c3, c4, i1, i2, i3, i4⟩ := h.get
   have hm : MemN _ _ _ _ _ := ⟨rfl, h.1⟩
   have hi := h.2
   clear b
   have b : MemN _ _ _ _ _ := ⟨rfl, Mem.of_get u⟩
   refine .q rfl (.fieldAddr fo_31_4_B rfl) ?_
   refine .r0 rfl rfl (.storeR rfl sz_23_E rfl rfl rfl (by assumption) (by first | exact Nat.le_of_ble_eq_true rfl | (simp; done) | (simp <;> omega))) ?_
   rintro _ _ ⟨rfl, a8, p8⟩
   have _ := a8.nx
   replace z := z.st a8 (fun k hk => ⟨by omega, trivial⟩)
   replace a0 := a0.sA a8
   replace c5 := c5.sA a8
   replace rk := rk.sA a8
   replace c8 := a8.s c8 d2.ne
   replace e := a8.s e c9.ne
   replace a1 := a8.s a1 d1.ne
   replace l := a8.same _ _ ⟨n9, trivial⟩ l
   replace r := a8.same _ _ ⟨l7, trivial⟩ r
   replace w := w.st a8 ⟨n8, trivial⟩
   replace a9 := a8.s a9 h6.ne
   replace b8 := a8.s b8 h8.ne
   replace d0 := a8.s d0 k9.ne
   replace d3 := a8.s d3 k6.ne
   have e6 : NE n5 c7 := ⟨a2.ne f4.ne (by omega)⟩
   replace e9 := a8.s e9 (Ne.symm e6.ne)
   replace o8 := a8.s o8
   replace r3 := a8.s r3
   have _ := GHeap.ltg p8
   replace h := y.mono z
   replace hx := t.mono z
   clear c0 c1 c2 c3 c4 i1 i2 i3 i4 hm hi
   obtain ⟨c0, c1, c2, c3, c4, i1, i2, i3, i4⟩ := h.get
   have hm : MemN _ _ _ _ _ := ⟨rfl, h.1⟩
   have hi := h.2
   clear b
   have b : MemN _ _ _ _ _ := ⟨rfl, Mem.of_get u⟩
   try simp only [Nat.zero_add, List.set_cons_succ, List.set_cons_zero] at p8
   refine .nil (v9 _ _ (.region (.q rfl (.aD rfl rfl rfl) (.mv rfl (.nil ?_)))))
   refine w6 ((i + 1, upd rr (c.partL xs i).length (some ⟨c7, 0, none⟩), p3, p6, v1)) _ _ ?_ ?_ (.p rfl)
   ·
    refine ⟨c5, by first | (first | assumption | (rw [take_map_snoc (d := 0) (by omega), ← s5]; assumption) | (rw [take_map_snoc (d := 0) (by omega), ← s3]; assumption) | (rw [Cat.partL_succ (by omega), slsL_snoc, hrl]; assumption)) | exact NO.of (by first | assumption | (rw [take_map_snoc (d := 0) (by omega), ← s5]; assumption) | (rw [take_map_snoc (d := 0) (by omega), ← s3]; assumption) | (rw [Cat.partL_succ (by omega), slsL_snoc, hrl]; assumption)) (by omega), by first | assumption | exact ⟨.inr (by omega)⟩ | exact ⟨.inl rfl⟩, by first | (first | assumption | (rw [take_map_snoc (d := 0) (by omega), ← s5]; assumption) | (rw [take_map_snoc (d := 0) (by omega), ← s3]; assumption) | (rw [Cat.partL_succ (by omega), slsL_snoc, hrl]; assumption)) | exact NO.of (by first | assumption | (rw [take_map_snoc (d := 0) (by omega), ← s5]; assumption) | (rw [take_map_snoc (d := 0) (by omega), ← s3]; assumption) | (rw [Cat.partL_succ (by omega), slsL_snoc, hrl]; assumption)) (by omega), by first | assumption | exact ⟨.inr (by omega)⟩ | exact ⟨.inl rfl⟩, by first | (first | assumption | (rw [take_map_snoc (d := 0) (by omega), ← s5]; assumption) | (rw [take_map_snoc (d := 0) (by omega), ← s3]; assumption) | (rw [Cat.partL_succ (by omega), slsL_snoc, hrl]; assumption)) | exact NO.of (by first | assumption | (rw [take_map_snoc (d := 0) (by omega), ← s5]; assumption) | (rw [take_map_snoc (d := 0) (by omega), ← s3]; assumption) | (rw [Cat.partL_succ (by omega), slsL_snoc, hrl]; assumption)) (by omega), by first | assumption | exact ⟨.inr (by omega)⟩ | exact ⟨.inl rfl⟩, by first | assumption | (rw [take_map_snoc (d := 0) (by omega), ← s5]; assumption) | (rw [take_map_snoc (d := 0) (by omega), ← s3]; assumption) | (rw [Cat.partL_succ (by omega), slsL_snoc, hrl]; assumption), by first | assumption | omega, by first | assumption | omega, by first | assumption | omega, by first | assumption | omega, by first | assumption | omega, by first | assumption | omega, ?_⟩
    have hR' := hR.st rk (.cons hF (.cons hT (.cons (hR.neNO hatC hql.symm rfl) (.cons (hR.neT u7 rfl) (.nil _ _)))))
    have z5 := hR.ne (g := c7) (a2.ge (by omega) (by omega))
    have t4 := hR.ne (g := p3) (by omega)
    have z4 := hR.ne (g := p6) (by omega)
    have _ : p3 ≠ c7 := a2.ne (by omega) (by omega)
    have _ : gLI ≠ c7 := a2.ne (by omega) (by omega)
    have _ : p6 ≠ c7 := a2.ne (by omega) (by omega)
    have hrow := e9
    rw [List.take_length] at hrow
    rw [Cat.partL_succ (by omega)]
    exact ⟨by omega, hR'.snoc2 hrow z5 (by omega), ne_snoc t4 (by omega), ne_snoc z4 (by omega), ne_snoc hId (by omega)⟩
   (dsimp only; omega)
  try simp only [sps] at y8
  refine .exit (y5 _ _ (.seq (fun K41 x7 => .region ?_)))
  refine .q rfl (.loadM ag_31_D rfl ⟨rfl, Mem.of_get a3⟩) ?_
  refine .mv rfl ?_
  have x1 := c8
  refine .r0 rfl rfl (.fillA rfl sz_31_D rfl rfl rfl rfl) ?_
  rintro _ _ ⟨rfl, d4, o2⟩
  have _ := d4.nx
  replace z := z.st d4 (fun k hk => ⟨by omega, trivial⟩)
  replace e := d4.s e (Ne.symm j4.ne)
  replace a1 := d4.s a1
  have i9 : NE g4 g9 := ⟨n1.ne k4.ne (by omega)⟩
  replace l := d4.s l (Ne.symm i9.ne)
  replace r := d4.s r (Ne.symm j8.ne)
  have k2 : NE g4 gLI := ⟨o7.ne j2.ne (by omega)⟩
  replace w := w.st d4 ⟨(Ne.symm k2.ne), trivial⟩
  have j3 : NE g4 gLF := ⟨j1.ne k3.ne (by omega)⟩
  replace l1 := l1.st d4 ⟨(Ne.symm j3.ne), trivial⟩
  have j7 : NE g4 gLT := ⟨j0.ne j6.ne (by omega)⟩
  replace f6 := f6.st d4 ⟨(Ne.symm j7.ne), trivial⟩
  have j5 : NE g4 gLC := ⟨k7.ne k1.ne (by omega)⟩
  replace a4 := a4.st d4 ⟨(Ne.symm j5.ne), trivial⟩
  replace a3 := d4.s a3 (Ne.symm d2.ne)
  have _ := GHeap.ltg o2
  replace h := y.mono z
  replace hx := t.mono z
  clear c0 c1 c2 c3 c4 i1 i2 i3 i4 hm hi
  obtain ⟨c0, c1, c2, c3, c4, i1, i2, i3, i4⟩ := h.get
  have hm : MemN _ _ _ _ _ := ⟨rfl, h.1⟩
  have hi := h.2
  clear b
  have b : MemN _ _ _ _ _ := ⟨rfl, Mem.of_get u⟩
  have _ : MemN _ _ _ _ _ := ⟨rfl, Mem.of_get o2⟩
  refine .mv rfl (.nil (x7 _ _ (.ret (w9 _ _ (⟨_, _, _, _, _, rfl, ag_31_D, (by rfl), (Mem.of_get o2), rfl, ?_⟩)))))
  obtain rfl : i = xs.length := by omega
  rw [List.take_length] at l1 f6
  have hpi : c.partI xs x = (c.part xs).idn := by rw [← t4]; rfl
  rw [hpi] at w
  rw [Cat.partL_all] at a4 hR hF hT hId
  have _ : gLI ≠ gLF := j1.ne (by omega) (by omega)
  have _ : gLI ≠ gLT := j0.ne (by omega) (by omega)
  refine ⟨z, ⟨nz xs.length gLF, nz xs.length gLT, nz (c.partO xs).length gLI, nz xs.length gLC, rr⟩, g9, by simp [Cat.cells, Cat.part], ?_, l, by omega⟩
  exact .mk (l1.isR (by simp) (by omega)) (f6.isR (by simp) (by omega)) (w.isR (by simp [Cat.part]) (by omega)) ((hR.st d4 (.cons (hR.neT x1 rfl) (.nil _ _))).doneNO a4 (by simp [Cat.part]) (by omega)) (nz_or _ _) (nz_or _ _) (nz_or _ _) (by omega) (by omega) (by omega) (fun i hi => ⟨hF i hi, hT i hi, hId i hi⟩)
end Go.Proofs.Ytddjdkpjfpnjiaa
namespace Go.GL
open Go Go.RowKit Go.Proofs Go.Conc Go.Proofs.Ytddjdkpjfpnjiaa
variable [MainFlag]
def Fun.fib (f : Fun) (t : Int) : List Int := filtN f.ar.length fun j => decide (f.ar.getD j 0 = t)
theorem remV_ints {xs : List Int} {t : Int} : ∀ {m k : Nat}, ints (filtN k fun j => decide (xs.getD j 0 = t)) ++ remV xs t k m = ints (filtN (k + m) fun j => decide (xs.getD j 0 = t))
  | 0, k => by simp [remV]
  | m + 1, k => by
    have ih := remV_ints (xs := xs) (t := t) (m := m) (k := k + 1)
    have e : k + (m + 1) = k + 1 + m := by omega
    have e2 : remV xs t k (m + 1) = if xs.getD k 0 = t then .int .i64 (k : Int) :: remV xs t (k + 1) m else remV xs t (k + 1) m := by rw [remV]
    rw [e, ← ih, e2]
    by_cases h : xs.getD k 0 = t
    · rw [if_pos h, filtN_T (by simpa using h)]
      simp [ints]
    · rw [if_neg h, filtN_F (by simpa using h)]
theorem remV_fib {f : Fun} {t : Int} : remV f.ar t 0 f.ar.length = ints (f.fib t) := by
  have := remV_ints (xs := f.ar) (t := t) (m := f.ar.length) (k := 0)
  rw [Nat.zero_add] at this
  exact this
theorem fib_closed {f : Fun} (h : f.Is) {y : Int} (h0 : 0 ≤ y) (h1 : y < f.t.obj) : f.s.Closed (f.fib (f.t.idn.getD y.toNat 0)) := by
  obtain ⟨⟨hs, _⟩, ⟨ht, hl⟩, hf⟩ := h
  have hil := ht.il
  have hy : y.toNat < f.t.idn.length := by omega
  obtain ⟨t1, t2⟩ := ht.ids y.toNat hy
  obtain ⟨i0, i1⟩ := ht.idn y.toNat hy
  have mem : ∀ {a : Int}, a ∈ f.fib (f.t.idn.getD y.toNat 0) ↔ ∃ i : Nat, i < f.ar.length ∧ f.ar.getD i 0 = f.t.idn.getD y.toNat 0 ∧ a = i := fun {a} => by
    unfold Fun.fib
    rw [mem_filtN]
    simp
  have key : ∀ x : Int, 0 ≤ x → x < f.s.obj → f.ob.getD x.toNat 0 = y → f.s.idn.getD x.toNat 0 ∈ f.fib (f.t.idn.getD y.toNat 0) := fun x x0 x1 hx => by
    have hsl := hs.il
    have hx' : x.toNat < f.s.idn.length := by omega
    obtain ⟨j0, j1⟩ := hs.idn x.toNat hx'
    refine mem.2 ⟨(f.s.idn.getD x.toNat 0).toNat, by have := hf.al; omega, ?_, by omega⟩
    rw [hf.ids x.toNat hx', hx]
  refine ⟨⟨fun j => decide (f.ar.getD j 0 = f.t.idn.getD y.toNat 0), by rw [← hf.al]; rfl⟩, fun a ha => ?_, fun a ha b hb hab => ?_⟩
  · obtain ⟨i, hi, he, rfl⟩ := mem.1 ha
    obtain ⟨e1, e2⟩ := hf.ends i hi
    rw [he] at e1 e2
    rw [t1] at e1
    rw [t2] at e2
    have hi' : i < f.s.src.length := by have := hf.al; omega
    obtain ⟨a1, a2⟩ := hs.src i hi'
    obtain ⟨b1, b2⟩ := hs.tgt i (by have := hs.tl; omega)
    exact ⟨key _ a1 a2 (by simp only [Int.toNat_natCast]; omega), key _ b1 b2 (by simp only [Int.toNat_natCast]; omega)⟩
  · obtain ⟨i, hi, he, rfl⟩ := mem.1 ha
    obtain ⟨j, hj, hje, rfl⟩ := mem.1 hb
    have hal := hf.al
    have hi' : i < f.s.src.length := by omega
    have hj' : j < f.s.src.length := by omega
    have hst := (hs.th_ge hi' hj').1 hab
    have hcell := (Cat.Cell.pos hst).1 (hs.cell i (by have := hs.cl; omega) j hj')
    have hth := hf.th i hi' j hj' hst
    rw [he, hje] at hth
    have hid := (hl.ids (f.t.idn.getD y.toNat 0).toNat (by omega)).1
    rw [t1] at hid
    have hyy : ((y.toNat : Nat) : Int).toNat = y.toNat := Int.toNat_natCast _
    rw [hyy, Int.toNat_of_nonneg i0] at hid
    rw [hid] at hth
    refine mem.2 ⟨(f.s.th i j).toNat, ?_, hth, ?_⟩
    · have := hcell.2.1
      rw [← Cat.th_nat] at this
      omega
    · omega
noncomputable def Fun.fbR (f : Fun) (y : Int) : Cat := bif B (f.Is ∧ 0 ≤ y ∧ y < f.t.obj) then f.s.part (f.fib (f.t.idn.getD y.toNat 0)) else .zero
noncomputable def Fun.fbL (f : Fun) (y : Int) : List Int := bif B (f.Is ∧ 0 ≤ y ∧ y < f.t.obj) then f.fib (f.t.idn.getD y.toNat 0) else []
noncomputable def Fun.fbC (f : Fun) (y : Int) : Int := bif B f.Is then bif B (0 ≤ y ∧ y < f.t.obj) then 0 else 2 else 1
theorem fb_0 {f : Fun} {y : Int} (h : f.Is) (h' : 0 ≤ y ∧ y < f.t.obj) : f.fbR y = f.s.part (f.fib (f.t.idn.getD y.toNat 0)) ∧ f.fbL y = f.fib (f.t.idn.getD y.toNat 0) ∧ f.fbC y = 0 := by
  unfold Fun.fbR Fun.fbL Fun.fbC; rw [B_true (p := f.Is ∧ 0 ≤ y ∧ y < f.t.obj) ⟨h, h'⟩, B_true h, B_true h']; exact ⟨rfl, rfl, rfl⟩
theorem fb_1 {f : Fun} {y : Int} (h : ¬ f.Is) : f.fbR y = .zero ∧ f.fbL y = [] ∧ f.fbC y = 1 := by
  unfold Fun.fbR Fun.fbL Fun.fbC; rw [B_false (p := f.Is ∧ 0 ≤ y ∧ y < f.t.obj) fun hh => h hh.1, B_false h]; exact ⟨rfl, rfl, rfl⟩
theorem fb_2 {f : Fun} {y : Int} (h : f.Is) (h' : ¬ (0 ≤ y ∧ y < f.t.obj)) : f.fbR y = .zero ∧ f.fbL y = [] ∧ f.fbC y = 2 := by
  unfold Fun.fbR Fun.fbL Fun.fbC; rw [B_false (p := f.Is ∧ 0 ≤ y ∧ y < f.t.obj) fun hh => h' hh.2, B_true h, B_false h']; exact ⟨rfl, rfl, rfl⟩
theorem IntssR.bks {b : Nat} {H : GHeap} {a : Option Addr} {xss : List (List Int)} {r : Nat → Option Addr} (h : IntssR b H a xss r) {x : Nat} (hx : x ∈ lvBlks (rowsL r xss xss.length)) : b ≤ x ∧ x < H.next := by
  obtain ⟨l, hl, hx2⟩ := List.mem_flatMap.1 hx
  obtain ⟨i, hi, rfl⟩ := List.mem_map.1 hl
  obtain ⟨o2, s2, e2⟩ := mem_lvBlk1 hx2
  have hi' := List.mem_range.1 hi
  rcases h.1 with ⟨rfl, _⟩ | ⟨g', e', cs, _, _, _, _, _, h6⟩
  · simp at hi'
  · obtain ⟨g2, _, h7, h8, h9⟩ := h6 i hi'
    simp only [h7] at e2
    cases e2
    exact ⟨h8, GHeap.ltg h9⟩
theorem IntsR.bks {b : Nat} {H : GHeap} {a : Option Addr} {xs : List Int} {n : Nat} (h : IntsR b H a xs) {x : Nat} (hx : x ∈ lvBlk (a, n)) : b ≤ x ∧ x < H.next := by
  obtain ⟨o2, s2, e2⟩ := mem_lvBlk1 hx
  rcases h with ⟨_, rfl⟩ | ⟨g, e, rfl, h1, h2⟩
  · cases e2
  · cases e2; exact ⟨h1, GHeap.ltg h2⟩
theorem CatR.bks {b : Nat} {H : GHeap} {c : Cat} {p : CatP} (h : CatR b H c p) {x : Nat} (hx : x ∈ lvBlks (c.leaves p)) : b ≤ x ∧ x < H.next := by
  unfold Cat.leaves at hx
  rw [lvBlks_append, lvBlks_append, lvBlks_append] at hx
  simp only [lvBlks, List.flatMap_cons, List.flatMap_nil, List.append_nil, List.mem_append] at hx
  rcases hx with hx | hx | hx | hx
  · exact h.1.1.bks hx
  · exact h.1.2.1.bks hx
  · exact h.1.2.2.1.bks hx
  · exact h.1.2.2.2.bks hx
theorem lvBlks_one {g x n : Nat} (h : x ∈ lvBlks [(some (⟨g, 0, none⟩ : Addr), n)]) : x = g := by
  simp only [lvBlks, List.flatMap_cons, List.flatMap_nil, List.append_nil] at h
  obtain ⟨o, s, e⟩ := mem_lvBlk1 h
  cases e
  rfl
structure CatL (b : Nat) (H : GHeap) (c : Cat) (p : CatP) (a : Option Addr) (xs : List Int) : Prop where
  v : CatR b H c p
  w : IntsR b H a xs
  dj : ∀ g ∈ lvBlks (c.leaves p), ¬ g ∈ lvBlks [(a, xs.length)]
theorem CatL.keep {b b' : Nat} {H H' : GHeap} {c : Cat} {p : CatP} {a : Option Addr} {xs : List Int} (h : CatL b H c p a xs) (k : Keep b' H H') (hb : b' ≤ b) : CatL b' H' c p a xs := ⟨h.v.keep k hb, h.w.keep k hb, h.dj⟩
theorem CatL.nil (b : Nat) (H : GHeap) : CatL b H .zero .zero none [] := ⟨.zero _ _, .inl ⟨rfl, rfl⟩, fun _ _ h => by simp [lvBlks, lvBlk] at h⟩
theorem CatL.nd1 {b : Nat} {H : GHeap} {c : Cat} {p : CatP} {a : Option Addr} {xs : List Int} (h : CatL b H c p a xs) : (lvBlks (c.leaves p)).Nodup := h.v.2
theorem CatL.nd2 {b : Nat} {H : GHeap} {c : Cat} {p : CatP} {a : Option Addr} {xs : List Int} (_ : CatL b H c p a xs) : (lvBlks [(a, xs.length)]).Nodup := IntsR.nodup
theorem fb_small {f : Fun} {y : Int} : (f.fbR y).Small ∧ (f.fbL y).length ≤ 1048576 := by
  by_cases h : f.Is ∧ 0 ≤ y ∧ y < f.t.obj
  · obtain ⟨e1, e2, _⟩ := fb_0 (y := y) h.1 h.2
    have hc := (fib_closed h.1 h.2.1 h.2.2).len
    have := h.1.1.1.n40
    rw [e1, e2]
    exact ⟨Cat.part_small h.1.1.1 (by omega), by omega⟩
  · unfold Fun.fbR Fun.fbL
    rw [B_false h]
    exact ⟨⟨by simp [Cat.zero], by simp [Cat.zero], by simp [Cat.zero], by simp [Cat.zero], fun i => by simp [Cat.zero], by simp [Cat.zero]⟩, by simp⟩
end Go.GL
namespace Go.Proofs.Ytddjdkpjfpnjiaa
open Go Go.GL Go.RowKit Go.Proofs Go.Conc
variable [MainFlag]
set_option maxHeartbeats 1000000 in
theorem implFibreOver_c {f : Fun} {p : FunP} {y : Int} {H : GHeap} (hmain : MainFlag.main = true) (hin : f.In H p := by assumption) (hsm : f.Small := by assumption) :
    GCalls Try.prog 17 [.agg (f.cells p).toArray, .int .i64 y] H (fun v H' => H.Le H' ∧ ∃ q a, v = .tuple #[.agg ((f.fbR y).cells q).toArray, .slice a (f.fbL y).length (f.fbL y).length, .int .i64 (f.fbC y)] ∧ CatL H.next H' (f.fbR y) q a (f.fbL y)) := by
  have hsf := hsm
  obtain ⟨_, j, _, _⟩ := hsf
  refine GCalls.body (N := 48) (rs := [.cell 4 31, .tmp 5, .tmp 6]) Try.func17 rfl rfl rfl rfl (fun Qx c6 hend => ?_)
  refine .fg [0, 1] rfl ?_
  have a0 := GHeap.Le.refl H
  have b := hin
  refine .seq (fun K1 d7 => .region ?_)
  refine .R rfl (.boxR rfl sz_46_E rfl) ?_
  rintro _ _ ⟨g2, rfl, d1, _, a1⟩
  have _ := d1.1
  replace a0 := a0.trans d1
  have _ := GHeap.ltg a1
  replace hin := b.mono a0
  have c : Fun.At _ g2 0 f p := ⟨Mem.of_get a1, hin⟩
  obtain ⟨j, l, z, r, a7, a5⟩ := c.get
  have a6 : MemN _ _ _ _ _ := ⟨rfl, c.1⟩
  have a8 := c.2
  have x : MemN _ _ _ _ _ := ⟨rfl, j.1⟩
  have w := j.2
  have t : MemN _ _ _ _ _ := ⟨rfl, l.1⟩
  have u := l.2
  refine .R rfl (.allocR rfl ze_31_E rfl) ?_
  rintro _ _ ⟨g4, rfl, c8, _, c5⟩
  have _ := c8.1
  replace a0 := a0.trans c8
  replace a1 := c8.2 _ _ a1
  have _ := GHeap.ltg c5
  replace hin := b.mono a0
  clear c j l z r a7 a5 a6 a8 x w t u
  have c : Fun.At _ g2 0 f p := ⟨Mem.of_get a1, hin⟩
  obtain ⟨j, l, z, r, a7, a5⟩ := c.get
  have a6 : MemN _ _ _ _ _ := ⟨rfl, c.1⟩
  have a8 := c.2
  have x : MemN _ _ _ _ _ := ⟨rfl, j.1⟩
  have w := j.2
  have t : MemN _ _ _ _ _ := ⟨rfl, l.1⟩
  have u := l.2
  refine .mv rfl (.mv rfl (.nil (d7 _ _ (.seq (fun K2 e5 => .seq (fun K3 d5 => .region ?_))))))
  refine .callQ rfl rfl rfl rfl en41 rfl (isFunctor_c) ?_
  refine .q rfl (.not rfl) (.nil (d5 _ _ ?_))
  refine .cond rfl ?_ ?_ <;> intro c2
  ·
   simp only [sps] at c2
   refine .seq (fun K4 d6 => .region (.q rfl (.build bt_31_Kc rfl rfl rfl) ?_))
   refine .r0 rfl rfl (.fillA rfl sz_31_D rfl rfl rfl rfl) ?_
   rintro _ _ ⟨rfl, a9, b5⟩
   have _ := a9.nx
   replace a0 := a0.st a9 (fun k hk => ⟨by omega, trivial⟩)
   have i : NE g2 g4 := .a
   replace a1 := a9.s a1 i.ne
   have _ := GHeap.ltg b5
   replace hin := b.mono a0
   clear c j l z r a7 a5 a6 a8 x w t u
   have c : Fun.At _ g2 0 f p := ⟨Mem.of_get a1, hin⟩
   obtain ⟨j, l, z, r, a7, a5⟩ := c.get
   have a6 : MemN _ _ _ _ _ := ⟨rfl, c.1⟩
   have a8 := c.2
   have x : MemN _ _ _ _ _ := ⟨rfl, j.1⟩
   have w := j.2
   have t : MemN _ _ _ _ _ := ⟨rfl, l.1⟩
   have u := l.2
   have _ : MemN _ _ _ _ _ := ⟨rfl, Mem.of_get b5⟩
   refine .mv rfl (.mv rfl (.nil (d6 _ _ (.ret (c6 _ _ (⟨_, _, _, _, _, _, rfl, ag_31_D, (by rfl), (Mem.of_get b5), rfl, rfl, ?_⟩))))))
   obtain ⟨e1, e2, e3⟩ := fb_1 (y := y) c2
   rw [e1, e2, e3]
   exact ⟨a0, .zero, none, rfl, .nil _ _⟩
  simp only [sps] at c2
  have _ := c2.2.1.1.obj
  have _ := c2.2.1.1.il
  have _ := c2.1.1.n40
  have _ := c2.2.2.al
  refine .skip (e5 _ _ (.seq (fun K5 d4 => .seq (fun K6 e0 => .region (.mv rfl (.q rfl (.fieldAddr fo_46_1_E rfl) (.q rfl (.fieldAddr fo_31_0_B rfl) ?_)))))))
  refine .q rfl (.load on_2_A rfl (by first | assumption | exact Mem.of_get a1 5 _ rfl)) ?_
  refine .q rfl (.sub rfl rfl rfl (by omega) (by omega)) ?_
  refine .callQ rfl rfl rfl rfl en42 rfl (inRange_c) ?_
  refine .q rfl (.not rfl) (.nil (e0 _ _ ?_))
  refine .cond rfl ?_ ?_ <;> intro d3
  ·
   simp only [sps] at d3
   refine .seq (fun K7 d8 => .region (.q rfl (.build bt_31_Kc rfl rfl rfl) ?_))
   refine .r0 rfl rfl (.fillA rfl sz_31_D rfl rfl rfl rfl) ?_
   rintro _ _ ⟨rfl, b6, b0⟩
   have _ := b6.nx
   replace a0 := a0.st b6 (fun k hk => ⟨by omega, trivial⟩)
   have i : NE g2 g4 := .a
   replace a1 := b6.s a1 i.ne
   have _ := GHeap.ltg b0
   replace hin := b.mono a0
   clear c j l z r a7 a5 a6 a8 x w t u
   have c : Fun.At _ g2 0 f p := ⟨Mem.of_get a1, hin⟩
   obtain ⟨j, l, z, r, a7, a5⟩ := c.get
   have a6 : MemN _ _ _ _ _ := ⟨rfl, c.1⟩
   have a8 := c.2
   have x : MemN _ _ _ _ _ := ⟨rfl, j.1⟩
   have w := j.2
   have t : MemN _ _ _ _ _ := ⟨rfl, l.1⟩
   have u := l.2
   have _ : MemN _ _ _ _ _ := ⟨rfl, Mem.of_get b0⟩
   refine .mv rfl (.mv rfl (.nil (d8 _ _ (.ret (c6 _ _ (⟨_, _, _, _, _, _, rfl, ag_31_D, (by rfl), (Mem.of_get b0), rfl, rfl, ?_⟩))))))
   obtain ⟨e1, e2, e3⟩ := fb_2 (y := y) c2 (by omega)
   rw [e1, e2, e3]
   exact ⟨a0, .zero, none, rfl, .nil _ _⟩
  simp only [sps] at d3
  refine .skip (d4 _ _ ?_)
  refine fibre_mid (y := y) (f := f) (p := p) hmain rfl rfl rfl (by assumption) (by omega) (by omega) (by omega) ?_
  rintro d0 _ c0 _ e
  have _ := c0.1
  replace a0 := a0.trans c0
  replace a1 := c0.2 _ _ a1
  replace c5 := c0.2 _ _ c5
  have _ := GHeap.ltg e
  replace hin := b.mono a0
  clear c j l z r a7 a5 a6 a8 x w t u
  have c : Fun.At _ g2 0 f p := ⟨Mem.of_get a1, hin⟩
  obtain ⟨j, l, z, r, a7, a5⟩ := c.get
  have a6 : MemN _ _ _ _ _ := ⟨rfl, c.1⟩
  have a8 := c.2
  have x : MemN _ _ _ _ _ := ⟨rfl, j.1⟩
  have w := j.2
  have t : MemN _ _ _ _ _ := ⟨rfl, l.1⟩
  have u := l.2
  rw [remV_fib] at e ⊢; rw [length_ints]
  refine .seq (fun K8 e4 => .region (.q rfl (.fieldAddr fo_46_0_E rfl) (.mv rfl ?_)))
  refine .call rfl rfl rfl rfl en44 rfl (sub_c (hx := .of_get e) (hS := c2.1.1) (hC := fib_closed c2 (by omega) (by omega))) ?_
  rintro _ d2 ⟨c3, _, _, rfl, c4, _, _⟩
  have _ := c3.1
  replace a0 := a0.trans c3
  replace a1 := c3.2 _ _ a1
  replace c5 := c3.2 _ _ c5
  replace e := c3.2 _ _ e
  have a3 := c4
  have d : Keep d0.next d2 d2 := fun _ _ _ h => h
  replace hin := b.mono a0
  clear c j l z r a7 a5 a6 a8 x w t u
  have c : Fun.At _ g2 0 f p := ⟨Mem.of_get a1, hin⟩
  obtain ⟨j, l, z, r, a7, a5⟩ := c.get
  have a6 : MemN _ _ _ _ _ := ⟨rfl, c.1⟩
  have a8 := c.2
  have x : MemN _ _ _ _ _ := ⟨rfl, j.1⟩
  have w := j.2
  have t : MemN _ _ _ _ _ := ⟨rfl, l.1⟩
  have u := l.2
  have c7 := c4.inn
  refine .mv rfl (.q rfl (.extract rfl rfl) (.q rfl (.extract rfl rfl) ?_))
  refine .R rfl (.allocR rfl ze_31_E rfl) ?_
  rintro _ _ ⟨d9, rfl, c1, _, c9⟩
  have _ := c1.1
  replace a0 := a0.trans c1
  replace a1 := c1.2 _ _ a1
  replace c5 := c1.2 _ _ c5
  replace e := c1.2 _ _ e
  replace d := Keep.le d c1
  replace c4 := a3.keep d (Nat.le_refl _)
  have _ := GHeap.ltg c9
  replace hin := b.mono a0
  clear c j l z r a7 a5 a6 a8 x w t u
  have c : Fun.At _ g2 0 f p := ⟨Mem.of_get a1, hin⟩
  obtain ⟨j, l, z, r, a7, a5⟩ := c.get
  have a6 : MemN _ _ _ _ _ := ⟨rfl, c.1⟩
  have a8 := c.2
  have x : MemN _ _ _ _ _ := ⟨rfl, j.1⟩
  have w := j.2
  have t : MemN _ _ _ _ _ := ⟨rfl, l.1⟩
  have u := l.2
  clear c7
  have c7 := c4.inn
  refine .r0 rfl rfl (.fillA rfl sz_31_D rfl rfl rfl rfl) ?_
  rintro _ _ ⟨rfl, m, o⟩
  have _ := m.nx
  replace a0 := a0.st m (fun k hk => ⟨by omega, trivial⟩)
  replace a1 := m.s a1
  have a2 : NE g4 d9 := .a
  replace c5 := m.s c5 a2.ne
  replace e := m.s e
  replace d := Keep.st d m (fun k hb hk => ⟨by omega, trivial⟩)
  replace c4 := a3.keep d (Nat.le_refl _)
  have _ := GHeap.ltg o
  replace hin := b.mono a0
  clear c j l z r a7 a5 a6 a8 x w t u
  have c : Fun.At _ g2 0 f p := ⟨Mem.of_get a1, hin⟩
  obtain ⟨j, l, z, r, a7, a5⟩ := c.get
  have a6 : MemN _ _ _ _ _ := ⟨rfl, c.1⟩
  have a8 := c.2
  have x : MemN _ _ _ _ _ := ⟨rfl, j.1⟩
  have w := j.2
  have t : MemN _ _ _ _ _ := ⟨rfl, l.1⟩
  have u := l.2
  clear c7
  have c7 := c4.inn
  have b9 : MemN _ _ _ _ _ := ⟨rfl, Mem.of_get o⟩
  refine .mv rfl (.nil (e4 _ _ (.seq (fun K9 e6 => .region ?_))))
  refine .q rfl (.loadM ag_31_D rfl ⟨rfl, Mem.of_get o⟩) ?_
  refine .mv rfl ?_
  refine .r0 rfl rfl (.fillA rfl sz_31_D rfl rfl rfl rfl) ?_
  rintro _ _ ⟨rfl, n, a4⟩
  have _ := n.nx
  replace a0 := a0.st n (fun k hk => ⟨by omega, trivial⟩)
  have i : NE g2 g4 := .a
  replace a1 := n.s a1 i.ne
  replace e := n.s e
  replace o := n.s o (Ne.symm a2.ne)
  replace d := Keep.st d n (fun k hb hk => ⟨by omega, trivial⟩)
  replace c4 := a3.keep d (Nat.le_refl _)
  have _ := GHeap.ltg a4
  replace hin := b.mono a0
  clear c j l z r a7 a5 a6 a8 x w t u
  have c : Fun.At _ g2 0 f p := ⟨Mem.of_get a1, hin⟩
  obtain ⟨j, l, z, r, a7, a5⟩ := c.get
  have a6 : MemN _ _ _ _ _ := ⟨rfl, c.1⟩
  have a8 := c.2
  have x : MemN _ _ _ _ _ := ⟨rfl, j.1⟩
  have w := j.2
  have t : MemN _ _ _ _ _ := ⟨rfl, l.1⟩
  have u := l.2
  clear c7
  have c7 := c4.inn
  clear b9
  have b9 : MemN _ _ _ _ _ := ⟨rfl, Mem.of_get o⟩
  have _ : MemN _ _ _ _ _ := ⟨rfl, Mem.of_get a4⟩
  refine .mv rfl (.mv rfl (.nil (e6 _ _ (.ret (c6 _ _ (⟨_, _, _, _, _, _, rfl, ag_31_D, (by rfl), (Mem.of_get a4), rfl, rfl, ?_⟩))))))
  obtain ⟨e1, e2, e3⟩ := fb_0 (y := y) c2 (by omega)
  rw [e1, e2, e3]
  exact ⟨a0, _, _, rfl, ⟨c4.keep (.of_le (.refl _)) (by omega), .of_at e (by omega), fun g hg hg' => by have b7 := (CatR.bks a3 hg).1; have b8 := lvBlks_one hg'; omega⟩⟩
end Go.Proofs.Ytddjdkpjfpnjiaa
namespace Go.Proofs.Ytddjdkpjfpnjiaa
open Go Go.GL Go.RowKit Go.Proofs
variable [MainFlag]
theorem markInt64S_own {g : Nat} {e : TypeId} {xs : List Int} {k : Int} {H : GHeap} (at0 : H.get g = some (.row (ints xs) e true)) (hk : 0 ≤ k) (hk' : k + xs.length ≤ 9223372036854775000) :
    GCalls Try.prog 23 [.slice (some ⟨g, 0, none⟩) xs.length xs.length, .int .i64 k] H (fun v H' => v = .int .i64 (k + xs.length) ∧ St [g] H H' ∧ H'.get g = some (.row (ints (seqL k xs.length)) e true)) := by
  refine GCalls.body (N := 19) (rs := [.tmp 4]) Try.func23 rfl rfl rfl rfl (fun Qx h hend => ?_)
  refine .fg [0, 1] rfl ?_
  refine .seq (fun K1 m => .region (.mv rfl (.nil (m _ _ (.seq (fun K2 r => .seq (fun K3 s => .region (.mv rfl (.nil (s _ _ (.block ?_)))))))))))
  refine .loopF (σ := Nat × Int × List Int) [0] (fun (i, q, ys) => [(5, some (.int .i64 (i : Int))), (1, some (.int .i64 q))]) (fun (i, q, ys) H' => St [g] H H' ∧ H'.get g = some (.row (ints ys) e true) ∧ i ≤ xs.length ∧ q = k + i ∧ ys.length = xs.length ∧ ∀ j, j < i → ys.getD j 0 = k + j) (fun (i, q, ys) => xs.length - i) ((0, k, xs)) rfl (.p rfl) ?_ ?_
  ·
   refine ⟨.refl _ _, by first | assumption | exact at0 | simpa using at0, ?_⟩
   exact ⟨by omega, by omega, rfl, fun _ _ => by omega⟩
  rintro ⟨i, q, ys⟩ _ ⟨c, b, hI⟩ _ f
  dsimp only [cA, nA]
  obtain ⟨_, hq, hyl, ha⟩ := hI
  have _ := SlA.of_ints b hyl
  refine .seq (fun K4 t => .seq (fun K5 l => .region (.mv rfl (.mv rfl (.q rfl (.len sl_22_A rfl) (.q rfl (.cmp rfl rfl rfl) (.nil (l _ _ ?_))))))))
  refine .cond rfl ?_ ?_ <;> intro h9
  ·
   try simp only [sps] at h9
   refine .skip (t _ _ (.seq (fun K6 u => .block (.seq (fun K7 o => .region (.mv rfl (.mv rfl (.mv rfl ?_))))))))
   refine .q rfl (.idxN sl_22_A (by first | assumption | exact SlA.of_row b (by first | rfl | (simp; done) | (simp <;> omega))) rfl rfl (by omega)) ?_
   refine .r0 rfl rfl (.storeI rfl sz_2_E rfl rfl (by assumption) (by first | omega | (simp <;> omega))) ?_
   rintro _ _ ⟨rfl, a, d⟩
   have _ := a.nx
   replace c := c.sA a
   have _ := GHeap.ltg d
   refine .nil (o _ _ (.region (.mv rfl (.q rfl (.aD rfl rfl rfl) (.mv rfl (.nil (u _ _ (.region (.mv rfl (.q rfl (.aD rfl rfl rfl) (.mv rfl (.nil ?_))))))))))))
   refine f ((i + 1, q + 1, ys.set (0 + i) q)) _ _ ?_ ?_ (.p rfl)
   ·
    refine ⟨c, by assumption, ?_⟩
    refine ⟨by omega, by omega, by simpa using hyl, fun j hj => ?_⟩
    rw [Nat.zero_add, getD_set (by omega)]
    split
    · rename_i e; rw [e]; exact hq
    · exact ha j (by omega)
   (dsimp only; omega)
  try simp only [sps] at h9
  refine .exit (r _ _ (.seq (fun K8 n => .region (.mv rfl (.mv rfl (.nil (n _ _ (.ret (h _ _ (⟨_, rfl, ?_⟩))))))))))
  obtain rfl : ys = seqL k xs.length := eq_of_getD (by rw [hyl, length_seqL]) fun j hj => by rw [length_seqL] at hj; rw [ha j (by omega), seqL_get hj]
  obtain rfl : i = xs.length := by omega
  exact ⟨by rw [hq], c, b⟩
theorem markInt64S_nil {a : Option Addr} {k : Int} {H : GHeap} (hk : 0 ≤ k) (hk' : k ≤ 9223372036854775000) :
    GCalls Try.prog 23 [.slice a 0 0, .int .i64 k] H (fun v H' => v = .int .i64 k ∧ H' = H) := by
  refine GCalls.body (N := 19) (rs := [.tmp 4]) Try.func23 rfl rfl rfl rfl (fun Qx b hend => ?_)
  refine .fg [0, 1] rfl ?_
  refine .seq (fun K1 d => .region (.mv rfl (.nil (d _ _ (.seq (fun K2 e => .seq (fun K3 f => .region (.mv rfl (.nil (f _ _ (.block ?_)))))))))))
  refine .loopF (σ := Unit) [0] (fun u => [(5, some (.int .i64 0)), (1, some (.int .i64 k))]) (fun u H' => H = H' ∧ True) (fun u => 0) (()) rfl (.p rfl) ?_ ?_
  ·
   refine ⟨rfl, ?_⟩
   exact trivial
  rintro u _ ⟨rfl, _⟩ _ _
  dsimp only [cA, nA]
  refine .seq (fun K4 hK4 => .seq (fun K5 c => .region (.mv rfl (.mv rfl (.q rfl (.len sl_22_A rfl) (.q rfl (.cmp rfl rfl rfl) (.nil (c _ _ ?_))))))))
  refine .cond rfl ?_ ?_ <;> intro h9
  ·
   exact absurd h9 (by simp)
  try simp only [sps] at h9
  refine .exit (e _ _ (.seq (fun K6 g => .region (.mv rfl (.mv rfl (.nil (g _ _ (.ret (b _ _ (⟨_, rfl, ?_⟩))))))))))
  exact ⟨rfl, rfl⟩
theorem markInt64S_c {a : Option Addr} {n lo hi : Nat} {k : Int} {H : GHeap} (h : IntsW lo hi H a n := by assumption) (hk : 0 ≤ k := by omega) (hk' : k + n ≤ 9223372036854775000 := by omega) :
    GCalls Try.prog 23 [.slice a n n, .int .i64 k] H (fun v H' => v = .int .i64 (k + n) ∧ Marked lo hi H H' [(a, n)] k) := by
  by_cases h0 : n = 0
  · subst h0
    refine (markInt64S_nil hk (by omega)).mono fun v H' ⟨h1, h2⟩ => ?_
    subst h2
    exact ⟨by rw [h1]; simp, .refl _ _ _, .refl _ _, fun _ => ⟨.inl rfl, trivial⟩⟩
  · rcases h with h | ⟨g, e, xs, rfl, h2, h3, h4, rfl⟩
    · exact absurd h h0
    · exact (markInt64S_own h4 hk hk').mono fun v H' ⟨k1, k2, k3⟩ => ⟨k1, .one h2 h3 h4 k2 k3 h0⟩
theorem heldInt64S_c {a : Option Addr} {n b : Nat} {k : Int} {H : GHeap} (h : Held b H [(a, n)] k := by assumption) (hk : 0 ≤ k := by omega) (hk' : k + n ≤ 9223372036854775000 := by omega) :
    GCalls Try.prog 25 [.slice a n n, .int .i64 k] H (Ret (.int .i64 (k + n)) H) := by
  have hi := h.ints
  have hl : (seqL k n).length = n := length_seqL k n
  have hsl : SlA H a n (fun i => .int .i64 ((seqL k n).getD i 0)) := by have hi' := hi; unfold Ints at hi'; rw [hl] at hi'; exact hi'
  refine GCalls.body (N := 21) (rs := [.tmp 4]) Try.func25 rfl rfl rfl rfl (fun Qx c hend => ?_)
  refine .fg [0, 1] rfl ?_
  refine .seq (fun K1 j => .region (.mv rfl (.nil (j _ _ (.seq (fun K2 o => .seq (fun K3 s => .region (.mv rfl (.nil (s _ _ (.block ?_)))))))))))
  refine .loopF (σ := Nat × Int) [0] (fun (i, q) => [(5, some (.int .i64 (i : Int))), (1, some (.int .i64 q))]) (fun (i, q) H' => H = H' ∧ i ≤ n ∧ q = k + i) (fun (i, q) => n - i) ((0, k)) rfl (.p rfl) ?_ ?_
  ·
   refine ⟨rfl, ?_⟩
   exact ⟨by omega, by omega⟩
  rintro ⟨i, q⟩ _ ⟨rfl, hI⟩ _ e
  dsimp only [cA, nA]
  obtain ⟨hi, hq⟩ := hI
  refine .seq (fun K4 t => .seq (fun K5 g => .region (.mv rfl (.mv rfl (.q rfl (.len sl_22_A rfl) (.q rfl (.cmp rfl rfl rfl) (.nil (g _ _ ?_))))))))
  refine .cond rfl ?_ ?_ <;> intro h9
  ·
   try simp only [sps] at h9
   refine .skip (t _ _ (.seq (fun K6 u => .block (.seq (fun K7 m => .seq (fun K8 l => .region (.mv rfl (.mv rfl ?_))))))))
   refine .q rfl (.idxN sl_22_A hsl rfl rfl (by omega)) ?_
   refine .q rfl (.loadE on_2_A hsl rfl (by omega)) ?_
   refine .mv rfl (.q rfl (.cmp rfl rfl rfl) (.nil (l _ _ ?_)))
   refine .cond rfl ?_ ?_ <;> intro d
   ·
    simp only [sps] at d
    rw [seqL_get (by omega)] at d
    refine .seq (fun K9 r => .region (.mv rfl (.nil (r _ _ (.ret (c _ _ (⟨_, rfl, ?_⟩)))))))
    exact absurd hq.symm (by omega)
   try simp only [sps] at d
   refine .skip (m _ _ (.region (.mv rfl (.q rfl (.aD rfl rfl rfl) (.mv rfl (.nil (u _ _ (.region (.mv rfl (.q rfl (.aD rfl rfl rfl) (.mv rfl (.nil ?_))))))))))))
   refine e ((i + 1, q + 1)) _ _ ?_ ?_ (.p rfl)
   ·
    refine ⟨rfl, ?_⟩
    exact ⟨by omega, by omega⟩
   (dsimp only; omega)
  try simp only [sps] at h9
  refine .exit (o _ _ (.seq (fun K10 f => .region (.mv rfl (.mv rfl (.nil (f _ _ (.ret (c _ _ (⟨_, rfl, ?_⟩))))))))))
  obtain rfl : i = n := by omega
  exact .of (by rw [hq])
theorem markInt64SS_c {a : Option Addr} {xss : List (List Int)} {r : Nat → Option Addr} {lo hi : Nat} {k : Int} {H : GHeap} (h : IntssW lo hi H a xss r := by assumption) (hk : 0 ≤ k := by omega) (hk' : k + sumL xss ≤ 9223372036854775000 := by omega) (hl : xss.length ≤ 1048576 := by omega) :
    GCalls Try.prog 12 [.slice a xss.length xss.length, .int .i64 k] H (fun v H' => v = .int .i64 (k + sumL xss) ∧ Marked lo hi H H' (rowsL r xss xss.length) k) := by
  refine GCalls.body (N := 19) (rs := [.tmp 4]) Try.func12 rfl rfl rfl rfl (fun Qx d hend => ?_)
  refine .fg [0, 1] rfl ?_
  refine .seq (fun K1 f => .region (.mv rfl (.nil (f _ _ (.seq (fun K2 j => .seq (fun K3 l => .region (.mv rfl (.nil (l _ _ (.block ?_)))))))))))
  refine .loopF (σ := Nat × Int) [0] (fun (i, q) => [(5, some (.int .i64 (i : Int))), (1, some (.int .i64 q))]) (fun (i, q) H' => i ≤ xss.length ∧ q = k + sumL (xss.take i) ∧ Marked lo hi H H' (rowsL r xss i) k) (fun (i, q) => xss.length - i) ((0, k)) rfl (.p rfl) ?_ ?_
  ·
   exact ⟨by omega, by simp [sumL], .nil _ _ _ _⟩
  rintro ⟨i, q⟩ H' hI _ c
  dsimp only [cA, nA]
  obtain ⟨_, hq, hm⟩ := hI
  have hw := h.stm hm.stm
  have hsl := hw.1
  have _ := sumL_take_le (xss := xss) (k := i + 1)
  refine .seq (fun K4 m => .seq (fun K5 e => .region (.mv rfl (.mv rfl (.q rfl (.len sl_23_B rfl) (.q rfl (.cmp rfl rfl rfl) (.nil (e _ _ ?_))))))))
  refine .cond rfl ?_ ?_ <;> intro h9
  ·
   simp only [sps] at h9
   have _ := sumL_take_succ (xss := xss) (k := i) (by omega)
   refine .skip (m _ _ (.seq (fun K6 n => .block (.region (.mv rfl (.mv rfl ?_))))))
   refine .q rfl (.idxN sl_23_B hsl rfl rfl (by omega)) ?_
   refine .q rfl (.loadE on_22_B hsl rfl (by omega)) ?_
   refine .mv rfl ?_
   refine .call rfl rfl rfl rfl en23 rfl (markInt64S_c (hw.2.1 i (by omega)) (by omega) (by omega)) ?_
   rintro _ _ ⟨rfl, b⟩
   refine .mv rfl (.nil (n _ _ (.region (.mv rfl (.q rfl (.aD rfl rfl rfl) (.mv rfl (.nil ?_)))))))
   refine c ((i + 1, _)) _ _ ?_ ?_ (.p rfl)
   ·
    exact ⟨by omega, by rw [sumL_take_succ (by omega)]; omega, by rw [rowsL_succ]; exact hm.app' b (by rw [lvSum_rowsL _ _ _ (by omega)]; omega)⟩
   (dsimp only; omega)
  try simp only [sps] at h9
  refine .exit (j _ _ (.seq (fun K7 g => .region (.mv rfl (.mv rfl (.nil (g _ _ (.ret (d _ _ (⟨_, rfl, ?_⟩))))))))))
  obtain rfl : i = xss.length := by omega
  rw [List.take_length] at hq
  exact ⟨by rw [hq], hm⟩
theorem heldRow {b : Nat} {H : GHeap} {r : Nat → Option Addr} {xss : List (List Int)} {k : Int} : ∀ {n : Nat}, n ≤ xss.length → Held b H (rowsL r xss n) k → ∀ i, i < n → Held b H [(r i, (xss.getD i []).length)] (k + sumL (xss.take i))
  | 0, _, _, i, hi => by omega
  | n + 1, hn, h, i, hi => by
    rw [rowsL_succ] at h
    obtain ⟨h1, h2⟩ := h.app
    rw [lvSum_rowsL _ _ _ (by omega)] at h2
    by_cases e : i = n
    · subst e; exact h2
    · exact heldRow (by omega) h1 i (by omega)
theorem heldInt64SS_c {a : Option Addr} {xss : List (List Int)} {r : Nat → Option Addr} {b : Nat} {k : Int} {H : GHeap} (hsl : SlA H a xss.length (fun i => .slice (r i) (xss.getD i []).length (xss.getD i []).length) := by assumption) (h : Held b H (rowsL r xss xss.length) k := by assumption) (hk : 0 ≤ k := by omega) (hk' : k + sumL xss ≤ 9223372036854775000 := by omega) (hl : xss.length ≤ 1048576 := by omega) :
    GCalls Try.prog 13 [.slice a xss.length xss.length, .int .i64 k] H (Ret (.int .i64 (k + sumL xss)) H) := by
  refine GCalls.body (N := 21) (rs := [.tmp 4]) Try.func13 rfl rfl rfl rfl (fun Qx d hend => ?_)
  refine .fg [0, 1] rfl ?_
  refine .seq (fun K1 g => .region (.mv rfl (.nil (g _ _ (.seq (fun K2 m => .seq (fun K3 o => .region (.mv rfl (.nil (o _ _ (.block ?_)))))))))))
  refine .loopF (σ := Nat × Int) [0] (fun (i, q) => [(5, some (.int .i64 (i : Int))), (1, some (.int .i64 q))]) (fun (i, q) H' => H = H' ∧ i ≤ xss.length ∧ q = k + sumL (xss.take i)) (fun (i, q) => xss.length - i) ((0, k)) rfl (.p rfl) ?_ ?_
  ·
   refine ⟨rfl, ?_⟩
   exact ⟨by omega, by simp [sumL]⟩
  rintro ⟨i, q⟩ _ ⟨rfl, hI⟩ _ c
  dsimp only [cA, nA]
  obtain ⟨_, hq⟩ := hI
  have _ := sumL_take_le (xss := xss) (k := i + 1)
  refine .seq (fun K4 s => .seq (fun K5 f => .region (.mv rfl (.mv rfl (.q rfl (.len sl_23_B rfl) (.q rfl (.cmp rfl rfl rfl) (.nil (f _ _ ?_))))))))
  refine .cond rfl ?_ ?_ <;> intro h9
  ·
   simp only [sps] at h9
   have _ := sumL_take_succ (xss := xss) (k := i) (by omega)
   have hr := heldRow (Nat.le_refl _) h i (by omega)
   rw [← hq] at hr
   refine .skip (s _ _ (.seq (fun K6 t => .block (.seq (fun K7 l => .region (.mv rfl (.mv rfl ?_)))))))
   refine .q rfl (.idxN sl_23_B hsl rfl rfl (by omega)) ?_
   refine .q rfl (.loadE on_22_B hsl rfl (by omega)) ?_
   refine .mv rfl ?_
   refine .callQ rfl rfl rfl rfl en25 rfl (heldInt64S_c) ?_
   refine .mv rfl (.nil (l _ _ (.seq (fun K8 j => .region (.mv rfl (.q rfl (.cmp rfl rfl rfl) (.nil (j _ _ ?_))))))))
   refine .cond rfl ?_ ?_ <;> intro e
   ·
    exact absurd e (by simp; omega)
   try simp only [sps] at e
   refine .skip (t _ _ (.region (.mv rfl (.q rfl (.aD rfl rfl rfl) (.mv rfl (.nil ?_))))))
   refine c ((i + 1, _)) _ _ ?_ ?_ (.p rfl)
   ·
    refine ⟨rfl, ?_⟩
    exact ⟨by omega, by rw [sumL_take_succ (by omega)]; omega⟩
   (dsimp only; omega)
  try simp only [sps] at h9
  refine .exit (m _ _ (.seq (fun K9 n => .region (.mv rfl (.mv rfl (.nil (n _ _ (.ret (d _ _ (⟨_, rfl, ?_⟩))))))))))
  obtain rfl : i = xss.length := by omega
  rw [List.take_length] at hq
  exact .of (by rw [hq])
theorem markCategory_c {c : Cat} {p : CatP} {lo hi : Nat} {k : Int} {H : GHeap} (w : CatW lo hi H c p := by assumption) (hs : c.Small := by assumption) (hk : 0 ≤ k := by omega) (hk' : k + c.total ≤ 9223372036854775000 := by omega) (hhi : hi ≤ H.next := by omega) :
    GCalls Try.prog 22 [.agg (c.cells p).toArray, .int .i64 k] H (fun v H' => v = .int .i64 (k + c.total) ∧ Marked lo hi H H' (c.leaves p) k) := by
  obtain ⟨w1, w2, w3, w4⟩ := w
  have ht : c.total = c.src.length + (c.tgt.length + (c.idn.length + sumL c.comp)) := rfl
  obtain ⟨_, _, _, _, -, -⟩ := hs
  refine GCalls.body (N := 22) (rs := [.tmp 4]) Try.func22 rfl rfl rfl rfl (fun Qx i hend => ?_)
  refine .fg [0, 1] rfl ?_
  refine .seq (fun K1 o => .region ?_)
  refine .R rfl (.boxR rfl sz_31_D rfl) ?_
  rintro _ H2 ⟨g2, rfl, g, _, a⟩
  replace w1 := w1.stm (.of_le g)
  replace w2 := w2.stm (.of_le g)
  replace w3 := w3.stm (.of_le g)
  replace w4 := w4.stm (.of_le g)
  refine .mv rfl (.nil (o _ _ (.seq (fun K2 r => .region ?_))))
  have _ : H2.cell g2 (0 + 1) = some (.slice p.a1 c.src.length c.src.length) := Mem.of_get a 1 _ rfl
  refine .q rfl (.fieldAddr fo_31_1_B rfl) ?_
  refine .q rfl (.load on_22_B rfl (by first | assumption | exact Mem.of_get a 1 _ rfl)) ?_
  refine .mv rfl ?_
  refine .call rfl rfl rfl rfl en23 rfl (markInt64S_c) ?_
  rintro _ H8 ⟨rfl, l⟩
  have h := l.stm
  replace a := h.same _ _ (by omega) a
  replace w2 := w2.stm h
  replace w3 := w3.stm h
  replace w4 := w4.stm h
  refine .mv rfl (.nil (r _ _ (.seq (fun K3 s => .region ?_))))
  have _ : H8.cell g2 (0 + 2) = some (.slice p.a2 c.tgt.length c.tgt.length) := Mem.of_get a 2 _ rfl
  refine .q rfl (.fieldAddr fo_31_2_B rfl) ?_
  refine .q rfl (.load on_22_B rfl (by first | assumption | exact Mem.of_get a 2 _ rfl)) ?_
  refine .mv rfl ?_
  refine .call rfl rfl rfl rfl en23 rfl (markInt64S_c) ?_
  rintro _ x ⟨rfl, f⟩
  have b := f.stm
  replace a := b.same _ _ (by omega) a
  replace w3 := w3.stm b
  replace w4 := w4.stm b
  refine .mv rfl (.nil (s _ _ (.seq (fun K4 t => .region ?_))))
  have _ : x.cell g2 (0 + 3) = some (.slice p.a3 c.idn.length c.idn.length) := Mem.of_get a 3 _ rfl
  refine .q rfl (.fieldAddr fo_31_3_B rfl) ?_
  refine .q rfl (.load on_22_B rfl (by first | assumption | exact Mem.of_get a 3 _ rfl)) ?_
  refine .mv rfl ?_
  refine .call rfl rfl rfl rfl en23 rfl (markInt64S_c) ?_
  rintro _ n ⟨rfl, e⟩
  have d := e.stm
  replace a := d.same _ _ (by omega) a
  replace w4 := w4.stm d
  refine .mv rfl (.nil (t _ _ (.seq (fun K5 m => .region ?_))))
  have _ : n.cell g2 (0 + 4) = some (.slice p.a4 c.comp.length c.comp.length) := Mem.of_get a 4 _ rfl
  refine .q rfl (.fieldAddr fo_31_4_B rfl) ?_
  refine .q rfl (.load on_23_B rfl (by first | assumption | exact Mem.of_get a 4 _ rfl)) ?_
  refine .mv rfl ?_
  refine .call rfl rfl rfl rfl en12 rfl (markInt64SS_c) ?_
  rintro _ _ ⟨rfl, j⟩
  refine .mv rfl (.nil (m _ _ (.seq (fun K6 u => .region (.mv rfl (.mv rfl (.nil (u _ _ (.ret (i _ _ (⟨_, rfl, ?_⟩)))))))))))
  exact ⟨by rw [ht]; congr 1; omega, .le_left g (l.app' (f.app' (e.app' j (by simp [lvSum])) (by simp [lvSum])) (by simp [lvSum]))⟩
theorem heldCategory_c {c : Cat} {p : CatP} {lo hi b : Nat} {k : Int} {H : GHeap} (w : CatW lo hi H c p := by assumption) (h : Held b H (c.leaves p) k := by assumption) (hs : c.Small := by assumption) (hk : 0 ≤ k := by omega) (hk' : k + c.total ≤ 9223372036854775000 := by omega) :
    GCalls Try.prog 24 [.agg (c.cells p).toArray, .int .i64 k] H (Ret (.int .i64 (k + c.total)) H) := by
  refine GCalls.ret rfl ?_
  have ht : c.total = c.src.length + (c.tgt.length + (c.idn.length + sumL c.comp)) := rfl
  obtain ⟨_, _, _, _, -, -⟩ := hs
  obtain ⟨v1, h⟩ := h.app
  obtain ⟨v2, h⟩ := h.app
  obtain ⟨v3, v4⟩ := h.app
  simp only [lvSum, Nat.add_zero] at v2 v3 v4
  refine GCalls.body (N := 30) (rs := [.tmp 4]) Try.func24 rfl rfl rfl rfl (fun Qx i hend => ?_)
  refine .fg [0, 1] rfl ?_
  have m := GHeap.Le.refl H
  refine .seq (fun K1 x => .region ?_)
  refine .R rfl (.boxR rfl sz_31_D rfl) ?_
  rintro _ H2 ⟨g2, rfl, d, _, a⟩
  replace m := m.trans d
  refine .mv rfl (.nil (x _ _ (.seq (fun K2 a5 => .region ?_))))
  replace v1 := v1.keep (.of_le d) (Nat.zero_le _)
  replace v2 := v2.keep (.of_le d) (Nat.zero_le _)
  replace v3 := v3.keep (.of_le d) (Nat.zero_le _)
  replace v4 := v4.keep (.of_le d) (Nat.zero_le _)
  have _ := w.2.2.2.1.mono d
  have _ : H2.cell g2 (0 + 1) = some (.slice p.a1 c.src.length c.src.length) := Mem.of_get a 1 _ rfl
  have _ : H2.cell g2 (0 + 2) = some (.slice p.a2 c.tgt.length c.tgt.length) := Mem.of_get a 2 _ rfl
  have _ : H2.cell g2 (0 + 3) = some (.slice p.a3 c.idn.length c.idn.length) := Mem.of_get a 3 _ rfl
  have _ : H2.cell g2 (0 + 4) = some (.slice p.a4 c.comp.length c.comp.length) := Mem.of_get a 4 _ rfl
  refine .q rfl (.fieldAddr fo_31_1_B rfl) ?_
  refine .q rfl (.load on_22_B rfl (by first | assumption | exact Mem.of_get a 1 _ rfl)) ?_
  refine .mv rfl ?_
  refine .callQ rfl rfl rfl rfl en25 rfl (heldInt64S_c) ?_
  refine .mv rfl (.nil (a5 _ _ (.seq (fun K3 u => .seq (fun K4 v => .region (.mv rfl (.q rfl (.cmp rfl rfl rfl) (.nil (v _ _ ?_)))))))))
  refine .cond rfl ?_ ?_ <;> intro s
  ·
   exact absurd s (by simp; omega)
  try simp only [sps] at s
  refine .skip (u _ _ (.seq (fun K5 t => .region (.q rfl (.fieldAddr fo_31_2_B rfl) ?_))))
  refine .q rfl (.load on_22_B rfl (by first | assumption | exact Mem.of_get a 2 _ rfl)) ?_
  refine .mv rfl ?_
  refine .callQ rfl rfl rfl rfl en25 rfl (heldInt64S_c) ?_
  refine .mv rfl (.nil (t _ _ (.seq (fun K6 z => .seq (fun K7 y => .region (.mv rfl (.q rfl (.cmp rfl rfl rfl) (.nil (y _ _ ?_)))))))))
  refine .cond rfl ?_ ?_ <;> intro r
  ·
   exact absurd r (by simp; omega)
  try simp only [sps] at r
  refine .skip (z _ _ (.seq (fun K8 a0 => .region (.q rfl (.fieldAddr fo_31_3_B rfl) ?_))))
  refine .q rfl (.load on_22_B rfl (by first | assumption | exact Mem.of_get a 3 _ rfl)) ?_
  refine .mv rfl ?_
  refine .callQ rfl rfl rfl rfl en25 rfl (heldInt64S_c) ?_
  refine .mv rfl (.nil (a0 _ _ (.seq (fun K9 a6 => .seq (fun K10 j => .region (.mv rfl (.q rfl (.cmp rfl rfl rfl) (.nil (j _ _ ?_)))))))))
  refine .cond rfl ?_ ?_ <;> intro n
  ·
   exact absurd n (by simp; omega)
  try simp only [sps] at n
  refine .skip (a6 _ _ (.seq (fun K11 l => .region (.q rfl (.fieldAddr fo_31_4_B rfl) ?_))))
  refine .q rfl (.load on_23_B rfl (by first | assumption | exact Mem.of_get a 4 _ rfl)) ?_
  refine .mv rfl ?_
  refine .callQ rfl rfl rfl rfl en13 rfl (heldInt64SS_c) ?_
  refine .mv rfl (.nil (l _ _ (.seq (fun K12 e => .seq (fun K13 g => .region (.mv rfl (.q rfl (.cmp rfl rfl rfl) (.nil (g _ _ ?_)))))))))
  refine .cond rfl ?_ ?_ <;> intro o
  ·
   exact absurd o (by simp; omega)
  try simp only [sps] at o
  refine .skip (e _ _ (.seq (fun K14 f => .region (.mv rfl (.mv rfl (.nil (f _ _ (.ret (i _ _ (⟨_, rfl, ?_⟩))))))))))
  exact ⟨by rw [ht]; congr 1; omega, m⟩
theorem markFunctor_c {c : Fun} {p : FunP} {lo hi : Nat} {k : Int} {H : GHeap} (w : FunW lo hi H c p := by assumption) (hs : c.Small := by assumption) (hk : 0 ≤ k := by omega) (hk' : k + c.total ≤ 9223372036854775000 := by omega) (hhi : hi ≤ H.next := by omega) :
    GCalls Try.prog 21 [.agg (c.cells p).toArray, .int .i64 k] H (fun v H' => v = .int .i64 (k + c.total) ∧ Marked lo hi H H' (c.leaves p) k) := by
  obtain ⟨w1, w2, w3, w4⟩ := w
  have ht : c.total = c.s.total + (c.t.total + (c.ob.length + c.ar.length)) := rfl
  obtain ⟨_, _, _, _⟩ := hs
  refine GCalls.body (N := 22) (rs := [.tmp 4]) Try.func21 rfl rfl rfl rfl (fun Qx i hend => ?_)
  refine .fg [0, 1] rfl ?_
  refine .seq (fun K1 r => .region ?_)
  refine .R rfl (.boxR rfl sz_46_E rfl) ?_
  rintro _ H2 ⟨g2, rfl, d, _, a⟩
  have _ := d.1
  have _ := GHeap.ltg a
  replace w1 := w1.stm (.of_le d)
  replace w2 := w2.stm (.of_le d)
  replace w3 := w3.stm (.of_le d)
  replace w4 := w4.stm (.of_le d)
  refine .mv rfl (.nil (r _ _ (.seq (fun K2 u => .region ?_))))
  have _ : MemN H2 g2 (0 + 0) 5 (c.s.cells p.s) := ⟨rfl, Mem.left (bs := c.t.cells p.t ++ _) (Mem.of_get a)⟩
  refine .q rfl (.fieldAddr fo_46_0_E rfl) ?_
  refine .q rfl (.loadM ag_31_D rfl (by assumption)) ?_
  refine .mv rfl ?_
  refine .call rfl rfl rfl rfl en22 rfl (markCategory_c) ?_
  rintro _ H8 ⟨rfl, l⟩
  have e := l.stm
  have _ := e.nx
  replace a := e.same _ _ (by omega) a
  replace w2 := w2.stm e
  replace w3 := w3.stm e
  replace w4 := w4.stm e
  refine .mv rfl (.nil (u _ _ (.seq (fun K3 x => .region ?_))))
  have hx : Mem H8 g2 0 (c.s.cells p.s ++ (c.t.cells p.t ++ [.slice p.b1 c.ob.length c.ob.length, .slice p.b2 c.ar.length c.ar.length])) := Mem.of_get a
  have _ : MemN H8 g2 (0 + 5) 5 (c.t.cells p.t) := ⟨rfl, (hx.right (n := 5) rfl).left⟩
  refine .q rfl (.fieldAddr fo_46_1_E rfl) ?_
  refine .q rfl (.loadM ag_31_D rfl (by assumption)) ?_
  refine .mv rfl ?_
  refine .call rfl rfl rfl rfl en22 rfl (markCategory_c) ?_
  rintro _ a0 ⟨rfl, h⟩
  have b := h.stm
  replace a := b.same _ _ (by omega) a
  replace w3 := w3.stm b
  replace w4 := w4.stm b
  refine .mv rfl (.nil (x _ _ (.seq (fun K4 y => .region ?_))))
  have c1 : a0.cell g2 (0 + 10) = some (.slice p.b1 c.ob.length c.ob.length) := Mem.of_get a 10 _ rfl
  refine .q rfl (.fieldAddr fo_46_2_E rfl) ?_
  refine .q rfl (.load on_22_B rfl (by first | assumption | exact Mem.of_get a 10 _ rfl)) ?_
  refine .mv rfl ?_
  refine .call rfl rfl rfl rfl en23 rfl (markInt64S_c) ?_
  rintro _ o ⟨rfl, g⟩
  have f := g.stm
  replace a := f.same _ _ (by omega) a
  replace w4 := w4.stm f
  refine .mv rfl (.nil (y _ _ (.seq (fun K5 m => .region ?_))))
  have c1 : o.cell g2 (0 + 11) = some (.slice p.b2 c.ar.length c.ar.length) := Mem.of_get a 11 _ rfl
  refine .q rfl (.fieldAddr fo_46_3_E rfl) ?_
  refine .q rfl (.load on_22_B rfl (by first | assumption | exact Mem.of_get a 11 _ rfl)) ?_
  refine .mv rfl ?_
  refine .call rfl rfl rfl rfl en23 rfl (markInt64S_c) ?_
  rintro _ _ ⟨rfl, j⟩
  refine .mv rfl (.nil (m _ _ (.seq (fun K6 z => .region (.mv rfl (.mv rfl (.nil (z _ _ (.ret (i _ _ (⟨_, rfl, ?_⟩)))))))))))
  exact ⟨by rw [ht]; congr 1; omega, .le_left d (l.app' (h.app' (g.app' j (by simp [lvSum])) (by rw [Cat.lvSum_leaves])) (by rw [Cat.lvSum_leaves]))⟩
end Go.Proofs.Ytddjdkpjfpnjiaa
namespace Go.Proofs.Ytddjdkpjfpnjiaa
open Go Go.GL Go.RowKit Go.Proofs
variable [MainFlag]
end Go.Proofs.Ytddjdkpjfpnjiaa
namespace Go.GL
variable [MainFlag]

structure Fun.Cone (d : Fun) (p : Con) : Prop where
  ap : 0 ≤ p.ap ∧ p.ap < d.t.obj
  ll : p.lg.length = d.ob.length
  lg : ∀ j, j < p.lg.length → 0 ≤ p.lg.getD j 0 ∧ p.lg.getD j 0 < d.t.src.length
  ends : ∀ j, j < p.lg.length → d.t.src.getD (p.lg.getD j 0).toNat 0 = p.ap ∧ d.t.tgt.getD (p.lg.getD j 0).toNat 0 = d.ob.getD j 0
  tri : ∀ a, a < d.ar.length → d.t.th (p.lg.getD (d.s.src.getD a 0).toNat 0) (d.ar.getD a 0) = p.lg.getD (d.s.tgt.getD a 0).toNat 0
def Con.zero : Con := ⟨0, []⟩
end Go.GL
namespace Go.Proofs.Ytddjdkpjfpnjiaa
open Go Go.GL Go.RowKit Go.Proofs
variable [MainFlag]
theorem l02Object_c {c : Cat} {p : CatP} {x : Int} {H : GHeap} (hin : c.In H p := by assumption) : GCalls Try.prog 39 [.agg (c.cells p).toArray, .int .i64 x] H (Ret (.bool (B (0 ≤ x ∧ x < c.obj))) H) := by
  refine GCalls.ret rfl ?_
  refine GCalls.body (N := 13) (rs := [.tmp 4]) Try.func39 rfl rfl rfl rfl (fun Qx d hend => ?_)
  refine .fg [0, 1] rfl ?_
  have b := GHeap.Le.refl H
  have a := hin
  refine .seq (fun K1 i => .region ?_)
  refine .R rfl (.boxR rfl sz_31_D rfl) ?_
  rintro _ _ ⟨g2, rfl, h, _, f⟩
  have _ := h.1
  replace b := b.trans h
  have _ := GHeap.ltg f
  replace hin := a.mono b
  have e : Cat.At _ g2 0 c p := ⟨Mem.of_get f, hin⟩
  obtain ⟨_, _, _, _, _, _, _, _, _⟩ := e.get
  have _ : MemN _ _ _ _ _ := ⟨rfl, e.1⟩
  have _ := e.2
  refine .mv rfl (.nil (i _ _ (.seq (fun K2 g => .region (.mv rfl (.q rfl (.cmp rfl rfl rfl) (.mv rfl ?_)))))))
  refine .split (fun h7 => ?_) (fun h7 => ?_)
  ·
   try simp only [sps] at h7
   refine .qg rfl (.move rfl) (.qg rfl (.fieldAddr fo_31_0_B rfl) ?_)
   refine .qg rfl (.load on_2_A rfl (by first | assumption | exact Mem.of_get f 0 _ rfl)) ?_
   refine .qg rfl (.cmp rfl rfl rfl) (.q rfl (.pickT rfl rfl) (.mv rfl (.nil (g _ _ (.ret (d _ _ (⟨_, rfl, ?_⟩)))))))
   first
   | exact ⟨congrArg _ (B_false fun hh => by omega), b⟩
   | exact ⟨congrArg _ (by rw [Bool.eq_iff_iff, B_iff, decide_eq_true_eq]; omega), b⟩
  try simp only [sps] at h7
  refine .z rfl (.z rfl (.z rfl (.z rfl (.q rfl (.pickF rfl rfl) (.mv rfl (.nil (g _ _ (.ret (d _ _ (⟨_, rfl, ?_⟩))))))))))
  first
  | exact ⟨congrArg _ (B_false fun hh => by omega), b⟩
  | exact ⟨congrArg _ (by rw [Bool.eq_iff_iff, B_iff, decide_eq_true_eq]; omega), b⟩
end Go.Proofs.Ytddjdkpjfpnjiaa
namespace Go.Proofs.Ytddjdkpjfpnjiaa
open Go Go.GL Go.RowKit Go.Proofs
variable [MainFlag]
theorem bt_31_Kb : buildT Try.prog 31 = some ([.int .i64 0, .slice none 0 0, .slice none 0 0, .slice none 0 0, .slice none 0 0], [(0, 1), (1, 1), (2, 1), (3, 1), (4, 1)]) := by kernel_rfl
set_option maxHeartbeats 4000000 in
theorem l02Part_c {c : Cat} {p : CatP} {a : Option Addr} {xs : List Int} {H : GHeap} (hin : c.In H p := by assumption) (h : Ints H a xs := by assumption) (hS : c.Shape) (hC : c.Closed xs) :
    GCalls Try.prog 40 [.agg (c.cells p).toArray, .slice a xs.length xs.length] H (NewCatR H (c.part xs)) := by
  have _ := hS.n40
  have _ := hS.tl
  have _ := hS.cl
  have _ := hS.il
  have _ := hS.obj
  have _ := hC.len
  have _ : (c.partO xs).length ≤ 8 := by have := c.partO_len xs; omega
  refine GCalls.body (N := 127) (rs := [.cell 4 31]) Try.func40 rfl rfl rfl rfl (fun Qx s4 hend => ?_)
  refine .fg [0, 1] rfl ?_
  have r := GHeap.Le.refl H
  have b := hin
  have o := h
  refine .seq (fun K1 v0 => .region ?_)
  refine .R rfl (.boxR rfl sz_31_D rfl) ?_
  rintro _ _ ⟨g2, rfl, u6, _, v⟩
  have _ := u6.1
  replace r := r.trans u6
  have _ := GHeap.ltg v
  replace hin := b.mono r
  replace h := o.mono r
  have m : Cat.At _ g2 0 c p := ⟨Mem.of_get v, hin⟩
  obtain ⟨b8, c2, c5, c6, c3, c4, b0, a8, a1⟩ := m.get
  have a9 : MemN _ _ _ _ _ := ⟨rfl, m.1⟩
  have c7 := m.2
  refine .R rfl (.allocR rfl ze_31_E rfl) ?_
  rintro _ _ ⟨g4, rfl, r4, _, c8⟩
  have _ := r4.1
  replace r := r.trans r4
  replace v := r4.2 _ _ v
  have _ := GHeap.ltg c8
  replace hin := b.mono r
  replace h := o.mono r
  clear m b8 c2 c5 c6 c3 c4 b0 a8 a1 a9 c7
  have m : Cat.At _ g2 0 c p := ⟨Mem.of_get v, hin⟩
  obtain ⟨b8, c2, c5, c6, c3, c4, b0, a8, a1⟩ := m.get
  have a9 : MemN _ _ _ _ _ := ⟨rfl, m.1⟩
  have c7 := m.2
  refine .nil (v0 _ _ (.seq (fun K2 v6 => .region ?_)))
  refine .R rfl (.litA rfl sl_22_A ze_2_E rfl rfl rfl rfl) ?_
  rintro _ q7 ⟨q6, rfl, o0, _, n5⟩
  have _ := o0.1
  replace r := r.trans o0
  replace v := o0.2 _ _ v
  replace c8 := o0.2 _ _ c8
  have _ := GHeap.ltg n5
  replace hin := b.mono r
  replace h := o.mono r
  clear m b8 c2 c5 c6 c3 c4 b0 a8 a1 a9 c7
  have m : Cat.At _ g2 0 c p := ⟨Mem.of_get v, hin⟩
  obtain ⟨b8, c2, c5, c6, c3, c4, b0, a8, a1⟩ := m.get
  have a9 : MemN _ _ _ _ _ := ⟨rfl, m.1⟩
  have c7 := m.2
  replace n5 : GHeap.get q7 q6 = some (.row (ints []) 2 true) := n5
  refine .mv rfl (.nil (v6 _ _ (.seq (fun K3 u8 => .seq (fun K4 v3 => .region (.mv rfl (.nil (v3 _ _ (.block ?_)))))))))
  refine .loopF (σ := Nat × Nat × Nat) [1, 2, 4] (fun (k, l9, p5) => [(6, some (.int .i64 (k : Int))), (5, some (.slice (some ⟨l9, 0, none⟩) p5 p5))]) (fun (k, l9, p5) H' => St [q6] q7 H' ∧ H'.get l9 = some (.row (ints (filtN k (c.hasId xs))) 2 true) ∧ PL l9 q6 q7.next ∧ p5 = (filtN k (c.hasId xs)).length ∧ k ≤ c.obj.toNat) (fun (k, l9, p5) => c.obj.toNat - k) ((0, _, _)) rfl (.p rfl) ?_ ?_
  ·
   refine ⟨.refl _ _, by first | assumption | exact n5 | simpa using n5, ⟨.inl rfl⟩, by first | rfl | assumption | simp | omega, ?_⟩
   omega
  rintro ⟨k, l9, p5⟩ _ ⟨t, e, m1, o8, hI⟩ _ p9
  dsimp only [cA, nA]
  have _ : H.next ≤ l9 := m1.ge (by omega) (by omega)
  have _ := t.nx
  replace r := r.st t (fun k hk => ⟨by omega, trivial⟩)
  have k6 : NE g2 q6 := .a
  replace v := t.s v k6.ne
  have h7 : NE g4 q6 := .a
  replace c8 := t.s c8 h7.ne
  have _ := GHeap.ltg e
  replace hin := b.mono r
  replace h := o.mono r
  clear m b8 c2 c5 c6 c3 c4 b0 a8 a1 a9 c7
  have m : Cat.At _ g2 0 c p := ⟨Mem.of_get v, hin⟩
  obtain ⟨b8, c2, c5, c6, c3, c4, b0, a8, a1⟩ := m.get
  have a9 : MemN _ _ _ _ _ := ⟨rfl, m.1⟩
  have c7 := m.2
  have hfl := filtN_le k (c.hasId xs)
  refine .seq (fun K5 w0 => .seq (fun K6 v5 => .region (.mv rfl (.q rfl (.fieldAddr fo_31_0_B rfl) ?_))))
  refine .q rfl (.load on_2_A rfl (by first | assumption | exact Mem.of_get v 0 _ rfl)) ?_
  refine .q rfl (.cmp rfl rfl rfl) (.nil (v5 _ _ ?_))
  refine .cond rfl ?_ ?_ <;> intro u0
  ·
   simp only [sps] at u0
   refine .skip (w0 _ _ (.seq (fun K7 t9 => .block (.seq (fun K8 v8 => .region (.mv rfl (.q rfl (.fieldAddr fo_31_3_B rfl) ?_)))))))
   refine .q rfl (.load on_22_B rfl (by first | assumption | exact Mem.of_get v 3 _ rfl)) ?_
   refine .mv rfl (.q rfl (.iN sl_22_A rfl rfl) (.q rfl (.lI on_2_A rfl) ?_))
   refine .callQ rfl rfl rfl rfl en51 rfl (l01Has_c) ?_
   refine .nil (v8 _ _ ?_)
   refine .cond rfl ?_ ?_ <;> intro o7
   ·
    refine .region (.mv rfl (.mv rfl ?_))
    refine .R rfl (.litA rfl sl_22_A ze_2_E rfl rfl rfl rfl) ?_
    rintro _ _ ⟨_, rfl, m8, _, p1⟩
    have _ := m8.1
    replace r := r.trans m8
    replace t := t.le m8
    replace v := m8.2 _ _ v
    replace c8 := m8.2 _ _ c8
    replace e := m8.2 _ _ e
    have _ := GHeap.ltg p1
    replace hin := b.mono r
    replace h := o.mono r
    clear m b8 c2 c5 c6 c3 c4 b0 a8 a1 a9 c7
    have m : Cat.At _ g2 0 c p := ⟨Mem.of_get v, hin⟩
    obtain ⟨b8, c2, c5, c6, c3, c4, b0, a8, a1⟩ := m.get
    have a9 : MemN _ _ _ _ _ := ⟨rfl, m.1⟩
    have c7 := m.2
    refine .R rfl (.apI rfl sl_22_A ze_2_E rfl by_2_E sl_22_A rfl rfl) ?_
    rintro _ _ ⟨_, rfl, m4, _, r7⟩
    have _ := m4.nx
    replace r := r.st m4 (fun k hk => ⟨by omega, trivial⟩)
    replace t := t.sP m4
    replace v := m4.same _ _ ⟨(m1.ne k6.ne (by omega)), trivial⟩ v
    have i3 : NE g4 l9 := ⟨m1.ne h7.ne (by omega)⟩
    replace c8 := m4.s c8 i3.ne
    replace p1 := m4.s p1
    have _ := GHeap.ltg r7
    replace hin := b.mono r
    replace h := o.mono r
    clear m b8 c2 c5 c6 c3 c4 b0 a8 a1 a9 c7
    have m : Cat.At _ g2 0 c p := ⟨Mem.of_get v, hin⟩
    obtain ⟨b8, c2, c5, c6, c3, c4, b0, a8, a1⟩ := m.get
    have a9 : MemN _ _ _ _ _ := ⟨rfl, m.1⟩
    have c7 := m.2
    refine .mv rfl (.nil (t9 _ _ (.region (.mv rfl (.q rfl (.aD rfl rfl rfl) (.mv rfl (.nil ?_)))))))
    refine p9 ((k + 1, _, _)) _ _ ?_ ?_ (.p rfl)
    ·
     refine ⟨t, by first | assumption | (rw [filtN_T o7]; assumption) | (rw [filtN_F o7]; assumption), by first | assumption | exact ⟨.inr (by omega)⟩ | exact ⟨.inl rfl⟩, by first | omega | (simp only [List.length_append, List.length_cons, List.length_nil] <;> omega) | (rw [filtN_T o7] <;> (first | omega | (simp only [List.length_append, List.length_cons, List.length_nil] <;> omega))) | (rw [filtN_F o7] <;> (first | omega | (simp only [List.length_append, List.length_cons, List.length_nil] <;> omega))), ?_⟩
     omega
    (dsimp only; omega)
   refine .skip (t9 _ _ (.region (.mv rfl (.q rfl (.aD rfl rfl rfl) (.mv rfl (.nil ?_))))))
   refine p9 ((k + 1, _, _)) _ _ ?_ ?_ (.p rfl)
   ·
    refine ⟨t, by first | assumption | (rw [filtN_T o7]; assumption) | (rw [filtN_F o7]; assumption), by first | assumption | exact ⟨.inr (by omega)⟩ | exact ⟨.inl rfl⟩, by first | omega | (simp only [List.length_append, List.length_cons, List.length_nil] <;> omega) | (rw [filtN_T o7] <;> (first | omega | (simp only [List.length_append, List.length_cons, List.length_nil] <;> omega))) | (rw [filtN_F o7] <;> (first | omega | (simp only [List.length_append, List.length_cons, List.length_nil] <;> omega))), ?_⟩
    omega
   (dsimp only; omega)
  try simp only [sps] at u0
  refine .exit (u8 _ _ (.seq (fun K9 v9 => .region ?_)))
  obtain rfl : k = c.obj.toNat := by omega
  have hpo : filtN c.obj.toNat (c.hasId xs) = c.partO xs := rfl
  rw [hpo] at e o8
  obtain rfl := o8
  refine .mv rfl (.q rfl (.len sl_22_A rfl) ?_)
  refine .R rfl (.litA rfl sl_22_A ze_2_E rfl rfl rfl rfl) ?_
  rintro _ u9 ⟨m9, rfl, m5, _, e2⟩
  have _ := m5.1
  replace r := r.trans m5
  replace t := t.le m5
  replace v := m5.2 _ _ v
  replace c8 := m5.2 _ _ c8
  replace e := m5.2 _ _ e
  have _ := GHeap.ltg e2
  replace hin := b.mono r
  replace h := o.mono r
  clear m b8 c2 c5 c6 c3 c4 b0 a8 a1 a9 c7
  have m : Cat.At _ g2 0 c p := ⟨Mem.of_get v, hin⟩
  obtain ⟨b8, c2, c5, c6, c3, c4, b0, a8, a1⟩ := m.get
  have a9 : MemN _ _ _ _ _ := ⟨rfl, m.1⟩
  have c7 := m.2
  replace e2 : GHeap.get u9 m9 = some (.row (ints []) 2 true) := e2
  refine .R rfl (.litA rfl sl_22_A ze_2_E rfl rfl rfl rfl) ?_
  rintro _ v4 ⟨n0, rfl, l8, _, e6⟩
  have _ := l8.1
  replace r := r.trans l8
  replace t := t.le l8
  replace v := l8.2 _ _ v
  replace c8 := l8.2 _ _ c8
  replace e := l8.2 _ _ e
  replace e2 := l8.2 _ _ e2
  have _ := GHeap.ltg e6
  replace hin := b.mono r
  replace h := o.mono r
  clear m b8 c2 c5 c6 c3 c4 b0 a8 a1 a9 c7
  have m : Cat.At _ g2 0 c p := ⟨Mem.of_get v, hin⟩
  obtain ⟨b8, c2, c5, c6, c3, c4, b0, a8, a1⟩ := m.get
  have a9 : MemN _ _ _ _ _ := ⟨rfl, m.1⟩
  have c7 := m.2
  replace e6 : GHeap.get v4 n0 = some (.row (ints []) 2 true) := e6
  refine .R rfl (.litA rfl sl_22_A ze_2_E rfl rfl rfl rfl) ?_
  rintro _ v7 ⟨n8, rfl, l5, _, k0⟩
  have _ := l5.1
  replace r := r.trans l5
  replace t := t.le l5
  replace v := l5.2 _ _ v
  replace c8 := l5.2 _ _ c8
  replace e := l5.2 _ _ e
  replace e2 := l5.2 _ _ e2
  replace e6 := l5.2 _ _ e6
  have _ := GHeap.ltg k0
  replace hin := b.mono r
  replace h := o.mono r
  clear m b8 c2 c5 c6 c3 c4 b0 a8 a1 a9 c7
  have m : Cat.At _ g2 0 c p := ⟨Mem.of_get v, hin⟩
  obtain ⟨b8, c2, c5, c6, c3, c4, b0, a8, a1⟩ := m.get
  have a9 : MemN _ _ _ _ _ := ⟨rfl, m.1⟩
  have c7 := m.2
  replace k0 : GHeap.get v7 n8 = some (.row (ints []) 2 true) := k0
  refine .R rfl (.litA rfl sl_23_B ze_22_E rfl rfl rfl rfl) ?_
  rintro _ _ ⟨n1, rfl, l4, _, i2⟩
  have _ := l4.1
  replace r := r.trans l4
  replace t := t.le l4
  replace v := l4.2 _ _ v
  replace c8 := l4.2 _ _ c8
  replace e := l4.2 _ _ e
  replace e2 := l4.2 _ _ e2
  replace e6 := l4.2 _ _ e6
  replace k0 := l4.2 _ _ k0
  have _ := GHeap.ltg i2
  replace hin := b.mono r
  replace h := o.mono r
  clear m b8 c2 c5 c6 c3 c4 b0 a8 a1 a9 c7
  have m : Cat.At _ g2 0 c p := ⟨Mem.of_get v, hin⟩
  obtain ⟨b8, c2, c5, c6, c3, c4, b0, a8, a1⟩ := m.get
  have a9 : MemN _ _ _ _ _ := ⟨rfl, m.1⟩
  have c7 := m.2
  refine .q rfl (.build bt_31_Kb rfl rfl rfl) ?_
  refine .R rfl (.allocR rfl ze_31_E rfl) ?_
  rintro _ _ ⟨g7, rfl, n9, _, w2⟩
  have _ := n9.1
  replace r := r.trans n9
  replace t := t.le n9
  replace v := n9.2 _ _ v
  replace c8 := n9.2 _ _ c8
  replace e := n9.2 _ _ e
  replace e2 := n9.2 _ _ e2
  replace e6 := n9.2 _ _ e6
  replace k0 := n9.2 _ _ k0
  replace i2 := n9.2 _ _ i2
  have _ := GHeap.ltg w2
  replace hin := b.mono r
  replace h := o.mono r
  clear m b8 c2 c5 c6 c3 c4 b0 a8 a1 a9 c7
  have m : Cat.At _ g2 0 c p := ⟨Mem.of_get v, hin⟩
  obtain ⟨b8, c2, c5, c6, c3, c4, b0, a8, a1⟩ := m.get
  have a9 : MemN _ _ _ _ _ := ⟨rfl, m.1⟩
  have c7 := m.2
  refine .r0 rfl rfl (.fillA rfl sz_31_D rfl rfl rfl rfl) ?_
  rintro _ o9 ⟨rfl, e1, w⟩
  have _ := e1.nx
  replace r := r.st e1 (fun k hk => ⟨by omega, trivial⟩)
  replace t := t.sA e1
  have d8 : NE g2 g7 := .a
  replace v := e1.s v d8.ne
  have d3 : NE g4 g7 := .a
  replace c8 := e1.s c8 d3.ne
  have d1 : NE l9 g7 := .a
  replace e := e1.s e d1.ne
  have h5 : NE m9 g7 := .a
  replace e2 := e1.s e2 h5.ne
  have h4 : NE n0 g7 := .a
  replace e6 := e1.s e6 h4.ne
  replace k0 := e1.s k0
  have h0 : NE n1 g7 := .a
  replace i2 := e1.s i2 h0.ne
  have _ := GHeap.ltg w
  replace hin := b.mono r
  replace h := o.mono r
  clear m b8 c2 c5 c6 c3 c4 b0 a8 a1 a9 c7
  have m : Cat.At _ g2 0 c p := ⟨Mem.of_get v, hin⟩
  obtain ⟨b8, c2, c5, c6, c3, c4, b0, a8, a1⟩ := m.get
  have a9 : MemN _ _ _ _ _ := ⟨rfl, m.1⟩
  have c7 := m.2
  have l : MemN _ _ _ _ _ := ⟨rfl, Mem.of_get w⟩
  refine .nil (v9 _ _ (.seq (fun K10 s5 => .seq (fun K11 s8 => .region (.mv rfl (.nil (s8 _ _ (.block ?_))))))))
  refine .loopF (σ := Nat × Nat) [1, 2, 4, 5, 7] (fun (x, gLI) => [(8, some (.int .i64 (x : Int)))]) (fun (x, gLI) H' => St [n8, g7] o9 H' ∧ H'.get gLI = some (.row (ints (((c.partO xs).take x).map fun x => idxL xs (c.idn.getD x.toNat 0))) 2 true) ∧ PL gLI n8 o9.next ∧ H'.get g7 = some (.row ([.int .i64 ((c.partO xs).length : Int), .slice (some ⟨m9, 0, none⟩) 0 0, .slice (some ⟨n0, 0, none⟩) 0 0, .slice (some ⟨gLI, 0, none⟩) x x, .slice (some ⟨n1, 0, none⟩) 0 0]) 31 true) ∧ gLI ≠ g7 ∧ x ≤ (c.partO xs).length) (fun (x, gLI) => (c.partO xs).length - x) ((0, n8)) rfl (.p rfl) ?_ ?_
  ·
   refine ⟨.refl _ _, by first | assumption | exact k0 | simpa using k0, ⟨.inl rfl⟩, by first | assumption | exact w | simpa using w, by omega, ?_⟩
   omega
  rintro ⟨x, gLI⟩ HL2 ⟨f4, u, e5, a3, l7, hI⟩ _ t6
  dsimp only [cA, nA]
  have _ : H.next ≤ gLI := e5.ge (by omega) (by omega)
  have _ := f4.nx
  replace r := r.st f4 (fun k hk => ⟨by omega, by omega, trivial⟩)
  replace t := t.st f4 (fun k hk ho => by simp only [out, and_true] at ho ⊢ <;> exact ⟨by first | exact ho | exact ho.1 | exact ho.2 | exact ho.2.1 | exact ho.2.2 | exact ho.2.2.1 | exact ho.2.2.2 | omega, by first | exact ho | exact ho.1 | exact ho.2 | exact ho.2.1 | exact ho.2.2 | exact ho.2.2.1 | exact ho.2.2.2 | omega⟩)
  have k8 : NE g2 n8 := .a
  replace v := f4.same _ _ ⟨k8.ne, d8.ne, trivial⟩ v
  have i0 : NE g4 n8 := .a
  replace c8 := f4.same _ _ ⟨i0.ne, d3.ne, trivial⟩ c8
  have j5 : NE l9 n8 := .a
  replace e := f4.same _ _ ⟨j5.ne, d1.ne, trivial⟩ e
  have g3 : NE m9 n8 := .a
  replace e2 := f4.same _ _ ⟨g3.ne, h5.ne, trivial⟩ e2
  have g0 : NE n0 n8 := .a
  replace e6 := f4.same _ _ ⟨g0.ne, h4.ne, trivial⟩ e6
  have g1 : NE n1 n8 := .a
  replace i2 := f4.same _ _ ⟨g1.ne, h0.ne, trivial⟩ i2
  have _ := GHeap.ltg u
  have m7 := GHeap.ltg a3
  replace hin := b.mono r
  replace h := o.mono r
  clear m b8 c2 c5 c6 c3 c4 b0 a8 a1 a9 c7
  have m : Cat.At _ g2 0 c p := ⟨Mem.of_get v, hin⟩
  obtain ⟨b8, c2, c5, c6, c3, c4, b0, a8, a1⟩ := m.get
  have a9 : MemN _ _ _ _ _ := ⟨rfl, m.1⟩
  have c7 := m.2
  clear l
  have l : MemN _ _ _ _ _ := ⟨rfl, Mem.of_get w⟩
  refine .seq (fun K12 r2 => .seq (fun K13 s3 => .region (.mv rfl (.mv rfl (.q rfl (.len sl_22_A rfl) (.q rfl (.cmp rfl rfl rfl) (.nil (s3 _ _ ?_))))))))
  refine .cond rfl ?_ ?_ <;> intro u3
  ·
   simp only [sps] at u3
   obtain ⟨o1, _, _, o4⟩ := filtN_get (n := c.obj.toNat) (p := c.hasId xs) (i := x) (by show _ < (c.partO xs).length; omega)
   have _ : (c.partO xs).getD x 0 = (o1 : Int) := o4
   refine .skip (r2 _ _ (.seq (fun K14 s2 => .block ?_)))
   refine .regionD mo_B (.qs [0, 1, 2, 3, 4, 5, 6, 7, 8, 9, 10] (.c 11 1 (.c 12 1 (.c 13 0 (.q 14 (.c 15 0 (.done))))))) (by kernel_rfl) ?_
   refine .q rfl (.fieldAddr fo_31_3_B rfl) ?_
   refine .q rfl (.load on_22_B rfl (by first | assumption | exact Mem.of_get a3 3 _ rfl)) ?_
   refine .mv rfl rfl (.q rfl (.fieldAddr fo_31_3_B rfl) ?_)
   refine .q rfl (.load on_22_B rfl (by first | assumption | exact Mem.of_get v 3 _ rfl)) ?_
   refine .mv rfl rfl (.mv rfl rfl ?_)
   refine .q rfl (.idxN sl_22_A (by first | assumption | exact SlA.of_row e (by first | rfl | (simp; done) | (simp <;> omega))) rfl rfl (by omega)) ?_
   refine .q rfl (.loadI on_2_A (by first | assumption | exact Ints.of_get e) rfl (by omega)) ?_
   refine .q rfl (.i1 sl_22_A rfl rfl) (.q rfl (.lI on_2_A rfl) ?_)
   refine .callQ1 rfl rfl rfl rfl rfl en52 rfl (l01Index_c) (.refl _) ?_
   refine .c1 rfl rfl rfl rfl (.litA rfl sl_22_A ze_2_E rfl rfl rfl rfl) ?_
   rintro _ _ ⟨_, rfl, i4, _, n7⟩
   have p4 := i4
   refine ⟨p4, ?_⟩
   have _ := i4.1
   replace r := r.trans i4
   replace t := t.le i4
   replace f4 := f4.le i4
   replace v := i4.2 _ _ v
   replace c8 := i4.2 _ _ c8
   replace e := i4.2 _ _ e
   replace e2 := i4.2 _ _ e2
   replace e6 := i4.2 _ _ e6
   replace i2 := i4.2 _ _ i2
   replace u := i4.2 _ _ u
   replace a3 := i4.2 _ _ a3
   have _ := GHeap.ltg n7
   replace hin := b.mono r
   replace h := o.mono r
   clear m b8 c2 c5 c6 c3 c4 b0 a8 a1 a9 c7
   have m : Cat.At _ g2 0 c p := ⟨Mem.of_get v, hin⟩
   obtain ⟨b8, c2, c5, c6, c3, c4, b0, a8, a1⟩ := m.get
   have a9 : MemN _ _ _ _ _ := ⟨rfl, m.1⟩
   have c7 := m.2
   clear l
   have l : MemN _ _ _ _ _ := ⟨rfl, Mem.of_get w⟩
   refine .c0 rfl rfl rfl rfl (.apI rfl sl_22_A ze_2_E rfl by_2_E sl_22_A rfl rfl) ?_
   rintro _ _ ⟨u7, rfl, i8, _, p2⟩
   have _ := i8.nx
   replace r := r.st i8 (fun k hk => ⟨by omega, trivial⟩)
   replace t := t.sP i8
   replace f4 := f4.sP i8
   replace v := i8.same _ _ ⟨(e5.ne k8.ne (by omega)), trivial⟩ v
   have i6 : NE g4 gLI := ⟨e5.ne i0.ne (by omega)⟩
   replace c8 := i8.s c8 i6.ne
   replace e := i8.same _ _ ⟨(e5.ne j5.ne (by omega)), trivial⟩ e
   have f0 : NE m9 gLI := ⟨e5.ne g3.ne (by omega)⟩
   replace e2 := i8.s e2 f0.ne
   have e8 : NE n0 gLI := ⟨e5.ne g0.ne (by omega)⟩
   replace e6 := i8.s e6 e8.ne
   have f1 : NE n1 gLI := ⟨e5.ne g1.ne (by omega)⟩
   replace i2 := i8.s i2 f1.ne
   replace a3 := i8.same _ _ ⟨(Ne.symm l7), trivial⟩ a3
   replace n7 := i8.s n7
   have _ := GHeap.ltg p2
   replace hin := b.mono r
   replace h := o.mono r
   clear m b8 c2 c5 c6 c3 c4 b0 a8 a1 a9 c7
   have m : Cat.At _ g2 0 c p := ⟨Mem.of_get v, hin⟩
   obtain ⟨b8, c2, c5, c6, c3, c4, b0, a8, a1⟩ := m.get
   have a9 : MemN _ _ _ _ _ := ⟨rfl, m.1⟩
   have c7 := m.2
   clear l
   have l : MemN _ _ _ _ _ := ⟨rfl, Mem.of_get w⟩
   refine .q rfl (.fieldAddr fo_31_3_B rfl) ?_
   refine .r0 rfl rfl rfl (.storeR rfl sz_22_E rfl rfl rfl (by assumption) (by first | exact Nat.le_of_ble_eq_true rfl | (simp; done) | (simp <;> omega))) ?_
   rintro _ _ ⟨rfl, a7, m2⟩
   have _ := a7.nx
   replace r := r.st a7 (fun k hk => ⟨by omega, trivial⟩)
   replace t := t.sA a7
   replace f4 := f4.sA a7
   replace v := a7.s v d8.ne
   replace c8 := a7.s c8 d3.ne
   replace e := a7.s e d1.ne
   replace e2 := a7.s e2 h5.ne
   replace e6 := a7.s e6 h4.ne
   replace i2 := a7.s i2 h0.ne
   replace n7 := a7.s n7
   replace p2 := a7.s p2
   have _ := GHeap.ltg m2
   replace hin := b.mono r
   replace h := o.mono r
   clear m b8 c2 c5 c6 c3 c4 b0 a8 a1 a9 c7
   have m : Cat.At _ g2 0 c p := ⟨Mem.of_get v, hin⟩
   obtain ⟨b8, c2, c5, c6, c3, c4, b0, a8, a1⟩ := m.get
   have a9 : MemN _ _ _ _ _ := ⟨rfl, m.1⟩
   have c7 := m.2
   clear l
   have l : MemN _ _ _ _ _ := ⟨rfl, Mem.of_get w⟩
   try simp only [Nat.zero_add, List.set_cons_succ, List.set_cons_zero] at m2
   refine .done (s2 _ _ (.region (.mv rfl (.q rfl (.aD rfl rfl rfl) (.mv rfl (.nil ?_))))))
   refine t6 ((x + 1, u7)) _ _ ?_ ?_ (.p rfl)
   ·
    refine ⟨f4, by first | assumption | (rw [take_map_snoc (d := 0) (by omega)]; assumption), by first | assumption | exact ⟨.inr (by omega)⟩ | exact ⟨.inl rfl⟩, by first | assumption | (rw [take_map_snoc (d := 0) (by omega)]; assumption), by first | assumption | omega, ?_⟩
    omega
   (dsimp only; omega)
  try simp only [sps] at u3
  refine .exit (s5 _ _ (.seq (fun K15 r3 => .seq (fun K16 t4 => .region (.mv rfl (.nil (t4 _ _ (.block ?_))))))))
  refine .loopF (σ := Nat × (Nat → Option Addr) × Nat × Nat × Nat) [1, 2, 4, 5, 7] (fun (i, rr, gLF, gLT, gLC) => [(9, some (.int .i64 (i : Int)))]) (fun (i, rr, gLF, gLT, gLC) H' => St [m9, n0, n1, g7] HL2 H' ∧ H'.get gLF = some (.row (ints ((xs.take i).map fun f => idxL (c.partO xs) (c.src.getD f.toNat 0))) 2 true) ∧ PL gLF m9 HL2.next ∧ H'.get gLT = some (.row (ints ((xs.take i).map fun f => idxL (c.partO xs) (c.tgt.getD f.toNat 0))) 2 true) ∧ PL gLT n0 HL2.next ∧ H'.get gLC = some (.row ((slsL rr (c.partL xs i))) 22 true) ∧ PL gLC n1 HL2.next ∧ H'.get g7 = some (.row ([.int .i64 ((c.partO xs).length : Int), .slice (some ⟨gLF, 0, none⟩) i i, .slice (some ⟨gLT, 0, none⟩) i i, .slice (some ⟨gLI, 0, none⟩) x x, .slice (some ⟨gLC, 0, none⟩) i i]) 31 true) ∧ gLF ≠ gLT ∧ gLF ≠ gLC ∧ gLF ≠ g7 ∧ gLT ≠ gLC ∧ gLT ≠ g7 ∧ gLC ≠ g7 ∧ i ≤ xs.length ∧ OwnL H.next H' 2 rr (c.partL xs i) ∧ (∀ j, j < (c.partL xs i).length → rr j ≠ some ⟨gLF, 0, none⟩) ∧ (∀ j, j < (c.partL xs i).length → rr j ≠ some ⟨gLT, 0, none⟩) ∧ ∀ j, j < (c.partL xs i).length → rr j ≠ some ⟨gLI, 0, none⟩) (fun (i, rr, gLF, gLT, gLC) => xs.length - i) ((0, fun _ => none, m9, n0, n1)) rfl (.p rfl) ?_ ?_
  ·
   refine ⟨.refl _ _, by first | assumption | (rw [Cat.partL_zero]; assumption), ⟨.inl rfl⟩, by first | assumption | (rw [Cat.partL_zero]; assumption), ⟨.inl rfl⟩, by first | assumption | (rw [Cat.partL_zero]; assumption), ⟨.inl rfl⟩, by first | assumption | (rw [Cat.partL_zero]; assumption), by omega, by omega, by omega, by omega, by omega, by omega, ?_⟩
   rw [Cat.partL_zero]
   exact ⟨by omega, .nil _ _ _ _, fun _ h => by simp at h, fun _ h => by simp at h, fun _ h => by simp at h⟩
  rintro ⟨i, rr, gLF, gLT, gLC⟩ HL3 ⟨a5, i9, j6, e3, j4, y, k7, a3, p6, q3, q4, q2, o6, n6, hI⟩ _ s1
  dsimp only [cA, nA]
  have _ : H.next ≤ gLF := j6.ge (by omega) (by omega)
  have _ : H.next ≤ gLT := j4.ge (by omega) (by omega)
  have _ : H.next ≤ gLC := k7.ge (by omega) (by omega)
  have _ := a5.nx
  replace r := r.st a5 (fun k hk => ⟨by omega, by omega, by omega, by omega, trivial⟩)
  replace t := t.st a5 (fun k hk ho => by simp only [out, and_true] at ho ⊢ <;> exact ⟨by first | exact ho | exact ho.1 | exact ho.2 | exact ho.2.1 | exact ho.2.2 | exact ho.2.2.1 | exact ho.2.2.2 | omega, by first | exact ho | exact ho.1 | exact ho.2 | exact ho.2.1 | exact ho.2.2 | exact ho.2.2.1 | exact ho.2.2.2 | omega, by first | exact ho | exact ho.1 | exact ho.2 | exact ho.2.1 | exact ho.2.2 | exact ho.2.2.1 | exact ho.2.2.2 | omega, by first | exact ho | exact ho.1 | exact ho.2 | exact ho.2.1 | exact ho.2.2 | exact ho.2.2.1 | exact ho.2.2.2 | omega⟩)
  have k3 : NE g2 m9 := .a
  have l1 : NE g2 n0 := .a
  have l2 : NE g2 n1 := .a
  replace v := a5.same _ _ ⟨k3.ne, l1.ne, l2.ne, d8.ne, trivial⟩ v
  have h3 : NE g4 m9 := .a
  have h9 : NE g4 n0 := .a
  have h6 : NE g4 n1 := .a
  replace c8 := a5.same _ _ ⟨h3.ne, h9.ne, h6.ne, d3.ne, trivial⟩ c8
  have j0 : NE l9 m9 := .a
  have j2 : NE l9 n0 := .a
  have k1 : NE l9 n1 := .a
  replace e := a5.same _ _ ⟨j0.ne, j2.ne, k1.ne, d1.ne, trivial⟩ e
  have f0 : NE m9 gLI := ⟨e5.ne g3.ne (by omega)⟩
  have e8 : NE n0 gLI := ⟨e5.ne g0.ne (by omega)⟩
  have f1 : NE n1 gLI := ⟨e5.ne g1.ne (by omega)⟩
  replace u := a5.same _ _ ⟨(Ne.symm f0.ne), (Ne.symm e8.ne), (Ne.symm f1.ne), l7, trivial⟩ u
  have _ := GHeap.ltg i9
  have _ := GHeap.ltg e3
  have _ := GHeap.ltg y
  have m7 := GHeap.ltg a3
  replace hin := b.mono r
  replace h := o.mono r
  clear m b8 c2 c5 c6 c3 c4 b0 a8 a1 a9 c7
  have m : Cat.At _ g2 0 c p := ⟨Mem.of_get v, hin⟩
  obtain ⟨b8, c2, c5, c6, c3, c4, b0, a8, a1⟩ := m.get
  have a9 : MemN _ _ _ _ _ := ⟨rfl, m.1⟩
  have c7 := m.2
  clear l
  have l : MemN _ _ _ _ _ := ⟨rfl, Mem.of_get w⟩
  have rk := St.refl [gLF, gLT, gLC, g7] HL3
  obtain ⟨hi, hR, hF, hT, hId⟩ := hI
  have hatC := y
  have q8 := a3
  have _ := Cat.partL_len (c := c) hi
  have hfl : (slsL rr (c.partL xs i)).length = (c.partL xs i).length := length_slsL _ _
  refine .seq (fun K17 t2 => .seq (fun K18 s0 => .region (.mv rfl (.mv rfl (.q rfl (.len sl_22_A rfl) (.q rfl (.cmp rfl rfl rfl) (.nil (s0 _ _ ?_))))))))
  refine .cond rfl ?_ ?_ <;> intro u5
  ·
   simp only [sps] at u5
   have _ := hC.lt (xs.getD i 0) (getD_mem (by omega))
   have _ := hS.row (xs.getD i 0).toNat (by omega)
   have u1 := a1.2 (xs.getD i 0).toNat (by omega)
   refine .skip (t2 _ _ (.seq (fun K19 t0 => .block (.seq (fun K20 t3 => ?_)))))
   refine .regionD mo_B (.qs [0, 1, 2, 3, 4, 5, 6, 7, 8, 9, 10] (.c 11 1 (.c 12 1 (.c 13 0 (.q 14 (.c 15 0 (.done))))))) (by kernel_rfl) ?_
   refine .q rfl (.fieldAddr fo_31_1_B rfl) ?_
   refine .q rfl (.load on_22_B rfl (by first | assumption | exact Mem.of_get a3 1 _ rfl)) ?_
   refine .mv rfl rfl (.q rfl (.fieldAddr fo_31_1_B rfl) ?_)
   refine .q rfl (.load on_22_B rfl (by first | assumption | exact Mem.of_get v 1 _ rfl)) ?_
   refine .mv rfl rfl (.mv rfl rfl (.q rfl (.iN sl_22_A rfl rfl) (.q rfl (.lI on_2_A rfl) (.q rfl (.i1 sl_22_A rfl rfl) (.q rfl (.lI on_2_A rfl) ?_)))))
   refine .callQ1 rfl rfl rfl rfl rfl en52 rfl (l01Index_c (Ints.of_get e)) (.refl _) ?_
   refine .c1 rfl rfl rfl rfl (.litA rfl sl_22_A ze_2_E rfl rfl rfl rfl) ?_
   rintro _ _ ⟨u4, rfl, g6, _, d5⟩
   have p4 := g6
   refine ⟨p4, ?_⟩
   have _ := g6.1
   replace r := r.trans g6
   replace t := t.le g6
   replace a5 := a5.le g6
   replace rk := rk.le g6
   replace v := g6.2 _ _ v
   replace c8 := g6.2 _ _ c8
   replace e := g6.2 _ _ e
   replace u := g6.2 _ _ u
   replace i9 := g6.2 _ _ i9
   replace e3 := g6.2 _ _ e3
   replace y := g6.2 _ _ y
   replace a3 := g6.2 _ _ a3
   have _ := GHeap.ltg d5
   replace hin := b.mono r
   replace h := o.mono r
   clear m b8 c2 c5 c6 c3 c4 b0 a8 a1 a9 c7
   have m : Cat.At _ g2 0 c p := ⟨Mem.of_get v, hin⟩
   obtain ⟨b8, c2, c5, c6, c3, c4, b0, a8, a1⟩ := m.get
   have a9 : MemN _ _ _ _ _ := ⟨rfl, m.1⟩
   have c7 := m.2
   clear l
   have l : MemN _ _ _ _ _ := ⟨rfl, Mem.of_get w⟩
   clear u1
   have u1 := a1.2 (xs.getD i 0).toNat (by omega)
   refine .c0 rfl rfl rfl rfl (.apI rfl sl_22_A ze_2_E rfl by_2_E sl_22_A rfl rfl) ?_
   rintro _ _ ⟨p7, rfl, h8, _, d9⟩
   have _ := h8.nx
   replace r := r.st h8 (fun k hk => ⟨by omega, trivial⟩)
   replace t := t.sP h8
   replace a5 := a5.sP h8
   replace rk := rk.sP h8
   replace v := h8.same _ _ ⟨(j6.ne k3.ne (by omega)), trivial⟩ v
   have g8 : NE g4 gLF := ⟨j6.ne h3.ne (by omega)⟩
   replace c8 := h8.s c8 g8.ne
   replace e := h8.same _ _ ⟨(j6.ne j0.ne (by omega)), trivial⟩ e
   replace u := h8.same _ _ ⟨(j6.ne (Ne.symm f0.ne) (by omega)), trivial⟩ u
   replace e3 := h8.same _ _ ⟨(Ne.symm p6), trivial⟩ e3
   replace y := h8.same _ _ ⟨(Ne.symm q3), trivial⟩ y
   replace a3 := h8.same _ _ ⟨(Ne.symm q4), trivial⟩ a3
   replace d5 := h8.s d5
   have _ := GHeap.ltg d9
   replace hin := b.mono r
   replace h := o.mono r
   clear m b8 c2 c5 c6 c3 c4 b0 a8 a1 a9 c7
   have m : Cat.At _ g2 0 c p := ⟨Mem.of_get v, hin⟩
   obtain ⟨b8, c2, c5, c6, c3, c4, b0, a8, a1⟩ := m.get
   have a9 : MemN _ _ _ _ _ := ⟨rfl, m.1⟩
   have c7 := m.2
   clear l
   have l : MemN _ _ _ _ _ := ⟨rfl, Mem.of_get w⟩
   clear u1
   have u1 := a1.2 (xs.getD i 0).toNat (by omega)
   refine .q rfl (.fieldAddr fo_31_1_B rfl) ?_
   refine .r0 rfl rfl rfl (.storeR rfl sz_22_E rfl rfl rfl (by assumption) (by first | exact Nat.le_of_ble_eq_true rfl | (simp; done) | (simp <;> omega))) ?_
   rintro _ _ ⟨rfl, a6, e9⟩
   have _ := a6.nx
   replace r := r.st a6 (fun k hk => ⟨by omega, trivial⟩)
   replace t := t.sA a6
   replace a5 := a5.sA a6
   replace rk := rk.sA a6
   replace v := a6.s v d8.ne
   replace c8 := a6.s c8 d3.ne
   replace e := a6.s e d1.ne
   replace u := a6.same _ _ ⟨l7, trivial⟩ u
   replace e3 := a6.same _ _ ⟨o6, trivial⟩ e3
   replace y := a6.same _ _ ⟨n6, trivial⟩ y
   have i7 : NE u4 g7 := .a
   replace d5 := a6.s d5 i7.ne
   have i5 : NE p7 g7 := .a
   replace d9 := a6.s d9 i5.ne
   have _ := GHeap.ltg e9
   replace hin := b.mono r
   replace h := o.mono r
   clear m b8 c2 c5 c6 c3 c4 b0 a8 a1 a9 c7
   have m : Cat.At _ g2 0 c p := ⟨Mem.of_get v, hin⟩
   obtain ⟨b8, c2, c5, c6, c3, c4, b0, a8, a1⟩ := m.get
   have a9 : MemN _ _ _ _ _ := ⟨rfl, m.1⟩
   have c7 := m.2
   clear l
   have l : MemN _ _ _ _ _ := ⟨rfl, Mem.of_get w⟩
   clear u1
   have u1 := a1.2 (xs.getD i 0).toNat (by omega)
   try simp only [Nat.zero_add, List.set_cons_succ, List.set_cons_zero] at e9
   refine .done (t3 _ _ (.seq (fun K21 q9 => ?_)))
   refine .regionD mo_B (.qs [0, 1, 2, 3, 4, 5, 6, 7, 8, 9, 10] (.c 11 1 (.c 12 1 (.c 13 0 (.q 14 (.c 15 0 (.done))))))) (by kernel_rfl) ?_
   refine .q rfl (.fieldAddr fo_31_2_B rfl) ?_
   refine .q rfl (.load on_22_B rfl (by first | assumption | exact Mem.of_get e9 2 _ rfl)) ?_
   refine .mv rfl rfl (.q rfl (.fieldAddr fo_31_2_B rfl) ?_)
   refine .q rfl (.load on_22_B rfl (by first | assumption | exact Mem.of_get v 2 _ rfl)) ?_
   refine .mv rfl rfl (.mv rfl rfl (.q rfl (.iN sl_22_A rfl rfl) (.q rfl (.lI on_2_A rfl) (.q rfl (.i1 sl_22_A rfl rfl) (.q rfl (.lI on_2_A rfl) ?_)))))
   refine .callQ1 rfl rfl rfl rfl rfl en52 rfl (l01Index_c (Ints.of_get e)) (.refl _) ?_
   refine .c1 rfl rfl rfl rfl (.litA rfl sl_22_A ze_2_E rfl rfl rfl rfl) ?_
   rintro _ _ ⟨u2, rfl, f7, _, e7⟩
   have p4 := f7
   refine ⟨p4, ?_⟩
   have _ := f7.1
   replace r := r.trans f7
   replace t := t.le f7
   replace a5 := a5.le f7
   replace rk := rk.le f7
   replace v := f7.2 _ _ v
   replace c8 := f7.2 _ _ c8
   replace e := f7.2 _ _ e
   replace u := f7.2 _ _ u
   replace e3 := f7.2 _ _ e3
   replace y := f7.2 _ _ y
   replace d5 := f7.2 _ _ d5
   replace d9 := f7.2 _ _ d9
   replace e9 := f7.2 _ _ e9
   have _ := GHeap.ltg e7
   replace hin := b.mono r
   replace h := o.mono r
   clear m b8 c2 c5 c6 c3 c4 b0 a8 a1 a9 c7
   have m : Cat.At _ g2 0 c p := ⟨Mem.of_get v, hin⟩
   obtain ⟨b8, c2, c5, c6, c3, c4, b0, a8, a1⟩ := m.get
   have a9 : MemN _ _ _ _ _ := ⟨rfl, m.1⟩
   have c7 := m.2
   clear l
   have l : MemN _ _ _ _ _ := ⟨rfl, Mem.of_get w⟩
   clear u1
   have u1 := a1.2 (xs.getD i 0).toNat (by omega)
   refine .c0 rfl rfl rfl rfl (.apI rfl sl_22_A ze_2_E rfl by_2_E sl_22_A rfl rfl) ?_
   rintro _ _ ⟨p8, rfl, g5, _, f3⟩
   have _ := g5.nx
   replace r := r.st g5 (fun k hk => ⟨by omega, trivial⟩)
   replace t := t.sP g5
   replace a5 := a5.sP g5
   replace rk := rk.sP g5
   replace v := g5.same _ _ ⟨(j4.ne l1.ne (by omega)), trivial⟩ v
   have h2 : NE g4 gLT := ⟨j4.ne h9.ne (by omega)⟩
   replace c8 := g5.s c8 h2.ne
   replace e := g5.same _ _ ⟨(j4.ne j2.ne (by omega)), trivial⟩ e
   replace u := g5.same _ _ ⟨(j4.ne (Ne.symm e8.ne) (by omega)), trivial⟩ u
   replace y := g5.same _ _ ⟨(Ne.symm q2), trivial⟩ y
   replace d5 := g5.s d5
   replace d9 := g5.s d9
   replace e9 := g5.same _ _ ⟨(Ne.symm o6), trivial⟩ e9
   replace e7 := g5.s e7
   have _ := GHeap.ltg f3
   replace hin := b.mono r
   replace h := o.mono r
   clear m b8 c2 c5 c6 c3 c4 b0 a8 a1 a9 c7
   have m : Cat.At _ g2 0 c p := ⟨Mem.of_get v, hin⟩
   obtain ⟨b8, c2, c5, c6, c3, c4, b0, a8, a1⟩ := m.get
   have a9 : MemN _ _ _ _ _ := ⟨rfl, m.1⟩
   have c7 := m.2
   clear l
   have l : MemN _ _ _ _ _ := ⟨rfl, Mem.of_get w⟩
   clear u1
   have u1 := a1.2 (xs.getD i 0).toNat (by omega)
   refine .q rfl (.fieldAddr fo_31_2_B rfl) ?_
   refine .r0 rfl rfl rfl (.storeR rfl sz_22_E rfl rfl rfl (by assumption) (by first | exact Nat.le_of_ble_eq_true rfl | (simp; done) | (simp <;> omega))) ?_
   rintro _ _ ⟨rfl, a2, a0⟩
   have _ := a2.nx
   replace r := r.st a2 (fun k hk => ⟨by omega, trivial⟩)
   replace t := t.sA a2
   replace a5 := a5.sA a2
   replace rk := rk.sA a2
   replace v := a2.s v d8.ne
   replace c8 := a2.s c8 d3.ne
   replace e := a2.s e d1.ne
   replace u := a2.same _ _ ⟨l7, trivial⟩ u
   replace y := a2.same _ _ ⟨n6, trivial⟩ y
   replace d5 := a2.s d5 i7.ne
   replace d9 := a2.s d9 i5.ne
   have l0 : NE u2 g7 := .a
   replace e7 := a2.s e7 l0.ne
   have k9 : NE p8 g7 := .a
   replace f3 := a2.s f3 k9.ne
   have _ := GHeap.ltg a0
   replace hin := b.mono r
   replace h := o.mono r
   clear m b8 c2 c5 c6 c3 c4 b0 a8 a1 a9 c7
   have m : Cat.At _ g2 0 c p := ⟨Mem.of_get v, hin⟩
   obtain ⟨b8, c2, c5, c6, c3, c4, b0, a8, a1⟩ := m.get
   have a9 : MemN _ _ _ _ _ := ⟨rfl, m.1⟩
   have c7 := m.2
   clear l
   have l : MemN _ _ _ _ _ := ⟨rfl, Mem.of_get w⟩
   clear u1
   have u1 := a1.2 (xs.getD i 0).toNat (by omega)
   try simp only [Nat.zero_add, List.set_cons_succ, List.set_cons_zero] at a0
   refine .done (q9 _ _ (.seq (fun K22 t1 => .region ?_)))
   refine .R rfl (.litA rfl sl_22_A ze_2_E rfl rfl rfl rfl) ?_
   rintro _ r1 ⟨m6, rfl, f9, _, n3⟩
   have _ := f9.1
   replace r := r.trans f9
   replace t := t.le f9
   replace a5 := a5.le f9
   replace rk := rk.le f9
   replace v := f9.2 _ _ v
   replace c8 := f9.2 _ _ c8
   replace e := f9.2 _ _ e
   replace u := f9.2 _ _ u
   replace y := f9.2 _ _ y
   replace d5 := f9.2 _ _ d5
   replace d9 := f9.2 _ _ d9
   replace e7 := f9.2 _ _ e7
   replace f3 := f9.2 _ _ f3
   replace a0 := f9.2 _ _ a0
   have _ := GHeap.ltg n3
   replace hin := b.mono r
   replace h := o.mono r
   clear m b8 c2 c5 c6 c3 c4 b0 a8 a1 a9 c7
   have m : Cat.At _ g2 0 c p := ⟨Mem.of_get v, hin⟩
   obtain ⟨b8, c2, c5, c6, c3, c4, b0, a8, a1⟩ := m.get
   have a9 : MemN _ _ _ _ _ := ⟨rfl, m.1⟩
   have c7 := m.2
   clear l
   have l : MemN _ _ _ _ _ := ⟨rfl, Mem.of_get w⟩
   clear u1
   have u1 := a1.2 (xs.getD i 0).toNat (by omega)
   replace n3 : GHeap.get r1 m6 = some (.row (ints []) 2 true) := n3
   refine .mv rfl (.nil (t1 _ _ (.seq (fun K23 t7 => .seq (fun K24 s9 => .region (.mv rfl (.nil (s9 _ _ (.block ?_)))))))))
   refine .loopF (σ := Nat × Nat × Nat) [1, 2, 4, 5, 7, 9] (fun (j, f5, m0) => [(11, some (.int .i64 (j : Int))), (10, some (.slice (some ⟨f5, 0, none⟩) m0 m0))]) (fun (j, f5, m0) H' => St [m6] r1 H' ∧ H'.get f5 = some (.row (ints ((xs.take j).map fun g => idxL xs (c.th (xs.getD i 0) g))) 2 true) ∧ PL f5 m6 r1.next ∧ m0 = ((xs.take j).map fun g => idxL xs (c.th (xs.getD i 0) g)).length ∧ j ≤ xs.length) (fun (j, f5, m0) => xs.length - j) ((0, _, _)) rfl (.p rfl) ?_ ?_
   ·
    refine ⟨.refl _ _, by first | assumption | exact n3 | simpa using n3, ⟨.inl rfl⟩, by first | rfl | assumption | simp | omega, ?_⟩
    omega
   rintro ⟨j, f5, m0⟩ _ ⟨e4, e0, a4, p3, hI⟩ _ r9
   dsimp only [cA, nA]
   have _ : H.next ≤ f5 := a4.ge (by omega) (by omega)
   have _ := e4.nx
   replace r := r.st e4 (fun k hk => ⟨by omega, trivial⟩)
   replace t := t.sA e4
   replace a5 := a5.sA e4
   replace rk := rk.sA e4
   have k4 : NE g2 m6 := .a
   replace v := e4.s v k4.ne
   have k5 : NE g4 m6 := .a
   replace c8 := e4.s c8 k5.ne
   have k2 : NE l9 m6 := .a
   replace e := e4.s e k2.ne
   have j8 : NE gLI m6 := .a
   replace u := e4.s u j8.ne
   have f8 : NE gLC m6 := .a
   replace y := e4.s y f8.ne
   have j9 : NE u4 m6 := .a
   replace d5 := e4.s d5 j9.ne
   have j3 : NE p7 m6 := .a
   replace d9 := e4.s d9 j3.ne
   have j7 : NE u2 m6 := .a
   replace e7 := e4.s e7 j7.ne
   have j1 : NE p8 m6 := .a
   replace f3 := e4.s f3 j1.ne
   have g9 : NE g7 m6 := .a
   replace a0 := e4.s a0 g9.ne
   have _ := GHeap.ltg e0
   replace hin := b.mono r
   replace h := o.mono r
   clear m b8 c2 c5 c6 c3 c4 b0 a8 a1 a9 c7
   have m : Cat.At _ g2 0 c p := ⟨Mem.of_get v, hin⟩
   obtain ⟨b8, c2, c5, c6, c3, c4, b0, a8, a1⟩ := m.get
   have a9 : MemN _ _ _ _ _ := ⟨rfl, m.1⟩
   have c7 := m.2
   clear l
   have l : MemN _ _ _ _ _ := ⟨rfl, Mem.of_get w⟩
   clear u1
   have u1 := a1.2 (xs.getD i 0).toNat (by omega)
   have _ : ((xs.take j).map fun g => idxL xs (c.th (xs.getD i 0) g)).length = j := by simp; omega
   refine .seq (fun K25 r8 => .seq (fun K26 r5 => .region (.mv rfl (.mv rfl (.q rfl (.len sl_22_A rfl) (.q rfl (.cmp rfl rfl rfl) (.nil (r5 _ _ ?_))))))))
   refine .cond rfl ?_ ?_ <;> intro t8
   ·
    simp only [sps] at t8
    have _ := hC.lt (xs.getD j 0) (getD_mem (by omega))
    refine .skip (r8 _ _ (.seq (fun K27 r6 => .block ?_)))
    refine .regionD mo_B (.qs [0, 1, 2, 3, 4, 5, 6, 7, 8, 9, 10, 11, 12, 13, 14, 15] (.c 16 1 (.c 17 1 (.c 18 0 (.c 19 0 (.done)))))) (by kernel_rfl) ?_
    refine .mv rfl rfl (.mv rfl rfl (.q rfl (.fieldAddr fo_31_4_B rfl) ?_))
    refine .q rfl (.load on_23_B rfl (by first | assumption | exact Mem.of_get v 4 _ rfl)) ?_
    refine .mv rfl rfl (.mv rfl rfl (.q rfl (.iN sl_22_A rfl rfl) (.q rfl (.lI on_2_A rfl) ?_)))
    refine .q rfl (.idx1 sl_23_B (Intss.sl (by assumption)) rfl rfl (by omega) (by omega)) ?_
    refine .q rfl (.loadR on_22_B (by assumption) rfl (by omega)) ?_
    refine .mv rfl rfl (.mv rfl rfl (.q rfl (.iN sl_22_A rfl rfl) (.q rfl (.lI on_2_A rfl) (.q rfl (.i1 sl_22_A rfl rfl) (.q rfl (.lI on_2_A rfl) ?_)))))
    refine .callQ1 rfl rfl rfl rfl rfl en52 rfl (l01Index_c) (.refl _) ?_
    refine .c1 rfl rfl rfl rfl (.litA rfl sl_22_A ze_2_E rfl rfl rfl rfl) ?_
    rintro _ _ ⟨_, rfl, c9, _, n2⟩
    have p4 := c9
    refine ⟨p4, ?_⟩
    have _ := c9.1
    replace r := r.trans c9
    replace t := t.le c9
    replace a5 := a5.le c9
    replace rk := rk.le c9
    replace e4 := e4.le c9
    replace v := c9.2 _ _ v
    replace c8 := c9.2 _ _ c8
    replace e := c9.2 _ _ e
    replace u := c9.2 _ _ u
    replace y := c9.2 _ _ y
    replace d5 := c9.2 _ _ d5
    replace d9 := c9.2 _ _ d9
    replace e7 := c9.2 _ _ e7
    replace f3 := c9.2 _ _ f3
    replace a0 := c9.2 _ _ a0
    replace e0 := c9.2 _ _ e0
    have _ := GHeap.ltg n2
    replace hin := b.mono r
    replace h := o.mono r
    clear m b8 c2 c5 c6 c3 c4 b0 a8 a1 a9 c7
    have m : Cat.At _ g2 0 c p := ⟨Mem.of_get v, hin⟩
    obtain ⟨b8, c2, c5, c6, c3, c4, b0, a8, a1⟩ := m.get
    have a9 : MemN _ _ _ _ _ := ⟨rfl, m.1⟩
    have c7 := m.2
    clear l
    have l : MemN _ _ _ _ _ := ⟨rfl, Mem.of_get w⟩
    clear u1
    have u1 := a1.2 (xs.getD i 0).toNat (by omega)
    refine .c0 rfl rfl rfl rfl (.apI rfl sl_22_A ze_2_E rfl by_2_E sl_22_A rfl rfl) ?_
    rintro _ _ ⟨_, rfl, d4, _, q5⟩
    have _ := d4.nx
    replace r := r.st d4 (fun k hk => ⟨by omega, trivial⟩)
    replace t := t.sP d4
    replace a5 := a5.sP d4
    replace rk := rk.sP d4
    replace e4 := e4.sP d4
    replace v := d4.same _ _ ⟨(a4.ne k4.ne (by omega)), trivial⟩ v
    replace c8 := d4.same _ _ ⟨(a4.ne k5.ne (by omega)), trivial⟩ c8
    replace e := d4.same _ _ ⟨(a4.ne k2.ne (by omega)), trivial⟩ e
    replace u := d4.same _ _ ⟨(a4.ne j8.ne (by omega)), trivial⟩ u
    have f2 : NE gLC f5 := ⟨a4.ne f8.ne (by omega)⟩
    replace y := d4.s y f2.ne
    replace d5 := d4.same _ _ ⟨(a4.ne j9.ne (by omega)), trivial⟩ d5
    replace d9 := d4.same _ _ ⟨(a4.ne j3.ne (by omega)), trivial⟩ d9
    replace e7 := d4.same _ _ ⟨(a4.ne j7.ne (by omega)), trivial⟩ e7
    replace f3 := d4.same _ _ ⟨(a4.ne j1.ne (by omega)), trivial⟩ f3
    have f6 : NE g7 f5 := ⟨a4.ne g9.ne (by omega)⟩
    replace a0 := d4.s a0 f6.ne
    replace n2 := d4.s n2
    have _ := GHeap.ltg q5
    replace hin := b.mono r
    replace h := o.mono r
    clear m b8 c2 c5 c6 c3 c4 b0 a8 a1 a9 c7
    have m : Cat.At _ g2 0 c p := ⟨Mem.of_get v, hin⟩
    obtain ⟨b8, c2, c5, c6, c3, c4, b0, a8, a1⟩ := m.get
    have a9 : MemN _ _ _ _ _ := ⟨rfl, m.1⟩
    have c7 := m.2
    clear l
    have l : MemN _ _ _ _ _ := ⟨rfl, Mem.of_get w⟩
    clear u1
    have u1 := a1.2 (xs.getD i 0).toNat (by omega)
    refine .d0 rfl rfl rfl rfl (.quiet (.assign rfl) CIs.mk) (.done (r6 _ _ (.region (.mv rfl (.q rfl (.aD rfl rfl rfl) (.mv rfl (.nil ?_)))))))
    refine r9 ((j + 1, _, _)) _ _ ?_ ?_ (.p rfl)
    ·
     refine ⟨e4, by first | assumption | (rw [take_map_snoc (d := 0) (by omega)]; assumption), by first | assumption | exact ⟨.inr (by omega)⟩ | exact ⟨.inl rfl⟩, by first | omega | (simp only [List.length_append, List.length_cons, List.length_nil] <;> omega) | (rw [take_map_snoc (d := 0) (by omega)] <;> (first | omega | (simp only [List.length_append, List.length_cons, List.length_nil] <;> omega))), ?_⟩
     omega
    (dsimp only; omega)
   try simp only [sps] at t8
   refine .exit (t7 _ _ (.region ?_))
   obtain rfl : j = xs.length := by omega
   have hrl : (c.partR xs (xs.getD i 0)).length = m0 := by rw [p3]; simp [Cat.partR]
   refine .q rfl (.fieldAddr fo_31_4_B rfl) ?_
   refine .q rfl (.load on_23_B rfl (by first | assumption | exact Mem.of_get a0 4 _ rfl)) ?_
   refine .mv rfl ?_
   refine .R rfl (.litA rfl sl_23_B ze_22_E rfl rfl rfl rfl) ?_
   rintro _ _ ⟨_, rfl, d6, _, l6⟩
   have _ := d6.1
   replace r := r.trans d6
   replace t := t.le d6
   replace a5 := a5.le d6
   replace rk := rk.le d6
   replace v := d6.2 _ _ v
   replace c8 := d6.2 _ _ c8
   replace e := d6.2 _ _ e
   replace u := d6.2 _ _ u
   replace y := d6.2 _ _ y
   replace d5 := d6.2 _ _ d5
   replace d9 := d6.2 _ _ d9
   replace e7 := d6.2 _ _ e7
   replace f3 := d6.2 _ _ f3
   replace a0 := d6.2 _ _ a0
   replace e0 := d6.2 _ _ e0
   have _ := GHeap.ltg l6
   replace hin := b.mono r
   replace h := o.mono r
   clear m b8 c2 c5 c6 c3 c4 b0 a8 a1 a9 c7
   have m : Cat.At _ g2 0 c p := ⟨Mem.of_get v, hin⟩
   obtain ⟨b8, c2, c5, c6, c3, c4, b0, a8, a1⟩ := m.get
   have a9 : MemN _ _ _ _ _ := ⟨rfl, m.1⟩
   have c7 := m.2
   clear l
   have l : MemN _ _ _ _ _ := ⟨rfl, Mem.of_get w⟩
   clear u1
   have u1 := a1.2 (xs.getD i 0).toNat (by omega)
   refine .R rfl (.appendV rfl sl_23_B ze_22_E rfl by_22_E sl_23_B rfl rfl (by assumption) (by assumption) (by first | omega | (simp <;> omega)) rfl rfl (by omega) (by omega)) ?_
   rintro _ _ ⟨s7, rfl, d7, _, n4⟩
   have _ := d7.nx
   replace r := r.st d7 (fun k hk => ⟨by omega, trivial⟩)
   replace t := t.sP d7
   replace a5 := a5.sP d7
   replace rk := rk.sP d7
   replace v := d7.same _ _ ⟨(k7.ne l2.ne (by omega)), trivial⟩ v
   have h1 : NE g4 gLC := ⟨k7.ne h6.ne (by omega)⟩
   replace c8 := d7.s c8 h1.ne
   replace e := d7.same _ _ ⟨(k7.ne k1.ne (by omega)), trivial⟩ e
   replace u := d7.same _ _ ⟨(k7.ne (Ne.symm f1.ne) (by omega)), trivial⟩ u
   replace d5 := d7.s d5
   replace d9 := d7.s d9
   replace e7 := d7.s e7
   replace f3 := d7.s f3
   replace a0 := d7.same _ _ ⟨(Ne.symm n6), trivial⟩ a0
   have f2 : NE gLC f5 := ⟨a4.ne f8.ne (by omega)⟩
   replace e0 := d7.s e0 (Ne.symm f2.ne)
   replace l6 := d7.s l6
   have _ := GHeap.ltg n4
   replace hin := b.mono r
   replace h := o.mono r
   clear m b8 c2 c5 c6 c3 c4 b0 a8 a1 a9 c7
   have m : Cat.At _ g2 0 c p := ⟨Mem.of_get v, hin⟩
   obtain ⟨b8, c2, c5, c6, c3, c4, b0, a8, a1⟩ := m.get
   have a9 : MemN _ _ _ _ _ := ⟨rfl, m.1⟩
   have c7 := m.2
   clear l
   have l : MemN _ _ _ _ _ := ⟨rfl, Mem.of_get w⟩
   clear u1
   have u1 := a1.2 (xs.getD i 0).toNat (by omega)
   refine .q rfl (.fieldAddr fo_31_4_B rfl) ?_
   refine .r0 rfl rfl (.storeR rfl sz_23_E rfl rfl rfl (by assumption) (by first | exact Nat.le_of_ble_eq_true rfl | (simp; done) | (simp <;> omega))) ?_
   rintro _ _ ⟨rfl, z, m3⟩
   have _ := z.nx
   replace r := r.st z (fun k hk => ⟨by omega, trivial⟩)
   replace t := t.sA z
   replace a5 := a5.sA z
   replace rk := rk.sA z
   replace v := z.s v d8.ne
   replace c8 := z.s c8 d3.ne
   replace e := z.s e d1.ne
   replace u := z.same _ _ ⟨l7, trivial⟩ u
   replace d5 := z.s d5 i7.ne
   replace d9 := z.s d9 i5.ne
   replace e7 := z.s e7 l0.ne
   replace f3 := z.s f3 k9.ne
   have f6 : NE g7 f5 := ⟨a4.ne g9.ne (by omega)⟩
   replace e0 := z.s e0 (Ne.symm f6.ne)
   replace l6 := z.s l6
   replace n4 := z.s n4
   have _ := GHeap.ltg m3
   replace hin := b.mono r
   replace h := o.mono r
   clear m b8 c2 c5 c6 c3 c4 b0 a8 a1 a9 c7
   have m : Cat.At _ g2 0 c p := ⟨Mem.of_get v, hin⟩
   obtain ⟨b8, c2, c5, c6, c3, c4, b0, a8, a1⟩ := m.get
   have a9 : MemN _ _ _ _ _ := ⟨rfl, m.1⟩
   have c7 := m.2
   clear l
   have l : MemN _ _ _ _ _ := ⟨rfl, Mem.of_get w⟩
   clear u1
   have u1 := a1.2 (xs.getD i 0).toNat (by omega)
   try simp only [Nat.zero_add, List.set_cons_succ, List.set_cons_zero] at m3
   refine .nil (t0 _ _ (.region (.mv rfl (.q rfl (.aD rfl rfl rfl) (.mv rfl (.nil ?_))))))
   refine s1 ((i + 1, upd rr (c.partL xs i).length (some ⟨f5, 0, none⟩), p7, p8, s7)) _ _ ?_ ?_ (.p rfl)
   ·
    refine ⟨a5, by first | assumption | (rw [take_map_snoc (d := 0) (by omega)]; assumption) | (rw [Cat.partL_succ (by omega), slsL_snoc, hrl]; assumption), by first | assumption | exact ⟨.inr (by omega)⟩ | exact ⟨.inl rfl⟩, by first | assumption | (rw [take_map_snoc (d := 0) (by omega)]; assumption) | (rw [Cat.partL_succ (by omega), slsL_snoc, hrl]; assumption), by first | assumption | exact ⟨.inr (by omega)⟩ | exact ⟨.inl rfl⟩, by first | assumption | (rw [take_map_snoc (d := 0) (by omega)]; assumption) | (rw [Cat.partL_succ (by omega), slsL_snoc, hrl]; assumption), by first | assumption | exact ⟨.inr (by omega)⟩ | exact ⟨.inl rfl⟩, by first | assumption | (rw [take_map_snoc (d := 0) (by omega)]; assumption) | (rw [Cat.partL_succ (by omega), slsL_snoc, hrl]; assumption), by first | assumption | omega, by first | assumption | omega, by first | assumption | omega, by first | assumption | omega, by first | assumption | omega, by first | assumption | omega, ?_⟩
    have hR' := hR.st rk (.cons hF (.cons hT (.cons (hR.neT hatC rfl) (.cons (hR.neT q8 rfl) (.nil _ _)))))
    have v2 := hR.ne (g := f5) (a4.ge (by omega) (by omega))
    have w1 := hR.ne (g := p7) (by omega)
    have v1 := hR.ne (g := p8) (by omega)
    have _ : p7 ≠ f5 := a4.ne (by omega) (by omega)
    have _ : gLI ≠ f5 := a4.ne (by omega) (by omega)
    have _ : p8 ≠ f5 := a4.ne (by omega) (by omega)
    have hrow := e0
    rw [List.take_length] at hrow
    rw [Cat.partL_succ (by omega)]
    exact ⟨by omega, hR'.snoc2 hrow v2 (by omega), ne_snoc w1 (by omega), ne_snoc v1 (by omega), ne_snoc hId (by omega)⟩
   (dsimp only; omega)
  try simp only [sps] at u5
  refine .exit (r3 _ _ (.seq (fun K28 t5 => .region ?_)))
  refine .q rfl (.loadM ag_31_D rfl ⟨rfl, Mem.of_get a3⟩) ?_
  have s6 := c8
  refine .r0 rfl rfl (.fillA rfl sz_31_D rfl rfl rfl rfl) ?_
  rintro _ _ ⟨rfl, d2, l3⟩
  have _ := d2.nx
  replace r := r.st d2 (fun k hk => ⟨by omega, trivial⟩)
  replace v := d2.s v
  have i3 : NE g4 l9 := ⟨m1.ne h7.ne (by omega)⟩
  replace e := d2.s e (Ne.symm i3.ne)
  have i6 : NE g4 gLI := ⟨e5.ne i0.ne (by omega)⟩
  replace u := d2.s u (Ne.symm i6.ne)
  have g8 : NE g4 gLF := ⟨j6.ne h3.ne (by omega)⟩
  replace i9 := d2.s i9 (Ne.symm g8.ne)
  have h2 : NE g4 gLT := ⟨j4.ne h9.ne (by omega)⟩
  replace e3 := d2.s e3 (Ne.symm h2.ne)
  have h1 : NE g4 gLC := ⟨k7.ne h6.ne (by omega)⟩
  replace y := d2.s y (Ne.symm h1.ne)
  replace a3 := d2.s a3 (Ne.symm d3.ne)
  have _ := GHeap.ltg l3
  replace hin := b.mono r
  replace h := o.mono r
  clear m b8 c2 c5 c6 c3 c4 b0 a8 a1 a9 c7
  have m : Cat.At _ g2 0 c p := ⟨Mem.of_get v, hin⟩
  obtain ⟨b8, c2, c5, c6, c3, c4, b0, a8, a1⟩ := m.get
  have a9 : MemN _ _ _ _ _ := ⟨rfl, m.1⟩
  have c7 := m.2
  clear l
  have l : MemN _ _ _ _ _ := ⟨rfl, Mem.of_get w⟩
  have _ : MemN _ _ _ _ _ := ⟨rfl, Mem.of_get l3⟩
  refine .nil (t5 _ _ (.ret (s4 _ _ (⟨_, _, _, _, rfl, ag_31_D, (by rfl), (Mem.of_get l3), ?_⟩))))
  obtain rfl : i = xs.length := by omega
  obtain rfl : x = (c.partO xs).length := by omega
  rw [List.take_length] at i9 e3 u
  have _ : gLI ≠ gLF := j6.ne (e5.ne' (by omega) (by omega)) (by omega)
  have _ : gLI ≠ gLT := j4.ne (e5.ne' (by omega) (by omega)) (by omega)
  rw [Cat.partL_all] at y hR hF hT hId
  refine ⟨r, ⟨some ⟨gLF, 0, none⟩, some ⟨gLT, 0, none⟩, some ⟨gLI, 0, none⟩, some ⟨gLC, 0, none⟩, rr⟩, by simp [Cat.cells, Cat.part], ?_⟩
  exact .mk (.of_at i9 (by omega)) (.of_at e3 (by omega)) (.of_at u (by omega)) ((hR.st d2 (.cons (hR.neT s6 rfl) (.nil _ _))).done y (by omega)) (.inr rfl) (.inr rfl) (.inr rfl) (by omega) (by omega) (by omega) (fun i hi => ⟨hF i hi, hT i hi, hId i hi⟩)
end Go.Proofs.Ytddjdkpjfpnjiaa
namespace Go.Proofs.Ytddjdkpjfpnjiaa
open Go Go.GL Go.RowKit Go.Proofs Go.Conc
variable [MainFlag]
set_option maxHeartbeats 1000000 in
theorem specFibreOver_c {f : Fun} {p : FunP} {y : Int} {H : GHeap} (hin : f.In H p := by assumption) (hsm : f.Small := by assumption) :
    GCalls Try.prog 15 [.agg (f.cells p).toArray, .int .i64 y] H (fun v H' => H.Le H' ∧ ∃ q a, v = .tuple #[.agg ((f.fbR y).cells q).toArray, .slice a (f.fbL y).length (f.fbL y).length, .int .i64 (f.fbC y)] ∧ CatL H.next H' (f.fbR y) q a (f.fbL y)) := by
  obtain ⟨_, e, _, _⟩ := id hsm
  refine GCalls.body (N := 48) (rs := [.cell 4 31, .tmp 5, .tmp 6]) Try.func15 rfl rfl rfl rfl (fun Qx d2 hend => ?_)
  refine .fg [0, 1] rfl ?_
  have x := GHeap.Le.refl H
  have b := hin
  refine .seq (fun K1 g0 => .region ?_)
  refine .R rfl (.boxR rfl sz_46_E rfl) ?_
  rintro _ _ ⟨g2, rfl, f4, _, w⟩
  have _ := f4.1
  replace x := x.trans f4
  have _ := GHeap.ltg w
  replace hin := b.mono x
  have c : Fun.At _ g2 0 f p := ⟨Mem.of_get w, hin⟩
  obtain ⟨e, d, r, i, a5, a3⟩ := c.get
  have a4 : MemN _ _ _ _ _ := ⟨rfl, c.1⟩
  have a6 := c.2
  have o : MemN _ _ _ _ _ := ⟨rfl, e.1⟩
  have n := e.2
  have l : MemN _ _ _ _ _ := ⟨rfl, d.1⟩
  have m := d.2
  refine .R rfl (.allocR rfl ze_31_E rfl) ?_
  rintro _ _ ⟨g4, rfl, e7, _, c9⟩
  have _ := e7.1
  replace x := x.trans e7
  replace w := e7.2 _ _ w
  have _ := GHeap.ltg c9
  replace hin := b.mono x
  clear c e d r i a5 a3 a4 a6 o n l m
  have c : Fun.At _ g2 0 f p := ⟨Mem.of_get w, hin⟩
  obtain ⟨e, d, r, i, a5, a3⟩ := c.get
  have a4 : MemN _ _ _ _ _ := ⟨rfl, c.1⟩
  have a6 := c.2
  have o : MemN _ _ _ _ _ := ⟨rfl, e.1⟩
  have n := e.2
  have l : MemN _ _ _ _ _ := ⟨rfl, d.1⟩
  have m := d.2
  refine .mv rfl (.mv rfl (.nil (g0 _ _ (.seq (fun K2 g6 => .seq (fun K3 f8 => .region ?_))))))
  refine .q rfl (.loadM ag_46_E rfl ⟨rfl, Mem.of_get w⟩) ?_
  refine .callQ rfl rfl rfl rfl en38 rfl (l06Is_c) ?_
  refine .q rfl (.not rfl) (.nil (f8 _ _ ?_))
  refine .cond rfl ?_ ?_ <;> intro c7
  ·
   simp only [sps] at c7
   refine .seq (fun K4 f9 => .region (.q rfl (.build bt_31_Kc rfl rfl rfl) ?_))
   refine .r0 rfl rfl (.fillA rfl sz_31_D rfl rfl rfl rfl) ?_
   rintro _ _ ⟨rfl, a7, b0⟩
   have _ := a7.nx
   replace x := x.st a7 (fun k hk => ⟨by omega, trivial⟩)
   have u : NE g2 g4 := .a
   replace w := a7.s w u.ne
   have _ := GHeap.ltg b0
   replace hin := b.mono x
   clear c e d r i a5 a3 a4 a6 o n l m
   have c : Fun.At _ g2 0 f p := ⟨Mem.of_get w, hin⟩
   obtain ⟨e, d, r, i, a5, a3⟩ := c.get
   have a4 : MemN _ _ _ _ _ := ⟨rfl, c.1⟩
   have a6 := c.2
   have o : MemN _ _ _ _ _ := ⟨rfl, e.1⟩
   have n := e.2
   have l : MemN _ _ _ _ _ := ⟨rfl, d.1⟩
   have m := d.2
   have _ : MemN _ _ _ _ _ := ⟨rfl, Mem.of_get b0⟩
   refine .mv rfl (.mv rfl (.nil (f9 _ _ (.ret (d2 _ _ (⟨_, _, _, _, _, _, rfl, ag_31_D, (by rfl), (Mem.of_get b0), rfl, rfl, ?_⟩))))))
   obtain ⟨e1, e2, e3⟩ := fb_1 (y := y) c7
   rw [e1, e2, e3]
   exact ⟨x, .zero, none, rfl, .nil _ _⟩
  simp only [sps] at c7
  have _ := c7.2.1.1.obj
  have _ := c7.2.1.1.il
  have _ := c7.1.1.n40
  have _ := c7.2.2.al
  refine .skip (g6 _ _ (.seq (fun K5 f7 => .seq (fun K6 g3 => .region (.q rfl (.fieldAddr fo_46_1_E rfl) ?_)))))
  refine .q rfl (.loadM ag_31_D rfl (by assumption)) ?_
  refine .mv rfl ?_
  refine .callQ rfl rfl rfl rfl en39 rfl (l02Object_c) ?_
  refine .q rfl (.not rfl) (.nil (g3 _ _ ?_))
  refine .cond rfl ?_ ?_ <;> intro f1
  ·
   simp only [sps] at f1
   refine .seq (fun K7 g1 => .region (.q rfl (.build bt_31_Kc rfl rfl rfl) ?_))
   refine .r0 rfl rfl (.fillA rfl sz_31_D rfl rfl rfl rfl) ?_
   rintro _ _ ⟨rfl, b5, a8⟩
   have _ := b5.nx
   replace x := x.st b5 (fun k hk => ⟨by omega, trivial⟩)
   have u : NE g2 g4 := .a
   replace w := b5.s w u.ne
   have _ := GHeap.ltg a8
   replace hin := b.mono x
   clear c e d r i a5 a3 a4 a6 o n l m
   have c : Fun.At _ g2 0 f p := ⟨Mem.of_get w, hin⟩
   obtain ⟨e, d, r, i, a5, a3⟩ := c.get
   have a4 : MemN _ _ _ _ _ := ⟨rfl, c.1⟩
   have a6 := c.2
   have o : MemN _ _ _ _ _ := ⟨rfl, e.1⟩
   have n := e.2
   have l : MemN _ _ _ _ _ := ⟨rfl, d.1⟩
   have m := d.2
   have _ : MemN _ _ _ _ _ := ⟨rfl, Mem.of_get a8⟩
   refine .mv rfl (.mv rfl (.nil (g1 _ _ (.ret (d2 _ _ (⟨_, _, _, _, _, _, rfl, ag_31_D, (by rfl), (Mem.of_get a8), rfl, rfl, ?_⟩))))))
   obtain ⟨e1, e2, e3⟩ := fb_2 (y := y) c7 (by omega)
   rw [e1, e2, e3]
   exact ⟨x, .zero, none, rfl, .nil _ _⟩
  simp only [sps] at f1
  refine .skip (f7 _ _ (.seq (fun K8 g5 => .region ?_)))
  refine .R rfl (.litA rfl sl_22_A ze_2_E rfl rfl rfl rfl) ?_
  rintro _ d9 ⟨f0, rfl, d0, _, c5⟩
  have _ := d0.1
  replace x := x.trans d0
  replace w := d0.2 _ _ w
  replace c9 := d0.2 _ _ c9
  have _ := GHeap.ltg c5
  replace hin := b.mono x
  clear c e d r i a5 a3 a4 a6 o n l m
  have c : Fun.At _ g2 0 f p := ⟨Mem.of_get w, hin⟩
  obtain ⟨e, d, r, i, a5, a3⟩ := c.get
  have a4 : MemN _ _ _ _ _ := ⟨rfl, c.1⟩
  have a6 := c.2
  have o : MemN _ _ _ _ _ := ⟨rfl, e.1⟩
  have n := e.2
  have l : MemN _ _ _ _ _ := ⟨rfl, d.1⟩
  have m := d.2
  replace c5 : GHeap.get d9 f0 = some (.row (ints []) 2 true) := c5
  refine .mv rfl (.nil (g5 _ _ (.seq (fun K9 g7 => .seq (fun K10 e8 => .region (.mv rfl (.nil (e8 _ _ (.block ?_)))))))))
  obtain ⟨c0, c1, c2, c3, c4, i1, i2, i3, i4⟩ := d.get
  refine .loopF (σ := Nat × Nat × Nat) [1, 2, 4] (fun (k, d1, d4) => [(8, some (.int .i64 (k : Int))), (7, some (.slice (some ⟨d1, 0, none⟩) d4 d4))]) (fun (k, d1, d4) H' => St [f0] d9 H' ∧ H'.get d1 = some (.row (ints (filtN k fun j => decide (f.ar.getD j 0 = f.t.idn.getD y.toNat 0))) 2 true) ∧ (d1 = f0 ∨ d9.next ≤ d1) ∧ d4 = (filtN k fun j => decide (f.ar.getD j 0 = f.t.idn.getD y.toNat 0)).length ∧ k ≤ f.ar.length) (fun (k, d1, d4) => f.ar.length - k) ((0, _, _)) rfl (.p rfl) ?_ ?_
  ·
   refine ⟨.refl _ _, by first | assumption | exact c5 | simpa using c5, .inl rfl, by first | rfl | assumption | simp | omega, ?_⟩
   omega
  rintro ⟨k, d1, d4⟩ HL1 ⟨a1, z, _, d5, _⟩ _ d6
  dsimp only [cA, nA]
  have _ : H.next ≤ d1 := by omega
  have _ := a1.nx
  replace x := x.st a1 (fun k hk => ⟨by omega, trivial⟩)
  replace w := a1.s w
  replace c9 := a1.s c9
  have _ := GHeap.ltg z
  replace hin := b.mono x
  clear c e d r i a5 a3 a4 a6 o n l m
  have c : Fun.At _ g2 0 f p := ⟨Mem.of_get w, hin⟩
  obtain ⟨e, d, r, i, a5, a3⟩ := c.get
  have a4 : MemN _ _ _ _ _ := ⟨rfl, c.1⟩
  have a6 := c.2
  have o : MemN _ _ _ _ _ := ⟨rfl, e.1⟩
  have n := e.2
  have l : MemN _ _ _ _ _ := ⟨rfl, d.1⟩
  have m := d.2
  obtain ⟨c0, c1, c2, c3, c4, i1, i2, i3, i4⟩ := d.get
  have _ := filtN_le k fun j => decide (f.ar.getD j 0 = f.t.idn.getD y.toNat 0)
  refine .seq (fun K11 e9 => .seq (fun K12 e0 => .region (.mv rfl (.q rfl (.fieldAddr fo_46_3_E rfl) ?_))))
  refine .q rfl (.load on_22_B rfl (by first | assumption | exact Mem.of_get w 11 _ rfl)) ?_
  refine .q rfl (.len sl_22_A rfl) (.q rfl (.cmp rfl rfl rfl) (.nil (e0 _ _ ?_)))
  refine .cond rfl ?_ ?_ <;> intro f5
  ·
   try simp only [sps] at f5
   refine .skip (e9 _ _ (.seq (fun K13 d7 => .block (.seq (fun K14 e6 => ?_)))))
   refine .regionD mo_B (.qs [0, 1, 2, 3, 4, 5, 6, 7, 8, 9, 10, 11] (.done)) (by kernel_rfl) ?_
   refine .q rfl (.fieldAddr fo_46_3_E rfl) ?_
   refine .q rfl (.load on_22_B rfl (by first | assumption | exact Mem.of_get w 11 _ rfl)) ?_
   refine .mv rfl rfl (.q rfl (.iN sl_22_A rfl rfl) (.q rfl (.lI on_2_A rfl) (.q rfl (.fieldAddr fo_46_1_E rfl) (.q rfl (.fieldAddr fo_31_3_B rfl) ?_))))
   refine .q rfl (.load on_22_B rfl (by first | assumption | exact Mem.of_get w 8 _ rfl)) ?_
   refine .mv rfl rfl (.q rfl (.i1 sl_22_A rfl rfl) (.q rfl (.lI on_2_A rfl) (.q rfl (.cmp rfl rfl rfl) (.done (e6 _ _ ?_)))))
   refine .cond rfl ?_ ?_ <;> intro f6
   ·
    try simp only [sps] at f6
    refine .region (.mv rfl (.mv rfl ?_))
    refine .R rfl (.litA rfl sl_22_A ze_2_E rfl rfl rfl rfl) ?_
    rintro _ _ ⟨_, rfl, b9, _, d3⟩
    have _ := b9.1
    replace x := x.trans b9
    replace a1 := a1.le b9
    replace w := b9.2 _ _ w
    replace c9 := b9.2 _ _ c9
    replace z := b9.2 _ _ z
    have _ := GHeap.ltg d3
    replace hin := b.mono x
    clear c e d r i a5 a3 a4 a6 o n l m
    have c : Fun.At _ g2 0 f p := ⟨Mem.of_get w, hin⟩
    obtain ⟨e, d, r, i, a5, a3⟩ := c.get
    have a4 : MemN _ _ _ _ _ := ⟨rfl, c.1⟩
    have a6 := c.2
    have o : MemN _ _ _ _ _ := ⟨rfl, e.1⟩
    have n := e.2
    have l : MemN _ _ _ _ _ := ⟨rfl, d.1⟩
    have m := d.2
    refine .R rfl (.apI rfl sl_22_A ze_2_E rfl by_2_E sl_22_A rfl rfl) ?_
    rintro _ _ ⟨_, rfl, b6, _, e5⟩
    have _ := b6.nx
    replace x := x.st b6 (fun k hk => ⟨by omega, trivial⟩)
    replace a1 := a1.sA b6
    replace w := b6.s w
    replace c9 := b6.s c9
    replace d3 := b6.s d3
    have _ := GHeap.ltg e5
    replace hin := b.mono x
    clear c e d r i a5 a3 a4 a6 o n l m
    have c : Fun.At _ g2 0 f p := ⟨Mem.of_get w, hin⟩
    obtain ⟨e, d, r, i, a5, a3⟩ := c.get
    have a4 : MemN _ _ _ _ _ := ⟨rfl, c.1⟩
    have a6 := c.2
    have o : MemN _ _ _ _ _ := ⟨rfl, e.1⟩
    have n := e.2
    have l : MemN _ _ _ _ _ := ⟨rfl, d.1⟩
    have m := d.2
    refine .mv rfl (.nil (d7 _ _ (.region (.mv rfl (.q rfl (.aD rfl rfl rfl) (.mv rfl (.nil ?_)))))))
    refine d6 ((k + 1, _, _)) _ _ ?_ ?_ (.p rfl)
    ·
     refine ⟨a1, by first | assumption | (rw [filtN_T (by simp only [sps]; omega)]; assumption) | (rw [filtN_F (by simp only [sps]; omega)]; assumption), by omega, by first | omega | (simp only [List.length_append, List.length_cons, List.length_nil] <;> omega) | (rw [filtN_T (by simp only [sps]; omega)] <;> (first | omega | (simp only [List.length_append, List.length_cons, List.length_nil] <;> omega))) | (rw [filtN_F (by simp only [sps]; omega)] <;> (first | omega | (simp only [List.length_append, List.length_cons, List.length_nil] <;> omega))), ?_⟩
     omega
    (dsimp only; omega)
   try simp only [sps] at f6
   refine .skip (d7 _ _ (.region (.mv rfl (.q rfl (.aD rfl rfl rfl) (.mv rfl (.nil ?_))))))
   refine d6 ((k + 1, _, _)) _ _ ?_ ?_ (.p rfl)
   ·
    refine ⟨a1, by first | assumption | (rw [filtN_T (by simp only [sps]; omega)]; assumption) | (rw [filtN_F (by simp only [sps]; omega)]; assumption), by omega, by first | omega | (simp only [List.length_append, List.length_cons, List.length_nil] <;> omega) | (rw [filtN_T (by simp only [sps]; omega)] <;> (first | omega | (simp only [List.length_append, List.length_cons, List.length_nil] <;> omega))) | (rw [filtN_F (by simp only [sps]; omega)] <;> (first | omega | (simp only [List.length_append, List.length_cons, List.length_nil] <;> omega))), ?_⟩
    omega
   (dsimp only; omega)
  try simp only [sps] at f5
  refine .exit (g7 _ _ (.seq (fun K15 e4 => .region ?_)))
  obtain rfl : k = f.ar.length := by omega
  have hfb : filtN f.ar.length (fun j => decide (f.ar.getD j 0 = f.t.idn.getD y.toNat 0)) = f.fib (f.t.idn.getD y.toNat 0) := rfl
  rw [hfb] at z
  obtain rfl : d4 = (f.fib (f.t.idn.getD y.toNat 0)).length := by rw [d5, hfb]
  refine .q rfl (.fieldAddr fo_46_0_E rfl) ?_
  refine .q rfl (.loadM ag_31_D rfl (by assumption)) ?_
  refine .mv rfl ?_
  refine .call rfl rfl rfl rfl en40 rfl (l02Part_c (xs := f.fib (f.t.idn.getD y.toNat 0)) (hS := c7.1.1) (h := .of_get z) (hC := fib_closed c7 (by omega) (by omega))) ?_
  rintro _ f3 ⟨c6, _, rfl, d8⟩
  have _ := c6.1
  replace x := x.trans c6
  replace w := c6.2 _ _ w
  replace c9 := c6.2 _ _ c9
  replace z := c6.2 _ _ z
  have c8 := d8
  have a9 : Keep HL1.next f3 f3 := fun _ _ _ h => h
  replace hin := b.mono x
  clear c e d r i a5 a3 a4 a6 o n l m
  have c : Fun.At _ g2 0 f p := ⟨Mem.of_get w, hin⟩
  obtain ⟨e, d, r, i, a5, a3⟩ := c.get
  have a4 : MemN _ _ _ _ _ := ⟨rfl, c.1⟩
  have a6 := c.2
  have o : MemN _ _ _ _ _ := ⟨rfl, e.1⟩
  have n := e.2
  have l : MemN _ _ _ _ _ := ⟨rfl, d.1⟩
  have m := d.2
  have f2 := d8.inn
  refine .mv rfl ?_
  refine .r0 rfl rfl (.fillA rfl sz_31_D rfl rfl rfl rfl) ?_
  rintro _ _ ⟨rfl, a0, a2⟩
  have _ := a0.nx
  replace x := x.st a0 (fun k hk => ⟨by omega, trivial⟩)
  have u : NE g2 g4 := .a
  replace w := a0.s w u.ne
  replace z := a0.s z
  replace a9 := Keep.st a9 a0 (fun k hb hk => ⟨by omega, trivial⟩)
  replace d8 := c8.keep a9 (Nat.le_refl _)
  have _ := GHeap.ltg a2
  replace hin := b.mono x
  clear c e d r i a5 a3 a4 a6 o n l m
  have c : Fun.At _ g2 0 f p := ⟨Mem.of_get w, hin⟩
  obtain ⟨e, d, r, i, a5, a3⟩ := c.get
  have a4 : MemN _ _ _ _ _ := ⟨rfl, c.1⟩
  have a6 := c.2
  have o : MemN _ _ _ _ _ := ⟨rfl, e.1⟩
  have n := e.2
  have l : MemN _ _ _ _ _ := ⟨rfl, d.1⟩
  have m := d.2
  clear f2
  have f2 := d8.inn
  have _ : MemN _ _ _ _ _ := ⟨rfl, Mem.of_get a2⟩
  refine .mv rfl (.mv rfl (.nil (e4 _ _ (.ret (d2 _ _ (⟨_, _, _, _, _, _, rfl, ag_31_D, (by rfl), (Mem.of_get a2), rfl, rfl, ?_⟩))))))
  obtain ⟨e1, e2, e3⟩ := fb_0 (y := y) c7 (by omega)
  rw [e1, e2, e3]
  exact ⟨x, _, _, rfl, ⟨d8.keep (.of_le (.refl _)) (by omega), .of_at z (by omega), fun g hg hg' => by have b7 := (CatR.bks c8 hg).1; have b8 := lvBlks_one hg'; omega⟩⟩
end Go.Proofs.Ytddjdkpjfpnjiaa
