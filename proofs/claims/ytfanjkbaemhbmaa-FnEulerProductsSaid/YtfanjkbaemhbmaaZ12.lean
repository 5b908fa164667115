/- Joins of drawn categories. No condition but those of each statement. -/
import Derived.Test.YtfanjkbaemhbmaaZ11
namespace Go.Proofs.Ytfanjkbaemhbmaa
open Go Go.GL Go.RowKit Go.Proofs
set_option maxHeartbeats 8000000 in
theorem l03Join_c {c d : Cat} {p q : CatP} {H : GHeap} (hin : c.In H p := by assumption) (hin1 : d.In H q := by assumption) (hc : c.Rect 4) (hd : d.Rect 8) :
    GCalls Try.prog 126 [.agg (c.cells p).toArray, .agg (d.cells q).toArray] H (NewRc 2 24 128 H) := by
  have c1 := hc.obj
  have d1 := hd.obj
  obtain ⟨E, hEq, hE⟩ : ∃ E, c.sum d = E ∧ E.Rect 12 := ⟨_, rfl, hc.sum hd⟩
  have hE0 : E.obj = c.obj + d.obj := by rw [← hEq]; rfl
  obtain ⟨e1, e2, e3, e4, e5, e6, e7, e8, e9, s5⟩ := id hE
  refine GCalls.body (N := 122) (rs := [.cell 4 27]) Try.func126 rfl rfl rfl rfl (fun Qx n8 hend => ?_)
  refine .fg [0, 1] rfl ?_
  have i := GHeap.Le.refl H
  have h := hin
  have e := hin1
  refine .seq (fun K1 s9 => .region ?_)
  refine .R rfl (.boxR rfl sz_27_D rfl) ?_
  rintro _ H2 ⟨g2, rfl, s7, ge2, m⟩
  replace i := i.trans s7
  have lt_at2 := GHeap.ltg m
  replace hin := h.mono i
  have w : Cat.At _ g2 0 c p := ⟨Mem.of_get m, hin⟩
  refine .R rfl (.boxR rfl sz_27_D rfl) ?_
  rintro _ H3 ⟨g3, rfl, r6, ge3, n⟩
  replace i := i.trans r6
  replace m := r6.2 _ _ m
  have lt_at3 := GHeap.ltg n
  replace hin := h.mono i
  replace hin1 := e.mono i
  clear w
  have w : Cat.At _ g2 0 c p := ⟨Mem.of_get m, hin⟩
  have a0 : Cat.At _ g3 0 d q := ⟨Mem.of_get n, hin1⟩
  refine .R rfl (.allocR rfl ze_27_Hj rfl) ?_
  rintro _ H4 ⟨g4, rfl, m8, ge4, i4⟩
  have nx_H4 := m8.1
  replace i := i.trans m8
  replace m := m8.2 _ _ m
  replace n := m8.2 _ _ n
  have lt_at4 := GHeap.ltg i4
  replace hin := h.mono i
  replace hin1 := e.mono i
  clear w
  have w : Cat.At _ g2 0 c p := ⟨Mem.of_get m, hin⟩
  have t6 := w.2
  clear a0
  have a0 : Cat.At _ g3 0 d q := ⟨Mem.of_get n, hin1⟩
  have t8 := a0.2
  refine .nil (s9 _ _ (.seq (fun K2 t3 => .region ?_)))
  refine .q rfl (.loadM ag_27_D rfl ⟨rfl, Mem.of_get m⟩) ?_
  refine .q rfl (.loadM ag_27_D rfl ⟨rfl, Mem.of_get n⟩) ?_
  refine .call rfl rfl rfl rfl @Try.call103 rfl (l03Sum_c (hc := hc.mono (by omega : 4 ≤ 8)) (hd := hd) (hN := by omega)) ?_
  rintro _ t5 hv
  rw [hEq] at hv
  obtain ⟨k1, gF, gT, gI, gC, rr, rfl, i7⟩ := hv
  have aF := i7.a1
  have aT := i7.a2
  have aI := i7.a3
  have aC := i7.a4
  have bF := i7.b1
  have bT := i7.b2
  have bI := i7.b3
  have bC := i7.b4
  have n12 := i7.n12
  have n13 := i7.n13
  have n23 := i7.n23
  have n4 := row_ne aC aF rfl
  have n5 := row_ne aC aT rfl
  have n6 := row_ne aC aI rfl
  have l9 := St.refl [gF] t5
  replace i := i.trans k1
  replace m := k1.2 _ _ m
  replace n := k1.2 _ _ n
  replace i4 := k1.2 _ _ i4
  have lt_aF := GHeap.ltg aF
  have lt_aT := GHeap.ltg aT
  have lt_aI := GHeap.ltg aI
  have lt_aC := GHeap.ltg aC
  replace hin := h.mono i
  replace hin1 := e.mono i
  clear w t6
  have w : Cat.At _ g2 0 c p := ⟨Mem.of_get m, hin⟩
  clear a0 t8
  have a0 : Cat.At _ g3 0 d q := ⟨Mem.of_get n, hin1⟩
  refine .R rfl (.allocR rfl ze_27_Hj rfl) ?_
  rintro _ H5 ⟨g5, rfl, j4, ge5, at5⟩
  have nx_H5 := j4.1
  replace i := i.trans j4
  replace l9 := l9.le j4
  replace m := j4.2 _ _ m
  replace n := j4.2 _ _ n
  replace i4 := j4.2 _ _ i4
  replace aF := j4.2 _ _ aF
  replace aT := j4.2 _ _ aT
  replace aI := j4.2 _ _ aI
  replace aC := j4.2 _ _ aC
  replace hin := h.mono i
  replace hin1 := e.mono i
  clear w
  have w : Cat.At _ g2 0 c p := ⟨Mem.of_get m, hin⟩
  clear a0
  have a0 : Cat.At _ g3 0 d q := ⟨Mem.of_get n, hin1⟩
  refine .r0 rfl rfl (.fillA rfl sz_27_D rfl rfl rfl rfl) ?_
  rintro _ j1 ⟨rfl, a9, l0⟩
  have nx_H1004 := a9.nx
  replace i := i.st a9 (fun k hk => ⟨by omega, trivial⟩)
  replace l9 := l9.sA a9
  have b0 : NE g2 g5 := .a
  replace m := a9.s m b0.ne
  have b7 : NE g3 g5 := .a
  replace n := a9.s n b7.ne
  have d7 : NE g4 g5 := .a
  replace i4 := a9.s i4 d7.ne
  replace aF := a9.s aF
  replace aT := a9.s aT
  have d9 : NE gI g5 := .a
  replace aI := a9.s aI d9.ne
  have h5 : NE gC g5 := .a
  replace aC := a9.s aC h5.ne
  replace hin := h.mono i
  replace hin1 := e.mono i
  clear w
  have w : Cat.At _ g2 0 c p := ⟨Mem.of_get m, hin⟩
  clear a0
  have a0 : Cat.At _ g3 0 d q := ⟨Mem.of_get n, hin1⟩
  refine .nil (t3 _ _ (.seq (fun K3 t7 => .region (.q rfl (.fieldAddr fo_27_1_B rfl) ?_))))
  refine .q rfl (.load on_24_B rfl (by first | assumption | exact Mem.of_get l0 1 _ rfl)) ?_
  refine .q rfl (.len sl_24_A rfl) (.mv rfl (.nil (t7 _ _ (.seq (fun K4 s1 => .seq (fun K5 s3 => .region (.mv rfl (.nil (s3 _ _ ?_)))))))))
  refine .block ?_
  refine .loopR (σ := Nat × List Int × List Int × Nat × Nat) [(2, some _), (3, some _), (4, some _), (5, some _), (6, some _)] (fun (x, ss, ts, gLF, gLT) => [(7, some (.int .i64 (x : Int)))]) (fun (x, ss, ts, gLF, gLT) H' => St [gF, gT, g5] j1 H' ∧ H'.get gLF = some (.row (ints ss) 2 true) ∧ PL gLF gF j1.next ∧ H'.get gLT = some (.row (ints ts) 2 true) ∧ PL gLT gT j1.next ∧ H'.get g5 = some (.row ([.int .i64 E.obj, .slice (some ⟨gLF, 0, none⟩) ss.length ss.length, .slice (some ⟨gLT, 0, none⟩) ts.length ts.length, .slice (some ⟨gI, 0, none⟩) E.idn.length E.idn.length, .slice (some ⟨gC, 0, none⟩) E.comp.length E.comp.length]) 27 true) ∧ gLF ≠ gLT ∧ gLF ≠ g5 ∧ gLT ≠ g5 ∧ ((x : Int) ≤ c.obj ∧ E.src.length ≤ ss.length ∧ ss.length ≤ 12 + 8 * x ∧ ts.length = ss.length) ∧ Bd 0 12 ss ∧ Bd 0 12 ts ∧ OwnL H.next H' 2 rr E.comp ∧ (∀ j, j < E.comp.length → rr j ≠ some ⟨gLF, 0, none⟩) ∧ ∀ j, j < E.comp.length → rr j ≠ some ⟨gLT, 0, none⟩) (fun (x, ss, ts, gLF, gLT) => (c.obj - x : Int).toNat) ((0, E.src, E.tgt, gF, gT)) ⟨rfl, rfl, rfl, rfl, rfl, trivial⟩ ⟨rfl, trivial⟩ ?_ ?_
  ·
   refine ⟨.refl _ _, by assumption, ⟨.inl rfl⟩, by assumption, ⟨.inl rfl⟩, by assumption, by omega, by omega, by omega, ?_⟩
   exact ⟨⟨by omega, by omega, by omega, by omega⟩, e4, e5, (i7.rows.st l9 (.cons i7.r1 (.nil _ _))).low (by omega), i7.r1, i7.r2⟩
  rintro ⟨x, ss, ts, gLF, gLT⟩ HL1 ⟨f2, v, d6, u, e0, l, ap1_0, l4, m5, hI⟩ KL1 o7
  refine .forget (fr' := [(7, some (.int .i64 (x : Int))), (2, some _), (3, some _), (4, some _), (5, some _), (6, some _)]) ⟨rfl, rfl, rfl, rfl, rfl, rfl, trivial⟩ ?_
  have ge_LF : H.next ≤ gLF := d6.ge (by omega) (by omega)
  have ge_LT : H.next ≤ gLT := e0.ge (by omega) (by omega)
  have nx_HL1 := f2.nx
  replace i := i.st f2 (fun k hk => ⟨by omega, by omega, by omega, trivial⟩)
  have i2 : NE g2 gF := .a
  have h6 : NE g2 gT := .a
  replace m := f2.same _ _ ⟨i2.ne, h6.ne, b0.ne, trivial⟩ m
  have i0 : NE g3 gF := .a
  have h2 : NE g3 gT := .a
  replace n := f2.same _ _ ⟨i0.ne, h2.ne, b7.ne, trivial⟩ n
  have h7 : NE g4 gF := .a
  have i1 : NE g4 gT := .a
  replace i4 := f2.same _ _ ⟨h7.ne, i1.ne, d7.ne, trivial⟩ i4
  replace aI := f2.same _ _ ⟨(by first | assumption | omega), (by first | assumption | omega), d9.ne, trivial⟩ aI
  replace aC := f2.same _ _ ⟨(by first | assumption | omega), (by first | assumption | omega), h5.ne, trivial⟩ aC
  have lt_at_LF := GHeap.ltg v
  have lt_at_LT := GHeap.ltg u
  have j0 := GHeap.ltg l
  replace hin := h.mono i
  replace hin1 := e.mono i
  clear w
  have w : Cat.At _ g2 0 c p := ⟨Mem.of_get m, hin⟩
  obtain ⟨m2, -, -, -, -, -, -, -, -⟩ := w.get
  clear a0
  have a0 : Cat.At _ g3 0 d q := ⟨Mem.of_get n, hin1⟩
  obtain ⟨⟨hx, hsm, t4, hts⟩, hS, hT, hR, m6, m7⟩ := hI
  refine .seq (fun K6 s6 => .seq (fun K7 t0 => .region (.mv rfl (.q rfl (.fieldAddr fo_27_0_B rfl) ?_))))
  refine .q rfl (.load on_2_A rfl (by first | assumption | exact Mem.of_get m 0 _ rfl)) ?_
  refine .q rfl (.cmp rfl rfl rfl) (.nil (t0 _ _ ?_))
  refine .cond rfl (fun p9 => ?_) (fun p9 => ?_)
  ·
   simp only [sps] at p9
   refine .skip ?_
   refine s6 _ _ (.seq (fun K8 s0 => ?_))
   refine .block ?_
   refine .seq (fun K9 s8 => .region (.mv rfl (.nil (s8 _ _ ?_))))
   refine .block ?_
   refine .loopR (σ := Nat × List Int × List Int × Nat × Nat) [(2, some _), (3, some _), (4, some _), (5, some _), (6, some _), (7, some _)] (fun (y, s2, t2, d0, d2) => [(8, some (.int .i64 (y : Int)))]) (fun (y, s2, t2, d0, d2) H' => St [gLF, gLT, g5] HL1 H' ∧ H'.get d0 = some (.row (ints s2) 2 true) ∧ PL d0 gLF HL1.next ∧ H'.get d2 = some (.row (ints t2) 2 true) ∧ PL d2 gLT HL1.next ∧ H'.get g5 = some (.row ([.int .i64 E.obj, .slice (some ⟨d0, 0, none⟩) s2.length s2.length, .slice (some ⟨d2, 0, none⟩) t2.length t2.length, .slice (some ⟨gI, 0, none⟩) E.idn.length E.idn.length, .slice (some ⟨gC, 0, none⟩) E.comp.length E.comp.length]) 27 true) ∧ d0 ≠ d2 ∧ d0 ≠ g5 ∧ d2 ≠ g5 ∧ ((y : Int) ≤ d.obj ∧ E.src.length ≤ s2.length ∧ s2.length ≤ 12 + 8 * x + y ∧ t2.length = s2.length) ∧ Bd 0 12 s2 ∧ Bd 0 12 t2 ∧ OwnL H.next H' 2 rr E.comp ∧ (∀ j, j < E.comp.length → rr j ≠ some ⟨d0, 0, none⟩) ∧ ∀ j, j < E.comp.length → rr j ≠ some ⟨d2, 0, none⟩) (fun (y, s2, t2, d0, d2) => (d.obj - y : Int).toNat) ((0, ss, ts, gLF, gLT)) ⟨rfl, rfl, rfl, rfl, rfl, rfl, trivial⟩ ⟨rfl, trivial⟩ ?_ ?_
   ·
    refine ⟨.refl _ _, by assumption, ⟨.inl rfl⟩, by assumption, ⟨.inl rfl⟩, by assumption, by omega, by omega, by omega, ?_⟩
    exact ⟨⟨by omega, by omega, by omega, by omega⟩, hS, hT, hR, m6, m7⟩
   rintro ⟨y, s2, t2, d0, d2⟩ HL2 ⟨c3, j2, g8, b9, g9, l, l6, m4, k5, hI⟩ KL2 o8
   refine .forget (fr' := [(8, some (.int .i64 (y : Int))), (2, some _), (3, some _), (4, some _), (5, some _), (6, some _), (7, some _)]) ⟨rfl, rfl, rfl, rfl, rfl, rfl, rfl, trivial⟩ ?_
   have ge_LF2 : H.next ≤ d0 := g8.ge (by omega) (by omega)
   have ge_LT2 : H.next ≤ d2 := g9.ge (by omega) (by omega)
   have nx_HL2 := c3.nx
   replace i := i.st c3 (fun k hk => ⟨by omega, by omega, by omega, trivial⟩)
   replace f2 := f2.st c3 (fun k hk ho => by simp only [out, and_true] at ho ⊢ <;> exact ⟨by first | exact ho | exact ho.1 | exact ho.2 | exact ho.2.1 | exact ho.2.2 | exact ho.2.2.1 | exact ho.2.2.2 | exact d6.ne (by first | exact ho | exact ho.1 | exact ho.2 | exact ho.2.1 | exact ho.2.2 | exact ho.2.2.1 | exact ho.2.2.2 | omega) (by omega) | omega, by first | exact ho | exact ho.1 | exact ho.2 | exact ho.2.1 | exact ho.2.2 | exact ho.2.2.1 | exact ho.2.2.2 | exact e0.ne (by first | exact ho | exact ho.1 | exact ho.2 | exact ho.2.1 | exact ho.2.2 | exact ho.2.2.1 | exact ho.2.2.2 | omega) (by omega) | omega, by first | exact ho | exact ho.1 | exact ho.2 | exact ho.2.1 | exact ho.2.2 | exact ho.2.2.1 | exact ho.2.2.2 | omega⟩)
   have f8 : NE g2 gLF := ⟨d6.ne i2.ne (by omega)⟩
   have g7 : NE g2 gLT := ⟨e0.ne h6.ne (by omega)⟩
   replace m := c3.same _ _ ⟨f8.ne, g7.ne, b0.ne, trivial⟩ m
   have f4 : NE g3 gLF := ⟨d6.ne i0.ne (by omega)⟩
   have f5 : NE g3 gLT := ⟨e0.ne h2.ne (by omega)⟩
   replace n := c3.same _ _ ⟨f4.ne, f5.ne, b7.ne, trivial⟩ n
   have lt_at_LT2 := GHeap.ltg b9
   have j0 := GHeap.ltg l
   replace hin := h.mono i
   replace hin1 := e.mono i
   clear w m2
   have w : Cat.At _ g2 0 c p := ⟨Mem.of_get m, hin⟩
   clear a0
   have a0 : Cat.At _ g3 0 d q := ⟨Mem.of_get n, hin1⟩
   obtain ⟨o9, -, -, -, -, -, -, -, -⟩ := a0.get
   have rk := St.refl [d0, d2, g5] HL2
   obtain ⟨⟨hy, hsm, t4, hts⟩, hS, hT, hR, m6, m7⟩ := hI
   have k9 := l
   refine .seq (fun K10 n9 => .seq (fun K11 p3 => .region (.mv rfl (.q rfl (.fieldAddr fo_27_0_B rfl) ?_))))
   refine .q rfl (.load on_2_A rfl (by first | assumption | exact Mem.of_get n 0 _ rfl)) ?_
   refine .q rfl (.cmp rfl rfl rfl) (.nil (p3 _ _ ?_))
   refine .cond rfl (fun q0 => ?_) (fun q0 => ?_)
   ·
    simp only [sps] at q0
    refine .skip ?_
    refine n9 _ _ (.seq (fun K12 p1 => ?_))
    refine .block ?_
    refine .seq (fun K13 p4 => .region (.q rfl (.fieldAddr fo_27_1_B rfl) ?_))
    refine .q rfl (.load on_24_B rfl (by first | assumption | exact Mem.of_get l 1 _ rfl)) ?_
    refine .mv rfl ?_
    refine .R rfl (.litA rfl sl_24_A ze_2_Pa rfl rfl rfl rfl) ?_
    rintro _ H35 ⟨g35, rfl, h1, ge35, o4⟩
    replace i := i.trans h1
    replace c3 := c3.le h1
    replace rk := rk.le h1
    replace m := h1.2 _ _ m
    replace n := h1.2 _ _ n
    replace j2 := h1.2 _ _ j2
    replace b9 := h1.2 _ _ b9
    replace l := h1.2 _ _ l
    have lt_at35 := GHeap.ltg o4
    replace hin := h.mono i
    replace hin1 := e.mono i
    clear w
    have w : Cat.At _ g2 0 c p := ⟨Mem.of_get m, hin⟩
    clear a0 o9
    have a0 : Cat.At _ g3 0 d q := ⟨Mem.of_get n, hin1⟩
    refine .R rfl (.appendI rfl sl_24_A ze_2_Pa rfl by_2_Pa sl_24_A rfl rfl (by assumption) (by assumption) (by first | omega | (simp <;> omega)) (by omega) (by omega)) ?_
    rintro _ H36 ⟨r8, rfl, i5, ge36, h0⟩
    replace i := i.st i5 (fun k hk => ⟨by omega, trivial⟩)
    replace c3 := c3.sQ i5
    replace rk := rk.sQ i5
    replace m := i5.same _ _ ⟨(g8.ne f8.ne (by omega)), trivial⟩ m
    replace n := i5.same _ _ ⟨(g8.ne f4.ne (by omega)), trivial⟩ n
    replace b9 := i5.same _ _ ⟨(Ne.symm l6), trivial⟩ b9
    replace l := i5.same _ _ ⟨(Ne.symm m4), trivial⟩ l
    have lt_at36 := GHeap.ltg h0
    replace hin := h.mono i
    replace hin1 := e.mono i
    clear w
    have w : Cat.At _ g2 0 c p := ⟨Mem.of_get m, hin⟩
    clear a0
    have a0 : Cat.At _ g3 0 d q := ⟨Mem.of_get n, hin1⟩
    refine .q rfl (.fieldAddr fo_27_1_B rfl) ?_
    refine .r0 rfl rfl (.storeR rfl sz_24_Ch rfl rfl rfl (by assumption) (by first | exact Nat.le_of_ble_eq_true rfl | (simp; done) | (simp <;> omega))) ?_
    rintro _ H9006 ⟨rfl, c5, c6⟩
    have nx_H9006 := c5.nx
    replace i := i.st c5 (fun k hk => ⟨by omega, trivial⟩)
    replace c3 := c3.sA c5
    replace rk := rk.sA c5
    replace m := c5.s m b0.ne
    replace n := c5.s n b7.ne
    replace b9 := c5.same _ _ ⟨k5, trivial⟩ b9
    have g1 : NE r8 g5 := .a
    replace h0 := c5.s h0 g1.ne
    have lt_at9006 := GHeap.ltg c6
    replace hin := h.mono i
    replace hin1 := e.mono i
    clear w
    have w : Cat.At _ g2 0 c p := ⟨Mem.of_get m, hin⟩
    obtain ⟨m2, -, -, -, -, -, -, -, -⟩ := w.get
    clear a0
    have a0 : Cat.At _ g3 0 d q := ⟨Mem.of_get n, hin1⟩
    try simp only [Nat.zero_add, List.set_cons_succ, List.set_cons_zero] at c6
    refine .nil (p4 _ _ (.region (.q rfl (.fieldAddr fo_27_2_B rfl) ?_)))
    refine .q rfl (.load on_24_B rfl (by first | assumption | exact Mem.of_get c6 2 _ rfl)) ?_
    refine .q rfl (.fieldAddr fo_27_0_B rfl) ?_
    refine .q rfl (.load on_2_A rfl (by first | assumption | exact Mem.of_get m 0 _ rfl)) ?_
    refine .mv rfl ?_
    refine .q rfl (.add rfl rfl rfl (by omega) (by omega)) ?_
    refine .R rfl (.litA rfl sl_24_A ze_2_Pa rfl rfl rfl rfl) ?_
    rintro _ H44 ⟨g44, rfl, h9, ge44, n0⟩
    replace i := i.trans h9
    replace c3 := c3.le h9
    replace rk := rk.le h9
    replace m := h9.2 _ _ m
    replace n := h9.2 _ _ n
    replace b9 := h9.2 _ _ b9
    replace h0 := h9.2 _ _ h0
    replace c6 := h9.2 _ _ c6
    have lt_at44 := GHeap.ltg n0
    replace hin := h.mono i
    replace hin1 := e.mono i
    clear w m2
    have w : Cat.At _ g2 0 c p := ⟨Mem.of_get m, hin⟩
    clear a0
    have a0 : Cat.At _ g3 0 d q := ⟨Mem.of_get n, hin1⟩
    refine .R rfl (.appendI rfl sl_24_A ze_2_Pa rfl by_2_Pa sl_24_A rfl rfl (by assumption) (by assumption) (by first | omega | (simp <;> omega)) (by omega) (by omega)) ?_
    rintro _ H45 ⟨t1, rfl, i6, ge45, m3⟩
    replace i := i.st i6 (fun k hk => ⟨by omega, trivial⟩)
    replace c3 := c3.sQ i6
    replace rk := rk.sQ i6
    replace m := i6.same _ _ ⟨(g9.ne g7.ne (by omega)), trivial⟩ m
    replace n := i6.same _ _ ⟨(g9.ne f5.ne (by omega)), trivial⟩ n
    replace h0 := i6.s h0
    replace c6 := i6.same _ _ ⟨(Ne.symm k5), trivial⟩ c6
    replace hin := h.mono i
    replace hin1 := e.mono i
    clear w
    have w : Cat.At _ g2 0 c p := ⟨Mem.of_get m, hin⟩
    clear a0
    have a0 : Cat.At _ g3 0 d q := ⟨Mem.of_get n, hin1⟩
    refine .q rfl (.fieldAddr fo_27_2_B rfl) ?_
    refine .r0 rfl rfl (.storeR rfl sz_24_Ch rfl rfl rfl (by assumption) (by first | exact Nat.le_of_ble_eq_true rfl | (simp; done) | (simp <;> omega))) ?_
    rintro _ H10009 ⟨rfl, c2, k3⟩
    replace i := i.st c2 (fun k hk => ⟨by omega, trivial⟩)
    replace c3 := c3.sA c2
    replace rk := rk.sA c2
    replace m := c2.s m b0.ne
    replace n := c2.s n b7.ne
    replace h0 := c2.s h0 g1.ne
    replace m3 := c2.s m3
    replace hin := h.mono i
    replace hin1 := e.mono i
    clear w
    have w : Cat.At _ g2 0 c p := ⟨Mem.of_get m, hin⟩
    clear a0
    have a0 : Cat.At _ g3 0 d q := ⟨Mem.of_get n, hin1⟩
    try simp only [Nat.zero_add, List.set_cons_succ, List.set_cons_zero] at k3
    refine .nil (p1 _ _ (.region (.mv rfl ?_)))
    refine .q rfl (.add rfl rfl rfl (by omega) (by omega)) ?_
    refine .mv rfl (.nil ?_)
    refine o8 ((y + 1, s2 ++ [(x : Int)], t2 ++ [c.obj + (y : Int)], r8, t1)) _ _ ?_ ?_ ⟨rfl, rfl, rfl, rfl, rfl, rfl, rfl, trivial⟩
    ·
     refine ⟨c3, by assumption, by exact ⟨.inr (by omega)⟩, by assumption, by exact ⟨.inr (by omega)⟩, by (rw [List.length_append, List.length_append]; assumption), by omega, by omega, by omega, ?_⟩
     have hR' := hR.st rk (.cons m6 (.cons m7 (.cons (hR.neT k9 rfl) (.nil _ _))))
     exact ⟨⟨by omega, by simp; omega, by simp; omega, by simp; omega⟩, hS.snoc (by omega) (by omega), hT.snoc (by omega) (by omega), hR', hR.ne (by omega), hR.ne (by omega)⟩
    (dsimp only; omega)
   try simp only [sps] at q0
   refine .exit ?_
   refine s0 _ _ (.region (.mv rfl ?_))
   refine .q rfl (.add rfl rfl rfl (by omega) (by omega)) ?_
   refine .mv rfl (.nil ?_)
   refine o7 ((x + 1, s2, t2, d0, d2)) _ _ ?_ ?_ ⟨rfl, rfl, rfl, rfl, rfl, rfl, trivial⟩
   ·
    refine ⟨f2, by assumption, by exact g8.trans d6 (by omega), by assumption, by exact g9.trans e0 (by omega), by assumption, by assumption, by assumption, by assumption, ?_⟩
    exact ⟨⟨by omega, by omega, by omega, by omega⟩, hS, hT, hR, m6, m7⟩
   (dsimp only; omega)
  try simp only [sps] at p9
  refine .exit ?_
  refine s1 _ _ (.seq (fun K14 p8 => .region ?_))
  have ltI := GHeap.ltg aI
  refine .R rfl (.litA rfl sl_25_B ze_24_Hj rfl rfl rfl rfl) ?_
  rintro _ q6 ⟨l3, rfl, f3, ge47, q7⟩
  have nx_H47 := f3.1
  replace i := i.trans f3
  replace m := f3.2 _ _ m
  replace n := f3.2 _ _ n
  replace i4 := f3.2 _ _ i4
  replace aI := f3.2 _ _ aI
  replace aC := f3.2 _ _ aC
  replace v := f3.2 _ _ v
  replace u := f3.2 _ _ u
  replace l := f3.2 _ _ l
  have lt_at47 := GHeap.ltg q7
  replace hin := h.mono i
  replace hin1 := e.mono i
  have w : Cat.At _ g2 0 c p := ⟨Mem.of_get m, hin⟩
  have a0 : Cat.At _ g3 0 d q := ⟨Mem.of_get n, hin1⟩
  refine .mv rfl (.nil (p8 _ _ (.seq (fun K15 m9 => .seq (fun K16 q2 => .region (.mv rfl (.nil (q2 _ _ ?_))))))))
  refine .block ?_
  refine .loopR (σ := Nat × (Nat → Option Addr) × List (List Int) × Nat × Nat) [(2, some _), (3, some _), (4, some _), (5, some _), (6, some _)] (fun (f, rq, cs, j3, k4) => [(10, some (.int .i64 (f : Int))), (9, some (.slice (some ⟨j3, 0, none⟩) k4 k4))]) (fun (f, rq, cs, j3, k4) H' => St [l3] q6 H' ∧ H'.get j3 = some (.row ((slsL rq cs)) 24 true) ∧ PL j3 l3 q6.next ∧ k4 = (slsL rq cs).length ∧ (f ≤ ss.length ∧ cs.length = f) ∧ Tb (-60) 120 ss.length cs ∧ OwnL H.next H' 2 rr E.comp ∧ OwnL q6.next H' 2 rq cs) (fun (f, rq, cs, j3, k4) => ss.length - f) ((0, fun _ => none, [], _, _)) ⟨rfl, rfl, rfl, rfl, rfl, trivial⟩ ⟨rfl, rfl, trivial⟩ ?_ ?_
  ·
   refine ⟨.refl _ _, by assumption, ⟨.inl rfl⟩, by rfl, ?_⟩
   exact ⟨⟨by omega, rfl⟩, .nil _ _ _, hR.keep (.of_le (by assumption)), .nil _ _ _ _⟩
  rintro ⟨f, rq, cs, j3, k4⟩ HL3 ⟨c0, b5, i3, l8, hI⟩ KL3 o1
  refine .forget (fr' := [(10, some (.int .i64 (f : Int))), (9, some (.slice (some ⟨j3, 0, none⟩) k4 k4)), (2, some _), (3, some _), (4, some _), (5, some _), (6, some _)]) ⟨rfl, rfl, rfl, rfl, rfl, rfl, rfl, trivial⟩ ?_
  have ge_L9 : H.next ≤ j3 := i3.ge (by omega) (by omega)
  have nx_HL3 := c0.nx
  replace i := i.st c0 (fun k hk => ⟨by omega, trivial⟩)
  have f6 : NE g2 l3 := .a
  replace m := c0.s m f6.ne
  have f7 : NE g3 l3 := .a
  replace n := c0.s n f7.ne
  have g6 : NE g4 l3 := .a
  replace i4 := c0.s i4 g6.ne
  replace aI := c0.s aI
  replace aC := c0.s aC
  replace v := c0.s v
  replace u := c0.s u
  have f9 : NE g5 l3 := .a
  replace l := c0.s l f9.ne
  have lt_at_L9 := GHeap.ltg b5
  replace hin := h.mono i
  replace hin1 := e.mono i
  clear w
  have w : Cat.At _ g2 0 c p := ⟨Mem.of_get m, hin⟩
  clear a0
  have a0 : Cat.At _ g3 0 d q := ⟨Mem.of_get n, hin1⟩
  have rk := St.refl [j3] HL3
  obtain ⟨⟨hf, hcl⟩, hC, hR, hQ⟩ := hI
  have k7 := b5
  have hfl : (slsL rq cs).length = cs.length := length_slsL _ _
  refine .seq (fun K17 p5 => .seq (fun K18 q9 => .region (.mv rfl (.q rfl (.fieldAddr fo_27_1_B rfl) ?_))))
  refine .q rfl (.load on_24_B rfl (by first | assumption | exact Mem.of_get l 1 _ rfl)) ?_
  refine .q rfl (.len sl_24_A rfl) (.q rfl (.cmp rfl rfl rfl) (.nil (q9 _ _ ?_)))
  refine .cond rfl (fun p0 => ?_) (fun p0 => ?_)
  ·
   simp only [sps] at p0
   have q1 := hS f (by omega)
   have m1 := mul_bdg (a := ss.getD f 0) (b := d.obj) (A := 12) (B := 8) (by omega) (by omega)
   refine .skip ?_
   refine p5 _ _ (.seq (fun K19 q5 => ?_))
   refine .block ?_
   refine .seq (fun K20 p6 => .region ?_)
   refine .R rfl (.litA rfl sl_24_A ze_2_Pa rfl rfl rfl rfl) ?_
   rintro _ o2 ⟨l2, rfl, f1, ge55, k6⟩
   have nx_H55 := f1.1
   replace i := i.trans f1
   replace c0 := c0.le f1
   replace rk := rk.le f1
   replace m := f1.2 _ _ m
   replace n := f1.2 _ _ n
   replace aC := f1.2 _ _ aC
   replace v := f1.2 _ _ v
   replace u := f1.2 _ _ u
   replace l := f1.2 _ _ l
   replace b5 := f1.2 _ _ b5
   have lt_at55 := GHeap.ltg k6
   replace hin := h.mono i
   replace hin1 := e.mono i
   clear w
   have w : Cat.At _ g2 0 c p := ⟨Mem.of_get m, hin⟩
   clear a0
   have a0 : Cat.At _ g3 0 d q := ⟨Mem.of_get n, hin1⟩
   replace k6 : GHeap.get o2 l2 = some (.row (ints []) 2 true) := k6
   refine .mv rfl (.nil (p6 _ _ (.seq (fun K21 n7 => .seq (fun K22 o6 => .region (.mv rfl (.nil (o6 _ _ ?_))))))))
   refine .block ?_
   refine .loopR (σ := Nat × List Int × Nat × Nat) [(2, some _), (3, some _), (4, some _), (5, some _), (6, some _), (9, some _), (10, some _)] (fun (g, row, c4, h4) => [(12, some (.int .i64 (g : Int))), (11, some (.slice (some ⟨c4, 0, none⟩) h4 h4))]) (fun (g, row, c4, h4) H' => St [l2] o2 H' ∧ H'.get c4 = some (.row (ints row) 2 true) ∧ PL c4 l2 o2.next ∧ h4 = row.length ∧ (g ≤ ss.length ∧ row.length = g) ∧ Bd (-60) 120 row) (fun (g, row, c4, h4) => ss.length - g) ((0, [], _, _)) ⟨rfl, rfl, rfl, rfl, rfl, rfl, rfl, trivial⟩ ⟨rfl, rfl, trivial⟩ ?_ ?_
   ·
    refine ⟨.refl _ _, by assumption, ⟨.inl rfl⟩, by rfl, ?_⟩
    exact ⟨⟨by omega, rfl⟩, .nil _ _⟩
   rintro ⟨g, row, c4, h4⟩ HL4 ⟨r, a5, a6, l1, hI⟩ KL4 k2
   refine .forget (fr' := [(12, some (.int .i64 (g : Int))), (11, some (.slice (some ⟨c4, 0, none⟩) h4 h4)), (2, some _), (3, some _), (4, some _), (5, some _), (6, some _), (9, some _), (10, some _)]) ⟨rfl, rfl, rfl, rfl, rfl, rfl, rfl, rfl, rfl, trivial⟩ ?_
   have ge_L11 : H.next ≤ c4 := a6.ge (by omega) (by omega)
   have nx_HL4 := r.nx
   replace i := i.st r (fun k hk => ⟨by omega, trivial⟩)
   replace c0 := c0.sA r
   replace rk := rk.sA r
   have b6 : NE g2 l2 := .a
   replace m := r.s m b6.ne
   have b8 : NE g3 l2 := .a
   replace n := r.s n b8.ne
   replace aC := r.s aC
   replace v := r.s v
   replace u := r.s u
   replace l := r.s l
   have d8 : NE j3 l2 := .a
   replace b5 := r.s b5 d8.ne
   replace hin := h.mono i
   replace hin1 := e.mono i
   clear w
   have w : Cat.At _ g2 0 c p := ⟨Mem.of_get m, hin⟩
   obtain ⟨m2, -, -, -, -, -, -, -, -⟩ := w.get
   clear a0
   have a0 : Cat.At _ g3 0 d q := ⟨Mem.of_get n, hin1⟩
   obtain ⟨o9, -, -, -, -, -, -, -, -⟩ := a0.get
   obtain ⟨⟨hg, hrl⟩, hW⟩ := hI
   refine .seq (fun K23 o3 => .seq (fun K24 o0 => .region (.mv rfl (.q rfl (.fieldAddr fo_27_1_B rfl) ?_))))
   refine .q rfl (.load on_24_B rfl (by first | assumption | exact Mem.of_get l 1 _ rfl)) ?_
   refine .q rfl (.len sl_24_A rfl) (.q rfl (.cmp rfl rfl rfl) (.nil (o0 _ _ ?_)))
   refine .cond rfl (fun q3 => ?_) (fun q3 => ?_)
   ·
    simp only [sps] at q3
    have q4 := hT g (by omega)
    refine .skip ?_
    refine o3 _ _ (.seq (fun K25 j5 => ?_))
    refine .block ?_
    refine .seq (fun K26 q8 => .region (.mv rfl (.nil (q8 _ _ (.seq (fun K27 j9 => ?_))))))
    refine .block ?_
    refine .seq (fun K28 o5 => ?_)
    refine .regionD mo_B (.q 0 (.q 1 (.q 2 (.q 3 (.q 4 (.q 5 (.q 6 (.q 7 (.q 8 (.q 9 (.q 10 (.q 11 (.done))))))))))))) (by kernel_rfl) ?_
    refine .q rfl (.fieldAddr fo_27_2_B rfl) ?_
    refine .q rfl (.load on_24_B rfl (by first | assumption | exact Mem.of_get l 2 _ rfl)) ?_
    refine .mv rfl rfl ?_
    refine .q rfl (.idxN sl_24_A (by first | assumption | exact SlA.of_row u (by first | rfl | (simp; done) | (simp <;> omega))) rfl rfl (by omega)) ?_
    refine .q rfl (.loadI on_2_A (by first | assumption | exact Ints.of_get u) rfl (by omega)) ?_
    refine .q rfl (.fieldAddr fo_27_1_B rfl) ?_
    refine .q rfl (.load on_24_B rfl (by first | assumption | exact Mem.of_get l 1 _ rfl)) ?_
    refine .mv rfl rfl ?_
    refine .q rfl (.idxN sl_24_A (by first | assumption | exact SlA.of_row v (by first | rfl | (simp; done) | (simp <;> omega))) rfl rfl (by omega)) ?_
    refine .q rfl (.loadI on_2_A (by first | assumption | exact Ints.of_get v) rfl (by omega)) ?_
    refine .q rfl (.cmp rfl rfl rfl) (.mv rfl rfl ?_)
    refine .done ?_
    refine o5 _ _ ?_
    refine .cond rfl (fun r7 => ?_) (fun r7 => ?_)
    ·
     obtain ⟨h3, k8, n3⟩ : ∃ h3 : Int, h3 = -1 ∧ -60 ≤ h3 ∧ h3 ≤ 120 := ⟨_, rfl, by omega, by omega⟩
     refine .skip ?_
     refine j9 _ _ (.region (.mv rfl (.mv rfl ?_)))
     refine .R rfl (.litA rfl sl_24_A ze_2_Pa rfl rfl rfl rfl) ?_
     rintro _ H113 ⟨g113, rfl, h8, ge113, m0⟩
     replace i := i.trans h8
     replace r := r.le h8
     replace m := h8.2 _ _ m
     replace n := h8.2 _ _ n
     replace a5 := h8.2 _ _ a5
     have lt_at113 := GHeap.ltg m0
     replace hin := h.mono i
     replace hin1 := e.mono i
     clear w m2
     have w : Cat.At _ g2 0 c p := ⟨Mem.of_get m, hin⟩
     clear a0 o9
     have a0 : Cat.At _ g3 0 d q := ⟨Mem.of_get n, hin1⟩
     refine .R rfl (.appendI rfl sl_24_A ze_2_Pa rfl by_2_Pa sl_24_A rfl rfl (by assumption) (by assumption) (by first | omega | (simp <;> omega)) (by omega) (by omega)) ?_
     rintro _ H114 ⟨g114, rfl, i8, ge114, at114⟩
     replace i := i.st i8 (fun k hk => ⟨by omega, trivial⟩)
     replace r := r.sP i8
     have o : NE g2 c4 := ⟨a6.ne b6.ne (by omega)⟩
     replace m := i8.s m o.ne
     have t : NE g3 c4 := ⟨a6.ne b8.ne (by omega)⟩
     replace n := i8.s n t.ne
     replace hin := h.mono i
     replace hin1 := e.mono i
     clear w
     have w : Cat.At _ g2 0 c p := ⟨Mem.of_get m, hin⟩
     clear a0
     have a0 : Cat.At _ g3 0 d q := ⟨Mem.of_get n, hin1⟩
     refine .mv rfl (.nil (j5 _ _ (.region (.mv rfl ?_))))
     refine .q rfl (.add rfl rfl rfl (by omega) (by omega)) ?_
     refine .mv rfl (.nil ?_)
     refine k2 ((g + 1, row ++ [h3], _, _)) _ _ ?_ ?_ ⟨rfl, rfl, rfl, rfl, rfl, rfl, rfl, rfl, rfl, trivial⟩
     ·
      refine ⟨r, by (rw [k8]; assumption), by exact ⟨.inr (by omega)⟩, by (simp only [List.length_append, List.length_cons, List.length_nil] <;> omega), ?_⟩
      exact ⟨⟨by omega, by simp; omega⟩, hW.snoc (by omega) (by omega)⟩
     (dsimp only; omega)
    try simp only [sps] at r7
    refine .seq (fun K29 l7 => .region (.mv rfl (.mv rfl (.q rfl (.cmp rfl rfl rfl) (.mv rfl ?_)))))
    refine .split (fun r9 => ?_) (fun r9 => ?_)
    ·
     simp only [sps] at r9
     refine .qg rfl (.move rfl) (.qg rfl (.move rfl) (.qg rfl (.cmp rfl rfl rfl) (.q rfl (.pickT rfl rfl) (.mv rfl (.nil (l7 _ _ ?_))))))
     refine .cond rfl (fun r4 => ?_) (fun r4 => ?_)
     ·
      simp only [sps] at r4
      have n1 := s5 f (by omega) g (by omega)
      have n2 := e9 f (by omega)
      obtain ⟨h3, k8, n3⟩ : ∃ h3 : Int, h3 = (E.comp.getD f []).getD g 0 ∧ -60 ≤ h3 ∧ h3 ≤ 120 := ⟨_, rfl, by omega, by omega⟩
      refine .region ?_
      have iE := (hR.st rk (.cons (hR.neT k7 rfl) (.nil _ _))).intss aC (by omega)
      have u1 := iE.2 f (by omega)
      refine .q rfl (.fieldAddr fo_27_4_B rfl) ?_
      refine .q rfl (.load on_25_B rfl (by first | assumption | exact Mem.of_get l 4 _ rfl)) ?_
      refine .mv rfl ?_
      refine .q rfl (.idxN sl_25_B (by first | exact (Intss.sl (by assumption)) | exact SlA.of_row aC (by first | rfl | (simp; done) | (simp <;> omega))) rfl rfl (by omega)) ?_
      refine .q rfl (.loadR on_24_B (by assumption) rfl (by omega)) ?_
      refine .mv rfl ?_
      refine .q rfl (.idxN sl_24_A (by assumption) rfl rfl (by omega)) ?_
      refine .q rfl (.loadI on_2_A (by assumption) rfl (by omega)) ?_
      refine .mv rfl (.nil (j9 _ _ (.region (.mv rfl (.mv rfl ?_)))))
      refine .R rfl (.litA rfl sl_24_A ze_2_Pa rfl rfl rfl rfl) ?_
      rintro _ H113x2 ⟨g113x2, rfl, c7, ge113x2, j8⟩
      replace i := i.trans c7
      replace r := r.le c7
      replace m := c7.2 _ _ m
      replace n := c7.2 _ _ n
      replace a5 := c7.2 _ _ a5
      have lt_at113x2 := GHeap.ltg j8
      replace hin := h.mono i
      replace hin1 := e.mono i
      have w : Cat.At _ g2 0 c p := ⟨Mem.of_get m, hin⟩
      have a0 : Cat.At _ g3 0 d q := ⟨Mem.of_get n, hin1⟩
      refine .R rfl (.appendI rfl sl_24_A ze_2_Pa rfl by_2_Pa sl_24_A rfl rfl (by assumption) (by assumption) (by first | omega | (simp <;> omega)) (by omega) (by omega)) ?_
      rintro _ H114x2 ⟨g114x2, rfl, d3, ge114x2, at114x2⟩
      replace i := i.st d3 (fun k hk => ⟨by omega, trivial⟩)
      replace r := r.sP d3
      have o : NE g2 c4 := ⟨a6.ne b6.ne (by omega)⟩
      replace m := d3.s m o.ne
      have t : NE g3 c4 := ⟨a6.ne b8.ne (by omega)⟩
      replace n := d3.s n t.ne
      replace hin := h.mono i
      replace hin1 := e.mono i
      clear w
      have w : Cat.At _ g2 0 c p := ⟨Mem.of_get m, hin⟩
      clear a0
      have a0 : Cat.At _ g3 0 d q := ⟨Mem.of_get n, hin1⟩
      refine .mv rfl (.nil (j5 _ _ (.region (.mv rfl ?_))))
      refine .q rfl (.add rfl rfl rfl (by omega) (by omega)) ?_
      refine .mv rfl (.nil ?_)
      refine k2 ((g + 1, row ++ [h3], _, _)) _ _ ?_ ?_ ⟨rfl, rfl, rfl, rfl, rfl, rfl, rfl, rfl, rfl, trivial⟩
      ·
       refine ⟨r, by (rw [k8]; assumption), by exact ⟨.inr (by omega)⟩, by (simp only [List.length_append, List.length_cons, List.length_nil] <;> omega), ?_⟩
       exact ⟨⟨by omega, by simp; omega⟩, hW.snoc (by omega) (by omega)⟩
      (dsimp only; omega)
     obtain ⟨h3, k8, n3⟩ : ∃ h3 : Int, h3 = (E.src.length : Int) + ss.getD f 0 * d.obj + ts.getD g 0 - c.obj ∧ -60 ≤ h3 ∧ h3 ≤ 120 := ⟨_, rfl, by omega, by omega⟩
     refine .regionD mo_B (.q 0 (.q 1 (.q 2 (.q 3 (.q 4 (.q 5 (.q 6 (.q 7 (.q 8 (.q 9 (.q 10 (.q 11 (.q 12 (.q 13 (.q 14 (.q 15 (.q 16 (.q 17 (.q 18 (.q 19 (.done))))))))))))))))))))) (by kernel_rfl) ?_
     refine .mv rfl rfl (.q rfl (.fieldAddr fo_27_1_B rfl) ?_)
     refine .q rfl (.load on_24_B rfl (by first | assumption | exact Mem.of_get l 1 _ rfl)) ?_
     refine .mv rfl rfl ?_
     refine .q rfl (.idxN sl_24_A (by first | assumption | exact SlA.of_row v (by first | rfl | (simp; done) | (simp <;> omega))) rfl rfl (by omega)) ?_
     refine .q rfl (.loadI on_2_A (by first | assumption | exact Ints.of_get v) rfl (by omega)) ?_
     refine .q rfl (.fieldAddr fo_27_0_B rfl) ?_
     refine .q rfl (.load on_2_A rfl (by first | assumption | exact Mem.of_get n 0 _ rfl)) ?_
     refine .q rfl (.mul rfl rfl rfl (by omega) (by omega)) ?_
     refine .q rfl (.add rfl rfl rfl (by omega) (by omega)) ?_
     refine .q rfl (.fieldAddr fo_27_2_B rfl) ?_
     refine .q rfl (.load on_24_B rfl (by first | assumption | exact Mem.of_get l 2 _ rfl)) ?_
     refine .mv rfl rfl ?_
     refine .q rfl (.idxN sl_24_A (by first | assumption | exact SlA.of_row u (by first | rfl | (simp; done) | (simp <;> omega))) rfl rfl (by omega)) ?_
     refine .q rfl (.loadI on_2_A (by first | assumption | exact Ints.of_get u) rfl (by omega)) ?_
     refine .q rfl (.add rfl rfl rfl (by omega) (by omega)) ?_
     refine .q rfl (.fieldAddr fo_27_0_B rfl) ?_
     refine .q rfl (.load on_2_A rfl (by first | assumption | exact Mem.of_get m 0 _ rfl)) ?_
     refine .q rfl (.sub rfl rfl rfl (by omega) (by omega)) ?_
     refine .mv rfl rfl ?_
     refine .done ?_
     refine j9 _ _ (.region (.mv rfl (.mv rfl ?_)))
     refine .R rfl (.litA rfl sl_24_A ze_2_Pa rfl rfl rfl rfl) ?_
     rintro _ H113x3 ⟨g113x3, rfl, c8, ge113x3, j6⟩
     replace i := i.trans c8
     replace r := r.le c8
     replace m := c8.2 _ _ m
     replace n := c8.2 _ _ n
     replace a5 := c8.2 _ _ a5
     have lt_at113x3 := GHeap.ltg j6
     replace hin := h.mono i
     replace hin1 := e.mono i
     have w : Cat.At _ g2 0 c p := ⟨Mem.of_get m, hin⟩
     have a0 : Cat.At _ g3 0 d q := ⟨Mem.of_get n, hin1⟩
     refine .R rfl (.appendI rfl sl_24_A ze_2_Pa rfl by_2_Pa sl_24_A rfl rfl (by assumption) (by assumption) (by first | omega | (simp <;> omega)) (by omega) (by omega)) ?_
     rintro _ H114x3 ⟨g114x3, rfl, d4, ge114x3, at114x3⟩
     replace i := i.st d4 (fun k hk => ⟨by omega, trivial⟩)
     replace r := r.sP d4
     have o : NE g2 c4 := ⟨a6.ne b6.ne (by omega)⟩
     replace m := d4.s m o.ne
     have t : NE g3 c4 := ⟨a6.ne b8.ne (by omega)⟩
     replace n := d4.s n t.ne
     replace hin := h.mono i
     replace hin1 := e.mono i
     clear w
     have w : Cat.At _ g2 0 c p := ⟨Mem.of_get m, hin⟩
     clear a0
     have a0 : Cat.At _ g3 0 d q := ⟨Mem.of_get n, hin1⟩
     refine .mv rfl (.nil (j5 _ _ (.region (.mv rfl ?_))))
     refine .q rfl (.add rfl rfl rfl (by omega) (by omega)) ?_
     refine .mv rfl (.nil ?_)
     refine k2 ((g + 1, row ++ [h3], _, _)) _ _ ?_ ?_ ⟨rfl, rfl, rfl, rfl, rfl, rfl, rfl, rfl, rfl, trivial⟩
     ·
      refine ⟨r, by (rw [k8]; assumption), by exact ⟨.inr (by omega)⟩, by (simp only [List.length_append, List.length_cons, List.length_nil] <;> omega), ?_⟩
      exact ⟨⟨by omega, by simp; omega⟩, hW.snoc (by omega) (by omega)⟩
     (dsimp only; omega)
    obtain ⟨h3, k8, n3⟩ : ∃ h3 : Int, h3 = (E.src.length : Int) + ss.getD f 0 * d.obj + ts.getD g 0 - c.obj ∧ -60 ≤ h3 ∧ h3 ≤ 120 := ⟨_, rfl, by omega, by omega⟩
    refine .z rfl (.z rfl (.z rfl (.q rfl (.pickF rfl rfl) (.mv rfl (.nil (l7 _ _ ?_))))))
    refine .condF rfl ?_
    refine .regionD mo_B (.q 0 (.q 1 (.q 2 (.q 3 (.q 4 (.q 5 (.q 6 (.q 7 (.q 8 (.q 9 (.q 10 (.q 11 (.q 12 (.q 13 (.q 14 (.q 15 (.q 16 (.q 17 (.q 18 (.q 19 (.done))))))))))))))))))))) (by kernel_rfl) ?_
    refine .mv rfl rfl (.q rfl (.fieldAddr fo_27_1_B rfl) ?_)
    refine .q rfl (.load on_24_B rfl (by first | assumption | exact Mem.of_get l 1 _ rfl)) ?_
    refine .mv rfl rfl ?_
    refine .q rfl (.idxN sl_24_A (by first | assumption | exact SlA.of_row v (by first | rfl | (simp; done) | (simp <;> omega))) rfl rfl (by omega)) ?_
    refine .q rfl (.loadI on_2_A (by first | assumption | exact Ints.of_get v) rfl (by omega)) ?_
    refine .q rfl (.fieldAddr fo_27_0_B rfl) ?_
    refine .q rfl (.load on_2_A rfl (by first | assumption | exact Mem.of_get n 0 _ rfl)) ?_
    refine .q rfl (.mul rfl rfl rfl (by omega) (by omega)) ?_
    refine .q rfl (.add rfl rfl rfl (by omega) (by omega)) ?_
    refine .q rfl (.fieldAddr fo_27_2_B rfl) ?_
    refine .q rfl (.load on_24_B rfl (by first | assumption | exact Mem.of_get l 2 _ rfl)) ?_
    refine .mv rfl rfl ?_
    refine .q rfl (.idxN sl_24_A (by first | assumption | exact SlA.of_row u (by first | rfl | (simp; done) | (simp <;> omega))) rfl rfl (by omega)) ?_
    refine .q rfl (.loadI on_2_A (by first | assumption | exact Ints.of_get u) rfl (by omega)) ?_
    refine .q rfl (.add rfl rfl rfl (by omega) (by omega)) ?_
    refine .q rfl (.fieldAddr fo_27_0_B rfl) ?_
    refine .q rfl (.load on_2_A rfl (by first | assumption | exact Mem.of_get m 0 _ rfl)) ?_
    refine .q rfl (.sub rfl rfl rfl (by omega) (by omega)) ?_
    refine .mv rfl rfl ?_
    refine .done ?_
    refine j9 _ _ (.region (.mv rfl (.mv rfl ?_)))
    refine .R rfl (.litA rfl sl_24_A ze_2_Pa rfl rfl rfl rfl) ?_
    rintro _ H113x4 ⟨g113x4, rfl, c9, ge113x4, j7⟩
    replace i := i.trans c9
    replace r := r.le c9
    replace m := c9.2 _ _ m
    replace n := c9.2 _ _ n
    replace a5 := c9.2 _ _ a5
    have lt_at113x4 := GHeap.ltg j7
    replace hin := h.mono i
    replace hin1 := e.mono i
    have w : Cat.At _ g2 0 c p := ⟨Mem.of_get m, hin⟩
    have a0 : Cat.At _ g3 0 d q := ⟨Mem.of_get n, hin1⟩
    refine .R rfl (.appendI rfl sl_24_A ze_2_Pa rfl by_2_Pa sl_24_A rfl rfl (by assumption) (by assumption) (by first | omega | (simp <;> omega)) (by omega) (by omega)) ?_
    rintro _ H114x4 ⟨g114x4, rfl, d5, ge114x4, at114x4⟩
    replace i := i.st d5 (fun k hk => ⟨by omega, trivial⟩)
    replace r := r.sP d5
    have o : NE g2 c4 := ⟨a6.ne b6.ne (by omega)⟩
    replace m := d5.s m o.ne
    have t : NE g3 c4 := ⟨a6.ne b8.ne (by omega)⟩
    replace n := d5.s n t.ne
    replace hin := h.mono i
    replace hin1 := e.mono i
    clear w
    have w : Cat.At _ g2 0 c p := ⟨Mem.of_get m, hin⟩
    clear a0
    have a0 : Cat.At _ g3 0 d q := ⟨Mem.of_get n, hin1⟩
    refine .mv rfl (.nil (j5 _ _ (.region (.mv rfl ?_))))
    refine .q rfl (.add rfl rfl rfl (by omega) (by omega)) ?_
    refine .mv rfl (.nil ?_)
    refine k2 ((g + 1, row ++ [h3], _, _)) _ _ ?_ ?_ ⟨rfl, rfl, rfl, rfl, rfl, rfl, rfl, rfl, rfl, trivial⟩
    ·
     refine ⟨r, by (rw [k8]; assumption), by exact ⟨.inr (by omega)⟩, by (simp only [List.length_append, List.length_cons, List.length_nil] <;> omega), ?_⟩
     exact ⟨⟨by omega, by simp; omega⟩, hW.snoc (by omega) (by omega)⟩
    (dsimp only; omega)
   try simp only [sps] at q3
   refine .exit ?_
   refine n7 _ _ (.region ?_)
   obtain rfl : g = ss.length := by omega
   obtain rfl := l1
   refine .mv rfl (.mv rfl ?_)
   refine .R rfl (.litA rfl sl_25_B ze_24_Hj rfl rfl rfl rfl) ?_
   rintro _ H117 ⟨g117, rfl, f0, ge117, l5⟩
   replace i := i.trans f0
   replace c0 := c0.le f0
   replace rk := rk.le f0
   replace m := f0.2 _ _ m
   replace n := f0.2 _ _ n
   replace b5 := f0.2 _ _ b5
   replace a5 := f0.2 _ _ a5
   have lt_at117 := GHeap.ltg l5
   replace hin := h.mono i
   replace hin1 := e.mono i
   have w : Cat.At _ g2 0 c p := ⟨Mem.of_get m, hin⟩
   have a0 : Cat.At _ g3 0 d q := ⟨Mem.of_get n, hin1⟩
   refine .R rfl (.appendV rfl sl_25_B ze_24_Hj rfl by_24_Hj sl_25_B rfl rfl (by assumption) (by assumption) (by first | omega | (simp <;> omega)) rfl rfl (by omega) (by omega)) ?_
   rintro _ H118 ⟨g118, rfl, g0, ge118, at118⟩
   replace i := i.st g0 (fun k hk => ⟨by omega, trivial⟩)
   replace c0 := c0.sP g0
   replace rk := rk.sP g0
   replace m := g0.same _ _ ⟨(i3.ne f6.ne (by omega)), trivial⟩ m
   replace n := g0.same _ _ ⟨(i3.ne f7.ne (by omega)), trivial⟩ n
   replace a5 := g0.same _ _ ⟨(Ne.symm (a6.ne d8.ne (by omega))), trivial⟩ a5
   replace hin := h.mono i
   replace hin1 := e.mono i
   clear w
   have w : Cat.At _ g2 0 c p := ⟨Mem.of_get m, hin⟩
   clear a0
   have a0 : Cat.At _ g3 0 d q := ⟨Mem.of_get n, hin1⟩
   refine .mv rfl (.nil (q5 _ _ (.region (.mv rfl ?_))))
   refine .q rfl (.add rfl rfl rfl (by omega) (by omega)) ?_
   refine .mv rfl (.nil ?_)
   refine o1 ((f + 1, upd rq cs.length (some ⟨c4, 0, none⟩), cs ++ [row], _, _)) _ _ ?_ ?_ ⟨rfl, rfl, rfl, rfl, rfl, rfl, rfl, trivial⟩
   ·
    refine ⟨c0, by (rw [slsL_snoc]; assumption), by exact ⟨.inr (by omega)⟩, by (rw [slsL_snoc] <;> (first | omega | (simp only [List.length_append, List.length_cons, List.length_nil] <;> omega))), ?_⟩
    have hR' := hR.st rk (.cons (hR.neT k7 rfl) (.nil _ _))
    have hQ' := hQ.st rk (.cons (hQ.neT k7 rfl) (.nil _ _))
    exact ⟨⟨by omega, by simp; omega⟩, hC.snoc (by omega) hW, hR', hQ'.snoc2 (by assumption) (hQ.ne (a6.ge (by omega) (by omega))) (a6.ge (by omega) (by omega))⟩
   (dsimp only; omega)
  try simp only [sps] at p0
  refine .exit ?_
  refine m9 _ _ (.seq (fun K30 p7 => .region ?_))
  obtain rfl : f = ss.length := by omega
  have k9 := l
  refine .mv rfl (.q rfl (.fieldAddr fo_27_4_B rfl) ?_)
  refine .r0 rfl rfl (.storeR rfl sz_25_Ch rfl rfl rfl (by assumption) (by first | exact Nat.le_of_ble_eq_true rfl | (simp; done) | (simp <;> omega))) ?_
  rintro _ H26002 ⟨rfl, a7, i9⟩
  replace i := i.st a7 (fun k hk => ⟨by omega, trivial⟩)
  replace m := a7.s m b0.ne
  replace n := a7.s n b7.ne
  replace i4 := a7.s i4 d7.ne
  replace aI := a7.s aI d9.ne
  replace v := a7.same _ _ ⟨l4, trivial⟩ v
  replace u := a7.same _ _ ⟨m5, trivial⟩ u
  replace b5 := a7.same _ _ ⟨(Ne.symm (i3.ne f9.ne (by omega))), trivial⟩ b5
  replace hin := h.mono i
  replace hin1 := e.mono i
  have w : Cat.At _ g2 0 c p := ⟨Mem.of_get m, hin⟩
  have a0 : Cat.At _ g3 0 d q := ⟨Mem.of_get n, hin1⟩
  try simp only [Nat.zero_add, List.set_cons_succ, List.set_cons_zero] at i9
  refine .nil (p7 _ _ (.seq (fun K31 p2 => .region ?_)))
  have r3 := i4
  refine .q rfl (.loadM ag_27_D rfl ⟨rfl, Mem.of_get i9⟩) ?_
  refine .r0 rfl rfl (.fillA rfl sz_27_D rfl rfl rfl rfl) ?_
  rintro _ H27001 ⟨rfl, a8, k0⟩
  replace i := i.st a8 (fun k hk => ⟨by omega, trivial⟩)
  replace m := a8.s m
  replace n := a8.s n
  replace aI := a8.s aI
  replace v := a8.same _ _ ⟨(Ne.symm (d6.ne h7.ne (by omega))), trivial⟩ v
  replace u := a8.same _ _ ⟨(Ne.symm (e0.ne i1.ne (by omega))), trivial⟩ u
  replace b5 := a8.same _ _ ⟨(Ne.symm (i3.ne g6.ne (by omega))), trivial⟩ b5
  replace hin := h.mono i
  replace hin1 := e.mono i
  clear w
  have w : Cat.At _ g2 0 c p := ⟨Mem.of_get m, hin⟩
  clear a0
  have a0 : Cat.At _ g3 0 d q := ⟨Mem.of_get n, hin1⟩
  refine .nil (p2 _ _ ?_)
  refine .ret ?_
  refine n8 _ _ ?_
  refine ⟨_, _, _, _, rfl, ag_27_D, (by rfl), (Mem.of_get k0), ?_⟩
  have hx4 : gLF ≠ gI := d6.ne' (by omega) (by omega)
  have hx5 : gLT ≠ gI := e0.ne' (by omega) (by omega)
  have r5 := hQ.st a7 (.cons (hQ.neT k9 rfl) (.nil _ _))
  have s4 := r5.st a8 (.cons (r5.neT r3 rfl) (.nil _ _))
  exact ⟨⟨E.obj, ss, ts, E.idn, cs⟩, rect_mk (by omega) (by omega) hts (hS.mono (by omega) (by omega)) (hT.mono (by omega) (by omega)) e6 (Bd.mono (show Bd 0 12 E.idn from e7) (by omega) (by omega)) (by omega) (hC.mono (by omega) (by omega)), i, gLF, gLT, gI, j3, rq, by simp [Cat.cells, ownP, l8], ⟨v, u, aI, b5, by omega, by omega, by omega, by omega, by omega, by omega, by omega, s4.low (by omega), hQ.lowNe (by omega), hQ.lowNe (by omega), hQ.lowNe (by omega)⟩⟩
end Go.Proofs.Ytfanjkbaemhbmaa
namespace Go.Proofs.Ytfanjkbaemhbmaa
open Go Go.GL Go.RowKit Go.Proofs
set_option maxHeartbeats 8000000 in
theorem l02Monoid_c {gS : Nat} {H : GHeap} (hs : DSrc 86 H gS := by assumption) :
    GCalls Try.prog 123 [.pointer (some ⟨gS, 0, none⟩)] H (NewTab 86 gS H) := by
  refine GCalls.body (N := 48) (rs := [.tmp 2]) Try.func123 rfl rfl rfl rfl (fun Qx e hend => ?_)
  refine .fg [0] rfl ?_
  have a := St.refl [gS] H
  refine .seq (fun K1 i0 => .region (.mv rfl (.nil (i0 _ _ (.seq (fun K2 i2 => .seq (fun K3 i3 => .region (.mv rfl ?_))))))))
  refine .call rfl rfl rfl rfl @Try.call30 rfl (l01Next_c) ?_
  rintro _ H4 ⟨k4, rfl, ka4, kb4, kc4, g5, hs⟩
  have nx_H4 := g5.nx
  replace a := a.sA g5
  refine .nil (i3 _ _ ?_)
  refine .block ?_
  refine .seq (fun K4 h3 => .region (.q rfl (.cmp rfl rfl rfl) (.mv rfl (.nil (h3 _ _ ?_)))))
  refine .cond rfl (fun h5 => ?_) (fun h5 => ?_)
  ·
   try simp only [sps] at h5
   refine .seq (fun K5 h4 => .region ?_)
   refine .R rfl (.litA rfl sl_24_A ze_2_Pa rfl rfl rfl rfl) ?_
   rintro _ H7 ⟨g7, rfl, e8, ge7, c5⟩
   replace a := a.le e8
   replace hs := hs.le e8
   have lt_at7 := GHeap.ltg c5
   refine .R rfl (.litA rfl sl_25_B ze_24_Hj rfl rfl rfl rfl) ?_
   rintro _ H8 ⟨g8, rfl, e5, ge8, h7⟩
   replace a := a.le e5
   replace hs := hs.le e5
   replace c5 := e5.2 _ _ c5
   refine .mv rfl (.nil (h4 _ _ ?_))
   refine .ret ?_
   refine e _ _ ?_
   refine ⟨_, rfl, ?_⟩
   exact ⟨_, [[0]], fun i => some ⟨List.getD [g7] i 0, 0, none⟩, rfl, (lit_own (gs := [g7]) (by simp only [LitAt]; exact ⟨⟨by omega, c5⟩, trivial⟩) (by simp <;> omega)).done (by exact h7) (by omega), by decide, by unfold Tb Bd; decide, a, hs⟩
  try simp only [sps] at h5
  refine .seq (fun K6 h6 => .region (.q rfl (.cmp rfl rfl rfl) (.mv rfl (.nil (h6 _ _ ?_)))))
  refine .cond rfl (fun h9 => ?_) (fun h9 => ?_)
  ·
   try simp only [sps] at h9
   refine .seq (fun K7 i1 => .region ?_)
   refine .R rfl (.litA rfl sl_24_A ze_2_Pa rfl rfl rfl rfl) ?_
   rintro _ H11 ⟨e9, rfl, b8, ge11, p⟩
   replace a := a.le b8
   replace hs := hs.le b8
   have lt_at11 := GHeap.ltg p
   refine .R rfl (.litA rfl sl_24_A ze_2_Pa rfl rfl rfl rfl) ?_
   rintro _ H12 ⟨f6, rfl, b2, ge12, a5⟩
   replace a := a.le b2
   replace hs := hs.le b2
   replace p := b2.2 _ _ p
   have lt_at12 := GHeap.ltg a5
   refine .R rfl (.litA rfl sl_25_B ze_24_Hj rfl rfl rfl rfl) ?_
   rintro _ H13 ⟨g13, rfl, a9, ge13, d2⟩
   replace a := a.le a9
   replace hs := hs.le a9
   replace p := a9.2 _ _ p
   replace a5 := a9.2 _ _ a5
   refine .mv rfl (.nil (i1 _ _ ?_))
   refine .ret ?_
   refine e _ _ ?_
   refine ⟨_, rfl, ?_⟩
   exact ⟨_, [[0, 1], [1, 0]], fun i => some ⟨List.getD [e9, f6] i 0, 0, none⟩, rfl, (lit_own (gs := [e9, f6]) (by simp only [LitAt]; exact ⟨⟨by omega, p⟩, ⟨by omega, a5⟩, trivial⟩) (by simp <;> omega)).done (by exact d2) (by omega), by decide, by unfold Tb Bd; decide, a, hs⟩
  try simp only [sps] at h9
  refine .seq (fun K8 h2 => .region (.q rfl (.cmp rfl rfl rfl) (.mv rfl (.nil (h2 _ _ ?_)))))
  refine .cond rfl (fun c7 => ?_) (fun c7 => ?_)
  ·
   try simp only [sps] at c7
   refine .seq (fun K9 h8 => .region ?_)
   refine .R rfl (.litA rfl sl_24_A ze_2_Pa rfl rfl rfl rfl) ?_
   rintro _ H16 ⟨f1, rfl, c4, ge16, r⟩
   replace a := a.le c4
   replace hs := hs.le c4
   have lt_at16 := GHeap.ltg r
   refine .R rfl (.litA rfl sl_24_A ze_2_Pa rfl rfl rfl rfl) ?_
   rintro _ H17 ⟨f7, rfl, b1, ge17, a2⟩
   replace a := a.le b1
   replace hs := hs.le b1
   replace r := b1.2 _ _ r
   have lt_at17 := GHeap.ltg a2
   refine .R rfl (.litA rfl sl_25_B ze_24_Hj rfl rfl rfl rfl) ?_
   rintro _ H18 ⟨g18, rfl, a8, ge18, d7⟩
   replace a := a.le a8
   replace hs := hs.le a8
   replace r := a8.2 _ _ r
   replace a2 := a8.2 _ _ a2
   refine .mv rfl (.nil (h8 _ _ ?_))
   refine .ret ?_
   refine e _ _ ?_
   refine ⟨_, rfl, ?_⟩
   exact ⟨_, [[0, 1], [1, 1]], fun i => some ⟨List.getD [f1, f7] i 0, 0, none⟩, rfl, (lit_own (gs := [f1, f7]) (by simp only [LitAt]; exact ⟨⟨by omega, r⟩, ⟨by omega, a2⟩, trivial⟩) (by simp <;> omega)).done (by exact d7) (by omega), by decide, by unfold Tb Bd; decide, a, hs⟩
  try simp only [sps] at c7
  refine .seq (fun K10 c8 => .region (.q rfl (.cmp rfl rfl rfl) (.mv rfl (.nil (c8 _ _ ?_)))))
  refine .cond rfl (fun e1 => ?_) (fun e1 => ?_)
  ·
   try simp only [sps] at e1
   refine .seq (fun K11 d3 => .region ?_)
   refine .R rfl (.litA rfl sl_24_A ze_2_Pa rfl rfl rfl rfl) ?_
   rintro _ H21 ⟨f2, rfl, c2, ge21, c⟩
   replace a := a.le c2
   replace hs := hs.le c2
   have lt_at21 := GHeap.ltg c
   refine .R rfl (.litA rfl sl_24_A ze_2_Pa rfl rfl rfl rfl) ?_
   rintro _ H22 ⟨f9, rfl, b6, ge22, m⟩
   replace a := a.le b6
   replace hs := hs.le b6
   replace c := b6.2 _ _ c
   have lt_at22 := GHeap.ltg m
   refine .R rfl (.litA rfl sl_24_A ze_2_Pa rfl rfl rfl rfl) ?_
   rintro _ H23 ⟨f5, rfl, a4, ge23, z⟩
   replace a := a.le a4
   replace hs := hs.le a4
   replace c := a4.2 _ _ c
   replace m := a4.2 _ _ m
   have lt_at23 := GHeap.ltg z
   refine .R rfl (.litA rfl sl_25_B ze_24_Hj rfl rfl rfl rfl) ?_
   rintro _ H24 ⟨g24, rfl, t, ge24, e3⟩
   replace a := a.le t
   replace hs := hs.le t
   replace c := t.2 _ _ c
   replace m := t.2 _ _ m
   replace z := t.2 _ _ z
   refine .mv rfl (.nil (d3 _ _ ?_))
   refine .ret ?_
   refine e _ _ ?_
   refine ⟨_, rfl, ?_⟩
   exact ⟨_, [[0, 1, 2], [1, 2, 0], [2, 0, 1]], fun i => some ⟨List.getD [f2, f9, f5] i 0, 0, none⟩, rfl, (lit_own (gs := [f2, f9, f5]) (by simp only [LitAt]; exact ⟨⟨by omega, c⟩, ⟨by omega, m⟩, ⟨by omega, z⟩, trivial⟩) (by simp <;> omega)).done (by exact e3) (by omega), by decide, by unfold Tb Bd; decide, a, hs⟩
  try simp only [sps] at e1
  refine .seq (fun K12 d0 => .region (.q rfl (.cmp rfl rfl rfl) (.mv rfl (.nil (d0 _ _ ?_)))))
  refine .cond rfl (fun d9 => ?_) (fun d9 => ?_)
  ·
   try simp only [sps] at d9
   refine .seq (fun K13 d4 => .region ?_)
   refine .R rfl (.litA rfl sl_24_A ze_2_Pa rfl rfl rfl rfl) ?_
   rintro _ H27 ⟨h1, rfl, c1, ge27, f⟩
   replace a := a.le c1
   replace hs := hs.le c1
   have lt_at27 := GHeap.ltg f
   refine .R rfl (.litA rfl sl_24_A ze_2_Pa rfl rfl rfl rfl) ?_
   rintro _ H28 ⟨g4, rfl, b4, ge28, l⟩
   replace a := a.le b4
   replace hs := hs.le b4
   replace f := b4.2 _ _ f
   have lt_at28 := GHeap.ltg l
   refine .R rfl (.litA rfl sl_24_A ze_2_Pa rfl rfl rfl rfl) ?_
   rintro _ H29 ⟨g6, rfl, a0, ge29, a1⟩
   replace a := a.le a0
   replace hs := hs.le a0
   replace f := a0.2 _ _ f
   replace l := a0.2 _ _ l
   have lt_at29 := GHeap.ltg a1
   refine .R rfl (.litA rfl sl_25_B ze_24_Hj rfl rfl rfl rfl) ?_
   rintro _ H30 ⟨g30, rfl, v, ge30, c9⟩
   replace a := a.le v
   replace hs := hs.le v
   replace f := v.2 _ _ f
   replace l := v.2 _ _ l
   replace a1 := v.2 _ _ a1
   refine .mv rfl (.nil (d4 _ _ ?_))
   refine .ret ?_
   refine e _ _ ?_
   refine ⟨_, rfl, ?_⟩
   exact ⟨_, [[0, 1, 2], [1, 1, 2], [2, 2, 2]], fun i => some ⟨List.getD [h1, g4, g6] i 0, 0, none⟩, rfl, (lit_own (gs := [h1, g4, g6]) (by simp only [LitAt]; exact ⟨⟨by omega, f⟩, ⟨by omega, l⟩, ⟨by omega, a1⟩, trivial⟩) (by simp <;> omega)).done (by exact c9) (by omega), by decide, by unfold Tb Bd; decide, a, hs⟩
  try simp only [sps] at d9
  refine .seq (fun K14 e0 => .region (.q rfl (.cmp rfl rfl rfl) (.mv rfl (.nil (e0 _ _ ?_)))))
  refine .cond rfl (fun d1 => ?_) (fun d1 => ?_)
  ·
   try simp only [sps] at d1
   refine .seq (fun K15 c6 => .region ?_)
   refine .R rfl (.litA rfl sl_24_A ze_2_Pa rfl rfl rfl rfl) ?_
   rintro _ H33 ⟨f0, rfl, c3, ge33, g⟩
   replace a := a.le c3
   replace hs := hs.le c3
   have lt_at33 := GHeap.ltg g
   refine .R rfl (.litA rfl sl_24_A ze_2_Pa rfl rfl rfl rfl) ?_
   rintro _ H34 ⟨f4, rfl, b7, ge34, j⟩
   replace a := a.le b7
   replace hs := hs.le b7
   replace g := b7.2 _ _ g
   have lt_at34 := GHeap.ltg j
   refine .R rfl (.litA rfl sl_24_A ze_2_Pa rfl rfl rfl rfl) ?_
   rintro _ H35 ⟨h0, rfl, x, ge35, a3⟩
   replace a := a.le x
   replace hs := hs.le x
   replace g := x.2 _ _ g
   replace j := x.2 _ _ j
   have lt_at35 := GHeap.ltg a3
   refine .R rfl (.litA rfl sl_25_B ze_24_Hj rfl rfl rfl rfl) ?_
   rintro _ H36 ⟨g36, rfl, s, ge36, e6⟩
   replace a := a.le s
   replace hs := hs.le s
   replace g := s.2 _ _ g
   replace j := s.2 _ _ j
   replace a3 := s.2 _ _ a3
   refine .mv rfl (.nil (c6 _ _ ?_))
   refine .ret ?_
   refine e _ _ ?_
   refine ⟨_, rfl, ?_⟩
   exact ⟨_, [[0, 1, 2], [1, 1, 2], [2, 1, 2]], fun i => some ⟨List.getD [f0, f4, h0] i 0, 0, none⟩, rfl, (lit_own (gs := [f0, f4, h0]) (by simp only [LitAt]; exact ⟨⟨by omega, g⟩, ⟨by omega, j⟩, ⟨by omega, a3⟩, trivial⟩) (by simp <;> omega)).done (by exact e6) (by omega), by decide, by unfold Tb Bd; decide, a, hs⟩
  try simp only [sps] at d1
  refine .seq (fun K16 e2 => .region (.q rfl (.cmp rfl rfl rfl) (.mv rfl (.nil (e2 _ _ ?_)))))
  refine .cond rfl (fun d5 => ?_) (fun d5 => ?_)
  ·
   try simp only [sps] at d5
   refine .seq (fun K17 d6 => .region ?_)
   refine .R rfl (.litA rfl sl_24_A ze_2_Pa rfl rfl rfl rfl) ?_
   rintro _ H39 ⟨f8, rfl, b9, ge39, b⟩
   replace a := a.le b9
   replace hs := hs.le b9
   have lt_at39 := GHeap.ltg b
   refine .R rfl (.litA rfl sl_24_A ze_2_Pa rfl rfl rfl rfl) ?_
   rintro _ H40 ⟨g1, rfl, b5, ge40, h⟩
   replace a := a.le b5
   replace hs := hs.le b5
   replace b := b5.2 _ _ b
   have lt_at40 := GHeap.ltg h
   refine .R rfl (.litA rfl sl_24_A ze_2_Pa rfl rfl rfl rfl) ?_
   rintro _ H41 ⟨g2, rfl, a7, ge41, k⟩
   replace a := a.le a7
   replace hs := hs.le a7
   replace b := a7.2 _ _ b
   replace h := a7.2 _ _ h
   have lt_at41 := GHeap.ltg k
   refine .R rfl (.litA rfl sl_24_A ze_2_Pa rfl rfl rfl rfl) ?_
   rintro _ H42 ⟨g0, rfl, u, ge42, b0⟩
   replace a := a.le u
   replace hs := hs.le u
   replace b := u.2 _ _ b
   replace h := u.2 _ _ h
   replace k := u.2 _ _ k
   have lt_at42 := GHeap.ltg b0
   refine .R rfl (.litA rfl sl_25_B ze_24_Hj rfl rfl rfl rfl) ?_
   rintro _ H43 ⟨g43, rfl, n, ge43, d8⟩
   replace a := a.le n
   replace hs := hs.le n
   replace b := n.2 _ _ b
   replace h := n.2 _ _ h
   replace k := n.2 _ _ k
   replace b0 := n.2 _ _ b0
   refine .mv rfl (.nil (d6 _ _ ?_))
   refine .ret ?_
   refine e _ _ ?_
   refine ⟨_, rfl, ?_⟩
   exact ⟨_, [[0, 1, 2, 3], [1, 0, 2, 3], [2, 3, 2, 3], [3, 2, 2, 3]], fun i => some ⟨List.getD [f8, g1, g2, g0] i 0, 0, none⟩, rfl, (lit_own (gs := [f8, g1, g2, g0]) (by simp only [LitAt]; exact ⟨⟨by omega, b⟩, ⟨by omega, h⟩, ⟨by omega, k⟩, ⟨by omega, b0⟩, trivial⟩) (by simp <;> omega)).done (by exact d8) (by omega), by decide, by unfold Tb Bd; decide, a, hs⟩
  try simp only [sps] at d5
  refine .skip ?_
  refine i2 _ _ (.seq (fun K18 e7 => .region ?_))
  refine .R rfl (.litA rfl sl_24_A ze_2_Pa rfl rfl rfl rfl) ?_
  rintro _ H44 ⟨g3, rfl, c0, ge44, d⟩
  replace a := a.le c0
  replace hs := hs.le c0
  have lt_at44 := GHeap.ltg d
  refine .R rfl (.litA rfl sl_24_A ze_2_Pa rfl rfl rfl rfl) ?_
  rintro _ H45 ⟨g9, rfl, b3, ge45, o⟩
  replace a := a.le b3
  replace hs := hs.le b3
  replace d := b3.2 _ _ d
  have lt_at45 := GHeap.ltg o
  refine .R rfl (.litA rfl sl_24_A ze_2_Pa rfl rfl rfl rfl) ?_
  rintro _ H46 ⟨f3, rfl, a6, ge46, y⟩
  replace a := a.le a6
  replace hs := hs.le a6
  replace d := a6.2 _ _ d
  replace o := a6.2 _ _ o
  have lt_at46 := GHeap.ltg y
  refine .R rfl (.litA rfl sl_25_B ze_24_Hj rfl rfl rfl rfl) ?_
  rintro _ H47 ⟨g47, rfl, w, ge47, e4⟩
  replace a := a.le w
  replace hs := hs.le w
  replace d := w.2 _ _ d
  replace o := w.2 _ _ o
  replace y := w.2 _ _ y
  refine .mv rfl (.nil (e7 _ _ ?_))
  refine .ret ?_
  refine e _ _ ?_
  refine ⟨_, rfl, ?_⟩
  exact ⟨_, [[0, 1, 2], [1, 2, 2], [2, 2, 2]], fun i => some ⟨List.getD [g3, g9, f3] i 0, 0, none⟩, rfl, (lit_own (gs := [g3, g9, f3]) (by simp only [LitAt]; exact ⟨⟨by omega, d⟩, ⟨by omega, o⟩, ⟨by omega, y⟩, trivial⟩) (by simp <;> omega)).done (by exact e4) (by omega), by decide, by unfold Tb Bd; decide, a, hs⟩
theorem l02Split_c {H : GHeap} :
    GCalls Try.prog 124 [] H (NewRc 2 24 64 H) := by
  refine GCalls.body (N := 11) (rs := [.cell 0 27]) Try.func124 rfl rfl rfl rfl (fun Qx w hend => ?_)
  have b := GHeap.Le.refl H
  refine .seq (fun K1 a2 => .region ?_)
  refine .R rfl (.allocR rfl ze_27_Hj rfl) ?_
  rintro _ H0 ⟨g0, rfl, a1, ge0, d⟩
  replace b := b.trans a1
  have lt_at0 := GHeap.ltg d
  refine .nil (a2 _ _ (.seq (fun K2 a0 => .region ?_)))
  refine .R rfl (.litA rfl sl_24_A ze_2_Pa rfl rfl rfl rfl) ?_
  rintro _ H1 ⟨g1, rfl, z, ge1, c⟩
  replace b := b.trans z
  replace d := z.2 _ _ d
  have lt_at1 := GHeap.ltg c
  refine .R rfl (.litA rfl sl_24_A ze_2_Pa rfl rfl rfl rfl) ?_
  rintro _ H2 ⟨g2, rfl, x, ge2, e⟩
  replace b := b.trans x
  replace d := x.2 _ _ d
  replace c := x.2 _ _ c
  have lt_at2 := GHeap.ltg e
  refine .R rfl (.litA rfl sl_24_A ze_2_Pa rfl rfl rfl rfl) ?_
  rintro _ H3 ⟨g3, rfl, v, ge3, f⟩
  replace b := b.trans v
  replace d := v.2 _ _ d
  replace c := v.2 _ _ c
  replace e := v.2 _ _ e
  have lt_at3 := GHeap.ltg f
  refine .R rfl (.litA rfl sl_24_A ze_2_Pa rfl rfl rfl rfl) ?_
  rintro _ H4 ⟨g4, rfl, u, ge4, g⟩
  replace b := b.trans u
  replace d := u.2 _ _ d
  replace c := u.2 _ _ c
  replace e := u.2 _ _ e
  replace f := u.2 _ _ f
  have lt_at4 := GHeap.ltg g
  refine .R rfl (.litA rfl sl_24_A ze_2_Pa rfl rfl rfl rfl) ?_
  rintro _ H5 ⟨g5, rfl, t, ge5, h⟩
  replace b := b.trans t
  replace d := t.2 _ _ d
  replace c := t.2 _ _ c
  replace e := t.2 _ _ e
  replace f := t.2 _ _ f
  replace g := t.2 _ _ g
  have lt_at5 := GHeap.ltg h
  refine .R rfl (.litA rfl sl_24_A ze_2_Pa rfl rfl rfl rfl) ?_
  rintro _ H6 ⟨g6, rfl, o, ge6, i⟩
  replace b := b.trans o
  replace d := o.2 _ _ d
  replace c := o.2 _ _ c
  replace e := o.2 _ _ e
  replace f := o.2 _ _ f
  replace g := o.2 _ _ g
  replace h := o.2 _ _ h
  have lt_at6 := GHeap.ltg i
  refine .R rfl (.litA rfl sl_24_A ze_2_Pa rfl rfl rfl rfl) ?_
  rintro _ H7 ⟨g7, rfl, n, ge7, m⟩
  replace b := b.trans n
  replace d := n.2 _ _ d
  replace c := n.2 _ _ c
  replace e := n.2 _ _ e
  replace f := n.2 _ _ f
  replace g := n.2 _ _ g
  replace h := n.2 _ _ h
  replace i := n.2 _ _ i
  have lt_at7 := GHeap.ltg m
  refine .R rfl (.litA rfl sl_24_A ze_2_Pa rfl rfl rfl rfl) ?_
  rintro _ H8 ⟨g8, rfl, l, ge8, r⟩
  replace b := b.trans l
  replace d := l.2 _ _ d
  replace c := l.2 _ _ c
  replace e := l.2 _ _ e
  replace f := l.2 _ _ f
  replace g := l.2 _ _ g
  replace h := l.2 _ _ h
  replace i := l.2 _ _ i
  replace m := l.2 _ _ m
  have lt_at8 := GHeap.ltg r
  refine .R rfl (.litA rfl sl_25_B ze_24_Hj rfl rfl rfl rfl) ?_
  rintro _ H9 ⟨g9, rfl, j, ge9, y⟩
  replace b := b.trans j
  replace d := j.2 _ _ d
  replace c := j.2 _ _ c
  replace e := j.2 _ _ e
  replace f := j.2 _ _ f
  replace g := j.2 _ _ g
  replace h := j.2 _ _ h
  replace i := j.2 _ _ i
  replace m := j.2 _ _ m
  replace r := j.2 _ _ r
  refine .q rfl (.build bt_27_Hj rfl rfl rfl) ?_
  refine .r0 rfl rfl (.fillA rfl sz_27_D rfl rfl rfl rfl) ?_
  rintro _ H1010 ⟨rfl, a, p⟩
  replace b := b.st a (fun k hk => ⟨by omega, trivial⟩)
  replace c := a.s c
  replace e := a.s e
  replace f := a.s f
  replace g := a.s g
  replace h := a.s h
  replace i := a.s i
  replace m := a.s m
  replace r := a.s r
  replace y := a.s y
  refine .nil (a0 _ _ ?_)
  refine .ret ?_
  refine w _ _ ?_
  refine ⟨_, _, _, _, rfl, ag_27_D, (by rfl), (Mem.of_get p), ?_⟩
  exact ⟨⟨2, [0, 1, 0, 0, 1], [0, 1, 0, 1, 0], [0, 1], [[0, -1, 2, 3, -1], [-1, 1, -1, -1, 4], [2, -1, 2, 3, -1], [-1, 3, -1, -1, 2], [4, -1, 4, 1, -1]]⟩, rect_mk (by omega) (by decide) rfl (by unfold Bd; decide) (by unfold Bd; decide) rfl (by unfold Bd; decide) rfl (by unfold Tb Bd; decide), b, g1, g2, g3, g9, _, rfl, ⟨c, e, f, by exact y, by omega, by omega, by omega, by omega, by omega, by omega, by omega, lit_own (gs := [g4, g5, g6, g7, g8]) (by simp only [LitAt]; exact ⟨⟨by omega, g⟩, ⟨by omega, h⟩, ⟨by omega, i⟩, ⟨by omega, m⟩, ⟨by omega, r⟩, trivial⟩) (by simp; omega), row_nes (by simp; omega), row_nes (by simp; omega), row_nes (by simp; omega)⟩⟩
set_option maxHeartbeats 8000000 in
theorem l03Monoid_c {a : Option Addr} {r : Nat → Option Addr} {T : List (List Int)} {H : GHeap} (hin : Intss H a T r := by assumption) (hn : 1 ≤ T.length ∧ T.length ≤ 4) (ht : Tb 0 3 T.length T) :
    GCalls Try.prog 122 [.slice a T.length T.length] H (NewRc 2 24 4 H) := by
  have n5 : ∀ i, (T.getD i []).length ≤ 1048576 := fun i => by
    by_cases hi : i < T.length
    · have := (ht i hi).1; omega
    · rw [List.getD_eq_getElem?_getD, List.getElem?_eq_none (by omega)]; simp
  refine GCalls.body (N := 14) (rs := [.cell 2 27]) Try.func122 rfl rfl rfl rfl (fun Qx t3 hend => ?_)
  refine .fg [0] rfl ?_
  have a1 := GHeap.Le.refl H
  have n := hin
  refine .seq (fun K1 t7 => .region ?_)
  refine .R rfl (.allocR rfl ze_27_Hj rfl) ?_
  rintro _ H2 ⟨g2, rfl, t5, ge2, j⟩
  have nx_H2 := t5.1
  replace a1 := a1.trans t5
  have lt_at2 := GHeap.ltg j
  replace hin := n.mono a1
  refine .nil (t7 _ _ (.seq (fun K2 t8 => .region (.mv rfl (.q rfl (.len sl_25_B rfl) (.mv rfl (.nil (t8 _ _ (.seq (fun K3 t9 => ?_))))))))))
  refine .regionD mo_B (.q 0 (.q 2 (.q 5 (.or (.c 1 1 (.or (.c 3 1 (.or (.c 4 1 (.c 6 1 (.q 7 (.c 8 0 (.done))))) (.c 6 1 (.c 4 1 (.q 7 (.c 8 0 (.done))))))) (.or (.c 4 1 (.or (.c 3 1 (.c 6 1 (.q 7 (.c 8 0 (.done))))) (.c 6 1 (.c 3 1 (.q 7 (.c 8 0 (.done))))))) (.c 6 1 (.or (.c 3 1 (.c 4 1 (.q 7 (.c 8 0 (.done))))) (.c 4 1 (.c 3 1 (.q 7 (.c 8 0 (.done)))))))))) (.or (.c 3 1 (.or (.c 1 1 (.or (.c 4 1 (.c 6 1 (.q 7 (.c 8 0 (.done))))) (.c 6 1 (.c 4 1 (.q 7 (.c 8 0 (.done))))))) (.or (.c 4 1 (.or (.c 1 1 (.c 6 1 (.q 7 (.c 8 0 (.done))))) (.c 6 1 (.c 1 1 (.q 7 (.c 8 0 (.done))))))) (.c 6 1 (.or (.c 1 1 (.c 4 1 (.q 7 (.c 8 0 (.done))))) (.c 4 1 (.c 1 1 (.q 7 (.c 8 0 (.done)))))))))) (.or (.c 4 1 (.or (.c 1 1 (.or (.c 3 1 (.c 6 1 (.q 7 (.c 8 0 (.done))))) (.c 6 1 (.c 3 1 (.q 7 (.c 8 0 (.done))))))) (.or (.c 3 1 (.or (.c 1 1 (.c 6 1 (.q 7 (.c 8 0 (.done))))) (.c 6 1 (.c 1 1 (.q 7 (.c 8 0 (.done))))))) (.c 6 1 (.or (.c 1 1 (.c 3 1 (.q 7 (.c 8 0 (.done))))) (.c 3 1 (.c 1 1 (.q 7 (.c 8 0 (.done)))))))))) (.c 6 1 (.or (.c 1 1 (.or (.c 3 1 (.c 4 1 (.q 7 (.c 8 0 (.done))))) (.c 4 1 (.c 3 1 (.q 7 (.c 8 0 (.done))))))) (.or (.c 3 1 (.or (.c 1 1 (.c 4 1 (.q 7 (.c 8 0 (.done))))) (.c 4 1 (.c 1 1 (.q 7 (.c 8 0 (.done))))))) (.c 4 1 (.or (.c 1 1 (.c 3 1 (.q 7 (.c 8 0 (.done))))) (.c 3 1 (.c 1 1 (.q 7 (.c 8 0 (.done)))))))))))))))) (by kernel_rfl) ?_
  refine .cut [(0, some _), (2, some _), (3, some _), (4, some _), (5, some _)] ⟨rfl, rfl, rfl, rfl, rfl, trivial⟩ (fun rest fr' H' => ∃ (w1 : Nat) (w2 : Nat) (w3 : Nat) (w4 : Nat) (rr : Nat → Option Addr), Sub rest fr' ∧ St [g2] H2 H' ∧ H'.get g2 = some (.row (Cat.cells ⟨1, List.replicate T.length 0, List.replicate T.length 0, [0], T⟩ (ownP w1 w2 w3 w4 rr)) 27 true) ∧ OwnCat 2 24 H2.next H' ⟨1, List.replicate T.length 0, List.replicate T.length 0, [0], T⟩ w1 w2 w3 w4 rr) ?_ ?_
  ·
   have g := St.refl [g2] H2
   refine .qB rfl (.refl _) (.move rfl) (.qB rfl (.refl _) (.move rfl) (.qB rfl (.refl _) (.move rfl) ?_))
   refine .orI ?_ ?_
   ·
    refine .c1 rfl rfl rfl rfl (.makeIN rfl sl_24_A ze_2_Pa by_2_Pa rfl rfl (by omega) (by omega) (by omega)) ?_
    rintro _ H7 ⟨g7, rfl, s1, ge7, b7⟩
    have e := s1
    refine ⟨e, ?_⟩
    have nx_H7 := s1.1
    replace a1 := a1.trans s1
    replace g := g.le s1
    replace j := s1.2 _ _ j
    have lt_at7 := GHeap.ltg b7
    replace hin := n.mono a1
    refine .orI ?_ ?_
    ·
     refine .c1 rfl rfl rfl rfl (.makeIN rfl sl_24_A ze_2_Pa by_2_Pa rfl rfl (by omega) (by omega) (by omega)) ?_
     rintro _ H9 ⟨g9, rfl, r7, ge9, n8⟩
     replace e := e.trans r7
     refine ⟨e, ?_⟩
     have nx_H9 := r7.1
     replace a1 := a1.trans r7
     replace g := g.le r7
     replace j := r7.2 _ _ j
     replace b7 := r7.2 _ _ b7
     have lt_at9 := GHeap.ltg n8
     replace hin := n.mono a1
     refine .orI ?_ ?_
     ·
      refine .c1 rfl rfl rfl rfl (.litA rfl sl_24_A ze_2_Pa rfl rfl rfl rfl) ?_
      rintro _ H10 ⟨g10, rfl, n1, ge10, o2⟩
      replace e := e.trans n1
      refine ⟨e, ?_⟩
      have nx_H10 := n1.1
      replace a1 := a1.trans n1
      replace g := g.le n1
      replace j := n1.2 _ _ j
      replace b7 := n1.2 _ _ b7
      replace n8 := n1.2 _ _ n8
      have lt_at10 := GHeap.ltg o2
      replace hin := n.mono a1
      refine .call1 rfl rfl rfl rfl rfl @Try.call109 rfl (l01Own2O_c (hl2 := n5)) ?_
      rintro _ t6 ⟨n7, g12, rr12, rfl, s4, ge12, f⟩
      have rk := St.refl [g2] t6
      replace e := e.trans n7
      refine ⟨e, ?_⟩
      replace g := g.le n7
      replace j := n7.2 _ _ j
      replace b7 := n7.2 _ _ b7
      replace n8 := n7.2 _ _ n8
      replace o2 := n7.2 _ _ o2
      refine .qB rfl e (.build bt_27_Hj rfl rfl rfl) ?_
      refine .r0 rfl rfl rfl (.fillA rfl sz_27_D rfl rfl rfl rfl) ?_
      rintro _ H2008 ⟨rfl, h1, at2008⟩
      replace g := g.sA h1
      replace rk := rk.sA h1
      have p : NE g7 g2 := .a
      replace b7 := h1.s b7 p.ne
      have k6 : NE g9 g2 := .a
      replace n8 := h1.s n8 k6.ne
      replace o2 := h1.s o2
      replace s4 := h1.s s4
      refine .done ?_
      exact ⟨_, _, _, _, _, ⟨rfl, rfl, rfl, rfl, rfl, trivial⟩, g, by simp only [Cat.cells, ownP, List.length_replicate]; assumption, ⟨by assumption, by assumption, by assumption, by assumption, by omega, by omega, by omega, by omega, by omega, by omega, by omega, (f.st rk (.cons (f.lowNe (by omega)) (.nil _ _))).low (by omega), by first | exact f.lowNe (by omega) | exact f.ne (by omega), by first | exact f.lowNe (by omega) | exact f.ne (by omega), by first | exact f.lowNe (by omega) | exact f.ne (by omega)⟩⟩
     refine .call1 rfl rfl rfl rfl rfl @Try.call109 rfl (l01Own2O_c (hl2 := n5)) ?_
     rintro _ s0 ⟨k4, g12x2, rr12x2, rfl, j0, ge12x2, f⟩
     have rk := St.refl [g2] s0
     replace e := e.trans k4
     refine ⟨e, ?_⟩
     replace g := g.le k4
     replace j := k4.2 _ _ j
     replace b7 := k4.2 _ _ b7
     replace n8 := k4.2 _ _ n8
     have lt_at12x2 := GHeap.ltg j0
     refine .c1 rfl rfl rfl rfl (.litA rfl sl_24_A ze_2_Pa rfl rfl rfl rfl) ?_
     rintro _ H10x2 ⟨g10x2, rfl, f6, ge10x2, p4⟩
     replace e := e.trans f6
     refine ⟨e, ?_⟩
     replace g := g.le f6
     replace rk := rk.le f6
     replace j := f6.2 _ _ j
     replace b7 := f6.2 _ _ b7
     replace n8 := f6.2 _ _ n8
     replace j0 := f6.2 _ _ j0
     refine .qB rfl e (.build bt_27_Hj rfl rfl rfl) ?_
     refine .r0 rfl rfl rfl (.fillA rfl sz_27_D rfl rfl rfl rfl) ?_
     rintro _ H2008x2 ⟨rfl, c6, at2008x2⟩
     replace g := g.sA c6
     replace rk := rk.sA c6
     have p : NE g7 g2 := .a
     replace b7 := c6.s b7 p.ne
     have k6 : NE g9 g2 := .a
     replace n8 := c6.s n8 k6.ne
     replace j0 := c6.s j0
     replace p4 := c6.s p4
     refine .done ?_
     exact ⟨_, _, _, _, _, ⟨rfl, rfl, rfl, rfl, rfl, trivial⟩, g, by simp only [Cat.cells, ownP, List.length_replicate]; assumption, ⟨by assumption, by assumption, by assumption, by assumption, by omega, by omega, by omega, by omega, by omega, by omega, by omega, (f.st rk (.cons (f.lowNe (by omega)) (.nil _ _))).low (by omega), by first | exact f.lowNe (by omega) | exact f.ne (by omega), by first | exact f.lowNe (by omega) | exact f.ne (by omega), by first | exact f.lowNe (by omega) | exact f.ne (by omega)⟩⟩
    refine .orI ?_ ?_
    ·
     refine .c1 rfl rfl rfl rfl (.litA rfl sl_24_A ze_2_Pa rfl rfl rfl rfl) ?_
     rintro _ H10x3 ⟨q0, rfl, i2, ge10x3, z⟩
     replace e := e.trans i2
     refine ⟨e, ?_⟩
     have nx_H10x3 := i2.1
     replace a1 := a1.trans i2
     replace g := g.le i2
     replace j := i2.2 _ _ j
     replace b7 := i2.2 _ _ b7
     have lt_at10x3 := GHeap.ltg z
     replace hin := n.mono a1
     refine .orI ?_ ?_
     ·
      refine .c1 rfl rfl rfl rfl (.makeIN rfl sl_24_A ze_2_Pa by_2_Pa rfl rfl (by omega) (by omega) (by omega)) ?_
      rintro _ H9x2 ⟨g9x2, rfl, k8, ge9x2, n0⟩
      replace e := e.trans k8
      refine ⟨e, ?_⟩
      have nx_H9x2 := k8.1
      replace a1 := a1.trans k8
      replace g := g.le k8
      replace j := k8.2 _ _ j
      replace b7 := k8.2 _ _ b7
      replace z := k8.2 _ _ z
      have lt_at9x2 := GHeap.ltg n0
      replace hin := n.mono a1
      refine .call1 rfl rfl rfl rfl rfl @Try.call109 rfl (l01Own2O_c (hl2 := n5)) ?_
      rintro _ r8 ⟨i5, g12x3, rr12x3, rfl, p5, ge12x3, f⟩
      have rk := St.refl [g2] r8
      replace e := e.trans i5
      refine ⟨e, ?_⟩
      replace g := g.le i5
      replace j := i5.2 _ _ j
      replace b7 := i5.2 _ _ b7
      replace z := i5.2 _ _ z
      replace n0 := i5.2 _ _ n0
      refine .qB rfl e (.build bt_27_Hj rfl rfl rfl) ?_
      refine .r0 rfl rfl rfl (.fillA rfl sz_27_D rfl rfl rfl rfl) ?_
      rintro _ H2008x3 ⟨rfl, c2, at2008x3⟩
      replace g := g.sA c2
      replace rk := rk.sA c2
      have p : NE g7 g2 := .a
      replace b7 := c2.s b7 p.ne
      have d8 : NE q0 g2 := .a
      replace z := c2.s z d8.ne
      replace n0 := c2.s n0
      replace p5 := c2.s p5
      refine .done ?_
      exact ⟨_, _, _, _, _, ⟨rfl, rfl, rfl, rfl, rfl, trivial⟩, g, by simp only [Cat.cells, ownP, List.length_replicate]; assumption, ⟨by assumption, by assumption, by assumption, by assumption, by omega, by omega, by omega, by omega, by omega, by omega, by omega, (f.st rk (.cons (f.lowNe (by omega)) (.nil _ _))).low (by omega), by first | exact f.lowNe (by omega) | exact f.ne (by omega), by first | exact f.lowNe (by omega) | exact f.ne (by omega), by first | exact f.lowNe (by omega) | exact f.ne (by omega)⟩⟩
     refine .call1 rfl rfl rfl rfl rfl @Try.call109 rfl (l01Own2O_c (hl2 := n5)) ?_
     rintro _ s6 ⟨k5, g12x4, rr12x4, rfl, l6, ge12x4, f⟩
     have rk := St.refl [g2] s6
     replace e := e.trans k5
     refine ⟨e, ?_⟩
     replace g := g.le k5
     replace j := k5.2 _ _ j
     replace b7 := k5.2 _ _ b7
     replace z := k5.2 _ _ z
     have lt_at12x4 := GHeap.ltg l6
     refine .c1 rfl rfl rfl rfl (.makeIN rfl sl_24_A ze_2_Pa by_2_Pa rfl rfl (by omega) (by omega) (by omega)) ?_
     rintro _ H9x3 ⟨g9x3, rfl, l5, ge9x3, q3⟩
     replace e := e.trans l5
     refine ⟨e, ?_⟩
     replace g := g.le l5
     replace rk := rk.le l5
     replace j := l5.2 _ _ j
     replace b7 := l5.2 _ _ b7
     replace z := l5.2 _ _ z
     replace l6 := l5.2 _ _ l6
     refine .qB rfl e (.build bt_27_Hj rfl rfl rfl) ?_
     refine .r0 rfl rfl rfl (.fillA rfl sz_27_D rfl rfl rfl rfl) ?_
     rintro _ H2008x4 ⟨rfl, c8, at2008x4⟩
     replace g := g.sA c8
     replace rk := rk.sA c8
     have p : NE g7 g2 := .a
     replace b7 := c8.s b7 p.ne
     have d8 : NE q0 g2 := .a
     replace z := c8.s z d8.ne
     replace l6 := c8.s l6
     replace q3 := c8.s q3
     refine .done ?_
     exact ⟨_, _, _, _, _, ⟨rfl, rfl, rfl, rfl, rfl, trivial⟩, g, by simp only [Cat.cells, ownP, List.length_replicate]; assumption, ⟨by assumption, by assumption, by assumption, by assumption, by omega, by omega, by omega, by omega, by omega, by omega, by omega, (f.st rk (.cons (f.lowNe (by omega)) (.nil _ _))).low (by omega), by first | exact f.lowNe (by omega) | exact f.ne (by omega), by first | exact f.lowNe (by omega) | exact f.ne (by omega), by first | exact f.lowNe (by omega) | exact f.ne (by omega)⟩⟩
    refine .call1 rfl rfl rfl rfl rfl @Try.call109 rfl (l01Own2O_c (hl2 := n5)) ?_
    rintro _ t1 ⟨m2, q5, rr12x5, rfl, x, ge12x5, f⟩
    have rk := St.refl [g2] t1
    replace e := e.trans m2
    refine ⟨e, ?_⟩
    replace g := g.le m2
    replace j := m2.2 _ _ j
    replace b7 := m2.2 _ _ b7
    have lt_at12x5 := GHeap.ltg x
    refine .orI ?_ ?_
    ·
     refine .c1 rfl rfl rfl rfl (.makeIN rfl sl_24_A ze_2_Pa by_2_Pa rfl rfl (by omega) (by omega) (by omega)) ?_
     rintro _ H9x4 ⟨g9x4, rfl, l7, ge9x4, m5⟩
     replace e := e.trans l7
     refine ⟨e, ?_⟩
     replace g := g.le l7
     replace rk := rk.le l7
     replace j := l7.2 _ _ j
     replace b7 := l7.2 _ _ b7
     replace x := l7.2 _ _ x
     have lt_at9x4 := GHeap.ltg m5
     refine .c1 rfl rfl rfl rfl (.litA rfl sl_24_A ze_2_Pa rfl rfl rfl rfl) ?_
     rintro _ H10x4 ⟨g10x4, rfl, f7, ge10x4, o1⟩
     replace e := e.trans f7
     refine ⟨e, ?_⟩
     replace g := g.le f7
     replace rk := rk.le f7
     replace j := f7.2 _ _ j
     replace b7 := f7.2 _ _ b7
     replace x := f7.2 _ _ x
     replace m5 := f7.2 _ _ m5
     refine .qB rfl e (.build bt_27_Hj rfl rfl rfl) ?_
     refine .r0 rfl rfl rfl (.fillA rfl sz_27_D rfl rfl rfl rfl) ?_
     rintro _ H2008x5 ⟨rfl, c9, at2008x5⟩
     replace g := g.sA c9
     replace rk := rk.sA c9
     have p : NE g7 g2 := .a
     replace b7 := c9.s b7 p.ne
     have d5 : NE q5 g2 := .a
     replace x := c9.s x d5.ne
     replace m5 := c9.s m5
     replace o1 := c9.s o1
     refine .done ?_
     exact ⟨_, _, _, _, _, ⟨rfl, rfl, rfl, rfl, rfl, trivial⟩, g, by simp only [Cat.cells, ownP, List.length_replicate]; assumption, ⟨by assumption, by assumption, by assumption, by assumption, by omega, by omega, by omega, by omega, by omega, by omega, by omega, (f.st rk (.cons (f.lowNe (by omega)) (.nil _ _))).low (by omega), by first | exact f.lowNe (by omega) | exact f.ne (by omega), by first | exact f.lowNe (by omega) | exact f.ne (by omega), by first | exact f.lowNe (by omega) | exact f.ne (by omega)⟩⟩
    refine .c1 rfl rfl rfl rfl (.litA rfl sl_24_A ze_2_Pa rfl rfl rfl rfl) ?_
    rintro _ H10x5 ⟨g10x5, rfl, i0, ge10x5, j9⟩
    replace e := e.trans i0
    refine ⟨e, ?_⟩
    replace g := g.le i0
    replace rk := rk.le i0
    replace j := i0.2 _ _ j
    replace b7 := i0.2 _ _ b7
    replace x := i0.2 _ _ x
    have lt_at10x5 := GHeap.ltg j9
    refine .c1 rfl rfl rfl rfl (.makeIN rfl sl_24_A ze_2_Pa by_2_Pa rfl rfl (by omega) (by omega) (by omega)) ?_
    rintro _ H9x5 ⟨g9x5, rfl, j8, ge9x5, q2⟩
    replace e := e.trans j8
    refine ⟨e, ?_⟩
    replace g := g.le j8
    replace rk := rk.le j8
    replace j := j8.2 _ _ j
    replace b7 := j8.2 _ _ b7
    replace x := j8.2 _ _ x
    replace j9 := j8.2 _ _ j9
    refine .qB rfl e (.build bt_27_Hj rfl rfl rfl) ?_
    refine .r0 rfl rfl rfl (.fillA rfl sz_27_D rfl rfl rfl rfl) ?_
    rintro _ H2008x6 ⟨rfl, c0, at2008x6⟩
    replace g := g.sA c0
    replace rk := rk.sA c0
    have p : NE g7 g2 := .a
    replace b7 := c0.s b7 p.ne
    have d5 : NE q5 g2 := .a
    replace x := c0.s x d5.ne
    replace j9 := c0.s j9
    replace q2 := c0.s q2
    refine .done ?_
    exact ⟨_, _, _, _, _, ⟨rfl, rfl, rfl, rfl, rfl, trivial⟩, g, by simp only [Cat.cells, ownP, List.length_replicate]; assumption, ⟨by assumption, by assumption, by assumption, by assumption, by omega, by omega, by omega, by omega, by omega, by omega, by omega, (f.st rk (.cons (f.lowNe (by omega)) (.nil _ _))).low (by omega), by first | exact f.lowNe (by omega) | exact f.ne (by omega), by first | exact f.lowNe (by omega) | exact f.ne (by omega), by first | exact f.lowNe (by omega) | exact f.ne (by omega)⟩⟩
   refine .orI ?_ ?_
   ·
    refine .c1 rfl rfl rfl rfl (.makeIN rfl sl_24_A ze_2_Pa by_2_Pa rfl rfl (by omega) (by omega) (by omega)) ?_
    rintro _ H9x6 ⟨n9, rfl, m4, ge9x6, h⟩
    have e := m4
    refine ⟨e, ?_⟩
    have nx_H9x6 := m4.1
    replace a1 := a1.trans m4
    replace g := g.le m4
    replace j := m4.2 _ _ j
    have lt_at9x6 := GHeap.ltg h
    replace hin := n.mono a1
    refine .orI ?_ ?_
    ·
     refine .c1 rfl rfl rfl rfl (.makeIN rfl sl_24_A ze_2_Pa by_2_Pa rfl rfl (by omega) (by omega) (by omega)) ?_
     rintro _ H7x2 ⟨t0, rfl, m0, ge7x2, c7⟩
     replace e := e.trans m0
     refine ⟨e, ?_⟩
     have nx_H7x2 := m0.1
     replace a1 := a1.trans m0
     replace g := g.le m0
     replace j := m0.2 _ _ j
     replace h := m0.2 _ _ h
     have lt_at7x2 := GHeap.ltg c7
     replace hin := n.mono a1
     refine .orI ?_ ?_
     ·
      refine .c1 rfl rfl rfl rfl (.litA rfl sl_24_A ze_2_Pa rfl rfl rfl rfl) ?_
      rintro _ H10x6 ⟨g10x6, rfl, e5, ge10x6, k0⟩
      replace e := e.trans e5
      refine ⟨e, ?_⟩
      have nx_H10x6 := e5.1
      replace a1 := a1.trans e5
      replace g := g.le e5
      replace j := e5.2 _ _ j
      replace h := e5.2 _ _ h
      replace c7 := e5.2 _ _ c7
      have lt_at10x6 := GHeap.ltg k0
      replace hin := n.mono a1
      refine .call1 rfl rfl rfl rfl rfl @Try.call109 rfl (l01Own2O_c (hl2 := n5)) ?_
      rintro _ s5 ⟨h5, g12x6, rr12x6, rfl, p3, ge12x6, f⟩
      have rk := St.refl [g2] s5
      replace e := e.trans h5
      refine ⟨e, ?_⟩
      replace g := g.le h5
      replace j := h5.2 _ _ j
      replace h := h5.2 _ _ h
      replace c7 := h5.2 _ _ c7
      replace k0 := h5.2 _ _ k0
      refine .qB rfl e (.build bt_27_Hj rfl rfl rfl) ?_
      refine .r0 rfl rfl rfl (.fillA rfl sz_27_D rfl rfl rfl rfl) ?_
      rintro _ H2008x7 ⟨rfl, c5, at2008x7⟩
      replace g := g.sA c5
      replace rk := rk.sA c5
      have o : NE n9 g2 := .a
      replace h := c5.s h o.ne
      have f4 : NE t0 g2 := .a
      replace c7 := c5.s c7 f4.ne
      replace k0 := c5.s k0
      replace p3 := c5.s p3
      refine .done ?_
      exact ⟨_, _, _, _, _, ⟨rfl, rfl, rfl, rfl, rfl, trivial⟩, g, by simp only [Cat.cells, ownP, List.length_replicate]; assumption, ⟨by assumption, by assumption, by assumption, by assumption, by omega, by omega, by omega, by omega, by omega, by omega, by omega, (f.st rk (.cons (f.lowNe (by omega)) (.nil _ _))).low (by omega), by first | exact f.lowNe (by omega) | exact f.ne (by omega), by first | exact f.lowNe (by omega) | exact f.ne (by omega), by first | exact f.lowNe (by omega) | exact f.ne (by omega)⟩⟩
     refine .call1 rfl rfl rfl rfl rfl @Try.call109 rfl (l01Own2O_c (hl2 := n5)) ?_
     rintro _ s7 ⟨l4, g12x7, rr12x7, rfl, j1, ge12x7, f⟩
     have rk := St.refl [g2] s7
     replace e := e.trans l4
     refine ⟨e, ?_⟩
     replace g := g.le l4
     replace j := l4.2 _ _ j
     replace h := l4.2 _ _ h
     replace c7 := l4.2 _ _ c7
     have lt_at12x7 := GHeap.ltg j1
     refine .c1 rfl rfl rfl rfl (.litA rfl sl_24_A ze_2_Pa rfl rfl rfl rfl) ?_
     rintro _ H10x7 ⟨g10x7, rfl, e9, ge10x7, o6⟩
     replace e := e.trans e9
     refine ⟨e, ?_⟩
     replace g := g.le e9
     replace rk := rk.le e9
     replace j := e9.2 _ _ j
     replace h := e9.2 _ _ h
     replace c7 := e9.2 _ _ c7
     replace j1 := e9.2 _ _ j1
     refine .qB rfl e (.build bt_27_Hj rfl rfl rfl) ?_
     refine .r0 rfl rfl rfl (.fillA rfl sz_27_D rfl rfl rfl rfl) ?_
     rintro _ H2008x8 ⟨rfl, b9, at2008x8⟩
     replace g := g.sA b9
     replace rk := rk.sA b9
     have o : NE n9 g2 := .a
     replace h := b9.s h o.ne
     have f4 : NE t0 g2 := .a
     replace c7 := b9.s c7 f4.ne
     replace j1 := b9.s j1
     replace o6 := b9.s o6
     refine .done ?_
     exact ⟨_, _, _, _, _, ⟨rfl, rfl, rfl, rfl, rfl, trivial⟩, g, by simp only [Cat.cells, ownP, List.length_replicate]; assumption, ⟨by assumption, by assumption, by assumption, by assumption, by omega, by omega, by omega, by omega, by omega, by omega, by omega, (f.st rk (.cons (f.lowNe (by omega)) (.nil _ _))).low (by omega), by first | exact f.lowNe (by omega) | exact f.ne (by omega), by first | exact f.lowNe (by omega) | exact f.ne (by omega), by first | exact f.lowNe (by omega) | exact f.ne (by omega)⟩⟩
    refine .orI ?_ ?_
    ·
     refine .c1 rfl rfl rfl rfl (.litA rfl sl_24_A ze_2_Pa rfl rfl rfl rfl) ?_
     rintro _ H10x8 ⟨p8, rfl, h2, ge10x8, w⟩
     replace e := e.trans h2
     refine ⟨e, ?_⟩
     have nx_H10x8 := h2.1
     replace a1 := a1.trans h2
     replace g := g.le h2
     replace j := h2.2 _ _ j
     replace h := h2.2 _ _ h
     have lt_at10x8 := GHeap.ltg w
     replace hin := n.mono a1
     refine .orI ?_ ?_
     ·
      refine .c1 rfl rfl rfl rfl (.makeIN rfl sl_24_A ze_2_Pa by_2_Pa rfl rfl (by omega) (by omega) (by omega)) ?_
      rintro _ H7x3 ⟨g7x3, rfl, k7, ge7x3, m8⟩
      replace e := e.trans k7
      refine ⟨e, ?_⟩
      have nx_H7x3 := k7.1
      replace a1 := a1.trans k7
      replace g := g.le k7
      replace j := k7.2 _ _ j
      replace h := k7.2 _ _ h
      replace w := k7.2 _ _ w
      have lt_at7x3 := GHeap.ltg m8
      replace hin := n.mono a1
      refine .call1 rfl rfl rfl rfl rfl @Try.call109 rfl (l01Own2O_c (hl2 := n5)) ?_
      rintro _ r9 ⟨i1, g12x8, rr12x8, rfl, o8, ge12x8, f⟩
      have rk := St.refl [g2] r9
      replace e := e.trans i1
      refine ⟨e, ?_⟩
      replace g := g.le i1
      replace j := i1.2 _ _ j
      replace h := i1.2 _ _ h
      replace w := i1.2 _ _ w
      replace m8 := i1.2 _ _ m8
      refine .qB rfl e (.build bt_27_Hj rfl rfl rfl) ?_
      refine .r0 rfl rfl rfl (.fillA rfl sz_27_D rfl rfl rfl rfl) ?_
      rintro _ H2008x9 ⟨rfl, c3, at2008x9⟩
      replace g := g.sA c3
      replace rk := rk.sA c3
      have o : NE n9 g2 := .a
      replace h := c3.s h o.ne
      have d9 : NE p8 g2 := .a
      replace w := c3.s w d9.ne
      replace m8 := c3.s m8
      replace o8 := c3.s o8
      refine .done ?_
      exact ⟨_, _, _, _, _, ⟨rfl, rfl, rfl, rfl, rfl, trivial⟩, g, by simp only [Cat.cells, ownP, List.length_replicate]; assumption, ⟨by assumption, by assumption, by assumption, by assumption, by omega, by omega, by omega, by omega, by omega, by omega, by omega, (f.st rk (.cons (f.lowNe (by omega)) (.nil _ _))).low (by omega), by first | exact f.lowNe (by omega) | exact f.ne (by omega), by first | exact f.lowNe (by omega) | exact f.ne (by omega), by first | exact f.lowNe (by omega) | exact f.ne (by omega)⟩⟩
     refine .call1 rfl rfl rfl rfl rfl @Try.call109 rfl (l01Own2O_c (hl2 := n5)) ?_
     rintro _ t2 ⟨j5, g12x9, rr12x9, rfl, k1, ge12x9, f⟩
     have rk := St.refl [g2] t2
     replace e := e.trans j5
     refine ⟨e, ?_⟩
     replace g := g.le j5
     replace j := j5.2 _ _ j
     replace h := j5.2 _ _ h
     replace w := j5.2 _ _ w
     have lt_at12x9 := GHeap.ltg k1
     refine .c1 rfl rfl rfl rfl (.makeIN rfl sl_24_A ze_2_Pa by_2_Pa rfl rfl (by omega) (by omega) (by omega)) ?_
     rintro _ H7x4 ⟨g7x4, rfl, k3, ge7x4, q8⟩
     replace e := e.trans k3
     refine ⟨e, ?_⟩
     replace g := g.le k3
     replace rk := rk.le k3
     replace j := k3.2 _ _ j
     replace h := k3.2 _ _ h
     replace w := k3.2 _ _ w
     replace k1 := k3.2 _ _ k1
     refine .qB rfl e (.build bt_27_Hj rfl rfl rfl) ?_
     refine .r0 rfl rfl rfl (.fillA rfl sz_27_D rfl rfl rfl rfl) ?_
     rintro _ H2008x10 ⟨rfl, b2, at2008x10⟩
     replace g := g.sA b2
     replace rk := rk.sA b2
     have o : NE n9 g2 := .a
     replace h := b2.s h o.ne
     have d9 : NE p8 g2 := .a
     replace w := b2.s w d9.ne
     replace k1 := b2.s k1
     replace q8 := b2.s q8
     refine .done ?_
     exact ⟨_, _, _, _, _, ⟨rfl, rfl, rfl, rfl, rfl, trivial⟩, g, by simp only [Cat.cells, ownP, List.length_replicate]; assumption, ⟨by assumption, by assumption, by assumption, by assumption, by omega, by omega, by omega, by omega, by omega, by omega, by omega, (f.st rk (.cons (f.lowNe (by omega)) (.nil _ _))).low (by omega), by first | exact f.lowNe (by omega) | exact f.ne (by omega), by first | exact f.lowNe (by omega) | exact f.ne (by omega), by first | exact f.lowNe (by omega) | exact f.ne (by omega)⟩⟩
    refine .call1 rfl rfl rfl rfl rfl @Try.call109 rfl (l01Own2O_c (hl2 := n5)) ?_
    rintro _ r2 ⟨i6, o0, rr12x10, rfl, t, ge12x10, f⟩
    have rk := St.refl [g2] r2
    replace e := e.trans i6
    refine ⟨e, ?_⟩
    replace g := g.le i6
    replace j := i6.2 _ _ j
    replace h := i6.2 _ _ h
    have lt_at12x10 := GHeap.ltg t
    refine .orI ?_ ?_
    ·
     refine .c1 rfl rfl rfl rfl (.makeIN rfl sl_24_A ze_2_Pa by_2_Pa rfl rfl (by omega) (by omega) (by omega)) ?_
     rintro _ H7x5 ⟨g7x5, rfl, l9, ge7x5, m7⟩
     replace e := e.trans l9
     refine ⟨e, ?_⟩
     replace g := g.le l9
     replace rk := rk.le l9
     replace j := l9.2 _ _ j
     replace h := l9.2 _ _ h
     replace t := l9.2 _ _ t
     have lt_at7x5 := GHeap.ltg m7
     refine .c1 rfl rfl rfl rfl (.litA rfl sl_24_A ze_2_Pa rfl rfl rfl rfl) ?_
     rintro _ H10x9 ⟨g10x9, rfl, f1, ge10x9, o9⟩
     replace e := e.trans f1
     refine ⟨e, ?_⟩
     replace g := g.le f1
     replace rk := rk.le f1
     replace j := f1.2 _ _ j
     replace h := f1.2 _ _ h
     replace t := f1.2 _ _ t
     replace m7 := f1.2 _ _ m7
     refine .qB rfl e (.build bt_27_Hj rfl rfl rfl) ?_
     refine .r0 rfl rfl rfl (.fillA rfl sz_27_D rfl rfl rfl rfl) ?_
     rintro _ H2008x11 ⟨rfl, a4, at2008x11⟩
     replace g := g.sA a4
     replace rk := rk.sA a4
     have o : NE n9 g2 := .a
     replace h := a4.s h o.ne
     have d2 : NE o0 g2 := .a
     replace t := a4.s t d2.ne
     replace m7 := a4.s m7
     replace o9 := a4.s o9
     refine .done ?_
     exact ⟨_, _, _, _, _, ⟨rfl, rfl, rfl, rfl, rfl, trivial⟩, g, by simp only [Cat.cells, ownP, List.length_replicate]; assumption, ⟨by assumption, by assumption, by assumption, by assumption, by omega, by omega, by omega, by omega, by omega, by omega, by omega, (f.st rk (.cons (f.lowNe (by omega)) (.nil _ _))).low (by omega), by first | exact f.lowNe (by omega) | exact f.ne (by omega), by first | exact f.lowNe (by omega) | exact f.ne (by omega), by first | exact f.lowNe (by omega) | exact f.ne (by omega)⟩⟩
    refine .c1 rfl rfl rfl rfl (.litA rfl sl_24_A ze_2_Pa rfl rfl rfl rfl) ?_
    rintro _ H10x10 ⟨g10x10, rfl, e4, ge10x10, h0⟩
    replace e := e.trans e4
    refine ⟨e, ?_⟩
    replace g := g.le e4
    replace rk := rk.le e4
    replace j := e4.2 _ _ j
    replace h := e4.2 _ _ h
    replace t := e4.2 _ _ t
    have lt_at10x10 := GHeap.ltg h0
    refine .c1 rfl rfl rfl rfl (.makeIN rfl sl_24_A ze_2_Pa by_2_Pa rfl rfl (by omega) (by omega) (by omega)) ?_
    rintro _ H7x6 ⟨g7x6, rfl, j6, ge7x6, p9⟩
    replace e := e.trans j6
    refine ⟨e, ?_⟩
    replace g := g.le j6
    replace rk := rk.le j6
    replace j := j6.2 _ _ j
    replace h := j6.2 _ _ h
    replace t := j6.2 _ _ t
    replace h0 := j6.2 _ _ h0
    refine .qB rfl e (.build bt_27_Hj rfl rfl rfl) ?_
    refine .r0 rfl rfl rfl (.fillA rfl sz_27_D rfl rfl rfl rfl) ?_
    rintro _ H2008x12 ⟨rfl, b1, at2008x12⟩
    replace g := g.sA b1
    replace rk := rk.sA b1
    have o : NE n9 g2 := .a
    replace h := b1.s h o.ne
    have d2 : NE o0 g2 := .a
    replace t := b1.s t d2.ne
    replace h0 := b1.s h0
    replace p9 := b1.s p9
    refine .done ?_
    exact ⟨_, _, _, _, _, ⟨rfl, rfl, rfl, rfl, rfl, trivial⟩, g, by simp only [Cat.cells, ownP, List.length_replicate]; assumption, ⟨by assumption, by assumption, by assumption, by assumption, by omega, by omega, by omega, by omega, by omega, by omega, by omega, (f.st rk (.cons (f.lowNe (by omega)) (.nil _ _))).low (by omega), by first | exact f.lowNe (by omega) | exact f.ne (by omega), by first | exact f.lowNe (by omega) | exact f.ne (by omega), by first | exact f.lowNe (by omega) | exact f.ne (by omega)⟩⟩
   refine .orI ?_ ?_
   ·
    refine .c1 rfl rfl rfl rfl (.litA rfl sl_24_A ze_2_Pa rfl rfl rfl rfl) ?_
    rintro _ H10x11 ⟨h7, rfl, g0, ge10x11, b⟩
    have e := g0
    refine ⟨e, ?_⟩
    have nx_H10x11 := g0.1
    replace a1 := a1.trans g0
    replace g := g.le g0
    replace j := g0.2 _ _ j
    have lt_at10x11 := GHeap.ltg b
    replace hin := n.mono a1
    refine .orI ?_ ?_
    ·
     refine .c1 rfl rfl rfl rfl (.makeIN rfl sl_24_A ze_2_Pa by_2_Pa rfl rfl (by omega) (by omega) (by omega)) ?_
     rintro _ H7x7 ⟨s8, rfl, l8, ge7x7, c4⟩
     replace e := e.trans l8
     refine ⟨e, ?_⟩
     have nx_H7x7 := l8.1
     replace a1 := a1.trans l8
     replace g := g.le l8
     replace j := l8.2 _ _ j
     replace b := l8.2 _ _ b
     have lt_at7x7 := GHeap.ltg c4
     replace hin := n.mono a1
     refine .orI ?_ ?_
     ·
      refine .c1 rfl rfl rfl rfl (.makeIN rfl sl_24_A ze_2_Pa by_2_Pa rfl rfl (by omega) (by omega) (by omega)) ?_
      rintro _ H9x7 ⟨g9x7, rfl, j4, ge9x7, m9⟩
      replace e := e.trans j4
      refine ⟨e, ?_⟩
      have nx_H9x7 := j4.1
      replace a1 := a1.trans j4
      replace g := g.le j4
      replace j := j4.2 _ _ j
      replace b := j4.2 _ _ b
      replace c4 := j4.2 _ _ c4
      have lt_at9x7 := GHeap.ltg m9
      replace hin := n.mono a1
      refine .call1 rfl rfl rfl rfl rfl @Try.call109 rfl (l01Own2O_c (hl2 := n5)) ?_
      rintro _ r4 ⟨e1, g12x11, rr12x11, rfl, n3, ge12x11, f⟩
      have rk := St.refl [g2] r4
      replace e := e.trans e1
      refine ⟨e, ?_⟩
      replace g := g.le e1
      replace j := e1.2 _ _ j
      replace b := e1.2 _ _ b
      replace c4 := e1.2 _ _ c4
      replace m9 := e1.2 _ _ m9
      refine .qB rfl e (.build bt_27_Hj rfl rfl rfl) ?_
      refine .r0 rfl rfl rfl (.fillA rfl sz_27_D rfl rfl rfl rfl) ?_
      rintro _ H2008x13 ⟨rfl, b3, at2008x13⟩
      replace g := g.sA b3
      replace rk := rk.sA b3
      have m : NE h7 g2 := .a
      replace b := b3.s b m.ne
      have f0 : NE s8 g2 := .a
      replace c4 := b3.s c4 f0.ne
      replace m9 := b3.s m9
      replace n3 := b3.s n3
      refine .done ?_
      exact ⟨_, _, _, _, _, ⟨rfl, rfl, rfl, rfl, rfl, trivial⟩, g, by simp only [Cat.cells, ownP, List.length_replicate]; assumption, ⟨by assumption, by assumption, by assumption, by assumption, by omega, by omega, by omega, by omega, by omega, by omega, by omega, (f.st rk (.cons (f.lowNe (by omega)) (.nil _ _))).low (by omega), by first | exact f.lowNe (by omega) | exact f.ne (by omega), by first | exact f.lowNe (by omega) | exact f.ne (by omega), by first | exact f.lowNe (by omega) | exact f.ne (by omega)⟩⟩
     refine .call1 rfl rfl rfl rfl rfl @Try.call109 rfl (l01Own2O_c (hl2 := n5)) ?_
     rintro _ r1 ⟨g4, g12x12, rr12x12, rfl, g5, ge12x12, f⟩
     have rk := St.refl [g2] r1
     replace e := e.trans g4
     refine ⟨e, ?_⟩
     replace g := g.le g4
     replace j := g4.2 _ _ j
     replace b := g4.2 _ _ b
     replace c4 := g4.2 _ _ c4
     have lt_at12x12 := GHeap.ltg g5
     refine .c1 rfl rfl rfl rfl (.makeIN rfl sl_24_A ze_2_Pa by_2_Pa rfl rfl (by omega) (by omega) (by omega)) ?_
     rintro _ H9x8 ⟨g9x8, rfl, k2, ge9x8, q1⟩
     replace e := e.trans k2
     refine ⟨e, ?_⟩
     replace g := g.le k2
     replace rk := rk.le k2
     replace j := k2.2 _ _ j
     replace b := k2.2 _ _ b
     replace c4 := k2.2 _ _ c4
     replace g5 := k2.2 _ _ g5
     refine .qB rfl e (.build bt_27_Hj rfl rfl rfl) ?_
     refine .r0 rfl rfl rfl (.fillA rfl sz_27_D rfl rfl rfl rfl) ?_
     rintro _ H2008x14 ⟨rfl, b0, at2008x14⟩
     replace g := g.sA b0
     replace rk := rk.sA b0
     have m : NE h7 g2 := .a
     replace b := b0.s b m.ne
     have f0 : NE s8 g2 := .a
     replace c4 := b0.s c4 f0.ne
     replace g5 := b0.s g5
     replace q1 := b0.s q1
     refine .done ?_
     exact ⟨_, _, _, _, _, ⟨rfl, rfl, rfl, rfl, rfl, trivial⟩, g, by simp only [Cat.cells, ownP, List.length_replicate]; assumption, ⟨by assumption, by assumption, by assumption, by assumption, by omega, by omega, by omega, by omega, by omega, by omega, by omega, (f.st rk (.cons (f.lowNe (by omega)) (.nil _ _))).low (by omega), by first | exact f.lowNe (by omega) | exact f.ne (by omega), by first | exact f.lowNe (by omega) | exact f.ne (by omega), by first | exact f.lowNe (by omega) | exact f.ne (by omega)⟩⟩
    refine .orI ?_ ?_
    ·
     refine .c1 rfl rfl rfl rfl (.makeIN rfl sl_24_A ze_2_Pa by_2_Pa rfl rfl (by omega) (by omega) (by omega)) ?_
     rintro _ H9x9 ⟨s3, rfl, m1, ge9x9, b8⟩
     replace e := e.trans m1
     refine ⟨e, ?_⟩
     have nx_H9x9 := m1.1
     replace a1 := a1.trans m1
     replace g := g.le m1
     replace j := m1.2 _ _ j
     replace b := m1.2 _ _ b
     have lt_at9x9 := GHeap.ltg b8
     replace hin := n.mono a1
     refine .orI ?_ ?_
     ·
      refine .c1 rfl rfl rfl rfl (.makeIN rfl sl_24_A ze_2_Pa by_2_Pa rfl rfl (by omega) (by omega) (by omega)) ?_
      rintro _ H7x8 ⟨g7x8, rfl, l0, ge7x8, m6⟩
      replace e := e.trans l0
      refine ⟨e, ?_⟩
      have nx_H7x8 := l0.1
      replace a1 := a1.trans l0
      replace g := g.le l0
      replace j := l0.2 _ _ j
      replace b := l0.2 _ _ b
      replace b8 := l0.2 _ _ b8
      have lt_at7x8 := GHeap.ltg m6
      replace hin := n.mono a1
      refine .call1 rfl rfl rfl rfl rfl @Try.call109 rfl (l01Own2O_c (hl2 := n5)) ?_
      rintro _ r6 ⟨e3, g12x13, rr12x13, rfl, n4, ge12x13, f⟩
      have rk := St.refl [g2] r6
      replace e := e.trans e3
      refine ⟨e, ?_⟩
      replace g := g.le e3
      replace j := e3.2 _ _ j
      replace b := e3.2 _ _ b
      replace b8 := e3.2 _ _ b8
      replace m6 := e3.2 _ _ m6
      refine .qB rfl e (.build bt_27_Hj rfl rfl rfl) ?_
      refine .r0 rfl rfl rfl (.fillA rfl sz_27_D rfl rfl rfl rfl) ?_
      rintro _ H2008x15 ⟨rfl, b4, at2008x15⟩
      replace g := g.sA b4
      replace rk := rk.sA b4
      have m : NE h7 g2 := .a
      replace b := b4.s b m.ne
      have f2 : NE s3 g2 := .a
      replace b8 := b4.s b8 f2.ne
      replace m6 := b4.s m6
      replace n4 := b4.s n4
      refine .done ?_
      exact ⟨_, _, _, _, _, ⟨rfl, rfl, rfl, rfl, rfl, trivial⟩, g, by simp only [Cat.cells, ownP, List.length_replicate]; assumption, ⟨by assumption, by assumption, by assumption, by assumption, by omega, by omega, by omega, by omega, by omega, by omega, by omega, (f.st rk (.cons (f.lowNe (by omega)) (.nil _ _))).low (by omega), by first | exact f.lowNe (by omega) | exact f.ne (by omega), by first | exact f.lowNe (by omega) | exact f.ne (by omega), by first | exact f.lowNe (by omega) | exact f.ne (by omega)⟩⟩
     refine .call1 rfl rfl rfl rfl rfl @Try.call109 rfl (l01Own2O_c (hl2 := n5)) ?_
     rintro _ r5 ⟨g6, g12x14, rr12x14, rfl, g3, ge12x14, f⟩
     have rk := St.refl [g2] r5
     replace e := e.trans g6
     refine ⟨e, ?_⟩
     replace g := g.le g6
     replace j := g6.2 _ _ j
     replace b := g6.2 _ _ b
     replace b8 := g6.2 _ _ b8
     have lt_at12x14 := GHeap.ltg g3
     refine .c1 rfl rfl rfl rfl (.makeIN rfl sl_24_A ze_2_Pa by_2_Pa rfl rfl (by omega) (by omega) (by omega)) ?_
     rintro _ H7x9 ⟨g7x9, rfl, i9, ge7x9, q7⟩
     replace e := e.trans i9
     refine ⟨e, ?_⟩
     replace g := g.le i9
     replace rk := rk.le i9
     replace j := i9.2 _ _ j
     replace b := i9.2 _ _ b
     replace b8 := i9.2 _ _ b8
     replace g3 := i9.2 _ _ g3
     refine .qB rfl e (.build bt_27_Hj rfl rfl rfl) ?_
     refine .r0 rfl rfl rfl (.fillA rfl sz_27_D rfl rfl rfl rfl) ?_
     rintro _ H2008x16 ⟨rfl, a9, at2008x16⟩
     replace g := g.sA a9
     replace rk := rk.sA a9
     have m : NE h7 g2 := .a
     replace b := a9.s b m.ne
     have f2 : NE s3 g2 := .a
     replace b8 := a9.s b8 f2.ne
     replace g3 := a9.s g3
     replace q7 := a9.s q7
     refine .done ?_
     exact ⟨_, _, _, _, _, ⟨rfl, rfl, rfl, rfl, rfl, trivial⟩, g, by simp only [Cat.cells, ownP, List.length_replicate]; assumption, ⟨by assumption, by assumption, by assumption, by assumption, by omega, by omega, by omega, by omega, by omega, by omega, by omega, (f.st rk (.cons (f.lowNe (by omega)) (.nil _ _))).low (by omega), by first | exact f.lowNe (by omega) | exact f.ne (by omega), by first | exact f.lowNe (by omega) | exact f.ne (by omega), by first | exact f.lowNe (by omega) | exact f.ne (by omega)⟩⟩
    refine .call1 rfl rfl rfl rfl rfl @Try.call109 rfl (l01Own2O_c (hl2 := n5)) ?_
    rintro _ q9 ⟨i7, o7, rr12x15, rfl, v, ge12x15, f⟩
    have rk := St.refl [g2] q9
    replace e := e.trans i7
    refine ⟨e, ?_⟩
    replace g := g.le i7
    replace j := i7.2 _ _ j
    replace b := i7.2 _ _ b
    have lt_at12x15 := GHeap.ltg v
    refine .orI ?_ ?_
    ·
     refine .c1 rfl rfl rfl rfl (.makeIN rfl sl_24_A ze_2_Pa by_2_Pa rfl rfl (by omega) (by omega) (by omega)) ?_
     rintro _ H7x10 ⟨g7x10, rfl, h3, ge7x10, l3⟩
     replace e := e.trans h3
     refine ⟨e, ?_⟩
     replace g := g.le h3
     replace rk := rk.le h3
     replace j := h3.2 _ _ j
     replace b := h3.2 _ _ b
     replace v := h3.2 _ _ v
     have lt_at7x10 := GHeap.ltg l3
     refine .c1 rfl rfl rfl rfl (.makeIN rfl sl_24_A ze_2_Pa by_2_Pa rfl rfl (by omega) (by omega) (by omega)) ?_
     rintro _ H9x10 ⟨g9x10, rfl, f5, ge9x10, p2⟩
     replace e := e.trans f5
     refine ⟨e, ?_⟩
     replace g := g.le f5
     replace rk := rk.le f5
     replace j := f5.2 _ _ j
     replace b := f5.2 _ _ b
     replace v := f5.2 _ _ v
     replace l3 := f5.2 _ _ l3
     refine .qB rfl e (.build bt_27_Hj rfl rfl rfl) ?_
     refine .r0 rfl rfl rfl (.fillA rfl sz_27_D rfl rfl rfl rfl) ?_
     rintro _ H2008x17 ⟨rfl, a3, at2008x17⟩
     replace g := g.sA a3
     replace rk := rk.sA a3
     have m : NE h7 g2 := .a
     replace b := a3.s b m.ne
     have d4 : NE o7 g2 := .a
     replace v := a3.s v d4.ne
     replace l3 := a3.s l3
     replace p2 := a3.s p2
     refine .done ?_
     exact ⟨_, _, _, _, _, ⟨rfl, rfl, rfl, rfl, rfl, trivial⟩, g, by simp only [Cat.cells, ownP, List.length_replicate]; assumption, ⟨by assumption, by assumption, by assumption, by assumption, by omega, by omega, by omega, by omega, by omega, by omega, by omega, (f.st rk (.cons (f.lowNe (by omega)) (.nil _ _))).low (by omega), by first | exact f.lowNe (by omega) | exact f.ne (by omega), by first | exact f.lowNe (by omega) | exact f.ne (by omega), by first | exact f.lowNe (by omega) | exact f.ne (by omega)⟩⟩
    refine .c1 rfl rfl rfl rfl (.makeIN rfl sl_24_A ze_2_Pa by_2_Pa rfl rfl (by omega) (by omega) (by omega)) ?_
    rintro _ H9x11 ⟨g9x11, rfl, h6, ge9x11, k9⟩
    replace e := e.trans h6
    refine ⟨e, ?_⟩
    replace g := g.le h6
    replace rk := rk.le h6
    replace j := h6.2 _ _ j
    replace b := h6.2 _ _ b
    replace v := h6.2 _ _ v
    have lt_at9x11 := GHeap.ltg k9
    refine .c1 rfl rfl rfl rfl (.makeIN rfl sl_24_A ze_2_Pa by_2_Pa rfl rfl (by omega) (by omega) (by omega)) ?_
    rintro _ H7x11 ⟨g7x11, rfl, f3, ge7x11, o5⟩
    replace e := e.trans f3
    refine ⟨e, ?_⟩
    replace g := g.le f3
    replace rk := rk.le f3
    replace j := f3.2 _ _ j
    replace b := f3.2 _ _ b
    replace v := f3.2 _ _ v
    replace k9 := f3.2 _ _ k9
    refine .qB rfl e (.build bt_27_Hj rfl rfl rfl) ?_
    refine .r0 rfl rfl rfl (.fillA rfl sz_27_D rfl rfl rfl rfl) ?_
    rintro _ H2008x18 ⟨rfl, a7, at2008x18⟩
    replace g := g.sA a7
    replace rk := rk.sA a7
    have m : NE h7 g2 := .a
    replace b := a7.s b m.ne
    have d4 : NE o7 g2 := .a
    replace v := a7.s v d4.ne
    replace k9 := a7.s k9
    replace o5 := a7.s o5
    refine .done ?_
    exact ⟨_, _, _, _, _, ⟨rfl, rfl, rfl, rfl, rfl, trivial⟩, g, by simp only [Cat.cells, ownP, List.length_replicate]; assumption, ⟨by assumption, by assumption, by assumption, by assumption, by omega, by omega, by omega, by omega, by omega, by omega, by omega, (f.st rk (.cons (f.lowNe (by omega)) (.nil _ _))).low (by omega), by first | exact f.lowNe (by omega) | exact f.ne (by omega), by first | exact f.lowNe (by omega) | exact f.ne (by omega), by first | exact f.lowNe (by omega) | exact f.ne (by omega)⟩⟩
   refine .call1 rfl rfl rfl rfl rfl @Try.call109 rfl (l01Own2O_c (hl2 := n5)) ?_
   rintro _ r3 ⟨m3, h9, rr12x16, rfl, d, ge12x16, f⟩
   have rk := St.refl [g2] r3
   have e := m3
   refine ⟨e, ?_⟩
   replace g := g.le m3
   replace j := m3.2 _ _ j
   have lt_at12x16 := GHeap.ltg d
   refine .orI ?_ ?_
   ·
    refine .c1 rfl rfl rfl rfl (.makeIN rfl sl_24_A ze_2_Pa by_2_Pa rfl rfl (by omega) (by omega) (by omega)) ?_
    rintro _ H7x12 ⟨q6, rfl, j2, ge7x12, a0⟩
    replace e := e.trans j2
    refine ⟨e, ?_⟩
    replace g := g.le j2
    replace rk := rk.le j2
    replace j := j2.2 _ _ j
    replace d := j2.2 _ _ d
    have lt_at7x12 := GHeap.ltg a0
    refine .orI ?_ ?_
    ·
     refine .c1 rfl rfl rfl rfl (.makeIN rfl sl_24_A ze_2_Pa by_2_Pa rfl rfl (by omega) (by omega) (by omega)) ?_
     rintro _ H9x12 ⟨g9x12, rfl, i4, ge9x12, l1⟩
     replace e := e.trans i4
     refine ⟨e, ?_⟩
     replace g := g.le i4
     replace rk := rk.le i4
     replace j := i4.2 _ _ j
     replace d := i4.2 _ _ d
     replace a0 := i4.2 _ _ a0
     have lt_at9x12 := GHeap.ltg l1
     refine .c1 rfl rfl rfl rfl (.litA rfl sl_24_A ze_2_Pa rfl rfl rfl rfl) ?_
     rintro _ H10x12 ⟨g10x12, rfl, d1, ge10x12, n2⟩
     replace e := e.trans d1
     refine ⟨e, ?_⟩
     replace g := g.le d1
     replace rk := rk.le d1
     replace j := d1.2 _ _ j
     replace d := d1.2 _ _ d
     replace a0 := d1.2 _ _ a0
     replace l1 := d1.2 _ _ l1
     refine .qB rfl e (.build bt_27_Hj rfl rfl rfl) ?_
     refine .r0 rfl rfl rfl (.fillA rfl sz_27_D rfl rfl rfl rfl) ?_
     rintro _ H2008x19 ⟨rfl, a6, at2008x19⟩
     replace g := g.sA a6
     replace rk := rk.sA a6
     have l : NE h9 g2 := .a
     replace d := a6.s d l.ne
     have d6 : NE q6 g2 := .a
     replace a0 := a6.s a0 d6.ne
     replace l1 := a6.s l1
     replace n2 := a6.s n2
     refine .done ?_
     exact ⟨_, _, _, _, _, ⟨rfl, rfl, rfl, rfl, rfl, trivial⟩, g, by simp only [Cat.cells, ownP, List.length_replicate]; assumption, ⟨by assumption, by assumption, by assumption, by assumption, by omega, by omega, by omega, by omega, by omega, by omega, by omega, (f.st rk (.cons (f.lowNe (by omega)) (.nil _ _))).low (by omega), by first | exact f.lowNe (by omega) | exact f.ne (by omega), by first | exact f.lowNe (by omega) | exact f.ne (by omega), by first | exact f.lowNe (by omega) | exact f.ne (by omega)⟩⟩
    refine .c1 rfl rfl rfl rfl (.litA rfl sl_24_A ze_2_Pa rfl rfl rfl rfl) ?_
    rintro _ H10x13 ⟨g10x13, rfl, e2, ge10x13, g8⟩
    replace e := e.trans e2
    refine ⟨e, ?_⟩
    replace g := g.le e2
    replace rk := rk.le e2
    replace j := e2.2 _ _ j
    replace d := e2.2 _ _ d
    replace a0 := e2.2 _ _ a0
    have lt_at10x13 := GHeap.ltg g8
    refine .c1 rfl rfl rfl rfl (.makeIN rfl sl_24_A ze_2_Pa by_2_Pa rfl rfl (by omega) (by omega) (by omega)) ?_
    rintro _ H9x13 ⟨g9x13, rfl, e8, ge9x13, p6⟩
    replace e := e.trans e8
    refine ⟨e, ?_⟩
    replace g := g.le e8
    replace rk := rk.le e8
    replace j := e8.2 _ _ j
    replace d := e8.2 _ _ d
    replace a0 := e8.2 _ _ a0
    replace g8 := e8.2 _ _ g8
    refine .qB rfl e (.build bt_27_Hj rfl rfl rfl) ?_
    refine .r0 rfl rfl rfl (.fillA rfl sz_27_D rfl rfl rfl rfl) ?_
    rintro _ H2008x20 ⟨rfl, b6, at2008x20⟩
    replace g := g.sA b6
    replace rk := rk.sA b6
    have l : NE h9 g2 := .a
    replace d := b6.s d l.ne
    have d6 : NE q6 g2 := .a
    replace a0 := b6.s a0 d6.ne
    replace g8 := b6.s g8
    replace p6 := b6.s p6
    refine .done ?_
    exact ⟨_, _, _, _, _, ⟨rfl, rfl, rfl, rfl, rfl, trivial⟩, g, by simp only [Cat.cells, ownP, List.length_replicate]; assumption, ⟨by assumption, by assumption, by assumption, by assumption, by omega, by omega, by omega, by omega, by omega, by omega, by omega, (f.st rk (.cons (f.lowNe (by omega)) (.nil _ _))).low (by omega), by first | exact f.lowNe (by omega) | exact f.ne (by omega), by first | exact f.lowNe (by omega) | exact f.ne (by omega), by first | exact f.lowNe (by omega) | exact f.ne (by omega)⟩⟩
   refine .orI ?_ ?_
   ·
    refine .c1 rfl rfl rfl rfl (.makeIN rfl sl_24_A ze_2_Pa by_2_Pa rfl rfl (by omega) (by omega) (by omega)) ?_
    rintro _ H9x14 ⟨q4, rfl, j7, ge9x14, y⟩
    replace e := e.trans j7
    refine ⟨e, ?_⟩
    replace g := g.le j7
    replace rk := rk.le j7
    replace j := j7.2 _ _ j
    replace d := j7.2 _ _ d
    have lt_at9x14 := GHeap.ltg y
    refine .orI ?_ ?_
    ·
     refine .c1 rfl rfl rfl rfl (.makeIN rfl sl_24_A ze_2_Pa by_2_Pa rfl rfl (by omega) (by omega) (by omega)) ?_
     rintro _ H7x13 ⟨g7x13, rfl, h4, ge7x13, j3⟩
     replace e := e.trans h4
     refine ⟨e, ?_⟩
     replace g := g.le h4
     replace rk := rk.le h4
     replace j := h4.2 _ _ j
     replace d := h4.2 _ _ d
     replace y := h4.2 _ _ y
     have lt_at7x13 := GHeap.ltg j3
     refine .c1 rfl rfl rfl rfl (.litA rfl sl_24_A ze_2_Pa rfl rfl rfl rfl) ?_
     rintro _ H10x14 ⟨g10x14, rfl, d3, ge10x14, n6⟩
     replace e := e.trans d3
     refine ⟨e, ?_⟩
     replace g := g.le d3
     replace rk := rk.le d3
     replace j := d3.2 _ _ j
     replace d := d3.2 _ _ d
     replace y := d3.2 _ _ y
     replace j3 := d3.2 _ _ j3
     refine .qB rfl e (.build bt_27_Hj rfl rfl rfl) ?_
     refine .r0 rfl rfl rfl (.fillA rfl sz_27_D rfl rfl rfl rfl) ?_
     rintro _ H2008x21 ⟨rfl, a5, at2008x21⟩
     replace g := g.sA a5
     replace rk := rk.sA a5
     have l : NE h9 g2 := .a
     replace d := a5.s d l.ne
     have d7 : NE q4 g2 := .a
     replace y := a5.s y d7.ne
     replace j3 := a5.s j3
     replace n6 := a5.s n6
     refine .done ?_
     exact ⟨_, _, _, _, _, ⟨rfl, rfl, rfl, rfl, rfl, trivial⟩, g, by simp only [Cat.cells, ownP, List.length_replicate]; assumption, ⟨by assumption, by assumption, by assumption, by assumption, by omega, by omega, by omega, by omega, by omega, by omega, by omega, (f.st rk (.cons (f.lowNe (by omega)) (.nil _ _))).low (by omega), by first | exact f.lowNe (by omega) | exact f.ne (by omega), by first | exact f.lowNe (by omega) | exact f.ne (by omega), by first | exact f.lowNe (by omega) | exact f.ne (by omega)⟩⟩
    refine .c1 rfl rfl rfl rfl (.litA rfl sl_24_A ze_2_Pa rfl rfl rfl rfl) ?_
    rintro _ H10x15 ⟨g10x15, rfl, e0, ge10x15, g1⟩
    replace e := e.trans e0
    refine ⟨e, ?_⟩
    replace g := g.le e0
    replace rk := rk.le e0
    replace j := e0.2 _ _ j
    replace d := e0.2 _ _ d
    replace y := e0.2 _ _ y
    have lt_at10x15 := GHeap.ltg g1
    refine .c1 rfl rfl rfl rfl (.makeIN rfl sl_24_A ze_2_Pa by_2_Pa rfl rfl (by omega) (by omega) (by omega)) ?_
    rintro _ H7x14 ⟨g7x14, rfl, e7, ge7x14, p0⟩
    replace e := e.trans e7
    refine ⟨e, ?_⟩
    replace g := g.le e7
    replace rk := rk.le e7
    replace j := e7.2 _ _ j
    replace d := e7.2 _ _ d
    replace y := e7.2 _ _ y
    replace g1 := e7.2 _ _ g1
    refine .qB rfl e (.build bt_27_Hj rfl rfl rfl) ?_
    refine .r0 rfl rfl rfl (.fillA rfl sz_27_D rfl rfl rfl rfl) ?_
    rintro _ H2008x22 ⟨rfl, a8, at2008x22⟩
    replace g := g.sA a8
    replace rk := rk.sA a8
    have l : NE h9 g2 := .a
    replace d := a8.s d l.ne
    have d7 : NE q4 g2 := .a
    replace y := a8.s y d7.ne
    replace g1 := a8.s g1
    replace p0 := a8.s p0
    refine .done ?_
    exact ⟨_, _, _, _, _, ⟨rfl, rfl, rfl, rfl, rfl, trivial⟩, g, by simp only [Cat.cells, ownP, List.length_replicate]; assumption, ⟨by assumption, by assumption, by assumption, by assumption, by omega, by omega, by omega, by omega, by omega, by omega, by omega, (f.st rk (.cons (f.lowNe (by omega)) (.nil _ _))).low (by omega), by first | exact f.lowNe (by omega) | exact f.ne (by omega), by first | exact f.lowNe (by omega) | exact f.ne (by omega), by first | exact f.lowNe (by omega) | exact f.ne (by omega)⟩⟩
   refine .c1 rfl rfl rfl rfl (.litA rfl sl_24_A ze_2_Pa rfl rfl rfl rfl) ?_
   rintro _ H10x16 ⟨o3, rfl, f9, ge10x16, u⟩
   replace e := e.trans f9
   refine ⟨e, ?_⟩
   replace g := g.le f9
   replace rk := rk.le f9
   replace j := f9.2 _ _ j
   replace d := f9.2 _ _ d
   have lt_at10x16 := GHeap.ltg u
   refine .orI ?_ ?_
   ·
    refine .c1 rfl rfl rfl rfl (.makeIN rfl sl_24_A ze_2_Pa by_2_Pa rfl rfl (by omega) (by omega) (by omega)) ?_
    rintro _ H7x15 ⟨g7x15, rfl, h8, ge7x15, i8⟩
    replace e := e.trans h8
    refine ⟨e, ?_⟩
    replace g := g.le h8
    replace rk := rk.le h8
    replace j := h8.2 _ _ j
    replace d := h8.2 _ _ d
    replace u := h8.2 _ _ u
    have lt_at7x15 := GHeap.ltg i8
    refine .c1 rfl rfl rfl rfl (.makeIN rfl sl_24_A ze_2_Pa by_2_Pa rfl rfl (by omega) (by omega) (by omega)) ?_
    rintro _ H9x15 ⟨g9x15, rfl, f8, ge9x15, p1⟩
    replace e := e.trans f8
    refine ⟨e, ?_⟩
    replace g := g.le f8
    replace rk := rk.le f8
    replace j := f8.2 _ _ j
    replace d := f8.2 _ _ d
    replace u := f8.2 _ _ u
    replace i8 := f8.2 _ _ i8
    refine .qB rfl e (.build bt_27_Hj rfl rfl rfl) ?_
    refine .r0 rfl rfl rfl (.fillA rfl sz_27_D rfl rfl rfl rfl) ?_
    rintro _ H2008x23 ⟨rfl, b5, at2008x23⟩
    replace g := g.sA b5
    replace rk := rk.sA b5
    have l : NE h9 g2 := .a
    replace d := b5.s d l.ne
    have d0 : NE o3 g2 := .a
    replace u := b5.s u d0.ne
    replace i8 := b5.s i8
    replace p1 := b5.s p1
    refine .done ?_
    exact ⟨_, _, _, _, _, ⟨rfl, rfl, rfl, rfl, rfl, trivial⟩, g, by simp only [Cat.cells, ownP, List.length_replicate]; assumption, ⟨by assumption, by assumption, by assumption, by assumption, by omega, by omega, by omega, by omega, by omega, by omega, by omega, (f.st rk (.cons (f.lowNe (by omega)) (.nil _ _))).low (by omega), by first | exact f.lowNe (by omega) | exact f.ne (by omega), by first | exact f.lowNe (by omega) | exact f.ne (by omega), by first | exact f.lowNe (by omega) | exact f.ne (by omega)⟩⟩
   refine .c1 rfl rfl rfl rfl (.makeIN rfl sl_24_A ze_2_Pa by_2_Pa rfl rfl (by omega) (by omega) (by omega)) ?_
   rintro _ H9x16 ⟨g9x16, rfl, i3, ge9x16, l2⟩
   replace e := e.trans i3
   refine ⟨e, ?_⟩
   replace g := g.le i3
   replace rk := rk.le i3
   replace j := i3.2 _ _ j
   replace d := i3.2 _ _ d
   replace u := i3.2 _ _ u
   have lt_at9x16 := GHeap.ltg l2
   refine .c1 rfl rfl rfl rfl (.makeIN rfl sl_24_A ze_2_Pa by_2_Pa rfl rfl (by omega) (by omega) (by omega)) ?_
   rintro _ H7x16 ⟨g7x16, rfl, e6, ge7x16, o4⟩
   replace e := e.trans e6
   refine ⟨e, ?_⟩
   replace g := g.le e6
   replace rk := rk.le e6
   replace j := e6.2 _ _ j
   replace d := e6.2 _ _ d
   replace u := e6.2 _ _ u
   replace l2 := e6.2 _ _ l2
   refine .qB rfl e (.build bt_27_Hj rfl rfl rfl) ?_
   refine .r0 rfl rfl rfl (.fillA rfl sz_27_D rfl rfl rfl rfl) ?_
   rintro _ H2008x24 ⟨rfl, a2, at2008x24⟩
   replace g := g.sA a2
   replace rk := rk.sA a2
   have l : NE h9 g2 := .a
   replace d := a2.s d l.ne
   have d0 : NE o3 g2 := .a
   replace u := a2.s u d0.ne
   replace l2 := a2.s l2
   replace o4 := a2.s o4
   refine .done ?_
   exact ⟨_, _, _, _, _, ⟨rfl, rfl, rfl, rfl, rfl, trivial⟩, g, by simp only [Cat.cells, ownP, List.length_replicate]; assumption, ⟨by assumption, by assumption, by assumption, by assumption, by omega, by omega, by omega, by omega, by omega, by omega, by omega, (f.st rk (.cons (f.lowNe (by omega)) (.nil _ _))).low (by omega), by first | exact f.lowNe (by omega) | exact f.ne (by omega), by first | exact f.lowNe (by omega) | exact f.ne (by omega), by first | exact f.lowNe (by omega) | exact f.ne (by omega)⟩⟩
  rintro fr902 H902 ⟨w1, w2, w3, w4, rr, p7, s2, s9, t4⟩
  replace a1 := a1.st s2 (fun k hk => ⟨by omega, trivial⟩)
  refine t9 _ _ ?_
  refine .forget p7 ?_
  refine .ret ?_
  refine t3 _ _ ?_
  refine ⟨_, _, _, _, rfl, ag_27_D, (by rfl), (Mem.of_get s9), ?_⟩
  exact ⟨⟨1, List.replicate T.length 0, List.replicate T.length 0, [0], T⟩, rect_mk (by omega) (by simp; omega) (by simp) (.rep _ (by omega) (by omega)) (.rep _ (by omega) (by omega)) rfl (by unfold Bd; decide) (by simp) (by rw [List.length_replicate]; exact ht.mono (by omega) (by omega)), a1, w1, w2, w3, w4, rr, rfl, t4.low (by omega)⟩
end Go.Proofs.Ytfanjkbaemhbmaa
namespace Go.Proofs.Ytfanjkbaemhbmaa
open Go Go.GL Go.RowKit Go.Proofs
set_option maxHeartbeats 8000000 in
theorem l03Poset_c {a : Option Addr} {r : Nat → Option Addr} {rel : List (List Int)} {H : GHeap} (hin : Intss H a rel r := by assumption) (hn : rel.length ≤ 8) (hr : ∀ i, i < rel.length → (rel.getD i []).length = rel.length) :
    GCalls Try.prog 31 [.slice a rel.length rel.length] H (NewRc 2 24 (8 * rel.length) H) := by
  refine GCalls.body (N := 133) (rs := [.cell 2 27]) Try.func31 rfl rfl rfl rfl (fun Qx n6 hend => ?_)
  refine .fg [0] rfl ?_
  have a1 := GHeap.Le.refl H
  have g8 := hin
  refine .seq (fun K1 v0 => .region ?_)
  refine .R rfl (.allocR rfl ze_27_Hj rfl) ?_
  rintro _ H2 ⟨g2, rfl, u5, ge2, d3⟩
  replace a1 := a1.trans u5
  have lt_at2 := GHeap.ltg d3
  refine .nil (v0 _ _ (.seq (fun K2 v3 => .region (.mv rfl (.q rfl (.len sl_25_B rfl) (.mv rfl (.nil (v3 _ _ (.seq (fun K3 v4 => .region ?_))))))))))
  refine .R rfl (.litA rfl sl_25_B ze_24_Hj rfl rfl rfl rfl) ?_
  rintro _ H16 ⟨m7, rfl, m4, ge16, b5⟩
  replace a1 := a1.trans m4
  replace d3 := m4.2 _ _ d3
  have lt_at16 := GHeap.ltg b5
  refine .mv rfl (.nil (v4 _ _ (.seq (fun K4 t6 => .region (.mv rfl ?_)))))
  refine .R rfl (.litA rfl sl_24_A ze_2_Pa rfl rfl rfl rfl) ?_
  rintro _ u0 ⟨k6, rfl, k3, ge18, b4⟩
  replace a1 := a1.trans k3
  replace d3 := k3.2 _ _ d3
  replace b5 := k3.2 _ _ b5
  have lt_at18 := GHeap.ltg b4
  replace b4 : GHeap.get u0 k6 = some (.row (ints []) 2 true) := b4
  refine .R rfl (.litA rfl sl_24_A ze_2_Pa rfl rfl rfl rfl) ?_
  rintro _ u9 ⟨k4, rfl, i3, ge19, c7⟩
  replace a1 := a1.trans i3
  replace d3 := i3.2 _ _ d3
  replace b5 := i3.2 _ _ b5
  replace b4 := i3.2 _ _ b4
  have lt_at19 := GHeap.ltg c7
  replace c7 : GHeap.get u9 k4 = some (.row (ints []) 2 true) := c7
  refine .R rfl (.litA rfl sl_24_A ze_2_Pa rfl rfl rfl rfl) ?_
  rintro _ u3 ⟨g7, rfl, h5, ge20, c9⟩
  replace a1 := a1.trans h5
  replace d3 := h5.2 _ _ d3
  replace b5 := h5.2 _ _ b5
  replace b4 := h5.2 _ _ b4
  replace c7 := h5.2 _ _ c7
  have lt_at20 := GHeap.ltg c9
  replace c9 : GHeap.get u3 g7 = some (.row (ints []) 2 true) := c9
  refine .R rfl (.litA rfl sl_25_B ze_24_Hj rfl rfl rfl rfl) ?_
  rintro _ H21 ⟨g4, rfl, g3, ge21, e3⟩
  replace a1 := a1.trans g3
  replace d3 := g3.2 _ _ d3
  replace b5 := g3.2 _ _ b5
  replace b4 := g3.2 _ _ b4
  replace c7 := g3.2 _ _ c7
  replace c9 := g3.2 _ _ c9
  have lt_at21 := GHeap.ltg e3
  refine .q rfl (.build bt_27_Hj rfl rfl rfl) ?_
  refine .R rfl (.allocR rfl ze_27_Hj rfl) ?_
  rintro _ H5 ⟨g5, rfl, j1, ge5, at5⟩
  have nx_H5 := j1.1
  replace a1 := a1.trans j1
  replace d3 := j1.2 _ _ d3
  replace b5 := j1.2 _ _ b5
  replace b4 := j1.2 _ _ b4
  replace c7 := j1.2 _ _ c7
  replace c9 := j1.2 _ _ c9
  replace e3 := j1.2 _ _ e3
  refine .r0 rfl rfl (.fillA rfl sz_27_D rfl rfl rfl rfl) ?_
  rintro _ a3 ⟨rfl, a0, k0⟩
  have nx_H3007 := a0.nx
  replace a1 := a1.st a0 (fun k hk => ⟨by omega, trivial⟩)
  have z : NE g2 g5 := .a
  replace d3 := a0.s d3 z.ne
  replace b5 := a0.s b5
  replace b4 := a0.s b4
  replace c7 := a0.s c7
  have d7 : NE g7 g5 := .a
  replace c9 := a0.s c9 d7.ne
  have b0 : NE g4 g5 := .a
  replace e3 := a0.s e3 b0.ne
  have lt_at3007 := GHeap.ltg k0
  refine .nil (t6 _ _ (.seq (fun K5 t8 => .seq (fun K6 u4 => .region (.mv rfl (.nil (u4 _ _ ?_)))))))
  refine .block ?_
  refine .loopR (σ := Nat × List Int × List Int × List (List Int) × (Nat → Option Addr) × Nat × Nat × Nat × Nat) [(0, some _), (2, some _), (3, some _), (5, some _)] (fun (i, ss, ts, num, rn, g6, i7, gLF, gLT) => [(6, some (.int .i64 (i : Int))), (4, some (.slice (some ⟨g6, 0, none⟩) i7 i7))]) (fun (i, ss, ts, num, rn, g6, i7, gLF, gLT) H' => St [m7, k6, k4, g5] a3 H' ∧ H'.get g6 = some (.row ((slsL rn num)) 24 true) ∧ PL g6 m7 a3.next ∧ i7 = (slsL rn num).length ∧ H'.get gLF = some (.row (ints ss) 2 true) ∧ PL gLF k6 a3.next ∧ H'.get gLT = some (.row (ints ts) 2 true) ∧ PL gLT k4 a3.next ∧ H'.get g5 = some (.row ([.int .i64 (rel.length : Int), .slice (some ⟨gLF, 0, none⟩) ss.length ss.length, .slice (some ⟨gLT, 0, none⟩) ss.length ss.length, .slice (some ⟨g7, 0, none⟩) 0 0, .slice (some ⟨g4, 0, none⟩) 0 0]) 27 true) ∧ g6 ≠ gLF ∧ g6 ≠ gLT ∧ g6 ≠ g5 ∧ gLF ≠ gLT ∧ gLF ≠ g5 ∧ gLT ≠ g5 ∧ (i ≤ rel.length ∧ ss.length ≤ 8 * i ∧ ts.length = ss.length ∧ num.length = i) ∧ Bd 0 (rel.length - 1) ss ∧ Bd 0 (rel.length - 1) ts ∧ Tb 0 (8 * rel.length) rel.length num ∧ OwnL a3.next H' 2 rn num ∧ (∀ j, j < num.length → rn j ≠ some ⟨gLF, 0, none⟩) ∧ ∀ j, j < num.length → rn j ≠ some ⟨gLT, 0, none⟩) (fun (i, ss, ts, num, rn, g6, i7, gLF, gLT) => rel.length - i) ((0, [], [], [], fun _ => none, _, _, k6, k4)) ⟨rfl, rfl, rfl, rfl, trivial⟩ ⟨rfl, rfl, trivial⟩ ?_ ?_
  ·
   refine ⟨.refl _ _, by assumption, ⟨.inl rfl⟩, by rfl, by assumption, ⟨.inl rfl⟩, by assumption, ⟨.inl rfl⟩, by assumption, by omega, by omega, by omega, by omega, by omega, by omega, ?_⟩
   exact ⟨⟨by omega, by simp, rfl, rfl⟩, .nil _ _, .nil _ _, .nil _ _ _, .nil _ _ _ _, fun _ h => by simp at h, fun _ h => by simp at h⟩
  rintro ⟨i, ss, ts, num, rn, g6, i7, gLF, gLT⟩ HL1 ⟨a6, e, h6, ln_L4, m, b9, l, d0, b, j3, i5, f7, ap1_3, i6, j4, hI⟩ KL1 o8
  refine .forget (fr' := [(6, some (.int .i64 (i : Int))), (4, some (.slice (some ⟨g6, 0, none⟩) i7 i7)), (0, some _), (2, some _), (3, some _), (5, some _)]) ⟨rfl, rfl, rfl, rfl, rfl, rfl, trivial⟩ ?_
  have ge_L4 : H.next ≤ g6 := h6.ge (by omega) (by omega)
  have ge_LF : H.next ≤ gLF := b9.ge (by omega) (by omega)
  have ge_LT : H.next ≤ gLT := d0.ge (by omega) (by omega)
  have nx_HL1 := a6.nx
  replace a1 := a1.st a6 (fun k hk => ⟨by omega, by omega, by omega, by omega, trivial⟩)
  have d4 : NE g2 k6 := .a
  have d8 : NE g2 k4 := .a
  replace d3 := a6.same _ _ ⟨(by first | assumption | omega), d4.ne, d8.ne, z.ne, trivial⟩ d3
  have c4 : NE g7 m7 := .a
  have d2 : NE g7 k6 := .a
  have c6 : NE g7 k4 := .a
  replace c9 := a6.same _ _ ⟨c4.ne, d2.ne, c6.ne, d7.ne, trivial⟩ c9
  have c2 : NE g4 m7 := .a
  have c8 : NE g4 k6 := .a
  have c5 : NE g4 k4 := .a
  replace e3 := a6.same _ _ ⟨c2.ne, c8.ne, c5.ne, b0.ne, trivial⟩ e3
  have lt_at_L4 := GHeap.ltg e
  have lt_at_LF := GHeap.ltg m
  have lt_at_LT := GHeap.ltg l
  have a8 := GHeap.ltg b
  obtain ⟨⟨hi, hs8, hts, hnl⟩, hS, hT, hN, hR, j7, k1⟩ := hI
  have hfl : (slsL rn num).length = num.length := length_slsL _ _
  refine .seq (fun K7 v2 => .seq (fun K8 t5 => .region (.mv rfl (.mv rfl (.q rfl (.cmp rfl rfl rfl) (.nil (t5 _ _ ?_)))))))
  refine .cond rfl (fun r4 => ?_) (fun r4 => ?_)
  ·
   simp only [sps] at r4
   have hr1 := hr i (by omega)
   refine .skip ?_
   refine v2 _ _ (.seq (fun K9 u8 => ?_))
   refine .block ?_
   refine .seq (fun K10 n9 => .region ?_)
   refine .R rfl (.litA rfl sl_24_A ze_2_Pa rfl rfl rfl rfl) ?_
   rintro _ m2 ⟨n0, rfl, f2, ge28, j8⟩
   have nx_H28 := f2.1
   replace a1 := a1.trans f2
   replace a6 := a6.le f2
   replace e := f2.2 _ _ e
   replace m := f2.2 _ _ m
   replace l := f2.2 _ _ l
   replace b := f2.2 _ _ b
   have lt_at28 := GHeap.ltg j8
   replace j8 : GHeap.get m2 n0 = some (.row (ints []) 2 true) := j8
   refine .mv rfl (.nil (n9 _ _ (.seq (fun K11 p9 => .seq (fun K12 p5 => .region (.mv rfl (.nil (p5 _ _ ?_))))))))
   refine .block ?_
   refine .loopR (σ := Nat × List Int × List Int × List Int × Nat × Nat × Nat × Nat) [(0, some _), (2, some _), (3, some _), (4, some _), (5, some _), (6, some _)] (fun (j, s2, t2, row, f3, j6, b2, b3) => [(8, some (.int .i64 (j : Int))), (7, some (.slice (some ⟨f3, 0, none⟩) j6 j6))]) (fun (j, s2, t2, row, f3, j6, b2, b3) H' => St [n0, gLF, gLT, g5] m2 H' ∧ H'.get f3 = some (.row (ints row) 2 true) ∧ PL f3 n0 m2.next ∧ j6 = row.length ∧ H'.get b2 = some (.row (ints s2) 2 true) ∧ PL b2 gLF m2.next ∧ H'.get b3 = some (.row (ints t2) 2 true) ∧ PL b3 gLT m2.next ∧ H'.get g5 = some (.row ([.int .i64 (rel.length : Int), .slice (some ⟨b2, 0, none⟩) s2.length s2.length, .slice (some ⟨b3, 0, none⟩) s2.length s2.length, .slice (some ⟨g7, 0, none⟩) 0 0, .slice (some ⟨g4, 0, none⟩) 0 0]) 27 true) ∧ f3 ≠ b2 ∧ f3 ≠ b3 ∧ f3 ≠ g5 ∧ b2 ≠ b3 ∧ b2 ≠ g5 ∧ b3 ≠ g5 ∧ (j ≤ rel.length ∧ s2.length ≤ 8 * i + j ∧ t2.length = s2.length ∧ row.length = j) ∧ Bd 0 (rel.length - 1) s2 ∧ Bd 0 (rel.length - 1) t2 ∧ Bd 0 (8 * rel.length) row ∧ OwnL a3.next H' 2 rn num ∧ (∀ j, j < num.length → rn j ≠ some ⟨f3, 0, none⟩) ∧ (∀ j, j < num.length → rn j ≠ some ⟨b2, 0, none⟩) ∧ ∀ j, j < num.length → rn j ≠ some ⟨b3, 0, none⟩) (fun (j, s2, t2, row, f3, j6, b2, b3) => rel.length - j) ((0, ss, ts, [], _, _, gLF, gLT)) ⟨rfl, rfl, rfl, rfl, rfl, rfl, trivial⟩ ⟨rfl, rfl, trivial⟩ ?_ ?_
   ·
    refine ⟨.refl _ _, by assumption, ⟨.inl rfl⟩, by rfl, by assumption, ⟨.inl rfl⟩, by assumption, ⟨.inl rfl⟩, by assumption, by omega, by omega, by omega, by omega, by omega, by omega, ?_⟩
    exact ⟨⟨by omega, by omega, by omega, rfl⟩, hS, hT, .nil _ _, hR.keep (.of_le (by assumption)), hR.ne (by omega), j7, k1⟩
   rintro ⟨j, s2, t2, row, f3, j6, b2, b3⟩ HL2 ⟨o, e2, g9, l1, n, h0, d, h1, b, k9, m3, l5, l7, m0, j2, hI⟩ KL2 l8
   refine .forget (fr' := [(8, some (.int .i64 (j : Int))), (7, some (.slice (some ⟨f3, 0, none⟩) j6 j6)), (0, some _), (2, some _), (3, some _), (4, some _), (5, some _), (6, some _)]) ⟨rfl, rfl, rfl, rfl, rfl, rfl, rfl, rfl, trivial⟩ ?_
   have ge_L7 : H.next ≤ f3 := g9.ge (by omega) (by omega)
   have nx_HL2 := o.nx
   replace a1 := a1.st o (fun k hk => ⟨by omega, by omega, by omega, by omega, trivial⟩)
   replace a6 := a6.st o (fun k hk ho => by simp only [out, and_true] at ho ⊢ <;> exact ⟨by first | exact ho | exact ho.1 | exact ho.2 | exact ho.2.1 | exact ho.2.2 | exact ho.2.2.1 | exact ho.2.2.2 | omega, by first | exact ho | exact ho.1 | exact ho.2 | exact ho.2.1 | exact ho.2.2 | exact ho.2.2.1 | exact ho.2.2.2 | exact b9.ne (by first | exact ho | exact ho.1 | exact ho.2 | exact ho.2.1 | exact ho.2.2 | exact ho.2.2.1 | exact ho.2.2.2 | omega) (by omega) | omega, by first | exact ho | exact ho.1 | exact ho.2 | exact ho.2.1 | exact ho.2.2 | exact ho.2.2.1 | exact ho.2.2.2 | exact d0.ne (by first | exact ho | exact ho.1 | exact ho.2 | exact ho.2.1 | exact ho.2.2 | exact ho.2.2.1 | exact ho.2.2.2 | omega) (by omega) | omega, by first | exact ho | exact ho.1 | exact ho.2 | exact ho.2.1 | exact ho.2.2 | exact ho.2.2.1 | exact ho.2.2.2 | omega⟩)
   have c3 : NE g6 n0 := .a
   replace e := o.same _ _ ⟨c3.ne, j3, i5, f7, trivial⟩ e
   have lt_at_LF2 := GHeap.ltg n
   have lt_at_LT2 := GHeap.ltg d
   have a8 := GHeap.ltg b
   have rk := St.refl [f3, b2, b3, g5] HL2
   obtain ⟨⟨hj, hs9, hts, hrl⟩, hS, hT, hB, hR, h7, j7, k1⟩ := hI
   refine .seq (fun K13 q2 => .seq (fun K14 r2 => .region (.mv rfl (.mv rfl (.q rfl (.cmp rfl rfl rfl) (.nil (r2 _ _ ?_)))))))
   refine .cond rfl (fun p6 => ?_) (fun p6 => ?_)
   ·
    try simp only [sps] at p6
    refine .skip ?_
    refine q2 _ _ (.seq (fun K15 k7 => ?_))
    refine .block ?_
    refine .seq (fun K16 r8 => .region (.mv rfl (.q rfl (.fieldAddr fo_27_1_B rfl) ?_)))
    refine .q rfl (.load on_24_B rfl (by first | assumption | exact Mem.of_get b 1 _ rfl)) ?_
    refine .q rfl (.len sl_24_A rfl) ?_
    refine .R rfl (.litA rfl sl_24_A ze_2_Pa rfl rfl rfl rfl) ?_
    rintro _ H38 ⟨g38, rfl, f1, ge38, q9⟩
    replace a1 := a1.trans f1
    replace o := o.le f1
    replace rk := rk.le f1
    replace e2 := f1.2 _ _ e2
    replace n := f1.2 _ _ n
    replace d := f1.2 _ _ d
    replace b := f1.2 _ _ b
    have lt_at38 := GHeap.ltg q9
    refine .R rfl (.appendI rfl sl_24_A ze_2_Pa rfl by_2_Pa sl_24_A rfl rfl (by assumption) (by assumption) (by first | omega | (simp <;> omega)) (by omega) (by omega)) ?_
    rintro _ H39 ⟨u6, rfl, g0, ge39, a9⟩
    replace a1 := a1.st g0 (fun k hk => ⟨by omega, trivial⟩)
    replace o := o.sP g0
    replace rk := rk.sP g0
    replace n := g0.same _ _ ⟨(Ne.symm k9), trivial⟩ n
    replace d := g0.same _ _ ⟨(Ne.symm m3), trivial⟩ d
    replace b := g0.same _ _ ⟨(Ne.symm l5), trivial⟩ b
    have lt_at39 := GHeap.ltg a9
    replace hin := g8.mono a1
    refine .mv rfl (.nil (r8 _ _ (.seq (fun K17 q6 => .region ?_))))
    have u1 := hin.2 i (by omega)
    refine .mv rfl (.mv rfl ?_)
    refine .q rfl (.idxN sl_25_B (Intss.sl (by assumption)) rfl rfl (by omega)) ?_
    refine .q rfl (.loadR on_24_B (by assumption) rfl (by omega)) ?_
    refine .mv rfl ?_
    refine .q rfl (.idxN sl_24_A (by assumption) rfl rfl (by omega)) ?_
    refine .q rfl (.loadI on_2_A (by assumption) rfl (by omega)) ?_
    refine .q rfl (.cmp rfl rfl rfl) (.nil (q6 _ _ ?_))
    refine .cond rfl (fun t7 => ?_) (fun t7 => ?_)
    ·
     obtain ⟨s3, m8, s9, o9⟩ : ∃ s3, s3 = s2 ++ [(i : Int)] ∧ s3.length = s2.length + 1 ∧ Bd 0 (rel.length - 1) s3 := ⟨_, rfl, by simp, hS.snoc (by omega) (by omega)⟩
     obtain ⟨t3, p3, v1, r6⟩ : ∃ t3, t3 = t2 ++ [(j : Int)] ∧ t3.length = t2.length + 1 ∧ Bd 0 (rel.length - 1) t3 := ⟨_, rfl, by simp, hT.snoc (by omega) (by omega)⟩
     refine .seq (fun K18 s5 => .region (.q rfl (.fieldAddr fo_27_1_B rfl) ?_))
     refine .q rfl (.load on_24_B rfl (by first | assumption | exact Mem.of_get b 1 _ rfl)) ?_
     refine .mv rfl ?_
     refine .R rfl (.litA rfl sl_24_A ze_2_Pa rfl rfl rfl rfl) ?_
     rintro _ H51 ⟨g51, rfl, f9, ge51, q3⟩
     replace o := o.le f9
     replace rk := rk.le f9
     replace n := f9.2 _ _ n
     replace d := f9.2 _ _ d
     replace b := f9.2 _ _ b
     replace a9 := f9.2 _ _ a9
     have lt_at51 := GHeap.ltg q3
     refine .R rfl (.appendI rfl sl_24_A ze_2_Pa rfl by_2_Pa sl_24_A rfl rfl (by assumption) (by assumption) (by first | omega | (simp <;> omega)) (by omega) (by omega)) ?_
     rintro _ H52 ⟨t0, rfl, h2, ge52, e5⟩
     replace o := o.sQ h2
     replace rk := rk.sQ h2
     replace d := h2.same _ _ ⟨(Ne.symm l7), trivial⟩ d
     replace b := h2.same _ _ ⟨(Ne.symm m0), trivial⟩ b
     replace a9 := h2.s a9
     have lt_at52 := GHeap.ltg e5
     refine .q rfl (.fieldAddr fo_27_1_B rfl) ?_
     refine .r0 rfl rfl (.storeR rfl sz_24_Ch rfl rfl rfl (by assumption) (by first | exact Nat.le_of_ble_eq_true rfl | (simp; done) | (simp <;> omega))) ?_
     rintro _ H13006 ⟨rfl, a2, t⟩
     have nx_H13006 := a2.nx
     replace o := o.sA a2
     replace rk := rk.sA a2
     replace d := a2.same _ _ ⟨j2, trivial⟩ d
     have e1 : NE u6 g5 := .a
     replace a9 := a2.s a9 e1.ne
     have e0 : NE t0 g5 := .a
     replace e5 := a2.s e5 e0.ne
     have lt_at13006 := GHeap.ltg t
     try simp only [Nat.zero_add, List.set_cons_succ, List.set_cons_zero] at t
     refine .nil (s5 _ _ (.region (.q rfl (.fieldAddr fo_27_2_B rfl) ?_)))
     refine .q rfl (.load on_24_B rfl (by first | assumption | exact Mem.of_get t 2 _ rfl)) ?_
     refine .mv rfl ?_
     refine .R rfl (.litA rfl sl_24_A ze_2_Pa rfl rfl rfl rfl) ?_
     rintro _ H57 ⟨g57, rfl, f8, ge57, o7⟩
     replace o := o.le f8
     replace rk := rk.le f8
     replace d := f8.2 _ _ d
     replace a9 := f8.2 _ _ a9
     replace e5 := f8.2 _ _ e5
     replace t := f8.2 _ _ t
     have lt_at57 := GHeap.ltg o7
     refine .R rfl (.appendI rfl sl_24_A ze_2_Pa rfl by_2_Pa sl_24_A rfl rfl (by assumption) (by assumption) (by first | omega | (simp <;> omega)) (by omega) (by omega)) ?_
     rintro _ H58 ⟨t9, rfl, h8, ge58, l2⟩
     replace o := o.sQ h8
     replace rk := rk.sQ h8
     replace a9 := h8.s a9
     replace e5 := h8.s e5
     replace t := h8.same _ _ ⟨(Ne.symm j2), trivial⟩ t
     refine .q rfl (.fieldAddr fo_27_2_B rfl) ?_
     refine .r0 rfl rfl (.storeR rfl sz_24_Ch rfl rfl rfl (by assumption) (by first | exact Nat.le_of_ble_eq_true rfl | (simp; done) | (simp <;> omega))) ?_
     rintro _ H14006 ⟨rfl, a7, i1⟩
     replace o := o.sA a7
     replace rk := rk.sA a7
     replace a9 := a7.s a9 e1.ne
     replace e5 := a7.s e5 e0.ne
     replace l2 := a7.s l2
     try simp only [Nat.zero_add, List.set_cons_succ, List.set_cons_zero] at i1
     refine .nil (k7 _ _ (.region (.mv rfl ?_)))
     refine .q rfl (.add rfl rfl rfl (by omega) (by omega)) ?_
     refine .mv rfl (.nil ?_)
     refine l8 ((j + 1, s3, t3, row ++ [(s2.length : Int)], _, _, t0, t9)) _ _ ?_ ?_ ⟨rfl, rfl, rfl, rfl, rfl, rfl, rfl, rfl, trivial⟩
     ·
      refine ⟨o, by assumption, by exact ⟨.inr (by omega)⟩, by (simp only [List.length_append, List.length_cons, List.length_nil] <;> omega), by (rw [m8]; assumption), by exact ⟨.inr (by omega)⟩, by (rw [p3]; assumption), by exact ⟨.inr (by omega)⟩, by (rw [s9]; assumption), by omega, by omega, by omega, by omega, by omega, by omega, ?_⟩
      have hR' := hR.st rk (.cons h7 (.cons j7 (.cons k1 (.cons (hR.lowNe (by omega)) (.nil _ _)))))
      exact ⟨⟨by omega, by omega, by omega, by simp; omega⟩, o9, r6, hB.snoc (by omega) (by omega), hR', hR.ne (by omega), by first | exact j7 | exact hR.ne (by omega), by first | exact k1 | exact hR.ne (by omega)⟩
     (dsimp only; omega)
    obtain ⟨s3, m8, s9, o9⟩ : ∃ s3, s3 = s2 ∧ s3.length = s2.length ∧ Bd 0 (rel.length - 1) s3 := ⟨_, rfl, by simp, hS⟩
    obtain ⟨t3, p3, v1, r6⟩ : ∃ t3, t3 = t2 ∧ t3.length = t2.length ∧ Bd 0 (rel.length - 1) t3 := ⟨_, rfl, by simp, hT⟩
    refine .skip ?_
    refine k7 _ _ (.region (.mv rfl ?_))
    refine .q rfl (.add rfl rfl rfl (by omega) (by omega)) ?_
    refine .mv rfl (.nil ?_)
    refine l8 ((j + 1, s3, t3, row ++ [(s2.length : Int)], _, _, b2, b3)) _ _ ?_ ?_ ⟨rfl, rfl, rfl, rfl, rfl, rfl, rfl, rfl, trivial⟩
    ·
     refine ⟨o, by assumption, by exact ⟨.inr (by omega)⟩, by (simp only [List.length_append, List.length_cons, List.length_nil] <;> omega), by (rw [m8]; assumption), by assumption, by (rw [p3]; assumption), by assumption, by (rw [m8]; assumption), by omega, by omega, by omega, by assumption, by assumption, by assumption, ?_⟩
     have hR' := hR.st rk (.cons h7 (.cons j7 (.cons k1 (.cons (hR.lowNe (by omega)) (.nil _ _)))))
     exact ⟨⟨by omega, by omega, by omega, by simp; omega⟩, o9, r6, hB.snoc (by omega) (by omega), hR', hR.ne (by omega), by first | exact j7 | exact hR.ne (by omega), by first | exact k1 | exact hR.ne (by omega)⟩
    (dsimp only; omega)
   try simp only [sps] at p6
   refine .exit ?_
   refine p9 _ _ (.region ?_)
   obtain rfl : j = rel.length := by omega
   obtain rfl := l1
   have s6 := e
   refine .mv rfl (.mv rfl ?_)
   refine .R rfl (.litA rfl sl_25_B ze_24_Hj rfl rfl rfl rfl) ?_
   rintro _ H62 ⟨g62, rfl, f0, ge62, p2⟩
   replace a6 := a6.le f0
   replace e := f0.2 _ _ e
   replace e2 := f0.2 _ _ e2
   replace n := f0.2 _ _ n
   replace d := f0.2 _ _ d
   replace b := f0.2 _ _ b
   have lt_at62 := GHeap.ltg p2
   refine .R rfl (.appendV rfl sl_25_B ze_24_Hj rfl by_24_Hj sl_25_B rfl rfl (by assumption) (by assumption) (by first | omega | (simp <;> omega)) rfl rfl (by omega) (by omega)) ?_
   rintro _ H63 ⟨g63, rfl, g1, ge63, at63⟩
   replace a6 := a6.sP g1
   replace e2 := g1.same _ _ ⟨(Ne.symm (g9.ne c3.ne (by omega))), trivial⟩ e2
   replace n := g1.same _ _ ⟨(Ne.symm (h0.ne j3 (by omega))), trivial⟩ n
   replace d := g1.same _ _ ⟨(Ne.symm (h1.ne i5 (by omega))), trivial⟩ d
   replace b := g1.same _ _ ⟨(Ne.symm f7), trivial⟩ b
   refine .mv rfl (.nil (u8 _ _ (.region (.mv rfl ?_))))
   refine .q rfl (.add rfl rfl rfl (by omega) (by omega)) ?_
   refine .mv rfl (.nil ?_)
   refine o8 ((i + 1, s2, t2, num ++ [row], upd rn num.length (some ⟨f3, 0, none⟩), _, _, b2, b3)) _ _ ?_ ?_ ⟨rfl, rfl, rfl, rfl, rfl, rfl, trivial⟩
   ·
    refine ⟨a6, by (rw [slsL_snoc]; assumption), by exact ⟨.inr (by omega)⟩, by (rw [slsL_snoc] <;> (first | omega | (simp only [List.length_append, List.length_cons, List.length_nil] <;> omega))), by assumption, by exact h0.trans b9 (by omega), by assumption, by exact h1.trans d0 (by omega), by assumption, by omega, by omega, by omega, by assumption, by assumption, by assumption, ?_⟩
    have hR' := (hR.keep (.of_le f0)).st g1 (.cons (hR.neT s6 rfl) (.nil _ _))
    exact ⟨⟨by omega, by omega, by omega, by simp; omega⟩, hS, hT, hN.snoc (by omega) hB, hR'.snoc2 (by assumption) h7 (g9.ge (by omega) (by omega)), ne_snoc j7 (by omega), ne_snoc k1 (by omega)⟩
   (dsimp only; omega)
  try simp only [sps] at r4
  refine .exit ?_
  refine t8 _ _ (.seq (fun K19 s0 => .seq (fun K20 q8 => .region ?_)))
  obtain rfl : i = rel.length := by omega
  refine .mv rfl (.nil (q8 _ _ ?_))
  refine .block ?_
  refine .loopR (σ := Nat × List Int × Nat) [(2, some _), (3, some _), (4, some _), (5, some _)] (fun (x, is, gLI) => [(9, some (.int .i64 (x : Int)))]) (fun (x, is, gLI) H' => St [g7, g5] HL1 H' ∧ H'.get gLI = some (.row (ints is) 2 true) ∧ PL gLI g7 HL1.next ∧ H'.get g5 = some (.row ([.int .i64 (rel.length : Int), .slice (some ⟨gLF, 0, none⟩) ss.length ss.length, .slice (some ⟨gLT, 0, none⟩) ss.length ss.length, .slice (some ⟨gLI, 0, none⟩) x x, .slice (some ⟨g4, 0, none⟩) 0 0]) 27 true) ∧ gLI ≠ g5 ∧ (x ≤ rel.length ∧ is.length = x) ∧ Bd 0 (8 * rel.length) is ∧ OwnL a3.next H' 2 rn num ∧ ∀ j, j < num.length → rn j ≠ some ⟨gLI, 0, none⟩) (fun (x, is, gLI) => rel.length - x) ((0, [], g7)) ⟨rfl, rfl, rfl, rfl, trivial⟩ ⟨rfl, trivial⟩ ?_ ?_
  ·
   refine ⟨.refl _ _, by assumption, ⟨.inl rfl⟩, by assumption, by omega, ?_⟩
   exact ⟨⟨by omega, rfl⟩, .nil _ _, hR, hR.lowNe (by omega)⟩
  rintro ⟨x, is, gLI⟩ HL3 ⟨a5, b6, e9, b, j5, hI⟩ KL3 o1
  refine .forget (fr' := [(9, some (.int .i64 (x : Int))), (2, some _), (3, some _), (4, some _), (5, some _)]) ⟨rfl, rfl, rfl, rfl, rfl, trivial⟩ ?_
  have ge_LI : H.next ≤ gLI := e9.ge (by omega) (by omega)
  have nx_HL3 := a5.nx
  replace a1 := a1.st a5 (fun k hk => ⟨by omega, by omega, trivial⟩)
  have d5 : NE g2 g7 := .a
  replace d3 := a5.same _ _ ⟨d5.ne, z.ne, trivial⟩ d3
  have b8 : NE g4 g7 := .a
  replace e3 := a5.same _ _ ⟨b8.ne, b0.ne, trivial⟩ e3
  replace e := a5.same _ _ ⟨(Ne.symm (h6.ne c4.ne (by omega))), f7, trivial⟩ e
  replace m := a5.same _ _ ⟨(Ne.symm (b9.ne d2.ne (by omega))), i6, trivial⟩ m
  replace l := a5.same _ _ ⟨(Ne.symm (d0.ne c6.ne (by omega))), j4, trivial⟩ l
  have lt_at_LI := GHeap.ltg b6
  have a8 := GHeap.ltg b
  have rk := St.refl [gLI, g5] HL3
  obtain ⟨⟨hx, hxl⟩, s8, hR, m9⟩ := hI
  refine .seq (fun K21 n5 => .seq (fun K22 o6 => .region (.mv rfl (.mv rfl (.q rfl (.cmp rfl rfl rfl) (.nil (o6 _ _ ?_)))))))
  refine .cond rfl (fun q7 => ?_) (fun q7 => ?_)
  ·
   simp only [sps] at q7
   have n1 := hN.at (i := x) (j := x) (by omega) (by omega)
   have n2 := (hN x (by omega)).1
   refine .skip ?_
   refine n5 _ _ (.seq (fun K23 o3 => ?_))
   refine .block ?_
   refine .regionD mo_B (.q 0 (.q 1 (.q 2 (.q 3 (.q 4 (.q 5 (.q 6 (.q 7 (.q 8 (.c 9 1 (.c 10 0 (.q 11 (.c 12 0 (.done)))))))))))))) (by kernel_rfl) ?_
   have iN := (hR.low (b' := H.next) (by omega)).intss e (by omega)
   have u1 := iN.2 x (by omega)
   refine .q rfl (.fieldAddr fo_27_3_B rfl) ?_
   refine .q rfl (.load on_24_B rfl (by first | assumption | exact Mem.of_get b 3 _ rfl)) ?_
   refine .mv rfl rfl (.mv rfl rfl ?_)
   refine .q rfl (.idxN sl_25_B (by first | exact (Intss.sl (by assumption)) | exact SlA.of_row e (by first | rfl | (simp; done) | (simp <;> omega))) rfl rfl (by omega)) ?_
   refine .q rfl (.loadR on_24_B (by assumption) rfl (by omega)) ?_
   refine .mv rfl rfl ?_
   refine .q rfl (.idxN sl_24_A (by assumption) rfl rfl (by omega)) ?_
   refine .q rfl (.loadI on_2_A (by assumption) rfl (by omega)) ?_
   refine .c1 rfl rfl rfl rfl (.litA rfl sl_24_A ze_2_Pa rfl rfl rfl rfl) ?_
   rintro _ H78 ⟨g78, rfl, h4, ge78, p1⟩
   have t4 := h4
   refine ⟨t4, ?_⟩
   replace a5 := a5.le h4
   replace rk := rk.le h4
   replace b6 := h4.2 _ _ b6
   replace b := h4.2 _ _ b
   have lt_at78 := GHeap.ltg p1
   refine .c0 rfl rfl rfl rfl (.appendI rfl sl_24_A ze_2_Pa rfl by_2_Pa sl_24_A rfl rfl (by assumption) (by assumption) (by first | omega | (simp <;> omega)) (by omega) (by omega)) ?_
   rintro _ H79 ⟨u7, rfl, j9, ge79, m5⟩
   replace a5 := a5.sP j9
   replace rk := rk.sP j9
   replace b := j9.same _ _ ⟨(Ne.symm j5), trivial⟩ b
   refine .q rfl (.fieldAddr fo_27_3_B rfl) ?_
   refine .r0 rfl rfl rfl (.storeR rfl sz_24_Ch rfl rfl rfl (by assumption) (by first | exact Nat.le_of_ble_eq_true rfl | (simp; done) | (simp <;> omega))) ?_
   rintro _ H19012 ⟨rfl, e4, i0⟩
   replace a5 := a5.sA e4
   replace rk := rk.sA e4
   replace m5 := e4.s m5
   try simp only [Nat.zero_add, List.set_cons_succ, List.set_cons_zero] at i0
   refine .done ?_
   refine o3 _ _ (.region (.mv rfl ?_))
   refine .q rfl (.add rfl rfl rfl (by omega) (by omega)) ?_
   refine .mv rfl (.nil ?_)
   refine o1 ((x + 1, is ++ [(num.getD x []).getD x 0], u7)) _ _ ?_ ?_ ⟨rfl, rfl, rfl, rfl, rfl, trivial⟩
   ·
    refine ⟨a5, by assumption, by exact ⟨.inr (by omega)⟩, by assumption, by omega, ?_⟩
    exact ⟨⟨by omega, by simp; omega⟩, s8.snoc n1.1 n1.2, hR.st rk (.cons m9 (.cons (hR.lowNe (by omega)) (.nil _ _))), hR.ne (by omega)⟩
   (dsimp only; omega)
  try simp only [sps] at q7
  refine .exit ?_
  refine s0 _ _ (.seq (fun K24 o0 => .seq (fun K25 n7 => .region ?_)))
  obtain rfl : x = rel.length := by omega
  refine .mv rfl (.nil (n7 _ _ ?_))
  refine .block ?_
  refine .loopR (σ := Nat × (Nat → Option Addr) × List (List Int) × Nat) [(2, some _), (4, some _), (5, some _)] (fun (f, rr, cs, gLC) => [(10, some (.int .i64 (f : Int)))]) (fun (f, rr, cs, gLC) H' => St [g4, g5] HL3 H' ∧ H'.get gLC = some (.row ((slsL rr cs)) 24 true) ∧ PL gLC g4 HL3.next ∧ H'.get g5 = some (.row ([.int .i64 (rel.length : Int), .slice (some ⟨gLF, 0, none⟩) ss.length ss.length, .slice (some ⟨gLT, 0, none⟩) ss.length ss.length, .slice (some ⟨gLI, 0, none⟩) rel.length rel.length, .slice (some ⟨gLC, 0, none⟩) f f]) 27 true) ∧ gLC ≠ g5 ∧ (f ≤ ss.length ∧ cs.length = f) ∧ Tb (-1) (8 * rel.length) ss.length cs ∧ OwnL a3.next H' 2 rn num ∧ OwnL a3.next H' 2 rr cs ∧ (∀ j, j < cs.length → rr j ≠ some ⟨gLF, 0, none⟩) ∧ (∀ j, j < cs.length → rr j ≠ some ⟨gLT, 0, none⟩) ∧ ∀ j, j < cs.length → rr j ≠ some ⟨gLI, 0, none⟩) (fun (f, rr, cs, gLC) => ss.length - f) ((0, fun _ => none, [], g4)) ⟨rfl, rfl, rfl, trivial⟩ ⟨rfl, trivial⟩ ?_ ?_
  ·
   refine ⟨.refl _ _, by assumption, ⟨.inl rfl⟩, by assumption, by omega, ?_⟩
   exact ⟨⟨by omega, rfl⟩, .nil _ _ _, hR, .nil _ _ _ _, fun _ h => by simp at h, fun _ h => by simp at h, fun _ h => by simp at h⟩
  rintro ⟨f, rr, cs, gLC⟩ HL4 ⟨w, y, i9, b, l3, hI⟩ KL4 s1
  refine .forget (fr' := [(10, some (.int .i64 (f : Int))), (2, some _), (4, some _), (5, some _)]) ⟨rfl, rfl, rfl, rfl, trivial⟩ ?_
  have ge_LC : H.next ≤ gLC := i9.ge (by omega) (by omega)
  have nx_HL4 := w.nx
  replace a1 := a1.st w (fun k hk => ⟨by omega, by omega, trivial⟩)
  have d6 : NE g2 g4 := .a
  replace d3 := w.same _ _ ⟨d6.ne, z.ne, trivial⟩ d3
  replace e := w.same _ _ ⟨(Ne.symm (h6.ne c2.ne (by omega))), f7, trivial⟩ e
  replace m := w.same _ _ ⟨(Ne.symm (b9.ne c8.ne (by omega))), i6, trivial⟩ m
  replace l := w.same _ _ ⟨(Ne.symm (d0.ne c5.ne (by omega))), j4, trivial⟩ l
  replace b6 := w.same _ _ ⟨(Ne.symm (e9.ne b8.ne (by omega))), j5, trivial⟩ b6
  have lt_at_LC := GHeap.ltg y
  have a8 := GHeap.ltg b
  have rk := St.refl [gLC, g5] HL4
  obtain ⟨⟨hf, hcl⟩, hC, hR, hQ, t1, s7, m9⟩ := hI
  have hatC := y
  have hfl : (slsL rr cs).length = cs.length := length_slsL _ _
  refine .seq (fun K26 s4 => .seq (fun K27 p0 => .region (.mv rfl (.q rfl (.fieldAddr fo_27_1_B rfl) ?_))))
  refine .q rfl (.load on_24_B rfl (by first | assumption | exact Mem.of_get b 1 _ rfl)) ?_
  refine .q rfl (.len sl_24_A rfl) (.q rfl (.cmp rfl rfl rfl) (.nil (p0 _ _ ?_)))
  refine .cond rfl (fun r9 => ?_) (fun r9 => ?_)
  ·
   simp only [sps] at r9
   have q1 := hS f (by omega)
   refine .skip ?_
   refine s4 _ _ (.seq (fun K28 o5 => ?_))
   refine .block ?_
   refine .seq (fun K29 n8 => .region ?_)
   refine .R rfl (.litA rfl sl_24_A ze_2_Pa rfl rfl rfl rfl) ?_
   rintro _ o2 ⟨k8, rfl, e8, ge88, k2⟩
   have nx_H88 := e8.1
   replace w := w.le e8
   replace rk := rk.le e8
   replace e := e8.2 _ _ e
   replace m := e8.2 _ _ m
   replace l := e8.2 _ _ l
   replace y := e8.2 _ _ y
   replace b := e8.2 _ _ b
   have lt_at88 := GHeap.ltg k2
   replace k2 : GHeap.get o2 k8 = some (.row (ints []) 2 true) := k2
   refine .mv rfl (.nil (n8 _ _ (.seq (fun K30 r3 => .seq (fun K31 p7 => .region (.mv rfl (.nil (p7 _ _ ?_))))))))
   refine .block ?_
   refine .loopR (σ := Nat × List Int × Nat × Nat) [(2, some _), (4, some _), (5, some _), (10, some _)] (fun (g, row, b1, e7) => [(12, some (.int .i64 (g : Int))), (11, some (.slice (some ⟨b1, 0, none⟩) e7 e7))]) (fun (g, row, b1, e7) H' => St [k8] o2 H' ∧ H'.get b1 = some (.row (ints row) 2 true) ∧ PL b1 k8 o2.next ∧ e7 = row.length ∧ (g ≤ ss.length ∧ row.length = g) ∧ Bd (-1) (8 * rel.length) row) (fun (g, row, b1, e7) => ss.length - g) ((0, [], _, _)) ⟨rfl, rfl, rfl, rfl, trivial⟩ ⟨rfl, rfl, trivial⟩ ?_ ?_
   ·
    refine ⟨.refl _ _, by assumption, ⟨.inl rfl⟩, by rfl, ?_⟩
    exact ⟨⟨by omega, rfl⟩, .nil _ _⟩
   rintro ⟨g, row, b1, e7⟩ HL5 ⟨v, p, a4, k5, hI⟩ KL5 m6
   refine .forget (fr' := [(12, some (.int .i64 (g : Int))), (11, some (.slice (some ⟨b1, 0, none⟩) e7 e7)), (2, some _), (4, some _), (5, some _), (10, some _)]) ⟨rfl, rfl, rfl, rfl, rfl, rfl, trivial⟩ ?_
   have nx_HL5 := v.nx
   replace w := w.sA v
   replace rk := rk.sA v
   replace e := v.s e
   replace m := v.s m
   replace l := v.s l
   have d1 : NE gLC k8 := .a
   replace y := v.s y d1.ne
   have d9 : NE g5 k8 := .a
   replace b := v.s b d9.ne
   obtain ⟨⟨hg, hrl⟩, hB⟩ := hI
   refine .seq (fun K32 q0 => .seq (fun K33 q5 => .region (.mv rfl (.q rfl (.fieldAddr fo_27_1_B rfl) ?_))))
   refine .q rfl (.load on_24_B rfl (by first | assumption | exact Mem.of_get b 1 _ rfl)) ?_
   refine .q rfl (.len sl_24_A rfl) (.q rfl (.cmp rfl rfl rfl) (.nil (q5 _ _ ?_)))
   refine .cond rfl (fun r7 => ?_) (fun r7 => ?_)
   ·
    simp only [sps] at r7
    have q4 := hT g (by omega)
    refine .skip ?_
    refine q0 _ _ (.seq (fun K34 m1 => ?_))
    refine .block ?_
    refine .seq (fun K35 r1 => .region (.mv rfl (.nil (r1 _ _ (.seq (fun K36 l6 => .seq (fun K37 r5 => ?_)))))))
    refine .regionD mo_B (.q 0 (.q 1 (.q 2 (.q 3 (.q 4 (.q 5 (.q 6 (.q 7 (.q 8 (.q 9 (.q 10 (.done)))))))))))) (by kernel_rfl) ?_
    refine .q rfl (.fieldAddr fo_27_2_B rfl) ?_
    refine .q rfl (.load on_24_B rfl (by first | assumption | exact Mem.of_get b 2 _ rfl)) ?_
    refine .mv rfl rfl ?_
    refine .q rfl (.idxN sl_24_A (by first | assumption | exact SlA.of_row l (by first | rfl | (simp; done) | (simp <;> omega))) rfl rfl (by omega)) ?_
    refine .q rfl (.loadI on_2_A (by first | assumption | exact Ints.of_get l) rfl (by omega)) ?_
    refine .q rfl (.fieldAddr fo_27_1_B rfl) ?_
    refine .q rfl (.load on_24_B rfl (by first | assumption | exact Mem.of_get b 1 _ rfl)) ?_
    refine .mv rfl rfl ?_
    refine .q rfl (.idxN sl_24_A (by first | assumption | exact SlA.of_row m (by first | rfl | (simp; done) | (simp <;> omega))) rfl rfl (by omega)) ?_
    refine .q rfl (.loadI on_2_A (by first | assumption | exact Ints.of_get m) rfl (by omega)) ?_
    refine .q rfl (.cmp rfl rfl rfl) ?_
    refine .done ?_
    refine r5 _ _ ?_
    refine .cond rfl (fun n4 => ?_) (fun n4 => ?_)
    ·
     have n1 := hN.at (i := (ss.getD f 0).toNat) (j := (ts.getD g 0).toNat) (by omega) (by omega)
     obtain ⟨h3, o4, n3⟩ : ∃ h3, h3 = (num.getD (ss.getD f 0).toNat []).getD (ts.getD g 0).toNat 0 ∧ -1 ≤ h3 ∧ h3 ≤ 8 * rel.length := ⟨_, rfl, by omega, by omega⟩
     refine .regionD mo_B (.q 0 (.q 1 (.q 2 (.q 3 (.q 4 (.q 5 (.q 6 (.q 7 (.q 8 (.q 9 (.q 10 (.q 11 (.q 12 (.q 13 (.q 14 (.q 15 (.done))))))))))))))))) (by kernel_rfl) ?_
     have hRn := hR.st rk (.cons (hR.neT hatC rfl) (.cons (hR.lowNe (by omega)) (.nil _ _)))
     have iN := (hRn.low (b' := H.next) (by omega)).intss e (by omega)
     have u1 := iN.2 (ss.getD f 0).toNat (by omega)
     have n2 := (hN (ss.getD f 0).toNat (by omega)).1
     refine .mv rfl rfl (.q rfl (.fieldAddr fo_27_1_B rfl) ?_)
     refine .q rfl (.load on_24_B rfl (by first | assumption | exact Mem.of_get b 1 _ rfl)) ?_
     refine .mv rfl rfl ?_
     refine .q rfl (.idxN sl_24_A (by first | assumption | exact SlA.of_row m (by first | rfl | (simp; done) | (simp <;> omega))) rfl rfl (by omega)) ?_
     refine .q rfl (.loadI on_2_A (by first | assumption | exact Ints.of_get m) rfl (by omega)) ?_
     refine .q rfl (.idx1 sl_25_B (by first | exact (Intss.sl (by assumption)) | exact SlA.of_row e (by first | rfl | (simp; done) | (simp <;> omega))) rfl rfl (by omega) (by omega)) ?_
     refine .q rfl (.loadR on_24_B (by assumption) rfl (by omega)) ?_
     refine .q rfl (.fieldAddr fo_27_2_B rfl) ?_
     refine .q rfl (.load on_24_B rfl (by first | assumption | exact Mem.of_get b 2 _ rfl)) ?_
     refine .mv rfl rfl ?_
     refine .q rfl (.idxN sl_24_A (by first | assumption | exact SlA.of_row l (by first | rfl | (simp; done) | (simp <;> omega))) rfl rfl (by omega)) ?_
     refine .q rfl (.loadI on_2_A (by first | assumption | exact Ints.of_get l) rfl (by omega)) ?_
     refine .q rfl (.idx1 sl_24_A (by assumption) rfl rfl (by omega) (by omega)) ?_
     refine .q rfl (.loadI on_2_A (by assumption) rfl (by omega)) ?_
     refine .mv rfl rfl ?_
     refine .done ?_
     refine l6 _ _ (.region (.mv rfl (.mv rfl ?_)))
     refine .R rfl (.litA rfl sl_24_A ze_2_Pa rfl rfl rfl rfl) ?_
     rintro _ H124 ⟨g124, rfl, j0, ge124, l9⟩
     replace v := v.le j0
     replace p := j0.2 _ _ p
     have lt_at124 := GHeap.ltg l9
     refine .R rfl (.appendI rfl sl_24_A ze_2_Pa rfl by_2_Pa sl_24_A rfl rfl (by assumption) (by assumption) (by first | omega | (simp <;> omega)) (by omega) (by omega)) ?_
     rintro _ H125 ⟨g125, rfl, l0, ge125, at125⟩
     replace v := v.sP l0
     refine .mv rfl (.nil (m1 _ _ (.region (.mv rfl ?_))))
     refine .q rfl (.add rfl rfl rfl (by omega) (by omega)) ?_
     refine .mv rfl (.nil ?_)
     refine m6 ((g + 1, row ++ [h3], _, _)) _ _ ?_ ?_ ⟨rfl, rfl, rfl, rfl, rfl, rfl, trivial⟩
     ·
      refine ⟨v, by (rw [o4]; assumption), by exact ⟨.inr (by omega)⟩, by (simp only [List.length_append, List.length_cons, List.length_nil] <;> omega), ?_⟩
      exact ⟨⟨by omega, by simp; omega⟩, hB.snoc (by omega) (by omega)⟩
     (dsimp only; omega)
    obtain ⟨h3, o4, n3⟩ : ∃ h3 : Int, h3 = -1 ∧ -1 ≤ h3 ∧ h3 ≤ 8 * rel.length := ⟨_, rfl, by omega, by omega⟩
    refine .skip ?_
    refine l6 _ _ (.region (.mv rfl (.mv rfl ?_)))
    refine .R rfl (.litA rfl sl_24_A ze_2_Pa rfl rfl rfl rfl) ?_
    rintro _ H124x2 ⟨g124x2, rfl, f6, ge124x2, h9⟩
    replace v := v.le f6
    replace p := f6.2 _ _ p
    have lt_at124x2 := GHeap.ltg h9
    refine .R rfl (.appendI rfl sl_24_A ze_2_Pa rfl by_2_Pa sl_24_A rfl rfl (by assumption) (by assumption) (by first | omega | (simp <;> omega)) (by omega) (by omega)) ?_
    rintro _ H125x2 ⟨g125x2, rfl, i4, ge125x2, at125x2⟩
    replace v := v.sP i4
    refine .mv rfl (.nil (m1 _ _ (.region (.mv rfl ?_))))
    refine .q rfl (.add rfl rfl rfl (by omega) (by omega)) ?_
    refine .mv rfl (.nil ?_)
    refine m6 ((g + 1, row ++ [h3], _, _)) _ _ ?_ ?_ ⟨rfl, rfl, rfl, rfl, rfl, rfl, trivial⟩
    ·
     refine ⟨v, by (rw [o4]; assumption), by exact ⟨.inr (by omega)⟩, by (simp only [List.length_append, List.length_cons, List.length_nil] <;> omega), ?_⟩
     exact ⟨⟨by omega, by simp; omega⟩, hB.snoc (by omega) (by omega)⟩
    (dsimp only; omega)
   try simp only [sps] at r7
   refine .exit ?_
   refine r3 _ _ (.region ?_)
   obtain rfl : g = ss.length := by omega
   obtain rfl := k5
   refine .q rfl (.fieldAddr fo_27_4_B rfl) ?_
   refine .q rfl (.load on_25_B rfl (by first | assumption | exact Mem.of_get b 4 _ rfl)) ?_
   refine .mv rfl ?_
   refine .R rfl (.litA rfl sl_25_B ze_24_Hj rfl rfl rfl rfl) ?_
   rintro _ H129 ⟨g129, rfl, e6, ge129, l4⟩
   replace w := w.le e6
   replace rk := rk.le e6
   replace y := e6.2 _ _ y
   replace b := e6.2 _ _ b
   replace p := e6.2 _ _ p
   have lt_at129 := GHeap.ltg l4
   refine .R rfl (.appendV rfl sl_25_B ze_24_Hj rfl by_24_Hj sl_25_B rfl rfl (by assumption) (by assumption) (by first | omega | (simp <;> omega)) rfl rfl (by omega) (by omega)) ?_
   rintro _ H130 ⟨p8, rfl, f5, ge130, i8⟩
   replace w := w.sP f5
   replace rk := rk.sP f5
   replace b := f5.same _ _ ⟨(Ne.symm l3), trivial⟩ b
   replace p := f5.same _ _ ⟨(Ne.symm (a4.ne d1.ne (by omega))), trivial⟩ p
   refine .q rfl (.fieldAddr fo_27_4_B rfl) ?_
   refine .r0 rfl rfl (.storeR rfl sz_25_Ch rfl rfl rfl (by assumption) (by first | exact Nat.le_of_ble_eq_true rfl | (simp; done) | (simp <;> omega))) ?_
   rintro _ H31006 ⟨rfl, b7, i2⟩
   replace w := w.sA b7
   replace rk := rk.sA b7
   replace p := b7.same _ _ ⟨(Ne.symm (a4.ne d9.ne (by omega))), trivial⟩ p
   replace i8 := b7.s i8
   try simp only [Nat.zero_add, List.set_cons_succ, List.set_cons_zero] at i2
   refine .nil (o5 _ _ (.region (.mv rfl ?_)))
   refine .q rfl (.add rfl rfl rfl (by omega) (by omega)) ?_
   refine .mv rfl (.nil ?_)
   refine s1 ((f + 1, upd rr cs.length (some ⟨b1, 0, none⟩), cs ++ [row], p8)) _ _ ?_ ?_ ⟨rfl, rfl, rfl, rfl, trivial⟩
   ·
    refine ⟨w, by (rw [slsL_snoc]; assumption), by exact ⟨.inr (by omega)⟩, by assumption, by omega, ?_⟩
    have hR' := hR.st rk (.cons (hR.neT hatC rfl) (.cons (hR.lowNe (by omega)) (.nil _ _)))
    have hQ' := hQ.st rk (.cons (hQ.neT hatC rfl) (.cons (hQ.lowNe (by omega)) (.nil _ _)))
    have u2 := hQ.ne (g := b1) (a4.ge (by omega) (by omega))
    have b11 : a3.next ≤ b1 := a4.ge (by omega) (by omega)
    have hx1 : b1 ≠ gLF := a4.ne' (by omega) (by omega)
    have hx2 : b1 ≠ gLT := a4.ne' (by omega) (by omega)
    have hx3 : b1 ≠ gLI := a4.ne' (by omega) (by omega)
    exact ⟨⟨by omega, by simp; omega⟩, hC.snoc (by omega) hB, hR', hQ'.snoc2 (by assumption) u2 (by omega), ne_snoc t1 (by omega), ne_snoc s7 (by omega), ne_snoc m9 (by omega)⟩
   (dsimp only; omega)
  simp only [sps] at r9
  refine .exit ?_
  refine o0 _ _ (.seq (fun K38 p4 => .region ?_))
  refine .q rfl (.loadM ag_27_D rfl ⟨rfl, Mem.of_get b⟩) ?_
  refine .r0 rfl rfl (.fillA rfl sz_27_D rfl rfl rfl rfl) ?_
  rintro _ H32001 ⟨rfl, u, f4⟩
  replace a1 := a1.st u (fun k hk => ⟨by omega, trivial⟩)
  replace m := u.same _ _ ⟨(Ne.symm (b9.ne d4.ne (by omega))), trivial⟩ m
  replace l := u.same _ _ ⟨(Ne.symm (d0.ne d8.ne (by omega))), trivial⟩ l
  replace b6 := u.same _ _ ⟨(Ne.symm (e9.ne d5.ne (by omega))), trivial⟩ b6
  replace y := u.same _ _ ⟨(Ne.symm (i9.ne d6.ne (by omega))), trivial⟩ y
  replace b := u.s b (Ne.symm z.ne)
  have mm32001 : MemN _ _ _ _ _ := ⟨rfl, Mem.of_get f4⟩
  refine .nil (p4 _ _ ?_)
  refine .ret ?_
  refine n6 _ _ ?_
  refine ⟨_, _, _, _, rfl, ag_27_D, (by rfl), (Mem.of_get f4), ?_⟩
  obtain rfl : f = ss.length := by omega
  have hx4 : gLF ≠ gLI := e9.ne (b9.ne' (by omega) (by omega)) (by omega)
  have hx5 : gLT ≠ gLI := e9.ne (d0.ne' (by omega) (by omega)) (by omega)
  exact ⟨⟨rel.length, ss, ts, is, cs⟩, rect_mk (by omega) (by omega) hts (hS.mono (by omega) (by omega)) (hT.mono (by omega) (by omega)) (by omega) s8 (by omega) (hC.mono (by omega) (by omega)), a1, gLF, gLT, gLI, gLC, rr, by simp [Cat.cells, ownP, hts, hxl, hcl], ⟨m, l, b6, y, by omega, by omega, by omega, by omega, by omega, by omega, by omega, (hQ.st u (.cons (hQ.lowNe (by omega)) (.nil _ _))).low (by omega), t1, s7, m9⟩⟩
end Go.Proofs.Ytfanjkbaemhbmaa
